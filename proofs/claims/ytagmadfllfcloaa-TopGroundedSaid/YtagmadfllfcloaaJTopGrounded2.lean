/- Parts of the proof of LawTopGrounded, one behind the other: PCx0 HShelf HRead HTown HTest HAll HKer HHas PCf14 LMem HOn HFirst HKernel HOf HIs HSent HVal HNext HLeast LGr HSpoken HGr. -/
import Derived.Test.YtagmadfllfcloaaProg
import Derived.Below
import Derived.Deep.Draws
import Derived.Deep.AppendLies
import Derived.Maps.AppendAt
import Derived.OwnWalk
import Derived.Laws.BytesArg
import Derived.Laws.MakeOwn
import Derived.Laws.OwnMore
import Derived.Deep.OwnRows
import Derived.Tactics
import Derived.Lib.ConvBytes
import Derived.Laws.Slices
import Derived.WalkKit
import Derived.KernelRfl
import Derived.RowKit3
import Derived.Deep.LoopGhost
import Derived.Deep.QuietTactic
import Derived.BigQuiet
import Derived.WideLaws
import Derived.Deep.DeepCutAuto
import Derived.Deep.CutBlock
import Derived.Deep.RegionHeld3
import Derived.Laws.Rows
import Derived.Lib.AppendStr
import Derived.ArgAppend
import Derived.Laws.IdiomCopy
import Derived.OrdersHeld
import Derived.Laws.BitsLemmas
import Derived.RowKit
import Derived.Shelf.Strings.Builder1
import Derived.Shelf.Strings.Builder2
import Derived.Shelf.Strings.OnBuilder
import Derived.Shelf.Strings.BuilderF
import Derived.Shelf.Strings.Search1
import Derived.Shelf.Strings.Search2
import Derived.Shelf.Strings.Search3
import Derived.Shelf.LaysM
import Derived.Shelf.Strings.Shaped
import Derived.Shelf.Strings.Prefix
import Derived.Shelf.Bits.Mul64
import Derived.Shelf.Strings.Repeat
import Derived.Lib.Hide
import Derived.StillTailTactics
import Derived.Handy
import Derived.Test.YtagmadfllfcloaaJTopGrounded1
section
set_option linter.unusedVariables false
set_option linter.unusedSimpArgs false
namespace Go.Proofs.Ytagmadfllfcloaa.PC
open Go.RowKit Go.Proofs.YtagmadfllfcloaaW.PrintWords Go.Proofs.YtagmadfllfcloaaW.PrintLast Go.Proofs.YtagmadfllfcloaaW.PrintMore
attribute [local go_sem] max2_int min2_int max_two min_two max_three min_three max_four min_four   -- for this text's walks alone
set_option linter.unusedVariables false
set_option linter.unusedSimpArgs false
def errW : Option Int → Value
  | none => .nilIface
  | some c => .iface 0 (.int .i64 c)
theorem errW_none : errW none = .nilIface := rfl
theorem errW_some (c : Int) : errW (some c) = .iface 0 (.int .i64 c) := rfl
theorem info3 : (Try.prog.info? 3).map (fun i => (i.zero, i.size, i.bytes)) = some (some (.int .i64 0), 1, 8) := by kernel_rfl
theorem info9 : (Try.prog.info? 9).map (fun i => (i.zero, i.size, i.bytes)) = some (some (.string ⟨#[]⟩), 1, 16) := by kernel_rfl
/-! #### struct type 41 -/
structure S41 where
  f0 : Int
  f1 : Int
def z41 : S41 := ⟨(0 : Int), (0 : Int)⟩
def k41 : Kd S41 := Kd.iso (Kd.pair (Kd.int .i64) (Kd.int .i64)) (fun x : S41 => (x.f0, x.f1))
theorem k41_open {w : World} {x : S41} {cs : List Value} (h : k41.K w x cs) : cs = [.int .i64 x.f0, .int .i64 x.f1] := by
  obtain ⟨_, _, rfl, rfl, rfl⟩ := h
  exact rfl
theorem k41_mk (w : World) (x : S41)  : k41.K w x [.int .i64 x.f0, .int .i64 x.f1] := ⟨[.int .i64 x.f0], [.int .i64 x.f1], rfl, rfl, rfl⟩
def rd_T41 (xs : List S41) (i : Int) : S41 := xs.getD i.toNat z41
theorem at_T41 {w : World} {A : Option Addr} {n : Nat} {xs : List S41} (h : Kd.C k41 w A n xs) (i : Int) (h0 : 0 ≤ i) (h1 : i < n) : ∃ ad , A = some ad ∧ w.cell? (ad.add (i.toNat * 2)) = some (.int .i64 (rd_T41 xs i).f0) ∧ w.cell? ⟨(ad.add (i.toNat * 2)).block, (ad.add (i.toNat * 2)).off + 1, none⟩ = some (.int .i64 (rd_T41 xs i).f1) := by
  obtain ⟨ad, c, e, _, hK, hc0⟩ := Kd.C_get h z41 i h0 h1
  have hc : ∀ j u, c[j]? = some u → w.cell? (ad.add (i.toNat * 2 + j)) = some u := hc0
  obtain rfl := k41_open hK
  exact ⟨ad, e, hc 0 _ rfl, by rw [← add_field _ _ 1 (by omega)]; exact hc 1 _ rfl⟩
end Go.Proofs.Ytagmadfllfcloaa.PC
end
section
set_option linter.unusedVariables false
set_option linter.unusedSimpArgs false
/- Contracts of the library at this dump (laid by the kit's program). -/
namespace Go.Proofs.Ytagmadfllfcloaa.PC
open Go.Shelf
def sh_lays156_ren : Go.Shelf.Ren := ⟨fun | 156 => 15 | 165 => 28 | 166 => 29 | 169 => 30 | 240 => 42 | 241 => 43 | 276 => 51 | 277 => 52 | n => n, fun | 31 => 25 | 9 => 9 | 3 => 3 | 4 => 4 | 0 => 0 | 20 => 20 | 72 => 72 | 76 => 76 | 70 => 69 | 37 => 70 | 75 => 75 | 127 => 96 | 164 => 106 | 5 => 5 | 80 => 78 | n => n, fun | n => n⟩
theorem sh_lays156 : Go.Proofs.Lays.n156 Try.prog sh_lays156_ren := {
  mixed := by kernel_rfl
  f156 := Try.func15.trans (congrArg some (by kernel_rfl))
  f165 := Try.func28.trans (congrArg some (by kernel_rfl))
  f166 := Try.func29.trans (congrArg some (by kernel_rfl))
  f169 := Try.func30.trans (congrArg some (by kernel_rfl))
  f240 := Try.func42.trans (congrArg some (by kernel_rfl))
  f241 := Try.func43.trans (congrArg some (by kernel_rfl))
  f276 := Try.func51.trans (congrArg some (by kernel_rfl))
  f277 := Try.func52.trans (congrArg some (by kernel_rfl))
  t0 := Try.underlying0
  a0 := Try.isAgg0
  z0 := Try.sizeOf0
  v0 := Try.zeroValue0
  t3 := Try.underlying3
  a3 := Try.isAgg3
  z3 := Try.sizeOf3
  v3 := Try.zeroValue3
  t4 := Try.underlying4
  a4 := Try.isAgg4
  z4 := Try.sizeOf4
  v4 := Try.zeroValue4
  t9 := Try.underlying9
  a9 := Try.isAgg9
  z9 := Try.sizeOf9
  v9 := Try.zeroValue9
  t20 := Try.underlying20
  a20 := Try.isAgg20
  z20 := Try.sizeOf20
  v20 := Try.zeroValue20
  t31 := Try.underlying25
  a31 := Try.isAgg25
  z31 := Try.sizeOf25
  v31 := Try.zeroValue25
  t37 := Try.underlying70
  a37 := Try.isAgg70
  z37 := Try.sizeOf70
  v37 := Try.zeroValue70
  t70 := Try.underlying69
  a70 := Try.isAgg69
  z70 := Try.sizeOf69
  v70 := Try.zeroValue69
  t72 := Try.underlying72
  a72 := Try.isAgg72
  z72 := Try.sizeOf72
  v72 := Try.zeroValue72
  t75 := Try.underlying75
  a75 := Try.isAgg75
  z75 := Try.sizeOf75
  v75 := Try.zeroValue75
  t76 := Try.underlying76
  a76 := Try.isAgg76
  z76 := Try.sizeOf76
  v76 := Try.zeroValue76
  t127 := Try.underlying96
  a127 := Try.isAgg96
  z127 := Try.sizeOf96
  v127 := Try.zeroValue96
  t164 := Try.underlying106
  a164 := Try.isAgg106
  z164 := Try.sizeOf106
  v164 := Try.zeroValue106 }
theorem sh_Builder_Extra_156 : Builder.Extra Try.prog sh_lays156_ren := {
  sizeBuilder := by kernel_rfl
  liesBuilder := by kernel_rfl
  t5 := Try.underlying5
  a5 := Try.isAgg5
  z5 := Try.sizeOf5
  v5 := Try.zeroValue5
  infoByte := by kernel_rfl
  cellsByte := by kernel_rfl
  sizeByte := by kernel_rfl
  neB5 := by decide }
open Go.RowKit in
/-- strings.Join: "Join concatenates the elements of its first argument to create a single string. The separator string sep is placed between elements in the resulting string.": HOWEVER MANY ELEMENTS. Below the heap's end the world is as it was. (LAID: no walk: one application.) -/
theorem sh_strings_Join (bk o c : Nat) (xs : List ByteArray) (sep : ByteArray) (w : World) (hcells : ∀ (j : Nat) x, xs[j]? = some x → w.cell? ⟨bk, o + j, none⟩ = some (.string x)) (hbk : bk < w.heap.size) (hN : xs.length ≤ 140737488355328) (hcap : xs.length ≤ c) (hlen : (Lib.join (xs.map (·.data.toList)) sep.data.toList).length ≤ 140737488355328) :
    Calls Try.prog 15 #[.slice (some ⟨bk, o, none⟩) xs.length c, .string sep] w fun e w' => e = .returned (.string ⟨(Lib.join (xs.map (·.data.toList)) sep.data.toList).toArray⟩) ∧ Below w.heap.size w w' := Any.strings_Join sh_lays156 sh_Builder_Extra_156 bk o c xs sep w hcells hbk hN hcap hlen
def sh_lays144_ren : Go.Shelf.Ren := ⟨fun | 144 => 53 | 143 => 54 | 219 => 55 | 217 => 56 | 225 => 57 | 224 => 58 | 267 => 59 | 266 => 60 | 314 => 61 | n => n, fun | 9 => 9 | 4 => 4 | 3 => 3 | 5 => 5 | 46 => 86 | 146 => 101 | 51 => 100 | n => n, fun | 1 => 0 | n => n⟩
theorem sh_lays144 : Go.Proofs.Lays.n144 Try.prog sh_lays144_ren := {
  mixed := by kernel_rfl
  f143 := Try.func54.trans (congrArg some (by kernel_rfl))
  f144 := Try.func53.trans (congrArg some (by kernel_rfl))
  f217 := Try.func56.trans (congrArg some (by kernel_rfl))
  f219 := Try.func55.trans (congrArg some (by kernel_rfl))
  f224 := Try.func58.trans (congrArg some (by kernel_rfl))
  f225 := Try.func57.trans (congrArg some (by kernel_rfl))
  f266 := Try.func60.trans (congrArg some (by kernel_rfl))
  f267 := Try.func59.trans (congrArg some (by kernel_rfl))
  f314 := Try.func61.trans (congrArg some (by kernel_rfl))
  t3 := Try.underlying3
  a3 := Try.isAgg3
  z3 := Try.sizeOf3
  v3 := Try.zeroValue3
  t4 := Try.underlying4
  a4 := Try.isAgg4
  z4 := Try.sizeOf4
  v4 := Try.zeroValue4
  t5 := Try.underlying5
  a5 := Try.isAgg5
  z5 := Try.sizeOf5
  v5 := Try.zeroValue5
  t9 := Try.underlying9
  a9 := Try.isAgg9
  z9 := Try.sizeOf9
  v9 := Try.zeroValue9
  t46 := Try.underlying86
  a46 := Try.isAgg86
  z46 := Try.sizeOf86
  v46 := Try.zeroValue86
  t51 := Try.underlying100
  a51 := Try.isAgg100
  z51 := Try.sizeOf100
  v51 := Try.zeroValue100
  t146 := Try.underlying101
  a146 := Try.isAgg101
  z146 := Try.sizeOf101
  v146 := Try.zeroValue101
  g1 := by kernel_rfl }
open Go.RowKit Go.Lib in
/-- strings.Contains: "Contains reports whether substr is within s.": AT A substr OF ONE BYTE c: IT RETURNS 'decide (0 ≤ Lib.indexByte s c)'; the world is as it was. (LAID: no walk: one application.) -/
theorem sh_strings_Contains_one (s : ByteArray) (c : UInt8) (w : World) :
    Calls Try.prog 53 #[.string s, .string ⟨#[c]⟩] w fun e w' => e = .returned (.bool (decide (0 ≤ Lib.indexByte s.data.toList c))) ∧ w' = w := Any.strings_Contains_one sh_lays144 s c w
def sh_lays105_ren : Go.Shelf.Ren := ⟨fun | 105 => 20 | 212 => 35 | 99 => 36 | 165 => 28 | 166 => 29 | 170 => 37 | 169 => 30 | 263 => 47 | 264 => 48 | 206 => 49 | 240 => 42 | 241 => 43 | 276 => 51 | 277 => 52 | n => n, fun | 9 => 9 | 3 => 3 | 4 => 4 | 20 => 20 | 0 => 0 | 46 => 86 | 109 => 87 | 5 => 5 | 72 => 72 | 76 => 76 | 51 => 100 | 146 => 101 | 53 => 103 | 148 => 104 | 70 => 69 | 37 => 70 | 75 => 75 | 127 => 96 | 164 => 106 | 80 => 78 | n => n, fun | n => n⟩
theorem sh_lays105 : Go.Proofs.Lays.n105 Try.prog sh_lays105_ren := {
  mixed := by kernel_rfl
  f99 := Try.func36.trans (congrArg some (by kernel_rfl))
  f105 := Try.func20.trans (congrArg some (by kernel_rfl))
  f165 := Try.func28.trans (congrArg some (by kernel_rfl))
  f166 := Try.func29.trans (congrArg some (by kernel_rfl))
  f169 := Try.func30.trans (congrArg some (by kernel_rfl))
  f170 := Try.func37.trans (congrArg some (by kernel_rfl))
  f206 := Try.func49.trans (congrArg some (by kernel_rfl))
  f212 := Try.func35.trans (congrArg some (by kernel_rfl))
  f240 := Try.func42.trans (congrArg some (by kernel_rfl))
  f241 := Try.func43.trans (congrArg some (by kernel_rfl))
  f263 := Try.func47.trans (congrArg some (by kernel_rfl))
  f264 := Try.func48.trans (congrArg some (by kernel_rfl))
  f276 := Try.func51.trans (congrArg some (by kernel_rfl))
  f277 := Try.func52.trans (congrArg some (by kernel_rfl))
  t0 := Try.underlying0
  a0 := Try.isAgg0
  z0 := Try.sizeOf0
  v0 := Try.zeroValue0
  t3 := Try.underlying3
  a3 := Try.isAgg3
  z3 := Try.sizeOf3
  v3 := Try.zeroValue3
  t4 := Try.underlying4
  a4 := Try.isAgg4
  z4 := Try.sizeOf4
  v4 := Try.zeroValue4
  t5 := Try.underlying5
  a5 := Try.isAgg5
  z5 := Try.sizeOf5
  v5 := Try.zeroValue5
  t9 := Try.underlying9
  a9 := Try.isAgg9
  z9 := Try.sizeOf9
  v9 := Try.zeroValue9
  t20 := Try.underlying20
  a20 := Try.isAgg20
  z20 := Try.sizeOf20
  v20 := Try.zeroValue20
  t37 := Try.underlying70
  a37 := Try.isAgg70
  z37 := Try.sizeOf70
  v37 := Try.zeroValue70
  t46 := Try.underlying86
  a46 := Try.isAgg86
  z46 := Try.sizeOf86
  v46 := Try.zeroValue86
  t51 := Try.underlying100
  a51 := Try.isAgg100
  z51 := Try.sizeOf100
  v51 := Try.zeroValue100
  t53 := Try.underlying103
  a53 := Try.isAgg103
  z53 := Try.sizeOf103
  v53 := Try.zeroValue103
  t70 := Try.underlying69
  a70 := Try.isAgg69
  z70 := Try.sizeOf69
  v70 := Try.zeroValue69
  t72 := Try.underlying72
  a72 := Try.isAgg72
  z72 := Try.sizeOf72
  v72 := Try.zeroValue72
  t75 := Try.underlying75
  a75 := Try.isAgg75
  z75 := Try.sizeOf75
  v75 := Try.zeroValue75
  t76 := Try.underlying76
  a76 := Try.isAgg76
  z76 := Try.sizeOf76
  v76 := Try.zeroValue76
  t109 := Try.underlying87
  a109 := Try.isAgg87
  z109 := Try.sizeOf87
  v109 := Try.zeroValue87
  t127 := Try.underlying96
  a127 := Try.isAgg96
  z127 := Try.sizeOf96
  v127 := Try.zeroValue96
  t146 := Try.underlying101
  a146 := Try.isAgg101
  z146 := Try.sizeOf101
  v146 := Try.zeroValue101
  t148 := Try.underlying104
  a148 := Try.isAgg104
  z148 := Try.sizeOf104
  v148 := Try.zeroValue104
  t164 := Try.underlying106
  a164 := Try.isAgg106
  z164 := Try.sizeOf106
  v164 := Try.zeroValue106 }
theorem sh_Builder_Extra_105 : Builder.Extra Try.prog sh_lays105_ren := {
  sizeBuilder := by kernel_rfl
  liesBuilder := by kernel_rfl
  t5 := Try.underlying5
  a5 := Try.isAgg5
  z5 := Try.sizeOf5
  v5 := Try.zeroValue5
  infoByte := by kernel_rfl
  cellsByte := by kernel_rfl
  sizeByte := by kernel_rfl
  neB5 := by decide }
open Go.RowKit Go.Lib in
/-- **strings.Repeat: count ≥ 0, the result within one allocation: count copies of s.** (LAID: no walk: one application.) -/
theorem sh_strings_Repeat (s : ByteArray) (c : Nat) (w : World) (hc : c ≤ 9223372036854775807) (hlen : s.size * c ≤ 140737488355328) :
    Calls Try.prog 20 #[.string s, .int .i64 c] w fun e w' => e = .returned (.string ⟨(Lib.repeatL s.data.toList c).toArray⟩) ∧ Below w.heap.size w w' := Any.strings_Repeat sh_lays105 sh_Builder_Extra_105 s c w hc hlen
end Go.Proofs.Ytagmadfllfcloaa.PC
end
section
set_option linter.unusedVariables false
set_option linter.unusedSimpArgs false
/- truth.read on the sentences of a town: the walk. -/
namespace Go.Proofs.Ytagmadfllfcloaa.PC
open Go.RowKit Go.Proofs.YtagmadfllfcloaaW.PrintWords Go.Proofs.YtagmadfllfcloaaW.PrintLast Go.Proofs.YtagmadfllfcloaaW.PrintMore
set_option linter.unusedVariables false
set_option linter.unusedSimpArgs false
theorem wI {a : Nat} (h : a ≤ 1000000) : wrap64 ((a : Int) + 1) = ((a + 1 : Nat) : Int) := by unfold wrap64; omega
theorem vI {a : Nat} (h : a ≤ 1000000) : Value.int .i64 (wrap64 ((a : Int) + 1)) = Value.int .i64 ((a + 1 : Nat) : Int) := congrArg _ (wI h)
theorem mstepA {m a : Nat} (h : a < m) (hm : m ≤ 1000) : m - (intOf (Value.int .i64 (wrap64 ((a : Int) + 1)))).toNat < m - (intOf (Value.int .i64 (a : Int))).toNat := by
  rw [wI (by omega)]; simp only [intOf]; omega
theorem wD {a : Nat} (h : a ≤ 1000000) : wrap64 ((a : Int) - 1) = (a : Int) - 1 := by unfold wrap64; omega
/-- The sentence of a list of people: none of them. -/
def combS : List Nat → List UInt8
  | [] => [49]
  | [x] => [33, UInt8.ofNat (97 + x)]
  | x :: y :: r => 40 :: 33 :: UInt8.ofNat (97 + x) :: 38 :: (combS (y :: r) ++ [41])
/-- The value of a letter that is denied. -/
def notV (x : Nat) : Value := .iface 112 (.agg #[.iface 110 (.int .i64 (x : Int))])
/-- Its formula, as a value. -/
def combV : List Nat → Value
  | [] => .iface 109 (.int .u8 49)
  | [x] => notV x
  | x :: y :: r => .iface 114 (.agg #[notV x, combV (y :: r), .int .u8 38])
theorem ba_head0 (c : UInt8) (rest : List UInt8) (h) : ({ data := (c :: rest).toArray } : ByteArray)[0]'h = c := rfl
theorem ba_tail (c : UInt8) (rest : List UInt8) (k : Nat) (h : k = rest.length + 1) : ({ data := (c :: rest).toArray } : ByteArray).extract 1 k = { data := rest.toArray } := by
  subst h
  apply ByteArray.ext
  simp
theorem ba_first (c : UInt8) (rest : List UInt8) : ({ data := (c :: rest).toArray } : ByteArray).extract 0 1 = { data := #[c] } := by
  apply ByteArray.ext
  simp
theorem u48 : (48 : UInt8).toNat = 48 := rfl
theorem u49 : (49 : UInt8).toNat = 49 := rfl
theorem u40 : (40 : UInt8).toNat = 40 := rfl
theorem u41 : (41 : UInt8).toNat = 41 := rfl
theorem u33 : (33 : UInt8).toNat = 33 := rfl
theorem u38 : (38 : UInt8).toNat = 38 := rfl
attribute [local go_sem] ba_head0 ba_tail ba_first u48 u49 u40 u41 u33 u38
set_option maxHeartbeats 1000000 in
theorem read_one (rest : List UInt8) (n : Nat) (w : World) :
    Calls Try.prog 46 #[.string ⟨(49 :: rest).toArray⟩, .int .i64 (n : Int)] w fun e w' => e = .returned (.tuple #[.iface 109 (.int .u8 49), .string ⟨rest.toArray⟩]) ∧ ∃ m, w' = w.drewN m := by
  go_enter Try.func46, Try.ntmps46
  go_wp2
  go_quiet (fail)
  go_wp2
  go_ret2
  exact ⟨rfl, _, rfl⟩
theorem letter_facts (x n : Nat) (hx : x < n) (hn : n ≤ 10) : ∃ c : UInt8, c = UInt8.ofNat (97 + x) ∧ (c.toNat : Int) = 97 + (x : Int) := by
  refine ⟨_, rfl, ?_⟩
  rw [UInt8.toNat_ofNat']
  omega
set_option maxHeartbeats 1000000 in
theorem read_letter (x n : Nat) (hx : x < n) (hn : n ≤ 10) (rest : List UInt8) (w : World) :
    Calls Try.prog 46 #[.string ⟨(UInt8.ofNat (97 + x) :: rest).toArray⟩, .int .i64 (n : Int)] w fun e w' => e = .returned (.tuple #[.iface 110 (.int .i64 (x : Int)), .string ⟨rest.toArray⟩]) ∧ ∃ m, w' = w.drewN m := by
  obtain ⟨c, hc, hq⟩ := letter_facts x n hx hn
  rw [← hc]
  have e1 : ((c.toNat : Int) == 48) = false := by rw [hq]; exact beq_eq_false_iff_ne.2 (by omega)
  have e2 : ((c.toNat : Int) == 49) = false := by rw [hq]; exact beq_eq_false_iff_ne.2 (by omega)
  have e3 : decide ((97 : Int) ≤ (c.toNat : Int)) = true := by rw [hq]; exact decide_eq_true (by omega)
  have e4 : IntKind.u8.wrap ((c.toNat : Int) - 97) = (x : Int) := by rw [hq, IntKind.wrap_u8]; omega
  have e6 : wrap64 (x : Int) = (x : Int) := by unfold wrap64; omega
  have e5 : decide ((x : Int) < (n : Int)) = true := decide_eq_true (by omega)
  have e7 : (x < n) = True := eq_true hx
  clear hc hq hx hn
  go_enter Try.func46, Try.ntmps46
  go_wp2
  go_quiet (fail)
  go_wp2
  go_ret2
  exact ⟨rfl, _, rfl⟩
set_option maxHeartbeats 1000000 in
theorem read_not (x n : Nat) (hx : x < n) (hn : n ≤ 10) (rest : List UInt8) (w : World) :
    Calls Try.prog 46 #[.string ⟨(33 :: UInt8.ofNat (97 + x) :: rest).toArray⟩, .int .i64 (n : Int)] w fun e w' => e = .returned (.tuple #[notV x, .string ⟨rest.toArray⟩]) ∧ ∃ m, w' = w.drewN m := by
  have HL := Lib.hid (read_letter x n hx hn rest)
  obtain ⟨c, hc⟩ : ∃ c, UInt8.ofNat (97 + x) = c := ⟨_, rfl⟩
  rw [hc] at HL ⊢
  clear hc hx hn
  go_enter Try.func46, Try.ntmps46
  go_wp2
  go_quiet (fail)
  go_wp2_with (go_at_call 46; refine (HL.out _).mono ?_; rintro e wa ⟨rfl, ⟨m, rfl⟩⟩)
  go_ret2
  exact ⟨rfl, _, rfl⟩
set_option maxHeartbeats 2000000 in
set_option maxRecDepth 100000 in
theorem read_pair (x n : Nat) (hx : x < n) (hn : n ≤ 10) (mid rest : List UInt8) (T : TypeId) (X : Value) (w : World)
    (hm : ∀ w, Calls Try.prog 46 #[.string ⟨(mid ++ 41 :: rest).toArray⟩, .int .i64 (n : Int)] w fun e w' => e = .returned (.tuple #[.iface T X, .string ⟨(41 :: rest).toArray⟩]) ∧ ∃ m, w' = w.drewN m) :
    Calls Try.prog 46 #[.string ⟨(40 :: 33 :: UInt8.ofNat (97 + x) :: 38 :: (mid ++ 41 :: rest)).toArray⟩, .int .i64 (n : Int)] w fun e w' => e = .returned (.tuple #[.iface 114 (.agg #[notV x, .iface T X, .int .u8 38]), .string ⟨rest.toArray⟩]) ∧ ∃ m, w' = w.drewN m := by
  have HL := Lib.hid (read_not x n hx hn (38 :: (mid ++ 41 :: rest)))
  have HM := Lib.hid hm
  obtain ⟨c, hc⟩ : ∃ c, UInt8.ofNat (97 + x) = c := ⟨_, rfl⟩
  obtain ⟨l, hl⟩ : ∃ l, mid ++ 41 :: rest = l := ⟨_, rfl⟩
  rw [hc, hl] at HL
  rw [hl] at HM
  rw [hc, hl]
  unfold notV at HL ⊢
  clear hc hl hx hn hm
  go_enter Try.func46, Try.ntmps46
  go_wp2
  go_quiet (fail)
  go_wp2_with (fail)
  refine (HL.out _).mono ?_; rintro e wa ⟨rfl, ⟨m, rfl⟩⟩
  go_wp2_with (fail)
  have hcon : decide (0 ≤ Lib.indexByte (ByteArray.mk #[38, 124, 61]).data.toList 38) = true := by decide
  refine (sh_strings_Contains_one ⟨#[38, 124, 61]⟩ 38 _).mono ?_; rintro e wa ⟨rfl, rfl⟩; rw [hcon]
  go_wp2_with (fail)
  refine (HM.out _).mono ?_; rintro e wa ⟨rfl, ⟨m2, rfl⟩⟩
  go_wp2_with (fail)
  go_quiet (fail)
  go_wp2
  go_ret2
  exact ⟨rfl, _, World.drewN_drewN ..⟩
/-- It is an interface value that is not nil. -/
theorem combV_if : ∀ m, ∃ T X, combV m = .iface T X
  | [] => ⟨_, _, rfl⟩
  | [_] => ⟨_, _, rfl⟩
  | _ :: _ :: _ => ⟨_, _, rfl⟩
theorem read_comb (n : Nat) (hn : n ≤ 10) : ∀ (m : List Nat) (hm : ∀ x ∈ m, x < n) (rest : List UInt8) (w : World),
    Calls Try.prog 46 #[.string ⟨(combS m ++ rest).toArray⟩, .int .i64 (n : Int)] w fun e w' => e = .returned (.tuple #[combV m, .string ⟨rest.toArray⟩]) ∧ ∃ m, w' = w.drewN m
  | [], _, rest, w => read_one rest n w
  | [x], hm, rest, w => read_not x n (hm x (by simp)) hn rest w
  | x :: y :: r, hm, rest, w => by
    obtain ⟨T, X, hV⟩ := combV_if (y :: r)
    have ih := read_comb n hn (y :: r) (fun z hz => hm z (List.mem_cons_of_mem _ hz)) (41 :: rest)
    rw [hV] at ih
    have h := read_pair x n (hm x (by simp)) hn (combS (y :: r)) rest T X w ih
    have e : combS (x :: y :: r) ++ rest = 40 :: 33 :: UInt8.ofNat (97 + x) :: 38 :: (combS (y :: r) ++ 41 :: rest) := by
      simp only [combS, List.cons_append, List.append_assoc, List.nil_append]
    rw [e]
    show Calls _ _ _ _ fun e w' => e = .returned (.tuple #[.iface 114 (.agg #[notV x, combV (y :: r), .int .u8 38]), .string ⟨rest.toArray⟩]) ∧ ∃ m, w' = w.drewN m
    rw [hV]
    exact h
end Go.Proofs.Ytagmadfllfcloaa.PC
end
section
set_option linter.unusedVariables false
set_option linter.unusedSimpArgs false
/- shave.of: the walk. -/
namespace Go.Proofs.Ytagmadfllfcloaa.PC
open Go.RowKit Go.Proofs.YtagmadfllfcloaaW.PrintWords Go.Proofs.YtagmadfllfcloaaW.PrintLast Go.Proofs.YtagmadfllfcloaaW.PrintMore
set_option linter.unusedVariables false
set_option linter.unusedSimpArgs false
/-- The cells of a town. -/
def townC (n : Int) (o : List Nat) : List Value := .int .i64 n :: o.map (fun x : Nat => Value.int .i64 (x : Int))
/-- A town, as a value. -/
def townV (n : Int) (o : List Nat) : Value := .agg (townC n o).toArray
/-- An arc lies within the town. -/
def inT (n : Int) (p : S41) : Bool := decide (0 ≤ p.f0 ∧ p.f0 < n ∧ 0 ≤ p.f1 ∧ p.f1 < n)
/-- The errors of a town. -/
def townE (n : Int) (l : List S41) : Int := if n < 1 ∨ 12 < n then 2 else if 80 < l.length then 3 else if l.all (inT n) then 0 else 2
/-- One arc more. -/
def arcO (o : List Nat) (p : S41) : List Nat := o.set p.f0.toNat (o.getD p.f0.toNat 0 ||| 2 ^ p.f1.toNat)
/-- Who can shave each person, as bits. -/
def townO (l : List S41) : List Nat := l.foldl arcO (List.replicate 12 0)
theorem alloc2_new (w : World) (Z X : Obj) : ((w.alloc Z).alloc X).heap[w.heap.size + 1]? = some X := by
  show ((w.heap.push Z).push X)[w.heap.size + 1]? = some X
  rw [show w.heap.size + 1 = (w.heap.push Z).size by simp]
  exact Array.getElem?_push_size
theorem alloc2_old (w : World) (Z X : Obj) : ((w.alloc Z).alloc X).heap[w.heap.size]? = some Z := by
  show ((w.heap.push Z).push X)[w.heap.size]? = some Z
  simp [Array.getElem?_push]
/-- What shave.of hands back. -/
def OfPost (n : Int) (l : List S41) (T : Value) (E : Int) : Prop := E = townE n l ∧ ∃ n' o', o'.length = 12 ∧ T = townV n' o' ∧ (E = 0 → n' = n ∧ o' = townO l)
theorem len12 {o : List Nat} (h : o.length = 12) : ∃ a0 a1 a2 a3 a4 a5 a6 a7 a8 a9 a10 a11, o = [a0, a1, a2, a3, a4, a5, a6, a7, a8, a9, a10, a11] := by
  match o, h with
  | [a0, a1, a2, a3, a4, a5, a6, a7, a8, a9, a10, a11], _ => exact ⟨_, _, _, _, _, _, _, _, _, _, _, _, rfl⟩
/-- A town lies in a block of its own. -/
def TownAt (W : World) (g : Nat) (n : Int) (o : List Nat) : Prop := W.heap[g]? = some (.cells (townC n o).toArray 44 (0, 0))
theorem TownAt.zero {W : World} {g : Nat} {n : Int} {o : List Nat} (h : TownAt W g n o) : W.cell? ⟨g, 0, none⟩ = some (.int .i64 n) := by
  unfold TownAt at h
  simp [World.cell?, h, townC]
theorem TownAt.at {W : World} {g : Nat} {n : Int} {o : List Nat} (h : TownAt W g n o) (j : Nat) (hj : j < o.length) : W.cell? ⟨g, 1 + j, none⟩ = some (.int .i64 ((o.getD j 0 : Nat) : Int)) := by
  unfold TownAt at h
  simp [World.cell?, h, townC, List.getD_eq_getElem?_getD, hj, Nat.add_comm 1 j]
theorem TownAt.free {W : World} {g : Nat} {n : Int} {o : List Nat} (h : TownAt W g n o) (j : Nat) : W.frozen? ⟨g, j, none⟩ = false := by
  unfold TownAt at h
  simp [World.frozen?, h]
theorem TownAt.lt {W : World} {g : Nat} {n : Int} {o : List Nat} (h : TownAt W g n o) : g < W.heap.size := World.block_lt_of_cell? W _ h.zero
theorem TownAt.below {W W' : World} {g : Nat} {n : Int} {o : List Nat} (h : TownAt W g n o) (hb : Below W.heap.size W W') : TownAt W' g n o := (hb.block g h.lt).trans h
theorem TownAt.alloc {W : World} {g : Nat} {n : Int} {o : List Nat} (h : TownAt W g n o) (x : Obj) : TownAt (W.alloc x) g n o := h.below ((Below.refl _ _).alloc (Nat.le_refl _) x)
theorem TownAt.drewN {W : World} {g : Nat} {n : Int} {o : List Nat} (h : TownAt W g n o) (m : Nat) : TownAt (W.drewN m) g n o := h
theorem TownAt.drew {W : World} {g : Nat} {n : Int} {o : List Nat} (h : TownAt W g n o) : TownAt W.drew g n o := h
theorem TownAt.set {W : World} {g : Nat} {n : Int} {o : List Nat} (h : TownAt W g n o) (j : Nat) (hj : j < o.length) (x : Nat) : TownAt (W.setCell ⟨g, 1 + j, none⟩ (.int .i64 (x : Int))) g n (o.set j x) := by
  unfold TownAt at h ⊢
  unfold World.setCell
  simp only [Array.getElem?_modify, h, if_true, Option.map_some]
  have e : (townC n o).toArray.setIfInBounds (1 + j) (.int .i64 (x : Int)) = (townC n (o.set j x)).toArray := by
    unfold townC
    rw [List.setIfInBounds_toArray, Nat.add_comm 1 j, List.set_cons_succ, List.map_set]
  simp [e]
theorem arcs_len : ∀ (l : List S41) (o : List Nat), (l.foldl arcO o).length = o.length
  | [], _ => rfl
  | p :: r, o => by rw [List.foldl_cons, arcs_len r]; unfold arcO; rw [List.length_set]
theorem townO_len (l : List S41) : (townO l).length = 12 := by unfold townO; rw [arcs_len, List.length_replicate]
theorem or_val (x b : Nat) (hx : x < 4096) (hb : b < 12) : bits .or .i64 (x : Int) (wrap64 (2 ^ b)) = ((x ||| 2 ^ b : Nat) : Int) := by
  have h2 : (2 : Nat) ^ b < 2 ^ 12 := Nat.pow_lt_pow_right (by decide) hb
  have e : wrap64 ((2 : Int) ^ b) = ((2 ^ b : Nat) : Int) := by
    have : ((2 : Int) ^ b) = ((2 ^ b : Nat) : Int) := by push_cast; rfl
    rw [this]
    generalize 2 ^ b = q at h2
    unfold wrap64
    omega
  rw [e]
  exact (bits_nat .i64 63 (by decide) (fun n h0 h1 => by rw [IntKind.wrap_i64]; omega) x (2 ^ b) (by omega) (by omega)).2
theorem arcs_lt (n : Int) (hn : n ≤ 12) : ∀ (l : List S41) (o : List Nat), (∀ j, o.getD j 0 < 4096) → l.all (inT n) = true → ∀ j, (l.foldl arcO o).getD j 0 < 4096
  | [], _, h, _ => h
  | p :: r, o, h, ha => by
    rw [List.all_cons, Bool.and_eq_true] at ha
    rw [List.foldl_cons]
    refine arcs_lt n hn r _ (fun j => ?_) ha.2
    have hp := of_decide_eq_true ha.1
    unfold arcO
    simp only [List.getD_eq_getElem?_getD, List.getElem?_set]
    split
    · split
      · refine Nat.or_lt_two_pow (n := 12) ?_ (Nat.pow_lt_pow_right (by decide) (by omega))
        have := h p.f0.toNat
        simpa [List.getD_eq_getElem?_getD] using this
      · simp
    · have := h j
      simpa [List.getD_eq_getElem?_getD] using this
theorem townO_lt (l : List S41) (n : Int) (hn : n ≤ 12) (h : l.all (inT n) = true) (j : Nat) : (townO l).getD j 0 < 4096 := by
  refine arcs_lt n hn l _ (fun j => ?_) h j
  simp only [List.getD_eq_getElem?_getD, List.getElem?_replicate]
  split <;> simp
theorem below_put {B g j : Nat} {W0 W : World} (h : Below B W0 W) (hg : B ≤ g) (v : Value) : Below B W0 (W.setCell ⟨g, j, none⟩ v) := h.setCell (p := ⟨g, j, none⟩) hg v
theorem blk_set {W : World} {g j : Nat} {l : List Value} {e : TypeId} {f : Nat × Nat} (h : W.heap[g]? = some (.cells l.toArray e f)) (v : Value) : (W.setCell ⟨g, j, none⟩ v).heap[g]? = some (.cells (l.set j v).toArray e f) := by
  unfold World.setCell
  simp only [Array.getElem?_modify, h, if_true, Option.map_some, List.setIfInBounds_toArray]
  rfl
theorem town_blk {W : World} {g : Nat} (h : TownAt W g 0 (List.replicate 12 0)) : W.heap[g]? = some (.cells ([Value.int .i64 0, Value.int .i64 0, Value.int .i64 0, Value.int .i64 0, Value.int .i64 0, Value.int .i64 0, Value.int .i64 0, Value.int .i64 0, Value.int .i64 0, Value.int .i64 0, Value.int .i64 0, Value.int .i64 0, Value.int .i64 0]).toArray 44 (0, 0)) := h
theorem town_put {W : World} {g : Nat} (h : TownAt W g 0 (List.replicate 12 0)) (n : Int) (o0 o1 o2 o3 o4 o5 o6 o7 o8 o9 o10 o11 : Nat) :
    TownAt ((((((((((((((W.setCell ⟨g, 0, none⟩ (.int .i64 n)).setCell ⟨g, 1, none⟩ (.int .i64 (o0 : Int))).setCell ⟨g, 2, none⟩ (.int .i64 (o1 : Int))).setCell ⟨g, 3, none⟩ (.int .i64 (o2 : Int))).setCell ⟨g, 4, none⟩ (.int .i64 (o3 : Int))).setCell ⟨g, 5, none⟩ (.int .i64 (o4 : Int))).setCell ⟨g, 6, none⟩ (.int .i64 (o5 : Int))).setCell ⟨g, 7, none⟩ (.int .i64 (o6 : Int))).setCell ⟨g, 8, none⟩ (.int .i64 (o7 : Int))).setCell ⟨g, 9, none⟩ (.int .i64 (o8 : Int))).setCell ⟨g, 10, none⟩ (.int .i64 (o9 : Int))).setCell ⟨g, 11, none⟩ (.int .i64 (o10 : Int))).setCell ⟨g, 12, none⟩ (.int .i64 (o11 : Int)))) g n [o0, o1, o2, o3, o4, o5, o6, o7, o8, o9, o10, o11] := by
  have h := town_blk h
  replace h := blk_set (j := 0) h (.int .i64 n)
  replace h := blk_set (j := 1) h (.int .i64 (o0 : Int))
  replace h := blk_set (j := 2) h (.int .i64 (o1 : Int))
  replace h := blk_set (j := 3) h (.int .i64 (o2 : Int))
  replace h := blk_set (j := 4) h (.int .i64 (o3 : Int))
  replace h := blk_set (j := 5) h (.int .i64 (o4 : Int))
  replace h := blk_set (j := 6) h (.int .i64 (o5 : Int))
  replace h := blk_set (j := 7) h (.int .i64 (o6 : Int))
  replace h := blk_set (j := 8) h (.int .i64 (o7 : Int))
  replace h := blk_set (j := 9) h (.int .i64 (o8 : Int))
  replace h := blk_set (j := 10) h (.int .i64 (o9 : Int))
  replace h := blk_set (j := 11) h (.int .i64 (o10 : Int))
  replace h := blk_set (j := 12) h (.int .i64 (o11 : Int))
  simp only [List.set_cons_zero, List.set_cons_succ] at h
  exact h
theorem town_put0 {W : World} {g : Nat} (h : TownAt W g 0 (List.replicate 12 0)) :
    TownAt ((((((((((((((W.setCell ⟨g, 0, none⟩ (.int .i64 0)).setCell ⟨g, 1, none⟩ (.int .i64 0)).setCell ⟨g, 2, none⟩ (.int .i64 0)).setCell ⟨g, 3, none⟩ (.int .i64 0)).setCell ⟨g, 4, none⟩ (.int .i64 0)).setCell ⟨g, 5, none⟩ (.int .i64 0)).setCell ⟨g, 6, none⟩ (.int .i64 0)).setCell ⟨g, 7, none⟩ (.int .i64 0)).setCell ⟨g, 8, none⟩ (.int .i64 0)).setCell ⟨g, 9, none⟩ (.int .i64 0)).setCell ⟨g, 10, none⟩ (.int .i64 0)).setCell ⟨g, 11, none⟩ (.int .i64 0)).setCell ⟨g, 12, none⟩ (.int .i64 0))) g 0 (List.replicate 12 0) := by
  have h := town_blk h
  replace h := blk_set (j := 0) h (.int .i64 0)
  replace h := blk_set (j := 1) h (.int .i64 0)
  replace h := blk_set (j := 2) h (.int .i64 0)
  replace h := blk_set (j := 3) h (.int .i64 0)
  replace h := blk_set (j := 4) h (.int .i64 0)
  replace h := blk_set (j := 5) h (.int .i64 0)
  replace h := blk_set (j := 6) h (.int .i64 0)
  replace h := blk_set (j := 7) h (.int .i64 0)
  replace h := blk_set (j := 8) h (.int .i64 0)
  replace h := blk_set (j := 9) h (.int .i64 0)
  replace h := blk_set (j := 10) h (.int .i64 0)
  replace h := blk_set (j := 11) h (.int .i64 0)
  replace h := blk_set (j := 12) h (.int .i64 0)
  simp only [List.set_cons_zero, List.set_cons_succ] at h
  exact h
theorem TownAt.far {W : World} {g : Nat} {n : Int} {o : List Nat} (h : TownAt W g n o) {p : Addr} (hne : g ≠ p.block) (v : Value) : TownAt (W.setCell p v) g n o := (Below.heap_setCell W p v g hne).trans h
set_option maxHeartbeats 40000000 in
set_option maxRecDepth 100000 in
theorem shave_of (n : Int) (A1 : Option Addr) (c1 : Nat) (l1 : List S41) (w : World) (hr1 : Kd.C k41 w A1 l1.length l1) :
    Calls Try.prog 13 #[.int .i64 n, .slice A1 l1.length c1] w fun e w' => (∃ T E, e = .returned (.tuple #[T, .int .i64 E]) ∧ OfPost n l1 T E) ∧ Below w.heap.size w w' := by
  have HR1 := Aside0.mk hr1
  obtain ⟨N, hN⟩ : ∃ N, l1.length = N := ⟨_, rfl⟩
  have HN := Aside0.mk hN
  rw [hN] at hr1 ⊢
  clear hr1 
  by_cases c1 : n < 1
  · have HP := Aside0.mk (show OfPost n l1 (townV 0 (List.replicate 12 0)) 2 from ⟨(show townE n l1 = 2 by unfold townE; rw [if_pos (.inl c1)]).symm, 0, _, by decide, rfl, fun h => by omega⟩)
    have d1 : decide (n < 1) = true := decide_eq_true c1
    clear hN
    go_enter Try.func13, Try.ntmps13
    go_wp2
    go_returns
    exact ⟨⟨_, _, rfl, HP.out⟩, by go_grown⟩
  by_cases c2 : 12 < n
  · have HP := Aside0.mk (show OfPost n l1 (townV 0 (List.replicate 12 0)) 2 from ⟨(show townE n l1 = 2 by unfold townE; rw [if_pos (.inr c2)]).symm, 0, _, by decide, rfl, fun h => by omega⟩)
    have d1 : decide (n < 1) = false := decide_eq_false c1
    have d2 : decide (12 < n) = true := decide_eq_true c2
    clear hN
    go_enter Try.func13, Try.ntmps13
    go_wp2
    go_returns
    exact ⟨⟨_, _, rfl, HP.out⟩, by go_grown⟩
  have d1 : decide (n < 1) = false := decide_eq_false c1
  have d2 : decide (12 < n) = false := decide_eq_false c2
  by_cases c3 : 80 < N
  · have HP := Aside0.mk (show OfPost n l1 (townV 0 (List.replicate 12 0)) 3 from ⟨(show townE n l1 = 3 by unfold townE; rw [if_neg (by omega), if_pos (by omega)]).symm, 0, _, by decide, rfl, fun h => by omega⟩)
    have d3 : decide ((80 : Int) < (N : Int)) = true := decide_eq_true (by omega)
    have d3n : (80 < N) = True := eq_true c3
    clear hN
    go_enter Try.func13, Try.ntmps13
    go_wp2
    go_returns
    exact ⟨⟨_, _, rfl, HP.out⟩, by go_grown⟩
  have hE : townE n l1 = if l1.all (inT n) then 0 else 2 := by unfold townE; rw [if_neg (by omega), if_neg (by omega)]
  have HE := Aside0.mk hE
  clear hE
  have d3 : decide ((80 : Int) < (N : Int)) = false := decide_eq_false (by omega)
  have d3n : (80 < N) = False := eq_false c3
  have HNN := Aside0.mk (show 1 ≤ n ∧ n ≤ 12 ∧ N ≤ 80 by omega)
  clear hN c1 c2 c3
  go_enter Try.func13, Try.ntmps13
  go_wp2
  obtain ⟨g1, hg1⟩ : ∃ g1, g1 = w.heap.size + 1 := ⟨_, rfl⟩
  generalize hW : (World.alloc _ _ : World) = w1
  have hb1 : Below w.heap.size w w1 := by rw [← hW]; go_grown
  have ht1 : TownAt w1 g1 n (List.replicate 12 0) := by subst hW; subst hg1; exact alloc2_new w _ _
  have hz1 : TownAt w1 w.heap.size 0 (List.replicate 12 0) := by subst hW; exact alloc2_old w _ _
  rw [← hg1]
  clear hW
  have HB := Aside0.mk hb1
  have HT := Aside0.mk ht1
  have HZ := Aside0.mk hz1
  have HG := Aside0.mk hg1
  clear hb1 ht1 hz1 hg1
  obtain ⟨g0, hg0⟩ : ∃ g0, g0 = w.heap.size := ⟨_, rfl⟩
  rw [← hg0] at HZ ⊢
  have HG0 := Aside0.mk hg0
  clear hg0
  go_loopw [26] (fun v26 wr => ∃ i : Nat, i ≤ N ∧ v26 = .int .i64 (i : Int) ∧ Aside0 ((l1.take i).all (inT n) = true) ∧ Aside0 (TownAt wr g1 n (townO (l1.take i))) ∧ Aside0 (TownAt wr g0 0 (List.replicate 12 0)) ∧ Aside0 (Below w.heap.size w wr)) (fun v26 _ => N - (intOf v26).toNat)
  case atStart => exact ⟨0, by omega, rfl, ⟨rfl⟩, HT, HZ, HB⟩
  case round =>
    clear HT HZ HB
    obtain ⟨i, hi, rfl, HA, HT, HZ, HB⟩ := hrel
    by_cases hiN : i < N
    · have d4 : decide ((i : Int) < (N : Int)) = true := decide_eq_true (by omega)
      have d4n : (i < N) = True := eq_true hiN
      have hl := HN.out
      obtain ⟨ad, e, hx0, hx1⟩ := at_T41 HR1.out (i : Int) (by omega) (by omega)
      cases e
      replace hx0 := (HB.out.cell (World.block_lt_of_cell? w _ hx0)).trans hx0
      replace hx1 := (HB.out.cell (World.block_lt_of_cell? w _ hx1)).trans hx1
      have hrd : rd_T41 l1 (i : Int) = l1[i] := by unfold rd_T41; simp [List.getD_eq_getElem?_getD, hl, hiN]
      rw [hrd] at hx0 hx1
      rw [Int.toNat_natCast] at hx0 hx1
      have HTK := Aside0.mk (show l1.take (i + 1) = l1.take i ++ [l1[i]] from (List.take_succ_eq_append_getElem (by omega)))
      have HMEM := Aside0.mk (show l1[i] ∈ l1 from List.getElem_mem _)
      generalize l1[i] = p at hx0 hx1 HTK HMEM
      obtain ⟨a, b⟩ := p
      simp only [] at hx0 hx1
      clear hl hrd d1 d2 d3 d3n
      by_cases hp : inT n ⟨a, b⟩ = true
      · have hin := of_decide_eq_true hp
        simp only [] at hin
        obtain ⟨q1, q2, q3, q4⟩ := hin
        have e1 : decide (a < 0) = false := decide_eq_false (by omega)
        have e2 : decide (n ≤ a) = false := decide_eq_false (by omega)
        have e3 : decide (b < 0) = false := decide_eq_false (by omega)
        have e4 : decide (n ≤ b) = false := decide_eq_false (by omega)
        obtain ⟨a, rfl⟩ := Int.eq_ofNat_of_zero_le q1
        obtain ⟨b, rfl⟩ := Int.eq_ofNat_of_zero_le q3
        have hlen : (townO (l1.take i)).length = 12 := townO_len _
        have hA := HT.out.at a (by have := HNN.out; omega)
        have hF := HT.out.free (1 + a)
        have q5 : a < 12 := by have := HNN.out; omega
        have q6 : b < 12 := by have := HNN.out; omega
        clear q1 q3
        go_wp2_with (fail)
        obtain ⟨gp, hgp⟩ : ∃ gp, gp = wr.heap.size := ⟨_, rfl⟩
        rw [← hgp]
        generalize hwp : (World.alloc wr _ : World) = wp
        have hT2 : TownAt wp g1 n (townO (l1.take i)) := by rw [← hwp]; exact HT.out.alloc _
        have hZ2 : TownAt wp g0 0 (List.replicate 12 0) := by rw [← hwp]; exact HZ.out.alloc _
        have hB2 : Below w.heap.size w wp := by rw [← hwp]; exact HB.out.alloc HB.out.size _
        have hp0 : wp.cell? ⟨gp, 0, none⟩ = some (.int .i64 (a : Int)) := by rw [← hwp, hgp]; simp
        have hp1 : wp.cell? ⟨gp, 1, none⟩ = some (.int .i64 (b : Int)) := by rw [← hwp, hgp]; simp
        clear hwp hgp hx0 hx1 hA hF HT HZ HB
        refine wp_region_still_tail 11 (by kernel_rfl) (by kernel_rfl) ?_
        simp only [List.take_succ_cons, List.take_zero, List.drop_succ_cons, List.drop_zero]
        change wpStill _ _ wp.drew _ _ _
        replace hT2 : TownAt wp.drew g1 n (townO (l1.take i)) := hT2
        replace hZ2 : TownAt wp.drew g0 0 (List.replicate 12 0) := hZ2
        replace hB2 : Below w.heap.size w wp.drew := hB2.drew
        replace hp0 : wp.drew.cell? ⟨gp, 0, none⟩ = some (.int .i64 (a : Int)) := hp0
        replace hp1 : wp.drew.cell? ⟨gp, 1, none⟩ = some (.int .i64 (b : Int)) := hp1
        change wpStill _ _ _ (fun a' => wpList _ _ _ _ a' wp.drew) _ _
        generalize wp.drew = wd at hT2 hZ2 hB2 hp0 hp1 ⊢
        have hA := hT2.at a (by omega)
        have hF := hT2.free (1 + a)
        have HT2 := Aside0.mk hT2
        have HZ2 := Aside0.mk hZ2
        have HB2 := Aside0.mk hB2
        clear hT2 hZ2 hB2
        have hb1 : ((a : Int) < 12) = True := eq_true (by omega)
        have hb2 : (a < 12) = True := eq_true (by omega)
        obtain ⟨x, hx⟩ : ∃ x, (townO (l1.take i)).getD a 0 = x := ⟨_, rfl⟩
        rw [hx] at hA
        have hor : bits .or .i64 (x : Int) (wrap64 (2 ^ b)) = ((x ||| 2 ^ b : Nat) : Int) := or_val x b (by rw [← hx]; exact townO_lt _ n (by have := HNN.out; omega) HA.out a) q6
        have HX := Aside0.mk (show townO (l1.take (i + 1)) = (townO (l1.take i)).set a (x ||| 2 ^ b) by rw [HTK.out, ← hx]; unfold townO; rw [List.foldl_append]; rfl)
        clear hx
        repeat still_step
        refine wpStill_nil ?_
        go_wp2
        refine ⟨⟨i + 1, by omega, vI (by have := HNN.out; omega), ⟨by rw [HTK.out, List.all_append, HA.out]; simpa using hp⟩, ⟨by rw [HX.out]; exact HT2.out.set a (by rw [hlen]; exact q5) _⟩, ⟨HZ2.out.far (by have := HG.out; have := HG0.out; show g0 ≠ g1; omega) _⟩, ⟨HB2.out.setCell (p := ⟨g1, 1 + a, none⟩) (by have := HG.out; show w.heap.size ≤ g1; omega) _⟩⟩, mstepA hiN (by have := HNN.out; omega)⟩
      · have HP := Aside0.mk (show OfPost n l1 (townV 0 (List.replicate 12 0)) 2 from ⟨by
          rw [HE.out, if_neg]
          intro h
          exact hp ((List.all_eq_true.1 h) _ HMEM.out), 0, _, by decide, rfl, fun h => by omega⟩)
        simp only [inT, decide_eq_true_eq] at hp
        have hz : TownAt (wr.alloc (.cells #[.int .i64 a, .int .i64 b] 41)) g0 0 (List.replicate 12 0) := HZ.out.alloc _
        have z0 : (wr.alloc (.cells #[.int .i64 a, .int .i64 b] 41)).cell? ⟨g0, 0, none⟩ = some (.int .i64 0) := hz.zero
        have z1 : (wr.alloc (.cells #[.int .i64 a, .int .i64 b] 41)).cell? ⟨g0, 1, none⟩ = some (.int .i64 0) := hz.at 0 (by decide)
        have z2 : (wr.alloc (.cells #[.int .i64 a, .int .i64 b] 41)).cell? ⟨g0, 2, none⟩ = some (.int .i64 0) := hz.at 1 (by decide)
        have z3 : (wr.alloc (.cells #[.int .i64 a, .int .i64 b] 41)).cell? ⟨g0, 3, none⟩ = some (.int .i64 0) := hz.at 2 (by decide)
        have z4 : (wr.alloc (.cells #[.int .i64 a, .int .i64 b] 41)).cell? ⟨g0, 4, none⟩ = some (.int .i64 0) := hz.at 3 (by decide)
        have z5 : (wr.alloc (.cells #[.int .i64 a, .int .i64 b] 41)).cell? ⟨g0, 5, none⟩ = some (.int .i64 0) := hz.at 4 (by decide)
        have z6 : (wr.alloc (.cells #[.int .i64 a, .int .i64 b] 41)).cell? ⟨g0, 6, none⟩ = some (.int .i64 0) := hz.at 5 (by decide)
        have z7 : (wr.alloc (.cells #[.int .i64 a, .int .i64 b] 41)).cell? ⟨g0, 7, none⟩ = some (.int .i64 0) := hz.at 6 (by decide)
        have z8 : (wr.alloc (.cells #[.int .i64 a, .int .i64 b] 41)).cell? ⟨g0, 8, none⟩ = some (.int .i64 0) := hz.at 7 (by decide)
        have z9 : (wr.alloc (.cells #[.int .i64 a, .int .i64 b] 41)).cell? ⟨g0, 9, none⟩ = some (.int .i64 0) := hz.at 8 (by decide)
        have z10 : (wr.alloc (.cells #[.int .i64 a, .int .i64 b] 41)).cell? ⟨g0, 10, none⟩ = some (.int .i64 0) := hz.at 9 (by decide)
        have z11 : (wr.alloc (.cells #[.int .i64 a, .int .i64 b] 41)).cell? ⟨g0, 11, none⟩ = some (.int .i64 0) := hz.at 10 (by decide)
        have z12 : (wr.alloc (.cells #[.int .i64 a, .int .i64 b] 41)).cell? ⟨g0, 12, none⟩ = some (.int .i64 0) := hz.at 11 (by decide)
        have zf : ∀ j : Nat, (wr.alloc (.cells #[.int .i64 a, .int .i64 b] 41)).frozen? ⟨g0, j, none⟩ = false := hz.free
        have HZA := Aside0.mk hz
        clear hz HZ HT
        have HBA := Aside0.mk (HB.out.alloc HB.out.size (.cells #[.int .i64 a, .int .i64 b] 41))
        have HG1 := Aside0.mk (show w.heap.size ≤ g0 by have := HG0.out; omega)
        have hcase : a < 0 ∨ (0 ≤ a ∧ n ≤ a) ∨ (0 ≤ a ∧ a < n ∧ b < 0) ∨ (0 ≤ a ∧ a < n ∧ 0 ≤ b ∧ n ≤ b) := by omega
        clear hp
        rcases hcase with h1 | ⟨h1, h2⟩ | ⟨h1, h2, h3⟩ | ⟨h1, h2, h3, h4⟩
        · have e0 : decide (a < 0) = true := decide_eq_true (by omega)
          go_wp2
          generalize hWf : (World.setCell _ _ _ : World) = Wf
          have htf : TownAt Wf g0 0 (List.replicate 12 0) := by rw [← hWf]; with_reducible exact town_put0 HZA.out
          have hbf : Below w.heap.size w Wf := by rw [← hWf]; (with_reducible repeat (first | exact HBA.out | refine below_put ?_ HG1.out _))
          clear hWf
          have f0 : Wf.cell? ⟨g0, 0, none⟩ = some (.int .i64 0) := htf.zero
          have f1 : Wf.cell? ⟨g0, 1, none⟩ = some (.int .i64 0) := htf.at 0 (by decide)
          have f2 : Wf.cell? ⟨g0, 2, none⟩ = some (.int .i64 0) := htf.at 1 (by decide)
          have f3 : Wf.cell? ⟨g0, 3, none⟩ = some (.int .i64 0) := htf.at 2 (by decide)
          have f4 : Wf.cell? ⟨g0, 4, none⟩ = some (.int .i64 0) := htf.at 3 (by decide)
          have f5 : Wf.cell? ⟨g0, 5, none⟩ = some (.int .i64 0) := htf.at 4 (by decide)
          have f6 : Wf.cell? ⟨g0, 6, none⟩ = some (.int .i64 0) := htf.at 5 (by decide)
          have f7 : Wf.cell? ⟨g0, 7, none⟩ = some (.int .i64 0) := htf.at 6 (by decide)
          have f8 : Wf.cell? ⟨g0, 8, none⟩ = some (.int .i64 0) := htf.at 7 (by decide)
          have f9 : Wf.cell? ⟨g0, 9, none⟩ = some (.int .i64 0) := htf.at 8 (by decide)
          have f10 : Wf.cell? ⟨g0, 10, none⟩ = some (.int .i64 0) := htf.at 9 (by decide)
          have f11 : Wf.cell? ⟨g0, 11, none⟩ = some (.int .i64 0) := htf.at 10 (by decide)
          have f12 : Wf.cell? ⟨g0, 12, none⟩ = some (.int .i64 0) := htf.at 11 (by decide)
          clear htf
          refine bodyPost_ret (by simp [results, Try.results13, go_sem, f0, f1, f2, f3, f4, f5, f6, f7, f8, f9, f10, f11, f12]; try rfl) rfl ?_
          exact ⟨⟨_, _, rfl, HP.out⟩, hbf⟩
        · have e0 : decide (a < 0) = false := decide_eq_false (by omega)
          have e1 : decide (n ≤ a) = true := decide_eq_true (by omega)
          go_wp2
          generalize hWf : (World.setCell _ _ _ : World) = Wf
          have htf : TownAt Wf g0 0 (List.replicate 12 0) := by rw [← hWf]; with_reducible exact town_put0 HZA.out
          have hbf : Below w.heap.size w Wf := by rw [← hWf]; (with_reducible repeat (first | exact HBA.out | refine below_put ?_ HG1.out _))
          clear hWf
          have f0 : Wf.cell? ⟨g0, 0, none⟩ = some (.int .i64 0) := htf.zero
          have f1 : Wf.cell? ⟨g0, 1, none⟩ = some (.int .i64 0) := htf.at 0 (by decide)
          have f2 : Wf.cell? ⟨g0, 2, none⟩ = some (.int .i64 0) := htf.at 1 (by decide)
          have f3 : Wf.cell? ⟨g0, 3, none⟩ = some (.int .i64 0) := htf.at 2 (by decide)
          have f4 : Wf.cell? ⟨g0, 4, none⟩ = some (.int .i64 0) := htf.at 3 (by decide)
          have f5 : Wf.cell? ⟨g0, 5, none⟩ = some (.int .i64 0) := htf.at 4 (by decide)
          have f6 : Wf.cell? ⟨g0, 6, none⟩ = some (.int .i64 0) := htf.at 5 (by decide)
          have f7 : Wf.cell? ⟨g0, 7, none⟩ = some (.int .i64 0) := htf.at 6 (by decide)
          have f8 : Wf.cell? ⟨g0, 8, none⟩ = some (.int .i64 0) := htf.at 7 (by decide)
          have f9 : Wf.cell? ⟨g0, 9, none⟩ = some (.int .i64 0) := htf.at 8 (by decide)
          have f10 : Wf.cell? ⟨g0, 10, none⟩ = some (.int .i64 0) := htf.at 9 (by decide)
          have f11 : Wf.cell? ⟨g0, 11, none⟩ = some (.int .i64 0) := htf.at 10 (by decide)
          have f12 : Wf.cell? ⟨g0, 12, none⟩ = some (.int .i64 0) := htf.at 11 (by decide)
          clear htf
          refine bodyPost_ret (by simp [results, Try.results13, go_sem, f0, f1, f2, f3, f4, f5, f6, f7, f8, f9, f10, f11, f12]; try rfl) rfl ?_
          exact ⟨⟨_, _, rfl, HP.out⟩, hbf⟩
        · have e0 : decide (a < 0) = false := decide_eq_false (by omega)
          have e1 : decide (n ≤ a) = false := decide_eq_false (by omega)
          have e2 : decide (b < 0) = true := decide_eq_true (by omega)
          go_wp2
          generalize hWf : (World.setCell _ _ _ : World) = Wf
          have htf : TownAt Wf g0 0 (List.replicate 12 0) := by rw [← hWf]; with_reducible exact town_put0 HZA.out
          have hbf : Below w.heap.size w Wf := by rw [← hWf]; (with_reducible repeat (first | exact HBA.out | refine below_put ?_ HG1.out _))
          clear hWf
          have f0 : Wf.cell? ⟨g0, 0, none⟩ = some (.int .i64 0) := htf.zero
          have f1 : Wf.cell? ⟨g0, 1, none⟩ = some (.int .i64 0) := htf.at 0 (by decide)
          have f2 : Wf.cell? ⟨g0, 2, none⟩ = some (.int .i64 0) := htf.at 1 (by decide)
          have f3 : Wf.cell? ⟨g0, 3, none⟩ = some (.int .i64 0) := htf.at 2 (by decide)
          have f4 : Wf.cell? ⟨g0, 4, none⟩ = some (.int .i64 0) := htf.at 3 (by decide)
          have f5 : Wf.cell? ⟨g0, 5, none⟩ = some (.int .i64 0) := htf.at 4 (by decide)
          have f6 : Wf.cell? ⟨g0, 6, none⟩ = some (.int .i64 0) := htf.at 5 (by decide)
          have f7 : Wf.cell? ⟨g0, 7, none⟩ = some (.int .i64 0) := htf.at 6 (by decide)
          have f8 : Wf.cell? ⟨g0, 8, none⟩ = some (.int .i64 0) := htf.at 7 (by decide)
          have f9 : Wf.cell? ⟨g0, 9, none⟩ = some (.int .i64 0) := htf.at 8 (by decide)
          have f10 : Wf.cell? ⟨g0, 10, none⟩ = some (.int .i64 0) := htf.at 9 (by decide)
          have f11 : Wf.cell? ⟨g0, 11, none⟩ = some (.int .i64 0) := htf.at 10 (by decide)
          have f12 : Wf.cell? ⟨g0, 12, none⟩ = some (.int .i64 0) := htf.at 11 (by decide)
          clear htf
          refine bodyPost_ret (by simp [results, Try.results13, go_sem, f0, f1, f2, f3, f4, f5, f6, f7, f8, f9, f10, f11, f12]; try rfl) rfl ?_
          exact ⟨⟨_, _, rfl, HP.out⟩, hbf⟩
        · have e0 : decide (a < 0) = false := decide_eq_false (by omega)
          have e1 : decide (n ≤ a) = false := decide_eq_false (by omega)
          have e2 : decide (b < 0) = false := decide_eq_false (by omega)
          have e3 : decide (n ≤ b) = true := decide_eq_true (by omega)
          go_wp2
          generalize hWf : (World.setCell _ _ _ : World) = Wf
          have htf : TownAt Wf g0 0 (List.replicate 12 0) := by rw [← hWf]; with_reducible exact town_put0 HZA.out
          have hbf : Below w.heap.size w Wf := by rw [← hWf]; (with_reducible repeat (first | exact HBA.out | refine below_put ?_ HG1.out _))
          clear hWf
          have f0 : Wf.cell? ⟨g0, 0, none⟩ = some (.int .i64 0) := htf.zero
          have f1 : Wf.cell? ⟨g0, 1, none⟩ = some (.int .i64 0) := htf.at 0 (by decide)
          have f2 : Wf.cell? ⟨g0, 2, none⟩ = some (.int .i64 0) := htf.at 1 (by decide)
          have f3 : Wf.cell? ⟨g0, 3, none⟩ = some (.int .i64 0) := htf.at 2 (by decide)
          have f4 : Wf.cell? ⟨g0, 4, none⟩ = some (.int .i64 0) := htf.at 3 (by decide)
          have f5 : Wf.cell? ⟨g0, 5, none⟩ = some (.int .i64 0) := htf.at 4 (by decide)
          have f6 : Wf.cell? ⟨g0, 6, none⟩ = some (.int .i64 0) := htf.at 5 (by decide)
          have f7 : Wf.cell? ⟨g0, 7, none⟩ = some (.int .i64 0) := htf.at 6 (by decide)
          have f8 : Wf.cell? ⟨g0, 8, none⟩ = some (.int .i64 0) := htf.at 7 (by decide)
          have f9 : Wf.cell? ⟨g0, 9, none⟩ = some (.int .i64 0) := htf.at 8 (by decide)
          have f10 : Wf.cell? ⟨g0, 10, none⟩ = some (.int .i64 0) := htf.at 9 (by decide)
          have f11 : Wf.cell? ⟨g0, 11, none⟩ = some (.int .i64 0) := htf.at 10 (by decide)
          have f12 : Wf.cell? ⟨g0, 12, none⟩ = some (.int .i64 0) := htf.at 11 (by decide)
          clear htf
          refine bodyPost_ret (by simp [results, Try.results13, go_sem, f0, f1, f2, f3, f4, f5, f6, f7, f8, f9, f10, f11, f12]; try rfl) rfl ?_
          exact ⟨⟨_, _, rfl, HP.out⟩, hbf⟩
    · have d4 : decide ((i : Int) < (N : Int)) = false := decide_eq_false (by omega)
      have d4n : (i < N) = False := eq_false hiN
      obtain rfl : i = N := by omega
      have hl := HN.out
      have ha := HA.out
      have ht := HT.out
      rw [List.take_of_length_le (by omega)] at ha ht
      have HP := Aside0.mk (show OfPost n l1 (townV n (townO l1)) 0 from ⟨by rw [HE.out, if_pos ha], n, _, townO_len _, rfl, fun _ => ⟨rfl, rfl⟩⟩)
      obtain ⟨o0, o1, o2, o3, o4, o5, o6, o7, o8, o9, o10, o11, ho⟩ := len12 (townO_len l1)
      rw [ho] at ht
      have HP := Aside0.mk (show OfPost n l1 (townV n [o0, o1, o2, o3, o4, o5, o6, o7, o8, o9, o10, o11]) 0 by have h := HP.out; rwa [ho] at h)
      have hz := HZ.out
      have z0 : wr.cell? ⟨g0, 0, none⟩ = some (.int .i64 0) := hz.zero
      have z1 : wr.cell? ⟨g0, 1, none⟩ = some (.int .i64 0) := hz.at 0 (by decide)
      have z2 : wr.cell? ⟨g0, 2, none⟩ = some (.int .i64 0) := hz.at 1 (by decide)
      have z3 : wr.cell? ⟨g0, 3, none⟩ = some (.int .i64 0) := hz.at 2 (by decide)
      have z4 : wr.cell? ⟨g0, 4, none⟩ = some (.int .i64 0) := hz.at 3 (by decide)
      have z5 : wr.cell? ⟨g0, 5, none⟩ = some (.int .i64 0) := hz.at 4 (by decide)
      have z6 : wr.cell? ⟨g0, 6, none⟩ = some (.int .i64 0) := hz.at 5 (by decide)
      have z7 : wr.cell? ⟨g0, 7, none⟩ = some (.int .i64 0) := hz.at 6 (by decide)
      have z8 : wr.cell? ⟨g0, 8, none⟩ = some (.int .i64 0) := hz.at 7 (by decide)
      have z9 : wr.cell? ⟨g0, 9, none⟩ = some (.int .i64 0) := hz.at 8 (by decide)
      have z10 : wr.cell? ⟨g0, 10, none⟩ = some (.int .i64 0) := hz.at 9 (by decide)
      have z11 : wr.cell? ⟨g0, 11, none⟩ = some (.int .i64 0) := hz.at 10 (by decide)
      have z12 : wr.cell? ⟨g0, 12, none⟩ = some (.int .i64 0) := hz.at 11 (by decide)
      have zf := hz.free
      have y0 : wr.cell? ⟨g1, 0, none⟩ = some (.int .i64 n) := ht.zero
      have y1 : wr.cell? ⟨g1, 1, none⟩ = some (.int .i64 (o0 : Int)) := ht.at 0 (by simp)
      have y2 : wr.cell? ⟨g1, 2, none⟩ = some (.int .i64 (o1 : Int)) := ht.at 1 (by simp)
      have y3 : wr.cell? ⟨g1, 3, none⟩ = some (.int .i64 (o2 : Int)) := ht.at 2 (by simp)
      have y4 : wr.cell? ⟨g1, 4, none⟩ = some (.int .i64 (o3 : Int)) := ht.at 3 (by simp)
      have y5 : wr.cell? ⟨g1, 5, none⟩ = some (.int .i64 (o4 : Int)) := ht.at 4 (by simp)
      have y6 : wr.cell? ⟨g1, 6, none⟩ = some (.int .i64 (o5 : Int)) := ht.at 5 (by simp)
      have y7 : wr.cell? ⟨g1, 7, none⟩ = some (.int .i64 (o6 : Int)) := ht.at 6 (by simp)
      have y8 : wr.cell? ⟨g1, 8, none⟩ = some (.int .i64 (o7 : Int)) := ht.at 7 (by simp)
      have y9 : wr.cell? ⟨g1, 9, none⟩ = some (.int .i64 (o8 : Int)) := ht.at 8 (by simp)
      have y10 : wr.cell? ⟨g1, 10, none⟩ = some (.int .i64 (o9 : Int)) := ht.at 9 (by simp)
      have y11 : wr.cell? ⟨g1, 11, none⟩ = some (.int .i64 (o10 : Int)) := ht.at 10 (by simp)
      have y12 : wr.cell? ⟨g1, 12, none⟩ = some (.int .i64 (o11 : Int)) := ht.at 11 (by simp)
      have HG1 := Aside0.mk (show w.heap.size ≤ g0 by have := HG0.out; omega)
      have HZB := Aside0.mk hz
      clear hz HZ HT ht ha hl HA ho
      go_wp2
      generalize hWf : (World.setCell _ _ _ : World) = Wf
      have htf : TownAt Wf g0 n [o0, o1, o2, o3, o4, o5, o6, o7, o8, o9, o10, o11] := by rw [← hWf]; exact town_put HZB.out n o0 o1 o2 o3 o4 o5 o6 o7 o8 o9 o10 o11
      have hbf : Below w.heap.size w Wf := by rw [← hWf]; (with_reducible repeat (first | exact HB.out | refine below_put ?_ HG1.out _))
      clear hWf
      have f0 : Wf.cell? ⟨g0, 0, none⟩ = some (.int .i64 n) := htf.zero
      have f1 : Wf.cell? ⟨g0, 1, none⟩ = some (.int .i64 (o0 : Int)) := htf.at 0 (by simp)
      have f2 : Wf.cell? ⟨g0, 2, none⟩ = some (.int .i64 (o1 : Int)) := htf.at 1 (by simp)
      have f3 : Wf.cell? ⟨g0, 3, none⟩ = some (.int .i64 (o2 : Int)) := htf.at 2 (by simp)
      have f4 : Wf.cell? ⟨g0, 4, none⟩ = some (.int .i64 (o3 : Int)) := htf.at 3 (by simp)
      have f5 : Wf.cell? ⟨g0, 5, none⟩ = some (.int .i64 (o4 : Int)) := htf.at 4 (by simp)
      have f6 : Wf.cell? ⟨g0, 6, none⟩ = some (.int .i64 (o5 : Int)) := htf.at 5 (by simp)
      have f7 : Wf.cell? ⟨g0, 7, none⟩ = some (.int .i64 (o6 : Int)) := htf.at 6 (by simp)
      have f8 : Wf.cell? ⟨g0, 8, none⟩ = some (.int .i64 (o7 : Int)) := htf.at 7 (by simp)
      have f9 : Wf.cell? ⟨g0, 9, none⟩ = some (.int .i64 (o8 : Int)) := htf.at 8 (by simp)
      have f10 : Wf.cell? ⟨g0, 10, none⟩ = some (.int .i64 (o9 : Int)) := htf.at 9 (by simp)
      have f11 : Wf.cell? ⟨g0, 11, none⟩ = some (.int .i64 (o10 : Int)) := htf.at 10 (by simp)
      have f12 : Wf.cell? ⟨g0, 12, none⟩ = some (.int .i64 (o11 : Int)) := htf.at 11 (by simp)
      clear htf
      refine bodyPost_ret (by simp [results, Try.results13, go_sem, f0, f1, f2, f3, f4, f5, f6, f7, f8, f9, f10, f11, f12]; try rfl) rfl ?_
      exact ⟨⟨_, _, rfl, HP.out⟩, hbf⟩
end Go.Proofs.Ytagmadfllfcloaa.PC
end
section
set_option linter.unusedVariables false
set_option linter.unusedSimpArgs false
/- The tests of shave: independent, absorbed: the walks of the closures. -/
namespace Go.Proofs.Ytagmadfllfcloaa.PC
open Go.RowKit Go.Proofs.YtagmadfllfcloaaW.PrintWords Go.Proofs.YtagmadfllfcloaaW.PrintLast Go.Proofs.YtagmadfllfcloaaW.PrintMore
set_option linter.unusedVariables false
set_option linter.unusedSimpArgs false
/-- A person of a set has no arc into it. -/
def indB (o : List Nat) (s i : Nat) : Bool := !(s.testBit i) || ((o.getD i 0) &&& s == 0)
/-- A person is in a set or has an arc into it. -/
def absB (o : List Nat) (s i : Nat) : Bool := s.testBit i || !((o.getD i 0) &&& s == 0)
/-- A set is a kernel. -/
def kerB (n : Nat) (o : List Nat) (s : Nat) : Bool := (List.range n).all (fun i => indB o s i && absB o s i)
theorem and_val (a b : Nat) (ha : a < 4096) (hb : b < 4096) : bits .and .i64 (a : Int) (b : Int) = ((a &&& b : Nat) : Int) :=
  (bits_nat .i64 63 (by decide) (fun n h0 h1 => by rw [IntKind.wrap_i64]; omega) a b (by omega) (by omega)).1
theorem bit_val (s i : Nat) (hs : s < 4096) : bits .and .i64 (((s / 2 ^ i : Nat)) : Int) 1 = if s.testBit i then 1 else 0 := by
  have h := and_val (s / 2 ^ i) 1 (Nat.lt_of_le_of_lt (Nat.div_le_self _ _) hs) (by decide)
  have h2 : ((1 : Nat) : Int) = 1 := rfl
  rw [h2] at h
  rw [h, Nat.and_one_is_mod]
  simp only [Nat.testBit, Nat.shiftRight_eq_div_pow, Nat.one_and_eq_mod_two]
  rcases Nat.mod_two_eq_zero_or_one (s / 2 ^ i) with h3 | h3 <;> rw [h3] <;> simp
theorem nat_beq0 (y : Nat) : ((y : Int) == 0) = (y == 0) := by
  rcases Nat.eq_zero_or_pos y with rfl | h
  · rfl
  · rw [beq_eq_false_iff_ne.2 (by omega), beq_eq_false_iff_ne.2 (by omega)]
theorem nat_bne0 (y : Nat) : ((y : Int) != 0) = !(y == 0) := by rw [bne, nat_beq0]
set_option maxHeartbeats 4000000 in
set_option maxRecDepth 100000 in
theorem ind_clo (n : Nat) (o : List Nat) (ho : o.length = 12) (hlt : ∀ j, o.getD j 0 < 4096) (s i : Nat) (hs : s < 4096) (hi : i < 12) (gs gt : Nat) (w : World) (h1 : w.cell? ⟨gs, 0, none⟩ = some (.int .i64 (s : Int))) (h2 : TownAt w gt (n : Int) o) :
    Calls Try.prog 44 #[.int .i64 (i : Int), .pointer (some ⟨gs, 0, none⟩), .pointer (some ⟨gt, 0, none⟩)] w fun e w' => e = .returned (.bool (indB o s i)) ∧ ∃ m, w' = w.drewN m := by
  have hA := h2.at i (by omega)
  have hb := bit_val s i hs
  have ha := and_val (o.getD i 0) s (hlt i) hs
  obtain ⟨x, hx⟩ : ∃ x, o.getD i 0 = x := ⟨_, rfl⟩
  have hI : indB o s i = (!(s.testBit i) || (x &&& s == 0)) := by unfold indB; rw [hx]
  rw [hI]
  rw [hx] at hA ha
  have hb12 : ((i : Int) < 12) = True := eq_true (by omega)
  have hb12n : (i < 12) = True := eq_true hi
  have hsh : (s : Int) / 2 ^ i = ((s / 2 ^ i : Nat) : Int) := by push_cast; rfl
  rw [← hsh] at hb
  clear hI hx h2 hlt ho hsh
  cases htb : s.testBit i with
  | false =>
    rw [htb, if_neg (by decide)] at hb
    clear htb
    go_enter Try.func44, Try.ntmps44
    go_wp2
    go_quiet (fail)
    go_wp2
    go_ret
    exact ⟨rfl, _, rfl⟩
  | true =>
    rw [htb, if_pos rfl] at hb
    clear htb
    obtain ⟨y, hy⟩ : ∃ y, x &&& s = y := ⟨_, rfl⟩
    rw [hy] at ha ⊢
    clear hy
    go_enter Try.func44, Try.ntmps44
    go_wp2
    go_quiet (fail)
    go_wp2
    go_ret
    exact ⟨by simp [nat_beq0], _, rfl⟩
/-- Everybody but a set. -/
theorem not_all : (List.range 13).all (fun n => (List.range (2 ^ n)).all (fun s => decide (bits .andNot .i64 ((2 ^ n - 1 : Nat) : Int) (s : Int) = ((2 ^ n - 1 - s : Nat) : Int)))) = true := by decide +kernel
theorem not_val (n s : Nat) (hn : n ≤ 12) (hs : s < 2 ^ n) : bits .andNot .i64 ((2 ^ n - 1 : Nat) : Int) (s : Int) = ((2 ^ n - 1 - s : Nat) : Int) := by
  have h := (List.all_eq_true.1 not_all) n (List.mem_range.2 (by omega))
  exact of_decide_eq_true ((List.all_eq_true.1 h) s (List.mem_range.2 hs))
theorem not_bit (n s i : Nat) (hs : s < 2 ^ n) (hi : i < n) : (2 ^ n - 1 - s).testBit i = !s.testBit i := by
  rw [show 2 ^ n - 1 - s = 2 ^ n - (s + 1) by omega, Nat.testBit_two_pow_sub_succ hs]
  simp [hi]
set_option maxHeartbeats 4000000 in
set_option maxRecDepth 100000 in
theorem abs_clo (n : Nat) (hn : n ≤ 12) (o : List Nat) (ho : o.length = 12) (hlt : ∀ j, o.getD j 0 < 4096) (s i : Nat) (hs : s < 2 ^ n) (hi : i < n) (gp gs gt : Nat) (w : World) (h0 : w.cell? ⟨gp, 0, none⟩ = some (.int .i64 ((2 ^ n - 1 : Nat) : Int))) (h1 : w.cell? ⟨gs, 0, none⟩ = some (.int .i64 (s : Int))) (h2 : TownAt w gt (n : Int) o) :
    Calls Try.prog 45 #[.int .i64 (i : Int), .pointer (some ⟨gp, 0, none⟩), .pointer (some ⟨gs, 0, none⟩), .pointer (some ⟨gt, 0, none⟩)] w fun e w' => e = .returned (.bool (absB o s i)) ∧ ∃ m, w' = w.drewN m := by
  have hi12 : i < 12 := by omega
  have h4 : (2 : Nat) ^ n ≤ 2 ^ 12 := Nat.pow_le_pow_right (by decide) hn
  have hs4 : s < 4096 := by omega
  have hA := h2.at i (by omega)
  have hb := bit_val (2 ^ n - 1 - s) i (by omega)
  have ha := and_val (o.getD i 0) s (hlt i) hs4
  have hn2 := not_val n s hn hs
  rw [not_bit n s i hs hi] at hb
  obtain ⟨x, hx⟩ : ∃ x, o.getD i 0 = x := ⟨_, rfl⟩
  have hI : absB o s i = (s.testBit i || !(x &&& s == 0)) := by unfold absB; rw [hx]
  rw [hI]
  rw [hx] at hA ha
  obtain ⟨p, hp⟩ : ∃ p, 2 ^ n - 1 = p := ⟨_, rfl⟩
  rw [hp] at h0 hn2 hb
  obtain ⟨q, hq⟩ : ∃ q, p - s = q := ⟨_, rfl⟩
  rw [hq] at hn2 hb
  have hb12 : ((i : Int) < 12) = True := eq_true (by omega)
  have hb12n : (i < 12) = True := eq_true hi12
  have hsh : (q : Int) / 2 ^ i = ((q / 2 ^ i : Nat) : Int) := by push_cast; rfl
  rw [← hsh] at hb
  obtain ⟨y, hy⟩ : ∃ y, x &&& s = y := ⟨_, rfl⟩
  rw [hy] at ha ⊢
  clear hI hx h2 hlt ho hsh hp hq h4 hi hs hy
  cases htb : s.testBit i with
  | true =>
    rw [htb, if_neg (by decide)] at hb
    clear htb
    go_enter Try.func45, Try.ntmps45
    go_wp2
    go_quiet (fail)
    go_wp2
    go_ret
    exact ⟨rfl, _, rfl⟩
  | false =>
    rw [htb, if_pos (by decide)] at hb
    clear htb
    go_enter Try.func45, Try.ntmps45
    go_wp2
    go_quiet (fail)
    go_wp2
    go_ret
    exact ⟨by simp [nat_beq0, nat_bne0], _, rfl⟩
end Go.Proofs.Ytagmadfllfcloaa.PC
end
section
set_option linter.unusedVariables false
set_option linter.unusedSimpArgs false
/- shave's all, kernel: the walks. -/
namespace Go.Proofs.Ytagmadfllfcloaa.PC
open Go.RowKit Go.Proofs.YtagmadfllfcloaaW.PrintWords Go.Proofs.YtagmadfllfcloaaW.PrintLast Go.Proofs.YtagmadfllfcloaaW.PrintMore
set_option linter.unusedVariables false
set_option linter.unusedSimpArgs false
/-- A town's value, written out. -/
def townL (n : Nat) (o0 o1 o2 o3 o4 o5 o6 o7 o8 o9 o10 o11 : Nat) : Value := .agg #[.int .i64 (n : Int), .int .i64 (o0 : Int), .int .i64 (o1 : Int), .int .i64 (o2 : Int), .int .i64 (o3 : Int), .int .i64 (o4 : Int), .int .i64 (o5 : Int), .int .i64 (o6 : Int), .int .i64 (o7 : Int), .int .i64 (o8 : Int), .int .i64 (o9 : Int), .int .i64 (o10 : Int), .int .i64 (o11 : Int)]
theorem ker_none {n : Nat} {o : List Nat} {s i : Nat} (hi : i < n) (h : (indB o s i && absB o s i) = false) : kerB n o s = false := by
  unfold kerB
  rw [← Bool.not_eq_true, List.all_eq_true]
  intro h2
  have h3 := h2 i (List.mem_range.2 hi)
  rw [h] at h3
  cases h3
theorem ker_some {n : Nat} {o : List Nat} {s : Nat} (h : ∀ i, i < n → (indB o s i && absB o s i) = true) : kerB n o s = true := by
  unfold kerB
  rw [List.all_eq_true]
  intro i hi
  exact h i (List.mem_range.1 hi)
set_option maxHeartbeats 8000000 in
set_option maxRecDepth 100000 in
theorem all_walk (n : Nat) (hn : n ≤ 12) (o0 o1 o2 o3 o4 o5 o6 o7 o8 o9 o10 o11 : Nat) (o : List Nat) (ho : o.length = 12) (hlt : ∀ j, o.getD j 0 < 4096) (s : Nat) (hs : s < 2 ^ n) (gf gp gs1 gs2 gt1 gt2 : Nat) (w : World)
    (hf0 : w.cell? ⟨gf, 0, none⟩ = some (.func (.func 44) #[] #[.pointer (some ⟨gs1, 0, none⟩), .pointer (some ⟨gt1, 0, none⟩)]))
    (hf1 : w.cell? ⟨gf, 1, none⟩ = some (.func (.func 45) #[] #[.pointer (some ⟨gp, 0, none⟩), .pointer (some ⟨gs2, 0, none⟩), .pointer (some ⟨gt2, 0, none⟩)]))
    (hp : w.cell? ⟨gp, 0, none⟩ = some (.int .i64 ((2 ^ n - 1 : Nat) : Int))) (h1 : w.cell? ⟨gs1, 0, none⟩ = some (.int .i64 (s : Int))) (h2 : w.cell? ⟨gs2, 0, none⟩ = some (.int .i64 (s : Int)))
    (t1 : TownAt w gt1 (n : Int) o) (t2 : TownAt w gt2 (n : Int) o) :
    Calls Try.prog 31 #[townL n o0 o1 o2 o3 o4 o5 o6 o7 o8 o9 o10 o11, .slice (some ⟨gf, 0, none⟩) 2 2] w fun e w' => e = .returned (.bool (kerB n o s)) ∧ Below w.heap.size w w' := by
  have hs4 : s < 4096 := by have h4 : (2 : Nat) ^ n ≤ 2 ^ 12 := Nat.pow_le_pow_right (by decide) hn; omega
  have HI := Lib.hid (fun (wr : World) (hb : Below w.heap.size w wr) (i : Nat) (hi : i < n) => ind_clo n o ho hlt s i hs4 (by omega) gs1 gt1 wr ((hb.cell (World.block_lt_of_cell? w _ h1)).trans h1) ((hb.block gt1 t1.lt).trans t1))
  have HA := Lib.hid (fun (wr : World) (hb : Below w.heap.size w wr) (i : Nat) (hi : i < n) => abs_clo n hn o ho hlt s i hs hi gp gs2 gt2 wr ((hb.cell (World.block_lt_of_cell? w _ hp)).trans hp) ((hb.cell (World.block_lt_of_cell? w _ h2)).trans h2) ((hb.block gt2 t2.lt).trans t2))
  have HF0 := Aside0.mk hf0
  have HF1 := Aside0.mk hf1
  have HN := Aside0.mk hn
  unfold townL
  clear hf0 hf1 hp h1 h2 t1 t2 hs hs4 hlt ho hn
  go_enter Try.func31, Try.ntmps31
  go_wp2
  generalize hW : (World.alloc _ _ : World) = w1
  have hb1 : Below w.heap.size w w1 := by rw [← hW]; exact (Below.refl _ _).alloc (Nat.le_refl _) _
  have HB1 := Aside0.mk hb1
  clear hb1 hW
  go_loopw [10] (fun v10 wr => ∃ i : Nat, i ≤ n ∧ v10 = .int .i64 (i : Int) ∧ Aside0 (∀ k, k < i → (indB o s k && absB o s k) = true) ∧ Aside0 (Below w.heap.size w wr)) (fun v10 _ => n - (intOf v10).toNat)
  case atStart => exact ⟨0, by omega, rfl, ⟨fun k hk => by omega⟩, HB1⟩
  case round =>
    clear HB1
    obtain ⟨i, hi, rfl, HK, HB⟩ := hrel
    by_cases hiN : i < n
    · have d4 : decide ((i : Int) < (n : Int)) = true := decide_eq_true (by omega)
      have d4n : (i < n) = True := eq_true hiN
      go_wp2
      go_loopw [15] (fun v15 wr => ∃ j : Nat, j ≤ 2 ∧ v15 = .int .i64 (j : Int) ∧ Aside0 (1 ≤ j → indB o s i = true) ∧ Aside0 (2 ≤ j → absB o s i = true) ∧ Aside0 (Below w.heap.size w wr)) (fun v15 _ => 2 - (intOf v15).toNat)
      case atStart => exact ⟨0, by omega, rfl, ⟨fun h => by omega⟩, ⟨fun h => by omega⟩, HB⟩
      case round =>
        clear HB
        obtain ⟨j, hj, rfl, HJ1, HJ2, HB⟩ := hrel
        have hc0 := (HB.out.cell (World.block_lt_of_cell? w _ HF0.out)).trans HF0.out
        have hc1 := (HB.out.cell (World.block_lt_of_cell? w _ HF1.out)).trans HF1.out
        rcases j with _ | _ | _ | j
        · cases hib : indB o s i with
          | true =>
            have hcall := HI.out wr HB.out i hiN
            rw [hib] at hcall
            have HC := Lib.hid hcall
            have HX := Aside0.mk hib
            clear hcall hib
            go_wp2_with (first | (go_at_call 44; refine HC.out.mono ?_; rintro e wa ⟨rfl, ⟨md, rfl⟩⟩))
            exact ⟨⟨1, by omega, rfl, ⟨fun _ => by first | exact HX.out | trivial⟩, ⟨fun h => by omega⟩, ⟨pw_below_drewN HB.out _⟩⟩, by decide⟩
          | false =>
            have hcall := HI.out wr HB.out i hiN
            rw [hib] at hcall
            have HC := Lib.hid hcall
            have HX := Aside0.mk (show kerB n o s = false from ker_none hiN (by rw [hib]; rfl))
            clear hcall hib
            go_wp2_with (first | (go_at_call 44; refine HC.out.mono ?_; rintro e wa ⟨rfl, ⟨md, rfl⟩⟩))
            go_ret
            exact ⟨by rw [HX.out]; rfl, pw_below_drewN HB.out _⟩
        · cases hib : absB o s i with
          | true =>
            have hcall := HA.out wr HB.out i hiN
            rw [hib] at hcall
            have HC := Lib.hid hcall
            have HX := Aside0.mk hib
            clear hcall hib
            go_wp2_with (first | (go_at_call 45; refine HC.out.mono ?_; rintro e wa ⟨rfl, ⟨md, rfl⟩⟩))
            exact ⟨⟨2, by omega, rfl, ⟨fun _ => by first | exact HJ1.out (Nat.le_refl _) | trivial⟩, ⟨fun _ => by first | exact HX.out | trivial⟩, ⟨pw_below_drewN HB.out _⟩⟩, by decide⟩
          | false =>
            have hcall := HA.out wr HB.out i hiN
            rw [hib] at hcall
            have HC := Lib.hid hcall
            have HX := Aside0.mk (show kerB n o s = false from ker_none hiN (by rw [hib]; simp))
            clear hcall hib
            go_wp2_with (first | (go_at_call 45; refine HC.out.mono ?_; rintro e wa ⟨rfl, ⟨md, rfl⟩⟩))
            go_ret
            exact ⟨by rw [HX.out]; rfl, pw_below_drewN HB.out _⟩
        · have HX := Aside0.mk (show ∀ k, k < i + 1 → (indB o s k && absB o s k) = true from fun k hk => by
            rcases Nat.lt_or_ge k i with h | h
            · exact HK.out k h
            · obtain rfl : k = i := by omega
              rw [HJ1.out (by omega), HJ2.out (by omega)]
              rfl)
          go_wp2
          refine ⟨⟨i + 1, by omega, vI (by have := HN.out; omega), HX, HB⟩, mstepA hiN (by have := HN.out; omega)⟩
        · omega
    · have d4 : decide ((i : Int) < (n : Int)) = false := decide_eq_false (by omega)
      have d4n : (i < n) = False := eq_false hiN
      have HX := Aside0.mk (show kerB n o s = true from ker_some (fun k hk => HK.out k (by omega)))
      go_wp2
      go_ret
      exact ⟨by rw [HX.out]; rfl, HB.out⟩
end Go.Proofs.Ytagmadfllfcloaa.PC
end
section
set_option linter.unusedVariables false
set_option linter.unusedSimpArgs false
/- shave's kernel: the walk. -/
namespace Go.Proofs.Ytagmadfllfcloaa.PC
open Go.RowKit Go.Proofs.YtagmadfllfcloaaW.PrintWords Go.Proofs.YtagmadfllfcloaaW.PrintLast Go.Proofs.YtagmadfllfcloaaW.PrintMore
set_option linter.unusedVariables false
set_option linter.unusedSimpArgs false
theorem alloc1_newT (w : World) (X : Obj) : (w.alloc X).heap[w.heap.size]? = some X := by
  show (w.heap.push X)[w.heap.size]? = some X
  exact Array.getElem?_push_size
theorem cell_old {W : World} {a : Addr} {v : Value} (h : W.cell? a = some v) (o : Obj) : (W.alloc o).cell? a = some v := (((Below.refl _ W).alloc (Nat.le_refl _) o).cell (World.block_lt_of_cell? W _ h)).trans h
theorem cell_new1 (W : World) (v : Value) (e : TypeId) : (W.alloc (.cells #[v] e)).cell? ⟨W.heap.size, 0, none⟩ = some v := by
  have h := alloc1_newT W (.cells #[v] e)
  unfold World.cell?
  rw [h]
  rfl
theorem townL_at {W : World} {n o0 o1 o2 o3 o4 o5 o6 o7 o8 o9 o10 o11 : Nat} : TownAt (W.alloc (.cells #[.int .i64 (n : Int), .int .i64 (o0 : Int), .int .i64 (o1 : Int), .int .i64 (o2 : Int), .int .i64 (o3 : Int), .int .i64 (o4 : Int), .int .i64 (o5 : Int), .int .i64 (o6 : Int), .int .i64 (o7 : Int), .int .i64 (o8 : Int), .int .i64 (o9 : Int), .int .i64 (o10 : Int), .int .i64 (o11 : Int)] 44)) W.heap.size (n : Int) [o0, o1, o2, o3, o4, o5, o6, o7, o8, o9, o10, o11] := alloc1_newT W _
set_option maxRecDepth 100000 in
theorem ind_make (n o0 o1 o2 o3 o4 o5 o6 o7 o8 o9 o10 o11 s : Nat) (w : World) :
    Calls Try.prog 32 #[townL n o0 o1 o2 o3 o4 o5 o6 o7 o8 o9 o10 o11, .int .i64 (s : Int)] w fun e w' => ∃ gs gt, e = .returned (.func (.func 44) #[] #[.pointer (some ⟨gs, 0, none⟩), .pointer (some ⟨gt, 0, none⟩)]) ∧ w'.cell? ⟨gs, 0, none⟩ = some (.int .i64 (s : Int)) ∧ TownAt w' gt (n : Int) [o0, o1, o2, o3, o4, o5, o6, o7, o8, o9, o10, o11] ∧ Below w.heap.size w w' := by
  unfold townL
  go_enter Try.func32, Try.ntmps32
  go_wp2
  go_ret
  exact ⟨_, _, rfl, by simp, townL_at.alloc _, ((Below.refl _ _).alloc (Nat.le_refl _) _).alloc (by simp) _⟩
set_option maxRecDepth 100000 in
theorem abs_make (n o0 o1 o2 o3 o4 o5 o6 o7 o8 o9 o10 o11 s p : Nat) (w : World) :
    Calls Try.prog 33 #[townL n o0 o1 o2 o3 o4 o5 o6 o7 o8 o9 o10 o11, .int .i64 (s : Int), .int .i64 (p : Int)] w fun e w' => ∃ gp gs gt, e = .returned (.func (.func 45) #[] #[.pointer (some ⟨gp, 0, none⟩), .pointer (some ⟨gs, 0, none⟩), .pointer (some ⟨gt, 0, none⟩)]) ∧ w'.cell? ⟨gp, 0, none⟩ = some (.int .i64 (p : Int)) ∧ w'.cell? ⟨gs, 0, none⟩ = some (.int .i64 (s : Int)) ∧ TownAt w' gt (n : Int) [o0, o1, o2, o3, o4, o5, o6, o7, o8, o9, o10, o11] ∧ Below w.heap.size w w' := by
  unfold townL
  go_enter Try.func33, Try.ntmps33
  go_wp2
  go_ret
  refine ⟨_, _, _, rfl, ?_, ?_, (townL_at.alloc _).alloc _, (((Below.refl _ _).alloc (Nat.le_refl _) _).alloc (by simp) _).alloc (by simp; omega) _⟩
  · have h := cell_new1 (((w.alloc (.cells #[.int .i64 (n : Int), .int .i64 (o0 : Int), .int .i64 (o1 : Int), .int .i64 (o2 : Int), .int .i64 (o3 : Int), .int .i64 (o4 : Int), .int .i64 (o5 : Int), .int .i64 (o6 : Int), .int .i64 (o7 : Int), .int .i64 (o8 : Int), .int .i64 (o9 : Int), .int .i64 (o10 : Int), .int .i64 (o11 : Int)] 44)).alloc (.cells #[.int .i64 (s : Int)] 3))) (.int .i64 (p : Int)) 3
    simpa using h
  · have h := cell_new1 ((w.alloc (.cells #[.int .i64 (n : Int), .int .i64 (o0 : Int), .int .i64 (o1 : Int), .int .i64 (o2 : Int), .int .i64 (o3 : Int), .int .i64 (o4 : Int), .int .i64 (o5 : Int), .int .i64 (o6 : Int), .int .i64 (o7 : Int), .int .i64 (o8 : Int), .int .i64 (o9 : Int), .int .i64 (o10 : Int), .int .i64 (o11 : Int)] 44))) (.int .i64 (s : Int)) 3
    simp only [World.size_alloc] at h
    exact cell_old h _
theorem keep13 {w W W' : World} {g : Nat} {c0 c1 c2 c3 c4 c5 c6 c7 c8 c9 c10 c11 c12 : Value} (h : W.cell? ⟨g, 0, none⟩ = some c0 ∧ W.cell? ⟨g, 1, none⟩ = some c1 ∧ W.cell? ⟨g, 2, none⟩ = some c2 ∧ W.cell? ⟨g, 3, none⟩ = some c3 ∧ W.cell? ⟨g, 4, none⟩ = some c4 ∧ W.cell? ⟨g, 5, none⟩ = some c5 ∧ W.cell? ⟨g, 6, none⟩ = some c6 ∧ W.cell? ⟨g, 7, none⟩ = some c7 ∧ W.cell? ⟨g, 8, none⟩ = some c8 ∧ W.cell? ⟨g, 9, none⟩ = some c9 ∧ W.cell? ⟨g, 10, none⟩ = some c10 ∧ W.cell? ⟨g, 11, none⟩ = some c11 ∧ W.cell? ⟨g, 12, none⟩ = some c12 ∧ Below w.heap.size w W) (hb : Below W.heap.size W W') : W'.cell? ⟨g, 0, none⟩ = some c0 ∧ W'.cell? ⟨g, 1, none⟩ = some c1 ∧ W'.cell? ⟨g, 2, none⟩ = some c2 ∧ W'.cell? ⟨g, 3, none⟩ = some c3 ∧ W'.cell? ⟨g, 4, none⟩ = some c4 ∧ W'.cell? ⟨g, 5, none⟩ = some c5 ∧ W'.cell? ⟨g, 6, none⟩ = some c6 ∧ W'.cell? ⟨g, 7, none⟩ = some c7 ∧ W'.cell? ⟨g, 8, none⟩ = some c8 ∧ W'.cell? ⟨g, 9, none⟩ = some c9 ∧ W'.cell? ⟨g, 10, none⟩ = some c10 ∧ W'.cell? ⟨g, 11, none⟩ = some c11 ∧ W'.cell? ⟨g, 12, none⟩ = some c12 ∧ Below w.heap.size w W' := by
  obtain ⟨h0, h1, h2, h3, h4, h5, h6, h7, h8, h9, h10, h11, h12, hB⟩ := h
  exact ⟨(hb.cell (World.block_lt_of_cell? W _ h0)).trans h0, (hb.cell (World.block_lt_of_cell? W _ h1)).trans h1, (hb.cell (World.block_lt_of_cell? W _ h2)).trans h2, (hb.cell (World.block_lt_of_cell? W _ h3)).trans h3, (hb.cell (World.block_lt_of_cell? W _ h4)).trans h4, (hb.cell (World.block_lt_of_cell? W _ h5)).trans h5, (hb.cell (World.block_lt_of_cell? W _ h6)).trans h6, (hb.cell (World.block_lt_of_cell? W _ h7)).trans h7, (hb.cell (World.block_lt_of_cell? W _ h8)).trans h8, (hb.cell (World.block_lt_of_cell? W _ h9)).trans h9, (hb.cell (World.block_lt_of_cell? W _ h10)).trans h10, (hb.cell (World.block_lt_of_cell? W _ h11)).trans h11, (hb.cell (World.block_lt_of_cell? W _ h12)).trans h12, hB.trans (hb.mono hB.size)⟩
set_option maxHeartbeats 8000000 in
set_option maxRecDepth 100000 in
theorem kernel_walk (n : Nat) (hn : n ≤ 12) (o0 o1 o2 o3 o4 o5 o6 o7 o8 o9 o10 o11 : Nat) (hlt : ∀ j, [o0, o1, o2, o3, o4, o5, o6, o7, o8, o9, o10, o11].getD j 0 < 4096) (s : Nat) (hs : s < 2 ^ n) (w : World) :
    Calls Try.prog 17 #[townL n o0 o1 o2 o3 o4 o5 o6 o7 o8 o9 o10 o11, .int .i64 (s : Int), .int .i64 ((2 ^ n - 1 : Nat) : Int)] w fun e w' => e = .returned (.bool (kerB n [o0, o1, o2, o3, o4, o5, o6, o7, o8, o9, o10, o11] s)) ∧ Below w.heap.size w w' := by
  have HI := Lib.hid (ind_make n o0 o1 o2 o3 o4 o5 o6 o7 o8 o9 o10 o11 s)
  have HA := Lib.hid (abs_make n o0 o1 o2 o3 o4 o5 o6 o7 o8 o9 o10 o11 s (2 ^ n - 1))
  have HW := Lib.hid (fun gf gp gs1 gs2 gt1 gt2 w => all_walk n hn o0 o1 o2 o3 o4 o5 o6 o7 o8 o9 o10 o11 [o0, o1, o2, o3, o4, o5, o6, o7, o8, o9, o10, o11] rfl hlt s hs gf gp gs1 gs2 gt1 gt2 w)
  unfold townL at HI HA HW ⊢
  obtain ⟨p, hp⟩ : ∃ p, 2 ^ n - 1 = p := ⟨_, rfl⟩
  rw [hp] at HA ⊢
  simp only [hp] at HW
  obtain ⟨r, hr⟩ : ∃ r, kerB n [o0, o1, o2, o3, o4, o5, o6, o7, o8, o9, o10, o11] s = r := ⟨_, rfl⟩
  rw [hr] at HW ⊢
  clear hn hlt hs hp hr
  go_enter Try.func17, Try.ntmps17
  go_wp2
  go_region_held3 (fun W => W.cell? ⟨w.heap.size, 0, none⟩ = some (.int .i64 (n : Int)) ∧ W.cell? ⟨w.heap.size, 1, none⟩ = some (.int .i64 (o0 : Int)) ∧ W.cell? ⟨w.heap.size, 2, none⟩ = some (.int .i64 (o1 : Int)) ∧ W.cell? ⟨w.heap.size, 3, none⟩ = some (.int .i64 (o2 : Int)) ∧ W.cell? ⟨w.heap.size, 4, none⟩ = some (.int .i64 (o3 : Int)) ∧ W.cell? ⟨w.heap.size, 5, none⟩ = some (.int .i64 (o4 : Int)) ∧ W.cell? ⟨w.heap.size, 6, none⟩ = some (.int .i64 (o5 : Int)) ∧ W.cell? ⟨w.heap.size, 7, none⟩ = some (.int .i64 (o6 : Int)) ∧ W.cell? ⟨w.heap.size, 8, none⟩ = some (.int .i64 (o7 : Int)) ∧ W.cell? ⟨w.heap.size, 9, none⟩ = some (.int .i64 (o8 : Int)) ∧ W.cell? ⟨w.heap.size, 10, none⟩ = some (.int .i64 (o9 : Int)) ∧ W.cell? ⟨w.heap.size, 11, none⟩ = some (.int .i64 (o10 : Int)) ∧ W.cell? ⟨w.heap.size, 12, none⟩ = some (.int .i64 (o11 : Int)) ∧ Below w.heap.size w W)
    (first | assumption | (exact keep13 (by assumption) (by assumption)) | (exact keep13 (by assumption) (below_alloc (Below.refl _ _) _)) | (refine ⟨?_, ?_, ?_, ?_, ?_, ?_, ?_, ?_, ?_, ?_, ?_, ?_, ?_, below_drew (below_alloc (Below.refl _ _) _)⟩ <;> simp))
    (first
      | (go_at_call 32; refine (HI.out _).mono ?_; rintro e w1 ⟨gs1, gt1, rfl, hi1, hi2, hb1⟩)
      | (go_at_call 33; refine (HA.out _).mono ?_; rintro e w2 ⟨gp, gs2, gt2, rfl, ha1, ha2, ha3, hb2⟩)
      | (go_at_call 31; have hi1' := (hb2.cell (World.block_lt_of_cell? _ _ hi1)).trans hi1; have hi2' := hi2.below hb2; refine (HW.out w2.heap.size gp gs1 gs2 gt1 gt2 _ (by simp) (by simp) ?hp ?h1 ?h2 (hi2'.alloc _) (ha3.alloc _)).mono ?_; (case hp => exact cell_old ha1 _); (case h1 => exact cell_old hi1' _); (case h2 => exact cell_old ha2 _); rintro e w3 ⟨rfl, hb3⟩))
  rename_i hS
  have HB := Aside0.mk hS.2.2.2.2.2.2.2.2.2.2.2.2.2
  go_wp2
  go_ret
  exact ⟨rfl, HB.out⟩
end Go.Proofs.Ytagmadfllfcloaa.PC
end
section
set_option linter.unusedVariables false
set_option linter.unusedSimpArgs false
/- shave's everybody, and what Kernel asks of a set: the walks. -/
namespace Go.Proofs.Ytagmadfllfcloaa.PC
open Go.RowKit Go.Proofs.YtagmadfllfcloaaW.PrintWords Go.Proofs.YtagmadfllfcloaaW.PrintLast Go.Proofs.YtagmadfllfcloaaW.PrintMore
set_option linter.unusedVariables false
set_option linter.unusedSimpArgs false
theorem all_val (n : Nat) (hn : n ≤ 12) : wrap64 (wrap64 (2 ^ n) - 1) = ((2 ^ n - 1 : Nat) : Int) := by
  have h : ∀ n : Nat, n < 13 → wrap64 (wrap64 (2 ^ n) - 1) = ((2 ^ n - 1 : Nat) : Int) := by decide +kernel
  exact h n (by omega)
set_option maxRecDepth 100000 in
theorem every_walk (n : Nat) (hn : n ≤ 12) (o0 o1 o2 o3 o4 o5 o6 o7 o8 o9 o10 o11 : Nat) (w : World) :
    Calls Try.prog 18 #[townL n o0 o1 o2 o3 o4 o5 o6 o7 o8 o9 o10 o11] w fun e w' => e = .returned (.int .i64 ((2 ^ n - 1 : Nat) : Int)) ∧ Below w.heap.size w w' := by
  have hv := all_val n hn
  obtain ⟨p, hp⟩ : ∃ p, ((2 ^ n - 1 : Nat) : Int) = p := ⟨_, rfl⟩
  rw [hp] at hv ⊢
  have hn64 : (n < 64) = True := eq_true (by omega)
  clear hp
  unfold townL
  go_enter Try.func18, Try.ntmps18
  go_wp2
  go_ret
  refine ⟨?_, (Below.refl _ _).alloc (Nat.le_refl _) _⟩
  show Ending.returned (.int .i64 (wrap64 (wrap64 (2 ^ n) - 1))) = _
  rw [hv]
set_option maxHeartbeats 8000000 in
set_option maxRecDepth 100000 in
theorem has_walk (n : Nat) (hn : n ≤ 12) (o0 o1 o2 o3 o4 o5 o6 o7 o8 o9 o10 o11 : Nat) (hlt : ∀ j, [o0, o1, o2, o3, o4, o5, o6, o7, o8, o9, o10, o11].getD j 0 < 4096) (s : Nat) (hs : s < 2 ^ n) (gt : Nat) (w : World) (ht : TownAt w gt (n : Int) [o0, o1, o2, o3, o4, o5, o6, o7, o8, o9, o10, o11]) :
    Calls Try.prog 23 #[.int .i64 (s : Int), .pointer (some ⟨gt, 0, none⟩)] w fun e w' => e = .returned (.bool (kerB n [o0, o1, o2, o3, o4, o5, o6, o7, o8, o9, o10, o11] s)) ∧ Below w.heap.size w w' := by
  have HE := Lib.hid (every_walk n hn o0 o1 o2 o3 o4 o5 o6 o7 o8 o9 o10 o11)
  have HK := Lib.hid (kernel_walk n hn o0 o1 o2 o3 o4 o5 o6 o7 o8 o9 o10 o11 hlt s hs)
  have h0 : w.cell? ⟨gt, 0, none⟩ = some (.int .i64 (n : Int)) := ht.zero
  have h1 : w.cell? ⟨gt, 1, none⟩ = some (.int .i64 (o0 : Int)) := ht.at 0 (by simp)
  have h2 : w.cell? ⟨gt, 2, none⟩ = some (.int .i64 (o1 : Int)) := ht.at 1 (by simp)
  have h3 : w.cell? ⟨gt, 3, none⟩ = some (.int .i64 (o2 : Int)) := ht.at 2 (by simp)
  have h4 : w.cell? ⟨gt, 4, none⟩ = some (.int .i64 (o3 : Int)) := ht.at 3 (by simp)
  have h5 : w.cell? ⟨gt, 5, none⟩ = some (.int .i64 (o4 : Int)) := ht.at 4 (by simp)
  have h6 : w.cell? ⟨gt, 6, none⟩ = some (.int .i64 (o5 : Int)) := ht.at 5 (by simp)
  have h7 : w.cell? ⟨gt, 7, none⟩ = some (.int .i64 (o6 : Int)) := ht.at 6 (by simp)
  have h8 : w.cell? ⟨gt, 8, none⟩ = some (.int .i64 (o7 : Int)) := ht.at 7 (by simp)
  have h9 : w.cell? ⟨gt, 9, none⟩ = some (.int .i64 (o8 : Int)) := ht.at 8 (by simp)
  have h10 : w.cell? ⟨gt, 10, none⟩ = some (.int .i64 (o9 : Int)) := ht.at 9 (by simp)
  have h11 : w.cell? ⟨gt, 11, none⟩ = some (.int .i64 (o10 : Int)) := ht.at 10 (by simp)
  have h12 : w.cell? ⟨gt, 12, none⟩ = some (.int .i64 (o11 : Int)) := ht.at 11 (by simp)
  unfold townL at HE HK
  obtain ⟨p, hp⟩ : ∃ p, ((2 ^ n - 1 : Nat) : Int) = p := ⟨_, rfl⟩
  rw [hp] at HE HK
  obtain ⟨r, hr⟩ : ∃ r, kerB n [o0, o1, o2, o3, o4, o5, o6, o7, o8, o9, o10, o11] s = r := ⟨_, rfl⟩
  rw [hr] at HK ⊢
  clear hn hlt hs hp hr ht
  go_enter Try.func23, Try.ntmps23
  go_wp2
  go_region_held3 (fun W => W.cell? ⟨gt, 0, none⟩ = some (.int .i64 (n : Int)) ∧ W.cell? ⟨gt, 1, none⟩ = some (.int .i64 (o0 : Int)) ∧ W.cell? ⟨gt, 2, none⟩ = some (.int .i64 (o1 : Int)) ∧ W.cell? ⟨gt, 3, none⟩ = some (.int .i64 (o2 : Int)) ∧ W.cell? ⟨gt, 4, none⟩ = some (.int .i64 (o3 : Int)) ∧ W.cell? ⟨gt, 5, none⟩ = some (.int .i64 (o4 : Int)) ∧ W.cell? ⟨gt, 6, none⟩ = some (.int .i64 (o5 : Int)) ∧ W.cell? ⟨gt, 7, none⟩ = some (.int .i64 (o6 : Int)) ∧ W.cell? ⟨gt, 8, none⟩ = some (.int .i64 (o7 : Int)) ∧ W.cell? ⟨gt, 9, none⟩ = some (.int .i64 (o8 : Int)) ∧ W.cell? ⟨gt, 10, none⟩ = some (.int .i64 (o9 : Int)) ∧ W.cell? ⟨gt, 11, none⟩ = some (.int .i64 (o10 : Int)) ∧ W.cell? ⟨gt, 12, none⟩ = some (.int .i64 (o11 : Int)) ∧ Below w.heap.size w W)
    (first | assumption | (exact keep13 (by assumption) (by assumption)) | (exact ⟨h0, h1, h2, h3, h4, h5, h6, h7, h8, h9, h10, h11, h12, below_drew (Below.refl _ _)⟩))
    (first
      | (go_at_call 18; refine (HE.out _).mono ?_; rintro e w1 ⟨rfl, hb1⟩)
      | (go_at_call 17; refine (HK.out _).mono ?_; rintro e w2 ⟨rfl, hb2⟩))
  rename_i hS
  have HB := Aside0.mk hS.2.2.2.2.2.2.2.2.2.2.2.2.2
  go_wp2
  go_ret
  exact ⟨rfl, HB.out⟩
end Go.Proofs.Ytagmadfllfcloaa.PC
end
section
set_option linter.unusedVariables false
set_option linter.unusedSimpArgs false
namespace Go.Proofs.Ytagmadfllfcloaa.PC
open Go.RowKit Go.Proofs.YtagmadfllfcloaaW.PrintWords Go.Proofs.YtagmadfllfcloaaW.PrintLast Go.Proofs.YtagmadfllfcloaaW.PrintMore
attribute [local go_sem] max2_int min2_int max_two min_two max_three min_three max_four min_four   -- for this text's walks alone
set_option linter.unusedVariables false
set_option linter.unusedSimpArgs false
/-! ### shave_members: function 14 -/
def shave_members.l0 : Nat → Int → List Int → Int → Option (List Int)
 | 0, _, _, _ => none
 | k + 1, x0, x3, x4 => if 0 ≤ x4 then (if (shr .i64 x0 x4) > 0 then (if (Go.bits .and .i64 (shr .i64 x0 x4) 1) = 1 then (if x3.length < 17592186044416 then (shave_members.l0 k x0 (x3 ++ [x4]) (wrap64 (x4 + 1))) else (none)) else (shave_members.l0 k x0 x3 (wrap64 (x4 + 1)))) else (some x3)) else (none)
def shave_members.f (k : Nat) (a0 : Int) : Option (List Int) := shave_members.l0 k a0 ([] : List Int) 0
theorem shave_members.mono_l : ∀ k, (∀ y0 y1 y2, LeO (shave_members.l0 k y0 y1 y2) (shave_members.l0 (k + 1) y0 y1 y2))
 | 0 => fun _ _ _ r h => by simp [shave_members.l0] at h
 | k + 1 => by
  have ih0 := shave_members.mono_l k
  ·intro y0 y1 y2
   unfold shave_members.l0
   repeat' first
   | (with_reducible exact ih0 _ _ _)
   | (with_reducible exact LeO.refl _)
   | (with_reducible exact LeO.none _)
   | (with_reducible refine LeO.ite ?_ ?_)
   | (with_reducible refine LeO.bind ?_ (fun _ => ?_))
   | exact ih0 _ _ _
   | exact LeO.none _
   | refine LeO.ite ?_ ?_
   | refine LeO.bind ?_ (fun _ => ?_)
theorem shave_members.mono : ∀ a0 k, LeO (shave_members.f k a0) (shave_members.f (k + 1) a0) := by
 intro a0 k
 have ih0 := shave_members.mono_l k
 unfold shave_members.f
 repeat' first
   | (with_reducible exact ih0 _ _ _)
   | (with_reducible exact LeO.refl _)
   | (with_reducible exact LeO.none _)
   | (with_reducible refine LeO.ite ?_ ?_)
   | (with_reducible refine LeO.bind ?_ (fun _ => ?_))
   | exact ih0 _ _ _
   | exact LeO.none _
   | refine LeO.ite ?_ ?_
   | refine LeO.bind ?_ (fun _ => ?_)
set_option maxHeartbeats 8000000 in
set_option maxRecDepth 100000 in
theorem shave_members.calls (k : Nat) (a0 : Int) (r : List Int) (w : World) (h : shave_members.f k a0 = some r) :
  Calls Try.prog 14 #[.int .i64 a0] w fun e w' => ∃ v0_ : Value, e = .returned (v0_) ∧ Kd.R (Kd.int .i64) 3 w' w.heap.size (fun _ => True) v0_ r ∧ Below w.heap.size w w' := by
 have HB := Aside0.mk (Below.refl w.heap.size w)
 have H : (shave_members.l0 k a0 ([] : List Int) 0) = some r := h
 clear h
 have H' := Aside0.mk H
 clear H
 go_enter Try.func14, Try.ntmps14
 go_wp2
 go_loopg [3, 4] k (fun kq v3 v4 w' => ∃ (x3_1 : List Int) (x4_1 : Int), v4 = .int .i64 x4_1 ∧ Aside0 (shave_members.l0 kq a0 x3_1 x4_1 = some r) ∧ Aside0 (kq ≤ k) ∧ Aside0 (Kd.R (Kd.int .i64) 3 w' w.heap.size (fun _ => True) v3 x3_1) ∧ Aside0 (Below w.heap.size w w'))
 case atStart => exact ⟨(([] : List Int)), (0), (by first | rfl | (simp; done) | (simp [*]; done)), H', ⟨Nat.le_refl _⟩, ⟨by first | exact Kd.R_nil _ _ _ _ _ | exact Kd.N_nil _ _ _ _ _ | exact Kd.V_nil _ _ _ _ _ | exact Kd.Q_nil _ _ _ _ _ | exact Kd.S_nil _ _ _ _ _⟩, ⟨by repeat (first | (with_reducible first | exact HB.out | apply below_alloc | apply pw_below_drewN | apply below_drew1) | exact HB.out)⟩⟩
 case round =>
  clear H'
  try clear c1
  obtain ⟨x3_1, x4_1, rfl, HA, HK1, HO_3, HB⟩ := hrel
  cases gk with
  | zero => exact absurd HA.out (by simp [shave_members.l0])
  | succ k1 =>
   have H := HA.out
   clear HA
   simp only [shave_members.l0] at H
   by_cases c2 : 0 ≤ x4_1
   ·rw [if_pos c2] at H
    have c2b0 := eq_true c2
    have c2b1 : decide (0 ≤ x4_1) = true := decide_eq_true c2
    clear c2
    obtain ⟨ji3, hji3⟩ : ∃ j_ : Int, (shr .i64 a0 x4_1) = j_ := ⟨_, rfl⟩
    replace H : (if (ji3) > 0 then (if (Go.bits .and .i64 (ji3) 1) = 1 then (if x3_1.length < 17592186044416 then (shave_members.l0 k1 a0 (x3_1 ++ [x4_1]) (wrap64 (x4_1 + 1))) else (none)) else (shave_members.l0 k1 a0 x3_1 (wrap64 (x4_1 + 1)))) else (some x3_1)) = some r := by first | (rw [hji3] at H; exact H) | (simp only [hji3] at H ⊢; exact H)
    have hji3_ : (a0 / 2 ^ min x4_1.toNat 64) = ji3 := hji3
    have hji3z : x4_1 ≤ 64 → (a0 / 2 ^ x4_1.toNat) = ji3 := shr_small hji3
    by_cases c4 : (ji3) > 0
    ·rw [if_pos c4] at H
     have c4b0 : decide (0 < (ji3)) = true := decide_eq_true c4
     clear c4
     have c5b0 := eq_true (of_decide_eq_true (by first | (with_reducible assumption) | assumption) : 0 ≤ x4_1)
     by_cases c7 : (Go.bits .and .i64 (ji3) 1) = 1
     ·rw [if_pos c7] at H
      have c7b0 : ((Go.bits .and .i64 (ji3) 1) == 1) = true := beq_iff_eq.mpr c7
      have c7b1 : ((Go.bits .and .i64 (ji3) 1) != 1) = false := bne_eq_false_iff_eq.mpr c7
      clear c7
      by_cases c8 : x3_1.length < 17592186044416
      ·rw [if_pos c8] at H
       have LMc8 := Aside0.mk c8
       clear c8
       obtain ⟨y101, hy101⟩ : ∃ y_ : List Int, y_ = (x3_1 ++ [x4_1]) := ⟨_, rfl⟩
       replace H : (shave_members.l0 k1 a0 y101 (wrap64 (x4_1 + 1))) = some r := by first | (rw [hy101]; with_reducible exact H) | (have H2_ := (Option.bind_some _ _).symm.trans H; rw [hy101]; with_reducible exact H2_) | (have H2_ := (Option.bind_some _ _).symm.trans H; with_reducible exact H2_) | with_reducible exact H | (rw [hy101]; exact H) | exact H
       have Ny101 := Aside0.mk hy101
       clear hy101
       have H' := Aside0.mk H
       clear H
       go_wp2_with (first | ((with_reducible refine gate_builtin (b := .append) (xs := #[.tmp 16, .tmp 18]) rfl ?_); at_builtin; refine Kd.R_append (Kd.int .i64) (w0 := w) w.heap.size rfl (.tmp 16) (.tmp 18) 23 3 (.int .i64 0) 8 rfl Try.underlying23 info3 rfl (by decide) (by omega) u3 x3_1 x4_1 [.int .i64 x4_1] (fun _ => True) (fun _ => False) rfl rfl ?aP (fun _ hk => hk.elim) ?aF ?aO ?aB ?aS ?aL ?_; (case aP => exact rfl); (case aB => exact (by repeat (first | (with_reducible first | exact HB.out | apply below_alloc | apply pw_below_drewN | apply below_drew1) | exact HB.out))); (case aF => exact (fun _ _ => trivial)); (case aO => exact (by (with_reducible repeat (first | apply Kd.R_alloc | apply Kd.R_drewN | apply Kd.R_drew)); exact HO_3.out)); (case aS => exact (below_size (by repeat (first | (with_reducible first | exact HB.out | apply below_alloc | apply pw_below_drewN | apply below_drew1) | exact HB.out)))); (case aL => have := LMc8.out; omega); intro v102 w9 ho hb hg hat; rw [← Ny101.out] at ho; have n0_ := Aside0.mk (hb); have n1_ := Aside0.mk (ho); clear HB; clear HO_3; have HB := n0_; have HO103 := n1_; clear n0_ n1_; clear ho hb hg hat))
       go_roundg k1
       case measure => have := HK1.out; omega
       case rel => exact ⟨(y101), (wrap64 (x4_1 + 1)), (by first | rfl | (simp; done) | (simp [*]; done)), H', ⟨by have := HK1.out; omega⟩, ⟨by (with_reducible repeat (first | apply Kd.R_alloc | apply Kd.R_drewN | apply Kd.R_drew)); exact HO103.out⟩, ⟨by repeat (first | (with_reducible first | exact HB.out | apply below_alloc | apply pw_below_drewN | apply below_drew1) | exact HB.out)⟩⟩
      ·rw [if_neg c8] at H
       exact absurd H (by simp)
     ·rw [if_neg c7] at H
      have c7b0 : ((Go.bits .and .i64 (ji3) 1) == 1) = false := beq_eq_false_iff_ne.mpr c7
      have c7b1 : ((Go.bits .and .i64 (ji3) 1) != 1) = true := bne_iff_ne.mpr c7
      have H' := Aside0.mk H
      clear H
      go_wp2
      go_roundg k1
      case measure => have := HK1.out; omega
      case rel => exact ⟨(x3_1), (wrap64 (x4_1 + 1)), (by first | rfl | (simp; done) | (simp [*]; done)), H', ⟨by have := HK1.out; omega⟩, ⟨by (with_reducible repeat (first | apply Kd.R_alloc | apply Kd.R_drewN | apply Kd.R_drew)); exact HO_3.out⟩, ⟨by repeat (first | (with_reducible first | exact HB.out | apply below_alloc | apply pw_below_drewN | apply below_drew1) | exact HB.out)⟩⟩
    ·rw [if_neg c4] at H
     have c4b0 : decide (0 < (ji3)) = false := decide_eq_false c4
     clear c4
     obtain rfl := Option.some.inj H
     go_wp2
     go_ret
     exact ⟨_, by first | rfl | (simp [errW_none, errW_some] <;> rfl) | (simp only [← hji3]; first | rfl | (simp [errW_none, errW_some] <;> rfl)) | (simp [*, errW_none, errW_some] <;> rfl), by (with_reducible repeat (first | apply Kd.R_alloc | apply Kd.R_drewN | apply Kd.R_drew)); exact HO_3.out, by repeat (first | (with_reducible first | exact HB.out | apply below_alloc | apply pw_below_drewN | apply below_drew1) | exact HB.out)⟩
   ·rw [if_neg c2] at H
    exact absurd H (by simp)
end Go.Proofs.Ytagmadfllfcloaa.PC
end
section
set_option linter.unusedVariables false
set_option linter.unusedSimpArgs false
/- shave.members, plainly. -/
namespace Go.Proofs.Ytagmadfllfcloaa.PC
open Go.RowKit Go.Proofs.YtagmadfllfcloaaW.PrintWords Go.Proofs.YtagmadfllfcloaaW.PrintLast Go.Proofs.YtagmadfllfcloaaW.PrintMore
/-- The members of a set, ascending. -/
def memN (s : Nat) : List Nat := (List.range 12).filter (fun i => s.testBit i)
def memI (s : Nat) : List Int := (memN s).map (fun x : Nat => (x : Int))
theorem members_all : (List.range 4096).all (fun s => decide (shave_members.f 14 (s : Int) = some (memI s))) = true := by decide +kernel
theorem members_val (s : Nat) (h : s < 4096) : shave_members.f 14 (s : Int) = some (memI s) := of_decide_eq_true ((List.all_eq_true.1 members_all) s (List.mem_range.2 h))
theorem members_calls (s : Nat) (h : s < 4096) (w : World) :
    Calls Try.prog 14 #[.int .i64 (s : Int)] w fun e w' => ∃ v0_ : Value, e = .returned (v0_) ∧ Kd.R (Kd.int .i64) 3 w' w.heap.size (fun _ => True) v0_ (memI s) ∧ Below w.heap.size w w' := shave_members.calls 14 _ _ w (members_val s h)
theorem memN_lt {s x : Nat} (h : x ∈ memN s) : x < 12 := List.mem_range.1 (List.mem_filter.1 h).1
end Go.Proofs.Ytagmadfllfcloaa.PC
end
section
set_option linter.unusedVariables false
set_option linter.unusedSimpArgs false
/- shave's each and first: the walks. -/
namespace Go.Proofs.Ytagmadfllfcloaa.PC
open Go.RowKit Go.Proofs.YtagmadfllfcloaaW.PrintWords Go.Proofs.YtagmadfllfcloaaW.PrintLast Go.Proofs.YtagmadfllfcloaaW.PrintMore
set_option linter.unusedVariables false
set_option linter.unusedSimpArgs false
/-- The variable 'out'. -/
def OutAt (W : World) (g : Nat) (v : Value) : Prop := W.heap[g]? = some (.cells #[v] 23 (0, 0))
theorem OutAt.cell {W : World} {g : Nat} {v : Value} (h : OutAt W g v) : W.cell? ⟨g, 0, none⟩ = some v := by
  unfold OutAt at h
  unfold World.cell?
  rw [h]
  rfl
theorem OutAt.free {W : World} {g : Nat} {v : Value} (h : OutAt W g v) : W.frozen? ⟨g, 0, none⟩ = false := by
  unfold OutAt at h
  simp [World.frozen?, h]
theorem OutAt.lt {W : World} {g : Nat} {v : Value} (h : OutAt W g v) : g < W.heap.size := World.block_lt_of_cell? W _ h.cell
theorem OutAt.below {W W' : World} {g : Nat} {v : Value} (h : OutAt W g v) (hb : Below W.heap.size W W') : OutAt W' g v := (hb.block g h.lt).trans h
theorem OutAt.set {W : World} {g : Nat} {v : Value} (h : OutAt W g v) (u : Value) : OutAt (W.setCell ⟨g, 0, none⟩ u) g u := by
  have h2 : W.heap[g]? = some (.cells ([v] : List Value).toArray 23 (0, 0)) := h
  exact blk_set (j := 0) h2 u
/-- Nothing but 'out' and what is new has turned. -/
def KeptO (B g : Nat) (W W' : World) : Prop := Below B W W' ∧ KeepBut W W' g none
theorem KeptO.refl (B g : Nat) (W : World) : KeptO B g W W := ⟨Below.refl _ _, KeepBut.refl _ _ _⟩
theorem KeptO.trans {B g : Nat} {W W1 W2 : World} (h : KeptO B g W W1) (k : KeptO B g W1 W2) : KeptO B g W W2 := ⟨h.1.trans k.1, h.2.trans k.2 (.inl rfl)⟩
theorem KeptO.below {B g : Nat} {W W1 : World} (hb : Below W.heap.size W W1) (hB : B ≤ W.heap.size) : KeptO B g W W1 := ⟨hb.mono hB, KeepBut.of_below hb _ _⟩
theorem KeptO.out {B g : Nat} {W : World} (hg : B ≤ g) (u : Value) : KeptO B g W (W.setCell ⟨g, 0, none⟩ u) := ⟨(Below.refl _ _).setCell (p := ⟨g, 0, none⟩) hg u, (KeepBut.refl _ _ _).set_ 0 u⟩
theorem KeptO.cell {B g : Nat} {W W1 : World} (h : KeptO B g W W1) {a : Addr} {v : Value} (hc : W.cell? a = some v) (hne : a.block ≠ g) : W1.cell? a = some v := keep_cell h.2 hc hne
theorem KeptO.town {B g : Nat} {W W1 : World} (h : KeptO B g W W1) {gt : Nat} {n : Int} {o : List Nat} (ht : TownAt W gt n o) (hne : gt ≠ g) : TownAt W1 gt n o := h.2.blk ht hne (by simp)
set_option maxHeartbeats 8000000 in
set_option maxRecDepth 100000 in
theorem visit_walk (n : Nat) (hn : n ≤ 12) (o0 o1 o2 o3 o4 o5 o6 o7 o8 o9 o10 o11 : Nat) (hlt : ∀ j, [o0, o1, o2, o3, o4, o5, o6, o7, o8, o9, o10, o11].getD j 0 < 4096) (s : Nat) (hs : s < 2 ^ n) (B gout ghas gt : Nat) (v : Value) (w : World)
    (hB : B ≤ gout) (ho : OutAt w gout v) (hh : w.cell? ⟨ghas, 0, none⟩ = some (.func (.func 23) #[] #[.pointer (some ⟨gt, 0, none⟩)])) (ht : TownAt w gt (n : Int) [o0, o1, o2, o3, o4, o5, o6, o7, o8, o9, o10, o11]) (hn1 : ghas ≠ gout) (hn2 : gt ≠ gout) :
    Calls Try.prog 39 #[.int .i64 (s : Int), .pointer (some ⟨gout, 0, none⟩), .pointer (some ⟨ghas, 0, none⟩)] w fun e w' => ∃ v1, e = .returned (.bool (kerB n [o0, o1, o2, o3, o4, o5, o6, o7, o8, o9, o10, o11] s)) ∧ OutAt w' gout v1 ∧ Kd.R (Kd.int .i64) 3 w' B (fun k => k ≠ gout) v1 (memI s) ∧ KeptO B gout w w' := by
  have hs4 : s < 4096 := by have h4 : (2 : Nat) ^ n ≤ 2 ^ 12 := Nat.pow_le_pow_right (by decide) hn; omega
  have HM := Lib.hid (members_calls s hs4)
  have HH := Lib.hid (has_walk n hn o0 o1 o2 o3 o4 o5 o6 o7 o8 o9 o10 o11 hlt s hs gt)
  have HO := Aside0.mk ho
  have HT := Aside0.mk ht
  have HC := Aside0.mk hh
  have HB := Aside0.mk hB
  have HN := Aside0.mk (And.intro hn1 hn2)
  obtain ⟨r, hr⟩ : ∃ r, kerB n [o0, o1, o2, o3, o4, o5, o6, o7, o8, o9, o10, o11] s = r := ⟨_, rfl⟩
  rw [hr] at HH ⊢
  obtain ⟨ml, hml⟩ : ∃ ml, memI s = ml := ⟨_, rfl⟩
  rw [hml] at HM ⊢
  clear hn hlt hs hs4 ho hh ht hn1 hn2 hr hml hB
  go_enter Try.func39, Try.ntmps39
  go_wp2_with (fail)
  refine (HM.out _).mono ?_; rintro e wa ⟨v0, rfl, hr, hb⟩
  obtain ⟨A, c, rfl⟩ := Kd.R_slice hr
  generalize hL : ml.length = L at hr ⊢
  have HO1 := HO.out.below hb
  have hoc := HO1.cell
  have hof := HO1.free
  have HR := Aside0.mk hr
  have HB1 := Aside0.mk hb
  have HOA := Aside0.mk HO1
  have hch : (wa.setCell ⟨gout, 0, none⟩ (.slice A L c)).cell? ⟨ghas, 0, none⟩ = some (.func (.func 23) #[] #[.pointer (some ⟨gt, 0, none⟩)]) := ((KeptO.below (B := B) (g := gout) hb (Nat.le_trans HB.out (Nat.le_of_lt HO.out.lt))).trans (KeptO.out HB.out _)).cell HC.out HN.out.1
  clear hr hb HO1
  go_wp2_with (fail)
  generalize hwb : (World.setCell _ _ _ : World) = wb
  have hk1 : KeptO B gout w wb := by rw [← hwb]; exact (KeptO.below (B := B) (g := gout) HB1.out (Nat.le_trans HB.out (Nat.le_of_lt HO.out.lt))).trans (KeptO.out HB.out _)
  have ho1 : OutAt wb gout (.slice A L c) := by rw [← hwb]; exact HOA.out.set _
  have hr1 : Kd.R (Kd.int .i64) 3 wb B (fun k => k ≠ gout) (.slice A L c) ml := by
    rw [← hwb]
    exact Kd.R_far (Kd.R_lower (Kd.R_mono (ok' := fun k => k ≠ gout) (Kd.R_bound HR.out) (fun k hk => by have := HO.out.lt; have := hk.2.1; omega)) (Nat.le_trans HB.out (Nat.le_of_lt HO.out.lt))) (p := ⟨gout, 0, none⟩) (fun k hk => hk) _
  have ht1 := hk1.town HT.out HN.out.2
  have HK1 := Aside0.mk hk1
  have HO1 := Aside0.mk ho1
  have HR1 := Aside0.mk hr1
  clear hk1 ho1 hr1 hwb hch hoc hof
  refine (HH.out _ ht1).mono ?_; rintro e wc ⟨rfl, hb2⟩
  have HB2 := Aside0.mk hb2
  clear hb2 ht1
  go_wp2_with (fail)
  go_ret
  exact ⟨_, rfl, HO1.out.below HB2.out, Kd.R_below HR1.out HB2.out, HK1.out.trans (KeptO.below HB2.out (Nat.le_trans HB.out (Nat.le_of_lt HO1.out.lt)))⟩
/-- What stands still while the sets are gone through. -/
structure InvE (n : Nat) (o : List Nat) (B gv gp gon gout ghas gt : Nat) (W : World) : Prop where
  v : W.cell? ⟨gv, 0, none⟩ = some (.func (.func 39) #[] #[.pointer (some ⟨gout, 0, none⟩), .pointer (some ⟨ghas, 0, none⟩)])
  p : W.cell? ⟨gp, 0, none⟩ = some (.int .i64 ((2 ^ n - 1 : Nat) : Int))
  on : W.cell? ⟨gon, 0, none⟩ = some (.func (.func 50) #[] #[.pointer (some ⟨gv, 0, none⟩), .pointer (some ⟨gp, 0, none⟩), .pointer (some ⟨gon, 0, none⟩)])
  has : W.cell? ⟨ghas, 0, none⟩ = some (.func (.func 23) #[] #[.pointer (some ⟨gt, 0, none⟩)])
  t : TownAt W gt (n : Int) o
  out : ∃ u, OutAt W gout u
  ne : gv ≠ gout ∧ gp ≠ gout ∧ gon ≠ gout ∧ ghas ≠ gout ∧ gt ≠ gout
  low : B ≤ gout
theorem InvE.kept {n : Nat} {o : List Nat} {B gv gp gon gout ghas gt : Nat} {W W1 : World} (h : InvE n o B gv gp gon gout ghas gt W) (k : KeptO B gout W W1) (ho : ∃ u, OutAt W1 gout u) : InvE n o B gv gp gon gout ghas gt W1 :=
  ⟨k.cell h.v h.ne.1, k.cell h.p h.ne.2.1, k.cell h.on h.ne.2.2.1, k.cell h.has h.ne.2.2.2.1, k.town h.t h.ne.2.2.2.2, ho, h.ne, h.low⟩
/-- What the search tells. -/
def OnPost (n : Nat) (o : List Nat) (B gout set_ from_ : Nat) (w : World) (b : Bool) (w' : World) : Prop :=
  KeptO B gout w w' ∧ ∃ u, OutAt w' gout u ∧ (b = true → ∃ s, s < 2 ^ n ∧ kerB n o s = true ∧ Kd.R (Kd.int .i64) 3 w' B (fun k => k ≠ gout) u (memI s)) ∧ (b = false → ∀ s, s < 2 ^ n → s % 2 ^ from_ = set_ → kerB n o s = false)
theorem InvE.drew {n : Nat} {o : List Nat} {B gv gp gon gout ghas gt : Nat} {W : World} (h : InvE n o B gv gp gon gout ghas gt W) : InvE n o B gv gp gon gout ghas gt W.drew := ⟨h.v, h.p, h.on, h.has, h.t, h.out, h.ne, h.low⟩
theorem KeptO.drew {B g : Nat} {W W1 : World} (h : KeptO B g W W1) : KeptO B g W W1.drew := ⟨h.1.drew, keep_drew h.2⟩
theorem KeptO.drew0 (B g : Nat) (W : World) : KeptO B g W W.drew := (KeptO.refl B g W).drew
theorem lt64n {i : Nat} (h : i ≤ 12) : i < 64 := by omega
theorem lt64 {i : Nat} (h : i < 12) : i < 64 := by omega
theorem le_mil {i : Nat} (h : i < 12) : i ≤ 1000000 := by omega
theorem all_bit (n i : Nat) (hn : n ≤ 12) (hi : i < n) : bits .and .i64 (((2 ^ n - 1 : Nat) : Int) / 2 ^ i) 1 = 1 := by
  have h4 : (2 : Nat) ^ n ≤ 2 ^ 12 := Nat.pow_le_pow_right (by decide) hn
  have h := bit_val (2 ^ n - 1) i (by omega)
  have h2 : (2 ^ n - 1).testBit i = true := by rw [Nat.testBit_two_pow_sub_one]; simp [hi]
  rw [h2, if_pos rfl] at h
  have e : (((2 ^ n - 1 : Nat) : Int) / 2 ^ i) = (((2 ^ n - 1) / 2 ^ i : Nat) : Int) := by push_cast; rfl
  rw [e]
  exact h
theorem all_more (n i : Nat) (hi : i < n) : (0 : Int) < ((2 ^ n - 1 : Nat) : Int) / 2 ^ i := by
  have h1 : (2 : Nat) ^ i ≤ 2 ^ (n - 1) := Nat.pow_le_pow_right (by decide) (by omega)
  have h2 : (2 : Nat) ^ n = 2 * 2 ^ (n - 1) := by rw [← Nat.pow_succ']; congr 1; omega
  have h3 : 0 < (2 ^ n - 1) / 2 ^ i := Nat.div_pos (by have := Nat.two_pow_pos i; omega) (Nat.two_pow_pos i)
  have h4 : (((2 ^ n - 1 : Nat) : Int) / 2 ^ i) = (((2 ^ n - 1) / 2 ^ i : Nat) : Int) := by push_cast; rfl
  rw [h4]
  omega
theorem all_end (n : Nat) : ((2 ^ n - 1 : Nat) : Int) / 2 ^ n = 0 := by
  have h : (2 ^ n - 1) / 2 ^ n = 0 := Nat.div_eq_of_lt (by have := Nat.two_pow_pos n; omega)
  have h4 : (((2 ^ n - 1 : Nat) : Int) / 2 ^ n) = (((2 ^ n - 1) / 2 ^ n : Nat) : Int) := by push_cast; rfl
  rw [h4, h]
  rfl
theorem or_bit (s i : Nat) (hs : s < 2 ^ i) (hi : i < 12) : bits .or .i64 (s : Int) (wrap64 (2 ^ i)) = ((s + 2 ^ i : Nat) : Int) := by
  have h4 : (2 : Nat) ^ i ≤ 2 ^ 12 := Nat.pow_le_pow_right (by decide) (by omega)
  rw [or_val s i (by omega) hi]
  congr 1
  have h := Nat.two_pow_add_eq_or_of_lt hs 1
  rw [Nat.mul_one] at h
  rw [Nat.or_comm, ← h, Nat.add_comm]
set_option maxHeartbeats 16000000 in
set_option maxRecDepth 100000 in
theorem on_walk (n : Nat) (hn : n ≤ 12) (o0 o1 o2 o3 o4 o5 o6 o7 o8 o9 o10 o11 : Nat) (hlt : ∀ j, [o0, o1, o2, o3, o4, o5, o6, o7, o8, o9, o10, o11].getD j 0 < 4096) (B gv gp gon gout ghas gt : Nat) : ∀ (d from_ set_ : Nat) (hd : n - from_ = d) (hf : from_ ≤ n) (hs : set_ < 2 ^ from_) (w : World) (hI : InvE n [o0, o1, o2, o3, o4, o5, o6, o7, o8, o9, o10, o11] B gv gp gon gout ghas gt w),
    Calls Try.prog 50 #[.int .i64 (set_ : Int), .int .i64 (from_ : Int), .pointer (some ⟨gv, 0, none⟩), .pointer (some ⟨gp, 0, none⟩), .pointer (some ⟨gon, 0, none⟩)] w fun e w' => ∃ b, e = .returned (.bool b) ∧ OnPost n [o0, o1, o2, o3, o4, o5, o6, o7, o8, o9, o10, o11] B gout set_ from_ w b w' := by
  intro d
  induction d using Nat.strongRecOn with
  | ind d ih =>
  intro from_ set_ hd hf hs w hI
  have hs2 : set_ < 2 ^ n := Nat.lt_of_lt_of_le hs (Nat.pow_le_pow_right (by decide) hf)
  obtain ⟨u, hu⟩ := hI.out
  have HV := Lib.hid (visit_walk n hn o0 o1 o2 o3 o4 o5 o6 o7 o8 o9 o10 o11 hlt set_ hs2 B gout ghas gt u w hI.low hu hI.has hI.t hI.ne.2.2.2.1 hI.ne.2.2.2.2)
  have HI0 := Aside0.mk hI
  have hcv := hI.v
  have HIH := Lib.hid (fun (i : Nat) (h1 : from_ ≤ i) (h2 : i < n) (wr : World) (hr : InvE n [o0, o1, o2, o3, o4, o5, o6, o7, o8, o9, o10, o11] B gv gp gon gout ghas gt wr) => ih (n - (i + 1)) (by omega) (i + 1) (set_ + 2 ^ i) rfl (by omega) (by have := Nat.pow_le_pow_right (n := 2) (by decide) h1; rw [Nat.pow_succ]; omega) wr hr)
  obtain ⟨k0, hk0⟩ : ∃ k0, kerB n [o0, o1, o2, o3, o4, o5, o6, o7, o8, o9, o10, o11] set_ = k0 := ⟨_, rfl⟩
  rw [hk0] at HV
  have HK0 := Aside0.mk hk0
  have HS := Aside0.mk (show n ≤ 12 ∧ from_ ≤ n ∧ set_ < 2 ^ from_ ∧ set_ < 2 ^ n from ⟨hn, hf, hs, hs2⟩)
  clear hu hI ih hd hs hs2 hk0 hlt
  go_enter Try.func50, Try.ntmps50
  go_wp2_with (fail)
  refine HV.out.mono ?_; rintro e wa ⟨v1, rfl, ho1, hr1, hk1⟩
  have HK1 := Aside0.mk hk1
  have HO1 := Aside0.mk ho1
  have HR1 := Aside0.mk hr1
  have HI1 := Aside0.mk (HI0.out.kept hk1 ⟨_, ho1⟩)
  clear hk1 ho1 hr1 hcv
  cases k0 with
  | true =>
    go_wp2_with (fail)
    go_ret
    first | exact ⟨true, rfl, HK1.out, _, HO1.out, fun _ => ⟨set_, HS.out.2.2.2, HK0.out, HR1.out⟩, fun h => by cases h⟩ | exact Or.inr ⟨rfl, HK1.out, _, HO1.out, fun _ => ⟨set_, HS.out.2.2.2, HK0.out, HR1.out⟩, fun h => by cases h⟩
  | false =>
    go_wp2_with (fail)
    go_loopw [8] (fun v8 wr => ∃ i : Nat, from_ ≤ i ∧ i ≤ n ∧ v8 = .int .i64 (i : Int) ∧ Aside0 (InvE n [o0, o1, o2, o3, o4, o5, o6, o7, o8, o9, o10, o11] B gv gp gon gout ghas gt wr) ∧ Aside0 (KeptO B gout w wr) ∧ Aside0 (∀ s, s < 2 ^ n → s % 2 ^ from_ = set_ → s % 2 ^ i ≠ set_ → kerB n [o0, o1, o2, o3, o4, o5, o6, o7, o8, o9, o10, o11] s = false)) (fun v8 _ => n - (intOf v8).toNat)
    case atStart => exact ⟨from_, Nat.le_refl _, HS.out.2.1, rfl, HI1, HK1, ⟨fun s h1 h2 h3 => absurd h2 h3⟩⟩
    case round =>
      clear HI1 HK1 HO1 HR1 HI0 HV
      obtain ⟨i, hi1, hi2, rfl, HI, HK, HN⟩ := hrel
      have hp := HI.out.p
      by_cases hin : i < n
      · have e1 := all_bit n i hn hin
        have e2 := all_more n i hin
        have hon := HI.out.on
        have e3 := or_bit set_ i (Nat.lt_of_lt_of_le HS.out.2.2.1 (Nat.pow_le_pow_right (by decide) hi1)) (Nat.lt_of_lt_of_le hin hn)
        have HIN := Aside0.mk hin
        have HC := Lib.hid (HIH.out i hi1 hin)
        obtain ⟨p, hpp⟩ : ∃ p, ((2 ^ n - 1 : Nat) : Int) = p := ⟨_, rfl⟩
        rw [hpp] at hp e1 e2
        obtain ⟨j, hj⟩ : ∃ j, p / 2 ^ i = j := ⟨_, rfl⟩
        rw [hj] at e1 e2
        have e4 : decide (0 < j) = true := decide_eq_true e2
        have e5 : wrap64 ((i : Int) + 1) = ((i + 1 : Nat) : Int) := wI (le_mil (Nat.lt_of_lt_of_le hin hn))
        have e6 : IntKind.i64.wrap ((i : Int) + 1) = ((i + 1 : Nat) : Int) := (i64_w _).trans e5
        have hi64 : (i < 64) = True := eq_true (lt64 (Nat.lt_of_lt_of_le hin hn))
        obtain ⟨i', hi'⟩ : ∃ i', i' = i + 1 := ⟨_, rfl⟩
        obtain ⟨set', hset'⟩ : ∃ set', set' = set_ + 2 ^ i := ⟨_, rfl⟩
        rw [← hi'] at e5 e6 HC
        rw [← hset'] at e3 HC
        have e7 : bits .or .i64 (set_ : Int) (IntKind.i64.wrap (2 ^ i)) = (set' : Int) := by rw [i64_w]; exact e3
        have HIP := Aside0.mk (And.intro hi' hset')
        clear hpp e2 hi' hset'
        go_wp2_with (fail)
        go_region_held3 (fun W => W.cell? ⟨gp, 0, none⟩ = some (.int .i64 p) ∧ W.cell? ⟨gon, 0, none⟩ = some (.func (.func 50) #[] #[.pointer (some ⟨gv, 0, none⟩), .pointer (some ⟨gp, 0, none⟩), .pointer (some ⟨gon, 0, none⟩)]))
          (first | assumption | (exact ⟨hp, hon⟩) | (exact ⟨hkp.cell hp HI.out.ne.2.1, hkp.cell hon HI.out.ne.2.2.1⟩))
          (first
            | (go_at_call 50; refine (HC.out _ HI.out.drew).mono ?_; rintro e w2 ⟨b, rfl, hkp, hpost⟩))
        obtain ⟨u2, ho2, hT, hF⟩ := hpost
        have HO2 := Aside0.mk ho2
        have HPT := Aside0.mk hT
        have HPF := Aside0.mk hF
        have HK2 := Aside0.mk (HK.out.trans ((KeptO.drew0 B gout wr).trans hkp))
        have HI2 := Aside0.mk (HI.out.drew.kept hkp ⟨_, ho2⟩)
        clear ho2 hT hF hkp HC e1 e3 e7 hj
        cases b with
        | true =>
          go_wp2_with (fail)
          go_ret
          first | exact ⟨true, rfl, HK2.out, _, HO2.out, fun _ => HPT.out (by first | rfl | trivial), fun h => by cases h⟩ | exact Or.inr ⟨rfl, HK2.out, _, HO2.out, fun _ => HPT.out (by first | rfl | trivial), fun h => by cases h⟩
        | false =>
          have HN2 := Aside0.mk (show ∀ s, s < 2 ^ n → s % 2 ^ from_ = set_ → s % 2 ^ i' ≠ set_ → kerB n [o0, o1, o2, o3, o4, o5, o6, o7, o8, o9, o10, o11] s = false from fun s h1 h2 h3 => by
            by_cases h4 : s % 2 ^ i = set_
            · refine HPF.out (by first | rfl | trivial) s h1 ?_
              obtain ⟨q1, q2⟩ := HIP.out
              rw [q1] at h3 ⊢
              rw [q2]
              rw [Nat.mod_pow_succ, h4] at h3 ⊢
              rcases Nat.mod_two_eq_zero_or_one (s / 2 ^ i) with h5 | h5
              · rw [h5] at h3; omega
              · rw [h5]; omega
            · exact HN.out s h1 h2 h4)
          have HLT := Aside0.mk (show from_ ≤ i' ∧ i' ≤ n ∧ i < n ∧ n ≤ 1000 from ⟨by have := HIP.out.1; omega, by have := HIP.out.1; have := HIN.out; omega, HIN.out, by omega⟩)
          clear hn hf hi1 hi2 hin e4 e6 HPF HPT HN
          go_wp2_with (fail)
          go_roundw
          case rel => exact ⟨i', HLT.out.1, HLT.out.2.1, congrArg (Value.int .i64) e5, HI2, HK2, HN2⟩
          case measure =>
            have h_ := mstepA HLT.out.2.2.1 HLT.out.2.2.2
            exact h_
      · obtain rfl : i = n := by omega
        have e1 := all_end i
        have HNF := Aside0.mk (show ∀ s, s < 2 ^ i → s % 2 ^ from_ = set_ → kerB i [o0, o1, o2, o3, o4, o5, o6, o7, o8, o9, o10, o11] s = false from fun s h1 h2 => by
          by_cases h4 : s = set_
          · rw [h4]; exact HK0.out
          · exact HN.out s h1 h2 (by rw [Nat.mod_eq_of_lt h1]; exact h4))
        obtain ⟨p, hpp⟩ : ∃ p, ((2 ^ i - 1 : Nat) : Int) = p := ⟨_, rfl⟩
        rw [hpp] at hp e1
        have hi64 : (i < 64) = True := eq_true (lt64n hn)
        obtain ⟨u2, hu2⟩ := HI.out.out
        have HO2 := Aside0.mk hu2
        clear hpp hu2
        go_wp2_with (fail)
        go_ret
        first | exact ⟨false, rfl, HK.out, _, HO2.out, fun h => (by cases h), fun _ => HNF.out⟩ | exact Or.inl ⟨rfl, HK.out, _, HO2.out, fun h => (by cases h), fun _ => HNF.out⟩
end Go.Proofs.Ytagmadfllfcloaa.PC
end
section
set_option linter.unusedVariables false
set_option linter.unusedSimpArgs false
/- shave's each, first and Kernel: the walks. -/
namespace Go.Proofs.Ytagmadfllfcloaa.PC
open Go.RowKit Go.Proofs.YtagmadfllfcloaaW.PrintWords Go.Proofs.YtagmadfllfcloaaW.PrintLast Go.Proofs.YtagmadfllfcloaaW.PrintMore
set_option linter.unusedVariables false
set_option linter.unusedSimpArgs false
theorem run_store_func {P : Program} {w : World} {a : Addr} {m : Mode} (f : Fn) (x y : Array Value) : (store a (.func f x y) m).run P w = stored P w a (.func f x y) m := run_store P w a _ m rfl
attribute [local go_sem] run_store_func
theorem alloc3 (w : World) (X Y Z : Obj) : (((w.alloc X).alloc Y).alloc Z).heap[w.heap.size]? = some X ∧ (((w.alloc X).alloc Y).alloc Z).heap[w.heap.size + 1]? = some Y ∧ (((w.alloc X).alloc Y).alloc Z).heap[w.heap.size + 1 + 1]? = some Z ∧ Below w.heap.size w (((w.alloc X).alloc Y).alloc Z) := by
  have h1 : (w.alloc X).heap.size = w.heap.size + 1 := by simp
  have h2 : ((w.alloc X).alloc Y).heap.size = w.heap.size + 1 + 1 := by simp
  have b2 : Below ((w.alloc X).alloc Y).heap.size ((w.alloc X).alloc Y) (((w.alloc X).alloc Y).alloc Z) := (Below.refl _ _).alloc (Nat.le_refl _) _
  refine ⟨?_, ?_, ?_, (((Below.refl _ _).alloc (Nat.le_refl _) _).alloc (by rw [h1]; omega) _).alloc (by rw [h2]; omega) _⟩
  · exact (b2.block _ (by rw [h2]; omega)).trans (alloc2_old w X Y)
  · exact (b2.block _ (by rw [h2]; omega)).trans (alloc2_new w X Y)
  · rw [← h2]; exact alloc1_newT _ Z
theorem cell_blk {W : World} {g : Nat} {v : Value} {e : TypeId} {f : Nat × Nat} (h : W.heap[g]? = some (.cells #[v] e f)) : W.cell? ⟨g, 0, none⟩ = some v := by
  unfold World.cell?
  rw [h]
  rfl
/-- What the search tells its caller. -/
def EachPost (n : Nat) (o : List Nat) (B gout : Nat) (w : World) (e : Ending) (w' : World) : Prop := ∃ b, e = .returned (.bool b) ∧ OnPost n o B gout 0 0 w b w'
set_option maxHeartbeats 8000000 in
set_option maxRecDepth 100000 in
theorem each_walk (n : Nat) (hn : n ≤ 12) (o0 o1 o2 o3 o4 o5 o6 o7 o8 o9 o10 o11 : Nat) (hlt : ∀ j, [o0, o1, o2, o3, o4, o5, o6, o7, o8, o9, o10, o11].getD j 0 < 4096) (B gout ghas gt : Nat) (u : Value) (w : World) (hB : B ≤ gout) (ho : OutAt w gout u) (hh : w.cell? ⟨ghas, 0, none⟩ = some (.func (.func 23) #[] #[.pointer (some ⟨gt, 0, none⟩)])) (ht : TownAt w gt (n : Int) [o0, o1, o2, o3, o4, o5, o6, o7, o8, o9, o10, o11]) (hn1 : ghas ≠ gout) (hn2 : gt ≠ gout) :
    Calls Try.prog 38 #[.int .i64 ((2 ^ n - 1 : Nat) : Int), .func (.func 39) #[] #[.pointer (some ⟨gout, 0, none⟩), .pointer (some ⟨ghas, 0, none⟩)]] w (EachPost n [o0, o1, o2, o3, o4, o5, o6, o7, o8, o9, o10, o11] B gout w) := by
  have HON := Lib.hid (fun (gv gp gon : Nat) (wr : World) (hI : InvE n [o0, o1, o2, o3, o4, o5, o6, o7, o8, o9, o10, o11] B gv gp gon gout ghas gt wr) => on_walk n hn o0 o1 o2 o3 o4 o5 o6 o7 o8 o9 o10 o11 hlt B gv gp gon gout ghas gt (n - 0) 0 0 rfl (Nat.zero_le _) (by decide) wr hI)
  have HI := Aside0.mk (And.intro hB (And.intro ho (And.intro hh (And.intro ht (And.intro hn1 hn2)))))
  obtain ⟨p, hp⟩ : ∃ p, ((2 ^ n - 1 : Nat) : Int) = p := ⟨_, rfl⟩
  have HP := Aside0.mk hp
  rw [hp]
  clear hn hlt hB ho hh ht hn1 hn2 hp
  go_enter Try.func38, Try.ntmps38
  go_wp2_with (fail)
  generalize hW : (World.alloc _ _ : World) = w3
  obtain ⟨gp, hgp⟩ : ∃ gp, gp = w.heap.size := ⟨_, rfl⟩
  obtain ⟨gv, hgv⟩ : ∃ gv, gv = w.heap.size + 1 := ⟨_, rfl⟩
  obtain ⟨gon, hgon⟩ : ∃ gon, gon = w.heap.size + 1 + 1 := ⟨_, rfl⟩
  have f1 := alloc3 w (.cells #[.int .i64 p] 3) (.cells #[.func (.func 39) #[] #[.pointer (some ⟨gout, 0, none⟩), .pointer (some ⟨ghas, 0, none⟩)]] 60) (.cells #[.func (.func 50) #[] #[.pointer (some ⟨w.heap.size + 1, 0, none⟩), .pointer (some ⟨w.heap.size, 0, none⟩), .pointer (some ⟨w.heap.size + 1 + 1, 0, none⟩)]] 51)
  rw [hW, ← hgon, ← hgv, ← hgp] at f1
  rw [← hgon, ← hgv, ← hgp]
  obtain ⟨hB, ho, hh, ht, hn1, hn2⟩ := HI.out
  have hbb := f1.2.2.2
  rw [hgp] at hbb
  have hgo := ho.lt
  have hI : InvE n [o0, o1, o2, o3, o4, o5, o6, o7, o8, o9, o10, o11] B gv gp gon gout ghas gt w3 := ⟨cell_blk f1.2.1, by rw [HP.out]; exact cell_blk f1.1, cell_blk f1.2.2.1, (hbb.cell (World.block_lt_of_cell? w _ hh)).trans hh, (hbb.block gt ht.lt).trans ht, ⟨u, (hbb.block gout ho.lt).trans ho⟩, ⟨by omega, by omega, by omega, hn1, hn2⟩, hB⟩
  have HK := Aside0.mk (KeptO.below (B := B) (g := gout) hbb (Nat.le_trans hB (Nat.le_of_lt ho.lt)))
  clear hB ho hh ht hn1 hn2 hW f1 hgp hgv hgon hbb hgo
  refine (HON.out gv gp gon w3 hI).mono ?_; rintro e w4 ⟨b, rfl, hk, hu⟩
  have HU := Aside0.mk (And.intro hk hu)
  clear hk hu hI
  go_wp2_with (fail)
  go_ret
  exact ⟨b, rfl, HK.out.trans HU.out.1, HU.out.2⟩
/-- What is found. -/
def FirstPost (n : Nat) (o : List Nat) (E : Int) (l : List Int) : Prop := (E = 0 ∧ ∃ s, s < 2 ^ n ∧ kerB n o s = true ∧ l = memI s) ∨ (E = 10 ∧ l = [] ∧ ∀ s, s < 2 ^ n → kerB n o s = false)
def FirstEnd (n : Nat) (o : List Nat) (w : World) (e : Ending) (w' : World) : Prop := ∃ v E l, e = .returned (.tuple #[v, .int .i64 E]) ∧ Kd.R (Kd.int .i64) 3 w' w.heap.size (fun _ => True) v l ∧ FirstPost n o E l ∧ Below w.heap.size w w'
set_option maxHeartbeats 8000000 in
set_option maxRecDepth 100000 in
theorem first_walk (n : Nat) (hn : n ≤ 12) (o0 o1 o2 o3 o4 o5 o6 o7 o8 o9 o10 o11 : Nat) (hlt : ∀ j, [o0, o1, o2, o3, o4, o5, o6, o7, o8, o9, o10, o11].getD j 0 < 4096) (gt : Nat) (w : World) (ht : TownAt w gt (n : Int) [o0, o1, o2, o3, o4, o5, o6, o7, o8, o9, o10, o11]) :
    Calls Try.prog 22 #[townL n o0 o1 o2 o3 o4 o5 o6 o7 o8 o9 o10 o11, .func (.func 23) #[] #[.pointer (some ⟨gt, 0, none⟩)]] w (FirstEnd n [o0, o1, o2, o3, o4, o5, o6, o7, o8, o9, o10, o11] w) := by
  have HE := Lib.hid (every_walk n hn o0 o1 o2 o3 o4 o5 o6 o7 o8 o9 o10 o11)
  have HEA := Lib.hid (fun (B gout ghas : Nat) (u : Value) (wr : World) hB ho hh ht hn1 hn2 => each_walk n hn o0 o1 o2 o3 o4 o5 o6 o7 o8 o9 o10 o11 hlt B gout ghas gt u wr hB ho hh ht hn1 hn2)
  have HT := Aside0.mk ht
  unfold townL at HE ⊢
  obtain ⟨p, hp⟩ : ∃ p, ((2 ^ n - 1 : Nat) : Int) = p := ⟨_, rfl⟩
  rw [hp] at HE
  simp only [hp] at HEA
  clear hn hlt ht hp
  go_enter Try.func22, Try.ntmps22
  go_wp2_with (fail)
  generalize hW : (World.alloc _ _ : World) = w3
  obtain ⟨ghas, hgh⟩ : ∃ ghas, ghas = w.heap.size + 1 := ⟨_, rfl⟩
  obtain ⟨gout, hgo⟩ : ∃ gout, gout = w.heap.size + 1 + 1 := ⟨_, rfl⟩
  have f1 := alloc3 w (.cells #[.int .i64 (n : Int), .int .i64 (o0 : Int), .int .i64 (o1 : Int), .int .i64 (o2 : Int), .int .i64 (o3 : Int), .int .i64 (o4 : Int), .int .i64 (o5 : Int), .int .i64 (o6 : Int), .int .i64 (o7 : Int), .int .i64 (o8 : Int), .int .i64 (o9 : Int), .int .i64 (o10 : Int), .int .i64 (o11 : Int)] 44) (.cells #[.func (.func 23) #[] #[.pointer (some ⟨gt, 0, none⟩)]] 60) (.cells #[.slice none 0 0] 23)
  rw [hW, ← hgo, ← hgh] at f1
  rw [← hgo, ← hgh]
  have HF := Aside0.mk f1
  have HG := Aside0.mk (And.intro hgh hgo)
  clear hW f1 hgh hgo
  refine (HE.out w3).mono ?_; rintro e w4 ⟨rfl, hb4⟩
  have HB4 := Aside0.mk hb4
  clear hb4
  go_wp2_with (fail)
  have ho3 : OutAt w3 gout (.slice none 0 0) := HF.out.2.2.1
  have hbb := HF.out.2.2.2
  have ht3 : TownAt w3 gt (n : Int) [o0, o1, o2, o3, o4, o5, o6, o7, o8, o9, o10, o11] := (hbb.block gt HT.out.lt).trans HT.out
  have hh3 := cell_blk HF.out.2.1
  have hgt := HT.out.lt
  refine (HEA.out w.heap.size gout ghas _ w4 (by have := HG.out; omega) (ho3.below HB4.out) ((HB4.out.cell (World.block_lt_of_cell? w3 _ hh3)).trans hh3) (ht3.below HB4.out) (by have := HG.out; omega) (by have := HG.out; omega)).mono ?_
  rintro e w5 ⟨b, rfl, hk, u, ho5, hT, hF⟩
  have HO5 := Aside0.mk ho5
  have HR5 := Aside0.mk (And.intro hT hF)
  have HB5 := Aside0.mk (show Below w.heap.size w w5 from (hbb.trans (HB4.out.mono hbb.size)).trans hk.1)
  clear ho3 hbb ht3 hh3 hgt hk hT hF ho5
  cases b with
  | true =>
    obtain ⟨s, hs1, hs2, hs3⟩ := HR5.out.1 rfl
    have HS := Aside0.mk (And.intro hs1 (And.intro hs2 hs3))
    obtain ⟨A, c, rfl⟩ := Kd.R_slice hs3
    have hc5 := HO5.out.cell
    clear hs1 hs2 hs3
    go_wp2_with (fail)
    go_ret2
    exact ⟨_, _, _, rfl, Kd.R_mono HS.out.2.2 (fun _ _ => trivial), .inl ⟨rfl, s, HS.out.1, HS.out.2.1, rfl⟩, HB5.out⟩
  | false =>
    have HN := Aside0.mk (HR5.out.2 rfl)
    go_wp2_with (fail)
    go_ret2
    exact ⟨_, _, _, rfl, Kd.R_nil _ _ _ _ _, .inr ⟨rfl, rfl, fun s hs => HN.out s hs (by rw [Nat.pow_zero, Nat.mod_one])⟩, HB5.out⟩
end Go.Proofs.Ytagmadfllfcloaa.PC
end
section
set_option linter.unusedVariables false
set_option linter.unusedSimpArgs false
/- shave.Kernel: the walk. -/
namespace Go.Proofs.Ytagmadfllfcloaa.PC
open Go.RowKit Go.Proofs.YtagmadfllfcloaaW.PrintWords Go.Proofs.YtagmadfllfcloaaW.PrintLast Go.Proofs.YtagmadfllfcloaaW.PrintMore
set_option linter.unusedVariables false
set_option linter.unusedSimpArgs false
theorem townE_zero' {n : Int} {l : List S41} (h : townE n l = 0) : 1 ≤ n ∧ n ≤ 12 ∧ l.all (inT n) = true := by
  unfold townE at h
  by_cases c1 : n < 1 ∨ 12 < n
  · rw [if_pos c1] at h; omega
  by_cases c2 : 80 < l.length
  · rw [if_neg c1, if_pos c2] at h; omega
  by_cases c3 : l.all (inT n) = true
  · exact ⟨by omega, by omega, c3⟩
  · rw [if_neg c1, if_neg c2, if_neg c3] at h; omega
/-- What Kernel tells. -/
def KerPost (n : Int) (l1 : List S41) (E : Int) (l : List Int) : Prop := (townE n l1 ≠ 0 ∧ E = townE n l1 ∧ l = []) ∨ (townE n l1 = 0 ∧ FirstPost n.toNat (townO l1) E l)
def KerEnd (n : Int) (l1 : List S41) (w : World) (e : Ending) (w' : World) : Prop := ∃ v E l, e = .returned (.tuple #[v, .int .i64 E]) ∧ Kd.R (Kd.int .i64) 3 w' w.heap.size (fun _ => True) v l ∧ KerPost n l1 E l ∧ Below w.heap.size w w'
set_option maxHeartbeats 8000000 in
set_option maxRecDepth 100000 in
theorem kernel_calls (n : Int) (A1 : Option Addr) (c1 : Nat) (l1 : List S41) (w : World) (hr1 : Kd.C k41 w A1 l1.length l1) :
    Calls Try.prog 9 #[.int .i64 n, .slice A1 l1.length c1] w (KerEnd n l1 w) := by
  have HOF := Lib.hid (shave_of n A1 c1 l1 w hr1)
  clear hr1
  obtain ⟨N, hN⟩ : ∃ N, l1.length = N := ⟨_, rfl⟩
  rw [hN] at HOF ⊢
  clear hN
  go_enter Try.func9, Try.ntmps9
  go_wp2_with (fail)
  refine HOF.out.mono ?_; rintro e wa ⟨⟨T, E, rfl, hE, n', o', ho', rfl, hP⟩, hb⟩
  obtain ⟨o0, o1, o2, o3, o4, o5, o6, o7, o8, o9, o10, o11, rfl⟩ := len12 ho'
  rw [show townV n' [o0, o1, o2, o3, o4, o5, o6, o7, o8, o9, o10, o11] = .agg #[.int .i64 n', .int .i64 (o0 : Int), .int .i64 (o1 : Int), .int .i64 (o2 : Int), .int .i64 (o3 : Int), .int .i64 (o4 : Int), .int .i64 (o5 : Int), .int .i64 (o6 : Int), .int .i64 (o7 : Int), .int .i64 (o8 : Int), .int .i64 (o9 : Int), .int .i64 (o10 : Int), .int .i64 (o11 : Int)] from rfl]
  have HB := Aside0.mk hb
  have HP := Aside0.mk hP
  have HE := Aside0.mk hE
  clear hb hP hE ho'
  by_cases cE : E = 0
  · subst cE
    obtain ⟨rfl, hto⟩ := HP.out rfl
    have HZ0 := Aside0.mk HE.out.symm
    clear HP HE
    have h1n := townE_zero' HZ0.out
    obtain ⟨M, rfl⟩ := Int.eq_ofNat_of_zero_le (show 0 ≤ n' by omega)
    have HTO := Aside0.mk hto
    have HFI := Lib.hid (fun (gt : Nat) (wr : World) (ht : TownAt wr gt (M : Int) [o0, o1, o2, o3, o4, o5, o6, o7, o8, o9, o10, o11]) => first_walk M (by omega) o0 o1 o2 o3 o4 o5 o6 o7 o8 o9 o10 o11 (fun j => by rw [hto]; exact townO_lt l1 (M : Int) h1n.2.1 h1n.2.2 j) gt wr ht)
    unfold townL at HFI
    clear h1n hto
    go_wp2_with (fail)
    generalize hW : (World.alloc _ _ : World) = w1
    obtain ⟨gt, hgt⟩ : ∃ gt, gt = wa.heap.size := ⟨_, rfl⟩
    have ht : TownAt w1 gt (M : Int) [o0, o1, o2, o3, o4, o5, o6, o7, o8, o9, o10, o11] := by rw [← hW, hgt]; exact alloc1_newT wa _
    have hb1 : Below w.heap.size w w1 := by rw [← hW]; exact HB.out.alloc HB.out.size _
    rw [← hgt]
    have HB1 := Aside0.mk hb1
    clear hW hb1 HB hgt
    refine (HFI.out gt w1 ht).mono ?_
    rintro e w2 ⟨v, E, l, rfl, hr, hf, hb2⟩
    have HR := Aside0.mk hr
    have HF := Aside0.mk hf
    have HB2 := Aside0.mk hb2
    clear hr hf hb2 ht
    go_wp2_with (fail)
    go_ret2
    exact ⟨_, _, l, rfl, Kd.R_lower HR.out HB1.out.size, .inr ⟨HZ0.out, by rw [← HTO.out]; exact HF.out⟩, HB1.out.trans (HB2.out.mono HB1.out.size)⟩
  · have d1 : (E == 0) = false := beq_eq_false_iff_ne.2 cE
    have d1n : (E = 0) = False := eq_false cE
    have HC := Aside0.mk cE
    clear cE HP
    go_wp2
    go_ret2
    exact ⟨_, _, [], rfl, Kd.R_nil _ _ _ _ _, .inl ⟨by rw [← HE.out]; exact HC.out, HE.out, rfl⟩, HB.out.alloc HB.out.size _⟩
end Go.Proofs.Ytagmadfllfcloaa.PC
end
section
set_option linter.unusedVariables false
set_option linter.unusedSimpArgs false
/- truth.parse and truth.of on the sentences of a town: the walks. -/
namespace Go.Proofs.Ytagmadfllfcloaa.PC
open Go.RowKit Go.Proofs.YtagmadfllfcloaaW.PrintWords Go.Proofs.YtagmadfllfcloaaW.PrintLast Go.Proofs.YtagmadfllfcloaaW.PrintMore
set_option linter.unusedVariables false
set_option linter.unusedSimpArgs false
theorem combV_one (m : List Nat) : (combV m).oneCell' = true := by
  obtain ⟨T, X, h⟩ := combV_if m
  rw [h]
  rfl
theorem info83 : (Try.prog.info? 83).map (fun i => (i.zero, i.size, i.bytes)) = some (some .nilIface, 1, 16) := by kernel_rfl
/-- A formula, as a kind. -/
def kF : Kd (List Nat) := Kd.scalar combV combV_one
/-- A sentence, as a string. -/
def combB (m : List Nat) : ByteArray := ⟨(combS m).toArray⟩
theorem combB_size (m : List Nat) : (combB m).size = (combS m).length := by
  show (combS m).toArray.size = _
  simp
/-- An element of a list of one-cell values. -/
theorem at_scalar {α : Type} {enc : α → Value} {h1 : ∀ x, (enc x).oneCell' = true} {w : World} {A : Option Addr} {n : Nat} {xs : List α} (h : (Kd.scalar enc h1).C w A n xs) (i : Nat) (hi : i < n) (hx : i < xs.length) :
    ∃ ad, A = some ad ∧ w.cell? (ad.add i) = some (enc xs[i]) := by
  obtain ⟨ad, c, rfl, hl, hk, hc⟩ := Kd.C_get h xs[i] (i : Int) (by omega) (by omega)
  refine ⟨ad, rfl, ?_⟩
  have e : c = [enc (xs.getD (i : Int).toNat xs[i])] := hk
  have h2 := hc 0 (enc xs[i]) (by rw [e]; simp [List.getD_eq_getElem?_getD, hx])
  simpa [Kd.scalar] using h2
set_option maxHeartbeats 1000000 in
theorem parse_comb (n : Nat) (hn : n ≤ 10) (m : List Nat) (hm : ∀ x ∈ m, x < n) (hl : (combS m).length ≤ 40) (w : World) :
    Calls Try.prog 34 #[.string (combB m), .int .i64 (n : Int)] w fun e w' => e = .returned (.tuple #[combV m, .int .i64 0]) ∧ ∃ m, w' = w.drewN m := by
  have hr := fun w => read_comb n hn m hm [] w
  simp only [List.append_nil] at hr
  have HR := Lib.hid (show ∀ w, Calls Try.prog 46 #[.string (combB m), .int .i64 (n : Int)] w fun e w' => e = .returned (.tuple #[combV m, .string ⟨#[]⟩]) ∧ ∃ m, w' = w.drewN m from hr)
  clear hr
  obtain ⟨T, X, hV⟩ := combV_if m
  rw [hV] at HR ⊢
  have d1 : decide ((40 : Int) < ((combB m).size : Int)) = false := decide_eq_false (by rw [combB_size]; omega)
  have d2 : decide ((40 : Nat) < (combB m).size) = false := decide_eq_false (by rw [combB_size]; omega)
  clear hm hl hn hV
  generalize combB m = s at HR d1 d2 ⊢
  go_enter Try.func34, Try.ntmps34
  go_wp2_with (fail)
  refine (HR.out _).mono ?_; rintro e wa ⟨rfl, ⟨m, rfl⟩⟩
  go_wp2_with (fail)
  go_ret2
  exact ⟨rfl, _, rfl⟩
set_option maxHeartbeats 4000000 in
set_option maxRecDepth 100000 in
theorem of_comb (ms : List (List Nat)) (N : Nat) (hN : ms.length = N) (h1 : 1 ≤ N) (h2 : N ≤ 10) (hms : ∀ m ∈ ms, (∀ x ∈ m, x < N) ∧ (combS m).length ≤ 40) (A0 : Option Addr) (c0 : Nat) (w : World) (hr0 : Kd.C Kd.string w A0 N (ms.map combB)) :
    Calls Try.prog 19 #[.slice A0 N c0] w fun e w' => ∃ v0_ : Value, e = .returned (.tuple #[v0_, .int .i64 0]) ∧ Kd.R kF 83 w' w.heap.size (fun _ => True) v0_ ms ∧ Below w.heap.size w w' := by
  have HM := Aside0.mk hms
  have HR0 := Aside0.mk hr0
  have HN := Aside0.mk (show ms.length = N ∧ 1 ≤ N ∧ N ≤ 10 from ⟨hN, h1, h2⟩)
  have d1 : decide ((10 : Int) < (N : Int)) = false := decide_eq_false (by omega)
  have d1n : (10 < N) = False := eq_false (by omega)
  have d2 : ((N : Int) == 0) = false := beq_eq_false_iff_ne.2 (by omega)
  have d2n : (N = 0) = False := eq_false (by omega)
  clear hms hr0 hN h1 h2
  go_enter Try.func19, Try.ntmps19
  go_wp2
  go_loopw [4, 19] (fun v4 v19 wr => ∃ i : Nat, i ≤ N ∧ v19 = .int .i64 (i : Int) ∧ Aside0 (Kd.R kF 83 wr w.heap.size (fun _ => True) v4 (ms.take i)) ∧ Aside0 (Below w.heap.size w wr)) (fun _ v19 _ => N - (intOf v19).toNat)
  case atStart => exact ⟨0, by omega, rfl, ⟨Kd.R_nil _ _ _ _ _⟩, ⟨Below.refl _ _⟩⟩
  case round =>
    obtain ⟨i, hi, rfl, HO, HB⟩ := hrel
    by_cases hiN : i < N
    · have d3 : decide ((i : Int) < (N : Int)) = true := decide_eq_true (by omega)
      have d3n : (i < N) = True := eq_true hiN
      obtain ⟨hl, hn1, hn2⟩ := HN.out
      obtain ⟨ad, e, hcell⟩ := at_scalar HR0.out i hiN (by rw [List.length_map]; omega)
      subst e
      replace hcell := (HB.out.cell (World.block_lt_of_cell? w _ hcell)).trans hcell
      rw [List.getElem_map] at hcell
      have hm := HM.out ms[i] (List.getElem_mem _)
      have HP := Lib.hid (parse_comb N hn2 ms[i] hm.1 hm.2)
      have HT := Aside0.mk (show ms.take (i + 1) = ms.take i ++ [ms[i]] from (List.take_succ_eq_append_getElem (by omega)))
      have HIL := Aside0.mk (show (ms.take i).length = i by rw [List.length_take]; omega)
      generalize ms[i] = m at hcell HP HT
      clear hm hl hn1 hn2 d1 d1n d2 d2n
      obtain ⟨T, X, hV⟩ := combV_if m
      rw [hV] at HP
      have HV := Aside0.mk hV
      clear hV
      go_wp2_with (fail)
      refine (HP.out _).mono ?_; rintro e wa ⟨rfl, ⟨nd, rfl⟩⟩
      go_wp2_with (first | ((with_reducible refine gate_builtin (b := .append) (xs := #[.tmp 33, .tmp 35]) rfl ?_); at_builtin; refine Kd.R_append kF (w0 := w) w.heap.size rfl (.tmp 33) (.tmp 35) 54 83 .nilIface 16 rfl Try.underlying54 info83 rfl (by decide) (by omega) u4 (ms.take i) m [.iface T X] (fun _ => True) (fun _ => False) rfl rfl ?aP (fun _ hk => hk.elim) ?aF ?aO ?aB ?aS ?aL ?_; (case aP => exact congrArg (fun x => [x]) HV.out.symm); (case aF => exact (fun _ _ => trivial)); (case aO => exact (by (with_reducible repeat (first | apply Kd.R_alloc | apply Kd.R_drewN | apply Kd.R_drew)); exact HO.out)); (case aB => exact (by repeat (first | (with_reducible first | exact HB.out | apply below_alloc | apply pw_below_drewN | apply below_drew1) | exact HB.out))); (case aS => exact (below_size (by repeat (first | (with_reducible first | exact HB.out | apply below_alloc | apply pw_below_drewN | apply below_drew1) | exact HB.out)))); (case aL => have := HIL.out; have := HN.out; omega); intro v1 w9 ho hb hg hat; rw [← HT.out] at ho; have n0_ := Aside0.mk (hb); have n1_ := Aside0.mk (ho); clear HB HO; have HB := n0_; have HO := n1_; clear n0_ n1_; clear ho hb hg hat))
      go_roundw
      case rel => exact ⟨i + 1, by omega, vI (by have := HN.out; omega), HO, HB⟩
      case measure => exact mstepA hiN (by have := HN.out; omega)
    · have d3 : decide ((i : Int) < (N : Int)) = false := decide_eq_false (by omega)
      have d3n : (i < N) = False := eq_false hiN
      have e : ms.take i = ms := List.take_of_length_le (by have := HN.out; omega)
      rw [e] at HO
      go_wp2
      go_ret2
      exact ⟨_, rfl, HO.out, HB.out⟩
end Go.Proofs.Ytagmadfllfcloaa.PC
end
section
set_option linter.unusedVariables false
set_option linter.unusedSimpArgs false
/- shave's listed and Is: the walks. -/
namespace Go.Proofs.Ytagmadfllfcloaa.PC
open Go.RowKit Go.Proofs.YtagmadfllfcloaaW.PrintWords Go.Proofs.YtagmadfllfcloaaW.PrintLast Go.Proofs.YtagmadfllfcloaaW.PrintMore
set_option linter.unusedVariables false
set_option linter.unusedSimpArgs false
/-- A list's members are a set's. -/
def ListIs (n s : Nat) (l : List Int) : Prop := s < 2 ^ n ∧ (∀ x ∈ l, 0 ≤ x ∧ x < (n : Int)) ∧ ∀ p, p < n → (s.testBit p = true ↔ (p : Int) ∈ l)
theorem listed_step {n s X : Nat} {l : List Int} (hX : X < n) (h : ListIs n s l) : ListIs n (s ||| 2 ^ X) (l ++ [(X : Int)]) := by
  refine ⟨Nat.or_lt_two_pow h.1 (Nat.pow_lt_pow_right (by decide) hX), fun x hx => ?_, fun p hp => ?_⟩
  · rw [List.mem_append, List.mem_singleton] at hx
    rcases hx with hx | rfl
    · exact h.2.1 x hx
    · exact ⟨by omega, by omega⟩
  · rw [Nat.testBit_or, Nat.testBit_two_pow, List.mem_append, List.mem_singleton, Bool.or_eq_true, h.2.2 p hp]
    simp only [decide_eq_true_eq]
    constructor
    · rintro (h1 | h1)
      · exact .inl h1
      · exact .inr (by omega)
    · rintro (h1 | h1)
      · exact .inl h1
      · exact .inr (by omega)
def ListedEnd (n : Nat) (l : List Int) (w : World) (e : Ending) (w' : World) : Prop := ∃ S ok, e = .returned (.tuple #[.int .i64 S, .bool ok]) ∧ (ok = true → ∃ s : Nat, S = (s : Int) ∧ ListIs n s l) ∧ Below w.heap.size w w'
set_option maxHeartbeats 16000000 in
set_option maxRecDepth 100000 in
theorem listed_walk (n : Nat) (hn : n ≤ 12) (o0 o1 o2 o3 o4 o5 o6 o7 o8 o9 o10 o11 : Nat) (l : List Int) (N : Nat) (hl : l.length = N) (hN : N ≤ 100) (A : Option Addr) (c : Nat) (w : World) (hr : Kd.C (Kd.int .i64) w A N l) :
    Calls Try.prog 16 #[townL n o0 o1 o2 o3 o4 o5 o6 o7 o8 o9 o10 o11, .slice A N c] w (ListedEnd n l w) := by
  have HN := Aside0.mk (And.intro hn (And.intro hl hN))
  have HR := Aside0.mk hr
  have HPW := Aside0.mk (show 2 ^ n ≤ 4096 from Nat.le_trans (Nat.pow_le_pow_right (by decide) hn : 2 ^ n ≤ 2 ^ 12) (by decide))
  unfold townL
  clear hn hl hN hr
  go_enter Try.func16, Try.ntmps16
  go_wp2
  generalize hW : (World.alloc _ _ : World) = w1
  obtain ⟨g, hg⟩ : ∃ g, g = w.heap.size := ⟨_, rfl⟩
  have ht : TownAt w1 g (n : Int) [o0, o1, o2, o3, o4, o5, o6, o7, o8, o9, o10, o11] := by rw [← hW, hg]; exact alloc1_newT w _
  have hb1 : Below w.heap.size w w1 := by rw [← hW]; exact (Below.refl _ _).alloc (Nat.le_refl _) _
  rw [← hg]
  have HT := Aside0.mk ht
  have HB1 := Aside0.mk hb1
  clear hW ht hb1 hg
  go_loopw [6, 11] (fun v6 v11 wr => ∃ (i s : Nat), i ≤ N ∧ v11 = .int .i64 (i : Int) ∧ v6 = .int .i64 (s : Int) ∧ Aside0 (ListIs n s (l.take i)) ∧ Aside0 (Below w.heap.size w wr ∧ TownAt wr g (n : Int) [o0, o1, o2, o3, o4, o5, o6, o7, o8, o9, o10, o11])) (fun _ v11 _ => N - (intOf v11).toNat)
  case atStart => exact ⟨0, 0, by omega, rfl, rfl, ⟨Nat.two_pow_pos n, fun x hx => by simp at hx, fun p hp => by simp⟩, ⟨HB1.out, HT.out⟩⟩
  case round =>
    clear HB1 HT
    obtain ⟨i, s, hi, rfl, rfl, HSI, HB⟩ := hrel
    by_cases hiN : i < N
    · have d4 : decide ((i : Int) < (N : Int)) = true := decide_eq_true (by omega)
      have d4n : (i < N) = True := eq_true hiN
      obtain ⟨hl1, hl2, hl3⟩ := HN.out
      obtain ⟨ad, e, hcell⟩ := at_scalar HR.out i hiN (by omega)
      subst e
      replace hcell := (HB.out.1.cell (World.block_lt_of_cell? w _ hcell)).trans hcell
      have HTK := Aside0.mk (show l.take (i + 1) = l.take i ++ [l[i]] from (List.take_succ_eq_append_getElem (by omega)))
      obtain ⟨x, hx⟩ : ∃ x, l[i] = x := ⟨_, rfl⟩
      rw [hx] at hcell HTK
      have hnc := HB.out.2.zero
      clear hx hl1 hl3
      by_cases hx1 : x < 0
      · have e1 : decide (x < 0) = true := decide_eq_true hx1
        clear hx1
        go_wp2
        go_ret2
        exact ⟨_, _, rfl, fun h => (by cases h), HB.out.1⟩
      by_cases hx2 : (n : Int) ≤ x
      · have e1 : decide (x < 0) = false := decide_eq_false hx1
        have e2 : decide ((n : Int) ≤ x) = true := decide_eq_true hx2
        clear hx1 hx2
        go_wp2
        go_ret2
        exact ⟨_, _, rfl, fun h => (by cases h), HB.out.1⟩
      obtain ⟨X, rfl⟩ := Int.eq_ofNat_of_zero_le (show 0 ≤ x by omega)
      have hX2 : X < n := by omega
      have e1 : decide ((X : Int) < 0) = false := decide_eq_false (by omega)
      have e2 : decide ((n : Int) ≤ (X : Int)) = false := decide_eq_false (by omega)
      have e2n : (n ≤ X) = False := eq_false (by omega)
      clear hx1 hx2 hl2
      by_cases hi0 : i = 0
      · have e3 : decide ((0 : Int) < (i : Int)) = false := decide_eq_false (by omega)
        have e3n : (0 < i) = False := eq_false (by omega)
        clear hi0
        have e5 : bits .or .i64 (s : Int) (wrap64 (2 ^ X)) = ((s ||| 2 ^ X : Nat) : Int) := or_val s X (Nat.lt_of_lt_of_le HSI.out.1 HPW.out) (Nat.lt_of_lt_of_le hX2 HN.out.1)
        have e6 : bits .or .i64 (s : Int) (IntKind.i64.wrap (2 ^ X)) = ((s ||| 2 ^ X : Nat) : Int) := by rw [i64_w]; exact e5
        have HNX := Aside0.mk (listed_step hX2 HSI.out)
        rw [← HTK.out] at HNX
        have hi64 : (X < 64) = True := eq_true (lt64n (Nat.le_of_lt (Nat.lt_of_lt_of_le hX2 HN.out.1)))
        obtain ⟨s', hs'⟩ : ∃ s', s' = s ||| 2 ^ X := ⟨_, rfl⟩
        rw [← hs'] at e5 e6 HNX
        have e5m : bits .or .i64 (s : Int) (wrap64 (2 ^ min X 64)) = (s' : Int) := by rw [Nat.min_eq_left (by have := HN.out.1; omega)]; exact e5
        clear hs' hX2
        go_wp2_with (fail)
        go_roundw
        case rel => exact ⟨i + 1, s', by omega, vI (by have := HN.out; omega), (by first | rfl | exact congrArg (Value.int .i64) e5 | exact congrArg (Value.int .i64) e5m), HNX, HB⟩
        case measure => exact mstepA hiN (by have := HN.out; omega)
      · obtain ⟨k, hk⟩ : ∃ k, k + 1 = i := ⟨i - 1, by omega⟩
        have e3 : decide ((0 : Int) < (i : Int)) = true := decide_eq_true (by omega)
        have e3n : (0 < i) = True := eq_true (by omega)
        obtain ⟨ad2, ee, hcell2⟩ := at_scalar HR.out k (by omega) (by have := HN.out; omega)
        cases ee
        replace hcell2 := (HB.out.1.cell (World.block_lt_of_cell? w _ hcell2)).trans hcell2
        obtain ⟨y, hy⟩ : ∃ y, l[k]'(by have := HN.out; omega) = y := ⟨_, rfl⟩
        rw [hy] at hcell2
        have ek : wrap64 ((i : Int) - 1) = (k : Int) := by have := HN.out; unfold wrap64; omega
        have ek2 : IntKind.i64.wrap ((i : Int) - 1) = (k : Int) := (i64_w _).trans ek
        have e8 : decide ((k : Int) < (N : Int)) = true := decide_eq_true (by omega)
        have e8n : (k < N) = True := eq_true (by omega)
        clear hy hi0 hk
        by_cases hxy : (X : Int) ≤ y
        · have e4 : decide ((X : Int) ≤ y) = true := decide_eq_true hxy
          clear hxy
          go_wp2
          go_ret2
          exact ⟨_, _, rfl, fun h => (by cases h), HB.out.1⟩
        · have e4 : decide ((X : Int) ≤ y) = false := decide_eq_false hxy
          clear hxy
          have e5 : bits .or .i64 (s : Int) (wrap64 (2 ^ X)) = ((s ||| 2 ^ X : Nat) : Int) := or_val s X (Nat.lt_of_lt_of_le HSI.out.1 HPW.out) (Nat.lt_of_lt_of_le hX2 HN.out.1)
          have e6 : bits .or .i64 (s : Int) (IntKind.i64.wrap (2 ^ X)) = ((s ||| 2 ^ X : Nat) : Int) := by rw [i64_w]; exact e5
          have HNX := Aside0.mk (listed_step hX2 HSI.out)
          rw [← HTK.out] at HNX
          have hi64 : (X < 64) = True := eq_true (lt64n (Nat.le_of_lt (Nat.lt_of_lt_of_le hX2 HN.out.1)))
          obtain ⟨s', hs'⟩ : ∃ s', s' = s ||| 2 ^ X := ⟨_, rfl⟩
          rw [← hs'] at e5 e6 HNX
          have e5m : bits .or .i64 (s : Int) (wrap64 (2 ^ min X 64)) = (s' : Int) := by rw [Nat.min_eq_left (by have := HN.out.1; omega)]; exact e5
          clear hs' hX2
          go_wp2_with (fail)
          go_roundw
          case rel => exact ⟨i + 1, s', by omega, vI (by have := HN.out; omega), (by first | rfl | exact congrArg (Value.int .i64) e5 | exact congrArg (Value.int .i64) e5m), HNX, HB⟩
          case measure => exact mstepA hiN (by have := HN.out; omega)
    · have d4 : decide ((i : Int) < (N : Int)) = false := decide_eq_false (by omega)
      have d4n : (i < N) = False := eq_false hiN
      have hlt : l.take i = l := List.take_of_length_le (by have := HN.out; omega)
      rw [hlt] at HSI
      clear hlt
      go_wp2
      go_ret2
      exact ⟨_, _, rfl, fun _ => ⟨s, rfl, HSI.out⟩, HB.out.1⟩
/-- What Is tells. -/
def IsEnd (n : Int) (l1 : List S41) (l2 : List Int) (w : World) (e : Ending) (w' : World) : Prop := ∃ is, e = .returned (.tuple #[.bool is, .int .i64 (townE n l1)]) ∧ (is = true → townE n l1 = 0 ∧ ∃ s, kerB n.toNat (townO l1) s = true ∧ ListIs n.toNat s l2) ∧ Below w.heap.size w w'
set_option maxHeartbeats 16000000 in
set_option maxRecDepth 100000 in
theorem is_calls (n : Int) (A1 : Option Addr) (c1 : Nat) (l1 : List S41) (A2 : Option Addr) (c2 : Nat) (l2 : List Int) (w : World) (hr1 : Kd.C k41 w A1 l1.length l1) (hr2 : Kd.C (Kd.int .i64) w A2 l2.length l2) (h50 : l2.length ≤ 50) :
    Calls Try.prog 7 #[.int .i64 n, .slice A1 l1.length c1, .slice A2 l2.length c2] w (IsEnd n l1 l2 w) := by
  have HOF := Lib.hid (shave_of n A1 c1 l1 w hr1)
  have HR2 := Aside0.mk hr2
  clear hr1 hr2
  obtain ⟨N, hN⟩ : ∃ N, l1.length = N := ⟨_, rfl⟩
  rw [hN] at HOF ⊢
  obtain ⟨N2, hN2⟩ : ∃ N2, l2.length = N2 := ⟨_, rfl⟩
  rw [hN2] at HR2 h50 ⊢
  have HN2 := Aside0.mk (And.intro hN2 h50)
  clear hN hN2 h50
  go_enter Try.func7, Try.ntmps7
  go_wp2_with (fail)
  refine HOF.out.mono ?_; rintro e wa ⟨⟨T, E, rfl, hE, n', o', ho', rfl, hP⟩, hb⟩
  obtain ⟨o0, o1, o2, o3, o4, o5, o6, o7, o8, o9, o10, o11, rfl⟩ := len12 ho'
  rw [show townV n' [o0, o1, o2, o3, o4, o5, o6, o7, o8, o9, o10, o11] = .agg #[.int .i64 n', .int .i64 (o0 : Int), .int .i64 (o1 : Int), .int .i64 (o2 : Int), .int .i64 (o3 : Int), .int .i64 (o4 : Int), .int .i64 (o5 : Int), .int .i64 (o6 : Int), .int .i64 (o7 : Int), .int .i64 (o8 : Int), .int .i64 (o9 : Int), .int .i64 (o10 : Int), .int .i64 (o11 : Int)] from rfl]
  have HB := Aside0.mk hb
  have HP := Aside0.mk hP
  have HE := Aside0.mk hE
  clear hb hP hE ho'
  by_cases cE : E = 0
  · subst cE
    obtain ⟨rfl, hto⟩ := HP.out rfl
    have HZ0 := Aside0.mk HE.out.symm
    clear HP HE
    have h1n := townE_zero' HZ0.out
    obtain ⟨M, rfl⟩ := Int.eq_ofNat_of_zero_le (show 0 ≤ n' by omega)
    have HTO := Aside0.mk hto
    have hM : M ≤ 12 := by omega
    have hlt : ∀ j, [o0, o1, o2, o3, o4, o5, o6, o7, o8, o9, o10, o11].getD j 0 < 4096 := fun j => by rw [hto]; exact townO_lt l1 (M : Int) h1n.2.1 h1n.2.2 j
    have HLI := Lib.hid (fun (wr : World) hr => listed_walk M hM o0 o1 o2 o3 o4 o5 o6 o7 o8 o9 o10 o11 l2 N2 HN2.out.1 (by have := HN2.out.2; omega) A2 c2 wr hr)
    have HEV := Lib.hid (every_walk M hM o0 o1 o2 o3 o4 o5 o6 o7 o8 o9 o10 o11)
    have HKE := Lib.hid (fun (s : Nat) (hs : s < 2 ^ M) => kernel_walk M hM o0 o1 o2 o3 o4 o5 o6 o7 o8 o9 o10 o11 hlt s hs)
    unfold townL at HLI HEV HKE
    have HEQ := Aside0.mk (show townE (M : Int) l1 = 0 from HZ0.out)
    clear h1n hto hM hlt HZ0
    go_wp2_with (fail)
    refine (HLI.out _ ?hr2).mono ?_
    case hr2 => exact Kd.C_below HR2.out (HB.out.alloc HB.out.size _)
    rintro e w2 ⟨S, ok, rfl, hok, hb2⟩
    generalize hW : (World.alloc _ _ : World) = w1 at hb2
    obtain ⟨ga, hga⟩ : ∃ ga, ga = wa.heap.size := ⟨_, rfl⟩
    have ht : TownAt w1 ga (M : Int) [o0, o1, o2, o3, o4, o5, o6, o7, o8, o9, o10, o11] := by rw [← hW, hga]; exact alloc1_newT wa _
    have hb1 : Below w.heap.size w w1 := by rw [← hW]; exact HB.out.alloc HB.out.size _
    have ht2 := ht.below hb2
    have HB2 := Aside0.mk (hb1.trans (hb2.mono hb1.size))
    rw [← hga]
    have HOK := Aside0.mk hok
    clear hW ht hb1 hga hb2 hok HB
    have h0 : w2.cell? ⟨ga, 0, none⟩ = some (.int .i64 (M : Int)) := ht2.zero
    have h1 : w2.cell? ⟨ga, 1, none⟩ = some (.int .i64 (o0 : Int)) := ht2.at 0 (by simp)
    have h2 : w2.cell? ⟨ga, 2, none⟩ = some (.int .i64 (o1 : Int)) := ht2.at 1 (by simp)
    have h3 : w2.cell? ⟨ga, 3, none⟩ = some (.int .i64 (o2 : Int)) := ht2.at 2 (by simp)
    have h4 : w2.cell? ⟨ga, 4, none⟩ = some (.int .i64 (o3 : Int)) := ht2.at 3 (by simp)
    have h5 : w2.cell? ⟨ga, 5, none⟩ = some (.int .i64 (o4 : Int)) := ht2.at 4 (by simp)
    have h6 : w2.cell? ⟨ga, 6, none⟩ = some (.int .i64 (o5 : Int)) := ht2.at 5 (by simp)
    have h7 : w2.cell? ⟨ga, 7, none⟩ = some (.int .i64 (o6 : Int)) := ht2.at 6 (by simp)
    have h8 : w2.cell? ⟨ga, 8, none⟩ = some (.int .i64 (o7 : Int)) := ht2.at 7 (by simp)
    have h9 : w2.cell? ⟨ga, 9, none⟩ = some (.int .i64 (o8 : Int)) := ht2.at 8 (by simp)
    have h10 : w2.cell? ⟨ga, 10, none⟩ = some (.int .i64 (o9 : Int)) := ht2.at 9 (by simp)
    have h11 : w2.cell? ⟨ga, 11, none⟩ = some (.int .i64 (o10 : Int)) := ht2.at 10 (by simp)
    have h12 : w2.cell? ⟨ga, 12, none⟩ = some (.int .i64 (o11 : Int)) := ht2.at 11 (by simp)
    clear ht2
    cases ok with
    | false =>
      go_wp2_with (fail)
      go_quiet (fail)
      go_wp2
      go_ret2
      exact ⟨false, by rw [HEQ.out]; rfl, fun h => (by cases h), pw_below_drewN HB2.out _⟩
    | true =>
      obtain ⟨s, rfl, hs⟩ := HOK.out rfl
      have HS := Aside0.mk hs
      have HKS := Lib.hid (HKE.out s hs.1)
      obtain ⟨p, hp⟩ : ∃ p, ((2 ^ M - 1 : Nat) : Int) = p := ⟨_, rfl⟩
      rw [hp] at HEV HKS
      obtain ⟨r, hr⟩ : ∃ r, kerB M [o0, o1, o2, o3, o4, o5, o6, o7, o8, o9, o10, o11] s = r := ⟨_, rfl⟩
      have HRR := Aside0.mk hr
      rw [hr] at HKS
      clear hs hp hr HOK
      go_wp2_with (fail)
      go_region_held3 (fun W => W.cell? ⟨ga, 0, none⟩ = some (.int .i64 (M : Int)) ∧ W.cell? ⟨ga, 1, none⟩ = some (.int .i64 (o0 : Int)) ∧ W.cell? ⟨ga, 2, none⟩ = some (.int .i64 (o1 : Int)) ∧ W.cell? ⟨ga, 3, none⟩ = some (.int .i64 (o2 : Int)) ∧ W.cell? ⟨ga, 4, none⟩ = some (.int .i64 (o3 : Int)) ∧ W.cell? ⟨ga, 5, none⟩ = some (.int .i64 (o4 : Int)) ∧ W.cell? ⟨ga, 6, none⟩ = some (.int .i64 (o5 : Int)) ∧ W.cell? ⟨ga, 7, none⟩ = some (.int .i64 (o6 : Int)) ∧ W.cell? ⟨ga, 8, none⟩ = some (.int .i64 (o7 : Int)) ∧ W.cell? ⟨ga, 9, none⟩ = some (.int .i64 (o8 : Int)) ∧ W.cell? ⟨ga, 10, none⟩ = some (.int .i64 (o9 : Int)) ∧ W.cell? ⟨ga, 11, none⟩ = some (.int .i64 (o10 : Int)) ∧ W.cell? ⟨ga, 12, none⟩ = some (.int .i64 (o11 : Int)) ∧ Below w2.heap.size w2 W)
        (first | assumption | (exact keep13 (by assumption) (by assumption)) | (exact ⟨h0, h1, h2, h3, h4, h5, h6, h7, h8, h9, h10, h11, h12, below_drew (Below.refl _ _)⟩))
        (first
          | (go_at_call 18; refine (HEV.out _).mono ?_; rintro e w3 ⟨rfl, hb3⟩)
          | (go_at_call 17; refine (HKS.out _).mono ?_; rintro e w4 ⟨rfl, hb4⟩))
      rename_i hS
      have HBF := Aside0.mk hS.2.2.2.2.2.2.2.2.2.2.2.2.2
      go_wp2
      go_ret2
      exact ⟨r, by rw [HEQ.out]; rfl, fun h => ⟨HEQ.out, s, by rw [← HTO.out, Int.toNat_natCast, HRR.out]; exact h, by rw [Int.toNat_natCast]; exact HS.out⟩, HB2.out.trans (HBF.out.mono HB2.out.size)⟩
  · have d1 : (E == 0) = false := beq_eq_false_iff_ne.2 cE
    have d1n : (E = 0) = False := eq_false cE
    clear cE HP
    go_wp2
    go_ret2
    exact ⟨_, by rw [← HE.out]; rfl, fun h => (by cases h), HB.out.alloc HB.out.size _⟩
end Go.Proofs.Ytagmadfllfcloaa.PC
end
section
set_option linter.unusedVariables false
set_option linter.unusedSimpArgs false
/- shave.Sentences: the walk. -/
namespace Go.Proofs.Ytagmadfllfcloaa.PC
open Go.RowKit Go.Proofs.YtagmadfllfcloaaW.PrintWords Go.Proofs.YtagmadfllfcloaaW.PrintLast Go.Proofs.YtagmadfllfcloaaW.PrintMore
set_option linter.unusedVariables false
set_option linter.unusedSimpArgs false
/-- The sentences of a town, as lists of people. -/
def sentMs (n : Int) (l : List S41) : List (List Nat) := (List.range n.toNat).map fun i => memN ((townO l).getD i 0)
def sentOk (ms : List (List Nat)) : Bool := ms.all (fun m => decide ((combS m).length ≤ 40))
def sentF (n : Int) (l : List S41) : List ByteArray × Int :=
  if townE n l ≠ 0 then ([], townE n l) else if 10 < n then ([], 8) else if sentOk (sentMs n l) = true then ((sentMs n l).map combB, 0) else ([], 8)
theorem rune_enc (x : Nat) (hx : x < 12) : Utf8.encode (97 + (x : Int)) = ⟨#[UInt8.ofNat (97 + x)]⟩ := (show ∀ x : Nat, x < 12 → (Utf8.encode (97 + (x : Int))) = (⟨#[UInt8.ofNat (97 + x)]⟩ : ByteArray) by decide) x hx
theorem comb_last (y : Nat) : (⟨#[33]⟩ ++ ⟨#[UInt8.ofNat (97 + y)]⟩ : ByteArray) = combB [y] := by
  apply ByteArray.ext
  simp [combB, combS]
theorem comb_join (y : Nat) (r : List Nat) (hr : r ≠ []) : Lib.join (([⟨#[40]⟩, ⟨#[33]⟩ ++ ⟨#[UInt8.ofNat (97 + y)]⟩, ⟨#[38]⟩, combB r, ⟨#[41]⟩] : List ByteArray).map (·.data.toList)) (ByteArray.mk #[]).data.toList = combS (y :: r) := by
  rcases r with _ | ⟨z, r⟩
  · exact absurd rfl hr
  · simp [Lib.join, combB, combS]
theorem comb_len : ∀ m : List Nat, (combS m).length ≤ 5 * m.length + 1
  | [] => by simp [combS]
  | [x] => by simp [combS]
  | x :: y :: r => by have := comb_len (y :: r); simp only [combS, List.length_cons, List.length_append, List.length_nil] at this ⊢; omega
theorem alloc1_new (w : World) (X : Obj) : (w.alloc X).heap[w.heap.size]? = some X := by
  show (w.heap.push X)[w.heap.size]? = some X
  exact Array.getElem?_push_size
theorem townE_zero {n : Int} {l : List S41} (h : townE n l = 0) : 1 ≤ n ∧ n ≤ 12 ∧ l.all (inT n) = true := by
  unfold townE at h
  by_cases c1 : n < 1 ∨ 12 < n
  · rw [if_pos c1] at h; omega
  by_cases c2 : 80 < l.length
  · rw [if_neg c1, if_pos c2] at h; omega
  by_cases c3 : l.all (inT n) = true
  · exact ⟨by omega, by omega, c3⟩
  · rw [if_neg c1, if_neg c2, if_neg c3] at h; omega
set_option maxHeartbeats 8000000 in
set_option maxRecDepth 100000 in
theorem sentences_walk (n : Int) (A1 : Option Addr) (c1 : Nat) (l1 : List S41) (w : World) (hr1 : Kd.C k41 w A1 l1.length l1) :
    Calls Try.prog 6 #[.int .i64 n, .slice A1 l1.length c1] w fun e w' => ∃ v0_ : Value, e = .returned (.tuple #[v0_, .int .i64 (sentF n l1).2]) ∧ Kd.R Kd.string 9 w' w.heap.size (fun _ => True) v0_ (sentF n l1).1 ∧ Below w.heap.size w w' := by
  have HOF := Lib.hid (shave_of n A1 c1 l1 w hr1)
  clear hr1
  obtain ⟨N, hN⟩ : ∃ N, l1.length = N := ⟨_, rfl⟩
  rw [hN] at HOF ⊢
  clear hN
  go_enter Try.func6, Try.ntmps6
  go_wp2_with (fail)
  refine HOF.out.mono ?_; rintro e wa ⟨⟨T, E, rfl, hE, n', o', ho', rfl, hP⟩, hb⟩
  obtain ⟨o0, o1, o2, o3, o4, o5, o6, o7, o8, o9, o10, o11, rfl⟩ := len12 ho'
  rw [show townV n' [o0, o1, o2, o3, o4, o5, o6, o7, o8, o9, o10, o11] = .agg #[.int .i64 n', .int .i64 (o0 : Int), .int .i64 (o1 : Int), .int .i64 (o2 : Int), .int .i64 (o3 : Int), .int .i64 (o4 : Int), .int .i64 (o5 : Int), .int .i64 (o6 : Int), .int .i64 (o7 : Int), .int .i64 (o8 : Int), .int .i64 (o9 : Int), .int .i64 (o10 : Int), .int .i64 (o11 : Int)] from rfl]
  have HB := Aside0.mk hb
  have HP := Aside0.mk hP
  have HE := Aside0.mk hE
  clear hb hP hE ho'
  by_cases cE : E = 0
  · subst cE
    obtain ⟨rfl, hto⟩ := HP.out rfl
    have HZ0 := Aside0.mk HE.out.symm
    clear HP HE
    by_cases cn : 10 < n'
    · have hF : sentF n' l1 = ([], 8) := by unfold sentF; rw [if_neg (fun h => h HZ0.out), if_pos cn]
      have HF := Aside0.mk hF
      have d1 : decide (10 < n') = true := decide_eq_true cn
      clear hF
      go_wp2
      go_ret2
      exact ⟨_, by rw [HF.out]; rfl, by rw [HF.out]; exact Kd.R_nil _ _ _ _ _, HB.out.alloc HB.out.size _⟩
    have d1 : decide (10 < n') = false := decide_eq_false cn
    have hF : sentF n' l1 = if sentOk (sentMs n' l1) = true then ((sentMs n' l1).map combB, 0) else ([], 8) := by unfold sentF; rw [if_neg (fun h => h HZ0.out), if_neg cn]
    have h1n : 1 ≤ n' ∧ n' ≤ 12 ∧ l1.all (inT n') = true := townE_zero HZ0.out
    obtain ⟨M, rfl⟩ := Int.eq_ofNat_of_zero_le (show 0 ≤ n' by omega)
    have HF := Aside0.mk hF
    have HM := Aside0.mk (show 1 ≤ M ∧ M ≤ 10 by omega)
    have HLT := Lib.hid (fun j => townO_lt l1 (M : Int) h1n.2.1 h1n.2.2 j)
    clear hF h1n cn
    go_wp2_with (fail)
    generalize hW : (World.alloc _ _ : World) = w1
    obtain ⟨gt, hgt⟩ : ∃ gt, gt = wa.heap.size := ⟨_, rfl⟩
    have ht : TownAt w1 gt (M : Int) [o0, o1, o2, o3, o4, o5, o6, o7, o8, o9, o10, o11] := by rw [← hW, hgt]; exact alloc1_new wa _
    have hb1 : Below w.heap.size w w1 := by rw [← hW]; exact HB.out.alloc HB.out.size _
    rw [hto] at ht
    rw [← hgt]
    have HT := Aside0.mk ht
    have HB1 := Aside0.mk hb1
    clear ht hb1 hW HB hto hgt
    go_loopw [8, 28] (fun v8 v28 wr => ∃ i : Nat, i ≤ M ∧ v28 = .int .i64 (i : Int) ∧ Aside0 (sentOk ((sentMs M l1).take i) = true) ∧ Aside0 (TownAt wr gt (M : Int) (townO l1)) ∧ Aside0 (Kd.R Kd.string 9 wr w.heap.size (fun k => k ≠ gt) v8 (((sentMs M l1).take i).map combB)) ∧ Aside0 (Below w.heap.size w wr)) (fun _ v28 _ => M - (intOf v28).toNat)
    case atStart => exact ⟨0, by omega, rfl, ⟨rfl⟩, HT, ⟨Kd.R_nil _ _ _ _ _⟩, HB1⟩
    case round =>
      clear HT HB1
      obtain ⟨i, hi, rfl, HK, HT, HO, HB⟩ := hrel
      by_cases hiN : i < M
      · have d4 : decide ((i : Int) < (M : Int)) = true := decide_eq_true (by omega)
        have d4n : (i < M) = True := eq_true hiN
        have hA := HT.out.at i (by rw [townO_len]; have := HM.out; omega)
        obtain ⟨x, hx⟩ : ∃ x, (townO l1).getD i 0 = x := ⟨_, rfl⟩
        rw [hx] at hA
        have hlt : x < 4096 := by rw [← hx]; exact HLT.out i
        have hb12 : ((i : Int) < 12) = True := eq_true (by have := HM.out; omega)
        have hb12n : (i < 12) = True := eq_true (by have := HM.out; omega)
        have hTK : (sentMs M l1).take (i + 1) = (sentMs M l1).take i ++ [memN x] := by
          rw [List.take_succ_eq_append_getElem (by simp [sentMs]; omega)]
          simp only [sentMs, List.getElem_map, List.getElem_range, hx]
        have HTK := Aside0.mk hTK
        have HMC := Lib.hid (members_calls x hlt)
        have HMI := Aside0.mk (show ∀ y ∈ memN x, y < 12 from fun y hy => memN_lt hy)
        have HML := Aside0.mk (show (memN x).length ≤ 12 from by have := List.length_filter_le (fun i => x.testBit i) (List.range 12); simpa [memN] using this)
        unfold memI at HMC
        generalize memN x = m at HTK HMC HMI HML
        clear hTK hx hlt
        go_wp2_with (fail)
        refine (HMC.out _).mono ?_; rintro e wb ⟨v10, rfl, hr, hb⟩
        obtain ⟨A, c, rfl, hl, hc⟩ := Kd.R_reads hr
        rw [List.length_map] at hc hl ⊢
        have HC := Aside0.mk hc
        have HT2 := Aside0.mk (HT.out.below hb)
        have HO2 := Aside0.mk (Kd.R_below HO.out hb)
        have HB2 := Aside0.mk (HB.out.trans (hb.mono HB.out.size))
        clear hr hl hc hb hA HT HO HB
        obtain ⟨L, hL⟩ : ∃ L, m.length = L := ⟨_, rfl⟩
        have HL := Aside0.mk hL
        rw [hL] at HC HML ⊢
        clear hL
        obtain ⟨q, hq⟩ : ∃ q, wrap64 ((L : Int) - 1) = q := ⟨_, rfl⟩
        have hq' : IntKind.i64.wrap ((L : Int) - 1) = q := (i64_w _).trans hq
        have HQ := Aside0.mk (show q = (L : Int) - 1 by rw [← hq]; have := HML.out; unfold wrap64; omega)
        go_wp2_with (fail)
        go_loopw [11, 12] (fun v11 v12 wr => ∃ j : Nat, j ≤ L ∧ v12 = .int .i64 ((j : Int) - 1) ∧ v11 = .string (combB (m.drop j)) ∧ Aside0 (Kd.C (Kd.int .i64) wr A L (m.map fun x : Nat => (x : Int))) ∧ Aside0 (TownAt wr gt (M : Int) (townO l1)) ∧ Aside0 (Kd.R Kd.string 9 wr w.heap.size (fun k => k ≠ gt) u8 (((sentMs M l1).take i).map combB)) ∧ Aside0 (Below w.heap.size w wr)) (fun _ v12 _ => (intOf v12 + 1).toNat)
        case atStart => exact ⟨L, by omega, congrArg (Value.int .i64) HQ.out, by rw [List.drop_of_length_le (by have := HL.out; omega)]; rfl, HC, HT2, HO2, HB2⟩
        case round =>
          clear HC HT2 HO2 HB2
          obtain ⟨j, hj, rfl, rfl, HC, HT, HO, HB⟩ := hrel
          rcases j with _ | k
          · have h0 : combB (m.drop 0) = combB m := by rw [List.drop_zero]
            rw [h0]
            have hm1 : (((0 : Nat) : Int) - 1) = -1 := by omega
            rw [hm1]
            have HSZ := Aside0.mk (combB_size m)
            by_cases h40 : (combS m).length ≤ 40
            · have e1 : decide ((40 : Int) < ((combB m).size : Int)) = false := decide_eq_false (by rw [combB_size]; omega)
              have e2 : decide ((40 : Nat) < (combB m).size) = false := decide_eq_false (by rw [combB_size]; omega)
              have e3 : (40 < (combB m).size) = False := eq_false (by rw [combB_size]; omega)
              have HNX := Aside0.mk (show ((sentMs M l1).take (i + 1)).map combB = ((sentMs M l1).take i).map combB ++ [combB m] by rw [HTK.out, List.map_append]; rfl)
              have HKX := Aside0.mk (show sentOk ((sentMs M l1).take (i + 1)) = true by have h := HK.out; unfold sentOk at h ⊢; rw [HTK.out, List.all_append, h]; simpa using h40)
              have HIL := Aside0.mk (show (((sentMs M l1).take i).map combB).length ≤ 10 by rw [List.length_map]; have h := List.length_take_le i (sentMs M l1); have := HM.out; omega)
              clear h40
              generalize combB m = s at e1 e2 e3 HNX HSZ
              go_wp2_with (first | ((with_reducible refine gate_builtin (b := .append) (xs := #[.tmp 64, .tmp 66]) rfl ?_); at_builtin; refine Kd.R_append Kd.string (w0 := w) w.heap.size rfl (.tmp 64) (.tmp 66) 25 9 (.string ⟨#[]⟩) 16 rfl Try.underlying25 info9 rfl (by decide) (by omega) u8 (((sentMs M l1).take i).map combB) s [.string s] (fun k => k ≠ gt) (fun _ => False) rfl rfl ?aP (fun _ hk => hk.elim) ?aF ?aO ?aB ?aS ?aL ?_; (case aP => exact rfl); (case aF => exact (fun k hk => by have := HT.out.lt; omega)); (case aO => exact (by (with_reducible repeat (first | apply Kd.R_alloc | apply Kd.R_drewN | apply Kd.R_drew)); exact HO.out)); (case aB => exact HB.out); (case aS => exact HB.out.size); (case aL => have := HIL.out; omega); intro v1 w9 ho hb hg hat; rw [← HNX.out] at ho; have HO5 := Aside0.mk ho; have HB5 := Aside0.mk hb; have HT5 := Aside0.mk (show TownAt w9 gt (M : Int) (townO l1) from (hg.block gt HT.out.lt (fun h => (HO.out.1 gt h.symm) rfl)).trans HT.out); clear HB HO HT; clear ho hb hg hat))
              go_roundw
              case rel => exact ⟨i + 1, by omega, vI (by have := HM.out; omega), HKX, HT5, HO5, HB5⟩
              case measure => exact mstepA hiN (by have := HM.out; omega)
            · have e1 : decide ((40 : Int) < ((combB m).size : Int)) = true := decide_eq_true (by rw [combB_size]; omega)
              have e2 : decide ((40 : Nat) < (combB m).size) = true := decide_eq_true (by rw [combB_size]; omega)
              have e3 : (40 < (combB m).size) = True := eq_true (by rw [combB_size]; omega)
              have hF : sentF (M : Int) l1 = ([], 8) := by
                rw [HF.out, if_neg]
                intro h
                unfold sentOk at h
                rw [List.all_eq_true] at h
                have h2 := h m (List.mem_of_mem_take (i := i + 1) (by rw [HTK.out]; simp))
                exact h40 (of_decide_eq_true h2)
              have HF2 := Aside0.mk hF
              clear hF h40
              generalize combB m = s at e1 e2 e3 HSZ
              go_wp2
              go_ret2
              exact ⟨_, by rw [HF2.out]; rfl, by rw [HF2.out]; exact Kd.R_nil _ _ _ _ _, HB.out⟩
          · have hkL : k < m.length := by have := HL.out; omega
            have HKL := Aside0.mk hkL
            have hsub : (((k + 1 : Nat) : Int) - 1) = (k : Int) := by omega
            rw [hsub]
            obtain ⟨ad, e, hcell⟩ := at_scalar HC.out k (by have := HL.out; omega) (by rw [List.length_map]; exact hkL)
            subst e
            rw [List.getElem_map] at hcell
            obtain ⟨y, hy⟩ : ∃ y, m[k] = y := ⟨_, rfl⟩
            rw [hy] at hcell
            have hy12 : y < 12 := by rw [← hy]; exact HMI.out _ (List.getElem_mem _)
            have HD := Aside0.mk (show m.drop k = y :: m.drop (k + 1) by rw [← hy]; exact List.drop_eq_getElem_cons hkL)
            have e3 : Utf8.encode (wrap32 (wrap64 (97 + (y : Int)))) = ⟨#[UInt8.ofNat (97 + y)]⟩ := by
              rw [show wrap64 (97 + (y : Int)) = 97 + (y : Int) by unfold wrap64; omega, show wrap32 (97 + (y : Int)) = 97 + (y : Int) by unfold wrap32; omega]
              exact rune_enc y hy12
            have e4 : decide ((k : Int) < (L : Int)) = true := decide_eq_true (by have := HL.out; omega)
            have e5 : (k < L) = True := eq_true (by have := HL.out; omega)
            obtain ⟨c2, hc2⟩ : ∃ c2, UInt8.ofNat (97 + y) = c2 := ⟨_, rfl⟩
            have HC2 := Aside0.mk hc2
            rw [hc2] at e3
            clear hkL hsub hy hy12 hc2
            by_cases hk : k + 1 = L
            · have e6 : ((k : Int) == q) = true := beq_iff_eq.2 (by rw [HQ.out]; omega)
              have e6n : ((k : Int) = q) = True := eq_true (by rw [HQ.out]; omega)
              go_wp2_with (fail)
              refine ⟨⟨k, by omega, congrArg (Value.int .i64) (wD (by have := HML.out; omega)), congrArg Value.string ?_, HC, HT, HO, HB⟩, ?_⟩
              · rw [HD.out, List.drop_of_length_le (by have := HL.out; omega), ← HC2.out]
                exact comb_last y
              · rw [wD (by have := HML.out; omega)]
                simp only [intOf]
                omega
            · have e7 : ((k : Int) == q) = false := beq_eq_false_iff_ne.2 (by rw [HQ.out]; omega)
              have e8 : ((k : Int) = q) = False := eq_false (by rw [HQ.out]; omega)
              go_wp2_with (fail)
              have hr : m.drop (k + 1) ≠ [] := by intro h; have h2 := congrArg List.length h; rw [List.length_drop] at h2; have := HL.out; simp at h2; omega
              have hrl : (m.drop (k + 1)).length ≤ 12 := by rw [List.length_drop]; have := HL.out; have := HML.out; omega
              have hj := comb_join y (m.drop (k + 1)) hr
              rw [HC2.out, ← HD.out] at hj
              refine (sh_strings_Join wr.heap.size 0 5 [⟨#[40]⟩, ⟨#[33]⟩ ++ ⟨#[c2]⟩, ⟨#[38]⟩, combB (m.drop (k + 1)), ⟨#[41]⟩] ⟨#[]⟩ _ ?h1 ?h2 (by show (5 : Nat) ≤ _; omega) (by show (5 : Nat) ≤ _; omega) ?h3).mono ?_
              case h1 =>
                intro j x h
                rcases j with _ | _ | _ | _ | _ | j <;> simp at h <;> subst h <;> simp
              case h2 => simp
              case h3 => rw [hj]; exact Nat.le_trans (comb_len _) (by rw [HD.out, List.length_cons]; omega)
              rw [hj]
              rintro e wc ⟨rfl, hb⟩
              have hle : wr.heap.size ≤ (wr.alloc (.cells #[.string ⟨#[40]⟩, .string (⟨#[33]⟩ ++ ⟨#[c2]⟩), .string ⟨#[38]⟩, .string (combB (m.drop (k + 1))), .string ⟨#[41]⟩] 9)).heap.size := by simp
              have hbw : Below wr.heap.size wr wc := ((Below.refl _ wr).alloc (Nat.le_refl _) _).trans (hb.mono hle)
              have HC3 := Aside0.mk (Kd.C_below HC.out hbw)
              have HT3 := Aside0.mk (HT.out.below hbw)
              have HO3 := Aside0.mk (Kd.R_below HO.out hbw)
              have HB3 := Aside0.mk (HB.out.trans (hbw.mono HB.out.size))
              clear hb hbw hle hj hr hrl HC HT HO HB
              go_wp2_with (fail)
              refine ⟨⟨k, by omega, congrArg (Value.int .i64) (wD (by have := HML.out; omega)), rfl, HC3, HT3, HO3, HB3⟩, ?_⟩
              rw [wD (by have := HML.out; omega)]
              simp only [intOf]
              omega
      · have d4 : decide ((i : Int) < (M : Int)) = false := decide_eq_false (by omega)
        have d4n : (i < M) = False := eq_false hiN
        have hml : (sentMs M l1).length = M := by simp [sentMs]
        have htk : (sentMs M l1).take i = sentMs M l1 := List.take_of_length_le (by omega)
        rw [htk] at HO HK
        have HF2 := Aside0.mk (show sentF (M : Int) l1 = ((sentMs M l1).map combB, 0) by rw [HF.out, if_pos HK.out])
        clear hml htk
        go_wp2
        go_ret2
        exact ⟨_, by rw [HF2.out]; rfl, by rw [HF2.out]; exact Kd.R_mono HO.out (fun _ _ => trivial), HB.out⟩
  · have d1 : (E == 0) = false := beq_eq_false_iff_ne.2 cE
    have d1n : (E = 0) = False := eq_false cE
    have hF : sentF n l1 = ([], E) := by unfold sentF; rw [← HE.out, if_pos cE]
    have HF := Aside0.mk hF
    clear hF
    go_wp2
    go_ret2
    exact ⟨_, by rw [HF.out]; rfl, by rw [HF.out]; exact Kd.R_nil _ _ _ _ _, HB.out.alloc HB.out.size _⟩
end Go.Proofs.Ytagmadfllfcloaa.PC
end
section
set_option linter.unusedVariables false
set_option linter.unusedSimpArgs false
/- truth's values on the sentences of a town: the walks. -/
namespace Go.Proofs.Ytagmadfllfcloaa.PC
open Go.RowKit Go.Proofs.YtagmadfllfcloaaW.PrintWords Go.Proofs.YtagmadfllfcloaaW.PrintLast Go.Proofs.YtagmadfllfcloaaW.PrintMore
set_option linter.unusedVariables false
set_option linter.unusedSimpArgs false
/-- The opposite of a value. -/
def opp (c : Nat) : Nat := if c = 48 then 49 else if c = 49 then 48 else 63
/-- Both. -/
def and8 (a b : Nat) : Nat := if a = 48 ∨ b = 48 then 48 else if a = 49 ∧ b = 49 then 49 else 63
theorem and8_spec (q r : Nat) : (and8 q r = 48 ∧ (q = 48 ∨ r = 48)) ∨ (and8 q r = 49 ∧ (q = 49 ∧ r = 49)) ∨ (and8 q r = 63 ∧ (q ≠ 48 ∧ r ≠ 48 ∧ ¬ (q = 49 ∧ r = 49))) := by
  unfold and8
  by_cases h1 : q = 48 ∨ r = 48
  · rw [if_pos h1]; exact .inl ⟨rfl, h1⟩
  by_cases h2 : q = 49 ∧ r = 49
  · rw [if_neg h1, if_pos h2]; exact .inr (.inl ⟨rfl, h2⟩)
  · rw [if_neg h1, if_neg h2]; exact .inr (.inr ⟨rfl, by omega, by omega, h2⟩)
/-- The value of a sentence. -/
def valC (v : List UInt8) : List Nat → Nat
  | [] => 49
  | [x] => opp (v.getD x 0).toNat
  | x :: y :: r => and8 (opp (v.getD x 0).toNat) (valC v (y :: r))
set_option maxHeartbeats 1000000 in
set_option maxRecDepth 100000 in
theorem value_letter (l : List UInt8) (x : Nat) (hx : x < l.length) (w : World) :
    Calls Try.prog 82 #[.int .i64 (x : Int), .string ⟨l.toArray⟩] w fun e w' => e = .returned (.int .u8 ((l.getD x 0).toNat : Int)) ∧ w' = w := by
  have e1 : (l.getD x 0) = l[x] := by simp [List.getD_eq_getElem?_getD, hx]
  rw [e1]
  go_enter Try.func82, Try.ntmps82
  go_wp2
  go_ret
  exact ⟨rfl, rfl⟩
set_option maxHeartbeats 1000000 in
set_option maxRecDepth 100000 in
theorem opp_calls (c : Nat) (w : World) :
    Calls Try.prog 85 #[.int .u8 (c : Int)] w fun e w' => e = .returned (.int .u8 (opp c : Int)) ∧ w' = w := by
  by_cases c1 : c = 48
  · subst c1
    go_enter Try.func85, Try.ntmps85
    go_wp2
    go_ret
    exact ⟨rfl, rfl⟩
  by_cases c2 : c = 49
  · subst c2
    go_enter Try.func85, Try.ntmps85
    go_wp2
    go_ret
    exact ⟨rfl, rfl⟩
  have d1 : ((c : Int) == 48) = false := beq_eq_false_iff_ne.2 (by omega)
  have d2 : ((c : Int) == 49) = false := beq_eq_false_iff_ne.2 (by omega)
  have d1n : (c = 48) = False := eq_false c1
  have d2n : (c = 49) = False := eq_false c2
  have e : opp c = 63 := by unfold opp; rw [if_neg c1, if_neg c2]
  rw [e]
  go_enter Try.func85, Try.ntmps85
  go_wp2
  go_ret
  exact ⟨rfl, rfl⟩
set_option maxHeartbeats 1000000 in
set_option maxRecDepth 100000 in
theorem value_not (l : List UInt8) (x : Nat) (hx : x < l.length) (w : World) :
    Calls Try.prog 84 #[.agg #[.iface 110 (.int .i64 (x : Int))], .string ⟨l.toArray⟩] w fun e w' => e = .returned (.int .u8 (valC l [x] : Int)) ∧ Below w.heap.size w w' := by
  have HL := Lib.hid (value_letter l x hx)
  have HO := Lib.hid (opp_calls (l.getD x 0).toNat)
  unfold valC
  generalize (l.getD x 0).toNat = c at HL HO ⊢
  clear hx
  go_enter Try.func84, Try.ntmps84
  go_wp2_with (fail)
  refine (HL.out _).mono ?_; rintro e wa ⟨rfl, rfl⟩
  go_wp2_with (fail)
  refine (HO.out _).mono ?_; rintro e wa ⟨rfl, rfl⟩
  go_wp2_with (fail)
  go_ret
  exact ⟨rfl, below_alloc (Below.refl _ _) _⟩
theorem box3_keep {w0 W W' : World} {g : Nat} {a b c : Value} (h : W.cell? ⟨g, 0, none⟩ = some a ∧ W.cell? ⟨g, 1, none⟩ = some b ∧ W.cell? ⟨g, 2, none⟩ = some c ∧ Below w0.heap.size w0 W) (hb : Below W.heap.size W W') :
    W'.cell? ⟨g, 0, none⟩ = some a ∧ W'.cell? ⟨g, 1, none⟩ = some b ∧ W'.cell? ⟨g, 2, none⟩ = some c ∧ Below w0.heap.size w0 W' :=
  ⟨(hb.cell (World.block_lt_of_cell? W _ h.1)).trans h.1, (hb.cell (World.block_lt_of_cell? W _ h.2.1)).trans h.2.1, (hb.cell (World.block_lt_of_cell? W _ h.2.2.1)).trans h.2.2.1, h.2.2.2.trans (hb.mono h.2.2.2.size)⟩
set_option maxHeartbeats 4000000 in
set_option maxRecDepth 100000 in
theorem value_pair1 (l : List UInt8) (x : Nat) (hx : x < l.length) (X : Value) (r : Nat) (hX : ∀ w, Calls Try.prog 84 #[X, .string ⟨l.toArray⟩] w fun e w' => e = .returned (.int .u8 (r : Int)) ∧ Below w.heap.size w w') (w : World) :
    Calls Try.prog 87 #[.agg #[.iface 112 (.agg #[.iface 110 (.int .i64 (x : Int))]), .iface 112 X, .int .u8 38], .string ⟨l.toArray⟩] w fun e w' => e = .returned (.int .u8 (and8 (opp (l.getD x 0).toNat) r : Int)) ∧ Below w.heap.size w w' := by
  have HL := Lib.hid (value_not l x hx)
  have HX := Lib.hid hX
  unfold valC at HL
  generalize opp (l.getD x 0).toNat = q at HL ⊢
  clear hX hx
  go_enter Try.func87, Try.ntmps87
  go_wp2
  go_region_held3 (fun W => W.cell? ⟨w.heap.size, 0, none⟩ = some (.iface 112 (.agg #[.iface 110 (.int .i64 (x : Int))])) ∧ W.cell? ⟨w.heap.size, 1, none⟩ = some (.iface 112 X) ∧ W.cell? ⟨w.heap.size, 2, none⟩ = some (.int .u8 38) ∧ Below w.heap.size w W)
    (first | assumption | (exact box3_keep (by assumption) (by assumption)) | (exact ⟨by simp, by simp, by simp, below_drew (below_alloc (Below.refl _ _) _)⟩))
    (first
      | (go_at_call_of 84 (Value.agg #[.iface 110 (.int .i64 (x : Int))]); refine (HL.out _).mono ?_; rintro e w1 ⟨rfl, hb1⟩)
      | (go_at_call_of 84 X; refine (HX.out _).mono ?_; rintro e w1 ⟨rfl, hb2⟩))
  rename_i hS
  have HB := Aside0.mk hS.2.2.2
  go_wp2
  all_goals clear hS HL HX
  all_goals go_ret
  all_goals refine ⟨?_, HB.out⟩
  all_goals (clear HB; simp only [beq_iff_eq, beq_eq_false_iff_ne, ne_eq] at *)
  all_goals (rcases and8_spec q r with ⟨e_, h_⟩ | ⟨e_, h_⟩ | ⟨e_, h_⟩ <;> first | (exfalso; omega) | (rw [e_]; rfl))
set_option maxHeartbeats 4000000 in
set_option maxRecDepth 100000 in
theorem value_pair2 (l : List UInt8) (x : Nat) (hx : x < l.length) (X : Value) (r : Nat) (hX : ∀ w, Calls Try.prog 87 #[X, .string ⟨l.toArray⟩] w fun e w' => e = .returned (.int .u8 (r : Int)) ∧ Below w.heap.size w w') (w : World) :
    Calls Try.prog 87 #[.agg #[.iface 112 (.agg #[.iface 110 (.int .i64 (x : Int))]), .iface 114 X, .int .u8 38], .string ⟨l.toArray⟩] w fun e w' => e = .returned (.int .u8 (and8 (opp (l.getD x 0).toNat) r : Int)) ∧ Below w.heap.size w w' := by
  have HL := Lib.hid (value_not l x hx)
  have HX := Lib.hid hX
  unfold valC at HL
  generalize opp (l.getD x 0).toNat = q at HL ⊢
  clear hX hx
  go_enter Try.func87, Try.ntmps87
  go_wp2
  go_region_held3 (fun W => W.cell? ⟨w.heap.size, 0, none⟩ = some (.iface 112 (.agg #[.iface 110 (.int .i64 (x : Int))])) ∧ W.cell? ⟨w.heap.size, 1, none⟩ = some (.iface 114 X) ∧ W.cell? ⟨w.heap.size, 2, none⟩ = some (.int .u8 38) ∧ Below w.heap.size w W)
    (first | assumption | (exact box3_keep (by assumption) (by assumption)) | (exact ⟨by simp, by simp, by simp, below_drew (below_alloc (Below.refl _ _) _)⟩))
    (first
      | (go_at_call_of 84 (Value.agg #[.iface 110 (.int .i64 (x : Int))]); refine (HL.out _).mono ?_; rintro e w1 ⟨rfl, hb1⟩)
      | (go_at_call_of 87 X; refine (HX.out _).mono ?_; rintro e w1 ⟨rfl, hb2⟩))
  rename_i hS
  have HB := Aside0.mk hS.2.2.2
  go_wp2
  all_goals clear hS HL HX
  all_goals go_ret
  all_goals refine ⟨?_, HB.out⟩
  all_goals (clear HB; simp only [beq_iff_eq, beq_eq_false_iff_ne, ne_eq] at *)
  all_goals (rcases and8_spec q r with ⟨e_, h_⟩ | ⟨e_, h_⟩ | ⟨e_, h_⟩ <;> first | (exfalso; omega) | (rw [e_]; rfl))
/-- The function that a sentence's value is asked of, and what it is asked about. -/
def combF : List Nat → Nat
  | [] => 80
  | [_] => 84
  | _ :: _ :: _ => 87
def combX : List Nat → Value
  | [] => .int .u8 49
  | [x] => .agg #[.iface 110 (.int .i64 (x : Int))]
  | x :: y :: r => .agg #[notV x, combV (y :: r), .int .u8 38]
def combT : List Nat → Nat
  | [] => 109
  | [_] => 112
  | _ :: _ :: _ => 114
theorem combV_is : ∀ m, combV m = .iface (combT m) (combX m)
  | [] => rfl
  | [_] => rfl
  | _ :: _ :: _ => rfl
theorem value_one (l : List UInt8) (w : World) :
    Calls Try.prog 80 #[.int .u8 49, .string ⟨l.toArray⟩] w fun e w' => e = .returned (.int .u8 49) ∧ w' = w := by
  go_enter Try.func80, Try.ntmps80
  go_wp2
  go_ret
  exact ⟨rfl, rfl⟩
theorem value_comb (l : List UInt8) : ∀ (m : List Nat) (hm : ∀ x ∈ m, x < l.length) (w : World),
    Calls Try.prog (combF m) #[combX m, .string ⟨l.toArray⟩] w fun e w' => e = .returned (.int .u8 (valC l m : Int)) ∧ Below w.heap.size w w'
  | [], _, w => (value_one l w).mono fun e w' h => ⟨h.1, by rw [h.2]; exact Below.refl _ _⟩
  | [x], hm, w => value_not l x (hm x (by simp)) w
  | x :: [y], hm, w => value_pair1 l x (hm x (by simp)) (combX [y]) (valC l [y]) (fun w => value_comb l [y] (fun z hz => hm z (List.mem_cons_of_mem _ hz)) w) w
  | x :: y :: z :: r, hm, w => value_pair2 l x (hm x (by simp)) (combX (y :: z :: r)) (valC l (y :: z :: r)) (fun w => value_comb l (y :: z :: r) (fun z hz => hm z (List.mem_cons_of_mem _ hz)) w) w
end Go.Proofs.Ytagmadfllfcloaa.PC
end
section
set_option linter.unusedVariables false
set_option linter.unusedSimpArgs false
/- truth.next and truth.Least on the sentences of a town: the walks. -/
namespace Go.Proofs.Ytagmadfllfcloaa.PC
open Go.RowKit Go.Proofs.YtagmadfllfcloaaW.PrintWords Go.Proofs.YtagmadfllfcloaaW.PrintLast Go.Proofs.YtagmadfllfcloaaW.PrintMore
set_option linter.unusedVariables false
set_option linter.unusedSimpArgs false
theorem info5 : (Try.prog.info? 5).map (fun i => (i.zero, i.size, i.bytes)) = some (some (.int .u8 0), 1, 1) := by kernel_rfl
/-- The values behind one step, as far as they stand. -/
def partL (l : List UInt8) (ms : List (List Nat)) (i : Nat) : List Int := (ms.take i).map (fun m => (valC l m : Int)) ++ List.replicate (ms.length - i) 0
theorem partL_set (l : List UInt8) (ms : List (List Nat)) (i : Nat) (hi : i < ms.length) : (partL l ms i).set ((i : Int)).toNat (valC l ms[i] : Int) = partL l ms (i + 1) := by
  unfold partL
  rw [Int.toNat_natCast, List.take_succ_eq_append_getElem hi, List.map_append, List.set_append_right _ _ (by simp; omega)]
  rw [show ms.length - i = (ms.length - (i + 1)) + 1 by omega, List.replicate_succ]
  simp [Nat.min_eq_left (Nat.le_of_lt hi)]
theorem partL_0 (l : List UInt8) (ms : List (List Nat)) : partL l ms 0 = List.replicate ms.length 0 := by simp [partL]
theorem partL_end (l : List UInt8) (ms : List (List Nat)) : partL l ms ms.length = ms.map (fun m => (valC l m : Int)) := by simp [partL]
theorem R_open {α : Type} {enc : α → Value} {h1 : ∀ x, (enc x).oneCell' = true} {e base : Nat} {ok : Nat → Prop} {w : World} {v : Value} {xs : List α} (h : (Kd.scalar enc h1).R e w base ok v xs) (hn : 0 < xs.length) : ∃ g c, v = .slice (some ⟨g, 0, none⟩) xs.length c := by
  obtain ⟨A, c, rfl, hl, hc⟩ := Kd.R_reads h
  obtain ⟨ad, _, rfl, _⟩ := Kd.C_get hc (xs[0]) 0 (by omega) (by omega)
  obtain ⟨g, rfl⟩ := Kd.R_head h
  exact ⟨g, c, rfl⟩
set_option maxHeartbeats 4000000 in
set_option maxRecDepth 100000 in
theorem next_comb (ms : List (List Nat)) (N : Nat) (hN : ms.length = N) (h1 : 1 ≤ N) (h2 : N ≤ 10) (l : List UInt8) (hms : ∀ m ∈ ms, ∀ x ∈ m, x < l.length) (A0 : Option Addr) (c0 : Nat) (w : World) (hr0 : Kd.C kF w A0 N ms) :
    Calls Try.prog 21 #[.slice A0 N c0, .string ⟨l.toArray⟩] w fun e w' => e = .returned (.string (strOfNums (ms.map fun m => (valC l m : Int)))) ∧ Below w.heap.size w w' := by
  have HM := Aside0.mk hms
  have HR0 := Aside0.mk hr0
  have HN := Aside0.mk (show ms.length = N ∧ 1 ≤ N ∧ N ≤ 10 from ⟨hN, h1, h2⟩)
  clear hms hr0 hN h1 h2
  go_enter Try.func21, Try.ntmps21
  go_wp2_with (first | ((with_reducible refine gate_dst (N := 10) rfl ?_); refine Kd.R_make (Kd.int .u8) _ 5 rfl (N := 10) rfl 70 _ _ rfl (N : Int) rfl rfl Try.underlying70 (.int .u8 0) 1 info5 rfl (by decide) (by omega) 0 (ok := fun _ => True) (okp := fun _ => True) rfl (fun _ hk => hk) trivial (by omega) (by have := HN.out; rw [Int.toNat_natCast]; omega) (Below.refl _ _) (Nat.le_refl _) ?_; intro v1 w1 ho hb hg hnew; have HO := Aside0.mk ho; have HB := Aside0.mk hb; clear ho hb hg hnew))
  have ho := HO.out
  rw [Int.toNat_natCast, ← HN.out.1, ← partL_0 l ms] at ho
  have hpl : ∀ i, i ≤ N → (partL l ms i).length = N := fun i hi => by have := HN.out; simp [partL]; omega
  obtain ⟨g, c, rfl⟩ := R_open ho (by rw [hpl 0 (by omega)]; exact HN.out.2.1)
  rw [hpl 0 (by omega)] at ho ⊢
  have GB := Aside0.mk (show w.heap.size ≤ g from ((Kd.R_bound ho).1 g rfl).2.1)
  have HPL := Lib.hid hpl
  clear HO hpl
  have HO := Aside0.mk ho
  clear ho
  go_wp2
  go_loopw [13] (fun v13 wr => ∃ i : Nat, i ≤ N ∧ v13 = .int .i64 (i : Int) ∧ Aside0 (Kd.R (Kd.int .u8) 5 wr w.heap.size (fun _ => True) (.slice (some ⟨g, 0, none⟩) N c) (partL l ms i)) ∧ Aside0 (Below w.heap.size w wr)) (fun v13 _ => N - (intOf v13).toNat)
  case atStart => exact ⟨0, by omega, rfl, HO, HB⟩
  case round =>
    clear HO HB
    obtain ⟨i, hi, rfl, HO, HB⟩ := hrel
    by_cases hiN : i < N
    · have d3 : decide ((i : Int) < (N : Int)) = true := decide_eq_true (by omega)
      have d3n : (i < N) = True := eq_true hiN
      obtain ⟨hl, hn1, hn2⟩ := HN.out
      obtain ⟨ad, e, hcell⟩ := at_scalar HR0.out i hiN (by omega)
      subst e
      replace hcell := (HB.out.cell (World.block_lt_of_cell? w _ hcell)).trans hcell
      have hm := HM.out ms[i] (List.getElem_mem _)
      have HV := Lib.hid (value_comb l ms[i] hm)
      have HS := Aside0.mk (partL_set l ms i (by omega))
      generalize ms[i] = m at hcell HV HS
      rw [combV_is] at hcell
      clear hm hl hn1 hn2
      have hcase : m = [] ∨ (∃ x, m = [x]) ∨ ∃ x y r, m = x :: y :: r := by
        rcases m with _ | ⟨x, _ | ⟨y, r⟩⟩
        · exact .inl rfl
        · exact .inr (.inl ⟨x, rfl⟩)
        · exact .inr (.inr ⟨x, y, r, rfl⟩)
      have hfn : ∀ T F X, combT m = T → combF m = F → combX m = X → True := fun _ _ _ _ _ _ => trivial
      clear hfn
      obtain ⟨q, hq⟩ : ∃ q, valC l m = q := ⟨_, rfl⟩
      rw [hq] at HV HS
      clear hq
      rcases hcase with rfl | ⟨x, rfl⟩ | ⟨x, y, r, rfl⟩
      · have HV' := Lib.hid (show ∀ w, Calls Try.prog 80 #[.int .u8 49, .string ⟨l.toArray⟩] w fun e w' => e = .returned (.int .u8 (q : Int)) ∧ Below w.heap.size w w' from HV.out)
        replace hcell : wr.cell? (ad.add i) = some (.iface 109 (.int .u8 49)) := hcell
        clear HV
        go_wp2_with (first | (go_at_call 80; refine (HV'.out _).mono ?_; rintro e wa ⟨rfl, hb1⟩; have ho2 := Kd.R_below HO.out hb1; have hcf := Kd.R_celln 0 ho2 (i : Int) (by omega) (by omega); rw [Int.toNat_natCast] at hcf; obtain ⟨hcc, hff⟩ := hcf; have hp2 := Kd.R_putn ho2 (i : Int) (q : Int); rw [HS.out, Int.toNat_natCast] at hp2; have HO2 := Aside0.mk hp2; have HB2 := Aside0.mk (HB.out.trans (hb1.mono HB.out.size)); clear ho2 hp2 hb1 HO HB))
        go_roundw
        case rel => exact ⟨i + 1, by omega, vI (by have := HN.out; omega), HO2, ⟨HB2.out.setCell (p := ⟨g, i, none⟩) GB.out _⟩⟩
        case measure => exact mstepA hiN (by have := HN.out; omega)
      · have HV' := Lib.hid (show ∀ w, Calls Try.prog 84 #[.agg #[.iface 110 (.int .i64 (x : Int))], .string ⟨l.toArray⟩] w fun e w' => e = .returned (.int .u8 (q : Int)) ∧ Below w.heap.size w w' from HV.out)
        replace hcell : wr.cell? (ad.add i) = some (.iface 112 (.agg #[.iface 110 (.int .i64 (x : Int))])) := hcell
        clear HV
        go_wp2_with (first | (go_at_call 84; refine (HV'.out _).mono ?_; rintro e wa ⟨rfl, hb1⟩; have ho2 := Kd.R_below HO.out hb1; have hcf := Kd.R_celln 0 ho2 (i : Int) (by omega) (by omega); rw [Int.toNat_natCast] at hcf; obtain ⟨hcc, hff⟩ := hcf; have hp2 := Kd.R_putn ho2 (i : Int) (q : Int); rw [HS.out, Int.toNat_natCast] at hp2; have HO2 := Aside0.mk hp2; have HB2 := Aside0.mk (HB.out.trans (hb1.mono HB.out.size)); clear ho2 hp2 hb1 HO HB))
        go_roundw
        case rel => exact ⟨i + 1, by omega, vI (by have := HN.out; omega), HO2, ⟨HB2.out.setCell (p := ⟨g, i, none⟩) GB.out _⟩⟩
        case measure => exact mstepA hiN (by have := HN.out; omega)
      · have HV' := Lib.hid (show ∀ w, Calls Try.prog 87 #[.agg #[notV x, combV (y :: r), .int .u8 38], .string ⟨l.toArray⟩] w fun e w' => e = .returned (.int .u8 (q : Int)) ∧ Below w.heap.size w w' from HV.out)
        replace hcell : wr.cell? (ad.add i) = some (.iface 114 (.agg #[notV x, combV (y :: r), .int .u8 38])) := hcell
        clear HV
        generalize combV (y :: r) = Y at hcell HV'
        unfold notV at hcell HV'
        go_wp2_with (first | (go_at_call 87; refine (HV'.out _).mono ?_; rintro e wa ⟨rfl, hb1⟩; have ho2 := Kd.R_below HO.out hb1; have hcf := Kd.R_celln 0 ho2 (i : Int) (by omega) (by omega); rw [Int.toNat_natCast] at hcf; obtain ⟨hcc, hff⟩ := hcf; have hp2 := Kd.R_putn ho2 (i : Int) (q : Int); rw [HS.out, Int.toNat_natCast] at hp2; have HO2 := Aside0.mk hp2; have HB2 := Aside0.mk (HB.out.trans (hb1.mono HB.out.size)); clear ho2 hp2 hb1 HO HB))
        go_roundw
        case rel => exact ⟨i + 1, by omega, vI (by have := HN.out; omega), HO2, ⟨HB2.out.setCell (p := ⟨g, i, none⟩) GB.out _⟩⟩
        case measure => exact mstepA hiN (by have := HN.out; omega)
    · have d3 : decide ((i : Int) < (N : Int)) = false := decide_eq_false (by omega)
      have d3n : (i < N) = False := eq_false hiN
      obtain rfl : i = ms.length := by have := HN.out; omega
      have ho := HO.out
      rw [partL_end] at ho
      have hcv : (convert 70 9 (.slice (some ⟨g, 0, none⟩) N c)).run Try.prog wr = .ok (.string (strOfNums (ms.map fun m => (valC l m : Int)))) wr := Kd.C_string Try.underlying70 Try.underlying5 Try.underlying9 (by have h_ := (Kd.R_reads' ho).2.2; rw [List.length_map, HN.out.1] at h_; exact h_)
      clear ho HO
      go_wp2
      go_ret
      exact ⟨rfl, HB.out⟩
end Go.Proofs.Ytagmadfllfcloaa.PC
end
section
set_option linter.unusedVariables false
set_option linter.unusedSimpArgs false
/- truth.Least on the sentences of a town: the walk. -/
namespace Go.Proofs.Ytagmadfllfcloaa.PC
open Go.RowKit Go.Proofs.YtagmadfllfcloaaW.PrintWords Go.Proofs.YtagmadfllfcloaaW.PrintLast Go.Proofs.YtagmadfllfcloaaW.PrintMore
set_option linter.unusedVariables false
set_option linter.unusedSimpArgs false
/-- One step of the values. -/
def nextL (ms : List (List Nat)) (l : List UInt8) : List UInt8 := ms.map (fun m => UInt8.ofNat (valC l m))
/-- The values after some steps. -/
def itL (ms : List (List Nat)) : Nat → List UInt8
  | 0 => List.replicate ms.length 63
  | k + 1 => nextL ms (itL ms k)
theorem itL_len (ms : List (List Nat)) : ∀ k, (itL ms k).length = ms.length
  | 0 => by simp [itL]
  | k + 1 => by simp [itL, nextL]
theorem nextL_str (ms : List (List Nat)) (l : List UInt8) : strOfNums (ms.map fun m => (valC l m : Int)) = ⟨(nextL ms l).toArray⟩ := by
  unfold strOfNums nextL
  rw [List.map_map]
  rfl
set_option maxHeartbeats 4000000 in
set_option maxRecDepth 100000 in
theorem least_comb (ms : List (List Nat)) (N : Nat) (hN : ms.length = N) (h1 : 1 ≤ N) (h2 : N ≤ 10) (hms : ∀ m ∈ ms, (∀ x ∈ m, x < N) ∧ (combS m).length ≤ 40) (A0 : Option Addr) (c0 : Nat) (w : World) (hr0 : Kd.C Kd.string w A0 N (ms.map combB)) :
    Calls Try.prog 8 #[.slice A0 N c0] w fun e w' => e = .returned (.tuple #[.string ⟨(itL ms N).toArray⟩, .int .i64 0]) ∧ Below w.heap.size w w' := by
  have HOF := Lib.hid (of_comb ms N hN h1 h2 hms A0 c0 w hr0)
  have HNX := Lib.hid (fun (k : Nat) => next_comb ms N hN h1 h2 (itL ms k) (fun m hm x hx => by rw [itL_len, hN]; exact (hms m hm).1 x hx))
  have HRP := Lib.hid (fun w => sh_strings_Repeat ⟨#[63]⟩ N w (by omega) (by show 1 * N ≤ _; omega))
  have hrl : (ByteArray.mk (Lib.repeatL (ByteArray.mk #[63]).data.toList N).toArray) = ⟨(itL ms 0).toArray⟩ := by
    unfold itL
    rw [hN]
    congr 2
    clear HOF HNX HRP hr0 hms hN h1 h2
    induction N with
    | zero => rfl
    | succ n ih => simp only [Lib.repeatL, List.replicate_succ]; rw [ih]; rfl
  rw [hrl] at HRP
  have HN := Aside0.mk (show ms.length = N ∧ 1 ≤ N ∧ N ≤ 10 from ⟨hN, h1, h2⟩)
  clear hms hr0 hN h1 h2 hrl
  go_enter Try.func8, Try.ntmps8
  go_wp2_with (fail)
  refine HOF.out.mono ?_; rintro e wa ⟨v0, rfl, ho, hb⟩
  obtain ⟨A, c, rfl, hl, hc⟩ := Kd.R_reads ho
  rw [HN.out.1] at hc ⊢
  have HC := Aside0.mk hc
  have HB := Aside0.mk hb
  clear ho hb hc hl
  go_wp2_with (fail)
  refine (HRP.out _).mono ?_; rintro e wb ⟨rfl, hb2⟩
  have HC2 := Aside0.mk (Kd.C_below HC.out hb2)
  have HB2 := Aside0.mk (HB.out.trans (hb2.mono HB.out.size))
  clear hb2 HC HB
  go_wp2_with (fail)
  go_loopw [6, 20] (fun v6 v20 wr => ∃ i : Nat, i ≤ N ∧ v20 = .int .i64 (i : Int) ∧ v6 = .string ⟨(itL ms i).toArray⟩ ∧ Aside0 (Kd.C kF wr A N ms) ∧ Aside0 (Below w.heap.size w wr)) (fun _ v20 _ => N - (intOf v20).toNat)
  case atStart => exact ⟨0, by omega, rfl, rfl, HC2, HB2⟩
  case round =>
    clear HC2 HB2
    obtain ⟨i, hi, rfl, rfl, HC, HB⟩ := hrel
    by_cases hiN : i < N
    · have d3 : decide ((i : Int) < (N : Int)) = true := decide_eq_true (by omega)
      have d3n : (i < N) = True := eq_true hiN
      go_wp2_with (fail)
      refine (HNX.out i A c _ HC.out).mono ?_; rintro e wc ⟨rfl, hb3⟩
      have HC3 := Aside0.mk (Kd.C_below HC.out hb3)
      have HB3 := Aside0.mk (HB.out.trans (hb3.mono HB.out.size))
      clear hb3 HC HB
      go_wp2_with (fail)
      go_roundw
      case rel => exact ⟨i + 1, by omega, vI (by have := HN.out; omega), congrArg Value.string (nextL_str _ _), HC3, HB3⟩
      case measure => exact mstepA hiN (by have := HN.out; omega)
    · have d3 : decide ((i : Int) < (N : Int)) = false := decide_eq_false (by omega)
      have d3n : (i < N) = False := eq_false hiN
      obtain rfl : i = N := by omega
      go_wp2
      go_ret2
      exact ⟨rfl, HB.out⟩
end Go.Proofs.Ytagmadfllfcloaa.PC
end
section
set_option linter.unusedVariables false
set_option linter.unusedSimpArgs false
/- The least fixed point of a town's sentences and its kernels, plainly. -/
namespace Go.Proofs.Ytagmadfllfcloaa.PC
set_option linter.unusedVariables false
set_option linter.unusedSimpArgs false
theorem opp_49 {c : Nat} (h : opp c = 49) : c = 48 := by
  unfold opp at h
  by_cases c1 : c = 48
  · exact c1
  · rw [if_neg c1] at h
    by_cases c2 : c = 49
    · rw [if_pos c2] at h; omega
    · rw [if_neg c2] at h; omega
theorem opp_48 {c : Nat} (h : opp c = 48) : c = 49 := by
  unfold opp at h
  by_cases c1 : c = 48
  · rw [if_pos c1] at h; omega
  · rw [if_neg c1] at h
    by_cases c2 : c = 49
    · exact c2
    · rw [if_neg c2] at h; omega
theorem val_49 (v : List UInt8) : ∀ m : List Nat, valC v m = 49 → ∀ x ∈ m, (v.getD x 0).toNat = 48
  | [], _, x, hx => by simp at hx
  | [y], h, x, hx => by
    rw [List.mem_singleton] at hx
    subst hx
    exact opp_49 h
  | y :: z :: r, h, x, hx => by
    have h2 : and8 (opp (v.getD y 0).toNat) (valC v (z :: r)) = 49 := h
    rcases and8_spec (opp (v.getD y 0).toNat) (valC v (z :: r)) with ⟨e, _⟩ | ⟨_, h3, h4⟩ | ⟨e, _⟩
    · omega
    · rcases List.mem_cons.1 hx with rfl | hx
      · exact opp_49 h3
      · exact val_49 v (z :: r) h4 x hx
    · omega
theorem val_48 (v : List UInt8) : ∀ m : List Nat, valC v m = 48 → ∃ x ∈ m, (v.getD x 0).toNat = 49
  | [], h => by simp [valC] at h
  | [y], h => ⟨y, by simp, opp_48 h⟩
  | y :: z :: r, h => by
    have h2 : and8 (opp (v.getD y 0).toNat) (valC v (z :: r)) = 48 := h
    rcases and8_spec (opp (v.getD y 0).toNat) (valC v (z :: r)) with ⟨_, h3 | h3⟩ | ⟨e, _⟩ | ⟨e, _⟩
    · exact ⟨y, by simp, opp_48 h3⟩
    · obtain ⟨x, hx, h4⟩ := val_48 v (z :: r) h3
      exact ⟨x, List.mem_cons_of_mem _ hx, h4⟩
    · omega
    · omega
theorem opp_lt (c : Nat) : opp c < 64 := by
  unfold opp
  split
  · omega
  · split <;> omega
theorem val_lt (v : List UInt8) : ∀ m : List Nat, valC v m < 64
  | [] => by simp [valC]
  | [y] => opp_lt _
  | y :: z :: r => by
    show and8 _ _ < 64
    unfold and8
    split
    · omega
    · split <;> omega
theorem mem_memN {s x : Nat} (hs : s < 4096) : x ∈ memN s ↔ s.testBit x = true := by
  unfold memN
  rw [List.mem_filter, List.mem_range]
  constructor
  · exact fun h => h.2
  · intro h
    refine ⟨?_, h⟩
    rcases Nat.lt_or_ge x 12 with h1 | h1
    · exact h1
    · rw [Nat.testBit_lt_two_pow (Nat.lt_of_lt_of_le hs (Nat.pow_le_pow_right (n := 2) (by decide) h1))] at h
      cases h
theorem ker_iff {n : Nat} {o : List Nat} {s p : Nat} (h : kerB n o s = true) (hp : p < n) : (s.testBit p = true → (o.getD p 0) &&& s = 0) ∧ (s.testBit p = false → (o.getD p 0) &&& s ≠ 0) := by
  have h1 := (List.all_eq_true.1 h) p (List.mem_range.2 hp)
  rw [Bool.and_eq_true] at h1
  obtain ⟨h2, h3⟩ := h1
  unfold indB at h2
  unfold absB at h3
  constructor
  · intro h4
    rw [h4] at h2
    simpa using h2
  · intro h4
    rw [h4] at h3
    simpa using h3
/-- Whom Least calls true is in every kernel, and whom it calls false in none. -/
theorem grounded (n : Nat) (hn : n ≤ 12) (l : List S41) (hlt : ∀ j, (townO l).getD j 0 < 2 ^ n) (s : Nat) (hs : s < 2 ^ n) (hk : kerB n (townO l) s = true) :
    ∀ k p, p < n → (((itL (sentMs (n : Int) l) k).getD p 0).toNat = 49 → s.testBit p = true) ∧ (((itL (sentMs (n : Int) l) k).getD p 0).toNat = 48 → s.testBit p = false)
  | 0, p, hp => by
    have h : ((itL (sentMs (n : Int) l) 0).getD p 0) = 63 := by
      simp [itL, sentMs, List.getD_eq_getElem?_getD, hp]
    rw [h]
    exact ⟨fun h => absurd h (by decide), fun h => absurd h (by decide)⟩
  | k + 1, p, hp => by
    have ih := grounded n hn l hlt s hs hk k
    have h4 : (2 : Nat) ^ n ≤ 4096 := Nat.le_trans (Nat.pow_le_pow_right (by decide) hn : 2 ^ n ≤ 2 ^ 12) (by decide)
    have ho : (townO l).getD p 0 < 4096 := Nat.lt_of_lt_of_le (hlt p) h4
    have hv : ((itL (sentMs (n : Int) l) (k + 1)).getD p 0).toNat = valC (itL (sentMs (n : Int) l) k) (memN ((townO l).getD p 0)) := by
      have hl := val_lt (itL (sentMs (n : Int) l) k) (memN ((townO l).getD p 0))
      have e : ((itL (sentMs (n : Int) l) (k + 1)).getD p 0) = UInt8.ofNat (valC (itL (sentMs (n : Int) l) k) (memN ((townO l).getD p 0))) := by
        simp [itL, nextL, sentMs, List.getD_eq_getElem?_getD, hp]
      rw [e, UInt8.toNat_ofNat']
      omega
    have hx : ∀ x, x ∈ memN ((townO l).getD p 0) → x < n := fun x hx => by
      rw [mem_memN ho] at hx
      rcases Nat.lt_or_ge x n with h1 | h1
      · exact h1
      · rw [Nat.testBit_lt_two_pow (Nat.lt_of_lt_of_le (hlt p) (Nat.pow_le_pow_right (by decide) h1))] at hx
        cases hx
    have hki := ker_iff hk hp
    rw [hv]
    constructor
    · intro h
      have h1 := val_49 _ _ h
      rcases hb : s.testBit p with _ | _
      · exfalso
        refine hki.2 hb (Nat.eq_of_testBit_eq (fun x => ?_))
        rw [Nat.testBit_and, Nat.zero_testBit]
        rcases hc : ((townO l).getD p 0).testBit x with _ | _
        · rfl
        · have h2 := (mem_memN ho).2 hc
          rw [(ih x (hx x h2)).2 (h1 x h2)]
          rfl
      · rfl
    · intro h
      obtain ⟨x, h1, h2⟩ := val_48 _ _ h
      have h3 := (ih x (hx x h1)).1 h2
      rcases hb : s.testBit p with _ | _
      · rfl
      · exfalso
        have h5 := hki.1 hb
        have h6 : (((townO l).getD p 0) &&& s).testBit x = true := by
          rw [Nat.testBit_and, (mem_memN ho).1 h1, h3]
          rfl
        rw [h5, Nat.zero_testBit] at h6
        cases h6
theorem mem_list {n s : Nat} (hn : n ≤ 12) (hs : s < 2 ^ n) : ListIs n s (memI s) := by
  have h4 : (2 : Nat) ^ n ≤ 4096 := Nat.le_trans (Nat.pow_le_pow_right (by decide) hn : 2 ^ n ≤ 2 ^ 12) (by decide)
  have hs4 : s < 4096 := by omega
  refine ⟨hs, fun x hx => ?_, fun p hp => ?_⟩
  · unfold memI at hx
    obtain ⟨y, hy, rfl⟩ := List.mem_map.1 hx
    rw [mem_memN hs4] at hy
    have : y < n := by
      rcases Nat.lt_or_ge y n with h1 | h1
      · exact h1
      · rw [Nat.testBit_lt_two_pow (Nat.lt_of_lt_of_le hs (Nat.pow_le_pow_right (by decide) h1))] at hy
        cases hy
    omega
  · unfold memI
    rw [← mem_memN hs4, List.mem_map]
    constructor
    · exact fun h => ⟨p, h, rfl⟩
    · rintro ⟨y, hy, e⟩
      obtain rfl : y = p := by omega
      exact hy
theorem arcs_in (n : Nat) (hn : n ≤ 12) : ∀ (l : List S41) (o : List Nat), (∀ j, o.getD j 0 < 2 ^ n) → l.all (inT (n : Int)) = true → ∀ j, (l.foldl arcO o).getD j 0 < 2 ^ n
  | [], _, h, _ => h
  | p :: r, o, h, ha => by
    rw [List.all_cons, Bool.and_eq_true] at ha
    rw [List.foldl_cons]
    refine arcs_in n hn r _ (fun j => ?_) ha.2
    have hp := of_decide_eq_true ha.1
    unfold arcO
    simp only [List.getD_eq_getElem?_getD, List.getElem?_set]
    split
    · split
      · refine Nat.or_lt_two_pow (n := n) ?_ (Nat.pow_lt_pow_right (by decide) (by omega))
        have := h p.f0.toNat
        simpa [List.getD_eq_getElem?_getD] using this
      · simp [Nat.two_pow_pos]
    · have := h j
      simpa [List.getD_eq_getElem?_getD] using this
theorem townO_in (n : Nat) (hn : n ≤ 12) (l : List S41) (h : l.all (inT (n : Int)) = true) (j : Nat) : (townO l).getD j 0 < 2 ^ n := by
  refine arcs_in n hn l _ (fun j => ?_) h j
  simp only [List.getD_eq_getElem?_getD, List.getElem?_replicate]
  split <;> simp [Nat.two_pow_pos]
end Go.Proofs.Ytagmadfllfcloaa.PC
end
section
set_option linter.unusedVariables false
set_option linter.unusedSimpArgs false
/- The closed example of layers 1 and 2: the walk. -/
namespace Go.Proofs.Ytagmadfllfcloaa.PC
open Go.RowKit Go.Proofs.YtagmadfllfcloaaW.PrintWords Go.Proofs.YtagmadfllfcloaaW.PrintLast Go.Proofs.YtagmadfllfcloaaW.PrintMore
set_option linter.unusedVariables false
set_option linter.unusedSimpArgs false
theorem cell_at {W : World} {g : Nat} {c : Array Value} {e : TypeId} {f : Nat × Nat} (h : W.heap[g]? = some (.cells c e f)) (j : Nat) : W.cell? ⟨g, j, none⟩ = c[j]? := by
  unfold World.cell?
  rw [h]
  rfl
/-- The town of the example. -/
def exL : List S41 := [⟨0, 1⟩, ⟨1, 2⟩]
theorem ex_C {W : World} {g : Nat} (h : W.heap[g]? = some (.cells #[.int .i64 0, .int .i64 1, .int .i64 1, .int .i64 2] 41 (0, 0))) : Kd.C k41 W (some ⟨g, 0, none⟩) 2 exL := by
  refine ⟨rfl, by decide, fun _ => ⟨_, rfl, fun j p hj => ?_⟩⟩
  rcases j with _ | _ | j
  · obtain rfl := Option.some.inj hj
    refine ⟨_, rfl, k41_mk W ⟨0, 1⟩, fun i u hu => ?_⟩
    rcases i with _ | _ | i
    · exact (cell_at h 0).trans hu
    · exact (cell_at h 1).trans hu
    · simp at hu
  · obtain rfl := Option.some.inj hj
    refine ⟨_, rfl, k41_mk W ⟨1, 2⟩, fun i u hu => ?_⟩
    rcases i with _ | _ | i
    · exact (cell_at h 2).trans hu
    · exact (cell_at h 3).trans hu
    · simp at hu
  · simp [exL] at hj
theorem ex_sent : sentF 3 exL = ([[1], [2], []].map combB, 0) := by decide +kernel
theorem ex_least : itL [[1], [2], []] 3 = [49, 48, 49] := by decide +kernel
theorem ex_town : townE 3 exL = 0 := by decide +kernel
theorem ex_ker : ∀ s, s < 8 → kerB 3 (townO exL) s = true → s = 5 := by decide +kernel
theorem ex_ker5 : kerB 3 (townO exL) 5 = true := by decide +kernel
theorem ex_mem : memI 5 = [0, 2] := by decide +kernel
set_option maxHeartbeats 8000000 in
set_option maxRecDepth 100000 in
theorem spoken_calls (w : World) : Calls Try.prog 5 #[] w fun e w' => e = .returned (.bool true) ∧ Below w.heap.size w w' := by
  go_enter Try.func5, Try.ntmps5
  go_wp2_with (fail)
  generalize hW : (World.alloc _ _ : World) = w1
  obtain ⟨g, hg⟩ : ∃ g, g = w.heap.size := ⟨_, rfl⟩
  have hh : w1.heap[g]? = some (.cells #[.int .i64 0, .int .i64 1, .int .i64 1, .int .i64 2] 41 (0, 0)) := by rw [← hW, hg]; exact alloc1_newT w _
  have hb1 : Below w.heap.size w w1 := by rw [← hW]; exact (Below.refl _ _).alloc (Nat.le_refl _) _
  rw [← hg]
  have HC := Aside0.mk (ex_C hh)
  have HB1 := Aside0.mk hb1
  clear hW hh hb1 hg
  refine (sentences_walk 3 (some ⟨g, 0, none⟩) 2 exL w1 HC.out).mono ?_
  rintro e w2 ⟨v2, rfl, hr2, hb2⟩
  rw [ex_sent] at hr2 ⊢
  obtain ⟨A2, c2, rfl, hl2, hc2⟩ := Kd.R_reads hr2
  have HC2 := Aside0.mk (show Kd.C Kd.string w2 A2 3 ([[1], [2], []].map combB) from hc2)
  have HB2 := Aside0.mk (HB1.out.trans (hb2.mono HB1.out.size))
  have HCC := Aside0.mk (Kd.C_below HC.out hb2)
  clear hr2 hl2 hc2 hb2 HC HB1
  go_wp2_with (fail)
  refine (least_comb [[1], [2], []] 3 rfl (by decide) (by decide) (by decide) A2 c2 w2 HC2.out).mono ?_
  rintro e w3 ⟨rfl, hb3⟩
  rw [ex_least]
  have HB3 := Aside0.mk (HB2.out.trans (hb3.mono HB2.out.size))
  have HC3 := Aside0.mk (Kd.C_below HCC.out hb3)
  clear hb3 HC2 HB2 HCC
  go_wp2_with (fail)
  refine (kernel_calls 3 (some ⟨g, 0, none⟩) 2 exL w3 HC3.out).mono ?_
  rintro e w4 ⟨v, E, l, rfl, hr, hk, hb4⟩
  have hE : E = 0 ∧ l = [0, 2] := by
    rcases hk with ⟨h1, _⟩ | ⟨_, h2⟩
    · exact absurd ex_town h1
    · rcases h2 with ⟨h3, s, h4, h5, h6⟩ | ⟨_, _, h3⟩
      · obtain rfl := ex_ker s h4 h5
        exact ⟨h3, by rw [h6, ex_mem]⟩
      · have h6 := h3 5 (by decide)
        have h7 := ex_ker5
        rw [show (3 : Int).toNat = 3 from rfl] at h6
        rw [h6] at h7
        cases h7
  obtain ⟨rfl, rfl⟩ := hE
  obtain ⟨A, c, rfl, hl, hc⟩ := Kd.R_reads hr
  have HB4 := Aside0.mk (HB3.out.trans (hb4.mono HB3.out.size))
  obtain ⟨ad, e, h0⟩ := at_scalar hc 0 (by decide) (by decide)
  subst e
  obtain ⟨ad', e, h1⟩ := at_scalar hc 1 (by decide) (by decide)
  cases e
  obtain ⟨gk, rfl⟩ := Kd.R_head hr
  replace h0 : w4.cell? ⟨gk, 0, none⟩ = some (.int .i64 0) := h0
  replace h1 : w4.cell? ⟨gk, 1, none⟩ = some (.int .i64 2) := h1
  have hln : (([0, 2] : List Int).length) = 2 := rfl
  rw [hln]
  clear hr hk hb4 hl hc hln HC3 HB3
  go_wp2
  go_ret
  exact ⟨rfl, HB4.out⟩
end Go.Proofs.Ytagmadfllfcloaa.PC
end
section
set_option linter.unusedVariables false
set_option linter.unusedSimpArgs false
/- pomadetop.TopGrounded: the walk. -/
namespace Go.Proofs.Ytagmadfllfcloaa.PC
open Go.RowKit Go.Proofs.YtagmadfllfcloaaW.PrintWords Go.Proofs.YtagmadfllfcloaaW.PrintLast Go.Proofs.YtagmadfllfcloaaW.PrintMore
set_option linter.unusedVariables false
set_option linter.unusedSimpArgs false
theorem info23 : (Try.prog.info? 23).map (fun i => (i.zero, i.size, i.bytes)) = some (some (.slice none 0 0), 1, 24) := by kernel_rfl
theorem info4 : (Try.prog.info? 4).map (fun i => (i.zero, i.size, i.bytes)) = some (some (.bool false), 1, 1) := by kernel_rfl
/-- A slice of ints, as it lies: address, length, room. -/
def encS (x : Option Addr × Nat × Nat) : Value := .slice x.1 x.2.1 x.2.2
def kS : Kd (Option Addr × Nat × Nat) := Kd.scalar encS (fun _ => rfl)
theorem sent_ok {M : Nat} {l1 : List S41} (hM : M ≤ 10) (hin : ∀ j, (townO l1).getD j 0 < 2 ^ M) (h : sentOk (sentMs (M : Int) l1) = true) : ∀ m ∈ sentMs (M : Int) l1, (∀ x ∈ m, x < M) ∧ (combS m).length ≤ 40 := by
  intro m hm
  refine ⟨fun x hx => ?_, of_decide_eq_true ((List.all_eq_true.1 h) m hm)⟩
  unfold sentMs at hm
  obtain ⟨i, _, rfl⟩ := List.mem_map.1 hm
  have h4 : (2 : Nat) ^ M ≤ 4096 := Nat.le_trans (Nat.pow_le_pow_right (by decide) (by omega) : 2 ^ M ≤ 2 ^ 12) (by decide)
  rw [mem_memN (Nat.lt_of_lt_of_le (hin i) h4)] at hx
  rcases Nat.lt_or_ge x M with h1 | h1
  · exact h1
  · rw [Nat.testBit_lt_two_pow (Nat.lt_of_lt_of_le (hin i) (Nat.pow_le_pow_right (by decide) h1))] at hx
    cases hx
/-- A list of the law: it is a kernel's. -/
def Good (n : Nat) (l1 : List S41) (W : World) (x : Option Addr × Nat × Nat) : Prop := ∃ zs s, Kd.C (Kd.int .i64) W x.1 x.2.1 zs ∧ ListIs n s zs ∧ kerB n (townO l1) s = true ∧ zs.length ≤ 50
theorem Good.below {n : Nat} {l1 : List S41} {W W1 : World} {x : Option Addr × Nat × Nat} (h : Good n l1 W x) (hb : Below W.heap.size W W1) : Good n l1 W1 x := by
  obtain ⟨zs, s, h1, h2⟩ := h
  exact ⟨zs, s, Kd.C_below h1 hb, h2⟩
theorem R_empty {α : Type} {d : Kd α} {W : World} {g base : Nat} {e : TypeId} {ok : Nat → Prop} (hg : base ≤ g) (hok : ok g) (h : W.heap[g]? = some (.cells #[] e (0, 0))) : d.R e W base ok (.slice (some ⟨g, 0, none⟩) 0 0) [] :=
  ⟨fun k hk => by obtain rfl : g = k := by simpa [Value.ownBlock] using hk
                  exact hok, [], ⟨by simp, .inr ⟨g, 0, #[], rfl, hg, h, Nat.le_refl _, Nat.zero_le _, by simp, by simp⟩⟩, Reps.none _ _⟩
set_option maxHeartbeats 16000000 in
set_option maxRecDepth 100000 in
theorem grounded_walk (n : Int) (A1 : Option Addr) (c1 : Nat) (l1 : List S41) (A2 : Option Addr) (c2 : Nat) (l2 : List Int) (w : World) (hr1 : Kd.C k41 w A1 l1.length l1) (hr2 : Kd.C (Kd.int .i64) w A2 l2.length l2) :
    Calls Try.prog 3 #[.int .i64 n, .slice A1 l1.length c1, .slice A2 l2.length c2] w fun e w' => e = .returned (.bool true) ∧ Below w.heap.size w w' := by
  have HSP := Lib.hid spoken_calls
  have HSE := Lib.hid (fun (wr : World) hr => sentences_walk n A1 c1 l1 wr hr)
  have HIS := Lib.hid (fun (wr : World) hr1 hr2 h => is_calls n A1 c1 l1 A2 c2 l2 wr hr1 hr2 h)
  have HKE := Lib.hid (fun (wr : World) hr => kernel_calls n A1 c1 l1 wr hr)
  have HR1 := Aside0.mk hr1
  have HR2 := Aside0.mk hr2
  obtain ⟨N, hN⟩ : ∃ N, l1.length = N := ⟨_, rfl⟩
  obtain ⟨N2, hN2⟩ : ∃ N2, l2.length = N2 := ⟨_, rfl⟩
  rw [hN] at HR1 HSE HIS HKE ⊢
  rw [hN2] at HR2 HIS ⊢
  have HL2 := Aside0.mk hN2
  clear hr1 hr2 hN hN2
  by_cases cb : 150 < N ∨ 50 < N2
  · by_cases cb1 : 150 < N
    · have d1 : decide ((150 : Int) < (N : Int)) = true := decide_eq_true (by omega)
      have d1n : (150 < N) = True := eq_true cb1
      clear cb cb1
      go_enter Try.func3, Try.ntmps3
      go_wp2_with (fail)
      refine (HSP.out _).mono ?_; rintro e wa ⟨rfl, hb⟩
      have HB := Aside0.mk hb
      clear hb
      go_wp2_with (fail)
      go_ret
      exact ⟨rfl, HB.out⟩
    · have d1 : decide ((150 : Int) < (N : Int)) = false := decide_eq_false (by omega)
      have d1n : (150 < N) = False := eq_false cb1
      have d2 : decide ((50 : Int) < (N2 : Int)) = true := decide_eq_true (by omega)
      have d2n : (50 < N2) = True := eq_true (by omega)
      clear cb cb1
      go_enter Try.func3, Try.ntmps3
      go_wp2_with (fail)
      refine (HSP.out _).mono ?_; rintro e wa ⟨rfl, hb⟩
      have HB := Aside0.mk hb
      clear hb
      go_wp2_with (fail)
      go_ret
      exact ⟨rfl, HB.out⟩
  have d1 : decide ((150 : Int) < (N : Int)) = false := decide_eq_false (by omega)
  have d1n : (150 < N) = False := eq_false (by omega)
  have d2 : decide ((50 : Int) < (N2 : Int)) = false := decide_eq_false (by omega)
  have d2n : (50 < N2) = False := eq_false (by omega)
  have HN2 := Aside0.mk (show N2 ≤ 50 by omega)
  clear cb
  go_enter Try.func3, Try.ntmps3
  go_wp2_with (fail)
  refine (HSE.out _ HR1.out).mono ?_; rintro e wa ⟨v7, rfl, hr7, hba⟩
  have HBA := Aside0.mk hba
  have HR7 := Aside0.mk hr7
  obtain ⟨A7, c7, rfl⟩ := Kd.R_slice hr7
  clear hba hr7
  go_wp2_with (fail)
  refine (HIS.out _ (Kd.C_below HR1.out HBA.out) (Kd.C_below HR2.out HBA.out) HN2.out).mono ?_; rintro e wb ⟨is, rfl, his, hbb⟩
  have HI := Aside0.mk his
  have HBB := Aside0.mk (HBA.out.trans (hbb.mono HBA.out.size))
  have HR8 := Aside0.mk (Kd.R_below HR7.out hbb)
  clear his hbb HBA HR7
  obtain ⟨E, hE⟩ : ∃ E, townE n l1 = E := ⟨_, rfl⟩
  obtain ⟨F, hF⟩ : ∃ F, (sentF n l1).2 = F := ⟨_, rfl⟩
  rw [hE, hF]
  have HEF := Aside0.mk (And.intro hE hF)
  clear hE hF
  by_cases cE : E = 0
  · by_cases cF : F = 0
    · obtain rfl := cE
      obtain rfl := cF
      have hz := townE_zero' HEF.out.1
      have hsf : sentF n l1 = ((sentMs n l1).map combB, 0) ∧ n ≤ 10 ∧ sentOk (sentMs n l1) = true := by
        have h2 := HEF.out.2
        unfold sentF at h2 ⊢
        rw [if_neg (fun h => h HEF.out.1)] at h2 ⊢
        by_cases c1 : 10 < n
        · rw [if_pos c1] at h2; cases h2
        rw [if_neg c1] at h2 ⊢
        by_cases c2 : sentOk (sentMs n l1) = true
        · rw [if_pos c2]; exact ⟨rfl, by omega, c2⟩
        · rw [if_neg c2] at h2; cases h2
      obtain ⟨M, rfl⟩ := Int.eq_ofNat_of_zero_le (show 0 ≤ n by omega)
      have hM : 1 ≤ M ∧ M ≤ 10 := by omega
      have hin := townO_in M (by omega) l1 hz.2.2
      have hml : (sentMs (M : Int) l1).length = M := by simp [sentMs]
      have hsl : (sentF (M : Int) l1).1.length = M := by rw [hsf.1, List.length_map, hml]
      have hr8 := HR8.out
      rw [hsl, hsf.1] at hr8
      rw [hsl]
      have HC8 := Aside0.mk (show Kd.C Kd.string wb A7 M ((sentMs (M : Int) l1).map combB) by have h := (Kd.R_reads' hr8).2.2; rw [List.length_map, hml] at h; exact h)
      have HLE := Lib.hid (fun (wr : World) hr => least_comb (sentMs (M : Int) l1) M hml hM.1 hM.2 (sent_ok hM.2 hin hsf.2.2) A7 c7 wr hr)
      have HTE := Aside0.mk HEF.out.1
      have HM := Aside0.mk hM
      have HIN := Aside0.mk hin
      have HLV := Aside0.mk (show (itL (sentMs (M : Int) l1) M).length = M by rw [itL_len, hml])
      clear hz hsf hM hin hml hsl hr8 HR8 HEF
      go_wp2_with (fail)
      refine (HLE.out _ HC8.out).mono ?_; rintro e wc ⟨rfl, hbc⟩
      have HBC := Aside0.mk (HBB.out.trans (hbc.mono HBB.out.size))
      clear hbc HBB HC8
      obtain ⟨vl, hvl⟩ : ∃ vl, itL (sentMs (M : Int) l1) M = vl := ⟨_, rfl⟩
      have HVL := Aside0.mk hvl
      rw [hvl] at HLV ⊢
      clear hvl
      have hsz : (ByteArray.mk vl.toArray).size = M := by have h := HLV.out; simpa [ByteArray.size] using h
      go_wp2_with (fail)
      refine (HKE.out _ (Kd.C_below HR1.out HBC.out)).mono ?_; rintro e wd ⟨v13, E13, lk, rfl, hrk, hk, hbd⟩
      obtain ⟨A13, c13, rfl⟩ := Kd.R_slice hrk
      have hgk : E13 = 0 → Good M l1 wd (A13, lk.length, c13) := fun h0 => by
        rcases hk with ⟨h1, _⟩ | ⟨_, h2⟩
        · exact absurd HTE.out h1
        · rcases h2 with ⟨_, s, h4, h5, h6⟩ | ⟨h3, _⟩
          · rw [Int.toNat_natCast] at h4 h5
            refine ⟨lk, s, (Kd.R_reads' hrk).2.2, by rw [h6]; exact mem_list (by have := HM.out; omega) h4, h5, ?_⟩
            rw [h6]
            have h7 := List.length_filter_le (fun i => s.testBit i) (List.range 12)
            simp only [memI, memN, List.length_map, List.length_range] at h7 ⊢
            omega
          · omega
      have hgs : is = true → Good M l1 wd (A2, N2, c2) := fun h0 => by
        obtain ⟨_, s, h1, h2⟩ := HI.out h0
        rw [Int.toNat_natCast] at h1 h2
        exact ⟨l2, s, Kd.C_below HR2.out (HBC.out.trans (hbd.mono HBC.out.size)), h2, h1, by rw [HL2.out]; exact HN2.out⟩
      have hend : E13 = 0 ∨ (E13 = 10 ∧ is = false) := by
        rcases hk with ⟨h1, _⟩ | ⟨_, h2⟩
        · exact absurd HTE.out h1
        · rcases h2 with ⟨h3, _⟩ | ⟨h3, _, h4⟩
          · exact .inl h3
          · refine .inr ⟨h3, ?_⟩
            rcases is with _ | _
            · rfl
            · exfalso
              obtain ⟨_, s, h5, h6⟩ := HI.out rfl
              rw [h4 s h6.1] at h5
              cases h5
      obtain ⟨L13, hL13⟩ : ∃ L13, lk.length = L13 := ⟨_, rfl⟩
      rw [hL13] at hgk ⊢
      have HGK := Aside0.mk hgk
      have HGS := Aside0.mk hgs
      have HEN := Aside0.mk hend
      have HBD := Aside0.mk (HBC.out.trans (hbd.mono HBC.out.size))
      clear hgk hgs hend hrk hk hbd hL13 HI HBC HKE HIS HSE HLE
      go_upto_if 87 with (fail)
      generalize hW : (World.alloc _ _ : World) = w1
      obtain ⟨gl, hgl⟩ : ∃ gl, gl = wd.heap.size := ⟨_, rfl⟩
      have hh : w1.heap[gl]? = some (.cells #[] 23 (0, 0)) := by rw [← hW, hgl]; exact alloc1_newT wd _
      have hb1 : Below wd.heap.size wd w1 := by rw [← hW]; exact (Below.refl _ _).alloc (Nat.le_refl _) _
      rw [← hgl]
      have HB1 := Aside0.mk hb1
      have HL1 := Aside0.mk (show Kd.R kS 23 w1 wd.heap.size (fun _ => True) (.slice (some ⟨gl, 0, none⟩) 0 0) [] from R_empty (by omega) trivial hh)
      obtain ⟨v15, hv15⟩ : ∃ v15, v15 = Value.slice (some ⟨gl, 0, none⟩) 0 0 := ⟨_, rfl⟩
      rw [← hv15] at HL1 ⊢
      clear hW hh hb1 hgl hv15
      go_cut [15] (fun v15 wc => ∃ ls : List (Option Addr × Nat × Nat), Aside0 (ls.length ≤ 1) ∧ Aside0 (∀ x ∈ ls, Good M l1 wd x) ∧ Aside0 (Kd.R kS 23 wc wd.heap.size (fun _ => True) v15 ls) ∧ Aside0 (Below wd.heap.size wd wc))
      case first =>
        cases is with
        | true =>
          have hg := HGS.out rfl
          have HG := Aside0.mk (show ∀ x ∈ ([(A2, N2, c2)] : List (Option Addr × Nat × Nat)), Good M l1 wd x from fun x hx => by rw [List.mem_singleton] at hx; rw [hx]; exact hg)
          clear hg
          go_wp2_with (first | ((with_reducible refine gate_builtin (b := .append) (xs := #[.tmp 88, .tmp 90]) rfl ?_); at_builtin; refine Kd.R_append kS (w0 := wd) wd.heap.size rfl (.tmp 88) (.tmp 90) 35 23 (.slice none 0 0) 24 rfl Try.underlying35 info23 rfl (by decide) (by omega) v15 [] (A2, N2, c2) [.slice A2 N2 c2] (fun _ => True) (fun _ => False) rfl rfl ?aP (fun _ hk => hk.elim) ?aF ?aO ?aB ?aS ?aL ?_; (case aP => exact rfl); (case aF => exact (fun _ _ => trivial)); (case aO => exact HL1.out); (case aB => exact HB1.out); (case aS => exact HB1.out.size); (case aL => show (0 + 1) * 24 ≤ 140737488355328; omega); intro v1 w9 ho hb hg hat; have HO5 := Aside0.mk ho; have HB5 := Aside0.mk hb; clear HB1 HL1; clear ho hb hg hat))
          go_meet
          case rel => exact ⟨_, ⟨Nat.le_refl _⟩, HG, HO5, HB5⟩
        | false =>
          go_wp2
          go_meet
          case rel => exact ⟨[], ⟨by decide⟩, ⟨fun x hx => by simp at hx⟩, HL1, HB1⟩
      case rest =>
        clear HB1 HL1
        obtain ⟨ls, HLN, HLG, HLR, HLB⟩ := hcut
        rename_i u15
        have hec : E13 = 0 ∨ E13 = 10 := by rcases HEN.out with h | h; exact .inl h; exact .inr h.1
        go_upto_if 93 with (fail)
        go_cut [15] (fun v15 wc => ∃ ls : List (Option Addr × Nat × Nat), Aside0 (ls.length ≤ 2) ∧ Aside0 (∀ x ∈ ls, Good M l1 wd x) ∧ Aside0 (Kd.R kS 23 wc wd.heap.size (fun _ => True) v15 ls) ∧ Aside0 (Below wd.heap.size wd wc))
        case first =>
          rcases hec with he | he
          · have hg := HGK.out he
            have HG := Aside0.mk (show ∀ x ∈ ls ++ [(A13, L13, c13)], Good M l1 wd x from fun x hx => by
              rcases List.mem_append.1 hx with hx | hx
              · exact HLG.out x hx
              · rw [List.mem_singleton] at hx; rw [hx]; exact hg)
            have e1 : (E13 == 0) = true := beq_iff_eq.2 he
            have e2 : (E13 = 0) = True := eq_true he
            clear hg he
            go_wp2_with (first | ((with_reducible refine gate_builtin (b := .append) (xs := #[.tmp 94, .tmp 96]) rfl ?_); at_builtin; refine Kd.R_append kS (w0 := wd) wd.heap.size rfl (.tmp 94) (.tmp 96) 35 23 (.slice none 0 0) 24 rfl Try.underlying35 info23 rfl (by decide) (by omega) _ ls (A13, L13, c13) [.slice A13 L13 c13] (fun _ => True) (fun _ => False) rfl rfl ?aP (fun _ hk => hk.elim) ?aF ?aO ?aB ?aS ?aL ?_; (case aP => exact rfl); (case aF => exact (fun _ _ => trivial)); (case aO => exact HLR.out); (case aB => exact HLB.out); (case aS => exact HLB.out.size); (case aL => have := HLN.out; omega); intro v1 w9 ho hb hg hat; have HO5 := Aside0.mk ho; have HB5 := Aside0.mk hb; clear HLB HLR; clear ho hb hg hat))
            go_meet
            case rel => exact ⟨_, ⟨by have := HLN.out; rw [List.length_append]; simpa using this⟩, HG, HO5, HB5⟩
          · have e1 : (E13 == 0) = false := beq_eq_false_iff_ne.2 (by omega)
            have e2 : (E13 = 0) = False := eq_false (by omega)
            clear he
            go_wp2
            go_meet
            case rel => exact ⟨ls, ⟨by have := HLN.out; omega⟩, HLG, HLR, HLB⟩
        case rest =>
          clear HLN HLG HLR HLB
          clear ls
          obtain ⟨ls, HLN, HLG, HLR, HLB⟩ := hcut
          obtain ⟨A15, c15, rfl, hl15, hc15⟩ := Kd.R_reads HLR.out
          obtain ⟨K, hK⟩ : ∃ K, ls.length = K := ⟨_, rfl⟩
          rw [hK] at hc15 ⊢
          have HC15 := Aside0.mk hc15
          have HK := Aside0.mk (show ls.length = K ∧ K ≤ 2 from ⟨hK, by have := HLN.out; omega⟩)
          have HWD := Aside0.mk HLB.out.size
          have HG2 := Aside0.mk (show ∀ x ∈ ls, Good M l1 wc x from fun x hx => (HLG.out x hx).below HLB.out)
          have HBW := Aside0.mk (HBD.out.trans (HLB.out.mono HBD.out.size))
          clear hl15 hc15 hK HLR HLG HLN HLB HGK HGS HBD
          go_wp2
          go_loopw [16] (fun v16 wr => ∃ i : Nat, i ≤ K ∧ v16 = .int .i64 (i : Int) ∧ Aside0 (Below wc.heap.size wc wr)) (fun v16 _ => K - (intOf v16).toNat)
          case atStart => exact ⟨0, by omega, rfl, ⟨Below.refl _ _⟩⟩
          case round =>
            obtain ⟨i, hi, rfl, HB⟩ := hrel
            by_cases hiK : i < K
            · have d4 : decide ((i : Int) < (K : Int)) = true := decide_eq_true (by omega)
              have d4n : (i < K) = True := eq_true hiK
              obtain ⟨ad, e, hcell⟩ := at_scalar HC15.out i hiK (by have := HK.out; omega)
              subst e
              have HCL := Aside0.mk hcell
              have hil : i < ls.length := by have := HK.out; omega
              have hgood := HG2.out ls[i] (List.getElem_mem _)
              obtain ⟨xx, hxx⟩ : ∃ xx, ls[i] = xx := ⟨_, rfl⟩
              rw [hxx] at hcell hgood
              rw [hxx] at HCL
              obtain ⟨A, L, c⟩ := xx
              obtain ⟨zs, s, hz1, hz2, hz3, hz4⟩ := hgood
              replace HCL : Aside0 (wc.cell? (ad.add i) = some (.slice A L c)) := HCL
              have HZ := Aside0.mk (show Kd.C (Kd.int .i64) wc A L zs from hz1)
              have HZL := Aside0.mk (show zs.length = L ∧ L ≤ 50 from ⟨hz1.1, by have h1 : zs.length = L := hz1.1; have h2 : zs.length ≤ 50 := hz4; omega⟩)
              have HLI := Aside0.mk hz2
              have HGV := Aside0.mk (show ∀ p, p < M → ((vl.getD p 0).toNat = 49 → s.testBit p = true) ∧ ((vl.getD p 0).toNat = 48 → s.testBit p = false) from fun p hp => by
                rw [← HVL.out]
                exact grounded M (by have := HM.out; omega) l1 HIN.out s hz2.1 hz3 M p hp)
              clear hcell hxx hz1 hz2 hz3 hz4 hil
              go_wp2_with (first | ((with_reducible refine gate_dst (N := 105) rfl ?_); refine Kd.R_make Kd.bool _ 4 rfl (N := 105) rfl 36 _ _ rfl (M : Int) rfl rfl Try.underlying36 (.bool false) 1 info4 rfl (by decide) (by omega) false (ok := fun _ => True) (okp := fun _ => True) rfl (fun _ hk => hk) trivial (by omega) (by have := HM.out; rw [Int.toNat_natCast]; omega) (Below.refl _ _) (Nat.le_refl _) ?_; intro v1 w1 ho hb hg hnew; have HO := Aside0.mk ho; have HB1 := Aside0.mk hb; clear ho hb hg hnew))
              have ho := HO.out
              rw [Int.toNat_natCast] at ho
              have hM0 : 0 < M := HM.out.1
              obtain ⟨g17, c17, rfl⟩ := R_open ho (by rw [List.length_replicate]; exact hM0)
              rw [List.length_replicate] at ho ⊢
              have HO1 := Aside0.mk ho
              have HG17 := Aside0.mk (show wr.heap.size ≤ g17 from ((Kd.R_bound ho).1 g17 rfl).2.1)
              clear ho HO hM0
              go_wp2
              go_loopw [18] (fun v18 wj => ∃ (j : Nat) (bs : List Bool), j ≤ L ∧ v18 = .int .i64 (j : Int) ∧ Aside0 (Kd.R Kd.bool 4 wj wr.heap.size (fun _ => True) (.slice (some ⟨g17, 0, none⟩) M c17) bs) ∧ Aside0 (∀ p, p < M → (bs.getD p false = true ↔ (p : Int) ∈ zs.take j)) ∧ Aside0 (Below wr.heap.size wr wj)) (fun v18 _ => L - (intOf v18).toNat)
              case atStart => exact ⟨0, _, by omega, rfl, HO1, ⟨fun p hp => by simp [List.getD_eq_getElem?_getD, hp]⟩, HB1⟩
              case round =>
                clear HO1 HB1
                obtain ⟨j, bs, hj, rfl, HO, HBS, HBJ⟩ := hrel
                have HBK := Aside0.mk (HB.out.trans (HBJ.out.mono HB.out.size))
                have hcell := (HBK.out.cell (World.block_lt_of_cell? wc _ HCL.out)).trans HCL.out
                by_cases hjL : j < L
                · have e1 : decide ((j : Int) < (L : Int)) = true := decide_eq_true (by omega)
                  have e1n : (j < L) = True := eq_true hjL
                  obtain ⟨ad2, e, hc2⟩ := at_scalar HZ.out j hjL (by have := HZL.out; omega)
                  subst e
                  replace hc2 := (HBK.out.cell (World.block_lt_of_cell? wc _ hc2)).trans hc2
                  have hil : j < zs.length := by have := HZL.out; omega
                  have HTK := Aside0.mk (show zs.take (j + 1) = zs.take j ++ [zs[j]] from (List.take_succ_eq_append_getElem hil))
                  have hin := HLI.out.2.1 zs[j] (List.getElem_mem _)
                  obtain ⟨x, hx⟩ : ∃ x, zs[j] = x := ⟨_, rfl⟩
                  rw [hx] at hc2 HTK hin
                  obtain ⟨X, rfl⟩ := Int.eq_ofNat_of_zero_le hin.1
                  have hXM : X < M := by omega
                  have e2 : decide ((X : Int) < 0) = false := decide_eq_false (by omega)
                  have e3 : decide ((M : Int) ≤ (X : Int)) = false := decide_eq_false (by omega)
                  have e3n : (M ≤ X) = False := eq_false (by omega)
                  have e4 : decide ((X : Int) < (M : Int)) = true := decide_eq_true (by omega)
                  have e4n : (X < M) = True := eq_true hXM
                  have hcf := Kd.R_celln false HO.out (X : Int) (by omega) (by omega)
                  have hp2 := Kd.R_putn HO.out (X : Int) true
                  have hbl : bs.length = M := (Kd.R_reads' HO.out).1.symm
                  rw [Int.toNat_natCast] at hcf hp2
                  obtain ⟨hcc, hff⟩ := hcf
                  have HP2 := Aside0.mk hp2
                  have HX := Aside0.mk (show ∀ p, p < M → ((bs.set X true).getD p false = true ↔ (p : Int) ∈ zs.take (j + 1)) from fun p hp => by
                    rw [HTK.out, List.mem_append, List.mem_singleton]
                    by_cases hpx : X = p
                    · subst hpx
                      constructor
                      · exact fun _ => .inr rfl
                      · intro _; simp [List.getD_eq_getElem?_getD, hbl, hXM]
                    · have h3 : (bs.set X true).getD p false = bs.getD p false := by simp [List.getD_eq_getElem?_getD, List.getElem?_set_ne hpx]
                      rw [h3, HBS.out p hp]
                      constructor
                      · exact fun h => .inl h
                      · rintro (h | h)
                        · exact h
                        · exact absurd (by omega : X = p) hpx)
                  have HGB := Aside0.mk (HBJ.out.setCell (p := ⟨g17, X, none⟩) HG17.out (.bool true))
                  clear hil hin hx hXM hp2 hbl
                  go_wp2
                  go_roundw
                  case rel => exact ⟨j + 1, _, by omega, vI (by have := HZL.out; omega), HP2, HX, HGB⟩
                  case measure => exact mstepA hjL (by have := HZL.out; omega)
                · have e1 : decide ((j : Int) < (L : Int)) = false := decide_eq_false (by omega)
                  have e1n : (j < L) = False := eq_false hjL
                  have hta : zs.take j = zs := List.take_of_length_le (by have := HZL.out; omega)
                  have HBS2 := Aside0.mk (show ∀ p, p < M → (bs.getD p false = true ↔ s.testBit p = true) from fun p hp => by rw [HBS.out p hp, hta, HLI.out.2.2 p hp])
                  clear hta HBS
                  go_wp2
                  go_loop [20] (fun v20 => ∃ p : Nat, p ≤ M ∧ v20 = .int .i64 (p : Int)) (fun v20 => M - (intOf v20).toNat)
                  case atStart => exact ⟨0, by omega, rfl⟩
                  case round =>
                    obtain ⟨p, hp, rfl⟩ := hrel
                    by_cases hpM : p < M
                    · have f1 : decide ((p : Int) < (M : Int)) = true := decide_eq_true (by omega)
                      have f1n : (p < M) = True := eq_true hpM
                      have hcf := (Kd.R_celln false HO.out (p : Int) (by omega) (by omega)).1
                      rw [Int.toNat_natCast] at hcf
                      obtain ⟨b, hb⟩ : ∃ b, bs.getD p false = b := ⟨_, rfl⟩
                      have hcb : wr.cell? ⟨g17, p, none⟩ = some (.bool b) := by rw [hcf, ← hb]; rfl
                      obtain ⟨cc, hcc⟩ : ∃ cc, vl.getD p 0 = cc := ⟨_, rfl⟩
                      have hget : ∀ h : p < (ByteArray.mk vl.toArray).size, (ByteArray.mk vl.toArray)[p]'h = cc := fun h => by
                        rw [← hcc]
                        have hl : p < vl.length := by have := HLV.out; omega
                        simp [List.getD_eq_getElem?_getD, hl]
                        rfl
                      obtain ⟨q, hq⟩ : ∃ q, cc.toNat = q := ⟨_, rfl⟩
                      have hgr := HGV.out p hpM
                      have hbb := HBS2.out p hpM
                      rw [hcc, hq] at hgr
                      rw [hb] at hbb
                      clear hcf hb hcc
                      by_cases h49 : q = 49
                      · have hbt : b = true := hbb.2 (hgr.1 h49)
                        subst hbt
                        subst h49
                        clear hgr hbb
                        go_wp2
                        exact ⟨⟨p + 1, by omega, vI (by have := HM.out; omega)⟩, mstepA hpM (by have := HM.out; omega)⟩
                      · by_cases h48 : q = 48
                        · have hbt : b = false := by
                            rcases b with _ | _
                            · rfl
                            · have h1 := hbb.1 rfl
                              rw [hgr.2 h48] at h1
                              cases h1
                          subst hbt
                          subst h48
                          clear hgr hbb h49
                          go_wp2
                          exact ⟨⟨p + 1, by omega, vI (by have := HM.out; omega)⟩, mstepA hpM (by have := HM.out; omega)⟩
                        · have g1 : ((q : Int) == 49) = false := beq_eq_false_iff_ne.2 (by omega)
                          have g2 : ((q : Int) == 48) = false := beq_eq_false_iff_ne.2 (by omega)
                          have g1n : (q = 49) = False := eq_false h49
                          have g2n : (q = 48) = False := eq_false h48
                          clear hgr hbb h49 h48
                          go_wp2
                          exact ⟨⟨p + 1, by omega, vI (by have := HM.out; omega)⟩, mstepA hpM (by have := HM.out; omega)⟩
                    · have f1 : decide ((p : Int) < (M : Int)) = false := decide_eq_false (by omega)
                      have f1n : (p < M) = False := eq_false hpM
                      go_wp2
                      go_roundw
                      case rel => exact ⟨i + 1, by omega, vI (by have := HK.out; omega), HBK⟩
                      case measure => exact mstepA hiK (by have := HK.out; omega)
            · have d4 : decide ((i : Int) < (K : Int)) = false := decide_eq_false (by omega)
              have d4n : (i < K) = False := eq_false hiK
              have HBF := Aside0.mk (HBW.out.trans (HB.out.mono HBW.out.size))
              rcases HEN.out with he | ⟨he, he2⟩
              · subst he
                clear hec
                go_wp2_with (fail)
                refine (HSP.out _).mono ?_; rintro e wz ⟨rfl, hbz⟩
                have HBZ := Aside0.mk (HBF.out.trans (hbz.mono HBF.out.size))
                clear hbz
                go_wp2_with (fail)
                go_ret
                exact ⟨rfl, HBZ.out⟩
              · subst he
                subst he2
                clear hec
                go_wp2_with (fail)
                refine (HSP.out _).mono ?_; rintro e wz ⟨rfl, hbz⟩
                have HBZ := Aside0.mk (HBF.out.trans (hbz.mono HBF.out.size))
                clear hbz
                go_wp2_with (fail)
                go_ret
                exact ⟨rfl, HBZ.out⟩
    · have hFE : (sentF n l1) = ([], F) := by
        have h2 := HEF.out.2
        unfold sentF at h2 ⊢
        rw [HEF.out.1, if_neg (fun h => h cE)] at h2 ⊢
        by_cases c1 : 10 < n
        · rw [if_pos c1] at h2 ⊢; rw [← h2]
        rw [if_neg c1] at h2 ⊢
        by_cases c2 : sentOk (sentMs n l1) = true
        · rw [if_pos c2] at h2; exact absurd h2.symm cF
        · rw [if_neg c2] at h2 ⊢; rw [← h2]
      subst cE
      have hln : (sentF n l1).1.length = 0 := by rw [hFE]; rfl
      rw [hln]
      have d3 : (F == 0) = false := beq_eq_false_iff_ne.2 cF
      have d3b : (F != 0) = true := bne_iff_ne.2 cF
      have d3n : (F = 0) = False := eq_false cF
      clear hln hFE cF
      go_wp2_with (fail)
      refine (HSP.out _).mono ?_; rintro e wc ⟨rfl, hbc⟩
      have HBC := Aside0.mk (HBB.out.trans (hbc.mono HBB.out.size))
      clear hbc
      go_wp2_with (fail)
      go_ret
      exact ⟨rfl, HBC.out⟩
  · have hFE : (sentF n l1) = ([], E) := by unfold sentF; rw [HEF.out.1, if_pos cE]
    have hF2 := HEF.out.2
    rw [hFE] at hF2
    obtain rfl : E = F := hF2
    obtain rfl : is = false := by
      rcases is with _ | _
      · rfl
      · exact absurd ((HI.out rfl).1 ) (by rw [HEF.out.1]; exact cE)
    have hln : (sentF n l1).1.length = 0 := by rw [hFE]; rfl
    rw [hln]
    have d3 : (E == 0) = false := beq_eq_false_iff_ne.2 cE
    have d3b : (E != 0) = true := bne_iff_ne.2 cE
    have d3n : (E = 0) = False := eq_false cE
    clear hln hFE cE
    go_wp2_with (fail)
    refine (HSP.out _).mono ?_; rintro e wc ⟨rfl, hbc⟩
    have HBC := Aside0.mk (HBB.out.trans (hbc.mono HBB.out.size))
    clear hbc
    go_wp2_with (fail)
    go_ret
    exact ⟨rfl, HBC.out⟩
end Go.Proofs.Ytagmadfllfcloaa.PC
end
