/-
  No cell of these rows narrows 'for every input' (looked for: loops, veiled, ifaces, maps, wideKeys, modest, calm, conditions, laid).
  DERIVED. THE GIVEN ROWS OF THIS SEAT. 16 by the template 'for every input the law returns true; each argument reads behind the call as it read before'; 0 by the template 'total and deterministic' (their statements: YtjfkompfkgjdaaaTotals.lean).
  GIVEN WITH THE SEED: the statements are not yours to turn. If you find one false, say at which input.
  Laid BY PROGRAM, IN A SANDBOX (cutbox-rows.mjs): the forced cells as the released guide's own fill.sh prints them over the translation 9743086e6e790b40… (all of the seat's roots in one cut). By AI agents, Wed Nov 11 2026. No macro, syntax, notation, axiom, sorry.
-/
import Derived.Test.YtjfkompfkgjdaaaChecked
import GoSem.Claim
import GoSem.ClaimJoined
import GoSem.ClaimMapViews
import Derived.JoinedTies
import Derived.KernelRfl
namespace Go.Proofs.Ytjfkompfkgjdaaa
/- THE CELL 'sum', in the pinned program and in every row, IS THE sha256 OF THE DUMP (.gsa) THAT YtjfkompfkgjdaaaProg.lean LOADS. Nothing in Lean hashes anything: it is a label: what it is worth is what the hold of that sum in a sandbox is worth. -/
noncomputable def Try.pinned : Pinned := { name := "ytjfkompfkgjdaaa", sum := "9743086e6e790b40ed9772799cc2009e3f8b44f13d885725a17db35c7c58f4da", checked := Try.checked }
namespace Rows
def none {H : Type} : Left H := { results := [], args := [] }

/-- 'pomadelaw07.PlaitWords': WHATEVER THE INPUT: true; the input reads as it did. -/
def plaitWordsSpec : ChangeSpec := { name := "plaitWords", fn := fun _ => fun
  | [d] => { results := [.lit (.bool true)], args := [d] }
  | _ => none }
def plaitWordsRow : OpenClaim := { program := "ytjfkompfkgjdaaa", sum := "9743086e6e790b40ed9772799cc2009e3f8b44f13d885725a17db35c7c58f4da", func := "pomade/pomadelaw07.PlaitWords", spec := "plaitWords", inPlace := ["internal/abi.NoEscape", "internal/bytealg.MakeNoZero"], unfollowed := true, recurses := true, apart := false }
def PlaitWordsSaid : Prop := plaitWordsRow.holds Try.pinned (OpenSpec.ofChange plaitWordsSpec)

/-- ITS FALSE NEIGHBOUR: 'it returns false'. Refute it at one input. -/
def plaitWordsWrong : ChangeSpec := { name := "plaitWords", fn := fun _ => fun
  | [d] => { results := [.lit (.bool false)], args := [d] }
  | _ => none }
def PlaitWordsWrongFalsely : Prop := plaitWordsRow.holds Try.pinned (OpenSpec.ofChange plaitWordsWrong)

/-- 'pomadelaw07.PlaitMeanders': WHATEVER THE INPUT: true; the input reads as it did. -/
def plaitMeandersSpec : ChangeSpec := { name := "plaitMeanders", fn := fun _ => fun
  | [d1, d2] => { results := [.lit (.bool true)], args := [d1, d2] }
  | _ => none }
def plaitMeandersRow : OpenClaim := { program := "ytjfkompfkgjdaaa", sum := "9743086e6e790b40ed9772799cc2009e3f8b44f13d885725a17db35c7c58f4da", func := "pomade/pomadelaw07.PlaitMeanders", spec := "plaitMeanders", inPlace := ["internal/abi.NoEscape", "internal/bytealg.MakeNoZero"], unfollowed := true, recurses := true, apart := false }
def PlaitMeandersSaid : Prop := plaitMeandersRow.holds Try.pinned (OpenSpec.ofChange plaitMeandersSpec)

/-- ITS FALSE NEIGHBOUR: 'it returns false'. Refute it at one input. -/
def plaitMeandersWrong : ChangeSpec := { name := "plaitMeanders", fn := fun _ => fun
  | [d1, d2] => { results := [.lit (.bool false)], args := [d1, d2] }
  | _ => none }
def PlaitMeandersWrongFalsely : Prop := plaitMeandersRow.holds Try.pinned (OpenSpec.ofChange plaitMeandersWrong)

/-- 'pomadelaw07.PlaitAssociates': WHATEVER THE INPUT: true; the input reads as it did. -/
def plaitAssociatesSpec : ChangeSpec := { name := "plaitAssociates", fn := fun _ => fun
  | [d1, d2, d3] => { results := [.lit (.bool true)], args := [d1, d2, d3] }
  | _ => none }
def plaitAssociatesRow : OpenClaim := { program := "ytjfkompfkgjdaaa", sum := "9743086e6e790b40ed9772799cc2009e3f8b44f13d885725a17db35c7c58f4da", func := "pomade/pomadelaw07.PlaitAssociates", spec := "plaitAssociates", inPlace := ["internal/abi.NoEscape", "internal/bytealg.MakeNoZero"], unfollowed := true, recurses := true, apart := false }
def PlaitAssociatesSaid : Prop := plaitAssociatesRow.holds Try.pinned (OpenSpec.ofChange plaitAssociatesSpec)

/-- ITS FALSE NEIGHBOUR: 'it returns false'. Refute it at one input. -/
def plaitAssociatesWrong : ChangeSpec := { name := "plaitAssociates", fn := fun _ => fun
  | [d1, d2, d3] => { results := [.lit (.bool false)], args := [d1, d2, d3] }
  | _ => none }
def PlaitAssociatesWrongFalsely : Prop := plaitAssociatesRow.holds Try.pinned (OpenSpec.ofChange plaitAssociatesWrong)

/-- 'pomadelaw07.PlaitTraces': WHATEVER THE INPUT: true; the input reads as it did. -/
def plaitTracesSpec : ChangeSpec := { name := "plaitTraces", fn := fun _ => fun
  | [d1, d2, d3, d4] => { results := [.lit (.bool true)], args := [d1, d2, d3, d4] }
  | _ => none }
def plaitTracesRow : OpenClaim := { program := "ytjfkompfkgjdaaa", sum := "9743086e6e790b40ed9772799cc2009e3f8b44f13d885725a17db35c7c58f4da", func := "pomade/pomadelaw07.PlaitTraces", spec := "plaitTraces", inPlace := ["internal/abi.NoEscape", "internal/bytealg.MakeNoZero"], unfollowed := true, recurses := true, apart := false }
def PlaitTracesSaid : Prop := plaitTracesRow.holds Try.pinned (OpenSpec.ofChange plaitTracesSpec)

/-- ITS FALSE NEIGHBOUR: 'it returns false'. Refute it at one input. -/
def plaitTracesWrong : ChangeSpec := { name := "plaitTraces", fn := fun _ => fun
  | [d1, d2, d3, d4] => { results := [.lit (.bool false)], args := [d1, d2, d3, d4] }
  | _ => none }
def PlaitTracesWrongFalsely : Prop := plaitTracesRow.holds Try.pinned (OpenSpec.ofChange plaitTracesWrong)

/-- 'pomadelaw07.PlaitProducts': WHATEVER THE INPUT: true; the input reads as it did. -/
def plaitProductsSpec : ChangeSpec := { name := "plaitProducts", fn := fun _ => fun
  | [d1, d2] => { results := [.lit (.bool true)], args := [d1, d2] }
  | _ => none }
def plaitProductsRow : OpenClaim := { program := "ytjfkompfkgjdaaa", sum := "9743086e6e790b40ed9772799cc2009e3f8b44f13d885725a17db35c7c58f4da", func := "pomade/pomadelaw07.PlaitProducts", spec := "plaitProducts", inPlace := ["internal/abi.NoEscape", "internal/bytealg.MakeNoZero"], unfollowed := true, recurses := true, apart := false }
def PlaitProductsSaid : Prop := plaitProductsRow.holds Try.pinned (OpenSpec.ofChange plaitProductsSpec)

/-- ITS FALSE NEIGHBOUR: 'it returns false'. Refute it at one input. -/
def plaitProductsWrong : ChangeSpec := { name := "plaitProducts", fn := fun _ => fun
  | [d1, d2] => { results := [.lit (.bool false)], args := [d1, d2] }
  | _ => none }
def PlaitProductsWrongFalsely : Prop := plaitProductsRow.holds Try.pinned (OpenSpec.ofChange plaitProductsWrong)

/-- 'pomadelaw07.PlaitRoads': WHATEVER THE INPUT: true; the input reads as it did. -/
def plaitRoadsSpec : ChangeSpec := { name := "plaitRoads", fn := fun _ => fun
  | [d1, d2] => { results := [.lit (.bool true)], args := [d1, d2] }
  | _ => none }
def plaitRoadsRow : OpenClaim := { program := "ytjfkompfkgjdaaa", sum := "9743086e6e790b40ed9772799cc2009e3f8b44f13d885725a17db35c7c58f4da", func := "pomade/pomadelaw07.PlaitRoads", spec := "plaitRoads", inPlace := ["internal/abi.NoEscape", "internal/bytealg.MakeNoZero"], unfollowed := true, recurses := true, apart := false }
def PlaitRoadsSaid : Prop := plaitRoadsRow.holds Try.pinned (OpenSpec.ofChange plaitRoadsSpec)

/-- ITS FALSE NEIGHBOUR: 'it returns false'. Refute it at one input. -/
def plaitRoadsWrong : ChangeSpec := { name := "plaitRoads", fn := fun _ => fun
  | [d1, d2] => { results := [.lit (.bool false)], args := [d1, d2] }
  | _ => none }
def PlaitRoadsWrongFalsely : Prop := plaitRoadsRow.holds Try.pinned (OpenSpec.ofChange plaitRoadsWrong)

/-- 'pomadelaw07.PlaitSums': WHATEVER THE INPUT: true; the input reads as it did. -/
def plaitSumsSpec : ChangeSpec := { name := "plaitSums", fn := fun _ => fun
  | [d] => { results := [.lit (.bool true)], args := [d] }
  | _ => none }
def plaitSumsRow : OpenClaim := { program := "ytjfkompfkgjdaaa", sum := "9743086e6e790b40ed9772799cc2009e3f8b44f13d885725a17db35c7c58f4da", func := "pomade/pomadelaw07.PlaitSums", spec := "plaitSums", inPlace := ["internal/abi.NoEscape", "internal/bytealg.MakeNoZero"], unfollowed := true, recurses := true, apart := false }
def PlaitSumsSaid : Prop := plaitSumsRow.holds Try.pinned (OpenSpec.ofChange plaitSumsSpec)

/-- ITS FALSE NEIGHBOUR: 'it returns false'. Refute it at one input. -/
def plaitSumsWrong : ChangeSpec := { name := "plaitSums", fn := fun _ => fun
  | [d] => { results := [.lit (.bool false)], args := [d] }
  | _ => none }
def PlaitSumsWrongFalsely : Prop := plaitSumsRow.holds Try.pinned (OpenSpec.ofChange plaitSumsWrong)

/-- 'pomadelaw07.PlaitPowers': WHATEVER THE INPUT: true; the input reads as it did. -/
def plaitPowersSpec : ChangeSpec := { name := "plaitPowers", fn := fun _ => fun
  | [d] => { results := [.lit (.bool true)], args := [d] }
  | _ => none }
def plaitPowersRow : OpenClaim := { program := "ytjfkompfkgjdaaa", sum := "9743086e6e790b40ed9772799cc2009e3f8b44f13d885725a17db35c7c58f4da", func := "pomade/pomadelaw07.PlaitPowers", spec := "plaitPowers", inPlace := ["internal/abi.NoEscape", "internal/bytealg.MakeNoZero"], unfollowed := true, recurses := true, apart := false }
def PlaitPowersSaid : Prop := plaitPowersRow.holds Try.pinned (OpenSpec.ofChange plaitPowersSpec)

/-- ITS FALSE NEIGHBOUR: 'it returns false'. Refute it at one input. -/
def plaitPowersWrong : ChangeSpec := { name := "plaitPowers", fn := fun _ => fun
  | [d] => { results := [.lit (.bool false)], args := [d] }
  | _ => none }
def PlaitPowersWrongFalsely : Prop := plaitPowersRow.holds Try.pinned (OpenSpec.ofChange plaitPowersWrong)

/-- 'pomadelaw07.PlaitBends': WHATEVER THE INPUT: true; the input reads as it did. -/
def plaitBendsSpec : ChangeSpec := { name := "plaitBends", fn := fun _ => fun
  | [d1, d2, d3] => { results := [.lit (.bool true)], args := [d1, d2, d3] }
  | _ => none }
def plaitBendsRow : OpenClaim := { program := "ytjfkompfkgjdaaa", sum := "9743086e6e790b40ed9772799cc2009e3f8b44f13d885725a17db35c7c58f4da", func := "pomade/pomadelaw07.PlaitBends", spec := "plaitBends", inPlace := ["internal/abi.NoEscape", "internal/bytealg.MakeNoZero"], unfollowed := true, recurses := true, apart := false }
def PlaitBendsSaid : Prop := plaitBendsRow.holds Try.pinned (OpenSpec.ofChange plaitBendsSpec)

/-- ITS FALSE NEIGHBOUR: 'it returns false'. Refute it at one input. -/
def plaitBendsWrong : ChangeSpec := { name := "plaitBends", fn := fun _ => fun
  | [d1, d2, d3] => { results := [.lit (.bool false)], args := [d1, d2, d3] }
  | _ => none }
def PlaitBendsWrongFalsely : Prop := plaitBendsRow.holds Try.pinned (OpenSpec.ofChange plaitBendsWrong)

/-- 'pomadelaw07.PlaitTurns': WHATEVER THE INPUT: true; the input reads as it did. -/
def plaitTurnsSpec : ChangeSpec := { name := "plaitTurns", fn := fun _ => fun
  | [d] => { results := [.lit (.bool true)], args := [d] }
  | _ => none }
def plaitTurnsRow : OpenClaim := { program := "ytjfkompfkgjdaaa", sum := "9743086e6e790b40ed9772799cc2009e3f8b44f13d885725a17db35c7c58f4da", func := "pomade/pomadelaw07.PlaitTurns", spec := "plaitTurns", inPlace := ["internal/abi.NoEscape", "internal/bytealg.MakeNoZero"], unfollowed := true, recurses := true, apart := false }
def PlaitTurnsSaid : Prop := plaitTurnsRow.holds Try.pinned (OpenSpec.ofChange plaitTurnsSpec)

/-- ITS FALSE NEIGHBOUR: 'it returns false'. Refute it at one input. -/
def plaitTurnsWrong : ChangeSpec := { name := "plaitTurns", fn := fun _ => fun
  | [d] => { results := [.lit (.bool false)], args := [d] }
  | _ => none }
def PlaitTurnsWrongFalsely : Prop := plaitTurnsRow.holds Try.pinned (OpenSpec.ofChange plaitTurnsWrong)

/-- 'pomadelaw07.PlaitStrands': WHATEVER THE INPUT: true; the input reads as it did. -/
def plaitStrandsSpec : ChangeSpec := { name := "plaitStrands", fn := fun _ => fun
  | [d1, d2] => { results := [.lit (.bool true)], args := [d1, d2] }
  | _ => none }
def plaitStrandsRow : OpenClaim := { program := "ytjfkompfkgjdaaa", sum := "9743086e6e790b40ed9772799cc2009e3f8b44f13d885725a17db35c7c58f4da", func := "pomade/pomadelaw07.PlaitStrands", spec := "plaitStrands", inPlace := ["internal/abi.NoEscape", "internal/bytealg.MakeNoZero"], unfollowed := true, recurses := true, apart := false }
def PlaitStrandsSaid : Prop := plaitStrandsRow.holds Try.pinned (OpenSpec.ofChange plaitStrandsSpec)

/-- ITS FALSE NEIGHBOUR: 'it returns false'. Refute it at one input. -/
def plaitStrandsWrong : ChangeSpec := { name := "plaitStrands", fn := fun _ => fun
  | [d1, d2] => { results := [.lit (.bool false)], args := [d1, d2] }
  | _ => none }
def PlaitStrandsWrongFalsely : Prop := plaitStrandsRow.holds Try.pinned (OpenSpec.ofChange plaitStrandsWrong)

/-- 'pomadelaw07.PlaitHooks': WHATEVER THE INPUT: true; the input reads as it did. -/
def plaitHooksSpec : ChangeSpec := { name := "plaitHooks", fn := fun _ => fun
  | [d1, d2] => { results := [.lit (.bool true)], args := [d1, d2] }
  | _ => none }
def plaitHooksRow : OpenClaim := { program := "ytjfkompfkgjdaaa", sum := "9743086e6e790b40ed9772799cc2009e3f8b44f13d885725a17db35c7c58f4da", func := "pomade/pomadelaw07.PlaitHooks", spec := "plaitHooks", inPlace := ["internal/abi.NoEscape", "internal/bytealg.MakeNoZero"], unfollowed := true, recurses := true, apart := false }
def PlaitHooksSaid : Prop := plaitHooksRow.holds Try.pinned (OpenSpec.ofChange plaitHooksSpec)

/-- ITS FALSE NEIGHBOUR: 'it returns false'. Refute it at one input. -/
def plaitHooksWrong : ChangeSpec := { name := "plaitHooks", fn := fun _ => fun
  | [d1, d2] => { results := [.lit (.bool false)], args := [d1, d2] }
  | _ => none }
def PlaitHooksWrongFalsely : Prop := plaitHooksRow.holds Try.pinned (OpenSpec.ofChange plaitHooksWrong)

/-- 'pomadelaw07.PlaitRelations': WHATEVER THE INPUT: true; the input reads as it did. -/
def plaitRelationsSpec : ChangeSpec := { name := "plaitRelations", fn := fun _ => fun
  | [d1, d2, d3] => { results := [.lit (.bool true)], args := [d1, d2, d3] }
  | _ => none }
def plaitRelationsRow : OpenClaim := { program := "ytjfkompfkgjdaaa", sum := "9743086e6e790b40ed9772799cc2009e3f8b44f13d885725a17db35c7c58f4da", func := "pomade/pomadelaw07.PlaitRelations", spec := "plaitRelations", inPlace := ["internal/abi.NoEscape", "internal/bytealg.MakeNoZero"], unfollowed := true, recurses := true, apart := false }
def PlaitRelationsSaid : Prop := plaitRelationsRow.holds Try.pinned (OpenSpec.ofChange plaitRelationsSpec)

/-- ITS FALSE NEIGHBOUR: 'it returns false'. Refute it at one input. -/
def plaitRelationsWrong : ChangeSpec := { name := "plaitRelations", fn := fun _ => fun
  | [d1, d2, d3] => { results := [.lit (.bool false)], args := [d1, d2, d3] }
  | _ => none }
def PlaitRelationsWrongFalsely : Prop := plaitRelationsRow.holds Try.pinned (OpenSpec.ofChange plaitRelationsWrong)

/-- 'pomadelaw07.PlaitJones': WHATEVER THE INPUT: true; the input reads as it did. -/
def plaitJonesSpec : ChangeSpec := { name := "plaitJones", fn := fun _ => fun
  | [d] => { results := [.lit (.bool true)], args := [d] }
  | _ => none }
def plaitJonesRow : OpenClaim := { program := "ytjfkompfkgjdaaa", sum := "9743086e6e790b40ed9772799cc2009e3f8b44f13d885725a17db35c7c58f4da", func := "pomade/pomadelaw07.PlaitJones", spec := "plaitJones", inPlace := ["internal/abi.NoEscape", "internal/bytealg.MakeNoZero"], unfollowed := true, recurses := true, apart := false }
def PlaitJonesSaid : Prop := plaitJonesRow.holds Try.pinned (OpenSpec.ofChange plaitJonesSpec)

/-- ITS FALSE NEIGHBOUR: 'it returns false'. Refute it at one input. -/
def plaitJonesWrong : ChangeSpec := { name := "plaitJones", fn := fun _ => fun
  | [d] => { results := [.lit (.bool false)], args := [d] }
  | _ => none }
def PlaitJonesWrongFalsely : Prop := plaitJonesRow.holds Try.pinned (OpenSpec.ofChange plaitJonesWrong)

/-- 'pomadelaw07.PlaitShorter': WHATEVER THE INPUT: true; the input reads as it did. -/
def plaitShorterSpec : ChangeSpec := { name := "plaitShorter", fn := fun _ => fun
  | [d1, d2] => { results := [.lit (.bool true)], args := [d1, d2] }
  | _ => none }
def plaitShorterRow : OpenClaim := { program := "ytjfkompfkgjdaaa", sum := "9743086e6e790b40ed9772799cc2009e3f8b44f13d885725a17db35c7c58f4da", func := "pomade/pomadelaw07.PlaitShorter", spec := "plaitShorter", inPlace := ["internal/abi.NoEscape", "internal/bytealg.MakeNoZero"], unfollowed := true, recurses := true, apart := false }
def PlaitShorterSaid : Prop := plaitShorterRow.holds Try.pinned (OpenSpec.ofChange plaitShorterSpec)

/-- ITS FALSE NEIGHBOUR: 'it returns false'. Refute it at one input. -/
def plaitShorterWrong : ChangeSpec := { name := "plaitShorter", fn := fun _ => fun
  | [d1, d2] => { results := [.lit (.bool false)], args := [d1, d2] }
  | _ => none }
def PlaitShorterWrongFalsely : Prop := plaitShorterRow.holds Try.pinned (OpenSpec.ofChange plaitShorterWrong)

/-- 'pomadelaw07.PlaitBent': WHATEVER THE INPUT: true; the input reads as it did. -/
def plaitBentSpec : ChangeSpec := { name := "plaitBent", fn := fun _ => fun
  | [d1, d2] => { results := [.lit (.bool true)], args := [d1, d2] }
  | _ => none }
def plaitBentRow : OpenClaim := { program := "ytjfkompfkgjdaaa", sum := "9743086e6e790b40ed9772799cc2009e3f8b44f13d885725a17db35c7c58f4da", func := "pomade/pomadelaw07.PlaitBent", spec := "plaitBent", inPlace := ["internal/abi.NoEscape", "internal/bytealg.MakeNoZero"], unfollowed := true, recurses := true, apart := false }
def PlaitBentSaid : Prop := plaitBentRow.holds Try.pinned (OpenSpec.ofChange plaitBentSpec)

/-- ITS FALSE NEIGHBOUR: 'it returns false'. Refute it at one input. -/
def plaitBentWrong : ChangeSpec := { name := "plaitBent", fn := fun _ => fun
  | [d1, d2] => { results := [.lit (.bool false)], args := [d1, d2] }
  | _ => none }
def PlaitBentWrongFalsely : Prop := plaitBentRow.holds Try.pinned (OpenSpec.ofChange plaitBentWrong)

/- THE SECOND FORM. 'bulk': how many values and letters a reading holds, each counted each time it is reached (what is shared counts as often as it is met; a slice's spare places count too). A statement '..UptoSaid' is the law's where the arguments, and the package variables that the reading takes, are together of bulk at most 1048576: NARROWER than '..Said'. Prove '..Said' where nothing that the law and all that it calls make is longer than what came in: it says more and counts as full. Else prove '..UptoSaid'. A law counts once. -/
mutual
def uptoBulk {H : Type} : DataW H → Nat
  | .lit (.string bytes) => bytes.length + 1
  | .lit _ => 1
  | .nil => 1
  | .ptr d => uptoBulk d + 1
  | .slice elems spare => uptoBulkAll elems + uptoBulkAll spare + 1
  | .agg parts => uptoBulkAll parts + 1
  | .iface _ d => uptoBulk d + 1
  | .map entries => uptoBulkEntries entries + 1
  | .held _ => 1
def uptoBulkAll {H : Type} : List (DataW H) → Nat
  | [] => 0
  | d :: r => uptoBulk d + uptoBulkAll r
def uptoBulkEntries {H : Type} : List (Lit × DataW H) → Nat
  | [] => 0
  | x :: r => uptoBulkEntry x + uptoBulkEntries r
def uptoBulkEntry {H : Type} : Lit × DataW H → Nat
  | (.string bytes, d) => bytes.length + uptoBulk d + 1
  | (_, d) => uptoBulk d + 1
 end
def uptoSmall : (H : Type) → List (DataW H) → Bool := fun _ ds => decide (uptoBulkAll ds ≤ 1048576)
def OpenSpec.upto (s : _root_.Go.ChangeSpec) : _root_.Go.OpenSpec := { _root_.Go.OpenSpec.ofChange s with cond := some uptoSmall }

/-- 'pomadelaw07.PlaitWords', WHERE WHAT IT READS IS OF BULK AT MOST 1048576: true; the input reads as it did. -/
def plaitWordsUptoRow : OpenClaim := { program := "ytjfkompfkgjdaaa", sum := "9743086e6e790b40ed9772799cc2009e3f8b44f13d885725a17db35c7c58f4da", func := "pomade/pomadelaw07.PlaitWords", spec := "plaitWords", inPlace := ["internal/abi.NoEscape", "internal/bytealg.MakeNoZero"], unfollowed := true, recurses := true, apart := false, narrowed := true }
def PlaitWordsUptoSaid : Prop := plaitWordsUptoRow.holds Try.pinned (OpenSpec.upto plaitWordsSpec)

/-- 'pomadelaw07.PlaitMeanders', WHERE WHAT IT READS IS OF BULK AT MOST 1048576: true; the input reads as it did. -/
def plaitMeandersUptoRow : OpenClaim := { program := "ytjfkompfkgjdaaa", sum := "9743086e6e790b40ed9772799cc2009e3f8b44f13d885725a17db35c7c58f4da", func := "pomade/pomadelaw07.PlaitMeanders", spec := "plaitMeanders", inPlace := ["internal/abi.NoEscape", "internal/bytealg.MakeNoZero"], unfollowed := true, recurses := true, apart := false, narrowed := true }
def PlaitMeandersUptoSaid : Prop := plaitMeandersUptoRow.holds Try.pinned (OpenSpec.upto plaitMeandersSpec)

/-- 'pomadelaw07.PlaitAssociates', WHERE WHAT IT READS IS OF BULK AT MOST 1048576: true; the input reads as it did. -/
def plaitAssociatesUptoRow : OpenClaim := { program := "ytjfkompfkgjdaaa", sum := "9743086e6e790b40ed9772799cc2009e3f8b44f13d885725a17db35c7c58f4da", func := "pomade/pomadelaw07.PlaitAssociates", spec := "plaitAssociates", inPlace := ["internal/abi.NoEscape", "internal/bytealg.MakeNoZero"], unfollowed := true, recurses := true, apart := false, narrowed := true }
def PlaitAssociatesUptoSaid : Prop := plaitAssociatesUptoRow.holds Try.pinned (OpenSpec.upto plaitAssociatesSpec)

/-- 'pomadelaw07.PlaitTraces', WHERE WHAT IT READS IS OF BULK AT MOST 1048576: true; the input reads as it did. -/
def plaitTracesUptoRow : OpenClaim := { program := "ytjfkompfkgjdaaa", sum := "9743086e6e790b40ed9772799cc2009e3f8b44f13d885725a17db35c7c58f4da", func := "pomade/pomadelaw07.PlaitTraces", spec := "plaitTraces", inPlace := ["internal/abi.NoEscape", "internal/bytealg.MakeNoZero"], unfollowed := true, recurses := true, apart := false, narrowed := true }
def PlaitTracesUptoSaid : Prop := plaitTracesUptoRow.holds Try.pinned (OpenSpec.upto plaitTracesSpec)

/-- 'pomadelaw07.PlaitProducts', WHERE WHAT IT READS IS OF BULK AT MOST 1048576: true; the input reads as it did. -/
def plaitProductsUptoRow : OpenClaim := { program := "ytjfkompfkgjdaaa", sum := "9743086e6e790b40ed9772799cc2009e3f8b44f13d885725a17db35c7c58f4da", func := "pomade/pomadelaw07.PlaitProducts", spec := "plaitProducts", inPlace := ["internal/abi.NoEscape", "internal/bytealg.MakeNoZero"], unfollowed := true, recurses := true, apart := false, narrowed := true }
def PlaitProductsUptoSaid : Prop := plaitProductsUptoRow.holds Try.pinned (OpenSpec.upto plaitProductsSpec)

/-- 'pomadelaw07.PlaitRoads', WHERE WHAT IT READS IS OF BULK AT MOST 1048576: true; the input reads as it did. -/
def plaitRoadsUptoRow : OpenClaim := { program := "ytjfkompfkgjdaaa", sum := "9743086e6e790b40ed9772799cc2009e3f8b44f13d885725a17db35c7c58f4da", func := "pomade/pomadelaw07.PlaitRoads", spec := "plaitRoads", inPlace := ["internal/abi.NoEscape", "internal/bytealg.MakeNoZero"], unfollowed := true, recurses := true, apart := false, narrowed := true }
def PlaitRoadsUptoSaid : Prop := plaitRoadsUptoRow.holds Try.pinned (OpenSpec.upto plaitRoadsSpec)

/-- 'pomadelaw07.PlaitSums', WHERE WHAT IT READS IS OF BULK AT MOST 1048576: true; the input reads as it did. -/
def plaitSumsUptoRow : OpenClaim := { program := "ytjfkompfkgjdaaa", sum := "9743086e6e790b40ed9772799cc2009e3f8b44f13d885725a17db35c7c58f4da", func := "pomade/pomadelaw07.PlaitSums", spec := "plaitSums", inPlace := ["internal/abi.NoEscape", "internal/bytealg.MakeNoZero"], unfollowed := true, recurses := true, apart := false, narrowed := true }
def PlaitSumsUptoSaid : Prop := plaitSumsUptoRow.holds Try.pinned (OpenSpec.upto plaitSumsSpec)

/-- 'pomadelaw07.PlaitPowers', WHERE WHAT IT READS IS OF BULK AT MOST 1048576: true; the input reads as it did. -/
def plaitPowersUptoRow : OpenClaim := { program := "ytjfkompfkgjdaaa", sum := "9743086e6e790b40ed9772799cc2009e3f8b44f13d885725a17db35c7c58f4da", func := "pomade/pomadelaw07.PlaitPowers", spec := "plaitPowers", inPlace := ["internal/abi.NoEscape", "internal/bytealg.MakeNoZero"], unfollowed := true, recurses := true, apart := false, narrowed := true }
def PlaitPowersUptoSaid : Prop := plaitPowersUptoRow.holds Try.pinned (OpenSpec.upto plaitPowersSpec)

/-- 'pomadelaw07.PlaitBends', WHERE WHAT IT READS IS OF BULK AT MOST 1048576: true; the input reads as it did. -/
def plaitBendsUptoRow : OpenClaim := { program := "ytjfkompfkgjdaaa", sum := "9743086e6e790b40ed9772799cc2009e3f8b44f13d885725a17db35c7c58f4da", func := "pomade/pomadelaw07.PlaitBends", spec := "plaitBends", inPlace := ["internal/abi.NoEscape", "internal/bytealg.MakeNoZero"], unfollowed := true, recurses := true, apart := false, narrowed := true }
def PlaitBendsUptoSaid : Prop := plaitBendsUptoRow.holds Try.pinned (OpenSpec.upto plaitBendsSpec)

/-- 'pomadelaw07.PlaitTurns', WHERE WHAT IT READS IS OF BULK AT MOST 1048576: true; the input reads as it did. -/
def plaitTurnsUptoRow : OpenClaim := { program := "ytjfkompfkgjdaaa", sum := "9743086e6e790b40ed9772799cc2009e3f8b44f13d885725a17db35c7c58f4da", func := "pomade/pomadelaw07.PlaitTurns", spec := "plaitTurns", inPlace := ["internal/abi.NoEscape", "internal/bytealg.MakeNoZero"], unfollowed := true, recurses := true, apart := false, narrowed := true }
def PlaitTurnsUptoSaid : Prop := plaitTurnsUptoRow.holds Try.pinned (OpenSpec.upto plaitTurnsSpec)

/-- 'pomadelaw07.PlaitStrands', WHERE WHAT IT READS IS OF BULK AT MOST 1048576: true; the input reads as it did. -/
def plaitStrandsUptoRow : OpenClaim := { program := "ytjfkompfkgjdaaa", sum := "9743086e6e790b40ed9772799cc2009e3f8b44f13d885725a17db35c7c58f4da", func := "pomade/pomadelaw07.PlaitStrands", spec := "plaitStrands", inPlace := ["internal/abi.NoEscape", "internal/bytealg.MakeNoZero"], unfollowed := true, recurses := true, apart := false, narrowed := true }
def PlaitStrandsUptoSaid : Prop := plaitStrandsUptoRow.holds Try.pinned (OpenSpec.upto plaitStrandsSpec)

/-- 'pomadelaw07.PlaitHooks', WHERE WHAT IT READS IS OF BULK AT MOST 1048576: true; the input reads as it did. -/
def plaitHooksUptoRow : OpenClaim := { program := "ytjfkompfkgjdaaa", sum := "9743086e6e790b40ed9772799cc2009e3f8b44f13d885725a17db35c7c58f4da", func := "pomade/pomadelaw07.PlaitHooks", spec := "plaitHooks", inPlace := ["internal/abi.NoEscape", "internal/bytealg.MakeNoZero"], unfollowed := true, recurses := true, apart := false, narrowed := true }
def PlaitHooksUptoSaid : Prop := plaitHooksUptoRow.holds Try.pinned (OpenSpec.upto plaitHooksSpec)

/-- 'pomadelaw07.PlaitRelations', WHERE WHAT IT READS IS OF BULK AT MOST 1048576: true; the input reads as it did. -/
def plaitRelationsUptoRow : OpenClaim := { program := "ytjfkompfkgjdaaa", sum := "9743086e6e790b40ed9772799cc2009e3f8b44f13d885725a17db35c7c58f4da", func := "pomade/pomadelaw07.PlaitRelations", spec := "plaitRelations", inPlace := ["internal/abi.NoEscape", "internal/bytealg.MakeNoZero"], unfollowed := true, recurses := true, apart := false, narrowed := true }
def PlaitRelationsUptoSaid : Prop := plaitRelationsUptoRow.holds Try.pinned (OpenSpec.upto plaitRelationsSpec)

/-- 'pomadelaw07.PlaitJones', WHERE WHAT IT READS IS OF BULK AT MOST 1048576: true; the input reads as it did. -/
def plaitJonesUptoRow : OpenClaim := { program := "ytjfkompfkgjdaaa", sum := "9743086e6e790b40ed9772799cc2009e3f8b44f13d885725a17db35c7c58f4da", func := "pomade/pomadelaw07.PlaitJones", spec := "plaitJones", inPlace := ["internal/abi.NoEscape", "internal/bytealg.MakeNoZero"], unfollowed := true, recurses := true, apart := false, narrowed := true }
def PlaitJonesUptoSaid : Prop := plaitJonesUptoRow.holds Try.pinned (OpenSpec.upto plaitJonesSpec)

/-- 'pomadelaw07.PlaitShorter', WHERE WHAT IT READS IS OF BULK AT MOST 1048576: true; the input reads as it did. -/
def plaitShorterUptoRow : OpenClaim := { program := "ytjfkompfkgjdaaa", sum := "9743086e6e790b40ed9772799cc2009e3f8b44f13d885725a17db35c7c58f4da", func := "pomade/pomadelaw07.PlaitShorter", spec := "plaitShorter", inPlace := ["internal/abi.NoEscape", "internal/bytealg.MakeNoZero"], unfollowed := true, recurses := true, apart := false, narrowed := true }
def PlaitShorterUptoSaid : Prop := plaitShorterUptoRow.holds Try.pinned (OpenSpec.upto plaitShorterSpec)

/-- 'pomadelaw07.PlaitBent', WHERE WHAT IT READS IS OF BULK AT MOST 1048576: true; the input reads as it did. -/
def plaitBentUptoRow : OpenClaim := { program := "ytjfkompfkgjdaaa", sum := "9743086e6e790b40ed9772799cc2009e3f8b44f13d885725a17db35c7c58f4da", func := "pomade/pomadelaw07.PlaitBent", spec := "plaitBent", inPlace := ["internal/abi.NoEscape", "internal/bytealg.MakeNoZero"], unfollowed := true, recurses := true, apart := false, narrowed := true }
def PlaitBentUptoSaid : Prop := plaitBentUptoRow.holds Try.pinned (OpenSpec.upto plaitBentSpec)

end Rows
end Go.Proofs.Ytjfkompfkgjdaaa
