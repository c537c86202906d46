/-
  No cell of these rows narrows 'for every input' (looked for: loops, veiled, ifaces, maps, wideKeys, modest, calm, conditions, laid).
  DERIVED. THE GIVEN ROWS OF THIS SEAT. 14 by the template 'for every input the law returns true; each argument reads behind the call as it read before'; 0 by the template 'total and deterministic' (their statements: YtfopeenjpdaacaaTotals.lean).
  GIVEN WITH THE SEED: the statements are not yours to turn. If you find one false, say at which input.
  Laid BY PROGRAM, IN A SANDBOX (cutbox-rows.mjs): the forced cells as the released guide's own fill.sh prints them over the translation 06eeae360271870c… (all of the seat's roots in one cut). By AI agents, Wed Nov 11 2026. No macro, syntax, notation, axiom, sorry.
-/
import Derived.Test.YtfopeenjpdaacaaChecked
import GoSem.Claim
import GoSem.ClaimJoined
import GoSem.ClaimMapViews
import Derived.JoinedTies
import Derived.KernelRfl
namespace Go.Proofs.Ytfopeenjpdaacaa
/- THE CELL 'sum', in the pinned program and in every row, IS THE sha256 OF THE DUMP (.gsa) THAT YtfopeenjpdaacaaProg.lean LOADS. Nothing in Lean hashes anything: it is a label: what it is worth is what the hold of that sum in a sandbox is worth. -/
noncomputable def Try.pinned : Pinned := { name := "ytfopeenjpdaacaa", sum := "06eeae360271870c3fc97d36022cec12f69bc2ccc1813c6c22c7f52e17e4d3bf", checked := Try.checked }
namespace Rows
def none {H : Type} : Left H := { results := [], args := [] }

/-- 'pomadelaw03.ChairsCounts': WHATEVER THE INPUT: true; the input reads as it did. -/
def chairsCountsSpec : ChangeSpec := { name := "chairsCounts", fn := fun _ => fun
  | [d1, d2, d3] => { results := [.lit (.bool true)], args := [d1, d2, d3] }
  | _ => none }
def chairsCountsRow : OpenClaim := { program := "ytfopeenjpdaacaa", sum := "06eeae360271870c3fc97d36022cec12f69bc2ccc1813c6c22c7f52e17e4d3bf", func := "pomade/pomadelaw03.ChairsCounts", spec := "chairsCounts", unfollowed := true, recurses := true, apart := false }
def ChairsCountsSaid : Prop := chairsCountsRow.holds Try.pinned (OpenSpec.ofChange chairsCountsSpec)

/-- ITS FALSE NEIGHBOUR: 'it returns false'. Refute it at one input. -/
def chairsCountsWrong : ChangeSpec := { name := "chairsCounts", fn := fun _ => fun
  | [d1, d2, d3] => { results := [.lit (.bool false)], args := [d1, d2, d3] }
  | _ => none }
def ChairsCountsWrongFalsely : Prop := chairsCountsRow.holds Try.pinned (OpenSpec.ofChange chairsCountsWrong)

/-- 'pomadelaw03.ChairsTurns': WHATEVER THE INPUT: true; the input reads as it did. -/
def chairsTurnsSpec : ChangeSpec := { name := "chairsTurns", fn := fun _ => fun
  | [d1, d2] => { results := [.lit (.bool true)], args := [d1, d2] }
  | _ => none }
def chairsTurnsRow : OpenClaim := { program := "ytfopeenjpdaacaa", sum := "06eeae360271870c3fc97d36022cec12f69bc2ccc1813c6c22c7f52e17e4d3bf", func := "pomade/pomadelaw03.ChairsTurns", spec := "chairsTurns", unfollowed := true, recurses := true, apart := false }
def ChairsTurnsSaid : Prop := chairsTurnsRow.holds Try.pinned (OpenSpec.ofChange chairsTurnsSpec)

/-- ITS FALSE NEIGHBOUR: 'it returns false'. Refute it at one input. -/
def chairsTurnsWrong : ChangeSpec := { name := "chairsTurns", fn := fun _ => fun
  | [d1, d2] => { results := [.lit (.bool false)], args := [d1, d2] }
  | _ => none }
def ChairsTurnsWrongFalsely : Prop := chairsTurnsRow.holds Try.pinned (OpenSpec.ofChange chairsTurnsWrong)

/-- 'pomadelaw03.ChairsSpreads': WHATEVER THE INPUT: true; the input reads as it did. -/
def chairsSpreadsSpec : ChangeSpec := { name := "chairsSpreads", fn := fun _ => fun
  | [d] => { results := [.lit (.bool true)], args := [d] }
  | _ => none }
def chairsSpreadsRow : OpenClaim := { program := "ytfopeenjpdaacaa", sum := "06eeae360271870c3fc97d36022cec12f69bc2ccc1813c6c22c7f52e17e4d3bf", func := "pomade/pomadelaw03.ChairsSpreads", spec := "chairsSpreads", unfollowed := true, recurses := true, apart := false }
def ChairsSpreadsSaid : Prop := chairsSpreadsRow.holds Try.pinned (OpenSpec.ofChange chairsSpreadsSpec)

/-- ITS FALSE NEIGHBOUR: 'it returns false'. Refute it at one input. -/
def chairsSpreadsWrong : ChangeSpec := { name := "chairsSpreads", fn := fun _ => fun
  | [d] => { results := [.lit (.bool false)], args := [d] }
  | _ => none }
def ChairsSpreadsWrongFalsely : Prop := chairsSpreadsRow.holds Try.pinned (OpenSpec.ofChange chairsSpreadsWrong)

/-- 'pomadelaw03.ChairsWays': WHATEVER THE INPUT: true; the input reads as it did. -/
def chairsWaysSpec : ChangeSpec := { name := "chairsWays", fn := fun _ => fun
  | [d] => { results := [.lit (.bool true)], args := [d] }
  | _ => none }
def chairsWaysRow : OpenClaim := { program := "ytfopeenjpdaacaa", sum := "06eeae360271870c3fc97d36022cec12f69bc2ccc1813c6c22c7f52e17e4d3bf", func := "pomade/pomadelaw03.ChairsWays", spec := "chairsWays", unfollowed := true, recurses := true, apart := false }
def ChairsWaysSaid : Prop := chairsWaysRow.holds Try.pinned (OpenSpec.ofChange chairsWaysSpec)

/-- ITS FALSE NEIGHBOUR: 'it returns false'. Refute it at one input. -/
def chairsWaysWrong : ChangeSpec := { name := "chairsWays", fn := fun _ => fun
  | [d] => { results := [.lit (.bool false)], args := [d] }
  | _ => none }
def ChairsWaysWrongFalsely : Prop := chairsWaysRow.holds Try.pinned (OpenSpec.ofChange chairsWaysWrong)

/-- 'pomadelaw03.ChairsPollak': WHATEVER THE INPUT: true; the input reads as it did. -/
def chairsPollakSpec : ChangeSpec := { name := "chairsPollak", fn := fun _ => fun
  | [d1, d2, d3] => { results := [.lit (.bool true)], args := [d1, d2, d3] }
  | _ => none }
def chairsPollakRow : OpenClaim := { program := "ytfopeenjpdaacaa", sum := "06eeae360271870c3fc97d36022cec12f69bc2ccc1813c6c22c7f52e17e4d3bf", func := "pomade/pomadelaw03.ChairsPollak", spec := "chairsPollak", unfollowed := true, recurses := true, apart := false }
def ChairsPollakSaid : Prop := chairsPollakRow.holds Try.pinned (OpenSpec.ofChange chairsPollakSpec)

/-- ITS FALSE NEIGHBOUR: 'it returns false'. Refute it at one input. -/
def chairsPollakWrong : ChangeSpec := { name := "chairsPollak", fn := fun _ => fun
  | [d1, d2, d3] => { results := [.lit (.bool false)], args := [d1, d2, d3] }
  | _ => none }
def ChairsPollakWrongFalsely : Prop := chairsPollakRow.holds Try.pinned (OpenSpec.ofChange chairsPollakWrong)

/-- 'pomadelaw03.ChairsBelow': WHATEVER THE INPUT: true; the input reads as it did. -/
def chairsBelowSpec : ChangeSpec := { name := "chairsBelow", fn := fun _ => fun
  | [d] => { results := [.lit (.bool true)], args := [d] }
  | _ => none }
def chairsBelowRow : OpenClaim := { program := "ytfopeenjpdaacaa", sum := "06eeae360271870c3fc97d36022cec12f69bc2ccc1813c6c22c7f52e17e4d3bf", func := "pomade/pomadelaw03.ChairsBelow", spec := "chairsBelow", unfollowed := true, recurses := true, apart := false }
def ChairsBelowSaid : Prop := chairsBelowRow.holds Try.pinned (OpenSpec.ofChange chairsBelowSpec)

/-- ITS FALSE NEIGHBOUR: 'it returns false'. Refute it at one input. -/
def chairsBelowWrong : ChangeSpec := { name := "chairsBelow", fn := fun _ => fun
  | [d] => { results := [.lit (.bool false)], args := [d] }
  | _ => none }
def ChairsBelowWrongFalsely : Prop := chairsBelowRow.holds Try.pinned (OpenSpec.ofChange chairsBelowWrong)

/-- 'pomadelaw03.ChairsOutcome': WHATEVER THE INPUT: true; the input reads as it did. -/
def chairsOutcomeSpec : ChangeSpec := { name := "chairsOutcome", fn := fun _ => fun
  | [d] => { results := [.lit (.bool true)], args := [d] }
  | _ => none }
def chairsOutcomeRow : OpenClaim := { program := "ytfopeenjpdaacaa", sum := "06eeae360271870c3fc97d36022cec12f69bc2ccc1813c6c22c7f52e17e4d3bf", func := "pomade/pomadelaw03.ChairsOutcome", spec := "chairsOutcome", unfollowed := true, recurses := true, apart := false }
def ChairsOutcomeSaid : Prop := chairsOutcomeRow.holds Try.pinned (OpenSpec.ofChange chairsOutcomeSpec)

/-- ITS FALSE NEIGHBOUR: 'it returns false'. Refute it at one input. -/
def chairsOutcomeWrong : ChangeSpec := { name := "chairsOutcome", fn := fun _ => fun
  | [d] => { results := [.lit (.bool false)], args := [d] }
  | _ => none }
def ChairsOutcomeWrongFalsely : Prop := chairsOutcomeRow.holds Try.pinned (OpenSpec.ofChange chairsOutcomeWrong)

/-- 'pomadelaw03.ChairsSits': WHATEVER THE INPUT: true; the input reads as it did. -/
def chairsSitsSpec : ChangeSpec := { name := "chairsSits", fn := fun _ => fun
  | [d1, d2] => { results := [.lit (.bool true)], args := [d1, d2] }
  | _ => none }
def chairsSitsRow : OpenClaim := { program := "ytfopeenjpdaacaa", sum := "06eeae360271870c3fc97d36022cec12f69bc2ccc1813c6c22c7f52e17e4d3bf", func := "pomade/pomadelaw03.ChairsSits", spec := "chairsSits", unfollowed := true, recurses := true, apart := false }
def ChairsSitsSaid : Prop := chairsSitsRow.holds Try.pinned (OpenSpec.ofChange chairsSitsSpec)

/-- ITS FALSE NEIGHBOUR: 'it returns false'. Refute it at one input. -/
def chairsSitsWrong : ChangeSpec := { name := "chairsSits", fn := fun _ => fun
  | [d1, d2] => { results := [.lit (.bool false)], args := [d1, d2] }
  | _ => none }
def ChairsSitsWrongFalsely : Prop := chairsSitsRow.holds Try.pinned (OpenSpec.ofChange chairsSitsWrong)

/-- 'pomadelaw03.ChairsOrder': WHATEVER THE INPUT: true; the input reads as it did. -/
def chairsOrderSpec : ChangeSpec := { name := "chairsOrder", fn := fun _ => fun
  | [d1, d2, d3] => { results := [.lit (.bool true)], args := [d1, d2, d3] }
  | _ => none }
def chairsOrderRow : OpenClaim := { program := "ytfopeenjpdaacaa", sum := "06eeae360271870c3fc97d36022cec12f69bc2ccc1813c6c22c7f52e17e4d3bf", func := "pomade/pomadelaw03.ChairsOrder", spec := "chairsOrder", unfollowed := true, recurses := true, apart := false }
def ChairsOrderSaid : Prop := chairsOrderRow.holds Try.pinned (OpenSpec.ofChange chairsOrderSpec)

/-- ITS FALSE NEIGHBOUR: 'it returns false'. Refute it at one input. -/
def chairsOrderWrong : ChangeSpec := { name := "chairsOrder", fn := fun _ => fun
  | [d1, d2, d3] => { results := [.lit (.bool false)], args := [d1, d2, d3] }
  | _ => none }
def ChairsOrderWrongFalsely : Prop := chairsOrderRow.holds Try.pinned (OpenSpec.ofChange chairsOrderWrong)

/-- 'pomadelaw03.ChairsBack': WHATEVER THE INPUT: true; the input reads as it did. -/
def chairsBackSpec : ChangeSpec := { name := "chairsBack", fn := fun _ => fun
  | [d1, d2] => { results := [.lit (.bool true)], args := [d1, d2] }
  | _ => none }
def chairsBackRow : OpenClaim := { program := "ytfopeenjpdaacaa", sum := "06eeae360271870c3fc97d36022cec12f69bc2ccc1813c6c22c7f52e17e4d3bf", func := "pomade/pomadelaw03.ChairsBack", spec := "chairsBack", unfollowed := true, recurses := true, apart := false }
def ChairsBackSaid : Prop := chairsBackRow.holds Try.pinned (OpenSpec.ofChange chairsBackSpec)

/-- ITS FALSE NEIGHBOUR: 'it returns false'. Refute it at one input. -/
def chairsBackWrong : ChangeSpec := { name := "chairsBack", fn := fun _ => fun
  | [d1, d2] => { results := [.lit (.bool false)], args := [d1, d2] }
  | _ => none }
def ChairsBackWrongFalsely : Prop := chairsBackRow.holds Try.pinned (OpenSpec.ofChange chairsBackWrong)

/-- 'pomadelaw03.ChairsTrees': WHATEVER THE INPUT: true; the input reads as it did. -/
def chairsTreesSpec : ChangeSpec := { name := "chairsTrees", fn := fun _ => fun
  | [d1, d2] => { results := [.lit (.bool true)], args := [d1, d2] }
  | _ => none }
def chairsTreesRow : OpenClaim := { program := "ytfopeenjpdaacaa", sum := "06eeae360271870c3fc97d36022cec12f69bc2ccc1813c6c22c7f52e17e4d3bf", func := "pomade/pomadelaw03.ChairsTrees", spec := "chairsTrees", unfollowed := true, recurses := true, apart := false }
def ChairsTreesSaid : Prop := chairsTreesRow.holds Try.pinned (OpenSpec.ofChange chairsTreesSpec)

/-- ITS FALSE NEIGHBOUR: 'it returns false'. Refute it at one input. -/
def chairsTreesWrong : ChangeSpec := { name := "chairsTrees", fn := fun _ => fun
  | [d1, d2] => { results := [.lit (.bool false)], args := [d1, d2] }
  | _ => none }
def ChairsTreesWrongFalsely : Prop := chairsTreesRow.holds Try.pinned (OpenSpec.ofChange chairsTreesWrong)

/-- 'pomadelaw03.ChairsRanks': WHATEVER THE INPUT: true; the input reads as it did. -/
def chairsRanksSpec : ChangeSpec := { name := "chairsRanks", fn := fun _ => fun
  | [d1, d2, d3] => { results := [.lit (.bool true)], args := [d1, d2, d3] }
  | _ => none }
def chairsRanksRow : OpenClaim := { program := "ytfopeenjpdaacaa", sum := "06eeae360271870c3fc97d36022cec12f69bc2ccc1813c6c22c7f52e17e4d3bf", func := "pomade/pomadelaw03.ChairsRanks", spec := "chairsRanks", unfollowed := true, recurses := true, apart := false }
def ChairsRanksSaid : Prop := chairsRanksRow.holds Try.pinned (OpenSpec.ofChange chairsRanksSpec)

/-- ITS FALSE NEIGHBOUR: 'it returns false'. Refute it at one input. -/
def chairsRanksWrong : ChangeSpec := { name := "chairsRanks", fn := fun _ => fun
  | [d1, d2, d3] => { results := [.lit (.bool false)], args := [d1, d2, d3] }
  | _ => none }
def ChairsRanksWrongFalsely : Prop := chairsRanksRow.holds Try.pinned (OpenSpec.ofChange chairsRanksWrong)

/-- 'pomadelaw03.ChairsRanked': WHATEVER THE INPUT: true; the input reads as it did. -/
def chairsRankedSpec : ChangeSpec := { name := "chairsRanked", fn := fun _ => fun
  | [d1, d2, d3, d4] => { results := [.lit (.bool true)], args := [d1, d2, d3, d4] }
  | _ => none }
def chairsRankedRow : OpenClaim := { program := "ytfopeenjpdaacaa", sum := "06eeae360271870c3fc97d36022cec12f69bc2ccc1813c6c22c7f52e17e4d3bf", func := "pomade/pomadelaw03.ChairsRanked", spec := "chairsRanked", unfollowed := true, recurses := true, apart := false }
def ChairsRankedSaid : Prop := chairsRankedRow.holds Try.pinned (OpenSpec.ofChange chairsRankedSpec)

/-- ITS FALSE NEIGHBOUR: 'it returns false'. Refute it at one input. -/
def chairsRankedWrong : ChangeSpec := { name := "chairsRanked", fn := fun _ => fun
  | [d1, d2, d3, d4] => { results := [.lit (.bool false)], args := [d1, d2, d3, d4] }
  | _ => none }
def ChairsRankedWrongFalsely : Prop := chairsRankedRow.holds Try.pinned (OpenSpec.ofChange chairsRankedWrong)

/-- 'pomadelaw03.ChairsKreweras': WHATEVER THE INPUT: true; the input reads as it did. -/
def chairsKrewerasSpec : ChangeSpec := { name := "chairsKreweras", fn := fun _ => fun
  | [d] => { results := [.lit (.bool true)], args := [d] }
  | _ => none }
def chairsKrewerasRow : OpenClaim := { program := "ytfopeenjpdaacaa", sum := "06eeae360271870c3fc97d36022cec12f69bc2ccc1813c6c22c7f52e17e4d3bf", func := "pomade/pomadelaw03.ChairsKreweras", spec := "chairsKreweras", unfollowed := true, recurses := true, apart := false }
def ChairsKrewerasSaid : Prop := chairsKrewerasRow.holds Try.pinned (OpenSpec.ofChange chairsKrewerasSpec)

/-- ITS FALSE NEIGHBOUR: 'it returns false'. Refute it at one input. -/
def chairsKrewerasWrong : ChangeSpec := { name := "chairsKreweras", fn := fun _ => fun
  | [d] => { results := [.lit (.bool false)], args := [d] }
  | _ => none }
def ChairsKrewerasWrongFalsely : Prop := chairsKrewerasRow.holds Try.pinned (OpenSpec.ofChange chairsKrewerasWrong)

/- THE SECOND FORM. 'bulk': how many values and letters a reading holds, each counted each time it is reached (what is shared counts as often as it is met; a slice's spare places count too). A statement '..UptoSaid' is the law's where the arguments, and the package variables that the reading takes, are together of bulk at most 1048576: NARROWER than '..Said'. Prove '..Said' where nothing that the law and all that it calls make is longer than what came in: it says more and counts as full. Else prove '..UptoSaid'. A law counts once. -/
mutual
def uptoBulk {H : Type} : DataW H → Nat
  | .lit (.string bytes) => bytes.length + 1
  | .lit _ => 1
  | .nil => 1
  | .ptr d => uptoBulk d + 1
  | .slice elems spare => uptoBulkAll elems + uptoBulkAll spare + 1
  | .agg parts => uptoBulkAll parts + 1
  | .iface _ d => uptoBulk d + 1
  | .map entries => uptoBulkEntries entries + 1
  | .held _ => 1
def uptoBulkAll {H : Type} : List (DataW H) → Nat
  | [] => 0
  | d :: r => uptoBulk d + uptoBulkAll r
def uptoBulkEntries {H : Type} : List (Lit × DataW H) → Nat
  | [] => 0
  | x :: r => uptoBulkEntry x + uptoBulkEntries r
def uptoBulkEntry {H : Type} : Lit × DataW H → Nat
  | (.string bytes, d) => bytes.length + uptoBulk d + 1
  | (_, d) => uptoBulk d + 1
 end
def uptoSmall : (H : Type) → List (DataW H) → Bool := fun _ ds => decide (uptoBulkAll ds ≤ 1048576)
def OpenSpec.upto (s : _root_.Go.ChangeSpec) : _root_.Go.OpenSpec := { _root_.Go.OpenSpec.ofChange s with cond := some uptoSmall }

/-- 'pomadelaw03.ChairsCounts', WHERE WHAT IT READS IS OF BULK AT MOST 1048576: true; the input reads as it did. -/
def chairsCountsUptoRow : OpenClaim := { program := "ytfopeenjpdaacaa", sum := "06eeae360271870c3fc97d36022cec12f69bc2ccc1813c6c22c7f52e17e4d3bf", func := "pomade/pomadelaw03.ChairsCounts", spec := "chairsCounts", unfollowed := true, recurses := true, apart := false, narrowed := true }
def ChairsCountsUptoSaid : Prop := chairsCountsUptoRow.holds Try.pinned (OpenSpec.upto chairsCountsSpec)

/-- 'pomadelaw03.ChairsTurns', WHERE WHAT IT READS IS OF BULK AT MOST 1048576: true; the input reads as it did. -/
def chairsTurnsUptoRow : OpenClaim := { program := "ytfopeenjpdaacaa", sum := "06eeae360271870c3fc97d36022cec12f69bc2ccc1813c6c22c7f52e17e4d3bf", func := "pomade/pomadelaw03.ChairsTurns", spec := "chairsTurns", unfollowed := true, recurses := true, apart := false, narrowed := true }
def ChairsTurnsUptoSaid : Prop := chairsTurnsUptoRow.holds Try.pinned (OpenSpec.upto chairsTurnsSpec)

/-- 'pomadelaw03.ChairsSpreads', WHERE WHAT IT READS IS OF BULK AT MOST 1048576: true; the input reads as it did. -/
def chairsSpreadsUptoRow : OpenClaim := { program := "ytfopeenjpdaacaa", sum := "06eeae360271870c3fc97d36022cec12f69bc2ccc1813c6c22c7f52e17e4d3bf", func := "pomade/pomadelaw03.ChairsSpreads", spec := "chairsSpreads", unfollowed := true, recurses := true, apart := false, narrowed := true }
def ChairsSpreadsUptoSaid : Prop := chairsSpreadsUptoRow.holds Try.pinned (OpenSpec.upto chairsSpreadsSpec)

/-- 'pomadelaw03.ChairsWays', WHERE WHAT IT READS IS OF BULK AT MOST 1048576: true; the input reads as it did. -/
def chairsWaysUptoRow : OpenClaim := { program := "ytfopeenjpdaacaa", sum := "06eeae360271870c3fc97d36022cec12f69bc2ccc1813c6c22c7f52e17e4d3bf", func := "pomade/pomadelaw03.ChairsWays", spec := "chairsWays", unfollowed := true, recurses := true, apart := false, narrowed := true }
def ChairsWaysUptoSaid : Prop := chairsWaysUptoRow.holds Try.pinned (OpenSpec.upto chairsWaysSpec)

/-- 'pomadelaw03.ChairsPollak', WHERE WHAT IT READS IS OF BULK AT MOST 1048576: true; the input reads as it did. -/
def chairsPollakUptoRow : OpenClaim := { program := "ytfopeenjpdaacaa", sum := "06eeae360271870c3fc97d36022cec12f69bc2ccc1813c6c22c7f52e17e4d3bf", func := "pomade/pomadelaw03.ChairsPollak", spec := "chairsPollak", unfollowed := true, recurses := true, apart := false, narrowed := true }
def ChairsPollakUptoSaid : Prop := chairsPollakUptoRow.holds Try.pinned (OpenSpec.upto chairsPollakSpec)

/-- 'pomadelaw03.ChairsBelow', WHERE WHAT IT READS IS OF BULK AT MOST 1048576: true; the input reads as it did. -/
def chairsBelowUptoRow : OpenClaim := { program := "ytfopeenjpdaacaa", sum := "06eeae360271870c3fc97d36022cec12f69bc2ccc1813c6c22c7f52e17e4d3bf", func := "pomade/pomadelaw03.ChairsBelow", spec := "chairsBelow", unfollowed := true, recurses := true, apart := false, narrowed := true }
def ChairsBelowUptoSaid : Prop := chairsBelowUptoRow.holds Try.pinned (OpenSpec.upto chairsBelowSpec)

/-- 'pomadelaw03.ChairsOutcome', WHERE WHAT IT READS IS OF BULK AT MOST 1048576: true; the input reads as it did. -/
def chairsOutcomeUptoRow : OpenClaim := { program := "ytfopeenjpdaacaa", sum := "06eeae360271870c3fc97d36022cec12f69bc2ccc1813c6c22c7f52e17e4d3bf", func := "pomade/pomadelaw03.ChairsOutcome", spec := "chairsOutcome", unfollowed := true, recurses := true, apart := false, narrowed := true }
def ChairsOutcomeUptoSaid : Prop := chairsOutcomeUptoRow.holds Try.pinned (OpenSpec.upto chairsOutcomeSpec)

/-- 'pomadelaw03.ChairsSits', WHERE WHAT IT READS IS OF BULK AT MOST 1048576: true; the input reads as it did. -/
def chairsSitsUptoRow : OpenClaim := { program := "ytfopeenjpdaacaa", sum := "06eeae360271870c3fc97d36022cec12f69bc2ccc1813c6c22c7f52e17e4d3bf", func := "pomade/pomadelaw03.ChairsSits", spec := "chairsSits", unfollowed := true, recurses := true, apart := false, narrowed := true }
def ChairsSitsUptoSaid : Prop := chairsSitsUptoRow.holds Try.pinned (OpenSpec.upto chairsSitsSpec)

/-- 'pomadelaw03.ChairsOrder', WHERE WHAT IT READS IS OF BULK AT MOST 1048576: true; the input reads as it did. -/
def chairsOrderUptoRow : OpenClaim := { program := "ytfopeenjpdaacaa", sum := "06eeae360271870c3fc97d36022cec12f69bc2ccc1813c6c22c7f52e17e4d3bf", func := "pomade/pomadelaw03.ChairsOrder", spec := "chairsOrder", unfollowed := true, recurses := true, apart := false, narrowed := true }
def ChairsOrderUptoSaid : Prop := chairsOrderUptoRow.holds Try.pinned (OpenSpec.upto chairsOrderSpec)

/-- 'pomadelaw03.ChairsBack', WHERE WHAT IT READS IS OF BULK AT MOST 1048576: true; the input reads as it did. -/
def chairsBackUptoRow : OpenClaim := { program := "ytfopeenjpdaacaa", sum := "06eeae360271870c3fc97d36022cec12f69bc2ccc1813c6c22c7f52e17e4d3bf", func := "pomade/pomadelaw03.ChairsBack", spec := "chairsBack", unfollowed := true, recurses := true, apart := false, narrowed := true }
def ChairsBackUptoSaid : Prop := chairsBackUptoRow.holds Try.pinned (OpenSpec.upto chairsBackSpec)

/-- 'pomadelaw03.ChairsTrees', WHERE WHAT IT READS IS OF BULK AT MOST 1048576: true; the input reads as it did. -/
def chairsTreesUptoRow : OpenClaim := { program := "ytfopeenjpdaacaa", sum := "06eeae360271870c3fc97d36022cec12f69bc2ccc1813c6c22c7f52e17e4d3bf", func := "pomade/pomadelaw03.ChairsTrees", spec := "chairsTrees", unfollowed := true, recurses := true, apart := false, narrowed := true }
def ChairsTreesUptoSaid : Prop := chairsTreesUptoRow.holds Try.pinned (OpenSpec.upto chairsTreesSpec)

/-- 'pomadelaw03.ChairsRanks', WHERE WHAT IT READS IS OF BULK AT MOST 1048576: true; the input reads as it did. -/
def chairsRanksUptoRow : OpenClaim := { program := "ytfopeenjpdaacaa", sum := "06eeae360271870c3fc97d36022cec12f69bc2ccc1813c6c22c7f52e17e4d3bf", func := "pomade/pomadelaw03.ChairsRanks", spec := "chairsRanks", unfollowed := true, recurses := true, apart := false, narrowed := true }
def ChairsRanksUptoSaid : Prop := chairsRanksUptoRow.holds Try.pinned (OpenSpec.upto chairsRanksSpec)

/-- 'pomadelaw03.ChairsRanked', WHERE WHAT IT READS IS OF BULK AT MOST 1048576: true; the input reads as it did. -/
def chairsRankedUptoRow : OpenClaim := { program := "ytfopeenjpdaacaa", sum := "06eeae360271870c3fc97d36022cec12f69bc2ccc1813c6c22c7f52e17e4d3bf", func := "pomade/pomadelaw03.ChairsRanked", spec := "chairsRanked", unfollowed := true, recurses := true, apart := false, narrowed := true }
def ChairsRankedUptoSaid : Prop := chairsRankedUptoRow.holds Try.pinned (OpenSpec.upto chairsRankedSpec)

/-- 'pomadelaw03.ChairsKreweras', WHERE WHAT IT READS IS OF BULK AT MOST 1048576: true; the input reads as it did. -/
def chairsKrewerasUptoRow : OpenClaim := { program := "ytfopeenjpdaacaa", sum := "06eeae360271870c3fc97d36022cec12f69bc2ccc1813c6c22c7f52e17e4d3bf", func := "pomade/pomadelaw03.ChairsKreweras", spec := "chairsKreweras", unfollowed := true, recurses := true, apart := false, narrowed := true }
def ChairsKrewerasUptoSaid : Prop := chairsKrewerasUptoRow.holds Try.pinned (OpenSpec.upto chairsKrewerasSpec)

end Rows
end Go.Proofs.Ytfopeenjpdaacaa
