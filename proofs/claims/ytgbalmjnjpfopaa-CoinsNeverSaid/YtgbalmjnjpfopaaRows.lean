/-
  No cell of these rows narrows 'for every input' (looked for: loops, veiled, ifaces, maps, wideKeys, modest, calm, conditions, laid).
  DERIVED. THE GIVEN ROWS OF THIS SEAT. 9 by the template 'for every input the law returns true; each argument reads behind the call as it read before'; 0 by the template 'total and deterministic' (their statements: YtgbalmjnjpfopaaTotals.lean).
  GIVEN WITH THE SEED: the statements are not yours to turn. If you find one false, say at which input.
  Laid BY PROGRAM, IN A SANDBOX (cutbox-rows.mjs): the forced cells as the released guide's own fill.sh prints them over the translation eaa1feeb3018deeb… (all of the seat's roots in one cut). By AI agents, Wed Nov 11 2026. No macro, syntax, notation, axiom, sorry.
-/
import Derived.Test.YtgbalmjnjpfopaaChecked
import GoSem.Claim
import GoSem.ClaimJoined
import GoSem.ClaimMapViews
import Derived.JoinedTies
import Derived.KernelRfl
namespace Go.Proofs.Ytgbalmjnjpfopaa
/- THE CELL 'sum', in the pinned program and in every row, IS THE sha256 OF THE DUMP (.gsa) THAT YtgbalmjnjpfopaaProg.lean LOADS. Nothing in Lean hashes anything: it is a label: what it is worth is what the hold of that sum in a sandbox is worth. -/
noncomputable def Try.pinned : Pinned := { name := "ytgbalmjnjpfopaa", sum := "eaa1feeb3018deebff7090171168182b9ad75073e7c8eb056254257bd53c8dac", checked := Try.checked }
namespace Rows
def none {H : Type} : Left H := { results := [], args := [] }

/-- 'pomadelaw05.CoinsGreedy': WHATEVER THE INPUT: true; the input reads as it did. -/
def coinsGreedySpec : ChangeSpec := { name := "coinsGreedy", fn := fun _ => fun
  | [d1, d2] => { results := [.lit (.bool true)], args := [d1, d2] }
  | _ => none }
def coinsGreedyRow : OpenClaim := { program := "ytgbalmjnjpfopaa", sum := "eaa1feeb3018deebff7090171168182b9ad75073e7c8eb056254257bd53c8dac", func := "pomade/pomadelaw05.CoinsGreedy", spec := "coinsGreedy", unfollowed := true, recurses := true, apart := false }
def CoinsGreedySaid : Prop := coinsGreedyRow.holds Try.pinned (OpenSpec.ofChange coinsGreedySpec)

/-- ITS FALSE NEIGHBOUR: 'it returns false'. Refute it at one input. -/
def coinsGreedyWrong : ChangeSpec := { name := "coinsGreedy", fn := fun _ => fun
  | [d1, d2] => { results := [.lit (.bool false)], args := [d1, d2] }
  | _ => none }
def CoinsGreedyWrongFalsely : Prop := coinsGreedyRow.holds Try.pinned (OpenSpec.ofChange coinsGreedyWrong)

/-- 'pomadelaw05.CoinsWays': WHATEVER THE INPUT: true; the input reads as it did. -/
def coinsWaysSpec : ChangeSpec := { name := "coinsWays", fn := fun _ => fun
  | [d1, d2] => { results := [.lit (.bool true)], args := [d1, d2] }
  | _ => none }
def coinsWaysRow : OpenClaim := { program := "ytgbalmjnjpfopaa", sum := "eaa1feeb3018deebff7090171168182b9ad75073e7c8eb056254257bd53c8dac", func := "pomade/pomadelaw05.CoinsWays", spec := "coinsWays", unfollowed := true, recurses := true, apart := false }
def CoinsWaysSaid : Prop := coinsWaysRow.holds Try.pinned (OpenSpec.ofChange coinsWaysSpec)

/-- ITS FALSE NEIGHBOUR: 'it returns false'. Refute it at one input. -/
def coinsWaysWrong : ChangeSpec := { name := "coinsWays", fn := fun _ => fun
  | [d1, d2] => { results := [.lit (.bool false)], args := [d1, d2] }
  | _ => none }
def CoinsWaysWrongFalsely : Prop := coinsWaysRow.holds Try.pinned (OpenSpec.ofChange coinsWaysWrong)

/-- 'pomadelaw05.CoinsPearson': WHATEVER THE INPUT: true; the input reads as it did. -/
def coinsPearsonSpec : ChangeSpec := { name := "coinsPearson", fn := fun _ => fun
  | [d] => { results := [.lit (.bool true)], args := [d] }
  | _ => none }
def coinsPearsonRow : OpenClaim := { program := "ytgbalmjnjpfopaa", sum := "eaa1feeb3018deebff7090171168182b9ad75073e7c8eb056254257bd53c8dac", func := "pomade/pomadelaw05.CoinsPearson", spec := "coinsPearson", unfollowed := true, recurses := true, apart := false }
def CoinsPearsonSaid : Prop := coinsPearsonRow.holds Try.pinned (OpenSpec.ofChange coinsPearsonSpec)

/-- ITS FALSE NEIGHBOUR: 'it returns false'. Refute it at one input. -/
def coinsPearsonWrong : ChangeSpec := { name := "coinsPearson", fn := fun _ => fun
  | [d] => { results := [.lit (.bool false)], args := [d] }
  | _ => none }
def CoinsPearsonWrongFalsely : Prop := coinsPearsonRow.holds Try.pinned (OpenSpec.ofChange coinsPearsonWrong)

/-- 'pomadelaw05.CoinsLeft': WHATEVER THE INPUT: true; the input reads as it did. -/
def coinsLeftSpec : ChangeSpec := { name := "coinsLeft", fn := fun _ => fun
  | [d1, d2] => { results := [.lit (.bool true)], args := [d1, d2] }
  | _ => none }
def coinsLeftRow : OpenClaim := { program := "ytgbalmjnjpfopaa", sum := "eaa1feeb3018deebff7090171168182b9ad75073e7c8eb056254257bd53c8dac", func := "pomade/pomadelaw05.CoinsLeft", spec := "coinsLeft", unfollowed := true, recurses := true, apart := false }
def CoinsLeftSaid : Prop := coinsLeftRow.holds Try.pinned (OpenSpec.ofChange coinsLeftSpec)

/-- ITS FALSE NEIGHBOUR: 'it returns false'. Refute it at one input. -/
def coinsLeftWrong : ChangeSpec := { name := "coinsLeft", fn := fun _ => fun
  | [d1, d2] => { results := [.lit (.bool false)], args := [d1, d2] }
  | _ => none }
def CoinsLeftWrongFalsely : Prop := coinsLeftRow.holds Try.pinned (OpenSpec.ofChange coinsLeftWrong)

/-- 'pomadelaw05.CoinsPrefixes': WHATEVER THE INPUT: true; the input reads as it did. -/
def coinsPrefixesSpec : ChangeSpec := { name := "coinsPrefixes", fn := fun _ => fun
  | [d] => { results := [.lit (.bool true)], args := [d] }
  | _ => none }
def coinsPrefixesRow : OpenClaim := { program := "ytgbalmjnjpfopaa", sum := "eaa1feeb3018deebff7090171168182b9ad75073e7c8eb056254257bd53c8dac", func := "pomade/pomadelaw05.CoinsPrefixes", spec := "coinsPrefixes", unfollowed := true, recurses := true, apart := false }
def CoinsPrefixesSaid : Prop := coinsPrefixesRow.holds Try.pinned (OpenSpec.ofChange coinsPrefixesSpec)

/-- ITS FALSE NEIGHBOUR: 'it returns false'. Refute it at one input. -/
def coinsPrefixesWrong : ChangeSpec := { name := "coinsPrefixes", fn := fun _ => fun
  | [d] => { results := [.lit (.bool false)], args := [d] }
  | _ => none }
def CoinsPrefixesWrongFalsely : Prop := coinsPrefixesRow.holds Try.pinned (OpenSpec.ofChange coinsPrefixesWrong)

/-- 'pomadelaw05.CoinsNever': WHATEVER THE INPUT: true; the input reads as it did. -/
def coinsNeverSpec : ChangeSpec := { name := "coinsNever", fn := fun _ => fun
  | [d1, d2, d3] => { results := [.lit (.bool true)], args := [d1, d2, d3] }
  | _ => none }
def coinsNeverRow : OpenClaim := { program := "ytgbalmjnjpfopaa", sum := "eaa1feeb3018deebff7090171168182b9ad75073e7c8eb056254257bd53c8dac", func := "pomade/pomadelaw05.CoinsNever", spec := "coinsNever", unfollowed := true, recurses := true, apart := false }
def CoinsNeverSaid : Prop := coinsNeverRow.holds Try.pinned (OpenSpec.ofChange coinsNeverSpec)

/-- ITS FALSE NEIGHBOUR: 'it returns false'. Refute it at one input. -/
def coinsNeverWrong : ChangeSpec := { name := "coinsNever", fn := fun _ => fun
  | [d1, d2, d3] => { results := [.lit (.bool false)], args := [d1, d2, d3] }
  | _ => none }
def CoinsNeverWrongFalsely : Prop := coinsNeverRow.holds Try.pinned (OpenSpec.ofChange coinsNeverWrong)

/-- 'pomadelaw05.CoinsFails': WHATEVER THE INPUT: true; the input reads as it did. -/
def coinsFailsSpec : ChangeSpec := { name := "coinsFails", fn := fun _ => fun
  | [d1, d2] => { results := [.lit (.bool true)], args := [d1, d2] }
  | _ => none }
def coinsFailsRow : OpenClaim := { program := "ytgbalmjnjpfopaa", sum := "eaa1feeb3018deebff7090171168182b9ad75073e7c8eb056254257bd53c8dac", func := "pomade/pomadelaw05.CoinsFails", spec := "coinsFails", unfollowed := true, recurses := true, apart := false }
def CoinsFailsSaid : Prop := coinsFailsRow.holds Try.pinned (OpenSpec.ofChange coinsFailsSpec)

/-- ITS FALSE NEIGHBOUR: 'it returns false'. Refute it at one input. -/
def coinsFailsWrong : ChangeSpec := { name := "coinsFails", fn := fun _ => fun
  | [d1, d2] => { results := [.lit (.bool false)], args := [d1, d2] }
  | _ => none }
def CoinsFailsWrongFalsely : Prop := coinsFailsRow.holds Try.pinned (OpenSpec.ofChange coinsFailsWrong)

/-- 'pomadelaw05.CoinsOne': WHATEVER THE INPUT: true; the input reads as it did. -/
def coinsOneSpec : ChangeSpec := { name := "coinsOne", fn := fun _ => fun
  | [d1, d2] => { results := [.lit (.bool true)], args := [d1, d2] }
  | _ => none }
def coinsOneRow : OpenClaim := { program := "ytgbalmjnjpfopaa", sum := "eaa1feeb3018deebff7090171168182b9ad75073e7c8eb056254257bd53c8dac", func := "pomade/pomadelaw05.CoinsOne", spec := "coinsOne", unfollowed := true, recurses := true, apart := false }
def CoinsOneSaid : Prop := coinsOneRow.holds Try.pinned (OpenSpec.ofChange coinsOneSpec)

/-- ITS FALSE NEIGHBOUR: 'it returns false'. Refute it at one input. -/
def coinsOneWrong : ChangeSpec := { name := "coinsOne", fn := fun _ => fun
  | [d1, d2] => { results := [.lit (.bool false)], args := [d1, d2] }
  | _ => none }
def CoinsOneWrongFalsely : Prop := coinsOneRow.holds Try.pinned (OpenSpec.ofChange coinsOneWrong)

/-- 'pomadelaw05.CoinsMost': WHATEVER THE INPUT: true; the input reads as it did. -/
def coinsMostSpec : ChangeSpec := { name := "coinsMost", fn := fun _ => fun
  | [d1, d2, d3] => { results := [.lit (.bool true)], args := [d1, d2, d3] }
  | _ => none }
def coinsMostRow : OpenClaim := { program := "ytgbalmjnjpfopaa", sum := "eaa1feeb3018deebff7090171168182b9ad75073e7c8eb056254257bd53c8dac", func := "pomade/pomadelaw05.CoinsMost", spec := "coinsMost", unfollowed := true, recurses := true, apart := false }
def CoinsMostSaid : Prop := coinsMostRow.holds Try.pinned (OpenSpec.ofChange coinsMostSpec)

/-- ITS FALSE NEIGHBOUR: 'it returns false'. Refute it at one input. -/
def coinsMostWrong : ChangeSpec := { name := "coinsMost", fn := fun _ => fun
  | [d1, d2, d3] => { results := [.lit (.bool false)], args := [d1, d2, d3] }
  | _ => none }
def CoinsMostWrongFalsely : Prop := coinsMostRow.holds Try.pinned (OpenSpec.ofChange coinsMostWrong)

/- THE SECOND FORM. 'bulk': how many values and letters a reading holds, each counted each time it is reached (what is shared counts as often as it is met; a slice's spare places count too). A statement '..UptoSaid' is the law's where the arguments, and the package variables that the reading takes, are together of bulk at most 1048576: NARROWER than '..Said'. Prove '..Said' where nothing that the law and all that it calls make is longer than what came in: it says more and counts as full. Else prove '..UptoSaid'. A law counts once. -/
mutual
def uptoBulk {H : Type} : DataW H → Nat
  | .lit (.string bytes) => bytes.length + 1
  | .lit _ => 1
  | .nil => 1
  | .ptr d => uptoBulk d + 1
  | .slice elems spare => uptoBulkAll elems + uptoBulkAll spare + 1
  | .agg parts => uptoBulkAll parts + 1
  | .iface _ d => uptoBulk d + 1
  | .map entries => uptoBulkEntries entries + 1
  | .held _ => 1
def uptoBulkAll {H : Type} : List (DataW H) → Nat
  | [] => 0
  | d :: r => uptoBulk d + uptoBulkAll r
def uptoBulkEntries {H : Type} : List (Lit × DataW H) → Nat
  | [] => 0
  | x :: r => uptoBulkEntry x + uptoBulkEntries r
def uptoBulkEntry {H : Type} : Lit × DataW H → Nat
  | (.string bytes, d) => bytes.length + uptoBulk d + 1
  | (_, d) => uptoBulk d + 1
 end
def uptoSmall : (H : Type) → List (DataW H) → Bool := fun _ ds => decide (uptoBulkAll ds ≤ 1048576)
def OpenSpec.upto (s : _root_.Go.ChangeSpec) : _root_.Go.OpenSpec := { _root_.Go.OpenSpec.ofChange s with cond := some uptoSmall }

/-- 'pomadelaw05.CoinsGreedy', WHERE WHAT IT READS IS OF BULK AT MOST 1048576: true; the input reads as it did. -/
def coinsGreedyUptoRow : OpenClaim := { program := "ytgbalmjnjpfopaa", sum := "eaa1feeb3018deebff7090171168182b9ad75073e7c8eb056254257bd53c8dac", func := "pomade/pomadelaw05.CoinsGreedy", spec := "coinsGreedy", unfollowed := true, recurses := true, apart := false, narrowed := true }
def CoinsGreedyUptoSaid : Prop := coinsGreedyUptoRow.holds Try.pinned (OpenSpec.upto coinsGreedySpec)

/-- 'pomadelaw05.CoinsWays', WHERE WHAT IT READS IS OF BULK AT MOST 1048576: true; the input reads as it did. -/
def coinsWaysUptoRow : OpenClaim := { program := "ytgbalmjnjpfopaa", sum := "eaa1feeb3018deebff7090171168182b9ad75073e7c8eb056254257bd53c8dac", func := "pomade/pomadelaw05.CoinsWays", spec := "coinsWays", unfollowed := true, recurses := true, apart := false, narrowed := true }
def CoinsWaysUptoSaid : Prop := coinsWaysUptoRow.holds Try.pinned (OpenSpec.upto coinsWaysSpec)

/-- 'pomadelaw05.CoinsPearson', WHERE WHAT IT READS IS OF BULK AT MOST 1048576: true; the input reads as it did. -/
def coinsPearsonUptoRow : OpenClaim := { program := "ytgbalmjnjpfopaa", sum := "eaa1feeb3018deebff7090171168182b9ad75073e7c8eb056254257bd53c8dac", func := "pomade/pomadelaw05.CoinsPearson", spec := "coinsPearson", unfollowed := true, recurses := true, apart := false, narrowed := true }
def CoinsPearsonUptoSaid : Prop := coinsPearsonUptoRow.holds Try.pinned (OpenSpec.upto coinsPearsonSpec)

/-- 'pomadelaw05.CoinsLeft', WHERE WHAT IT READS IS OF BULK AT MOST 1048576: true; the input reads as it did. -/
def coinsLeftUptoRow : OpenClaim := { program := "ytgbalmjnjpfopaa", sum := "eaa1feeb3018deebff7090171168182b9ad75073e7c8eb056254257bd53c8dac", func := "pomade/pomadelaw05.CoinsLeft", spec := "coinsLeft", unfollowed := true, recurses := true, apart := false, narrowed := true }
def CoinsLeftUptoSaid : Prop := coinsLeftUptoRow.holds Try.pinned (OpenSpec.upto coinsLeftSpec)

/-- 'pomadelaw05.CoinsPrefixes', WHERE WHAT IT READS IS OF BULK AT MOST 1048576: true; the input reads as it did. -/
def coinsPrefixesUptoRow : OpenClaim := { program := "ytgbalmjnjpfopaa", sum := "eaa1feeb3018deebff7090171168182b9ad75073e7c8eb056254257bd53c8dac", func := "pomade/pomadelaw05.CoinsPrefixes", spec := "coinsPrefixes", unfollowed := true, recurses := true, apart := false, narrowed := true }
def CoinsPrefixesUptoSaid : Prop := coinsPrefixesUptoRow.holds Try.pinned (OpenSpec.upto coinsPrefixesSpec)

/-- 'pomadelaw05.CoinsNever', WHERE WHAT IT READS IS OF BULK AT MOST 1048576: true; the input reads as it did. -/
def coinsNeverUptoRow : OpenClaim := { program := "ytgbalmjnjpfopaa", sum := "eaa1feeb3018deebff7090171168182b9ad75073e7c8eb056254257bd53c8dac", func := "pomade/pomadelaw05.CoinsNever", spec := "coinsNever", unfollowed := true, recurses := true, apart := false, narrowed := true }
def CoinsNeverUptoSaid : Prop := coinsNeverUptoRow.holds Try.pinned (OpenSpec.upto coinsNeverSpec)

/-- 'pomadelaw05.CoinsFails', WHERE WHAT IT READS IS OF BULK AT MOST 1048576: true; the input reads as it did. -/
def coinsFailsUptoRow : OpenClaim := { program := "ytgbalmjnjpfopaa", sum := "eaa1feeb3018deebff7090171168182b9ad75073e7c8eb056254257bd53c8dac", func := "pomade/pomadelaw05.CoinsFails", spec := "coinsFails", unfollowed := true, recurses := true, apart := false, narrowed := true }
def CoinsFailsUptoSaid : Prop := coinsFailsUptoRow.holds Try.pinned (OpenSpec.upto coinsFailsSpec)

/-- 'pomadelaw05.CoinsOne', WHERE WHAT IT READS IS OF BULK AT MOST 1048576: true; the input reads as it did. -/
def coinsOneUptoRow : OpenClaim := { program := "ytgbalmjnjpfopaa", sum := "eaa1feeb3018deebff7090171168182b9ad75073e7c8eb056254257bd53c8dac", func := "pomade/pomadelaw05.CoinsOne", spec := "coinsOne", unfollowed := true, recurses := true, apart := false, narrowed := true }
def CoinsOneUptoSaid : Prop := coinsOneUptoRow.holds Try.pinned (OpenSpec.upto coinsOneSpec)

/-- 'pomadelaw05.CoinsMost', WHERE WHAT IT READS IS OF BULK AT MOST 1048576: true; the input reads as it did. -/
def coinsMostUptoRow : OpenClaim := { program := "ytgbalmjnjpfopaa", sum := "eaa1feeb3018deebff7090171168182b9ad75073e7c8eb056254257bd53c8dac", func := "pomade/pomadelaw05.CoinsMost", spec := "coinsMost", unfollowed := true, recurses := true, apart := false, narrowed := true }
def CoinsMostUptoSaid : Prop := coinsMostUptoRow.holds Try.pinned (OpenSpec.upto coinsMostSpec)

end Rows
end Go.Proofs.Ytgbalmjnjpfopaa
