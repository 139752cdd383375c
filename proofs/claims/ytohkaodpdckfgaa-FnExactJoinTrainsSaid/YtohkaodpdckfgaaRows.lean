/-
  No cell of these rows narrows 'for every input' (looked for: loops, veiled, ifaces, maps, wideKeys, modest, calm, conditions, laid).
  DERIVED. THE GIVEN ROWS OF THIS SEAT. 12 by the template 'for every input the law returns true; each argument reads behind the call as it read before'; 0 by the template 'total and deterministic' (their statements: YtohkaodpdckfgaaTotals.lean).
  GIVEN WITH THE SEED: the statements are not yours to turn. If you find one false, say at which input.
  Laid BY PROGRAM, IN A SANDBOX (cutbox-rows.mjs): the forced cells as the released guide's own fill.sh prints them over the translation 9600ac90b546dd3a… (all of the seat's roots in one cut). By AI agents, Wed Nov 11 2026. No macro, syntax, notation, axiom, sorry.
-/
import Derived.Test.YtohkaodpdckfgaaChecked
import GoSem.Claim
import GoSem.ClaimJoined
import GoSem.ClaimMapViews
import Derived.JoinedTies
import Derived.KernelRfl
namespace Go.Proofs.Ytohkaodpdckfgaa
/- THE CELL 'sum', in the pinned program and in every row, IS THE sha256 OF THE DUMP (.gsa) THAT YtohkaodpdckfgaaProg.lean LOADS. Nothing in Lean hashes anything: it is a label: what it is worth is what the hold of that sum in a sandbox is worth. -/
noncomputable def Try.pinned : Pinned := { name := "ytohkaodpdckfgaa", sum := "9600ac90b546dd3a2d5ee1abf96d36ce5b59f70a44fdc53713943156004f7663", checked := Try.checked }
namespace Rows
def none {H : Type} : Left H := { results := [], args := [] }

/-- 'laws.FnExactValidTrain': WHATEVER THE INPUT: true; the input reads as it did. -/
def fnExactValidTrainSpec : ChangeSpec := { name := "fnExactValidTrain", fn := fun _ => fun
  | [d] => { results := [.lit (.bool true)], args := [d] }
  | _ => none }
def fnExactValidTrainRow : OpenClaim := { program := "ytohkaodpdckfgaa", sum := "9600ac90b546dd3a2d5ee1abf96d36ce5b59f70a44fdc53713943156004f7663", func := "loop.example/g01344/laws.FnExactValidTrain", spec := "fnExactValidTrain", unfollowed := true, recurses := true, apart := false }
def FnExactValidTrainSaid : Prop := fnExactValidTrainRow.holds Try.pinned (OpenSpec.ofChange fnExactValidTrainSpec)

/-- ITS FALSE NEIGHBOUR: 'it returns false'. Refute it at one input. -/
def fnExactValidTrainWrong : ChangeSpec := { name := "fnExactValidTrain", fn := fun _ => fun
  | [d] => { results := [.lit (.bool false)], args := [d] }
  | _ => none }
def FnExactValidTrainWrongFalsely : Prop := fnExactValidTrainRow.holds Try.pinned (OpenSpec.ofChange fnExactValidTrainWrong)

/-- 'laws.FnExactSameTrain': WHATEVER THE INPUT: true; the input reads as it did. -/
def fnExactSameTrainSpec : ChangeSpec := { name := "fnExactSameTrain", fn := fun _ => fun
  | [d1, d2] => { results := [.lit (.bool true)], args := [d1, d2] }
  | _ => none }
def fnExactSameTrainRow : OpenClaim := { program := "ytohkaodpdckfgaa", sum := "9600ac90b546dd3a2d5ee1abf96d36ce5b59f70a44fdc53713943156004f7663", func := "loop.example/g01344/laws.FnExactSameTrain", spec := "fnExactSameTrain", inPlace := ["math.Float32bits"], unfollowed := true, recurses := true, apart := false }
def FnExactSameTrainSaid : Prop := fnExactSameTrainRow.holds Try.pinned (OpenSpec.ofChange fnExactSameTrainSpec)

/-- ITS FALSE NEIGHBOUR: 'it returns false'. Refute it at one input. -/
def fnExactSameTrainWrong : ChangeSpec := { name := "fnExactSameTrain", fn := fun _ => fun
  | [d1, d2] => { results := [.lit (.bool false)], args := [d1, d2] }
  | _ => none }
def FnExactSameTrainWrongFalsely : Prop := fnExactSameTrainRow.holds Try.pinned (OpenSpec.ofChange fnExactSameTrainWrong)

/-- 'laws.FnExactIsReversed': WHATEVER THE INPUT: true; the input reads as it did. -/
def fnExactIsReversedSpec : ChangeSpec := { name := "fnExactIsReversed", fn := fun _ => fun
  | [d] => { results := [.lit (.bool true)], args := [d] }
  | _ => none }
def fnExactIsReversedRow : OpenClaim := { program := "ytohkaodpdckfgaa", sum := "9600ac90b546dd3a2d5ee1abf96d36ce5b59f70a44fdc53713943156004f7663", func := "loop.example/g01344/laws.FnExactIsReversed", spec := "fnExactIsReversed", unfollowed := true, recurses := true, apart := false }
def FnExactIsReversedSaid : Prop := fnExactIsReversedRow.holds Try.pinned (OpenSpec.ofChange fnExactIsReversedSpec)

/-- ITS FALSE NEIGHBOUR: 'it returns false'. Refute it at one input. -/
def fnExactIsReversedWrong : ChangeSpec := { name := "fnExactIsReversed", fn := fun _ => fun
  | [d] => { results := [.lit (.bool false)], args := [d] }
  | _ => none }
def FnExactIsReversedWrongFalsely : Prop := fnExactIsReversedRow.holds Try.pinned (OpenSpec.ofChange fnExactIsReversedWrong)

/-- 'laws.FnExactEfficiencyOf': WHATEVER THE INPUT: true; the input reads as it did. -/
def fnExactEfficiencyOfSpec : ChangeSpec := { name := "fnExactEfficiencyOf", fn := fun _ => fun
  | [d] => { results := [.lit (.bool true)], args := [d] }
  | _ => none }
def fnExactEfficiencyOfRow : OpenClaim := { program := "ytohkaodpdckfgaa", sum := "9600ac90b546dd3a2d5ee1abf96d36ce5b59f70a44fdc53713943156004f7663", func := "loop.example/g01344/laws.FnExactEfficiencyOf", spec := "fnExactEfficiencyOf", unfollowed := true, recurses := true, apart := false }
def FnExactEfficiencyOfSaid : Prop := fnExactEfficiencyOfRow.holds Try.pinned (OpenSpec.ofChange fnExactEfficiencyOfSpec)

/-- ITS FALSE NEIGHBOUR: 'it returns false'. Refute it at one input. -/
def fnExactEfficiencyOfWrong : ChangeSpec := { name := "fnExactEfficiencyOf", fn := fun _ => fun
  | [d] => { results := [.lit (.bool false)], args := [d] }
  | _ => none }
def FnExactEfficiencyOfWrongFalsely : Prop := fnExactEfficiencyOfRow.holds Try.pinned (OpenSpec.ofChange fnExactEfficiencyOfWrong)

/-- 'laws.FnExactWorstPair': WHATEVER THE INPUT: true; the input reads as it did. -/
def fnExactWorstPairSpec : ChangeSpec := { name := "fnExactWorstPair", fn := fun _ => fun
  | [d] => { results := [.lit (.bool true)], args := [d] }
  | _ => none }
def fnExactWorstPairRow : OpenClaim := { program := "ytohkaodpdckfgaa", sum := "9600ac90b546dd3a2d5ee1abf96d36ce5b59f70a44fdc53713943156004f7663", func := "loop.example/g01344/laws.FnExactWorstPair", spec := "fnExactWorstPair", unfollowed := true, recurses := true, apart := false }
def FnExactWorstPairSaid : Prop := fnExactWorstPairRow.holds Try.pinned (OpenSpec.ofChange fnExactWorstPairSpec)

/-- ITS FALSE NEIGHBOUR: 'it returns false'. Refute it at one input. -/
def fnExactWorstPairWrong : ChangeSpec := { name := "fnExactWorstPair", fn := fun _ => fun
  | [d] => { results := [.lit (.bool false)], args := [d] }
  | _ => none }
def FnExactWorstPairWrongFalsely : Prop := fnExactWorstPairRow.holds Try.pinned (OpenSpec.ofChange fnExactWorstPairWrong)

/-- 'laws.FnExactFactorOf': WHATEVER THE INPUT: true; the input reads as it did. -/
def fnExactFactorOfSpec : ChangeSpec := { name := "fnExactFactorOf", fn := fun _ => fun
  | [d] => { results := [.lit (.bool true)], args := [d] }
  | _ => none }
def fnExactFactorOfRow : OpenClaim := { program := "ytohkaodpdckfgaa", sum := "9600ac90b546dd3a2d5ee1abf96d36ce5b59f70a44fdc53713943156004f7663", func := "loop.example/g01344/laws.FnExactFactorOf", spec := "fnExactFactorOf", unfollowed := true, recurses := true, apart := false }
def FnExactFactorOfSaid : Prop := fnExactFactorOfRow.holds Try.pinned (OpenSpec.ofChange fnExactFactorOfSpec)

/-- ITS FALSE NEIGHBOUR: 'it returns false'. Refute it at one input. -/
def fnExactFactorOfWrong : ChangeSpec := { name := "fnExactFactorOf", fn := fun _ => fun
  | [d] => { results := [.lit (.bool false)], args := [d] }
  | _ => none }
def FnExactFactorOfWrongFalsely : Prop := fnExactFactorOfRow.holds Try.pinned (OpenSpec.ofChange fnExactFactorOfWrong)

/-- 'laws.FnExactRatioOf': WHATEVER THE INPUT: true; the input reads as it did. -/
def fnExactRatioOfSpec : ChangeSpec := { name := "fnExactRatioOf", fn := fun _ => fun
  | [d] => { results := [.lit (.bool true)], args := [d] }
  | _ => none }
def fnExactRatioOfRow : OpenClaim := { program := "ytohkaodpdckfgaa", sum := "9600ac90b546dd3a2d5ee1abf96d36ce5b59f70a44fdc53713943156004f7663", func := "loop.example/g01344/laws.FnExactRatioOf", spec := "fnExactRatioOf", unfollowed := true, recurses := true, apart := false }
def FnExactRatioOfSaid : Prop := fnExactRatioOfRow.holds Try.pinned (OpenSpec.ofChange fnExactRatioOfSpec)

/-- ITS FALSE NEIGHBOUR: 'it returns false'. Refute it at one input. -/
def fnExactRatioOfWrong : ChangeSpec := { name := "fnExactRatioOf", fn := fun _ => fun
  | [d] => { results := [.lit (.bool false)], args := [d] }
  | _ => none }
def FnExactRatioOfWrongFalsely : Prop := fnExactRatioOfRow.holds Try.pinned (OpenSpec.ofChange fnExactRatioOfWrong)

/-- 'laws.FnExactTurnsToMeet': WHATEVER THE INPUT: true; the input reads as it did. -/
def fnExactTurnsToMeetSpec : ChangeSpec := { name := "fnExactTurnsToMeet", fn := fun _ => fun
  | [d1, d2] => { results := [.lit (.bool true)], args := [d1, d2] }
  | _ => none }
def fnExactTurnsToMeetRow : OpenClaim := { program := "ytohkaodpdckfgaa", sum := "9600ac90b546dd3a2d5ee1abf96d36ce5b59f70a44fdc53713943156004f7663", func := "loop.example/g01344/laws.FnExactTurnsToMeet", spec := "fnExactTurnsToMeet", unfollowed := true, recurses := true, apart := false }
def FnExactTurnsToMeetSaid : Prop := fnExactTurnsToMeetRow.holds Try.pinned (OpenSpec.ofChange fnExactTurnsToMeetSpec)

/-- ITS FALSE NEIGHBOUR: 'it returns false'. Refute it at one input. -/
def fnExactTurnsToMeetWrong : ChangeSpec := { name := "fnExactTurnsToMeet", fn := fun _ => fun
  | [d1, d2] => { results := [.lit (.bool false)], args := [d1, d2] }
  | _ => none }
def FnExactTurnsToMeetWrongFalsely : Prop := fnExactTurnsToMeetRow.holds Try.pinned (OpenSpec.ofChange fnExactTurnsToMeetWrong)

/-- 'laws.FnExactBackTrain': WHATEVER THE INPUT: true; the input reads as it did. -/
def fnExactBackTrainSpec : ChangeSpec := { name := "fnExactBackTrain", fn := fun _ => fun
  | [d] => { results := [.lit (.bool true)], args := [d] }
  | _ => none }
def fnExactBackTrainRow : OpenClaim := { program := "ytohkaodpdckfgaa", sum := "9600ac90b546dd3a2d5ee1abf96d36ce5b59f70a44fdc53713943156004f7663", func := "loop.example/g01344/laws.FnExactBackTrain", spec := "fnExactBackTrain", unfollowed := true, recurses := true, apart := false }
def FnExactBackTrainSaid : Prop := fnExactBackTrainRow.holds Try.pinned (OpenSpec.ofChange fnExactBackTrainSpec)

/-- ITS FALSE NEIGHBOUR: 'it returns false'. Refute it at one input. -/
def fnExactBackTrainWrong : ChangeSpec := { name := "fnExactBackTrain", fn := fun _ => fun
  | [d] => { results := [.lit (.bool false)], args := [d] }
  | _ => none }
def FnExactBackTrainWrongFalsely : Prop := fnExactBackTrainRow.holds Try.pinned (OpenSpec.ofChange fnExactBackTrainWrong)

/-- 'laws.FnExactDistancesOf': WHATEVER THE INPUT: true; the input reads as it did. -/
def fnExactDistancesOfSpec : ChangeSpec := { name := "fnExactDistancesOf", fn := fun _ => fun
  | [d1, d2] => { results := [.lit (.bool true)], args := [d1, d2] }
  | _ => none }
def fnExactDistancesOfRow : OpenClaim := { program := "ytohkaodpdckfgaa", sum := "9600ac90b546dd3a2d5ee1abf96d36ce5b59f70a44fdc53713943156004f7663", func := "loop.example/g01344/laws.FnExactDistancesOf", spec := "fnExactDistancesOf", unfollowed := true, recurses := true, apart := false }
def FnExactDistancesOfSaid : Prop := fnExactDistancesOfRow.holds Try.pinned (OpenSpec.ofChange fnExactDistancesOfSpec)

/-- ITS FALSE NEIGHBOUR: 'it returns false'. Refute it at one input. -/
def fnExactDistancesOfWrong : ChangeSpec := { name := "fnExactDistancesOf", fn := fun _ => fun
  | [d1, d2] => { results := [.lit (.bool false)], args := [d1, d2] }
  | _ => none }
def FnExactDistancesOfWrongFalsely : Prop := fnExactDistancesOfRow.holds Try.pinned (OpenSpec.ofChange fnExactDistancesOfWrong)

/-- 'laws.FnExactWithLoss': WHATEVER THE INPUT: true; the input reads as it did. -/
def fnExactWithLossSpec : ChangeSpec := { name := "fnExactWithLoss", fn := fun _ => fun
  | [d1, d2, d3] => { results := [.lit (.bool true)], args := [d1, d2, d3] }
  | _ => none }
def fnExactWithLossRow : OpenClaim := { program := "ytohkaodpdckfgaa", sum := "9600ac90b546dd3a2d5ee1abf96d36ce5b59f70a44fdc53713943156004f7663", func := "loop.example/g01344/laws.FnExactWithLoss", spec := "fnExactWithLoss", unfollowed := true, recurses := true, apart := false }
def FnExactWithLossSaid : Prop := fnExactWithLossRow.holds Try.pinned (OpenSpec.ofChange fnExactWithLossSpec)

/-- ITS FALSE NEIGHBOUR: 'it returns false'. Refute it at one input. -/
def fnExactWithLossWrong : ChangeSpec := { name := "fnExactWithLoss", fn := fun _ => fun
  | [d1, d2, d3] => { results := [.lit (.bool false)], args := [d1, d2, d3] }
  | _ => none }
def FnExactWithLossWrongFalsely : Prop := fnExactWithLossRow.holds Try.pinned (OpenSpec.ofChange fnExactWithLossWrong)

/-- 'laws.FnExactJoinTrains': WHATEVER THE INPUT: true; the input reads as it did. -/
def fnExactJoinTrainsSpec : ChangeSpec := { name := "fnExactJoinTrains", fn := fun _ => fun
  | [d1, d2] => { results := [.lit (.bool true)], args := [d1, d2] }
  | _ => none }
def fnExactJoinTrainsRow : OpenClaim := { program := "ytohkaodpdckfgaa", sum := "9600ac90b546dd3a2d5ee1abf96d36ce5b59f70a44fdc53713943156004f7663", func := "loop.example/g01344/laws.FnExactJoinTrains", spec := "fnExactJoinTrains", unfollowed := true, recurses := true, apart := false }
def FnExactJoinTrainsSaid : Prop := fnExactJoinTrainsRow.holds Try.pinned (OpenSpec.ofChange fnExactJoinTrainsSpec)

/-- ITS FALSE NEIGHBOUR: 'it returns false'. Refute it at one input. -/
def fnExactJoinTrainsWrong : ChangeSpec := { name := "fnExactJoinTrains", fn := fun _ => fun
  | [d1, d2] => { results := [.lit (.bool false)], args := [d1, d2] }
  | _ => none }
def FnExactJoinTrainsWrongFalsely : Prop := fnExactJoinTrainsRow.holds Try.pinned (OpenSpec.ofChange fnExactJoinTrainsWrong)

/- THE SECOND FORM. 'bulk': how many values and letters a reading holds, each counted each time it is reached (what is shared counts as often as it is met; a slice's spare places count too). A statement '..UptoSaid' is the law's where the arguments, and the package variables that the reading takes, are together of bulk at most 1048576: NARROWER than '..Said'. Prove '..Said' where nothing that the law and all that it calls make is longer than what came in: it says more and counts as full. Else prove '..UptoSaid'. A law counts once. -/
mutual
def uptoBulk {H : Type} : DataW H → Nat
  | .lit (.string bytes) => bytes.length + 1
  | .lit _ => 1
  | .nil => 1
  | .ptr d => uptoBulk d + 1
  | .slice elems spare => uptoBulkAll elems + uptoBulkAll spare + 1
  | .agg parts => uptoBulkAll parts + 1
  | .iface _ d => uptoBulk d + 1
  | .map entries => uptoBulkEntries entries + 1
  | .held _ => 1
def uptoBulkAll {H : Type} : List (DataW H) → Nat
  | [] => 0
  | d :: r => uptoBulk d + uptoBulkAll r
def uptoBulkEntries {H : Type} : List (Lit × DataW H) → Nat
  | [] => 0
  | x :: r => uptoBulkEntry x + uptoBulkEntries r
def uptoBulkEntry {H : Type} : Lit × DataW H → Nat
  | (.string bytes, d) => bytes.length + uptoBulk d + 1
  | (_, d) => uptoBulk d + 1
 end
def uptoSmall : (H : Type) → List (DataW H) → Bool := fun _ ds => decide (uptoBulkAll ds ≤ 1048576)
def OpenSpec.upto (s : _root_.Go.ChangeSpec) : _root_.Go.OpenSpec := { _root_.Go.OpenSpec.ofChange s with cond := some uptoSmall }

/-- 'laws.FnExactValidTrain', WHERE WHAT IT READS IS OF BULK AT MOST 1048576: true; the input reads as it did. -/
def fnExactValidTrainUptoRow : OpenClaim := { program := "ytohkaodpdckfgaa", sum := "9600ac90b546dd3a2d5ee1abf96d36ce5b59f70a44fdc53713943156004f7663", func := "loop.example/g01344/laws.FnExactValidTrain", spec := "fnExactValidTrain", unfollowed := true, recurses := true, apart := false, narrowed := true }
def FnExactValidTrainUptoSaid : Prop := fnExactValidTrainUptoRow.holds Try.pinned (OpenSpec.upto fnExactValidTrainSpec)

/-- 'laws.FnExactSameTrain', WHERE WHAT IT READS IS OF BULK AT MOST 1048576: true; the input reads as it did. -/
def fnExactSameTrainUptoRow : OpenClaim := { program := "ytohkaodpdckfgaa", sum := "9600ac90b546dd3a2d5ee1abf96d36ce5b59f70a44fdc53713943156004f7663", func := "loop.example/g01344/laws.FnExactSameTrain", spec := "fnExactSameTrain", inPlace := ["math.Float32bits"], unfollowed := true, recurses := true, apart := false, narrowed := true }
def FnExactSameTrainUptoSaid : Prop := fnExactSameTrainUptoRow.holds Try.pinned (OpenSpec.upto fnExactSameTrainSpec)

/-- 'laws.FnExactIsReversed', WHERE WHAT IT READS IS OF BULK AT MOST 1048576: true; the input reads as it did. -/
def fnExactIsReversedUptoRow : OpenClaim := { program := "ytohkaodpdckfgaa", sum := "9600ac90b546dd3a2d5ee1abf96d36ce5b59f70a44fdc53713943156004f7663", func := "loop.example/g01344/laws.FnExactIsReversed", spec := "fnExactIsReversed", unfollowed := true, recurses := true, apart := false, narrowed := true }
def FnExactIsReversedUptoSaid : Prop := fnExactIsReversedUptoRow.holds Try.pinned (OpenSpec.upto fnExactIsReversedSpec)

/-- 'laws.FnExactEfficiencyOf', WHERE WHAT IT READS IS OF BULK AT MOST 1048576: true; the input reads as it did. -/
def fnExactEfficiencyOfUptoRow : OpenClaim := { program := "ytohkaodpdckfgaa", sum := "9600ac90b546dd3a2d5ee1abf96d36ce5b59f70a44fdc53713943156004f7663", func := "loop.example/g01344/laws.FnExactEfficiencyOf", spec := "fnExactEfficiencyOf", unfollowed := true, recurses := true, apart := false, narrowed := true }
def FnExactEfficiencyOfUptoSaid : Prop := fnExactEfficiencyOfUptoRow.holds Try.pinned (OpenSpec.upto fnExactEfficiencyOfSpec)

/-- 'laws.FnExactWorstPair', WHERE WHAT IT READS IS OF BULK AT MOST 1048576: true; the input reads as it did. -/
def fnExactWorstPairUptoRow : OpenClaim := { program := "ytohkaodpdckfgaa", sum := "9600ac90b546dd3a2d5ee1abf96d36ce5b59f70a44fdc53713943156004f7663", func := "loop.example/g01344/laws.FnExactWorstPair", spec := "fnExactWorstPair", unfollowed := true, recurses := true, apart := false, narrowed := true }
def FnExactWorstPairUptoSaid : Prop := fnExactWorstPairUptoRow.holds Try.pinned (OpenSpec.upto fnExactWorstPairSpec)

/-- 'laws.FnExactFactorOf', WHERE WHAT IT READS IS OF BULK AT MOST 1048576: true; the input reads as it did. -/
def fnExactFactorOfUptoRow : OpenClaim := { program := "ytohkaodpdckfgaa", sum := "9600ac90b546dd3a2d5ee1abf96d36ce5b59f70a44fdc53713943156004f7663", func := "loop.example/g01344/laws.FnExactFactorOf", spec := "fnExactFactorOf", unfollowed := true, recurses := true, apart := false, narrowed := true }
def FnExactFactorOfUptoSaid : Prop := fnExactFactorOfUptoRow.holds Try.pinned (OpenSpec.upto fnExactFactorOfSpec)

/-- 'laws.FnExactRatioOf', WHERE WHAT IT READS IS OF BULK AT MOST 1048576: true; the input reads as it did. -/
def fnExactRatioOfUptoRow : OpenClaim := { program := "ytohkaodpdckfgaa", sum := "9600ac90b546dd3a2d5ee1abf96d36ce5b59f70a44fdc53713943156004f7663", func := "loop.example/g01344/laws.FnExactRatioOf", spec := "fnExactRatioOf", unfollowed := true, recurses := true, apart := false, narrowed := true }
def FnExactRatioOfUptoSaid : Prop := fnExactRatioOfUptoRow.holds Try.pinned (OpenSpec.upto fnExactRatioOfSpec)

/-- 'laws.FnExactTurnsToMeet', WHERE WHAT IT READS IS OF BULK AT MOST 1048576: true; the input reads as it did. -/
def fnExactTurnsToMeetUptoRow : OpenClaim := { program := "ytohkaodpdckfgaa", sum := "9600ac90b546dd3a2d5ee1abf96d36ce5b59f70a44fdc53713943156004f7663", func := "loop.example/g01344/laws.FnExactTurnsToMeet", spec := "fnExactTurnsToMeet", unfollowed := true, recurses := true, apart := false, narrowed := true }
def FnExactTurnsToMeetUptoSaid : Prop := fnExactTurnsToMeetUptoRow.holds Try.pinned (OpenSpec.upto fnExactTurnsToMeetSpec)

/-- 'laws.FnExactBackTrain', WHERE WHAT IT READS IS OF BULK AT MOST 1048576: true; the input reads as it did. -/
def fnExactBackTrainUptoRow : OpenClaim := { program := "ytohkaodpdckfgaa", sum := "9600ac90b546dd3a2d5ee1abf96d36ce5b59f70a44fdc53713943156004f7663", func := "loop.example/g01344/laws.FnExactBackTrain", spec := "fnExactBackTrain", unfollowed := true, recurses := true, apart := false, narrowed := true }
def FnExactBackTrainUptoSaid : Prop := fnExactBackTrainUptoRow.holds Try.pinned (OpenSpec.upto fnExactBackTrainSpec)

/-- 'laws.FnExactDistancesOf', WHERE WHAT IT READS IS OF BULK AT MOST 1048576: true; the input reads as it did. -/
def fnExactDistancesOfUptoRow : OpenClaim := { program := "ytohkaodpdckfgaa", sum := "9600ac90b546dd3a2d5ee1abf96d36ce5b59f70a44fdc53713943156004f7663", func := "loop.example/g01344/laws.FnExactDistancesOf", spec := "fnExactDistancesOf", unfollowed := true, recurses := true, apart := false, narrowed := true }
def FnExactDistancesOfUptoSaid : Prop := fnExactDistancesOfUptoRow.holds Try.pinned (OpenSpec.upto fnExactDistancesOfSpec)

/-- 'laws.FnExactWithLoss', WHERE WHAT IT READS IS OF BULK AT MOST 1048576: true; the input reads as it did. -/
def fnExactWithLossUptoRow : OpenClaim := { program := "ytohkaodpdckfgaa", sum := "9600ac90b546dd3a2d5ee1abf96d36ce5b59f70a44fdc53713943156004f7663", func := "loop.example/g01344/laws.FnExactWithLoss", spec := "fnExactWithLoss", unfollowed := true, recurses := true, apart := false, narrowed := true }
def FnExactWithLossUptoSaid : Prop := fnExactWithLossUptoRow.holds Try.pinned (OpenSpec.upto fnExactWithLossSpec)

/-- 'laws.FnExactJoinTrains', WHERE WHAT IT READS IS OF BULK AT MOST 1048576: true; the input reads as it did. -/
def fnExactJoinTrainsUptoRow : OpenClaim := { program := "ytohkaodpdckfgaa", sum := "9600ac90b546dd3a2d5ee1abf96d36ce5b59f70a44fdc53713943156004f7663", func := "loop.example/g01344/laws.FnExactJoinTrains", spec := "fnExactJoinTrains", unfollowed := true, recurses := true, apart := false, narrowed := true }
def FnExactJoinTrainsUptoSaid : Prop := fnExactJoinTrainsUptoRow.holds Try.pinned (OpenSpec.upto fnExactJoinTrainsSpec)

end Rows
end Go.Proofs.Ytohkaodpdckfgaa
