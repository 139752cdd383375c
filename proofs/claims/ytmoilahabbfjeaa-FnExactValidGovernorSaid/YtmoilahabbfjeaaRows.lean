/-
  No cell of these rows narrows 'for every input' (looked for: loops, veiled, ifaces, maps, wideKeys, modest, calm, conditions, laid).
  DERIVED. THE GIVEN ROWS OF THIS SEAT. 12 by the template 'for every input the law returns true; each argument reads behind the call as it read before'; 0 by the template 'total and deterministic' (their statements: YtmoilahabbfjeaaTotals.lean).
  GIVEN WITH THE SEED: the statements are not yours to turn. If you find one false, say at which input.
  Laid BY PROGRAM, IN A SANDBOX (cutbox-rows.mjs): the forced cells as the released guide's own fill.sh prints them over the translation b908728a4b574199… (all of the seat's roots in one cut). By AI agents, Wed Nov 11 2026. No macro, syntax, notation, axiom, sorry.
-/
import Derived.Test.YtmoilahabbfjeaaChecked
import GoSem.Claim
import GoSem.ClaimJoined
import GoSem.ClaimMapViews
import Derived.JoinedTies
import Derived.KernelRfl
namespace Go.Proofs.Ytmoilahabbfjeaa
/- THE CELL 'sum', in the pinned program and in every row, IS THE sha256 OF THE DUMP (.gsa) THAT YtmoilahabbfjeaaProg.lean LOADS. Nothing in Lean hashes anything: it is a label: what it is worth is what the hold of that sum in a sandbox is worth. -/
noncomputable def Try.pinned : Pinned := { name := "ytmoilahabbfjeaa", sum := "b908728a4b574199c892d0300e4bfa200218ad604af1c4bc6733ef480ddcd705", checked := Try.checked }
namespace Rows
def none {H : Type} : Left H := { results := [], args := [] }

/-- 'laws.FnExactWaterPower': WHATEVER THE INPUT: true; the input reads as it did. -/
def fnExactWaterPowerSpec : ChangeSpec := { name := "fnExactWaterPower", fn := fun _ => fun
  | [d1, d2, d3] => { results := [.lit (.bool true)], args := [d1, d2, d3] }
  | _ => none }
def fnExactWaterPowerRow : OpenClaim := { program := "ytmoilahabbfjeaa", sum := "b908728a4b574199c892d0300e4bfa200218ad604af1c4bc6733ef480ddcd705", func := "loop.example/g01344/laws.FnExactWaterPower", spec := "fnExactWaterPower", apart := false }
def FnExactWaterPowerSaid : Prop := fnExactWaterPowerRow.holds Try.pinned (OpenSpec.ofChange fnExactWaterPowerSpec)

/-- ITS FALSE NEIGHBOUR: 'it returns false'. Refute it at one input. -/
def fnExactWaterPowerWrong : ChangeSpec := { name := "fnExactWaterPower", fn := fun _ => fun
  | [d1, d2, d3] => { results := [.lit (.bool false)], args := [d1, d2, d3] }
  | _ => none }
def FnExactWaterPowerWrongFalsely : Prop := fnExactWaterPowerRow.holds Try.pinned (OpenSpec.ofChange fnExactWaterPowerWrong)

/-- 'laws.FnExactRadiusOf': WHATEVER THE INPUT: true; the input reads as it did. -/
def fnExactRadiusOfSpec : ChangeSpec := { name := "fnExactRadiusOf", fn := fun _ => fun
  | [d1, d2] => { results := [.lit (.bool true)], args := [d1, d2] }
  | _ => none }
def fnExactRadiusOfRow : OpenClaim := { program := "ytmoilahabbfjeaa", sum := "b908728a4b574199c892d0300e4bfa200218ad604af1c4bc6733ef480ddcd705", func := "loop.example/g01344/laws.FnExactRadiusOf", spec := "fnExactRadiusOf", apart := false }
def FnExactRadiusOfSaid : Prop := fnExactRadiusOfRow.holds Try.pinned (OpenSpec.ofChange fnExactRadiusOfSpec)

/-- ITS FALSE NEIGHBOUR: 'it returns false'. Refute it at one input. -/
def fnExactRadiusOfWrong : ChangeSpec := { name := "fnExactRadiusOf", fn := fun _ => fun
  | [d1, d2] => { results := [.lit (.bool false)], args := [d1, d2] }
  | _ => none }
def FnExactRadiusOfWrongFalsely : Prop := fnExactRadiusOfRow.holds Try.pinned (OpenSpec.ofChange fnExactRadiusOfWrong)

/-- 'laws.FnExactValidGovernor': WHATEVER THE INPUT: true; the input reads as it did. -/
def fnExactValidGovernorSpec : ChangeSpec := { name := "fnExactValidGovernor", fn := fun _ => fun
  | [d] => { results := [.lit (.bool true)], args := [d] }
  | _ => none }
def fnExactValidGovernorRow : OpenClaim := { program := "ytmoilahabbfjeaa", sum := "b908728a4b574199c892d0300e4bfa200218ad604af1c4bc6733ef480ddcd705", func := "loop.example/g01344/laws.FnExactValidGovernor", spec := "fnExactValidGovernor", apart := false }
def FnExactValidGovernorSaid : Prop := fnExactValidGovernorRow.holds Try.pinned (OpenSpec.ofChange fnExactValidGovernorSpec)

/-- ITS FALSE NEIGHBOUR: 'it returns false'. Refute it at one input. -/
def fnExactValidGovernorWrong : ChangeSpec := { name := "fnExactValidGovernor", fn := fun _ => fun
  | [d] => { results := [.lit (.bool false)], args := [d] }
  | _ => none }
def FnExactValidGovernorWrongFalsely : Prop := fnExactValidGovernorRow.holds Try.pinned (OpenSpec.ofChange fnExactValidGovernorWrong)

/-- 'laws.FnExactTurnBelt': WHATEVER THE INPUT: true; the input reads as it did. -/
def fnExactTurnBeltSpec : ChangeSpec := { name := "fnExactTurnBelt", fn := fun _ => fun
  | [d] => { results := [.lit (.bool true)], args := [d] }
  | _ => none }
def fnExactTurnBeltRow : OpenClaim := { program := "ytmoilahabbfjeaa", sum := "b908728a4b574199c892d0300e4bfa200218ad604af1c4bc6733ef480ddcd705", func := "loop.example/g01344/laws.FnExactTurnBelt", spec := "fnExactTurnBelt", apart := false }
def FnExactTurnBeltSaid : Prop := fnExactTurnBeltRow.holds Try.pinned (OpenSpec.ofChange fnExactTurnBeltSpec)

/-- ITS FALSE NEIGHBOUR: 'it returns false'. Refute it at one input. -/
def fnExactTurnBeltWrong : ChangeSpec := { name := "fnExactTurnBelt", fn := fun _ => fun
  | [d] => { results := [.lit (.bool false)], args := [d] }
  | _ => none }
def FnExactTurnBeltWrongFalsely : Prop := fnExactTurnBeltRow.holds Try.pinned (OpenSpec.ofChange fnExactTurnBeltWrong)

/-- 'laws.FnExactLengthOf': WHATEVER THE INPUT: true; the input reads as it did. -/
def fnExactLengthOfSpec : ChangeSpec := { name := "fnExactLengthOf", fn := fun _ => fun
  | [d] => { results := [.lit (.bool true)], args := [d] }
  | _ => none }
def fnExactLengthOfRow : OpenClaim := { program := "ytmoilahabbfjeaa", sum := "b908728a4b574199c892d0300e4bfa200218ad604af1c4bc6733ef480ddcd705", func := "loop.example/g01344/laws.FnExactLengthOf", spec := "fnExactLengthOf", apart := false }
def FnExactLengthOfSaid : Prop := fnExactLengthOfRow.holds Try.pinned (OpenSpec.ofChange fnExactLengthOfSpec)

/-- ITS FALSE NEIGHBOUR: 'it returns false'. Refute it at one input. -/
def fnExactLengthOfWrong : ChangeSpec := { name := "fnExactLengthOf", fn := fun _ => fun
  | [d] => { results := [.lit (.bool false)], args := [d] }
  | _ => none }
def FnExactLengthOfWrongFalsely : Prop := fnExactLengthOfRow.holds Try.pinned (OpenSpec.ofChange fnExactLengthOfWrong)

/-- 'laws.FnExactWrapOf': WHATEVER THE INPUT: true; the input reads as it did. -/
def fnExactWrapOfSpec : ChangeSpec := { name := "fnExactWrapOf", fn := fun _ => fun
  | [d] => { results := [.lit (.bool true)], args := [d] }
  | _ => none }
def fnExactWrapOfRow : OpenClaim := { program := "ytmoilahabbfjeaa", sum := "b908728a4b574199c892d0300e4bfa200218ad604af1c4bc6733ef480ddcd705", func := "loop.example/g01344/laws.FnExactWrapOf", spec := "fnExactWrapOf", apart := false }
def FnExactWrapOfSaid : Prop := fnExactWrapOfRow.holds Try.pinned (OpenSpec.ofChange fnExactWrapOfSpec)

/-- ITS FALSE NEIGHBOUR: 'it returns false'. Refute it at one input. -/
def fnExactWrapOfWrong : ChangeSpec := { name := "fnExactWrapOf", fn := fun _ => fun
  | [d] => { results := [.lit (.bool false)], args := [d] }
  | _ => none }
def FnExactWrapOfWrongFalsely : Prop := fnExactWrapOfRow.holds Try.pinned (OpenSpec.ofChange fnExactWrapOfWrong)

/-- 'laws.FnExactSpeedOut': WHATEVER THE INPUT: true; the input reads as it did. -/
def fnExactSpeedOutSpec : ChangeSpec := { name := "fnExactSpeedOut", fn := fun _ => fun
  | [d1, d2, d3] => { results := [.lit (.bool true)], args := [d1, d2, d3] }
  | _ => none }
def fnExactSpeedOutRow : OpenClaim := { program := "ytmoilahabbfjeaa", sum := "b908728a4b574199c892d0300e4bfa200218ad604af1c4bc6733ef480ddcd705", func := "loop.example/g01344/laws.FnExactSpeedOut", spec := "fnExactSpeedOut", apart := false }
def FnExactSpeedOutSaid : Prop := fnExactSpeedOutRow.holds Try.pinned (OpenSpec.ofChange fnExactSpeedOutSpec)

/-- ITS FALSE NEIGHBOUR: 'it returns false'. Refute it at one input. -/
def fnExactSpeedOutWrong : ChangeSpec := { name := "fnExactSpeedOut", fn := fun _ => fun
  | [d1, d2, d3] => { results := [.lit (.bool false)], args := [d1, d2, d3] }
  | _ => none }
def FnExactSpeedOutWrongFalsely : Prop := fnExactSpeedOutRow.holds Try.pinned (OpenSpec.ofChange fnExactSpeedOutWrong)

/-- 'laws.FnExactFillOf': WHATEVER THE INPUT: true; the input reads as it did. -/
def fnExactFillOfSpec : ChangeSpec := { name := "fnExactFillOf", fn := fun _ => fun
  | [d1, d2, d3] => { results := [.lit (.bool true)], args := [d1, d2, d3] }
  | _ => none }
def fnExactFillOfRow : OpenClaim := { program := "ytmoilahabbfjeaa", sum := "b908728a4b574199c892d0300e4bfa200218ad604af1c4bc6733ef480ddcd705", func := "loop.example/g01344/laws.FnExactFillOf", spec := "fnExactFillOf", apart := false }
def FnExactFillOfSaid : Prop := fnExactFillOfRow.holds Try.pinned (OpenSpec.ofChange fnExactFillOfSpec)

/-- ITS FALSE NEIGHBOUR: 'it returns false'. Refute it at one input. -/
def fnExactFillOfWrong : ChangeSpec := { name := "fnExactFillOf", fn := fun _ => fun
  | [d1, d2, d3] => { results := [.lit (.bool false)], args := [d1, d2, d3] }
  | _ => none }
def FnExactFillOfWrongFalsely : Prop := fnExactFillOfRow.holds Try.pinned (OpenSpec.ofChange fnExactFillOfWrong)

/-- 'laws.FnExactGripOf': WHATEVER THE INPUT: true; the input reads as it did. -/
def fnExactGripOfSpec : ChangeSpec := { name := "fnExactGripOf", fn := fun _ => fun
  | [d] => { results := [.lit (.bool true)], args := [d] }
  | _ => none }
def fnExactGripOfRow : OpenClaim := { program := "ytmoilahabbfjeaa", sum := "b908728a4b574199c892d0300e4bfa200218ad604af1c4bc6733ef480ddcd705", func := "loop.example/g01344/laws.FnExactGripOf", spec := "fnExactGripOf", apart := false }
def FnExactGripOfSaid : Prop := fnExactGripOfRow.holds Try.pinned (OpenSpec.ofChange fnExactGripOfSpec)

/-- ITS FALSE NEIGHBOUR: 'it returns false'. Refute it at one input. -/
def fnExactGripOfWrong : ChangeSpec := { name := "fnExactGripOf", fn := fun _ => fun
  | [d] => { results := [.lit (.bool false)], args := [d] }
  | _ => none }
def FnExactGripOfWrongFalsely : Prop := fnExactGripOfRow.holds Try.pinned (OpenSpec.ofChange fnExactGripOfWrong)

/-- 'laws.FnExactStretchedLength': WHATEVER THE INPUT: true; the input reads as it did. -/
def fnExactStretchedLengthSpec : ChangeSpec := { name := "fnExactStretchedLength", fn := fun _ => fun
  | [d1, d2, d3] => { results := [.lit (.bool true)], args := [d1, d2, d3] }
  | _ => none }
def fnExactStretchedLengthRow : OpenClaim := { program := "ytmoilahabbfjeaa", sum := "b908728a4b574199c892d0300e4bfa200218ad604af1c4bc6733ef480ddcd705", func := "loop.example/g01344/laws.FnExactStretchedLength", spec := "fnExactStretchedLength", apart := false }
def FnExactStretchedLengthSaid : Prop := fnExactStretchedLengthRow.holds Try.pinned (OpenSpec.ofChange fnExactStretchedLengthSpec)

/-- ITS FALSE NEIGHBOUR: 'it returns false'. Refute it at one input. -/
def fnExactStretchedLengthWrong : ChangeSpec := { name := "fnExactStretchedLength", fn := fun _ => fun
  | [d1, d2, d3] => { results := [.lit (.bool false)], args := [d1, d2, d3] }
  | _ => none }
def FnExactStretchedLengthWrongFalsely : Prop := fnExactStretchedLengthRow.holds Try.pinned (OpenSpec.ofChange fnExactStretchedLengthWrong)

/-- 'laws.FnExactPullOf': WHATEVER THE INPUT: true; the input reads as it did. -/
def fnExactPullOfSpec : ChangeSpec := { name := "fnExactPullOf", fn := fun _ => fun
  | [d1, d2] => { results := [.lit (.bool true)], args := [d1, d2] }
  | _ => none }
def fnExactPullOfRow : OpenClaim := { program := "ytmoilahabbfjeaa", sum := "b908728a4b574199c892d0300e4bfa200218ad604af1c4bc6733ef480ddcd705", func := "loop.example/g01344/laws.FnExactPullOf", spec := "fnExactPullOf", apart := false }
def FnExactPullOfSaid : Prop := fnExactPullOfRow.holds Try.pinned (OpenSpec.ofChange fnExactPullOfSpec)

/-- ITS FALSE NEIGHBOUR: 'it returns false'. Refute it at one input. -/
def fnExactPullOfWrong : ChangeSpec := { name := "fnExactPullOf", fn := fun _ => fun
  | [d1, d2] => { results := [.lit (.bool false)], args := [d1, d2] }
  | _ => none }
def FnExactPullOfWrongFalsely : Prop := fnExactPullOfRow.holds Try.pinned (OpenSpec.ofChange fnExactPullOfWrong)

/-- 'laws.FnExactSlipFor': WHATEVER THE INPUT: true; the input reads as it did. -/
def fnExactSlipForSpec : ChangeSpec := { name := "fnExactSlipFor", fn := fun _ => fun
  | [d1, d2, d3] => { results := [.lit (.bool true)], args := [d1, d2, d3] }
  | _ => none }
def fnExactSlipForRow : OpenClaim := { program := "ytmoilahabbfjeaa", sum := "b908728a4b574199c892d0300e4bfa200218ad604af1c4bc6733ef480ddcd705", func := "loop.example/g01344/laws.FnExactSlipFor", spec := "fnExactSlipFor", apart := false }
def FnExactSlipForSaid : Prop := fnExactSlipForRow.holds Try.pinned (OpenSpec.ofChange fnExactSlipForSpec)

/-- ITS FALSE NEIGHBOUR: 'it returns false'. Refute it at one input. -/
def fnExactSlipForWrong : ChangeSpec := { name := "fnExactSlipFor", fn := fun _ => fun
  | [d1, d2, d3] => { results := [.lit (.bool false)], args := [d1, d2, d3] }
  | _ => none }
def FnExactSlipForWrongFalsely : Prop := fnExactSlipForRow.holds Try.pinned (OpenSpec.ofChange fnExactSlipForWrong)

/- THE SECOND FORM. 'bulk': how many values and letters a reading holds, each counted each time it is reached (what is shared counts as often as it is met; a slice's spare places count too). A statement '..UptoSaid' is the law's where the arguments, and the package variables that the reading takes, are together of bulk at most 1048576: NARROWER than '..Said'. Prove '..Said' where nothing that the law and all that it calls make is longer than what came in: it says more and counts as full. Else prove '..UptoSaid'. A law counts once. -/
mutual
def uptoBulk {H : Type} : DataW H → Nat
  | .lit (.string bytes) => bytes.length + 1
  | .lit _ => 1
  | .nil => 1
  | .ptr d => uptoBulk d + 1
  | .slice elems spare => uptoBulkAll elems + uptoBulkAll spare + 1
  | .agg parts => uptoBulkAll parts + 1
  | .iface _ d => uptoBulk d + 1
  | .map entries => uptoBulkEntries entries + 1
  | .held _ => 1
def uptoBulkAll {H : Type} : List (DataW H) → Nat
  | [] => 0
  | d :: r => uptoBulk d + uptoBulkAll r
def uptoBulkEntries {H : Type} : List (Lit × DataW H) → Nat
  | [] => 0
  | x :: r => uptoBulkEntry x + uptoBulkEntries r
def uptoBulkEntry {H : Type} : Lit × DataW H → Nat
  | (.string bytes, d) => bytes.length + uptoBulk d + 1
  | (_, d) => uptoBulk d + 1
 end
def uptoSmall : (H : Type) → List (DataW H) → Bool := fun _ ds => decide (uptoBulkAll ds ≤ 1048576)
def OpenSpec.upto (s : _root_.Go.ChangeSpec) : _root_.Go.OpenSpec := { _root_.Go.OpenSpec.ofChange s with cond := some uptoSmall }

/-- 'laws.FnExactWaterPower', WHERE WHAT IT READS IS OF BULK AT MOST 1048576: true; the input reads as it did. -/
def fnExactWaterPowerUptoRow : OpenClaim := { program := "ytmoilahabbfjeaa", sum := "b908728a4b574199c892d0300e4bfa200218ad604af1c4bc6733ef480ddcd705", func := "loop.example/g01344/laws.FnExactWaterPower", spec := "fnExactWaterPower", apart := false, narrowed := true }
def FnExactWaterPowerUptoSaid : Prop := fnExactWaterPowerUptoRow.holds Try.pinned (OpenSpec.upto fnExactWaterPowerSpec)

/-- 'laws.FnExactRadiusOf', WHERE WHAT IT READS IS OF BULK AT MOST 1048576: true; the input reads as it did. -/
def fnExactRadiusOfUptoRow : OpenClaim := { program := "ytmoilahabbfjeaa", sum := "b908728a4b574199c892d0300e4bfa200218ad604af1c4bc6733ef480ddcd705", func := "loop.example/g01344/laws.FnExactRadiusOf", spec := "fnExactRadiusOf", apart := false, narrowed := true }
def FnExactRadiusOfUptoSaid : Prop := fnExactRadiusOfUptoRow.holds Try.pinned (OpenSpec.upto fnExactRadiusOfSpec)

/-- 'laws.FnExactValidGovernor', WHERE WHAT IT READS IS OF BULK AT MOST 1048576: true; the input reads as it did. -/
def fnExactValidGovernorUptoRow : OpenClaim := { program := "ytmoilahabbfjeaa", sum := "b908728a4b574199c892d0300e4bfa200218ad604af1c4bc6733ef480ddcd705", func := "loop.example/g01344/laws.FnExactValidGovernor", spec := "fnExactValidGovernor", apart := false, narrowed := true }
def FnExactValidGovernorUptoSaid : Prop := fnExactValidGovernorUptoRow.holds Try.pinned (OpenSpec.upto fnExactValidGovernorSpec)

/-- 'laws.FnExactTurnBelt', WHERE WHAT IT READS IS OF BULK AT MOST 1048576: true; the input reads as it did. -/
def fnExactTurnBeltUptoRow : OpenClaim := { program := "ytmoilahabbfjeaa", sum := "b908728a4b574199c892d0300e4bfa200218ad604af1c4bc6733ef480ddcd705", func := "loop.example/g01344/laws.FnExactTurnBelt", spec := "fnExactTurnBelt", apart := false, narrowed := true }
def FnExactTurnBeltUptoSaid : Prop := fnExactTurnBeltUptoRow.holds Try.pinned (OpenSpec.upto fnExactTurnBeltSpec)

/-- 'laws.FnExactLengthOf', WHERE WHAT IT READS IS OF BULK AT MOST 1048576: true; the input reads as it did. -/
def fnExactLengthOfUptoRow : OpenClaim := { program := "ytmoilahabbfjeaa", sum := "b908728a4b574199c892d0300e4bfa200218ad604af1c4bc6733ef480ddcd705", func := "loop.example/g01344/laws.FnExactLengthOf", spec := "fnExactLengthOf", apart := false, narrowed := true }
def FnExactLengthOfUptoSaid : Prop := fnExactLengthOfUptoRow.holds Try.pinned (OpenSpec.upto fnExactLengthOfSpec)

/-- 'laws.FnExactWrapOf', WHERE WHAT IT READS IS OF BULK AT MOST 1048576: true; the input reads as it did. -/
def fnExactWrapOfUptoRow : OpenClaim := { program := "ytmoilahabbfjeaa", sum := "b908728a4b574199c892d0300e4bfa200218ad604af1c4bc6733ef480ddcd705", func := "loop.example/g01344/laws.FnExactWrapOf", spec := "fnExactWrapOf", apart := false, narrowed := true }
def FnExactWrapOfUptoSaid : Prop := fnExactWrapOfUptoRow.holds Try.pinned (OpenSpec.upto fnExactWrapOfSpec)

/-- 'laws.FnExactSpeedOut', WHERE WHAT IT READS IS OF BULK AT MOST 1048576: true; the input reads as it did. -/
def fnExactSpeedOutUptoRow : OpenClaim := { program := "ytmoilahabbfjeaa", sum := "b908728a4b574199c892d0300e4bfa200218ad604af1c4bc6733ef480ddcd705", func := "loop.example/g01344/laws.FnExactSpeedOut", spec := "fnExactSpeedOut", apart := false, narrowed := true }
def FnExactSpeedOutUptoSaid : Prop := fnExactSpeedOutUptoRow.holds Try.pinned (OpenSpec.upto fnExactSpeedOutSpec)

/-- 'laws.FnExactFillOf', WHERE WHAT IT READS IS OF BULK AT MOST 1048576: true; the input reads as it did. -/
def fnExactFillOfUptoRow : OpenClaim := { program := "ytmoilahabbfjeaa", sum := "b908728a4b574199c892d0300e4bfa200218ad604af1c4bc6733ef480ddcd705", func := "loop.example/g01344/laws.FnExactFillOf", spec := "fnExactFillOf", apart := false, narrowed := true }
def FnExactFillOfUptoSaid : Prop := fnExactFillOfUptoRow.holds Try.pinned (OpenSpec.upto fnExactFillOfSpec)

/-- 'laws.FnExactGripOf', WHERE WHAT IT READS IS OF BULK AT MOST 1048576: true; the input reads as it did. -/
def fnExactGripOfUptoRow : OpenClaim := { program := "ytmoilahabbfjeaa", sum := "b908728a4b574199c892d0300e4bfa200218ad604af1c4bc6733ef480ddcd705", func := "loop.example/g01344/laws.FnExactGripOf", spec := "fnExactGripOf", apart := false, narrowed := true }
def FnExactGripOfUptoSaid : Prop := fnExactGripOfUptoRow.holds Try.pinned (OpenSpec.upto fnExactGripOfSpec)

/-- 'laws.FnExactStretchedLength', WHERE WHAT IT READS IS OF BULK AT MOST 1048576: true; the input reads as it did. -/
def fnExactStretchedLengthUptoRow : OpenClaim := { program := "ytmoilahabbfjeaa", sum := "b908728a4b574199c892d0300e4bfa200218ad604af1c4bc6733ef480ddcd705", func := "loop.example/g01344/laws.FnExactStretchedLength", spec := "fnExactStretchedLength", apart := false, narrowed := true }
def FnExactStretchedLengthUptoSaid : Prop := fnExactStretchedLengthUptoRow.holds Try.pinned (OpenSpec.upto fnExactStretchedLengthSpec)

/-- 'laws.FnExactPullOf', WHERE WHAT IT READS IS OF BULK AT MOST 1048576: true; the input reads as it did. -/
def fnExactPullOfUptoRow : OpenClaim := { program := "ytmoilahabbfjeaa", sum := "b908728a4b574199c892d0300e4bfa200218ad604af1c4bc6733ef480ddcd705", func := "loop.example/g01344/laws.FnExactPullOf", spec := "fnExactPullOf", apart := false, narrowed := true }
def FnExactPullOfUptoSaid : Prop := fnExactPullOfUptoRow.holds Try.pinned (OpenSpec.upto fnExactPullOfSpec)

/-- 'laws.FnExactSlipFor', WHERE WHAT IT READS IS OF BULK AT MOST 1048576: true; the input reads as it did. -/
def fnExactSlipForUptoRow : OpenClaim := { program := "ytmoilahabbfjeaa", sum := "b908728a4b574199c892d0300e4bfa200218ad604af1c4bc6733ef480ddcd705", func := "loop.example/g01344/laws.FnExactSlipFor", spec := "fnExactSlipFor", apart := false, narrowed := true }
def FnExactSlipForUptoSaid : Prop := fnExactSlipForUptoRow.holds Try.pinned (OpenSpec.upto fnExactSlipForSpec)

end Rows
end Go.Proofs.Ytmoilahabbfjeaa
