/-
  No cell of these rows narrows 'for every input' (looked for: loops, veiled, ifaces, maps, wideKeys, modest, calm, conditions, laid).
  DERIVED. THE GIVEN ROWS OF THIS SEAT. 8 by the template 'for every input the law returns true; each argument reads behind the call as it read before'; 0 by the template 'total and deterministic' (their statements: YtljigmplmlhdnaaTotals.lean).
  GIVEN WITH THE SEED: the statements are not yours to turn. If you find one false, say at which input.
  Laid BY PROGRAM, IN A SANDBOX (cutbox-rows.mjs): the forced cells as the released guide's own fill.sh prints them over the translation 6f9d4cb4a200f0b4… (all of the seat's roots in one cut). By AI agents, Wed Nov 11 2026. No macro, syntax, notation, axiom, sorry.
-/
import Derived.Test.YtljigmplmlhdnaaChecked
import GoSem.Claim
import GoSem.ClaimJoined
import GoSem.ClaimMapViews
import Derived.JoinedTies
import Derived.KernelRfl
namespace Go.Proofs.Ytljigmplmlhdnaa
/- THE CELL 'sum', in the pinned program and in every row, IS THE sha256 OF THE DUMP (.gsa) THAT YtljigmplmlhdnaaProg.lean LOADS. Nothing in Lean hashes anything: it is a label: what it is worth is what the hold of that sum in a sandbox is worth. -/
noncomputable def Try.pinned : Pinned := { name := "ytljigmplmlhdnaa", sum := "6f9d4cb4a200f0b4fac77651db1fc4bd1ab53338e2fac11fdd3c18ff0a3202e4", checked := Try.checked }
namespace Rows
def none {H : Type} : Left H := { results := [], args := [] }

/-- 'laws.FnExactReadNumber': WHATEVER THE INPUT: true; the input reads as it did. -/
def fnExactReadNumberSpec : ChangeSpec := { name := "fnExactReadNumber", fn := fun _ => fun
  | [d] => { results := [.lit (.bool true)], args := [d] }
  | _ => none }
def fnExactReadNumberRow : OpenClaim := { program := "ytljigmplmlhdnaa", sum := "6f9d4cb4a200f0b4fac77651db1fc4bd1ab53338e2fac11fdd3c18ff0a3202e4", func := "loop.example/g01344/laws.FnExactReadNumber", spec := "fnExactReadNumber", inPlace := ["math.Float32frombits", "math.Float32bits", "internal/bytealg.IndexByteString"], apart := false }
def FnExactReadNumberSaid : Prop := fnExactReadNumberRow.holds Try.pinned (OpenSpec.ofChange fnExactReadNumberSpec)

/-- ITS FALSE NEIGHBOUR: 'it returns false'. Refute it at one input. -/
def fnExactReadNumberWrong : ChangeSpec := { name := "fnExactReadNumber", fn := fun _ => fun
  | [d] => { results := [.lit (.bool false)], args := [d] }
  | _ => none }
def FnExactReadNumberWrongFalsely : Prop := fnExactReadNumberRow.holds Try.pinned (OpenSpec.ofChange fnExactReadNumberWrong)

/-- 'laws.FnExactBeltText': WHATEVER THE INPUT: true; the input reads as it did. -/
def fnExactBeltTextSpec : ChangeSpec := { name := "fnExactBeltText", fn := fun _ => fun
  | [d] => { results := [.lit (.bool true)], args := [d] }
  | _ => none }
def fnExactBeltTextRow : OpenClaim := { program := "ytljigmplmlhdnaa", sum := "6f9d4cb4a200f0b4fac77651db1fc4bd1ab53338e2fac11fdd3c18ff0a3202e4", func := "loop.example/g01344/laws.FnExactBeltText", spec := "fnExactBeltText", inPlace := ["math.Float32bits", "internal/abi.NoEscape", "internal/bytealg.MakeNoZero"], apart := false }
def FnExactBeltTextSaid : Prop := fnExactBeltTextRow.holds Try.pinned (OpenSpec.ofChange fnExactBeltTextSpec)

/-- ITS FALSE NEIGHBOUR: 'it returns false'. Refute it at one input. -/
def fnExactBeltTextWrong : ChangeSpec := { name := "fnExactBeltText", fn := fun _ => fun
  | [d] => { results := [.lit (.bool false)], args := [d] }
  | _ => none }
def FnExactBeltTextWrongFalsely : Prop := fnExactBeltTextRow.holds Try.pinned (OpenSpec.ofChange fnExactBeltTextWrong)

/-- 'laws.FnExactLongestBelt': WHATEVER THE INPUT: true; the input reads as it did. -/
def fnExactLongestBeltSpec : ChangeSpec := { name := "fnExactLongestBelt", fn := fun _ => fun
  | [d] => { results := [.lit (.bool true)], args := [d] }
  | _ => none }
def fnExactLongestBeltRow : OpenClaim := { program := "ytljigmplmlhdnaa", sum := "6f9d4cb4a200f0b4fac77651db1fc4bd1ab53338e2fac11fdd3c18ff0a3202e4", func := "loop.example/g01344/laws.FnExactLongestBelt", spec := "fnExactLongestBelt", unfollowed := true, recurses := true, apart := false }
def FnExactLongestBeltSaid : Prop := fnExactLongestBeltRow.holds Try.pinned (OpenSpec.ofChange fnExactLongestBeltSpec)

/-- ITS FALSE NEIGHBOUR: 'it returns false'. Refute it at one input. -/
def fnExactLongestBeltWrong : ChangeSpec := { name := "fnExactLongestBelt", fn := fun _ => fun
  | [d] => { results := [.lit (.bool false)], args := [d] }
  | _ => none }
def FnExactLongestBeltWrongFalsely : Prop := fnExactLongestBeltRow.holds Try.pinned (OpenSpec.ofChange fnExactLongestBeltWrong)

/-- 'laws.FnExactSpeedsThrough': WHATEVER THE INPUT: true; the input reads as it did. -/
def fnExactSpeedsThroughSpec : ChangeSpec := { name := "fnExactSpeedsThrough", fn := fun _ => fun
  | [d1, d2] => { results := [.lit (.bool true)], args := [d1, d2] }
  | _ => none }
def fnExactSpeedsThroughRow : OpenClaim := { program := "ytljigmplmlhdnaa", sum := "6f9d4cb4a200f0b4fac77651db1fc4bd1ab53338e2fac11fdd3c18ff0a3202e4", func := "loop.example/g01344/laws.FnExactSpeedsThrough", spec := "fnExactSpeedsThrough", unfollowed := true, recurses := true, apart := false }
def FnExactSpeedsThroughSaid : Prop := fnExactSpeedsThroughRow.holds Try.pinned (OpenSpec.ofChange fnExactSpeedsThroughSpec)

/-- ITS FALSE NEIGHBOUR: 'it returns false'. Refute it at one input. -/
def fnExactSpeedsThroughWrong : ChangeSpec := { name := "fnExactSpeedsThrough", fn := fun _ => fun
  | [d1, d2] => { results := [.lit (.bool false)], args := [d1, d2] }
  | _ => none }
def FnExactSpeedsThroughWrongFalsely : Prop := fnExactSpeedsThroughRow.holds Try.pinned (OpenSpec.ofChange fnExactSpeedsThroughWrong)

/-- 'laws.FnExactApartFor': WHATEVER THE INPUT: true; the input reads as it did. -/
def fnExactApartForSpec : ChangeSpec := { name := "fnExactApartFor", fn := fun _ => fun
  | [d1, d2] => { results := [.lit (.bool true)], args := [d1, d2] }
  | _ => none }
def fnExactApartForRow : OpenClaim := { program := "ytljigmplmlhdnaa", sum := "6f9d4cb4a200f0b4fac77651db1fc4bd1ab53338e2fac11fdd3c18ff0a3202e4", func := "loop.example/g01344/laws.FnExactApartFor", spec := "fnExactApartFor", unfollowed := true, recurses := true, apart := false }
def FnExactApartForSaid : Prop := fnExactApartForRow.holds Try.pinned (OpenSpec.ofChange fnExactApartForSpec)

/-- ITS FALSE NEIGHBOUR: 'it returns false'. Refute it at one input. -/
def fnExactApartForWrong : ChangeSpec := { name := "fnExactApartFor", fn := fun _ => fun
  | [d1, d2] => { results := [.lit (.bool false)], args := [d1, d2] }
  | _ => none }
def FnExactApartForWrongFalsely : Prop := fnExactApartForRow.holds Try.pinned (OpenSpec.ofChange fnExactApartForWrong)

/-- 'laws.FnExactRadiusFor': WHATEVER THE INPUT: true; the input reads as it did. -/
def fnExactRadiusForSpec : ChangeSpec := { name := "fnExactRadiusFor", fn := fun _ => fun
  | [d1, d2, d3] => { results := [.lit (.bool true)], args := [d1, d2, d3] }
  | _ => none }
def fnExactRadiusForRow : OpenClaim := { program := "ytljigmplmlhdnaa", sum := "6f9d4cb4a200f0b4fac77651db1fc4bd1ab53338e2fac11fdd3c18ff0a3202e4", func := "loop.example/g01344/laws.FnExactRadiusFor", spec := "fnExactRadiusFor", unfollowed := true, recurses := true, apart := false }
def FnExactRadiusForSaid : Prop := fnExactRadiusForRow.holds Try.pinned (OpenSpec.ofChange fnExactRadiusForSpec)

/-- ITS FALSE NEIGHBOUR: 'it returns false'. Refute it at one input. -/
def fnExactRadiusForWrong : ChangeSpec := { name := "fnExactRadiusFor", fn := fun _ => fun
  | [d1, d2, d3] => { results := [.lit (.bool false)], args := [d1, d2, d3] }
  | _ => none }
def FnExactRadiusForWrongFalsely : Prop := fnExactRadiusForRow.holds Try.pinned (OpenSpec.ofChange fnExactRadiusForWrong)

/-- 'laws.FnExactConeFor': WHATEVER THE INPUT: true; the input reads as it did. -/
def fnExactConeForSpec : ChangeSpec := { name := "fnExactConeFor", fn := fun _ => fun
  | [d1, d2] => { results := [.lit (.bool true)], args := [d1, d2] }
  | _ => none }
def fnExactConeForRow : OpenClaim := { program := "ytljigmplmlhdnaa", sum := "6f9d4cb4a200f0b4fac77651db1fc4bd1ab53338e2fac11fdd3c18ff0a3202e4", func := "loop.example/g01344/laws.FnExactConeFor", spec := "fnExactConeFor", unfollowed := true, recurses := true, apart := false }
def FnExactConeForSaid : Prop := fnExactConeForRow.holds Try.pinned (OpenSpec.ofChange fnExactConeForSpec)

/-- ITS FALSE NEIGHBOUR: 'it returns false'. Refute it at one input. -/
def fnExactConeForWrong : ChangeSpec := { name := "fnExactConeFor", fn := fun _ => fun
  | [d1, d2] => { results := [.lit (.bool false)], args := [d1, d2] }
  | _ => none }
def FnExactConeForWrongFalsely : Prop := fnExactConeForRow.holds Try.pinned (OpenSpec.ofChange fnExactConeForWrong)

/-- 'laws.FnBeltsFound': WHATEVER THE INPUT: true; the input reads as it did. -/
def fnBeltsFoundSpec : ChangeSpec := { name := "fnBeltsFound", fn := fun _ => fun
  | [d1, d2] => { results := [.lit (.bool true)], args := [d1, d2] }
  | _ => none }
def fnBeltsFoundRow : OpenClaim := { program := "ytljigmplmlhdnaa", sum := "6f9d4cb4a200f0b4fac77651db1fc4bd1ab53338e2fac11fdd3c18ff0a3202e4", func := "loop.example/g01344/laws.FnBeltsFound", spec := "fnBeltsFound", inPlace := ["math.Float32bits"], unfollowed := true, recurses := true, apart := false }
def FnBeltsFoundSaid : Prop := fnBeltsFoundRow.holds Try.pinned (OpenSpec.ofChange fnBeltsFoundSpec)

/-- ITS FALSE NEIGHBOUR: 'it returns false'. Refute it at one input. -/
def fnBeltsFoundWrong : ChangeSpec := { name := "fnBeltsFound", fn := fun _ => fun
  | [d1, d2] => { results := [.lit (.bool false)], args := [d1, d2] }
  | _ => none }
def FnBeltsFoundWrongFalsely : Prop := fnBeltsFoundRow.holds Try.pinned (OpenSpec.ofChange fnBeltsFoundWrong)

/- THE SECOND FORM. 'bulk': how many values and letters a reading holds, each counted each time it is reached (what is shared counts as often as it is met; a slice's spare places count too). A statement '..UptoSaid' is the law's where the arguments, and the package variables that the reading takes, are together of bulk at most 1048576: NARROWER than '..Said'. Prove '..Said' where nothing that the law and all that it calls make is longer than what came in: it says more and counts as full. Else prove '..UptoSaid'. A law counts once. -/
mutual
def uptoBulk {H : Type} : DataW H → Nat
  | .lit (.string bytes) => bytes.length + 1
  | .lit _ => 1
  | .nil => 1
  | .ptr d => uptoBulk d + 1
  | .slice elems spare => uptoBulkAll elems + uptoBulkAll spare + 1
  | .agg parts => uptoBulkAll parts + 1
  | .iface _ d => uptoBulk d + 1
  | .map entries => uptoBulkEntries entries + 1
  | .held _ => 1
def uptoBulkAll {H : Type} : List (DataW H) → Nat
  | [] => 0
  | d :: r => uptoBulk d + uptoBulkAll r
def uptoBulkEntries {H : Type} : List (Lit × DataW H) → Nat
  | [] => 0
  | x :: r => uptoBulkEntry x + uptoBulkEntries r
def uptoBulkEntry {H : Type} : Lit × DataW H → Nat
  | (.string bytes, d) => bytes.length + uptoBulk d + 1
  | (_, d) => uptoBulk d + 1
 end
def uptoSmall : (H : Type) → List (DataW H) → Bool := fun _ ds => decide (uptoBulkAll ds ≤ 1048576)
def OpenSpec.upto (s : _root_.Go.ChangeSpec) : _root_.Go.OpenSpec := { _root_.Go.OpenSpec.ofChange s with cond := some uptoSmall }

/-- 'laws.FnExactReadNumber', WHERE WHAT IT READS IS OF BULK AT MOST 1048576: true; the input reads as it did. -/
def fnExactReadNumberUptoRow : OpenClaim := { program := "ytljigmplmlhdnaa", sum := "6f9d4cb4a200f0b4fac77651db1fc4bd1ab53338e2fac11fdd3c18ff0a3202e4", func := "loop.example/g01344/laws.FnExactReadNumber", spec := "fnExactReadNumber", inPlace := ["math.Float32frombits", "math.Float32bits", "internal/bytealg.IndexByteString"], apart := false, narrowed := true }
def FnExactReadNumberUptoSaid : Prop := fnExactReadNumberUptoRow.holds Try.pinned (OpenSpec.upto fnExactReadNumberSpec)

/-- 'laws.FnExactBeltText', WHERE WHAT IT READS IS OF BULK AT MOST 1048576: true; the input reads as it did. -/
def fnExactBeltTextUptoRow : OpenClaim := { program := "ytljigmplmlhdnaa", sum := "6f9d4cb4a200f0b4fac77651db1fc4bd1ab53338e2fac11fdd3c18ff0a3202e4", func := "loop.example/g01344/laws.FnExactBeltText", spec := "fnExactBeltText", inPlace := ["math.Float32bits", "internal/abi.NoEscape", "internal/bytealg.MakeNoZero"], apart := false, narrowed := true }
def FnExactBeltTextUptoSaid : Prop := fnExactBeltTextUptoRow.holds Try.pinned (OpenSpec.upto fnExactBeltTextSpec)

/-- 'laws.FnExactLongestBelt', WHERE WHAT IT READS IS OF BULK AT MOST 1048576: true; the input reads as it did. -/
def fnExactLongestBeltUptoRow : OpenClaim := { program := "ytljigmplmlhdnaa", sum := "6f9d4cb4a200f0b4fac77651db1fc4bd1ab53338e2fac11fdd3c18ff0a3202e4", func := "loop.example/g01344/laws.FnExactLongestBelt", spec := "fnExactLongestBelt", unfollowed := true, recurses := true, apart := false, narrowed := true }
def FnExactLongestBeltUptoSaid : Prop := fnExactLongestBeltUptoRow.holds Try.pinned (OpenSpec.upto fnExactLongestBeltSpec)

/-- 'laws.FnExactSpeedsThrough', WHERE WHAT IT READS IS OF BULK AT MOST 1048576: true; the input reads as it did. -/
def fnExactSpeedsThroughUptoRow : OpenClaim := { program := "ytljigmplmlhdnaa", sum := "6f9d4cb4a200f0b4fac77651db1fc4bd1ab53338e2fac11fdd3c18ff0a3202e4", func := "loop.example/g01344/laws.FnExactSpeedsThrough", spec := "fnExactSpeedsThrough", unfollowed := true, recurses := true, apart := false, narrowed := true }
def FnExactSpeedsThroughUptoSaid : Prop := fnExactSpeedsThroughUptoRow.holds Try.pinned (OpenSpec.upto fnExactSpeedsThroughSpec)

/-- 'laws.FnExactApartFor', WHERE WHAT IT READS IS OF BULK AT MOST 1048576: true; the input reads as it did. -/
def fnExactApartForUptoRow : OpenClaim := { program := "ytljigmplmlhdnaa", sum := "6f9d4cb4a200f0b4fac77651db1fc4bd1ab53338e2fac11fdd3c18ff0a3202e4", func := "loop.example/g01344/laws.FnExactApartFor", spec := "fnExactApartFor", unfollowed := true, recurses := true, apart := false, narrowed := true }
def FnExactApartForUptoSaid : Prop := fnExactApartForUptoRow.holds Try.pinned (OpenSpec.upto fnExactApartForSpec)

/-- 'laws.FnExactRadiusFor', WHERE WHAT IT READS IS OF BULK AT MOST 1048576: true; the input reads as it did. -/
def fnExactRadiusForUptoRow : OpenClaim := { program := "ytljigmplmlhdnaa", sum := "6f9d4cb4a200f0b4fac77651db1fc4bd1ab53338e2fac11fdd3c18ff0a3202e4", func := "loop.example/g01344/laws.FnExactRadiusFor", spec := "fnExactRadiusFor", unfollowed := true, recurses := true, apart := false, narrowed := true }
def FnExactRadiusForUptoSaid : Prop := fnExactRadiusForUptoRow.holds Try.pinned (OpenSpec.upto fnExactRadiusForSpec)

/-- 'laws.FnExactConeFor', WHERE WHAT IT READS IS OF BULK AT MOST 1048576: true; the input reads as it did. -/
def fnExactConeForUptoRow : OpenClaim := { program := "ytljigmplmlhdnaa", sum := "6f9d4cb4a200f0b4fac77651db1fc4bd1ab53338e2fac11fdd3c18ff0a3202e4", func := "loop.example/g01344/laws.FnExactConeFor", spec := "fnExactConeFor", unfollowed := true, recurses := true, apart := false, narrowed := true }
def FnExactConeForUptoSaid : Prop := fnExactConeForUptoRow.holds Try.pinned (OpenSpec.upto fnExactConeForSpec)

/-- 'laws.FnBeltsFound', WHERE WHAT IT READS IS OF BULK AT MOST 1048576: true; the input reads as it did. -/
def fnBeltsFoundUptoRow : OpenClaim := { program := "ytljigmplmlhdnaa", sum := "6f9d4cb4a200f0b4fac77651db1fc4bd1ab53338e2fac11fdd3c18ff0a3202e4", func := "loop.example/g01344/laws.FnBeltsFound", spec := "fnBeltsFound", inPlace := ["math.Float32bits"], unfollowed := true, recurses := true, apart := false, narrowed := true }
def FnBeltsFoundUptoSaid : Prop := fnBeltsFoundUptoRow.holds Try.pinned (OpenSpec.upto fnBeltsFoundSpec)

end Rows
end Go.Proofs.Ytljigmplmlhdnaa
