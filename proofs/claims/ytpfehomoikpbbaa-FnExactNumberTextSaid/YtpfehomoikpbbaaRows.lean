/-
  No cell of these rows narrows 'for every input' (looked for: loops, veiled, ifaces, maps, wideKeys, modest, calm, conditions, laid).
  DERIVED. THE GIVEN ROWS OF THIS SEAT. 12 by the template 'for every input the law returns true; each argument reads behind the call as it read before'; 0 by the template 'total and deterministic' (their statements: YtpfehomoikpbbaaTotals.lean).
  GIVEN WITH THE SEED: the statements are not yours to turn. If you find one false, say at which input.
  Laid BY PROGRAM, IN A SANDBOX (cutbox-rows.mjs): the forced cells as the released guide's own fill.sh prints them over the translation 54ca213f003abc12… (all of the seat's roots in one cut). By AI agents, Wed Nov 11 2026. No macro, syntax, notation, axiom, sorry.
-/
import Derived.Test.YtpfehomoikpbbaaChecked
import GoSem.Claim
import GoSem.ClaimJoined
import GoSem.ClaimMapViews
import Derived.JoinedTies
import Derived.KernelRfl
namespace Go.Proofs.Ytpfehomoikpbbaa
/- THE CELL 'sum', in the pinned program and in every row, IS THE sha256 OF THE DUMP (.gsa) THAT YtpfehomoikpbbaaProg.lean LOADS. Nothing in Lean hashes anything: it is a label: what it is worth is what the hold of that sum in a sandbox is worth. -/
noncomputable def Try.pinned : Pinned := { name := "ytpfehomoikpbbaa", sum := "54ca213f003abc129a3521f61cfd9260f27bf72725ac91e8ba3fdd0fb55c8c52", checked := Try.checked }
namespace Rows
def none {H : Type} : Left H := { results := [], args := [] }

/-- 'laws.FnExactConstants': WHATEVER THE INPUT: true; the input reads as it did. -/
def fnExactConstantsSpec : ChangeSpec := { name := "fnExactConstants", fn := fun _ => fun
  | [] => { results := [.lit (.bool true)], args := [] }
  | _ => none }
def fnExactConstantsRow : OpenClaim := { program := "ytpfehomoikpbbaa", sum := "54ca213f003abc129a3521f61cfd9260f27bf72725ac91e8ba3fdd0fb55c8c52", func := "loop.example/g01344/laws.FnExactConstants", spec := "fnExactConstants", apart := false }
def FnExactConstantsSaid : Prop := fnExactConstantsRow.holds Try.pinned (OpenSpec.ofChange fnExactConstantsSpec)

/-- ITS FALSE NEIGHBOUR: 'it returns false'. Refute it at one input. -/
def fnExactConstantsWrong : ChangeSpec := { name := "fnExactConstants", fn := fun _ => fun
  | [] => { results := [.lit (.bool false)], args := [] }
  | _ => none }
def FnExactConstantsWrongFalsely : Prop := fnExactConstantsRow.holds Try.pinned (OpenSpec.ofChange fnExactConstantsWrong)

/-- 'laws.FnExactIsLength': WHATEVER THE INPUT: true; the input reads as it did. -/
def fnExactIsLengthSpec : ChangeSpec := { name := "fnExactIsLength", fn := fun _ => fun
  | [d] => { results := [.lit (.bool true)], args := [d] }
  | _ => none }
def fnExactIsLengthRow : OpenClaim := { program := "ytpfehomoikpbbaa", sum := "54ca213f003abc129a3521f61cfd9260f27bf72725ac91e8ba3fdd0fb55c8c52", func := "loop.example/g01344/laws.FnExactIsLength", spec := "fnExactIsLength", apart := false }
def FnExactIsLengthSaid : Prop := fnExactIsLengthRow.holds Try.pinned (OpenSpec.ofChange fnExactIsLengthSpec)

/-- ITS FALSE NEIGHBOUR: 'it returns false'. Refute it at one input. -/
def fnExactIsLengthWrong : ChangeSpec := { name := "fnExactIsLength", fn := fun _ => fun
  | [d] => { results := [.lit (.bool false)], args := [d] }
  | _ => none }
def FnExactIsLengthWrongFalsely : Prop := fnExactIsLengthRow.holds Try.pinned (OpenSpec.ofChange fnExactIsLengthWrong)

/-- 'laws.FnExactIsPart': WHATEVER THE INPUT: true; the input reads as it did. -/
def fnExactIsPartSpec : ChangeSpec := { name := "fnExactIsPart", fn := fun _ => fun
  | [d] => { results := [.lit (.bool true)], args := [d] }
  | _ => none }
def fnExactIsPartRow : OpenClaim := { program := "ytpfehomoikpbbaa", sum := "54ca213f003abc129a3521f61cfd9260f27bf72725ac91e8ba3fdd0fb55c8c52", func := "loop.example/g01344/laws.FnExactIsPart", spec := "fnExactIsPart", apart := false }
def FnExactIsPartSaid : Prop := fnExactIsPartRow.holds Try.pinned (OpenSpec.ofChange fnExactIsPartSpec)

/-- ITS FALSE NEIGHBOUR: 'it returns false'. Refute it at one input. -/
def fnExactIsPartWrong : ChangeSpec := { name := "fnExactIsPart", fn := fun _ => fun
  | [d] => { results := [.lit (.bool false)], args := [d] }
  | _ => none }
def FnExactIsPartWrongFalsely : Prop := fnExactIsPartRow.holds Try.pinned (OpenSpec.ofChange fnExactIsPartWrong)

/-- 'laws.FnExactIsPlain': WHATEVER THE INPUT: true; the input reads as it did. -/
def fnExactIsPlainSpec : ChangeSpec := { name := "fnExactIsPlain", fn := fun _ => fun
  | [d] => { results := [.lit (.bool true)], args := [d] }
  | _ => none }
def fnExactIsPlainRow : OpenClaim := { program := "ytpfehomoikpbbaa", sum := "54ca213f003abc129a3521f61cfd9260f27bf72725ac91e8ba3fdd0fb55c8c52", func := "loop.example/g01344/laws.FnExactIsPlain", spec := "fnExactIsPlain", apart := false }
def FnExactIsPlainSaid : Prop := fnExactIsPlainRow.holds Try.pinned (OpenSpec.ofChange fnExactIsPlainSpec)

/-- ITS FALSE NEIGHBOUR: 'it returns false'. Refute it at one input. -/
def fnExactIsPlainWrong : ChangeSpec := { name := "fnExactIsPlain", fn := fun _ => fun
  | [d] => { results := [.lit (.bool false)], args := [d] }
  | _ => none }
def FnExactIsPlainWrongFalsely : Prop := fnExactIsPlainRow.holds Try.pinned (OpenSpec.ofChange fnExactIsPlainWrong)

/-- 'laws.FnExactSameNumber': WHATEVER THE INPUT: true; the input reads as it did. -/
def fnExactSameNumberSpec : ChangeSpec := { name := "fnExactSameNumber", fn := fun _ => fun
  | [d1, d2] => { results := [.lit (.bool true)], args := [d1, d2] }
  | _ => none }
def fnExactSameNumberRow : OpenClaim := { program := "ytpfehomoikpbbaa", sum := "54ca213f003abc129a3521f61cfd9260f27bf72725ac91e8ba3fdd0fb55c8c52", func := "loop.example/g01344/laws.FnExactSameNumber", spec := "fnExactSameNumber", inPlace := ["math.Float32bits"], apart := false }
def FnExactSameNumberSaid : Prop := fnExactSameNumberRow.holds Try.pinned (OpenSpec.ofChange fnExactSameNumberSpec)

/-- ITS FALSE NEIGHBOUR: 'it returns false'. Refute it at one input. -/
def fnExactSameNumberWrong : ChangeSpec := { name := "fnExactSameNumber", fn := fun _ => fun
  | [d1, d2] => { results := [.lit (.bool false)], args := [d1, d2] }
  | _ => none }
def FnExactSameNumberWrongFalsely : Prop := fnExactSameNumberRow.holds Try.pinned (OpenSpec.ofChange fnExactSameNumberWrong)

/-- 'laws.FnExactCodeName': WHATEVER THE INPUT: true; the input reads as it did. -/
def fnExactCodeNameSpec : ChangeSpec := { name := "fnExactCodeName", fn := fun _ => fun
  | [d] => { results := [.lit (.bool true)], args := [d] }
  | _ => none }
def fnExactCodeNameRow : OpenClaim := { program := "ytpfehomoikpbbaa", sum := "54ca213f003abc129a3521f61cfd9260f27bf72725ac91e8ba3fdd0fb55c8c52", func := "loop.example/g01344/laws.FnExactCodeName", spec := "fnExactCodeName", apart := false }
def FnExactCodeNameSaid : Prop := fnExactCodeNameRow.holds Try.pinned (OpenSpec.ofChange fnExactCodeNameSpec)

/-- ITS FALSE NEIGHBOUR: 'it returns false'. Refute it at one input. -/
def fnExactCodeNameWrong : ChangeSpec := { name := "fnExactCodeName", fn := fun _ => fun
  | [d] => { results := [.lit (.bool false)], args := [d] }
  | _ => none }
def FnExactCodeNameWrongFalsely : Prop := fnExactCodeNameRow.holds Try.pinned (OpenSpec.ofChange fnExactCodeNameWrong)

/-- 'laws.FnExactValidState': WHATEVER THE INPUT: true; the input reads as it did. -/
def fnExactValidStateSpec : ChangeSpec := { name := "fnExactValidState", fn := fun _ => fun
  | [d] => { results := [.lit (.bool true)], args := [d] }
  | _ => none }
def fnExactValidStateRow : OpenClaim := { program := "ytpfehomoikpbbaa", sum := "54ca213f003abc129a3521f61cfd9260f27bf72725ac91e8ba3fdd0fb55c8c52", func := "loop.example/g01344/laws.FnExactValidState", spec := "fnExactValidState", apart := false }
def FnExactValidStateSaid : Prop := fnExactValidStateRow.holds Try.pinned (OpenSpec.ofChange fnExactValidStateSpec)

/-- ITS FALSE NEIGHBOUR: 'it returns false'. Refute it at one input. -/
def fnExactValidStateWrong : ChangeSpec := { name := "fnExactValidState", fn := fun _ => fun
  | [d] => { results := [.lit (.bool false)], args := [d] }
  | _ => none }
def FnExactValidStateWrongFalsely : Prop := fnExactValidStateRow.holds Try.pinned (OpenSpec.ofChange fnExactValidStateWrong)

/-- 'laws.FnExactSameState': WHATEVER THE INPUT: true; the input reads as it did. -/
def fnExactSameStateSpec : ChangeSpec := { name := "fnExactSameState", fn := fun _ => fun
  | [d1, d2] => { results := [.lit (.bool true)], args := [d1, d2] }
  | _ => none }
def fnExactSameStateRow : OpenClaim := { program := "ytpfehomoikpbbaa", sum := "54ca213f003abc129a3521f61cfd9260f27bf72725ac91e8ba3fdd0fb55c8c52", func := "loop.example/g01344/laws.FnExactSameState", spec := "fnExactSameState", inPlace := ["math.Float32bits"], apart := false }
def FnExactSameStateSaid : Prop := fnExactSameStateRow.holds Try.pinned (OpenSpec.ofChange fnExactSameStateSpec)

/-- ITS FALSE NEIGHBOUR: 'it returns false'. Refute it at one input. -/
def fnExactSameStateWrong : ChangeSpec := { name := "fnExactSameState", fn := fun _ => fun
  | [d1, d2] => { results := [.lit (.bool false)], args := [d1, d2] }
  | _ => none }
def FnExactSameStateWrongFalsely : Prop := fnExactSameStateRow.holds Try.pinned (OpenSpec.ofChange fnExactSameStateWrong)

/-- 'laws.FnExactValidBelt': WHATEVER THE INPUT: true; the input reads as it did. -/
def fnExactValidBeltSpec : ChangeSpec := { name := "fnExactValidBelt", fn := fun _ => fun
  | [d] => { results := [.lit (.bool true)], args := [d] }
  | _ => none }
def fnExactValidBeltRow : OpenClaim := { program := "ytpfehomoikpbbaa", sum := "54ca213f003abc129a3521f61cfd9260f27bf72725ac91e8ba3fdd0fb55c8c52", func := "loop.example/g01344/laws.FnExactValidBelt", spec := "fnExactValidBelt", apart := false }
def FnExactValidBeltSaid : Prop := fnExactValidBeltRow.holds Try.pinned (OpenSpec.ofChange fnExactValidBeltSpec)

/-- ITS FALSE NEIGHBOUR: 'it returns false'. Refute it at one input. -/
def fnExactValidBeltWrong : ChangeSpec := { name := "fnExactValidBelt", fn := fun _ => fun
  | [d] => { results := [.lit (.bool false)], args := [d] }
  | _ => none }
def FnExactValidBeltWrongFalsely : Prop := fnExactValidBeltRow.holds Try.pinned (OpenSpec.ofChange fnExactValidBeltWrong)

/-- 'laws.FnExactValidMill': WHATEVER THE INPUT: true; the input reads as it did. -/
def fnExactValidMillSpec : ChangeSpec := { name := "fnExactValidMill", fn := fun _ => fun
  | [d] => { results := [.lit (.bool true)], args := [d] }
  | _ => none }
def fnExactValidMillRow : OpenClaim := { program := "ytpfehomoikpbbaa", sum := "54ca213f003abc129a3521f61cfd9260f27bf72725ac91e8ba3fdd0fb55c8c52", func := "loop.example/g01344/laws.FnExactValidMill", spec := "fnExactValidMill", apart := false }
def FnExactValidMillSaid : Prop := fnExactValidMillRow.holds Try.pinned (OpenSpec.ofChange fnExactValidMillSpec)

/-- ITS FALSE NEIGHBOUR: 'it returns false'. Refute it at one input. -/
def fnExactValidMillWrong : ChangeSpec := { name := "fnExactValidMill", fn := fun _ => fun
  | [d] => { results := [.lit (.bool false)], args := [d] }
  | _ => none }
def FnExactValidMillWrongFalsely : Prop := fnExactValidMillRow.holds Try.pinned (OpenSpec.ofChange fnExactValidMillWrong)

/-- 'laws.FnExactSameBelt': WHATEVER THE INPUT: true; the input reads as it did. -/
def fnExactSameBeltSpec : ChangeSpec := { name := "fnExactSameBelt", fn := fun _ => fun
  | [d1, d2] => { results := [.lit (.bool true)], args := [d1, d2] }
  | _ => none }
def fnExactSameBeltRow : OpenClaim := { program := "ytpfehomoikpbbaa", sum := "54ca213f003abc129a3521f61cfd9260f27bf72725ac91e8ba3fdd0fb55c8c52", func := "loop.example/g01344/laws.FnExactSameBelt", spec := "fnExactSameBelt", inPlace := ["math.Float32bits"], apart := false }
def FnExactSameBeltSaid : Prop := fnExactSameBeltRow.holds Try.pinned (OpenSpec.ofChange fnExactSameBeltSpec)

/-- ITS FALSE NEIGHBOUR: 'it returns false'. Refute it at one input. -/
def fnExactSameBeltWrong : ChangeSpec := { name := "fnExactSameBelt", fn := fun _ => fun
  | [d1, d2] => { results := [.lit (.bool false)], args := [d1, d2] }
  | _ => none }
def FnExactSameBeltWrongFalsely : Prop := fnExactSameBeltRow.holds Try.pinned (OpenSpec.ofChange fnExactSameBeltWrong)

/-- 'laws.FnExactNumberText': WHATEVER THE INPUT: true; the input reads as it did. -/
def fnExactNumberTextSpec : ChangeSpec := { name := "fnExactNumberText", fn := fun _ => fun
  | [d] => { results := [.lit (.bool true)], args := [d] }
  | _ => none }
def fnExactNumberTextRow : OpenClaim := { program := "ytpfehomoikpbbaa", sum := "54ca213f003abc129a3521f61cfd9260f27bf72725ac91e8ba3fdd0fb55c8c52", func := "loop.example/g01344/laws.FnExactNumberText", spec := "fnExactNumberText", inPlace := ["math.Float32bits"], apart := false }
def FnExactNumberTextSaid : Prop := fnExactNumberTextRow.holds Try.pinned (OpenSpec.ofChange fnExactNumberTextSpec)

/-- ITS FALSE NEIGHBOUR: 'it returns false'. Refute it at one input. -/
def fnExactNumberTextWrong : ChangeSpec := { name := "fnExactNumberText", fn := fun _ => fun
  | [d] => { results := [.lit (.bool false)], args := [d] }
  | _ => none }
def FnExactNumberTextWrongFalsely : Prop := fnExactNumberTextRow.holds Try.pinned (OpenSpec.ofChange fnExactNumberTextWrong)

/- THE SECOND FORM. 'bulk': how many values and letters a reading holds, each counted each time it is reached (what is shared counts as often as it is met; a slice's spare places count too). A statement '..UptoSaid' is the law's where the arguments, and the package variables that the reading takes, are together of bulk at most 1048576: NARROWER than '..Said'. Prove '..Said' where nothing that the law and all that it calls make is longer than what came in: it says more and counts as full. Else prove '..UptoSaid'. A law counts once. -/
mutual
def uptoBulk {H : Type} : DataW H → Nat
  | .lit (.string bytes) => bytes.length + 1
  | .lit _ => 1
  | .nil => 1
  | .ptr d => uptoBulk d + 1
  | .slice elems spare => uptoBulkAll elems + uptoBulkAll spare + 1
  | .agg parts => uptoBulkAll parts + 1
  | .iface _ d => uptoBulk d + 1
  | .map entries => uptoBulkEntries entries + 1
  | .held _ => 1
def uptoBulkAll {H : Type} : List (DataW H) → Nat
  | [] => 0
  | d :: r => uptoBulk d + uptoBulkAll r
def uptoBulkEntries {H : Type} : List (Lit × DataW H) → Nat
  | [] => 0
  | x :: r => uptoBulkEntry x + uptoBulkEntries r
def uptoBulkEntry {H : Type} : Lit × DataW H → Nat
  | (.string bytes, d) => bytes.length + uptoBulk d + 1
  | (_, d) => uptoBulk d + 1
 end
def uptoSmall : (H : Type) → List (DataW H) → Bool := fun _ ds => decide (uptoBulkAll ds ≤ 1048576)
def OpenSpec.upto (s : _root_.Go.ChangeSpec) : _root_.Go.OpenSpec := { _root_.Go.OpenSpec.ofChange s with cond := some uptoSmall }

/-- 'laws.FnExactConstants', WHERE WHAT IT READS IS OF BULK AT MOST 1048576: true; the input reads as it did. -/
def fnExactConstantsUptoRow : OpenClaim := { program := "ytpfehomoikpbbaa", sum := "54ca213f003abc129a3521f61cfd9260f27bf72725ac91e8ba3fdd0fb55c8c52", func := "loop.example/g01344/laws.FnExactConstants", spec := "fnExactConstants", apart := false, narrowed := true }
def FnExactConstantsUptoSaid : Prop := fnExactConstantsUptoRow.holds Try.pinned (OpenSpec.upto fnExactConstantsSpec)

/-- 'laws.FnExactIsLength', WHERE WHAT IT READS IS OF BULK AT MOST 1048576: true; the input reads as it did. -/
def fnExactIsLengthUptoRow : OpenClaim := { program := "ytpfehomoikpbbaa", sum := "54ca213f003abc129a3521f61cfd9260f27bf72725ac91e8ba3fdd0fb55c8c52", func := "loop.example/g01344/laws.FnExactIsLength", spec := "fnExactIsLength", apart := false, narrowed := true }
def FnExactIsLengthUptoSaid : Prop := fnExactIsLengthUptoRow.holds Try.pinned (OpenSpec.upto fnExactIsLengthSpec)

/-- 'laws.FnExactIsPart', WHERE WHAT IT READS IS OF BULK AT MOST 1048576: true; the input reads as it did. -/
def fnExactIsPartUptoRow : OpenClaim := { program := "ytpfehomoikpbbaa", sum := "54ca213f003abc129a3521f61cfd9260f27bf72725ac91e8ba3fdd0fb55c8c52", func := "loop.example/g01344/laws.FnExactIsPart", spec := "fnExactIsPart", apart := false, narrowed := true }
def FnExactIsPartUptoSaid : Prop := fnExactIsPartUptoRow.holds Try.pinned (OpenSpec.upto fnExactIsPartSpec)

/-- 'laws.FnExactIsPlain', WHERE WHAT IT READS IS OF BULK AT MOST 1048576: true; the input reads as it did. -/
def fnExactIsPlainUptoRow : OpenClaim := { program := "ytpfehomoikpbbaa", sum := "54ca213f003abc129a3521f61cfd9260f27bf72725ac91e8ba3fdd0fb55c8c52", func := "loop.example/g01344/laws.FnExactIsPlain", spec := "fnExactIsPlain", apart := false, narrowed := true }
def FnExactIsPlainUptoSaid : Prop := fnExactIsPlainUptoRow.holds Try.pinned (OpenSpec.upto fnExactIsPlainSpec)

/-- 'laws.FnExactSameNumber', WHERE WHAT IT READS IS OF BULK AT MOST 1048576: true; the input reads as it did. -/
def fnExactSameNumberUptoRow : OpenClaim := { program := "ytpfehomoikpbbaa", sum := "54ca213f003abc129a3521f61cfd9260f27bf72725ac91e8ba3fdd0fb55c8c52", func := "loop.example/g01344/laws.FnExactSameNumber", spec := "fnExactSameNumber", inPlace := ["math.Float32bits"], apart := false, narrowed := true }
def FnExactSameNumberUptoSaid : Prop := fnExactSameNumberUptoRow.holds Try.pinned (OpenSpec.upto fnExactSameNumberSpec)

/-- 'laws.FnExactCodeName', WHERE WHAT IT READS IS OF BULK AT MOST 1048576: true; the input reads as it did. -/
def fnExactCodeNameUptoRow : OpenClaim := { program := "ytpfehomoikpbbaa", sum := "54ca213f003abc129a3521f61cfd9260f27bf72725ac91e8ba3fdd0fb55c8c52", func := "loop.example/g01344/laws.FnExactCodeName", spec := "fnExactCodeName", apart := false, narrowed := true }
def FnExactCodeNameUptoSaid : Prop := fnExactCodeNameUptoRow.holds Try.pinned (OpenSpec.upto fnExactCodeNameSpec)

/-- 'laws.FnExactValidState', WHERE WHAT IT READS IS OF BULK AT MOST 1048576: true; the input reads as it did. -/
def fnExactValidStateUptoRow : OpenClaim := { program := "ytpfehomoikpbbaa", sum := "54ca213f003abc129a3521f61cfd9260f27bf72725ac91e8ba3fdd0fb55c8c52", func := "loop.example/g01344/laws.FnExactValidState", spec := "fnExactValidState", apart := false, narrowed := true }
def FnExactValidStateUptoSaid : Prop := fnExactValidStateUptoRow.holds Try.pinned (OpenSpec.upto fnExactValidStateSpec)

/-- 'laws.FnExactSameState', WHERE WHAT IT READS IS OF BULK AT MOST 1048576: true; the input reads as it did. -/
def fnExactSameStateUptoRow : OpenClaim := { program := "ytpfehomoikpbbaa", sum := "54ca213f003abc129a3521f61cfd9260f27bf72725ac91e8ba3fdd0fb55c8c52", func := "loop.example/g01344/laws.FnExactSameState", spec := "fnExactSameState", inPlace := ["math.Float32bits"], apart := false, narrowed := true }
def FnExactSameStateUptoSaid : Prop := fnExactSameStateUptoRow.holds Try.pinned (OpenSpec.upto fnExactSameStateSpec)

/-- 'laws.FnExactValidBelt', WHERE WHAT IT READS IS OF BULK AT MOST 1048576: true; the input reads as it did. -/
def fnExactValidBeltUptoRow : OpenClaim := { program := "ytpfehomoikpbbaa", sum := "54ca213f003abc129a3521f61cfd9260f27bf72725ac91e8ba3fdd0fb55c8c52", func := "loop.example/g01344/laws.FnExactValidBelt", spec := "fnExactValidBelt", apart := false, narrowed := true }
def FnExactValidBeltUptoSaid : Prop := fnExactValidBeltUptoRow.holds Try.pinned (OpenSpec.upto fnExactValidBeltSpec)

/-- 'laws.FnExactValidMill', WHERE WHAT IT READS IS OF BULK AT MOST 1048576: true; the input reads as it did. -/
def fnExactValidMillUptoRow : OpenClaim := { program := "ytpfehomoikpbbaa", sum := "54ca213f003abc129a3521f61cfd9260f27bf72725ac91e8ba3fdd0fb55c8c52", func := "loop.example/g01344/laws.FnExactValidMill", spec := "fnExactValidMill", apart := false, narrowed := true }
def FnExactValidMillUptoSaid : Prop := fnExactValidMillUptoRow.holds Try.pinned (OpenSpec.upto fnExactValidMillSpec)

/-- 'laws.FnExactSameBelt', WHERE WHAT IT READS IS OF BULK AT MOST 1048576: true; the input reads as it did. -/
def fnExactSameBeltUptoRow : OpenClaim := { program := "ytpfehomoikpbbaa", sum := "54ca213f003abc129a3521f61cfd9260f27bf72725ac91e8ba3fdd0fb55c8c52", func := "loop.example/g01344/laws.FnExactSameBelt", spec := "fnExactSameBelt", inPlace := ["math.Float32bits"], apart := false, narrowed := true }
def FnExactSameBeltUptoSaid : Prop := fnExactSameBeltUptoRow.holds Try.pinned (OpenSpec.upto fnExactSameBeltSpec)

/-- 'laws.FnExactNumberText', WHERE WHAT IT READS IS OF BULK AT MOST 1048576: true; the input reads as it did. -/
def fnExactNumberTextUptoRow : OpenClaim := { program := "ytpfehomoikpbbaa", sum := "54ca213f003abc129a3521f61cfd9260f27bf72725ac91e8ba3fdd0fb55c8c52", func := "loop.example/g01344/laws.FnExactNumberText", spec := "fnExactNumberText", inPlace := ["math.Float32bits"], apart := false, narrowed := true }
def FnExactNumberTextUptoSaid : Prop := fnExactNumberTextUptoRow.holds Try.pinned (OpenSpec.upto fnExactNumberTextSpec)

end Rows
end Go.Proofs.Ytpfehomoikpbbaa
