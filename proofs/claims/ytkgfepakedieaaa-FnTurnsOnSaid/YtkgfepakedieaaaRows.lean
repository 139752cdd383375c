/-
  No cell of these rows narrows 'for every input' (looked for: loops, veiled, ifaces, maps, wideKeys, modest, calm, conditions, laid).
  DERIVED. THE GIVEN ROWS OF THIS SEAT. 5 by the template 'for every input the law returns true; each argument reads behind the call as it read before'; 0 by the template 'total and deterministic' (their statements: YtkgfepakedieaaaTotals.lean).
  GIVEN WITH THE SEED: the statements are not yours to turn. If you find one false, say at which input.
  Laid BY PROGRAM, IN A SANDBOX (cutbox-rows.mjs): the forced cells as the released guide's own fill.sh prints them over the translation 8a089344001beb24… (all of the seat's roots in one cut). By AI agents, Wed Nov 11 2026. No macro, syntax, notation, axiom, sorry.
-/
import Derived.Test.YtkgfepakedieaaaChecked
import GoSem.Claim
import GoSem.ClaimJoined
import GoSem.ClaimMapViews
import Derived.JoinedTies
import Derived.KernelRfl
namespace Go.Proofs.Ytkgfepakedieaaa
/- THE CELL 'sum', in the pinned program and in every row, IS THE sha256 OF THE DUMP (.gsa) THAT YtkgfepakedieaaaProg.lean LOADS. Nothing in Lean hashes anything: it is a label: what it is worth is what the hold of that sum in a sandbox is worth. -/
noncomputable def Try.pinned : Pinned := { name := "ytkgfepakedieaaa", sum := "8a089344001beb2438b202e9a12fa0be03034283b268a47ab7de67d2a45911fe", checked := Try.checked }
namespace Rows
def none {H : Type} : Left H := { results := [], args := [] }

/-- 'laws.FnExactSpeedsOf': WHATEVER THE INPUT: true; the input reads as it did. -/
def fnExactSpeedsOfSpec : ChangeSpec := { name := "fnExactSpeedsOf", fn := fun _ => fun
  | [d1, d2] => { results := [.lit (.bool true)], args := [d1, d2] }
  | _ => none }
def fnExactSpeedsOfRow : OpenClaim := { program := "ytkgfepakedieaaa", sum := "8a089344001beb2438b202e9a12fa0be03034283b268a47ab7de67d2a45911fe", func := "loop.example/g01344/laws.FnExactSpeedsOf", spec := "fnExactSpeedsOf", unfollowed := true, recurses := true, apart := false }
def FnExactSpeedsOfSaid : Prop := fnExactSpeedsOfRow.holds Try.pinned (OpenSpec.ofChange fnExactSpeedsOfSpec)

/-- ITS FALSE NEIGHBOUR: 'it returns false'. Refute it at one input. -/
def fnExactSpeedsOfWrong : ChangeSpec := { name := "fnExactSpeedsOf", fn := fun _ => fun
  | [d1, d2] => { results := [.lit (.bool false)], args := [d1, d2] }
  | _ => none }
def FnExactSpeedsOfWrongFalsely : Prop := fnExactSpeedsOfRow.holds Try.pinned (OpenSpec.ofChange fnExactSpeedsOfWrong)

/-- 'laws.FnExactLostPower': WHATEVER THE INPUT: true; the input reads as it did. -/
def fnExactLostPowerSpec : ChangeSpec := { name := "fnExactLostPower", fn := fun _ => fun
  | [d1, d2, d3] => { results := [.lit (.bool true)], args := [d1, d2, d3] }
  | _ => none }
def fnExactLostPowerRow : OpenClaim := { program := "ytkgfepakedieaaa", sum := "8a089344001beb2438b202e9a12fa0be03034283b268a47ab7de67d2a45911fe", func := "loop.example/g01344/laws.FnExactLostPower", spec := "fnExactLostPower", unfollowed := true, recurses := true, apart := false }
def FnExactLostPowerSaid : Prop := fnExactLostPowerRow.holds Try.pinned (OpenSpec.ofChange fnExactLostPowerSpec)

/-- ITS FALSE NEIGHBOUR: 'it returns false'. Refute it at one input. -/
def fnExactLostPowerWrong : ChangeSpec := { name := "fnExactLostPower", fn := fun _ => fun
  | [d1, d2, d3] => { results := [.lit (.bool false)], args := [d1, d2, d3] }
  | _ => none }
def FnExactLostPowerWrongFalsely : Prop := fnExactLostPowerRow.holds Try.pinned (OpenSpec.ofChange fnExactLostPowerWrong)

/-- 'laws.FnExactTorquesOf': WHATEVER THE INPUT: true; the input reads as it did. -/
def fnExactTorquesOfSpec : ChangeSpec := { name := "fnExactTorquesOf", fn := fun _ => fun
  | [d1, d2] => { results := [.lit (.bool true)], args := [d1, d2] }
  | _ => none }
def fnExactTorquesOfRow : OpenClaim := { program := "ytkgfepakedieaaa", sum := "8a089344001beb2438b202e9a12fa0be03034283b268a47ab7de67d2a45911fe", func := "loop.example/g01344/laws.FnExactTorquesOf", spec := "fnExactTorquesOf", unfollowed := true, recurses := true, apart := false }
def FnExactTorquesOfSaid : Prop := fnExactTorquesOfRow.holds Try.pinned (OpenSpec.ofChange fnExactTorquesOfSpec)

/-- ITS FALSE NEIGHBOUR: 'it returns false'. Refute it at one input. -/
def fnExactTorquesOfWrong : ChangeSpec := { name := "fnExactTorquesOf", fn := fun _ => fun
  | [d1, d2] => { results := [.lit (.bool false)], args := [d1, d2] }
  | _ => none }
def FnExactTorquesOfWrongFalsely : Prop := fnExactTorquesOfRow.holds Try.pinned (OpenSpec.ofChange fnExactTorquesOfWrong)

/-- 'laws.FnExactPowersOf': WHATEVER THE INPUT: true; the input reads as it did. -/
def fnExactPowersOfSpec : ChangeSpec := { name := "fnExactPowersOf", fn := fun _ => fun
  | [d1, d2, d3] => { results := [.lit (.bool true)], args := [d1, d2, d3] }
  | _ => none }
def fnExactPowersOfRow : OpenClaim := { program := "ytkgfepakedieaaa", sum := "8a089344001beb2438b202e9a12fa0be03034283b268a47ab7de67d2a45911fe", func := "loop.example/g01344/laws.FnExactPowersOf", spec := "fnExactPowersOf", unfollowed := true, recurses := true, apart := false }
def FnExactPowersOfSaid : Prop := fnExactPowersOfRow.holds Try.pinned (OpenSpec.ofChange fnExactPowersOfSpec)

/-- ITS FALSE NEIGHBOUR: 'it returns false'. Refute it at one input. -/
def fnExactPowersOfWrong : ChangeSpec := { name := "fnExactPowersOf", fn := fun _ => fun
  | [d1, d2, d3] => { results := [.lit (.bool false)], args := [d1, d2, d3] }
  | _ => none }
def FnExactPowersOfWrongFalsely : Prop := fnExactPowersOfRow.holds Try.pinned (OpenSpec.ofChange fnExactPowersOfWrong)

/-- 'laws.FnTurnsOn': WHATEVER THE INPUT: true; the input reads as it did. -/
def fnTurnsOnSpec : ChangeSpec := { name := "fnTurnsOn", fn := fun _ => fun
  | [d1, d2] => { results := [.lit (.bool true)], args := [d1, d2] }
  | _ => none }
def fnTurnsOnRow : OpenClaim := { program := "ytkgfepakedieaaa", sum := "8a089344001beb2438b202e9a12fa0be03034283b268a47ab7de67d2a45911fe", func := "loop.example/g01344/laws.FnTurnsOn", spec := "fnTurnsOn", inPlace := ["math.Float32bits"], unfollowed := true, recurses := true, apart := false }
def FnTurnsOnSaid : Prop := fnTurnsOnRow.holds Try.pinned (OpenSpec.ofChange fnTurnsOnSpec)

/-- ITS FALSE NEIGHBOUR: 'it returns false'. Refute it at one input. -/
def fnTurnsOnWrong : ChangeSpec := { name := "fnTurnsOn", fn := fun _ => fun
  | [d1, d2] => { results := [.lit (.bool false)], args := [d1, d2] }
  | _ => none }
def FnTurnsOnWrongFalsely : Prop := fnTurnsOnRow.holds Try.pinned (OpenSpec.ofChange fnTurnsOnWrong)

/- THE SECOND FORM. 'bulk': how many values and letters a reading holds, each counted each time it is reached (what is shared counts as often as it is met; a slice's spare places count too). A statement '..UptoSaid' is the law's where the arguments, and the package variables that the reading takes, are together of bulk at most 1048576: NARROWER than '..Said'. Prove '..Said' where nothing that the law and all that it calls make is longer than what came in: it says more and counts as full. Else prove '..UptoSaid'. A law counts once. -/
mutual
def uptoBulk {H : Type} : DataW H → Nat
  | .lit (.string bytes) => bytes.length + 1
  | .lit _ => 1
  | .nil => 1
  | .ptr d => uptoBulk d + 1
  | .slice elems spare => uptoBulkAll elems + uptoBulkAll spare + 1
  | .agg parts => uptoBulkAll parts + 1
  | .iface _ d => uptoBulk d + 1
  | .map entries => uptoBulkEntries entries + 1
  | .held _ => 1
def uptoBulkAll {H : Type} : List (DataW H) → Nat
  | [] => 0
  | d :: r => uptoBulk d + uptoBulkAll r
def uptoBulkEntries {H : Type} : List (Lit × DataW H) → Nat
  | [] => 0
  | x :: r => uptoBulkEntry x + uptoBulkEntries r
def uptoBulkEntry {H : Type} : Lit × DataW H → Nat
  | (.string bytes, d) => bytes.length + uptoBulk d + 1
  | (_, d) => uptoBulk d + 1
 end
def uptoSmall : (H : Type) → List (DataW H) → Bool := fun _ ds => decide (uptoBulkAll ds ≤ 1048576)
def OpenSpec.upto (s : _root_.Go.ChangeSpec) : _root_.Go.OpenSpec := { _root_.Go.OpenSpec.ofChange s with cond := some uptoSmall }

/-- 'laws.FnExactSpeedsOf', WHERE WHAT IT READS IS OF BULK AT MOST 1048576: true; the input reads as it did. -/
def fnExactSpeedsOfUptoRow : OpenClaim := { program := "ytkgfepakedieaaa", sum := "8a089344001beb2438b202e9a12fa0be03034283b268a47ab7de67d2a45911fe", func := "loop.example/g01344/laws.FnExactSpeedsOf", spec := "fnExactSpeedsOf", unfollowed := true, recurses := true, apart := false, narrowed := true }
def FnExactSpeedsOfUptoSaid : Prop := fnExactSpeedsOfUptoRow.holds Try.pinned (OpenSpec.upto fnExactSpeedsOfSpec)

/-- 'laws.FnExactLostPower', WHERE WHAT IT READS IS OF BULK AT MOST 1048576: true; the input reads as it did. -/
def fnExactLostPowerUptoRow : OpenClaim := { program := "ytkgfepakedieaaa", sum := "8a089344001beb2438b202e9a12fa0be03034283b268a47ab7de67d2a45911fe", func := "loop.example/g01344/laws.FnExactLostPower", spec := "fnExactLostPower", unfollowed := true, recurses := true, apart := false, narrowed := true }
def FnExactLostPowerUptoSaid : Prop := fnExactLostPowerUptoRow.holds Try.pinned (OpenSpec.upto fnExactLostPowerSpec)

/-- 'laws.FnExactTorquesOf', WHERE WHAT IT READS IS OF BULK AT MOST 1048576: true; the input reads as it did. -/
def fnExactTorquesOfUptoRow : OpenClaim := { program := "ytkgfepakedieaaa", sum := "8a089344001beb2438b202e9a12fa0be03034283b268a47ab7de67d2a45911fe", func := "loop.example/g01344/laws.FnExactTorquesOf", spec := "fnExactTorquesOf", unfollowed := true, recurses := true, apart := false, narrowed := true }
def FnExactTorquesOfUptoSaid : Prop := fnExactTorquesOfUptoRow.holds Try.pinned (OpenSpec.upto fnExactTorquesOfSpec)

/-- 'laws.FnExactPowersOf', WHERE WHAT IT READS IS OF BULK AT MOST 1048576: true; the input reads as it did. -/
def fnExactPowersOfUptoRow : OpenClaim := { program := "ytkgfepakedieaaa", sum := "8a089344001beb2438b202e9a12fa0be03034283b268a47ab7de67d2a45911fe", func := "loop.example/g01344/laws.FnExactPowersOf", spec := "fnExactPowersOf", unfollowed := true, recurses := true, apart := false, narrowed := true }
def FnExactPowersOfUptoSaid : Prop := fnExactPowersOfUptoRow.holds Try.pinned (OpenSpec.upto fnExactPowersOfSpec)

/-- 'laws.FnTurnsOn', WHERE WHAT IT READS IS OF BULK AT MOST 1048576: true; the input reads as it did. -/
def fnTurnsOnUptoRow : OpenClaim := { program := "ytkgfepakedieaaa", sum := "8a089344001beb2438b202e9a12fa0be03034283b268a47ab7de67d2a45911fe", func := "loop.example/g01344/laws.FnTurnsOn", spec := "fnTurnsOn", inPlace := ["math.Float32bits"], unfollowed := true, recurses := true, apart := false, narrowed := true }
def FnTurnsOnUptoSaid : Prop := fnTurnsOnUptoRow.holds Try.pinned (OpenSpec.upto fnTurnsOnSpec)

end Rows
end Go.Proofs.Ytkgfepakedieaaa
