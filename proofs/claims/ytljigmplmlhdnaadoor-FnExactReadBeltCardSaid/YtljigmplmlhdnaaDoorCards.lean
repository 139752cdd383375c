/-
  DERIVED. GIVEN WITH THE SEED: THE CARDS: each row of YtljigmplmlhdnaaDoorRows.lean that lists a variable, with what it lists TIED to the program's text (the seventh form; the later family's looks); each row that meets fmt, with fmt's text TOLD by the authors' own Lean function (tested against real Go, not proved from fmt's source: count such statements apart). THE CARD IS WHAT COUNTS. Prove the row's statement (the work); the ties are given (YtljigmplmlhdnaaDoorTie.lean); close each card by the builder's one call (the guide's Derived/Test/ToyasCard.lean, 'card_holds'). Laid BY PROGRAM, IN A SANDBOX (cutbox-door.mjs). By AI agents, Wed Nov 11 2026. No macro, syntax, notation, axiom, sorry.
-/
import Derived.Test.YtljigmplmlhdnaaDoorRows
import GoSem.ClaimSeven
namespace Go.Proofs.YtljigmplmlhdnaaDoor
namespace Rows

/-- THE TIED CARD OF 'laws.FnExactReadBelt'. -/
def fnExactReadBeltCard : Claim7 := { stood := { row := fnExactReadBeltRow, standIns := [], harness := (true, "b3a54a56514031711a99e788369d3078fd6ae8fba625c67403a8e91289dc13be"), looks := false }, kinds := [], alts := [], laidByText := true, laidKinds := [.data, .pinned], laidTests := true, laidLooks := .later }
def FnExactReadBeltCardSaid : Prop := Claim7.holds Tryd.pinned (.plain (OpenSpec.ofChange fnExactReadBeltSpec)) fnExactReadBeltCard

/-- THE SECOND FORM's CARD OF 'laws.FnExactReadBelt'. -/
def fnExactReadBeltUptoCard : Claim7 := { stood := { row := fnExactReadBeltUptoRow, standIns := [], harness := (true, "b3a54a56514031711a99e788369d3078fd6ae8fba625c67403a8e91289dc13be"), looks := false }, kinds := [], alts := [], laidByText := true, laidKinds := [.data, .pinned], laidTests := true, laidLooks := .later }
def FnExactReadBeltUptoCardSaid : Prop := Claim7.holds Tryd.pinned (.plain (OpenSpec.upto fnExactReadBeltSpec)) fnExactReadBeltUptoCard
end Rows
end Go.Proofs.YtljigmplmlhdnaaDoor
