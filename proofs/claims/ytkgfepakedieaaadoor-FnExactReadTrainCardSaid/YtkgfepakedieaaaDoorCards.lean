/-
  DERIVED. GIVEN WITH THE SEED: THE CARDS: each row of YtkgfepakedieaaaDoorRows.lean that lists a variable, with what it lists TIED to the program's text (the seventh form; the later family's looks); each row that meets fmt, with fmt's text TOLD by the authors' own Lean function (tested against real Go, not proved from fmt's source: count such statements apart). THE CARD IS WHAT COUNTS. Prove the row's statement (the work); the ties are given (YtkgfepakedieaaaDoorTie.lean); close each card by the builder's one call (the guide's Derived/Test/ToyasCard.lean, 'card_holds'). Laid BY PROGRAM, IN A SANDBOX (cutbox-door.mjs). By AI agents, Wed Nov 11 2026. No macro, syntax, notation, axiom, sorry.
-/
import Derived.Test.YtkgfepakedieaaaDoorRows
import GoSem.ClaimSeven
namespace Go.Proofs.YtkgfepakedieaaaDoor
namespace Rows

/-- THE TIED CARD OF 'laws.FnExactTrainText'. -/
def fnExactTrainTextCard : Claim7 := { stood := { row := fnExactTrainTextRow, standIns := [], harness := (true, "fad40820cb91efef65a7c7a6875ad52ec03dbc76d935d155d7261e333f4a749b"), looks := true }, kinds := [], alts := [], laidByText := true, laidKinds := [.data, .data, .data], laidTests := true, laidLooks := .later }
def FnExactTrainTextCardSaid : Prop := Claim7.holds Tryd.pinned (.plain (OpenSpec.ofChange fnExactTrainTextSpec)) fnExactTrainTextCard

/-- THE TIED CARD OF 'laws.FnExactReadTrain'. -/
def fnExactReadTrainCard : Claim7 := { stood := { row := fnExactReadTrainRow, standIns := [], harness := (true, "fad40820cb91efef65a7c7a6875ad52ec03dbc76d935d155d7261e333f4a749b"), looks := true }, kinds := [], alts := [], laidByText := true, laidKinds := [.data, .data, .data, .data, .sentinel, .sentinel, .pinned], laidTests := true, laidLooks := .later }
def FnExactReadTrainCardSaid : Prop := Claim7.holds Tryd.pinned (.plain (OpenSpec.ofChange fnExactReadTrainSpec)) fnExactReadTrainCard

/-- THE SECOND FORM's CARD OF 'laws.FnExactTrainText'. -/
def fnExactTrainTextUptoCard : Claim7 := { stood := { row := fnExactTrainTextUptoRow, standIns := [], harness := (true, "fad40820cb91efef65a7c7a6875ad52ec03dbc76d935d155d7261e333f4a749b"), looks := true }, kinds := [], alts := [], laidByText := true, laidKinds := [.data, .data, .data], laidTests := true, laidLooks := .later }
def FnExactTrainTextUptoCardSaid : Prop := Claim7.holds Tryd.pinned (.plain (OpenSpec.upto fnExactTrainTextSpec)) fnExactTrainTextUptoCard

/-- THE SECOND FORM's CARD OF 'laws.FnExactReadTrain'. -/
def fnExactReadTrainUptoCard : Claim7 := { stood := { row := fnExactReadTrainUptoRow, standIns := [], harness := (true, "fad40820cb91efef65a7c7a6875ad52ec03dbc76d935d155d7261e333f4a749b"), looks := true }, kinds := [], alts := [], laidByText := true, laidKinds := [.data, .data, .data, .data, .sentinel, .sentinel, .pinned], laidTests := true, laidLooks := .later }
def FnExactReadTrainUptoCardSaid : Prop := Claim7.holds Tryd.pinned (.plain (OpenSpec.upto fnExactReadTrainSpec)) fnExactReadTrainUptoCard
end Rows
end Go.Proofs.YtkgfepakedieaaaDoor
