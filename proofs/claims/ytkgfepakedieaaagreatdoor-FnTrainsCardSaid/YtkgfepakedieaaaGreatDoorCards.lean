/-
  DERIVED. GIVEN WITH THE SEED: THE CARDS: each row of YtkgfepakedieaaaGreatDoorRows.lean that lists a variable, with what it lists TIED to the program's text (the seventh form; the later family's looks); each row that meets fmt, with fmt's text TOLD by the authors' own Lean function (tested against real Go, not proved from fmt's source: count such statements apart). THE CARD IS WHAT COUNTS. Prove the row's statement (the work); the ties are given (YtkgfepakedieaaaGreatDoorTie.lean); close each card by the builder's one call (the guide's Derived/Test/ToyasCard.lean, 'card_holds'). Laid BY PROGRAM, IN A SANDBOX (cutbox-door.mjs). By AI agents, Wed Nov 11 2026. No macro, syntax, notation, axiom, sorry.
-/
import Derived.Test.YtkgfepakedieaaaGreatDoorRows
import GoSem.ClaimSeven
namespace Go.Proofs.YtkgfepakedieaaaGreatDoor
namespace Rows

/-- THE TIED CARD OF 'laws.FnTrains'. -/
def fnTrainsCard : Claim7 := { stood := { row := fnTrainsRow, standIns := [], harness := (true, "f30ebd7d53f255b0fb758661b5266127d232c2187375ec0c4387912e593d826b"), looks := true }, kinds := [], alts := [], laidByText := true, laidKinds := [.data, .data, .data, .data, .sentinel, .sentinel, .pinned], laidTests := true, laidLooks := .later }
def FnTrainsCardSaid : Prop := Claim7.holds Tryz.pinned (.plain (OpenSpec.ofChange fnTrainsSpec)) fnTrainsCard

/-- THE SECOND FORM's CARD OF 'laws.FnTrains'. -/
def fnTrainsUptoCard : Claim7 := { stood := { row := fnTrainsUptoRow, standIns := [], harness := (true, "f30ebd7d53f255b0fb758661b5266127d232c2187375ec0c4387912e593d826b"), looks := true }, kinds := [], alts := [], laidByText := true, laidKinds := [.data, .data, .data, .data, .sentinel, .sentinel, .pinned], laidTests := true, laidLooks := .later }
def FnTrainsUptoCardSaid : Prop := Claim7.holds Tryz.pinned (.plain (OpenSpec.upto fnTrainsSpec)) fnTrainsUptoCard
end Rows
end Go.Proofs.YtkgfepakedieaaaGreatDoor
