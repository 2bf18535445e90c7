/-
  DERIVED. GIVEN WITH THE SEED: THE CARDS: each row of YtilpkebkhibpeaaGreatDoorRows.lean that lists a variable, with what it lists TIED to the program's text (the seventh form; the later family's looks); each row that meets fmt, with fmt's text TOLD by the authors' own Lean function (tested against real Go, not proved from fmt's source: count such statements apart). THE CARD IS WHAT COUNTS. Prove the row's statement (the work); the ties are given (YtilpkebkhibpeaaGreatDoorTie.lean); close each card by the builder's one call (the guide's Derived/Test/ToyasCard.lean, 'card_holds'). Laid BY PROGRAM, IN A SANDBOX (cutbox-door.mjs). By AI agents, Wed Nov 11 2026. No macro, syntax, notation, axiom, sorry.
-/
import Derived.Test.YtilpkebkhibpeaaGreatDoorRows
import GoSem.ClaimSeven
namespace Go.Proofs.YtilpkebkhibpeaaGreatDoor
namespace Rows

/-- THE TIED CARD OF 'chartularylaw13.KeyringPlays'. -/
def keyringPlaysCard : Claim7 := { stood := { row := keyringPlaysRow, standIns := [], harness := (true, "dcf46a20d741612e4d644c86d8a8b8b55bf3da125bdff464ed676c11e4dee4fe"), looks := false }, kinds := [], alts := [], laidByText := true, laidKinds := [.data, .pinned], laidTests := true, laidLooks := .later }
def KeyringPlaysCardSaid : Prop := Claim7.holds Tryz.pinned (.plain (OpenSpec.ofChange keyringPlaysSpec)) keyringPlaysCard

/-- THE SECOND FORM's CARD OF 'chartularylaw13.KeyringPlays'. -/
def keyringPlaysUptoCard : Claim7 := { stood := { row := keyringPlaysUptoRow, standIns := [], harness := (true, "dcf46a20d741612e4d644c86d8a8b8b55bf3da125bdff464ed676c11e4dee4fe"), looks := false }, kinds := [], alts := [], laidByText := true, laidKinds := [.data, .pinned], laidTests := true, laidLooks := .later }
def KeyringPlaysUptoCardSaid : Prop := Claim7.holds Tryz.pinned (.plain (OpenSpec.upto keyringPlaysSpec)) keyringPlaysUptoCard
end Rows
end Go.Proofs.YtilpkebkhibpeaaGreatDoor
