/-
  DERIVED. GIVEN WITH THE SEED: THE CARDS: each row of YtgbciaegbpkpaaaGreatDoorRows.lean that lists a variable, with what it lists TIED to the program's text (the seventh form; the later family's looks); each row that meets fmt, with fmt's text TOLD by the authors' own Lean function (tested against real Go, not proved from fmt's source: count such statements apart). THE CARD IS WHAT COUNTS. Prove the row's statement (the work); the ties are given (YtgbciaegbpkpaaaGreatDoorTie.lean); close each card by the builder's one call (the guide's Derived/Test/ToyasCard.lean, 'card_holds'). Laid BY PROGRAM, IN A SANDBOX (cutbox-door.mjs). By AI agents, Wed Nov 11 2026. No macro, syntax, notation, axiom, sorry.
-/
import Derived.Test.YtgbciaegbpkpaaaGreatDoorRows
import GoSem.ClaimSeven
namespace Go.Proofs.YtgbciaegbpkpaaaGreatDoor
namespace Rows

/-- THE TIED CARD OF 'chartularylaw11.SuperSaves'. -/
def superSavesCard : Claim7 := { stood := { row := superSavesRow, standIns := [], harness := (true, "2397cd690becbb5c844c9cb9daeefabd3f1cd4be465997d2a9e7130a44f3e828"), looks := false }, kinds := [], alts := [], laidByText := true, laidKinds := [.data, .pinned], laidTests := true, laidLooks := .later }
def SuperSavesCardSaid : Prop := Claim7.holds Tryz.pinned (.plain (OpenSpec.ofChange superSavesSpec)) superSavesCard

/-- THE TIED CARD OF 'chartularylaw11.SuperLoads'. -/
def superLoadsCard : Claim7 := { stood := { row := superLoadsRow, standIns := [], harness := (true, "2397cd690becbb5c844c9cb9daeefabd3f1cd4be465997d2a9e7130a44f3e828"), looks := false }, kinds := [], alts := [], laidByText := true, laidKinds := [.data, .pinned], laidTests := true, laidLooks := .later }
def SuperLoadsCardSaid : Prop := Claim7.holds Tryz.pinned (.plain (OpenSpec.ofChange superLoadsSpec)) superLoadsCard

/-- THE TIED CARD OF 'chartularylaw11.SuperEither'. -/
def superEitherCard : Claim7 := { stood := { row := superEitherRow, standIns := [], harness := (true, "2397cd690becbb5c844c9cb9daeefabd3f1cd4be465997d2a9e7130a44f3e828"), looks := false }, kinds := [], alts := [], laidByText := true, laidKinds := [.data, .pinned], laidTests := true, laidLooks := .later }
def SuperEitherCardSaid : Prop := Claim7.holds Tryz.pinned (.plain (OpenSpec.ofChange superEitherSpec)) superEitherCard

/-- THE SECOND FORM's CARD OF 'chartularylaw11.SuperSaves'. -/
def superSavesUptoCard : Claim7 := { stood := { row := superSavesUptoRow, standIns := [], harness := (true, "2397cd690becbb5c844c9cb9daeefabd3f1cd4be465997d2a9e7130a44f3e828"), looks := false }, kinds := [], alts := [], laidByText := true, laidKinds := [.data, .pinned], laidTests := true, laidLooks := .later }
def SuperSavesUptoCardSaid : Prop := Claim7.holds Tryz.pinned (.plain (OpenSpec.upto superSavesSpec)) superSavesUptoCard

/-- THE SECOND FORM's CARD OF 'chartularylaw11.SuperLoads'. -/
def superLoadsUptoCard : Claim7 := { stood := { row := superLoadsUptoRow, standIns := [], harness := (true, "2397cd690becbb5c844c9cb9daeefabd3f1cd4be465997d2a9e7130a44f3e828"), looks := false }, kinds := [], alts := [], laidByText := true, laidKinds := [.data, .pinned], laidTests := true, laidLooks := .later }
def SuperLoadsUptoCardSaid : Prop := Claim7.holds Tryz.pinned (.plain (OpenSpec.upto superLoadsSpec)) superLoadsUptoCard

/-- THE SECOND FORM's CARD OF 'chartularylaw11.SuperEither'. -/
def superEitherUptoCard : Claim7 := { stood := { row := superEitherUptoRow, standIns := [], harness := (true, "2397cd690becbb5c844c9cb9daeefabd3f1cd4be465997d2a9e7130a44f3e828"), looks := false }, kinds := [], alts := [], laidByText := true, laidKinds := [.data, .pinned], laidTests := true, laidLooks := .later }
def SuperEitherUptoCardSaid : Prop := Claim7.holds Tryz.pinned (.plain (OpenSpec.upto superEitherSpec)) superEitherUptoCard
end Rows
end Go.Proofs.YtgbciaegbpkpaaaGreatDoor
