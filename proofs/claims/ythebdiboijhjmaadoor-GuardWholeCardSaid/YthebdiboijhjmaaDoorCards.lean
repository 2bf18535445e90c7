/-
  DERIVED. GIVEN WITH THE SEED: THE CARDS: each row of YthebdiboijhjmaaDoorRows.lean that lists a variable, with what it lists TIED to the program's text (the seventh form; the later family's looks); each row that meets fmt, with fmt's text TOLD by the authors' own Lean function (tested against real Go, not proved from fmt's source: count such statements apart). THE CARD IS WHAT COUNTS. Prove the row's statement (the work); the ties are given (YthebdiboijhjmaaDoorTie.lean); close each card by the builder's one call (the guide's Derived/Test/ToyasCard.lean, 'card_holds'). Laid BY PROGRAM, IN A SANDBOX (cutbox-door.mjs). By AI agents, Wed Nov 11 2026. No macro, syntax, notation, axiom, sorry.
-/
import Derived.Test.YthebdiboijhjmaaDoorRows
import GoSem.ClaimSeven
namespace Go.Proofs.YthebdiboijhjmaaDoor
namespace Rows

/-- THE TIED CARD OF 'chartularylaw10.GuardNumbers'. -/
def guardNumbersCard : Claim7 := { stood := { row := guardNumbersRow, standIns := [], harness := (true, "8d9c4adcfd60411d04e30f37ae115d0918696fd589138f2a06cad16238759385"), looks := false }, kinds := [], alts := [], laidByText := true, laidKinds := [.data, .pinned], laidTests := true, laidLooks := .later }
def GuardNumbersCardSaid : Prop := Claim7.holds Tryd.pinned (.plain (OpenSpec.ofChange guardNumbersSpec)) guardNumbersCard

/-- THE TIED CARD OF 'chartularylaw10.GuardReads'. -/
def guardReadsCard : Claim7 := { stood := { row := guardReadsRow, standIns := [], harness := (true, "8d9c4adcfd60411d04e30f37ae115d0918696fd589138f2a06cad16238759385"), looks := false }, kinds := [], alts := [], laidByText := true, laidKinds := [.data, .pinned], laidTests := true, laidLooks := .later }
def GuardReadsCardSaid : Prop := Claim7.holds Tryd.pinned (.plain (OpenSpec.ofChange guardReadsSpec)) guardReadsCard

/-- THE TIED CARD OF 'chartularylaw10.GuardPuts'. -/
def guardPutsCard : Claim7 := { stood := { row := guardPutsRow, standIns := [], harness := (true, "8d9c4adcfd60411d04e30f37ae115d0918696fd589138f2a06cad16238759385"), looks := false }, kinds := [], alts := [], laidByText := true, laidKinds := [.data, .pinned], laidTests := true, laidLooks := .later }
def GuardPutsCardSaid : Prop := Claim7.holds Tryd.pinned (.plain (OpenSpec.ofChange guardPutsSpec)) guardPutsCard

/-- THE TIED CARD OF 'chartularylaw10.GuardNobody'. -/
def guardNobodyCard : Claim7 := { stood := { row := guardNobodyRow, standIns := [], harness := (true, "8d9c4adcfd60411d04e30f37ae115d0918696fd589138f2a06cad16238759385"), looks := false }, kinds := [], alts := [], laidByText := true, laidKinds := [.data, .pinned], laidTests := true, laidLooks := .later }
def GuardNobodyCardSaid : Prop := Claim7.holds Tryd.pinned (.plain (OpenSpec.ofChange guardNobodySpec)) guardNobodyCard

/-- THE TIED CARD OF 'chartularylaw10.GuardWhole'. -/
def guardWholeCard : Claim7 := { stood := { row := guardWholeRow, standIns := [], harness := (true, "8d9c4adcfd60411d04e30f37ae115d0918696fd589138f2a06cad16238759385"), looks := false }, kinds := [], alts := [], laidByText := true, laidKinds := [.data, .pinned], laidTests := true, laidLooks := .later }
def GuardWholeCardSaid : Prop := Claim7.holds Tryd.pinned (.plain (OpenSpec.ofChange guardWholeSpec)) guardWholeCard

/-- THE SECOND FORM's CARD OF 'chartularylaw10.GuardNumbers'. -/
def guardNumbersUptoCard : Claim7 := { stood := { row := guardNumbersUptoRow, standIns := [], harness := (true, "8d9c4adcfd60411d04e30f37ae115d0918696fd589138f2a06cad16238759385"), looks := false }, kinds := [], alts := [], laidByText := true, laidKinds := [.data, .pinned], laidTests := true, laidLooks := .later }
def GuardNumbersUptoCardSaid : Prop := Claim7.holds Tryd.pinned (.plain (OpenSpec.upto guardNumbersSpec)) guardNumbersUptoCard

/-- THE SECOND FORM's CARD OF 'chartularylaw10.GuardReads'. -/
def guardReadsUptoCard : Claim7 := { stood := { row := guardReadsUptoRow, standIns := [], harness := (true, "8d9c4adcfd60411d04e30f37ae115d0918696fd589138f2a06cad16238759385"), looks := false }, kinds := [], alts := [], laidByText := true, laidKinds := [.data, .pinned], laidTests := true, laidLooks := .later }
def GuardReadsUptoCardSaid : Prop := Claim7.holds Tryd.pinned (.plain (OpenSpec.upto guardReadsSpec)) guardReadsUptoCard

/-- THE SECOND FORM's CARD OF 'chartularylaw10.GuardPuts'. -/
def guardPutsUptoCard : Claim7 := { stood := { row := guardPutsUptoRow, standIns := [], harness := (true, "8d9c4adcfd60411d04e30f37ae115d0918696fd589138f2a06cad16238759385"), looks := false }, kinds := [], alts := [], laidByText := true, laidKinds := [.data, .pinned], laidTests := true, laidLooks := .later }
def GuardPutsUptoCardSaid : Prop := Claim7.holds Tryd.pinned (.plain (OpenSpec.upto guardPutsSpec)) guardPutsUptoCard

/-- THE SECOND FORM's CARD OF 'chartularylaw10.GuardNobody'. -/
def guardNobodyUptoCard : Claim7 := { stood := { row := guardNobodyUptoRow, standIns := [], harness := (true, "8d9c4adcfd60411d04e30f37ae115d0918696fd589138f2a06cad16238759385"), looks := false }, kinds := [], alts := [], laidByText := true, laidKinds := [.data, .pinned], laidTests := true, laidLooks := .later }
def GuardNobodyUptoCardSaid : Prop := Claim7.holds Tryd.pinned (.plain (OpenSpec.upto guardNobodySpec)) guardNobodyUptoCard

/-- THE SECOND FORM's CARD OF 'chartularylaw10.GuardWhole'. -/
def guardWholeUptoCard : Claim7 := { stood := { row := guardWholeUptoRow, standIns := [], harness := (true, "8d9c4adcfd60411d04e30f37ae115d0918696fd589138f2a06cad16238759385"), looks := false }, kinds := [], alts := [], laidByText := true, laidKinds := [.data, .pinned], laidTests := true, laidLooks := .later }
def GuardWholeUptoCardSaid : Prop := Claim7.holds Tryd.pinned (.plain (OpenSpec.upto guardWholeSpec)) guardWholeUptoCard
end Rows
end Go.Proofs.YthebdiboijhjmaaDoor
