/-
  DERIVED. GIVEN WITH THE SEED: THE CARDS: each row of YtgbloaophfaaoaaDoorRows.lean that lists a variable, with what it lists TIED to the program's text (the seventh form; the later family's looks); each row that meets fmt, with fmt's text TOLD by the authors' own Lean function (tested against real Go, not proved from fmt's source: count such statements apart). THE CARD IS WHAT COUNTS. Prove the row's statement (the work); the ties are given (YtgbloaophfaaoaaDoorTie.lean); close each card by the builder's one call (the guide's Derived/Test/ToyasCard.lean, 'card_holds'). Laid BY PROGRAM, IN A SANDBOX (cutbox-door.mjs). By AI agents, Wed Nov 11 2026. No macro, syntax, notation, axiom, sorry.
-/
import Derived.Test.YtgbloaophfaaoaaDoorRows
import GoSem.ClaimSeven
namespace Go.Proofs.YtgbloaophfaaoaaDoor
namespace Rows

/-- THE TIED CARD OF 'chartularylaw12.JournalNobody'. -/
def journalNobodyCard : Claim7 := { stood := { row := journalNobodyRow, standIns := [], harness := (true, "f74bacc6d032faba538ab45d0f807e86cb40a4b878eee786bfe753b8fa227651"), looks := false }, kinds := [], alts := [], laidByText := true, laidKinds := [.data, .pinned], laidTests := true, laidLooks := .later }
def JournalNobodyCardSaid : Prop := Claim7.holds Tryd.pinned (.plain (OpenSpec.ofChange journalNobodySpec)) journalNobodyCard

/-- THE TIED CARD OF 'chartularylaw12.JournalSectors'. -/
def journalSectorsCard : Claim7 := { stood := { row := journalSectorsRow, standIns := [], harness := (true, "f74bacc6d032faba538ab45d0f807e86cb40a4b878eee786bfe753b8fa227651"), looks := false }, kinds := [], alts := [], laidByText := true, laidKinds := [.data, .pinned], laidTests := true, laidLooks := .later }
def JournalSectorsCardSaid : Prop := Claim7.holds Tryd.pinned (.plain (OpenSpec.ofChange journalSectorsSpec)) journalSectorsCard

/-- THE TIED CARD OF 'chartularylaw12.JournalOpens'. -/
def journalOpensCard : Claim7 := { stood := { row := journalOpensRow, standIns := [], harness := (true, "f74bacc6d032faba538ab45d0f807e86cb40a4b878eee786bfe753b8fa227651"), looks := false }, kinds := [], alts := [], laidByText := true, laidKinds := [.data, .pinned], laidTests := true, laidLooks := .later }
def JournalOpensCardSaid : Prop := Claim7.holds Tryd.pinned (.plain (OpenSpec.ofChange journalOpensSpec)) journalOpensCard

/-- THE SECOND FORM's CARD OF 'chartularylaw12.JournalNobody'. -/
def journalNobodyUptoCard : Claim7 := { stood := { row := journalNobodyUptoRow, standIns := [], harness := (true, "f74bacc6d032faba538ab45d0f807e86cb40a4b878eee786bfe753b8fa227651"), looks := false }, kinds := [], alts := [], laidByText := true, laidKinds := [.data, .pinned], laidTests := true, laidLooks := .later }
def JournalNobodyUptoCardSaid : Prop := Claim7.holds Tryd.pinned (.plain (OpenSpec.upto journalNobodySpec)) journalNobodyUptoCard

/-- THE SECOND FORM's CARD OF 'chartularylaw12.JournalSectors'. -/
def journalSectorsUptoCard : Claim7 := { stood := { row := journalSectorsUptoRow, standIns := [], harness := (true, "f74bacc6d032faba538ab45d0f807e86cb40a4b878eee786bfe753b8fa227651"), looks := false }, kinds := [], alts := [], laidByText := true, laidKinds := [.data, .pinned], laidTests := true, laidLooks := .later }
def JournalSectorsUptoCardSaid : Prop := Claim7.holds Tryd.pinned (.plain (OpenSpec.upto journalSectorsSpec)) journalSectorsUptoCard

/-- THE SECOND FORM's CARD OF 'chartularylaw12.JournalOpens'. -/
def journalOpensUptoCard : Claim7 := { stood := { row := journalOpensUptoRow, standIns := [], harness := (true, "f74bacc6d032faba538ab45d0f807e86cb40a4b878eee786bfe753b8fa227651"), looks := false }, kinds := [], alts := [], laidByText := true, laidKinds := [.data, .pinned], laidTests := true, laidLooks := .later }
def JournalOpensUptoCardSaid : Prop := Claim7.holds Tryd.pinned (.plain (OpenSpec.upto journalOpensSpec)) journalOpensUptoCard
end Rows
end Go.Proofs.YtgbloaophfaaoaaDoor
