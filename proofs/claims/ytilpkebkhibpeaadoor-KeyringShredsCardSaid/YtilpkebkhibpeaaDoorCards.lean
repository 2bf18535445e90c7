/-
  DERIVED. GIVEN WITH THE SEED: THE CARDS: each row of YtilpkebkhibpeaaDoorRows.lean that lists a variable, with what it lists TIED to the program's text (the seventh form; the later family's looks); each row that meets fmt, with fmt's text TOLD by the authors' own Lean function (tested against real Go, not proved from fmt's source: count such statements apart). THE CARD IS WHAT COUNTS. Prove the row's statement (the work); the ties are given (YtilpkebkhibpeaaDoorTie.lean); close each card by the builder's one call (the guide's Derived/Test/ToyasCard.lean, 'card_holds'). Laid BY PROGRAM, IN A SANDBOX (cutbox-door.mjs). By AI agents, Wed Nov 11 2026. No macro, syntax, notation, axiom, sorry.
-/
import Derived.Test.YtilpkebkhibpeaaDoorRows
import GoSem.ClaimSeven
namespace Go.Proofs.YtilpkebkhibpeaaDoor
namespace Rows

/-- THE TIED CARD OF 'chartularylaw13.KeyringNews'. -/
def keyringNewsCard : Claim7 := { stood := { row := keyringNewsRow, standIns := [], harness := (true, "afd19ef4cac23fa0f0a25b7c5395ff37e00aa6f5a5b14eea1928ce06452eaf2f"), looks := false }, kinds := [], alts := [], laidByText := true, laidKinds := [.data, .pinned], laidTests := true, laidLooks := .later }
def KeyringNewsCardSaid : Prop := Claim7.holds Tryd.pinned (.plain (OpenSpec.ofChange keyringNewsSpec)) keyringNewsCard

/-- THE TIED CARD OF 'chartularylaw13.KeyringShreds'. -/
def keyringShredsCard : Claim7 := { stood := { row := keyringShredsRow, standIns := [], harness := (true, "afd19ef4cac23fa0f0a25b7c5395ff37e00aa6f5a5b14eea1928ce06452eaf2f"), looks := false }, kinds := [], alts := [], laidByText := true, laidKinds := [.data, .pinned], laidTests := true, laidLooks := .later }
def KeyringShredsCardSaid : Prop := Claim7.holds Tryd.pinned (.plain (OpenSpec.ofChange keyringShredsSpec)) keyringShredsCard

/-- THE TIED CARD OF 'chartularylaw13.KeyringNobody'. -/
def keyringNobodyCard : Claim7 := { stood := { row := keyringNobodyRow, standIns := [], harness := (true, "afd19ef4cac23fa0f0a25b7c5395ff37e00aa6f5a5b14eea1928ce06452eaf2f"), looks := false }, kinds := [], alts := [], laidByText := true, laidKinds := [.data, .pinned], laidTests := true, laidLooks := .later }
def KeyringNobodyCardSaid : Prop := Claim7.holds Tryd.pinned (.plain (OpenSpec.ofChange keyringNobodySpec)) keyringNobodyCard

/-- THE SECOND FORM's CARD OF 'chartularylaw13.KeyringNews'. -/
def keyringNewsUptoCard : Claim7 := { stood := { row := keyringNewsUptoRow, standIns := [], harness := (true, "afd19ef4cac23fa0f0a25b7c5395ff37e00aa6f5a5b14eea1928ce06452eaf2f"), looks := false }, kinds := [], alts := [], laidByText := true, laidKinds := [.data, .pinned], laidTests := true, laidLooks := .later }
def KeyringNewsUptoCardSaid : Prop := Claim7.holds Tryd.pinned (.plain (OpenSpec.upto keyringNewsSpec)) keyringNewsUptoCard

/-- THE SECOND FORM's CARD OF 'chartularylaw13.KeyringShreds'. -/
def keyringShredsUptoCard : Claim7 := { stood := { row := keyringShredsUptoRow, standIns := [], harness := (true, "afd19ef4cac23fa0f0a25b7c5395ff37e00aa6f5a5b14eea1928ce06452eaf2f"), looks := false }, kinds := [], alts := [], laidByText := true, laidKinds := [.data, .pinned], laidTests := true, laidLooks := .later }
def KeyringShredsUptoCardSaid : Prop := Claim7.holds Tryd.pinned (.plain (OpenSpec.upto keyringShredsSpec)) keyringShredsUptoCard

/-- THE SECOND FORM's CARD OF 'chartularylaw13.KeyringNobody'. -/
def keyringNobodyUptoCard : Claim7 := { stood := { row := keyringNobodyUptoRow, standIns := [], harness := (true, "afd19ef4cac23fa0f0a25b7c5395ff37e00aa6f5a5b14eea1928ce06452eaf2f"), looks := false }, kinds := [], alts := [], laidByText := true, laidKinds := [.data, .pinned], laidTests := true, laidLooks := .later }
def KeyringNobodyUptoCardSaid : Prop := Claim7.holds Tryd.pinned (.plain (OpenSpec.upto keyringNobodySpec)) keyringNobodyUptoCard
end Rows
end Go.Proofs.YtilpkebkhibpeaaDoor
