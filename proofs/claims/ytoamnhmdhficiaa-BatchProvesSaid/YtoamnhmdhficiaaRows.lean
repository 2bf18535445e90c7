/-
  No cell of these rows narrows 'for every input' (looked for: loops, veiled, ifaces, maps, wideKeys, modest, calm, conditions, laid).
  DERIVED. THE GIVEN ROWS OF THIS SEAT. 5 by the template 'for every input the law returns true; each argument reads behind the call as it read before'; 0 by the template 'total and deterministic' (their statements: YtoamnhmdhficiaaTotals.lean).
  GIVEN WITH THE SEED: the statements are not yours to turn. If you find one false, say at which input.
  Laid BY PROGRAM, IN A SANDBOX (cutbox-rows.mjs): the forced cells as the released guide's own fill.sh prints them over the translation 6bf0c0c09421e9ce… (all of the seat's roots in one cut). By AI agents, Wed Nov 11 2026. No macro, syntax, notation, axiom, sorry.
-/
import Derived.Test.YtoamnhmdhficiaaChecked
import GoSem.Claim
import GoSem.ClaimJoined
import GoSem.ClaimMapViews
import Derived.JoinedTies
import Derived.KernelRfl
namespace Go.Proofs.Ytoamnhmdhficiaa
/- THE CELL 'sum', in the pinned program and in every row, IS THE sha256 OF THE DUMP (.gsa) THAT YtoamnhmdhficiaaProg.lean LOADS. Nothing in Lean hashes anything: it is a label: what it is worth is what the hold of that sum in a sandbox is worth. -/
noncomputable def Try.pinned : Pinned := { name := "ytoamnhmdhficiaa", sum := "6bf0c0c09421e9ce5ed3a1c7ff89602a8dcc766aab8bce04db0cc18bf2d5d391", checked := Try.checked }
namespace Rows
def none {H : Type} : Left H := { results := [], args := [] }

/-- 'chartularylaw30.BatchRoots': WHATEVER THE INPUT: true; the input reads as it did. -/
def batchRootsSpec : ChangeSpec := { name := "batchRoots", fn := fun _ => fun
  | [d] => { results := [.lit (.bool true)], args := [d] }
  | _ => none }
def batchRootsRow : OpenClaim := { program := "ytoamnhmdhficiaa", sum := "6bf0c0c09421e9ce5ed3a1c7ff89602a8dcc766aab8bce04db0cc18bf2d5d391", func := "chartulary/chartularylaw30.BatchRoots", spec := "batchRoots", recurses := true, apart := false }
def BatchRootsSaid : Prop := batchRootsRow.holds Try.pinned (OpenSpec.ofChange batchRootsSpec)

/-- ITS FALSE NEIGHBOUR: 'it returns false'. Refute it at one input. -/
def batchRootsWrong : ChangeSpec := { name := "batchRoots", fn := fun _ => fun
  | [d] => { results := [.lit (.bool false)], args := [d] }
  | _ => none }
def BatchRootsWrongFalsely : Prop := batchRootsRow.holds Try.pinned (OpenSpec.ofChange batchRootsWrong)

/-- 'chartularylaw30.BatchProves': WHATEVER THE INPUT: true; the input reads as it did. -/
def batchProvesSpec : ChangeSpec := { name := "batchProves", fn := fun _ => fun
  | [d1, d2] => { results := [.lit (.bool true)], args := [d1, d2] }
  | _ => none }
def batchProvesRow : OpenClaim := { program := "ytoamnhmdhficiaa", sum := "6bf0c0c09421e9ce5ed3a1c7ff89602a8dcc766aab8bce04db0cc18bf2d5d391", func := "chartulary/chartularylaw30.BatchProves", spec := "batchProves", recurses := true, apart := false }
def BatchProvesSaid : Prop := batchProvesRow.holds Try.pinned (OpenSpec.ofChange batchProvesSpec)

/-- ITS FALSE NEIGHBOUR: 'it returns false'. Refute it at one input. -/
def batchProvesWrong : ChangeSpec := { name := "batchProves", fn := fun _ => fun
  | [d1, d2] => { results := [.lit (.bool false)], args := [d1, d2] }
  | _ => none }
def BatchProvesWrongFalsely : Prop := batchProvesRow.holds Try.pinned (OpenSpec.ofChange batchProvesWrong)

/-- 'chartularylaw30.BatchApart': WHATEVER THE INPUT: true; the input reads as it did. -/
def batchApartSpec : ChangeSpec := { name := "batchApart", fn := fun _ => fun
  | [d1, d2, d3] => { results := [.lit (.bool true)], args := [d1, d2, d3] }
  | _ => none }
def batchApartRow : OpenClaim := { program := "ytoamnhmdhficiaa", sum := "6bf0c0c09421e9ce5ed3a1c7ff89602a8dcc766aab8bce04db0cc18bf2d5d391", func := "chartulary/chartularylaw30.BatchApart", spec := "batchApart", recurses := true, apart := false }
def BatchApartSaid : Prop := batchApartRow.holds Try.pinned (OpenSpec.ofChange batchApartSpec)

/-- ITS FALSE NEIGHBOUR: 'it returns false'. Refute it at one input. -/
def batchApartWrong : ChangeSpec := { name := "batchApart", fn := fun _ => fun
  | [d1, d2, d3] => { results := [.lit (.bool false)], args := [d1, d2, d3] }
  | _ => none }
def BatchApartWrongFalsely : Prop := batchApartRow.holds Try.pinned (OpenSpec.ofChange batchApartWrong)

/-- 'chartularylaw30.BatchReads': WHATEVER THE INPUT: true; the input reads as it did. -/
def batchReadsSpec : ChangeSpec := { name := "batchReads", fn := fun _ => fun
  | [d] => { results := [.lit (.bool true)], args := [d] }
  | _ => none }
def batchReadsRow : OpenClaim := { program := "ytoamnhmdhficiaa", sum := "6bf0c0c09421e9ce5ed3a1c7ff89602a8dcc766aab8bce04db0cc18bf2d5d391", func := "chartulary/chartularylaw30.BatchReads", spec := "batchReads", recurses := true, apart := false }
def BatchReadsSaid : Prop := batchReadsRow.holds Try.pinned (OpenSpec.ofChange batchReadsSpec)

/-- ITS FALSE NEIGHBOUR: 'it returns false'. Refute it at one input. -/
def batchReadsWrong : ChangeSpec := { name := "batchReads", fn := fun _ => fun
  | [d] => { results := [.lit (.bool false)], args := [d] }
  | _ => none }
def BatchReadsWrongFalsely : Prop := batchReadsRow.holds Try.pinned (OpenSpec.ofChange batchReadsWrong)

/-- 'chartularylaw30.BatchBytes': WHATEVER THE INPUT: true; the input reads as it did. -/
def batchBytesSpec : ChangeSpec := { name := "batchBytes", fn := fun _ => fun
  | [d] => { results := [.lit (.bool true)], args := [d] }
  | _ => none }
def batchBytesRow : OpenClaim := { program := "ytoamnhmdhficiaa", sum := "6bf0c0c09421e9ce5ed3a1c7ff89602a8dcc766aab8bce04db0cc18bf2d5d391", func := "chartulary/chartularylaw30.BatchBytes", spec := "batchBytes", recurses := true, apart := false }
def BatchBytesSaid : Prop := batchBytesRow.holds Try.pinned (OpenSpec.ofChange batchBytesSpec)

/-- ITS FALSE NEIGHBOUR: 'it returns false'. Refute it at one input. -/
def batchBytesWrong : ChangeSpec := { name := "batchBytes", fn := fun _ => fun
  | [d] => { results := [.lit (.bool false)], args := [d] }
  | _ => none }
def BatchBytesWrongFalsely : Prop := batchBytesRow.holds Try.pinned (OpenSpec.ofChange batchBytesWrong)

/- THE SECOND FORM. 'bulk': how many values and letters a reading holds, each counted each time it is reached (what is shared counts as often as it is met; a slice's spare places count too). A statement '..UptoSaid' is the law's where the arguments, and the package variables that the reading takes, are together of bulk at most 1048576: NARROWER than '..Said'. Prove '..Said' where nothing that the law and all that it calls make is longer than what came in: it says more and counts as full. Else prove '..UptoSaid'. A law counts once. -/
mutual
def uptoBulk {H : Type} : DataW H → Nat
  | .lit (.string bytes) => bytes.length + 1
  | .lit _ => 1
  | .nil => 1
  | .ptr d => uptoBulk d + 1
  | .slice elems spare => uptoBulkAll elems + uptoBulkAll spare + 1
  | .agg parts => uptoBulkAll parts + 1
  | .iface _ d => uptoBulk d + 1
  | .map entries => uptoBulkEntries entries + 1
  | .held _ => 1
def uptoBulkAll {H : Type} : List (DataW H) → Nat
  | [] => 0
  | d :: r => uptoBulk d + uptoBulkAll r
def uptoBulkEntries {H : Type} : List (Lit × DataW H) → Nat
  | [] => 0
  | x :: r => uptoBulkEntry x + uptoBulkEntries r
def uptoBulkEntry {H : Type} : Lit × DataW H → Nat
  | (.string bytes, d) => bytes.length + uptoBulk d + 1
  | (_, d) => uptoBulk d + 1
 end
def uptoSmall : (H : Type) → List (DataW H) → Bool := fun _ ds => decide (uptoBulkAll ds ≤ 1048576)
def OpenSpec.upto (s : _root_.Go.ChangeSpec) : _root_.Go.OpenSpec := { _root_.Go.OpenSpec.ofChange s with cond := some uptoSmall }

/-- 'chartularylaw30.BatchRoots', WHERE WHAT IT READS IS OF BULK AT MOST 1048576: true; the input reads as it did. -/
def batchRootsUptoRow : OpenClaim := { program := "ytoamnhmdhficiaa", sum := "6bf0c0c09421e9ce5ed3a1c7ff89602a8dcc766aab8bce04db0cc18bf2d5d391", func := "chartulary/chartularylaw30.BatchRoots", spec := "batchRoots", recurses := true, apart := false, narrowed := true }
def BatchRootsUptoSaid : Prop := batchRootsUptoRow.holds Try.pinned (OpenSpec.upto batchRootsSpec)

/-- 'chartularylaw30.BatchProves', WHERE WHAT IT READS IS OF BULK AT MOST 1048576: true; the input reads as it did. -/
def batchProvesUptoRow : OpenClaim := { program := "ytoamnhmdhficiaa", sum := "6bf0c0c09421e9ce5ed3a1c7ff89602a8dcc766aab8bce04db0cc18bf2d5d391", func := "chartulary/chartularylaw30.BatchProves", spec := "batchProves", recurses := true, apart := false, narrowed := true }
def BatchProvesUptoSaid : Prop := batchProvesUptoRow.holds Try.pinned (OpenSpec.upto batchProvesSpec)

/-- 'chartularylaw30.BatchApart', WHERE WHAT IT READS IS OF BULK AT MOST 1048576: true; the input reads as it did. -/
def batchApartUptoRow : OpenClaim := { program := "ytoamnhmdhficiaa", sum := "6bf0c0c09421e9ce5ed3a1c7ff89602a8dcc766aab8bce04db0cc18bf2d5d391", func := "chartulary/chartularylaw30.BatchApart", spec := "batchApart", recurses := true, apart := false, narrowed := true }
def BatchApartUptoSaid : Prop := batchApartUptoRow.holds Try.pinned (OpenSpec.upto batchApartSpec)

/-- 'chartularylaw30.BatchReads', WHERE WHAT IT READS IS OF BULK AT MOST 1048576: true; the input reads as it did. -/
def batchReadsUptoRow : OpenClaim := { program := "ytoamnhmdhficiaa", sum := "6bf0c0c09421e9ce5ed3a1c7ff89602a8dcc766aab8bce04db0cc18bf2d5d391", func := "chartulary/chartularylaw30.BatchReads", spec := "batchReads", recurses := true, apart := false, narrowed := true }
def BatchReadsUptoSaid : Prop := batchReadsUptoRow.holds Try.pinned (OpenSpec.upto batchReadsSpec)

/-- 'chartularylaw30.BatchBytes', WHERE WHAT IT READS IS OF BULK AT MOST 1048576: true; the input reads as it did. -/
def batchBytesUptoRow : OpenClaim := { program := "ytoamnhmdhficiaa", sum := "6bf0c0c09421e9ce5ed3a1c7ff89602a8dcc766aab8bce04db0cc18bf2d5d391", func := "chartulary/chartularylaw30.BatchBytes", spec := "batchBytes", recurses := true, apart := false, narrowed := true }
def BatchBytesUptoSaid : Prop := batchBytesUptoRow.holds Try.pinned (OpenSpec.upto batchBytesSpec)

end Rows
end Go.Proofs.Ytoamnhmdhficiaa
