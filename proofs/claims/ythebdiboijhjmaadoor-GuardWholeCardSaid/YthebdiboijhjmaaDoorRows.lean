/-
  NARROWER THAN 'FOR EVERY INPUT', by the rows' own cells (each row's printed sentence says how): GuardNumbers: laid · GuardReads: laid · GuardPuts: laid · GuardNobody: laid · GuardWhole: laid.
  DERIVED. THE GIVEN ROWS OF THIS SEAT. 5 by the template 'for every input the law returns true; each argument reads behind the call as it read before'; 0 by the template 'total and deterministic' (their statements: YthebdiboijhjmaaDoorTotals.lean).
  GIVEN WITH THE SEED: the statements are not yours to turn. If you find one false, say at which input.
  Laid BY PROGRAM, IN A SANDBOX (cutbox-rows.mjs): the forced cells as the released guide's own fill.sh prints them over the translation 1b9eb5707fff01bc… (all of the seat's roots in one cut). By AI agents, Wed Nov 11 2026. No macro, syntax, notation, axiom, sorry.
-/
import Derived.Test.YthebdiboijhjmaaDoorChecked
import GoSem.PinnedTables
import GoSem.Claim
import GoSem.ClaimJoined
import GoSem.ClaimMapViews
import Derived.JoinedTies
import Derived.KernelRfl
namespace Go.Proofs.YthebdiboijhjmaaDoor
/- THE CELL 'sum', in the pinned program and in every row, IS THE sha256 OF THE DUMP (.gsa) THAT YthebdiboijhjmaaDoorProg.lean LOADS. Nothing in Lean hashes anything: it is a label: what it is worth is what the hold of that sum in a sandbox is worth. -/
noncomputable def Tryd.pinned : Pinned := { name := "ythebdiboijhjmaadoor", sum := "1b9eb5707fff01bcb21c24e3873cbf7f8db87f5d9e0a8c5ba9bc3143d767ff60", checked := Tryd.checked }
namespace Rows
def none {H : Type} : Left H := { results := [], args := [] }

/- WHAT THE LISTED PACKAGE-LEVEL VARIABLES READ AS WHEN THE CALL BEGINS. Each datum BY PROGRAM (the guide's laid-datum.mjs) off the statement by which the dump's own 'gosem.cut.vars' lays the variable. In a bare row this is a premise. The card (YthebdiboijhjmaaDoorCards.lean) ties it to the program's text. -/
def laid_unicode_utf8_acceptRanges {H : Type} : DataW H := .agg [.agg [.lit (.int .u8 128), .lit (.int .u8 191)], .agg [.lit (.int .u8 160), .lit (.int .u8 191)], .agg [.lit (.int .u8 128), .lit (.int .u8 159)], .agg [.lit (.int .u8 144), .lit (.int .u8 191)], .agg [.lit (.int .u8 128), .lit (.int .u8 143)], .agg [.lit (.int .u8 0), .lit (.int .u8 0)], .agg [.lit (.int .u8 0), .lit (.int .u8 0)], .agg [.lit (.int .u8 0), .lit (.int .u8 0)], .agg [.lit (.int .u8 0), .lit (.int .u8 0)], .agg [.lit (.int .u8 0), .lit (.int .u8 0)], .agg [.lit (.int .u8 0), .lit (.int .u8 0)], .agg [.lit (.int .u8 0), .lit (.int .u8 0)], .agg [.lit (.int .u8 0), .lit (.int .u8 0)], .agg [.lit (.int .u8 0), .lit (.int .u8 0)], .agg [.lit (.int .u8 0), .lit (.int .u8 0)], .agg [.lit (.int .u8 0), .lit (.int .u8 0)]]
/-- One of Go's own tables, pinned by name: the form's constant. -/
def laid_unicode_utf8_first : DataW Unit := Go.Pinned.utf8First

/-- 'chartularylaw10.GuardNumbers': WHATEVER THE INPUT: true; the input reads as it did. -/
def guardNumbersSpec : ChangeSpec := { name := "guardNumbers", fn := fun _ => fun
  | [d1, d2] => { results := [.lit (.bool true)], args := [d1, d2] }
  | _ => none }
def guardNumbersRow : OpenClaim := { program := "ythebdiboijhjmaadoor", sum := "1b9eb5707fff01bcb21c24e3873cbf7f8db87f5d9e0a8c5ba9bc3143d767ff60", func := "chartulary/chartularylaw10.GuardNumbers", spec := "guardNumbers", inPlace := ["internal/abi.NoEscape", "internal/bytealg.MakeNoZero", "internal/bytealg.IndexByteString", "internal/bytealg.IndexString"], recurses := true, named := ["unicode/utf8.first", "unicode/utf8.acceptRanges", "internal/bytealg.MaxLen"], apart := false, laid := [("unicode/utf8.acceptRanges", laid_unicode_utf8_acceptRanges), ("unicode/utf8.first", laid_unicode_utf8_first)] }
def GuardNumbersSaid : Prop := guardNumbersRow.holds Tryd.pinned (OpenSpec.ofChange guardNumbersSpec)

/-- ITS FALSE NEIGHBOUR: 'it returns false'. Refute it at one input. -/
def guardNumbersWrong : ChangeSpec := { name := "guardNumbers", fn := fun _ => fun
  | [d1, d2] => { results := [.lit (.bool false)], args := [d1, d2] }
  | _ => none }
def GuardNumbersWrongFalsely : Prop := guardNumbersRow.holds Tryd.pinned (OpenSpec.ofChange guardNumbersWrong)

/-- 'chartularylaw10.GuardReads': WHATEVER THE INPUT: true; the input reads as it did. -/
def guardReadsSpec : ChangeSpec := { name := "guardReads", fn := fun _ => fun
  | [d] => { results := [.lit (.bool true)], args := [d] }
  | _ => none }
def guardReadsRow : OpenClaim := { program := "ythebdiboijhjmaadoor", sum := "1b9eb5707fff01bcb21c24e3873cbf7f8db87f5d9e0a8c5ba9bc3143d767ff60", func := "chartulary/chartularylaw10.GuardReads", spec := "guardReads", inPlace := ["internal/abi.NoEscape", "internal/bytealg.MakeNoZero", "internal/bytealg.IndexByteString", "internal/bytealg.IndexString"], recurses := true, named := ["unicode/utf8.first", "unicode/utf8.acceptRanges", "internal/bytealg.MaxLen"], apart := false, laid := [("unicode/utf8.acceptRanges", laid_unicode_utf8_acceptRanges), ("unicode/utf8.first", laid_unicode_utf8_first)] }
def GuardReadsSaid : Prop := guardReadsRow.holds Tryd.pinned (OpenSpec.ofChange guardReadsSpec)

/-- ITS FALSE NEIGHBOUR: 'it returns false'. Refute it at one input. -/
def guardReadsWrong : ChangeSpec := { name := "guardReads", fn := fun _ => fun
  | [d] => { results := [.lit (.bool false)], args := [d] }
  | _ => none }
def GuardReadsWrongFalsely : Prop := guardReadsRow.holds Tryd.pinned (OpenSpec.ofChange guardReadsWrong)

/-- 'chartularylaw10.GuardPuts': WHATEVER THE INPUT: true; the input reads as it did. -/
def guardPutsSpec : ChangeSpec := { name := "guardPuts", fn := fun _ => fun
  | [d1, d2, d3, d4] => { results := [.lit (.bool true)], args := [d1, d2, d3, d4] }
  | _ => none }
def guardPutsRow : OpenClaim := { program := "ythebdiboijhjmaadoor", sum := "1b9eb5707fff01bcb21c24e3873cbf7f8db87f5d9e0a8c5ba9bc3143d767ff60", func := "chartulary/chartularylaw10.GuardPuts", spec := "guardPuts", inPlace := ["internal/abi.NoEscape", "internal/bytealg.MakeNoZero", "internal/bytealg.IndexByteString", "internal/bytealg.IndexString"], recurses := true, named := ["unicode/utf8.first", "unicode/utf8.acceptRanges", "internal/bytealg.MaxLen"], apart := false, laid := [("unicode/utf8.acceptRanges", laid_unicode_utf8_acceptRanges), ("unicode/utf8.first", laid_unicode_utf8_first)] }
def GuardPutsSaid : Prop := guardPutsRow.holds Tryd.pinned (OpenSpec.ofChange guardPutsSpec)

/-- ITS FALSE NEIGHBOUR: 'it returns false'. Refute it at one input. -/
def guardPutsWrong : ChangeSpec := { name := "guardPuts", fn := fun _ => fun
  | [d1, d2, d3, d4] => { results := [.lit (.bool false)], args := [d1, d2, d3, d4] }
  | _ => none }
def GuardPutsWrongFalsely : Prop := guardPutsRow.holds Tryd.pinned (OpenSpec.ofChange guardPutsWrong)

/-- 'chartularylaw10.GuardNobody': WHATEVER THE INPUT: true; the input reads as it did. -/
def guardNobodySpec : ChangeSpec := { name := "guardNobody", fn := fun _ => fun
  | [d1, d2] => { results := [.lit (.bool true)], args := [d1, d2] }
  | _ => none }
def guardNobodyRow : OpenClaim := { program := "ythebdiboijhjmaadoor", sum := "1b9eb5707fff01bcb21c24e3873cbf7f8db87f5d9e0a8c5ba9bc3143d767ff60", func := "chartulary/chartularylaw10.GuardNobody", spec := "guardNobody", inPlace := ["internal/abi.NoEscape", "internal/bytealg.MakeNoZero", "internal/bytealg.IndexByteString", "internal/bytealg.IndexString"], recurses := true, named := ["unicode/utf8.first", "unicode/utf8.acceptRanges", "internal/bytealg.MaxLen"], apart := false, laid := [("unicode/utf8.acceptRanges", laid_unicode_utf8_acceptRanges), ("unicode/utf8.first", laid_unicode_utf8_first)] }
def GuardNobodySaid : Prop := guardNobodyRow.holds Tryd.pinned (OpenSpec.ofChange guardNobodySpec)

/-- ITS FALSE NEIGHBOUR: 'it returns false'. Refute it at one input. -/
def guardNobodyWrong : ChangeSpec := { name := "guardNobody", fn := fun _ => fun
  | [d1, d2] => { results := [.lit (.bool false)], args := [d1, d2] }
  | _ => none }
def GuardNobodyWrongFalsely : Prop := guardNobodyRow.holds Tryd.pinned (OpenSpec.ofChange guardNobodyWrong)

/-- 'chartularylaw10.GuardWhole': WHATEVER THE INPUT: true; the input reads as it did. -/
def guardWholeSpec : ChangeSpec := { name := "guardWhole", fn := fun _ => fun
  | [d1, d2, d3] => { results := [.lit (.bool true)], args := [d1, d2, d3] }
  | _ => none }
def guardWholeRow : OpenClaim := { program := "ythebdiboijhjmaadoor", sum := "1b9eb5707fff01bcb21c24e3873cbf7f8db87f5d9e0a8c5ba9bc3143d767ff60", func := "chartulary/chartularylaw10.GuardWhole", spec := "guardWhole", inPlace := ["internal/abi.NoEscape", "internal/bytealg.MakeNoZero", "internal/bytealg.IndexByteString", "internal/bytealg.IndexString"], recurses := true, named := ["unicode/utf8.first", "unicode/utf8.acceptRanges", "internal/bytealg.MaxLen"], apart := false, laid := [("unicode/utf8.acceptRanges", laid_unicode_utf8_acceptRanges), ("unicode/utf8.first", laid_unicode_utf8_first)] }
def GuardWholeSaid : Prop := guardWholeRow.holds Tryd.pinned (OpenSpec.ofChange guardWholeSpec)

/-- ITS FALSE NEIGHBOUR: 'it returns false'. Refute it at one input. -/
def guardWholeWrong : ChangeSpec := { name := "guardWhole", fn := fun _ => fun
  | [d1, d2, d3] => { results := [.lit (.bool false)], args := [d1, d2, d3] }
  | _ => none }
def GuardWholeWrongFalsely : Prop := guardWholeRow.holds Tryd.pinned (OpenSpec.ofChange guardWholeWrong)

/- THE SECOND FORM. 'bulk': how many values and letters a reading holds, each counted each time it is reached (what is shared counts as often as it is met; a slice's spare places count too). A statement '..UptoSaid' is the law's where the arguments, and the package variables that the reading takes, are together of bulk at most 1048576: NARROWER than '..Said'. Prove '..Said' where nothing that the law and all that it calls make is longer than what came in: it says more and counts as full. Else prove '..UptoSaid'. A law counts once. -/
mutual
def uptoBulk {H : Type} : DataW H → Nat
  | .lit (.string bytes) => bytes.length + 1
  | .lit _ => 1
  | .nil => 1
  | .ptr d => uptoBulk d + 1
  | .slice elems spare => uptoBulkAll elems + uptoBulkAll spare + 1
  | .agg parts => uptoBulkAll parts + 1
  | .iface _ d => uptoBulk d + 1
  | .map entries => uptoBulkEntries entries + 1
  | .held _ => 1
def uptoBulkAll {H : Type} : List (DataW H) → Nat
  | [] => 0
  | d :: r => uptoBulk d + uptoBulkAll r
def uptoBulkEntries {H : Type} : List (Lit × DataW H) → Nat
  | [] => 0
  | x :: r => uptoBulkEntry x + uptoBulkEntries r
def uptoBulkEntry {H : Type} : Lit × DataW H → Nat
  | (.string bytes, d) => bytes.length + uptoBulk d + 1
  | (_, d) => uptoBulk d + 1
 end
def uptoSmall : (H : Type) → List (DataW H) → Bool := fun _ ds => decide (uptoBulkAll ds ≤ 1048576)
def OpenSpec.upto (s : _root_.Go.ChangeSpec) : _root_.Go.OpenSpec := { _root_.Go.OpenSpec.ofChange s with cond := some uptoSmall }

/-- 'chartularylaw10.GuardNumbers', WHERE WHAT IT READS IS OF BULK AT MOST 1048576: true; the input reads as it did. -/
def guardNumbersUptoRow : OpenClaim := { program := "ythebdiboijhjmaadoor", sum := "1b9eb5707fff01bcb21c24e3873cbf7f8db87f5d9e0a8c5ba9bc3143d767ff60", func := "chartulary/chartularylaw10.GuardNumbers", spec := "guardNumbers", inPlace := ["internal/abi.NoEscape", "internal/bytealg.MakeNoZero", "internal/bytealg.IndexByteString", "internal/bytealg.IndexString"], recurses := true, named := ["unicode/utf8.first", "unicode/utf8.acceptRanges", "internal/bytealg.MaxLen"], apart := false, laid := [("unicode/utf8.acceptRanges", laid_unicode_utf8_acceptRanges), ("unicode/utf8.first", laid_unicode_utf8_first)], narrowed := true }
def GuardNumbersUptoSaid : Prop := guardNumbersUptoRow.holds Tryd.pinned (OpenSpec.upto guardNumbersSpec)

/-- 'chartularylaw10.GuardReads', WHERE WHAT IT READS IS OF BULK AT MOST 1048576: true; the input reads as it did. -/
def guardReadsUptoRow : OpenClaim := { program := "ythebdiboijhjmaadoor", sum := "1b9eb5707fff01bcb21c24e3873cbf7f8db87f5d9e0a8c5ba9bc3143d767ff60", func := "chartulary/chartularylaw10.GuardReads", spec := "guardReads", inPlace := ["internal/abi.NoEscape", "internal/bytealg.MakeNoZero", "internal/bytealg.IndexByteString", "internal/bytealg.IndexString"], recurses := true, named := ["unicode/utf8.first", "unicode/utf8.acceptRanges", "internal/bytealg.MaxLen"], apart := false, laid := [("unicode/utf8.acceptRanges", laid_unicode_utf8_acceptRanges), ("unicode/utf8.first", laid_unicode_utf8_first)], narrowed := true }
def GuardReadsUptoSaid : Prop := guardReadsUptoRow.holds Tryd.pinned (OpenSpec.upto guardReadsSpec)

/-- 'chartularylaw10.GuardPuts', WHERE WHAT IT READS IS OF BULK AT MOST 1048576: true; the input reads as it did. -/
def guardPutsUptoRow : OpenClaim := { program := "ythebdiboijhjmaadoor", sum := "1b9eb5707fff01bcb21c24e3873cbf7f8db87f5d9e0a8c5ba9bc3143d767ff60", func := "chartulary/chartularylaw10.GuardPuts", spec := "guardPuts", inPlace := ["internal/abi.NoEscape", "internal/bytealg.MakeNoZero", "internal/bytealg.IndexByteString", "internal/bytealg.IndexString"], recurses := true, named := ["unicode/utf8.first", "unicode/utf8.acceptRanges", "internal/bytealg.MaxLen"], apart := false, laid := [("unicode/utf8.acceptRanges", laid_unicode_utf8_acceptRanges), ("unicode/utf8.first", laid_unicode_utf8_first)], narrowed := true }
def GuardPutsUptoSaid : Prop := guardPutsUptoRow.holds Tryd.pinned (OpenSpec.upto guardPutsSpec)

/-- 'chartularylaw10.GuardNobody', WHERE WHAT IT READS IS OF BULK AT MOST 1048576: true; the input reads as it did. -/
def guardNobodyUptoRow : OpenClaim := { program := "ythebdiboijhjmaadoor", sum := "1b9eb5707fff01bcb21c24e3873cbf7f8db87f5d9e0a8c5ba9bc3143d767ff60", func := "chartulary/chartularylaw10.GuardNobody", spec := "guardNobody", inPlace := ["internal/abi.NoEscape", "internal/bytealg.MakeNoZero", "internal/bytealg.IndexByteString", "internal/bytealg.IndexString"], recurses := true, named := ["unicode/utf8.first", "unicode/utf8.acceptRanges", "internal/bytealg.MaxLen"], apart := false, laid := [("unicode/utf8.acceptRanges", laid_unicode_utf8_acceptRanges), ("unicode/utf8.first", laid_unicode_utf8_first)], narrowed := true }
def GuardNobodyUptoSaid : Prop := guardNobodyUptoRow.holds Tryd.pinned (OpenSpec.upto guardNobodySpec)

/-- 'chartularylaw10.GuardWhole', WHERE WHAT IT READS IS OF BULK AT MOST 1048576: true; the input reads as it did. -/
def guardWholeUptoRow : OpenClaim := { program := "ythebdiboijhjmaadoor", sum := "1b9eb5707fff01bcb21c24e3873cbf7f8db87f5d9e0a8c5ba9bc3143d767ff60", func := "chartulary/chartularylaw10.GuardWhole", spec := "guardWhole", inPlace := ["internal/abi.NoEscape", "internal/bytealg.MakeNoZero", "internal/bytealg.IndexByteString", "internal/bytealg.IndexString"], recurses := true, named := ["unicode/utf8.first", "unicode/utf8.acceptRanges", "internal/bytealg.MaxLen"], apart := false, laid := [("unicode/utf8.acceptRanges", laid_unicode_utf8_acceptRanges), ("unicode/utf8.first", laid_unicode_utf8_first)], narrowed := true }
def GuardWholeUptoSaid : Prop := guardWholeUptoRow.holds Tryd.pinned (OpenSpec.upto guardWholeSpec)

end Rows
end Go.Proofs.YthebdiboijhjmaaDoor
