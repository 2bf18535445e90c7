/-
  No cell of these rows narrows 'for every input' (looked for: loops, veiled, ifaces, maps, wideKeys, modest, calm, conditions, laid).
  DERIVED. THE GIVEN ROWS OF THIS SEAT. 5 by the template 'for every input the law returns true; each argument reads behind the call as it read before'; 0 by the template 'total and deterministic' (their statements: YtgkkgmnomiokbaaTotals.lean).
  GIVEN WITH THE SEED: the statements are not yours to turn. If you find one false, say at which input.
  Laid BY PROGRAM, IN A SANDBOX (cutbox-rows.mjs): the forced cells as the released guide's own fill.sh prints them over the translation 732c1664c14942c0… (all of the seat's roots in one cut). By AI agents, Wed Nov 11 2026. No macro, syntax, notation, axiom, sorry.
-/
import Derived.Test.YtgkkgmnomiokbaaChecked
import GoSem.Claim
import GoSem.ClaimJoined
import GoSem.ClaimMapViews
import Derived.JoinedTies
import Derived.KernelRfl
namespace Go.Proofs.Ytgkkgmnomiokbaa
/- THE CELL 'sum', in the pinned program and in every row, IS THE sha256 OF THE DUMP (.gsa) THAT YtgkkgmnomiokbaaProg.lean LOADS. Nothing in Lean hashes anything: it is a label: what it is worth is what the hold of that sum in a sandbox is worth. -/
noncomputable def Try.pinned : Pinned := { name := "ytgkkgmnomiokbaa", sum := "732c1664c14942c0f4cd405534de8dc8e87f3c909611f1a6b004ee5fda3642e0", checked := Try.checked }
namespace Rows
def none {H : Type} : Left H := { results := [], args := [] }

/-- 'chartularylaw03.MillTags': WHATEVER THE INPUT: true; the input reads as it did. -/
def millTagsSpec : ChangeSpec := { name := "millTags", fn := fun _ => fun
  | [d1, d2, d3] => { results := [.lit (.bool true)], args := [d1, d2, d3] }
  | _ => none }
def millTagsRow : OpenClaim := { program := "ytgkkgmnomiokbaa", sum := "732c1664c14942c0f4cd405534de8dc8e87f3c909611f1a6b004ee5fda3642e0", func := "chartulary/chartularylaw03.MillTags", spec := "millTags", inPlace := ["internal/abi.NoEscape", "internal/bytealg.MakeNoZero"], apart := false }
def MillTagsSaid : Prop := millTagsRow.holds Try.pinned (OpenSpec.ofChange millTagsSpec)

/-- ITS FALSE NEIGHBOUR: 'it returns false'. Refute it at one input. -/
def millTagsWrong : ChangeSpec := { name := "millTags", fn := fun _ => fun
  | [d1, d2, d3] => { results := [.lit (.bool false)], args := [d1, d2, d3] }
  | _ => none }
def MillTagsWrongFalsely : Prop := millTagsRow.holds Try.pinned (OpenSpec.ofChange millTagsWrong)

/-- 'chartularylaw03.MillStreams': WHATEVER THE INPUT: true; the input reads as it did. -/
def millStreamsSpec : ChangeSpec := { name := "millStreams", fn := fun _ => fun
  | [d1, d2, d3, d4] => { results := [.lit (.bool true)], args := [d1, d2, d3, d4] }
  | _ => none }
def millStreamsRow : OpenClaim := { program := "ytgkkgmnomiokbaa", sum := "732c1664c14942c0f4cd405534de8dc8e87f3c909611f1a6b004ee5fda3642e0", func := "chartulary/chartularylaw03.MillStreams", spec := "millStreams", inPlace := ["internal/abi.NoEscape", "internal/bytealg.MakeNoZero"], apart := false }
def MillStreamsSaid : Prop := millStreamsRow.holds Try.pinned (OpenSpec.ofChange millStreamsSpec)

/-- ITS FALSE NEIGHBOUR: 'it returns false'. Refute it at one input. -/
def millStreamsWrong : ChangeSpec := { name := "millStreams", fn := fun _ => fun
  | [d1, d2, d3, d4] => { results := [.lit (.bool false)], args := [d1, d2, d3, d4] }
  | _ => none }
def MillStreamsWrongFalsely : Prop := millStreamsRow.holds Try.pinned (OpenSpec.ofChange millStreamsWrong)

/-- 'chartularylaw03.MillFull': WHATEVER THE INPUT: true; the input reads as it did. -/
def millFullSpec : ChangeSpec := { name := "millFull", fn := fun _ => fun
  | [d] => { results := [.lit (.bool true)], args := [d] }
  | _ => none }
def millFullRow : OpenClaim := { program := "ytgkkgmnomiokbaa", sum := "732c1664c14942c0f4cd405534de8dc8e87f3c909611f1a6b004ee5fda3642e0", func := "chartulary/chartularylaw03.MillFull", spec := "millFull", inPlace := ["internal/abi.NoEscape", "internal/bytealg.MakeNoZero"], apart := false }
def MillFullSaid : Prop := millFullRow.holds Try.pinned (OpenSpec.ofChange millFullSpec)

/-- ITS FALSE NEIGHBOUR: 'it returns false'. Refute it at one input. -/
def millFullWrong : ChangeSpec := { name := "millFull", fn := fun _ => fun
  | [d] => { results := [.lit (.bool false)], args := [d] }
  | _ => none }
def MillFullWrongFalsely : Prop := millFullRow.holds Try.pinned (OpenSpec.ofChange millFullWrong)

/-- 'chartularylaw03.MillSums': WHATEVER THE INPUT: true; the input reads as it did. -/
def millSumsSpec : ChangeSpec := { name := "millSums", fn := fun _ => fun
  | [d1, d2] => { results := [.lit (.bool true)], args := [d1, d2] }
  | _ => none }
def millSumsRow : OpenClaim := { program := "ytgkkgmnomiokbaa", sum := "732c1664c14942c0f4cd405534de8dc8e87f3c909611f1a6b004ee5fda3642e0", func := "chartulary/chartularylaw03.MillSums", spec := "millSums", inPlace := ["internal/abi.NoEscape", "internal/bytealg.MakeNoZero"], apart := false }
def MillSumsSaid : Prop := millSumsRow.holds Try.pinned (OpenSpec.ofChange millSumsSpec)

/-- ITS FALSE NEIGHBOUR: 'it returns false'. Refute it at one input. -/
def millSumsWrong : ChangeSpec := { name := "millSums", fn := fun _ => fun
  | [d1, d2] => { results := [.lit (.bool false)], args := [d1, d2] }
  | _ => none }
def MillSumsWrongFalsely : Prop := millSumsRow.holds Try.pinned (OpenSpec.ofChange millSumsWrong)

/-- 'chartularylaw03.MillNobody': WHATEVER THE INPUT: true; the input reads as it did. -/
def millNobodySpec : ChangeSpec := { name := "millNobody", fn := fun _ => fun
  | [d1, d2] => { results := [.lit (.bool true)], args := [d1, d2] }
  | _ => none }
def millNobodyRow : OpenClaim := { program := "ytgkkgmnomiokbaa", sum := "732c1664c14942c0f4cd405534de8dc8e87f3c909611f1a6b004ee5fda3642e0", func := "chartulary/chartularylaw03.MillNobody", spec := "millNobody", inPlace := ["internal/abi.NoEscape", "internal/bytealg.MakeNoZero"], apart := false }
def MillNobodySaid : Prop := millNobodyRow.holds Try.pinned (OpenSpec.ofChange millNobodySpec)

/-- ITS FALSE NEIGHBOUR: 'it returns false'. Refute it at one input. -/
def millNobodyWrong : ChangeSpec := { name := "millNobody", fn := fun _ => fun
  | [d1, d2] => { results := [.lit (.bool false)], args := [d1, d2] }
  | _ => none }
def MillNobodyWrongFalsely : Prop := millNobodyRow.holds Try.pinned (OpenSpec.ofChange millNobodyWrong)

/- THE SECOND FORM. 'bulk': how many values and letters a reading holds, each counted each time it is reached (what is shared counts as often as it is met; a slice's spare places count too). A statement '..UptoSaid' is the law's where the arguments, and the package variables that the reading takes, are together of bulk at most 1048576: NARROWER than '..Said'. Prove '..Said' where nothing that the law and all that it calls make is longer than what came in: it says more and counts as full. Else prove '..UptoSaid'. A law counts once. -/
mutual
def uptoBulk {H : Type} : DataW H → Nat
  | .lit (.string bytes) => bytes.length + 1
  | .lit _ => 1
  | .nil => 1
  | .ptr d => uptoBulk d + 1
  | .slice elems spare => uptoBulkAll elems + uptoBulkAll spare + 1
  | .agg parts => uptoBulkAll parts + 1
  | .iface _ d => uptoBulk d + 1
  | .map entries => uptoBulkEntries entries + 1
  | .held _ => 1
def uptoBulkAll {H : Type} : List (DataW H) → Nat
  | [] => 0
  | d :: r => uptoBulk d + uptoBulkAll r
def uptoBulkEntries {H : Type} : List (Lit × DataW H) → Nat
  | [] => 0
  | x :: r => uptoBulkEntry x + uptoBulkEntries r
def uptoBulkEntry {H : Type} : Lit × DataW H → Nat
  | (.string bytes, d) => bytes.length + uptoBulk d + 1
  | (_, d) => uptoBulk d + 1
 end
def uptoSmall : (H : Type) → List (DataW H) → Bool := fun _ ds => decide (uptoBulkAll ds ≤ 1048576)
def OpenSpec.upto (s : _root_.Go.ChangeSpec) : _root_.Go.OpenSpec := { _root_.Go.OpenSpec.ofChange s with cond := some uptoSmall }

/-- 'chartularylaw03.MillTags', WHERE WHAT IT READS IS OF BULK AT MOST 1048576: true; the input reads as it did. -/
def millTagsUptoRow : OpenClaim := { program := "ytgkkgmnomiokbaa", sum := "732c1664c14942c0f4cd405534de8dc8e87f3c909611f1a6b004ee5fda3642e0", func := "chartulary/chartularylaw03.MillTags", spec := "millTags", inPlace := ["internal/abi.NoEscape", "internal/bytealg.MakeNoZero"], apart := false, narrowed := true }
def MillTagsUptoSaid : Prop := millTagsUptoRow.holds Try.pinned (OpenSpec.upto millTagsSpec)

/-- 'chartularylaw03.MillStreams', WHERE WHAT IT READS IS OF BULK AT MOST 1048576: true; the input reads as it did. -/
def millStreamsUptoRow : OpenClaim := { program := "ytgkkgmnomiokbaa", sum := "732c1664c14942c0f4cd405534de8dc8e87f3c909611f1a6b004ee5fda3642e0", func := "chartulary/chartularylaw03.MillStreams", spec := "millStreams", inPlace := ["internal/abi.NoEscape", "internal/bytealg.MakeNoZero"], apart := false, narrowed := true }
def MillStreamsUptoSaid : Prop := millStreamsUptoRow.holds Try.pinned (OpenSpec.upto millStreamsSpec)

/-- 'chartularylaw03.MillFull', WHERE WHAT IT READS IS OF BULK AT MOST 1048576: true; the input reads as it did. -/
def millFullUptoRow : OpenClaim := { program := "ytgkkgmnomiokbaa", sum := "732c1664c14942c0f4cd405534de8dc8e87f3c909611f1a6b004ee5fda3642e0", func := "chartulary/chartularylaw03.MillFull", spec := "millFull", inPlace := ["internal/abi.NoEscape", "internal/bytealg.MakeNoZero"], apart := false, narrowed := true }
def MillFullUptoSaid : Prop := millFullUptoRow.holds Try.pinned (OpenSpec.upto millFullSpec)

/-- 'chartularylaw03.MillSums', WHERE WHAT IT READS IS OF BULK AT MOST 1048576: true; the input reads as it did. -/
def millSumsUptoRow : OpenClaim := { program := "ytgkkgmnomiokbaa", sum := "732c1664c14942c0f4cd405534de8dc8e87f3c909611f1a6b004ee5fda3642e0", func := "chartulary/chartularylaw03.MillSums", spec := "millSums", inPlace := ["internal/abi.NoEscape", "internal/bytealg.MakeNoZero"], apart := false, narrowed := true }
def MillSumsUptoSaid : Prop := millSumsUptoRow.holds Try.pinned (OpenSpec.upto millSumsSpec)

/-- 'chartularylaw03.MillNobody', WHERE WHAT IT READS IS OF BULK AT MOST 1048576: true; the input reads as it did. -/
def millNobodyUptoRow : OpenClaim := { program := "ytgkkgmnomiokbaa", sum := "732c1664c14942c0f4cd405534de8dc8e87f3c909611f1a6b004ee5fda3642e0", func := "chartulary/chartularylaw03.MillNobody", spec := "millNobody", inPlace := ["internal/abi.NoEscape", "internal/bytealg.MakeNoZero"], apart := false, narrowed := true }
def MillNobodyUptoSaid : Prop := millNobodyUptoRow.holds Try.pinned (OpenSpec.upto millNobodySpec)

end Rows
end Go.Proofs.Ytgkkgmnomiokbaa
