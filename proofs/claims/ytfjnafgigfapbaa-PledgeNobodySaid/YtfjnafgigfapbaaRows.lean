/-
  No cell of these rows narrows 'for every input' (looked for: loops, veiled, ifaces, maps, wideKeys, modest, calm, conditions, laid).
  DERIVED. THE GIVEN ROWS OF THIS SEAT. 7 by the template 'for every input the law returns true; each argument reads behind the call as it read before'; 0 by the template 'total and deterministic' (their statements: YtfjnafgigfapbaaTotals.lean).
  GIVEN WITH THE SEED: the statements are not yours to turn. If you find one false, say at which input.
  Laid BY PROGRAM, IN A SANDBOX (cutbox-rows.mjs): the forced cells as the released guide's own fill.sh prints them over the translation b89881ac10a37541… (all of the seat's roots in one cut). By AI agents, Wed Nov 11 2026. No macro, syntax, notation, axiom, sorry.
-/
import Derived.Test.YtfjnafgigfapbaaChecked
import GoSem.Claim
import GoSem.ClaimJoined
import GoSem.ClaimMapViews
import Derived.JoinedTies
import Derived.KernelRfl
namespace Go.Proofs.Ytfjnafgigfapbaa
/- THE CELL 'sum', in the pinned program and in every row, IS THE sha256 OF THE DUMP (.gsa) THAT YtfjnafgigfapbaaProg.lean LOADS. Nothing in Lean hashes anything: it is a label: what it is worth is what the hold of that sum in a sandbox is worth. -/
noncomputable def Try.pinned : Pinned := { name := "ytfjnafgigfapbaa", sum := "b89881ac10a37541d8ff2569fede8efe8c22f455b1b59139cf6b361436f8b778", checked := Try.checked }
namespace Rows
def none {H : Type} : Left H := { results := [], args := [] }

/-- 'chartularylaw06.PledgeKeys': WHATEVER THE INPUT: true; the input reads as it did. -/
def pledgeKeysSpec : ChangeSpec := { name := "pledgeKeys", fn := fun _ => fun
  | [d1, d2] => { results := [.lit (.bool true)], args := [d1, d2] }
  | _ => none }
def pledgeKeysRow : OpenClaim := { program := "ytfjnafgigfapbaa", sum := "b89881ac10a37541d8ff2569fede8efe8c22f455b1b59139cf6b361436f8b778", func := "chartulary/chartularylaw06.PledgeKeys", spec := "pledgeKeys", inPlace := ["internal/abi.NoEscape", "internal/bytealg.MakeNoZero"], apart := false }
def PledgeKeysSaid : Prop := pledgeKeysRow.holds Try.pinned (OpenSpec.ofChange pledgeKeysSpec)

/-- ITS FALSE NEIGHBOUR: 'it returns false'. Refute it at one input. -/
def pledgeKeysWrong : ChangeSpec := { name := "pledgeKeys", fn := fun _ => fun
  | [d1, d2] => { results := [.lit (.bool false)], args := [d1, d2] }
  | _ => none }
def PledgeKeysWrongFalsely : Prop := pledgeKeysRow.holds Try.pinned (OpenSpec.ofChange pledgeKeysWrong)

/-- 'chartularylaw06.PledgeShuts': WHATEVER THE INPUT: true; the input reads as it did. -/
def pledgeShutsSpec : ChangeSpec := { name := "pledgeShuts", fn := fun _ => fun
  | [d1, d2, d3, d4] => { results := [.lit (.bool true)], args := [d1, d2, d3, d4] }
  | _ => none }
def pledgeShutsRow : OpenClaim := { program := "ytfjnafgigfapbaa", sum := "b89881ac10a37541d8ff2569fede8efe8c22f455b1b59139cf6b361436f8b778", func := "chartulary/chartularylaw06.PledgeShuts", spec := "pledgeShuts", inPlace := ["internal/abi.NoEscape", "internal/bytealg.MakeNoZero"], apart := false }
def PledgeShutsSaid : Prop := pledgeShutsRow.holds Try.pinned (OpenSpec.ofChange pledgeShutsSpec)

/-- ITS FALSE NEIGHBOUR: 'it returns false'. Refute it at one input. -/
def pledgeShutsWrong : ChangeSpec := { name := "pledgeShuts", fn := fun _ => fun
  | [d1, d2, d3, d4] => { results := [.lit (.bool false)], args := [d1, d2, d3, d4] }
  | _ => none }
def PledgeShutsWrongFalsely : Prop := pledgeShutsRow.holds Try.pinned (OpenSpec.ofChange pledgeShutsWrong)

/-- 'chartularylaw06.PledgeSlips': WHATEVER THE INPUT: true; the input reads as it did. -/
def pledgeSlipsSpec : ChangeSpec := { name := "pledgeSlips", fn := fun _ => fun
  | [d1, d2, d3, d4] => { results := [.lit (.bool true)], args := [d1, d2, d3, d4] }
  | _ => none }
def pledgeSlipsRow : OpenClaim := { program := "ytfjnafgigfapbaa", sum := "b89881ac10a37541d8ff2569fede8efe8c22f455b1b59139cf6b361436f8b778", func := "chartulary/chartularylaw06.PledgeSlips", spec := "pledgeSlips", inPlace := ["internal/abi.NoEscape", "internal/bytealg.MakeNoZero"], apart := false }
def PledgeSlipsSaid : Prop := pledgeSlipsRow.holds Try.pinned (OpenSpec.ofChange pledgeSlipsSpec)

/-- ITS FALSE NEIGHBOUR: 'it returns false'. Refute it at one input. -/
def pledgeSlipsWrong : ChangeSpec := { name := "pledgeSlips", fn := fun _ => fun
  | [d1, d2, d3, d4] => { results := [.lit (.bool false)], args := [d1, d2, d3, d4] }
  | _ => none }
def PledgeSlipsWrongFalsely : Prop := pledgeSlipsRow.holds Try.pinned (OpenSpec.ofChange pledgeSlipsWrong)

/-- 'chartularylaw06.PledgeKepts': WHATEVER THE INPUT: true; the input reads as it did. -/
def pledgeKeptsSpec : ChangeSpec := { name := "pledgeKepts", fn := fun _ => fun
  | [d1, d2, d3] => { results := [.lit (.bool true)], args := [d1, d2, d3] }
  | _ => none }
def pledgeKeptsRow : OpenClaim := { program := "ytfjnafgigfapbaa", sum := "b89881ac10a37541d8ff2569fede8efe8c22f455b1b59139cf6b361436f8b778", func := "chartulary/chartularylaw06.PledgeKepts", spec := "pledgeKepts", inPlace := ["internal/abi.NoEscape", "internal/bytealg.MakeNoZero"], apart := false }
def PledgeKeptsSaid : Prop := pledgeKeptsRow.holds Try.pinned (OpenSpec.ofChange pledgeKeptsSpec)

/-- ITS FALSE NEIGHBOUR: 'it returns false'. Refute it at one input. -/
def pledgeKeptsWrong : ChangeSpec := { name := "pledgeKepts", fn := fun _ => fun
  | [d1, d2, d3] => { results := [.lit (.bool false)], args := [d1, d2, d3] }
  | _ => none }
def PledgeKeptsWrongFalsely : Prop := pledgeKeptsRow.holds Try.pinned (OpenSpec.ofChange pledgeKeptsWrong)

/-- 'chartularylaw06.PledgeSums': WHATEVER THE INPUT: true; the input reads as it did. -/
def pledgeSumsSpec : ChangeSpec := { name := "pledgeSums", fn := fun _ => fun
  | [d1, d2, d3, d4] => { results := [.lit (.bool true)], args := [d1, d2, d3, d4] }
  | _ => none }
def pledgeSumsRow : OpenClaim := { program := "ytfjnafgigfapbaa", sum := "b89881ac10a37541d8ff2569fede8efe8c22f455b1b59139cf6b361436f8b778", func := "chartulary/chartularylaw06.PledgeSums", spec := "pledgeSums", inPlace := ["internal/abi.NoEscape", "internal/bytealg.MakeNoZero"], apart := false }
def PledgeSumsSaid : Prop := pledgeSumsRow.holds Try.pinned (OpenSpec.ofChange pledgeSumsSpec)

/-- ITS FALSE NEIGHBOUR: 'it returns false'. Refute it at one input. -/
def pledgeSumsWrong : ChangeSpec := { name := "pledgeSums", fn := fun _ => fun
  | [d1, d2, d3, d4] => { results := [.lit (.bool false)], args := [d1, d2, d3, d4] }
  | _ => none }
def PledgeSumsWrongFalsely : Prop := pledgeSumsRow.holds Try.pinned (OpenSpec.ofChange pledgeSumsWrong)

/-- 'chartularylaw06.PledgeNobody': WHATEVER THE INPUT: true; the input reads as it did. -/
def pledgeNobodySpec : ChangeSpec := { name := "pledgeNobody", fn := fun _ => fun
  | [d] => { results := [.lit (.bool true)], args := [d] }
  | _ => none }
def pledgeNobodyRow : OpenClaim := { program := "ytfjnafgigfapbaa", sum := "b89881ac10a37541d8ff2569fede8efe8c22f455b1b59139cf6b361436f8b778", func := "chartulary/chartularylaw06.PledgeNobody", spec := "pledgeNobody", inPlace := ["internal/abi.NoEscape", "internal/bytealg.MakeNoZero"], apart := false }
def PledgeNobodySaid : Prop := pledgeNobodyRow.holds Try.pinned (OpenSpec.ofChange pledgeNobodySpec)

/-- ITS FALSE NEIGHBOUR: 'it returns false'. Refute it at one input. -/
def pledgeNobodyWrong : ChangeSpec := { name := "pledgeNobody", fn := fun _ => fun
  | [d] => { results := [.lit (.bool false)], args := [d] }
  | _ => none }
def PledgeNobodyWrongFalsely : Prop := pledgeNobodyRow.holds Try.pinned (OpenSpec.ofChange pledgeNobodyWrong)

/-- 'chartularylaw06.PledgeApart': WHATEVER THE INPUT: true; the input reads as it did. -/
def pledgeApartSpec : ChangeSpec := { name := "pledgeApart", fn := fun _ => fun
  | [d1, d2, d3] => { results := [.lit (.bool true)], args := [d1, d2, d3] }
  | _ => none }
def pledgeApartRow : OpenClaim := { program := "ytfjnafgigfapbaa", sum := "b89881ac10a37541d8ff2569fede8efe8c22f455b1b59139cf6b361436f8b778", func := "chartulary/chartularylaw06.PledgeApart", spec := "pledgeApart", inPlace := ["internal/abi.NoEscape", "internal/bytealg.MakeNoZero"], apart := false }
def PledgeApartSaid : Prop := pledgeApartRow.holds Try.pinned (OpenSpec.ofChange pledgeApartSpec)

/-- ITS FALSE NEIGHBOUR: 'it returns false'. Refute it at one input. -/
def pledgeApartWrong : ChangeSpec := { name := "pledgeApart", fn := fun _ => fun
  | [d1, d2, d3] => { results := [.lit (.bool false)], args := [d1, d2, d3] }
  | _ => none }
def PledgeApartWrongFalsely : Prop := pledgeApartRow.holds Try.pinned (OpenSpec.ofChange pledgeApartWrong)

/- THE SECOND FORM. 'bulk': how many values and letters a reading holds, each counted each time it is reached (what is shared counts as often as it is met; a slice's spare places count too). A statement '..UptoSaid' is the law's where the arguments, and the package variables that the reading takes, are together of bulk at most 1048576: NARROWER than '..Said'. Prove '..Said' where nothing that the law and all that it calls make is longer than what came in: it says more and counts as full. Else prove '..UptoSaid'. A law counts once. -/
mutual
def uptoBulk {H : Type} : DataW H → Nat
  | .lit (.string bytes) => bytes.length + 1
  | .lit _ => 1
  | .nil => 1
  | .ptr d => uptoBulk d + 1
  | .slice elems spare => uptoBulkAll elems + uptoBulkAll spare + 1
  | .agg parts => uptoBulkAll parts + 1
  | .iface _ d => uptoBulk d + 1
  | .map entries => uptoBulkEntries entries + 1
  | .held _ => 1
def uptoBulkAll {H : Type} : List (DataW H) → Nat
  | [] => 0
  | d :: r => uptoBulk d + uptoBulkAll r
def uptoBulkEntries {H : Type} : List (Lit × DataW H) → Nat
  | [] => 0
  | x :: r => uptoBulkEntry x + uptoBulkEntries r
def uptoBulkEntry {H : Type} : Lit × DataW H → Nat
  | (.string bytes, d) => bytes.length + uptoBulk d + 1
  | (_, d) => uptoBulk d + 1
 end
def uptoSmall : (H : Type) → List (DataW H) → Bool := fun _ ds => decide (uptoBulkAll ds ≤ 1048576)
def OpenSpec.upto (s : _root_.Go.ChangeSpec) : _root_.Go.OpenSpec := { _root_.Go.OpenSpec.ofChange s with cond := some uptoSmall }

/-- 'chartularylaw06.PledgeKeys', WHERE WHAT IT READS IS OF BULK AT MOST 1048576: true; the input reads as it did. -/
def pledgeKeysUptoRow : OpenClaim := { program := "ytfjnafgigfapbaa", sum := "b89881ac10a37541d8ff2569fede8efe8c22f455b1b59139cf6b361436f8b778", func := "chartulary/chartularylaw06.PledgeKeys", spec := "pledgeKeys", inPlace := ["internal/abi.NoEscape", "internal/bytealg.MakeNoZero"], apart := false, narrowed := true }
def PledgeKeysUptoSaid : Prop := pledgeKeysUptoRow.holds Try.pinned (OpenSpec.upto pledgeKeysSpec)

/-- 'chartularylaw06.PledgeShuts', WHERE WHAT IT READS IS OF BULK AT MOST 1048576: true; the input reads as it did. -/
def pledgeShutsUptoRow : OpenClaim := { program := "ytfjnafgigfapbaa", sum := "b89881ac10a37541d8ff2569fede8efe8c22f455b1b59139cf6b361436f8b778", func := "chartulary/chartularylaw06.PledgeShuts", spec := "pledgeShuts", inPlace := ["internal/abi.NoEscape", "internal/bytealg.MakeNoZero"], apart := false, narrowed := true }
def PledgeShutsUptoSaid : Prop := pledgeShutsUptoRow.holds Try.pinned (OpenSpec.upto pledgeShutsSpec)

/-- 'chartularylaw06.PledgeSlips', WHERE WHAT IT READS IS OF BULK AT MOST 1048576: true; the input reads as it did. -/
def pledgeSlipsUptoRow : OpenClaim := { program := "ytfjnafgigfapbaa", sum := "b89881ac10a37541d8ff2569fede8efe8c22f455b1b59139cf6b361436f8b778", func := "chartulary/chartularylaw06.PledgeSlips", spec := "pledgeSlips", inPlace := ["internal/abi.NoEscape", "internal/bytealg.MakeNoZero"], apart := false, narrowed := true }
def PledgeSlipsUptoSaid : Prop := pledgeSlipsUptoRow.holds Try.pinned (OpenSpec.upto pledgeSlipsSpec)

/-- 'chartularylaw06.PledgeKepts', WHERE WHAT IT READS IS OF BULK AT MOST 1048576: true; the input reads as it did. -/
def pledgeKeptsUptoRow : OpenClaim := { program := "ytfjnafgigfapbaa", sum := "b89881ac10a37541d8ff2569fede8efe8c22f455b1b59139cf6b361436f8b778", func := "chartulary/chartularylaw06.PledgeKepts", spec := "pledgeKepts", inPlace := ["internal/abi.NoEscape", "internal/bytealg.MakeNoZero"], apart := false, narrowed := true }
def PledgeKeptsUptoSaid : Prop := pledgeKeptsUptoRow.holds Try.pinned (OpenSpec.upto pledgeKeptsSpec)

/-- 'chartularylaw06.PledgeSums', WHERE WHAT IT READS IS OF BULK AT MOST 1048576: true; the input reads as it did. -/
def pledgeSumsUptoRow : OpenClaim := { program := "ytfjnafgigfapbaa", sum := "b89881ac10a37541d8ff2569fede8efe8c22f455b1b59139cf6b361436f8b778", func := "chartulary/chartularylaw06.PledgeSums", spec := "pledgeSums", inPlace := ["internal/abi.NoEscape", "internal/bytealg.MakeNoZero"], apart := false, narrowed := true }
def PledgeSumsUptoSaid : Prop := pledgeSumsUptoRow.holds Try.pinned (OpenSpec.upto pledgeSumsSpec)

/-- 'chartularylaw06.PledgeNobody', WHERE WHAT IT READS IS OF BULK AT MOST 1048576: true; the input reads as it did. -/
def pledgeNobodyUptoRow : OpenClaim := { program := "ytfjnafgigfapbaa", sum := "b89881ac10a37541d8ff2569fede8efe8c22f455b1b59139cf6b361436f8b778", func := "chartulary/chartularylaw06.PledgeNobody", spec := "pledgeNobody", inPlace := ["internal/abi.NoEscape", "internal/bytealg.MakeNoZero"], apart := false, narrowed := true }
def PledgeNobodyUptoSaid : Prop := pledgeNobodyUptoRow.holds Try.pinned (OpenSpec.upto pledgeNobodySpec)

/-- 'chartularylaw06.PledgeApart', WHERE WHAT IT READS IS OF BULK AT MOST 1048576: true; the input reads as it did. -/
def pledgeApartUptoRow : OpenClaim := { program := "ytfjnafgigfapbaa", sum := "b89881ac10a37541d8ff2569fede8efe8c22f455b1b59139cf6b361436f8b778", func := "chartulary/chartularylaw06.PledgeApart", spec := "pledgeApart", inPlace := ["internal/abi.NoEscape", "internal/bytealg.MakeNoZero"], apart := false, narrowed := true }
def PledgeApartUptoSaid : Prop := pledgeApartUptoRow.holds Try.pinned (OpenSpec.upto pledgeApartSpec)

end Rows
end Go.Proofs.Ytfjnafgigfapbaa
