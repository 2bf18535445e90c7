/-
  No cell of these rows narrows 'for every input' (looked for: loops, veiled, ifaces, maps, wideKeys, modest, calm, conditions, laid).
  DERIVED. THE GIVEN ROWS OF THIS SEAT. 5 by the template 'for every input the law returns true; each argument reads behind the call as it read before'; 0 by the template 'total and deterministic' (their statements: YtileogoeoiafkaaTotals.lean).
  GIVEN WITH THE SEED: the statements are not yours to turn. If you find one false, say at which input.
  Laid BY PROGRAM, IN A SANDBOX (cutbox-rows.mjs): the forced cells as the released guide's own fill.sh prints them over the translation 1b120834ef2f6055… (all of the seat's roots in one cut). By AI agents, Wed Nov 11 2026. No macro, syntax, notation, axiom, sorry.
-/
import Derived.Test.YtileogoeoiafkaaChecked
import GoSem.Claim
import GoSem.ClaimJoined
import GoSem.ClaimMapViews
import Derived.JoinedTies
import Derived.KernelRfl
namespace Go.Proofs.Ytileogoeoiafkaa
/- THE CELL 'sum', in the pinned program and in every row, IS THE sha256 OF THE DUMP (.gsa) THAT YtileogoeoiafkaaProg.lean LOADS. Nothing in Lean hashes anything: it is a label: what it is worth is what the hold of that sum in a sandbox is worth. -/
noncomputable def Try.pinned : Pinned := { name := "ytileogoeoiafkaa", sum := "1b120834ef2f605526972d7632aa4ee7e48f38d47cda812aebe2c16c38f1fa09", checked := Try.checked }
namespace Rows
def none {H : Type} : Left H := { results := [], args := [] }

/-- 'chartularylaw24.AbsentRoots': WHATEVER THE INPUT: true; the input reads as it did. -/
def absentRootsSpec : ChangeSpec := { name := "absentRoots", fn := fun _ => fun
  | [d] => { results := [.lit (.bool true)], args := [d] }
  | _ => none }
def absentRootsRow : OpenClaim := { program := "ytileogoeoiafkaa", sum := "1b120834ef2f605526972d7632aa4ee7e48f38d47cda812aebe2c16c38f1fa09", func := "chartulary/chartularylaw24.AbsentRoots", spec := "absentRoots", recurses := true, apart := false }
def AbsentRootsSaid : Prop := absentRootsRow.holds Try.pinned (OpenSpec.ofChange absentRootsSpec)

/-- ITS FALSE NEIGHBOUR: 'it returns false'. Refute it at one input. -/
def absentRootsWrong : ChangeSpec := { name := "absentRoots", fn := fun _ => fun
  | [d] => { results := [.lit (.bool false)], args := [d] }
  | _ => none }
def AbsentRootsWrongFalsely : Prop := absentRootsRow.holds Try.pinned (OpenSpec.ofChange absentRootsWrong)

/-- 'chartularylaw24.AbsentProves': WHATEVER THE INPUT: true; the input reads as it did. -/
def absentProvesSpec : ChangeSpec := { name := "absentProves", fn := fun _ => fun
  | [d1, d2] => { results := [.lit (.bool true)], args := [d1, d2] }
  | _ => none }
def absentProvesRow : OpenClaim := { program := "ytileogoeoiafkaa", sum := "1b120834ef2f605526972d7632aa4ee7e48f38d47cda812aebe2c16c38f1fa09", func := "chartulary/chartularylaw24.AbsentProves", spec := "absentProves", recurses := true, apart := false }
def AbsentProvesSaid : Prop := absentProvesRow.holds Try.pinned (OpenSpec.ofChange absentProvesSpec)

/-- ITS FALSE NEIGHBOUR: 'it returns false'. Refute it at one input. -/
def absentProvesWrong : ChangeSpec := { name := "absentProves", fn := fun _ => fun
  | [d1, d2] => { results := [.lit (.bool false)], args := [d1, d2] }
  | _ => none }
def AbsentProvesWrongFalsely : Prop := absentProvesRow.holds Try.pinned (OpenSpec.ofChange absentProvesWrong)

/-- 'chartularylaw24.AbsentChecks': WHATEVER THE INPUT: true; the input reads as it did. -/
def absentChecksSpec : ChangeSpec := { name := "absentChecks", fn := fun _ => fun
  | [d1, d2, d3, d4] => { results := [.lit (.bool true)], args := [d1, d2, d3, d4] }
  | _ => none }
def absentChecksRow : OpenClaim := { program := "ytileogoeoiafkaa", sum := "1b120834ef2f605526972d7632aa4ee7e48f38d47cda812aebe2c16c38f1fa09", func := "chartulary/chartularylaw24.AbsentChecks", spec := "absentChecks", recurses := true, apart := false }
def AbsentChecksSaid : Prop := absentChecksRow.holds Try.pinned (OpenSpec.ofChange absentChecksSpec)

/-- ITS FALSE NEIGHBOUR: 'it returns false'. Refute it at one input. -/
def absentChecksWrong : ChangeSpec := { name := "absentChecks", fn := fun _ => fun
  | [d1, d2, d3, d4] => { results := [.lit (.bool false)], args := [d1, d2, d3, d4] }
  | _ => none }
def AbsentChecksWrongFalsely : Prop := absentChecksRow.holds Try.pinned (OpenSpec.ofChange absentChecksWrong)

/-- 'chartularylaw24.AbsentHonest': WHATEVER THE INPUT: true; the input reads as it did. -/
def absentHonestSpec : ChangeSpec := { name := "absentHonest", fn := fun _ => fun
  | [d1, d2, d3, d4] => { results := [.lit (.bool true)], args := [d1, d2, d3, d4] }
  | _ => none }
def absentHonestRow : OpenClaim := { program := "ytileogoeoiafkaa", sum := "1b120834ef2f605526972d7632aa4ee7e48f38d47cda812aebe2c16c38f1fa09", func := "chartulary/chartularylaw24.AbsentHonest", spec := "absentHonest", recurses := true, apart := false }
def AbsentHonestSaid : Prop := absentHonestRow.holds Try.pinned (OpenSpec.ofChange absentHonestSpec)

/-- ITS FALSE NEIGHBOUR: 'it returns false'. Refute it at one input. -/
def absentHonestWrong : ChangeSpec := { name := "absentHonest", fn := fun _ => fun
  | [d1, d2, d3, d4] => { results := [.lit (.bool false)], args := [d1, d2, d3, d4] }
  | _ => none }
def AbsentHonestWrongFalsely : Prop := absentHonestRow.holds Try.pinned (OpenSpec.ofChange absentHonestWrong)

/-- 'chartularylaw24.AbsentBytes': WHATEVER THE INPUT: true; the input reads as it did. -/
def absentBytesSpec : ChangeSpec := { name := "absentBytes", fn := fun _ => fun
  | [d1, d2] => { results := [.lit (.bool true)], args := [d1, d2] }
  | _ => none }
def absentBytesRow : OpenClaim := { program := "ytileogoeoiafkaa", sum := "1b120834ef2f605526972d7632aa4ee7e48f38d47cda812aebe2c16c38f1fa09", func := "chartulary/chartularylaw24.AbsentBytes", spec := "absentBytes", recurses := true, apart := false }
def AbsentBytesSaid : Prop := absentBytesRow.holds Try.pinned (OpenSpec.ofChange absentBytesSpec)

/-- ITS FALSE NEIGHBOUR: 'it returns false'. Refute it at one input. -/
def absentBytesWrong : ChangeSpec := { name := "absentBytes", fn := fun _ => fun
  | [d1, d2] => { results := [.lit (.bool false)], args := [d1, d2] }
  | _ => none }
def AbsentBytesWrongFalsely : Prop := absentBytesRow.holds Try.pinned (OpenSpec.ofChange absentBytesWrong)

/- THE SECOND FORM. 'bulk': how many values and letters a reading holds, each counted each time it is reached (what is shared counts as often as it is met; a slice's spare places count too). A statement '..UptoSaid' is the law's where the arguments, and the package variables that the reading takes, are together of bulk at most 1048576: NARROWER than '..Said'. Prove '..Said' where nothing that the law and all that it calls make is longer than what came in: it says more and counts as full. Else prove '..UptoSaid'. A law counts once. -/
mutual
def uptoBulk {H : Type} : DataW H → Nat
  | .lit (.string bytes) => bytes.length + 1
  | .lit _ => 1
  | .nil => 1
  | .ptr d => uptoBulk d + 1
  | .slice elems spare => uptoBulkAll elems + uptoBulkAll spare + 1
  | .agg parts => uptoBulkAll parts + 1
  | .iface _ d => uptoBulk d + 1
  | .map entries => uptoBulkEntries entries + 1
  | .held _ => 1
def uptoBulkAll {H : Type} : List (DataW H) → Nat
  | [] => 0
  | d :: r => uptoBulk d + uptoBulkAll r
def uptoBulkEntries {H : Type} : List (Lit × DataW H) → Nat
  | [] => 0
  | x :: r => uptoBulkEntry x + uptoBulkEntries r
def uptoBulkEntry {H : Type} : Lit × DataW H → Nat
  | (.string bytes, d) => bytes.length + uptoBulk d + 1
  | (_, d) => uptoBulk d + 1
 end
def uptoSmall : (H : Type) → List (DataW H) → Bool := fun _ ds => decide (uptoBulkAll ds ≤ 1048576)
def OpenSpec.upto (s : _root_.Go.ChangeSpec) : _root_.Go.OpenSpec := { _root_.Go.OpenSpec.ofChange s with cond := some uptoSmall }

/-- 'chartularylaw24.AbsentRoots', WHERE WHAT IT READS IS OF BULK AT MOST 1048576: true; the input reads as it did. -/
def absentRootsUptoRow : OpenClaim := { program := "ytileogoeoiafkaa", sum := "1b120834ef2f605526972d7632aa4ee7e48f38d47cda812aebe2c16c38f1fa09", func := "chartulary/chartularylaw24.AbsentRoots", spec := "absentRoots", recurses := true, apart := false, narrowed := true }
def AbsentRootsUptoSaid : Prop := absentRootsUptoRow.holds Try.pinned (OpenSpec.upto absentRootsSpec)

/-- 'chartularylaw24.AbsentProves', WHERE WHAT IT READS IS OF BULK AT MOST 1048576: true; the input reads as it did. -/
def absentProvesUptoRow : OpenClaim := { program := "ytileogoeoiafkaa", sum := "1b120834ef2f605526972d7632aa4ee7e48f38d47cda812aebe2c16c38f1fa09", func := "chartulary/chartularylaw24.AbsentProves", spec := "absentProves", recurses := true, apart := false, narrowed := true }
def AbsentProvesUptoSaid : Prop := absentProvesUptoRow.holds Try.pinned (OpenSpec.upto absentProvesSpec)

/-- 'chartularylaw24.AbsentChecks', WHERE WHAT IT READS IS OF BULK AT MOST 1048576: true; the input reads as it did. -/
def absentChecksUptoRow : OpenClaim := { program := "ytileogoeoiafkaa", sum := "1b120834ef2f605526972d7632aa4ee7e48f38d47cda812aebe2c16c38f1fa09", func := "chartulary/chartularylaw24.AbsentChecks", spec := "absentChecks", recurses := true, apart := false, narrowed := true }
def AbsentChecksUptoSaid : Prop := absentChecksUptoRow.holds Try.pinned (OpenSpec.upto absentChecksSpec)

/-- 'chartularylaw24.AbsentHonest', WHERE WHAT IT READS IS OF BULK AT MOST 1048576: true; the input reads as it did. -/
def absentHonestUptoRow : OpenClaim := { program := "ytileogoeoiafkaa", sum := "1b120834ef2f605526972d7632aa4ee7e48f38d47cda812aebe2c16c38f1fa09", func := "chartulary/chartularylaw24.AbsentHonest", spec := "absentHonest", recurses := true, apart := false, narrowed := true }
def AbsentHonestUptoSaid : Prop := absentHonestUptoRow.holds Try.pinned (OpenSpec.upto absentHonestSpec)

/-- 'chartularylaw24.AbsentBytes', WHERE WHAT IT READS IS OF BULK AT MOST 1048576: true; the input reads as it did. -/
def absentBytesUptoRow : OpenClaim := { program := "ytileogoeoiafkaa", sum := "1b120834ef2f605526972d7632aa4ee7e48f38d47cda812aebe2c16c38f1fa09", func := "chartulary/chartularylaw24.AbsentBytes", spec := "absentBytes", recurses := true, apart := false, narrowed := true }
def AbsentBytesUptoSaid : Prop := absentBytesUptoRow.holds Try.pinned (OpenSpec.upto absentBytesSpec)

end Rows
end Go.Proofs.Ytileogoeoiafkaa
