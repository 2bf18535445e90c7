/- Chapter 24's example holds: the sort by its rounds, the rest reckoned by the kernel. -/
import Derived.Test.YtileogoeoiafkaaGAbs
import Derived.KernelRfl
namespace Go.Proofs.Ytileogoeoiafkaa
set_option linter.all false
open Go Go.RowKit Go.Fw
set_option maxRecDepth 100000
attribute [local irreducible] FUEL
theorem sort_ca : ([[99], [97]] : List (List UInt8)).mergeSort (fun x y => decide (x ≤ y)) = [[97], [99]] := by
  simp [List.mergeSort, List.MergeSort.Internal.splitInTwo, List.merge]
  decide
theorem tidy_ca : F.absent_Tidy [ByteArray.mk #[99], ByteArray.mk #[97]] = some [ByteArray.mk #[97], ByteArray.mk #[99]] := by
  unfold F.absent_Tidy
  have h : iter (fun x => F.absent_Tidy.l1 [ByteArray.mk #[99], ByteArray.mk #[97]] x.1 x.2) FUEL ([], 0) = some [ByteArray.mk #[99], ByteArray.mk #[97]] := by kernel_rfl
  rw [h, Option.bind_some]
  unfold F.absent_Tidy.r2
  have hs : sortS [ByteArray.mk #[99], ByteArray.mk #[97]] = [ByteArray.mk #[97], ByteArray.mk #[99]] := by
    have : sortS [ByteArray.mk #[99], ByteArray.mk #[97]] = (([[99], [97]] : List (List UInt8)).mergeSort (fun x y => decide (x ≤ y))).map ofL := rfl
    rw [this, sort_ca]; rfl
  rw [hs]
  refine Eq.trans (b := some [ByteArray.mk #[97], ByteArray.mk #[99]]) ?_ rfl
  kernel_rfl
theorem awake : F.law24_awake = some true := by
  unfold F.law24_awake F.absent_Prove
  have h : F.paper_IsID (ByteArray.mk #[98]) = some true := by kernel_rfl
  have e : F.mill_New = some ⟨[], [], ⟨ByteArray.mk #[], ByteArray.mk #[]⟩, false, false, 0⟩ := rfl
  rw [e, Option.bind_some, h, Option.bind_some, if_neg (by decide), tidy_ca, Option.bind_some]
  refine Eq.trans (b := some true) ?_ rfl
  kernel_rfl
end Go.Proofs.Ytileogoeoiafkaa
