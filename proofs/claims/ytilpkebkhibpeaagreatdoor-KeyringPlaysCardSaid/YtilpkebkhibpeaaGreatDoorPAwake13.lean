/- Chapter 13's example holds: reckoned by the kernel. -/
import Derived.Test.YtilpkebkhibpeaaGreatDoorGRingb
import Derived.KernelRfl
namespace Go.Proofs.YtilpkebkhibpeaaGreatDoor
set_option linter.all false
open Go Go.RowKit Go.Fw
set_option maxRecDepth 100000
attribute [local irreducible] FUEL
theorem awake : F.law13_awake = some true := by kernel_rfl
end Go.Proofs.YtilpkebkhibpeaaGreatDoor
