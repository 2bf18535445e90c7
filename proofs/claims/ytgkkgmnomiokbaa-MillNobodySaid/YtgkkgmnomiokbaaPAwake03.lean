/- Chapter 3's example holds: reckoned by the kernel. -/
import Derived.Test.YtgkkgmnomiokbaaGMill
import Derived.KernelRfl
namespace Go.Proofs.Ytgkkgmnomiokbaa
set_option linter.all false
open Go Go.RowKit Go.Fw
set_option maxRecDepth 100000
attribute [local irreducible] FUEL
theorem awake : F.law03_awake = some true := by kernel_rfl
end Go.Proofs.Ytgkkgmnomiokbaa
