/- Chapter 9's example holds: reckoned by the kernel. -/
import Derived.Test.YtbjilfhjclkebaaGDisk
import Derived.KernelRfl
namespace Go.Proofs.Ytbjilfhjclkebaa
set_option linter.all false
open Go Go.RowKit Go.Fw
set_option maxRecDepth 100000
attribute [local irreducible] FUEL
theorem awake : F.law09_awake = some true := by kernel_rfl
end Go.Proofs.Ytbjilfhjclkebaa
