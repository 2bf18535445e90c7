/- Chapter 6's example holds: reckoned by the kernel. -/
import Derived.Test.YtfjnafgigfapbaaGPledge
import Derived.KernelRfl
namespace Go.Proofs.Ytfjnafgigfapbaa
set_option linter.all false
open Go Go.RowKit Go.Fw
set_option maxRecDepth 100000
attribute [local irreducible] FUEL
theorem awake : F.law06_awake = some true := by kernel_rfl
end Go.Proofs.Ytfjnafgigfapbaa
