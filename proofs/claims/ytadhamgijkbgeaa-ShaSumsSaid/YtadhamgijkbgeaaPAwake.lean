/- Chapter 2's example holds: reckoned by the kernel. -/
import Derived.Test.YtadhamgijkbgeaaGSha
import Derived.Test.YtadhamgijkbgeaaFwM
import Derived.KernelRfl
namespace Go.Proofs.Ytadhamgijkbgeaa
set_option linter.all false
open Go Go.RowKit Go.Fw
set_option maxRecDepth 100000
attribute [local irreducible] FUEL
theorem awake : F.law02_awake = some true := by kernel_rfl
end Go.Proofs.Ytadhamgijkbgeaa
