/- Chapter 12's example holds: reckoned by the kernel. -/
import Derived.Test.YtgbloaophfaaoaaDoorGJour
import Derived.KernelRfl
namespace Go.Proofs.YtgbloaophfaaoaaDoor
set_option linter.all false
open Go Go.RowKit Go.Fw
set_option maxRecDepth 100000
attribute [local irreducible] FUEL
theorem awake : F.law12_awake = some true := by kernel_rfl
end Go.Proofs.YtgbloaophfaaoaaDoor
