/- Chapter 12's example holds: reckoned by the kernel. -/
import Derived.Test.YtgbloaophfaaoaaGreatDoorGJour
import Derived.KernelRfl
namespace Go.Proofs.YtgbloaophfaaoaaGreatDoor
set_option linter.all false
open Go Go.RowKit Go.Fw
set_option maxRecDepth 100000
attribute [local irreducible] FUEL
theorem awake : F.law12_awake = some true := by kernel_rfl
end Go.Proofs.YtgbloaophfaaoaaGreatDoor
