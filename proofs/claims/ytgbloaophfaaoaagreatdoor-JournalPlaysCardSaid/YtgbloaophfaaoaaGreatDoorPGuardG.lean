/- A guard is read. -/
import Derived.Test.YtgbloaophfaaoaaGreatDoorPGuardB
import Derived.Test.YtgbloaophfaaoaaGreatDoorGPlays
namespace Go.Proofs.YtgbloaophfaaoaaGreatDoor
set_option linter.all false
open Go Go.RowKit Go.Fw
set_option maxRecDepth 100000
attribute [local irreducible] FUEL
theorem gget_eq {g : guard_Guard} {d : disk_Disk} (h : 1 ≤ d.sure_.length) {i : Int} (hw : whyB d i = 0) {b : List UInt8} (hc : curB d i = ofL b) (hb : b.length = 64) : F.guard_Guard_Get i g d = some (ofL (readL b).1, (readL b).2.1, (readL b).2.2) := by
  unfold F.guard_Guard_Get F.guard_Guard_none
  rw [Option.bind_some, gread_eq h hw hc hb]
  rfl
end Go.Proofs.YtgbloaophfaaoaaGreatDoor
