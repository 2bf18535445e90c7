/- A disk starts again, in plain words. -/
import Derived.Test.YtgbloaophfaaoaaGreatDoorPDiskW
import Derived.Test.YtgbloaophfaaoaaGreatDoorGPlayse
namespace Go.Proofs.YtgbloaophfaaoaaGreatDoor
set_option linter.all false
open Go Go.RowKit Go.Fw
set_option maxRecDepth 100000
attribute [local irreducible] FUEL
def startD (d : disk_Disk) : disk_Disk := ⟨d.sure_, d.wait_, false, d.armed_, d.left_, d.fall_, d.acts_, d.falls_⟩
theorem start_eq {d : disk_Disk} (h : 1 ≤ d.sure_.length) : F.disk_Disk_Start d = some (if d.off_ = true then (0, startD d) else (25, d)) := by
  unfold F.disk_Disk_Start F.disk_Disk_Size
  rw [Option.bind_some, if_neg (by intro hh; rw [beq_iff_eq] at hh; omega)]
  cases d.off_ <;> rfl
end Go.Proofs.YtgbloaophfaaoaaGreatDoor
