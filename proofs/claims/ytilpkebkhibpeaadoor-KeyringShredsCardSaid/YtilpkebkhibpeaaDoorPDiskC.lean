/- A disk loses its power, and starts again, in plain words. -/
import Derived.Test.YtilpkebkhibpeaaDoorPDiskW
import Derived.Test.YtilpkebkhibpeaaDoorGShreds
import Derived.Test.YtilpkebkhibpeaaDoorGShreds
namespace Go.Proofs.YtilpkebkhibpeaaDoor
set_option linter.all false
open Go Go.RowKit Go.Fw
set_option maxRecDepth 100000
attribute [local irreducible] FUEL
theorem crash_eq {f : disk_Fall} (hf : FOk f) {d : disk_Disk} (h : DOk d) : F.disk_Disk_Crash f d = some (if d.off_ = true then (8, d) else (0, dropD f d)) := by
  have hp := h.pos
  unfold F.disk_Disk_Crash
  rw [why_eq hp, Option.bind_some]
  cases ho : d.off_ with
  | true =>
    have : whyB d 0 = 8 := by unfold whyB; rw [ho]; rfl
    rw [this, if_pos (by decide), if_pos rfl]
  | false =>
    have : whyB d 0 = 0 := whyB_in ho (Int.le_refl _) (by omega)
    rw [this, if_neg (by decide), if_neg (by decide), drop_eq hf h]
    rfl
def startD (d : disk_Disk) : disk_Disk := ⟨d.sure_, d.wait_, false, d.armed_, d.left_, d.fall_, d.acts_, d.falls_⟩
theorem start_eq {d : disk_Disk} (h : 1 ≤ d.sure_.length) : F.disk_Disk_Start d = some (if d.off_ = true then (0, startD d) else (25, d)) := by
  unfold F.disk_Disk_Start F.disk_Disk_Size
  rw [Option.bind_some, if_neg (by intro hh; rw [beq_iff_eq] at hh; omega)]
  cases d.off_ <;> rfl
end Go.Proofs.YtilpkebkhibpeaaDoor
