/- A disk loses its power, and starts again, in plain words. -/
import Derived.Test.YtgbloaophfaaoaaGreatDoorPDiskW
import Derived.Test.YtgbloaophfaaoaaGreatDoorGPlayse
import Derived.Test.YtgbloaophfaaoaaGreatDoorPDiskS
namespace Go.Proofs.YtgbloaophfaaoaaGreatDoor
set_option linter.all false
open Go Go.RowKit Go.Fw
set_option maxRecDepth 100000
attribute [local irreducible] FUEL
theorem crash_eq {f : disk_Fall} (hf : FOk f) {d : disk_Disk} (h : DOk d) : F.disk_Disk_Crash f d = some (if d.off_ = true then (8, d) else (0, dropD f d)) := by
  have hp := h.pos
  unfold F.disk_Disk_Crash
  rw [why_eq hp, Option.bind_some]
  cases ho : d.off_ with
  | true =>
    have : whyB d 0 = 8 := by unfold whyB; rw [ho]; rfl
    rw [this, if_pos (by decide), if_pos rfl]
  | false =>
    have : whyB d 0 = 0 := whyB_in ho (Int.le_refl _) (by omega)
    rw [this, if_neg (by decide), if_neg (by decide), drop_eq hf h]
    rfl
end Go.Proofs.YtgbloaophfaaoaaGreatDoor
