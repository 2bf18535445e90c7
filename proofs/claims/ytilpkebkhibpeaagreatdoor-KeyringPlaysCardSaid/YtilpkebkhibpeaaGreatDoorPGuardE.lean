/- A guard erases, in plain words. -/
import Derived.Test.YtilpkebkhibpeaaGreatDoorPGuardF
import Derived.Test.YtilpkebkhibpeaaGreatDoorGRingb
namespace Go.Proofs.YtilpkebkhibpeaaGreatDoor
set_option linter.all false
open Go Go.RowKit Go.Fw
set_option maxRecDepth 100000
attribute [local irreducible] FUEL
theorem noL_fill : ofL (List.replicate (Int.toNat 64) 0) = ofL noL := rfl
theorem gerase_eq {g : guard_Guard} {d : disk_Disk} (hf : FOk d.fall_) (h : DOk d) (i : Int) : F.guard_Guard_Erase i g d = some (if whyB d i ≠ 0 then (whyB d i, d) else if due d then (8, dropD d.fall_ d) else (0, writeD d i (ofL noL))) := by
  unfold F.guard_Guard_Erase F.guard_Guard_none
  rw [Option.bind_some, rep0 (by decide) (by decide), Option.bind_some, noL_fill, write_eq hf h, Option.bind_some]
  have e : ¬ ((ofL noL).size ≠ 64) := fun e => e (by rw [ofL_size]; rfl)
  rw [if_neg (c := (ofL noL).size ≠ 64) e]
end Go.Proofs.YtilpkebkhibpeaaGreatDoor
