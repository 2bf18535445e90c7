/- A guard flushes, in plain words. -/
import Derived.Test.YtgbloaophfaaoaaGreatDoorPGuardB
import Derived.Test.YtgbloaophfaaoaaGreatDoorPDiskF
import Derived.Test.YtgbloaophfaaoaaGreatDoorGPlaysd
namespace Go.Proofs.YtgbloaophfaaoaaGreatDoor
set_option linter.all false
open Go Go.RowKit Go.Fw
set_option maxRecDepth 100000
attribute [local irreducible] FUEL
theorem gflush_eq {g : guard_Guard} {d : disk_Disk} (hf : FOk d.fall_) (h : DOk d) : F.guard_Guard_Flush g d = some (if d.off_ = true then (8, d) else if due d then (8, dropD d.fall_ d) else (0, flushD d)) := by
  unfold F.guard_Guard_Flush F.guard_Guard_none
  rw [Option.bind_some, flush_eq hf h]
  rfl
theorem cur_flush {d : disk_Disk} (h : DOk d) {j : Int} (h0 : 0 ≤ j) (h1 : j < (d.sure_.length : Int)) : curB (flushD d) j = curB d j := by
  obtain ⟨i, rfl⟩ : ∃ i : Nat, j = (i : Int) := ⟨j.toNat, by omega⟩
  show (((setAll' d.wait_ d.sure_)[(i : Int).toNat]?).getD zS).s_ = _
  rw [Int.toNat_natCast, setAll'_get _ _ _ h.keys (fun p hp => (h.inr p hp).1)]
  obtain ⟨y, hy⟩ := getq (l := d.sure_) (i := i) (by omega)
  unfold curB
  cases hm : mget d.wait_ (i : Int) with
  | none => dsimp only; rw [Int.toNat_natCast]
  | some x => dsimp only; rw [hy]; rfl
theorem flush_len (d : disk_Disk) : (flushD d).sure_.length = d.sure_.length := by show (setAll' d.wait_ d.sure_).length = _; rw [setAll'_len]
end Go.Proofs.YtgbloaophfaaoaaGreatDoor
