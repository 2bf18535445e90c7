/- A guard that nobody made does nothing: the plain law. -/
import Derived.Test.YthebdiboijhjmaaDoorGNobody
import Derived.Test.YthebdiboijhjmaaDoorPAwake10
namespace Go.Proofs.YthebdiboijhjmaaDoor
set_option linter.all false
open Go Go.RowKit Go.Fw
set_option maxRecDepth 100000
attribute [local irreducible] FUEL
def zG : guard_Guard := ⟨0, 0⟩
theorem pure_GuardNobody (x0 : Int) (x1 : ByteArray) {w0 z0 w1 z1 : Prop} (_ : w0) (_ : z0) (_ : w1) (_ : z1) : F.law10_GuardNobody x0 x1 = some true := by
  have a1 : F.guard_Guard_Put_1 x0 x1 = some (0, 9) := rfl
  have a2 : F.guard_Guard_Get_1 x0 zG = some (ByteArray.mk #[], 0, 9) := rfl
  have a3 : F.guard_New_1 1 = some (none, 1) := rfl
  have a4 : F.guard_Guard_Erase x0 = some 9 := rfl
  have a5 : F.guard_Guard_Flush zG = some 9 := rfl
  have a6 : F.guard_Guard_Blank_1 x0 = some false := rfl
  have a7 : F.guard_Guard_Disk_1 zG = some () := rfl
  unfold F.law10_GuardNobody
  rw [a1, Option.bind_some]
  show Option.bind (F.guard_Guard_Get_1 x0 zG) _ = _
  rw [a2, Option.bind_some, a3, Option.bind_some]
  dsimp only [optC]
  rw [if_pos (by decide), if_pos (by decide), if_pos (by decide), a4, Option.bind_some, if_pos (by decide)]
  show Option.bind (F.guard_Guard_Flush zG) _ = _
  rw [a5, Option.bind_some, if_pos (by decide), a6, Option.bind_some, if_pos (by decide)]
  show Option.bind (F.guard_Guard_Disk_1 zG) _ = _
  rw [a7, Option.bind_some, awake]
  rfl
end Go.Proofs.YthebdiboijhjmaaDoor
