/- A disk that nobody made does nothing: the plain law. -/
import Derived.Test.YtbjilfhjclkebaaGNobodyb
import Derived.Test.YtbjilfhjclkebaaPAwake09
namespace Go.Proofs.Ytbjilfhjclkebaa
set_option linter.all false
open Go Go.RowKit Go.Fw
set_option maxRecDepth 100000
attribute [local irreducible] FUEL
def zD : disk_Disk := ⟨([] : List disk_sector), ([] : List (Int × disk_sector)), false, false, 0, (⟨0, 0⟩ : disk_Fall), 0, 0⟩
theorem stamp_none (x : Int) : F.disk_Disk_Stamp x zD = some (0, zD) := by
  unfold F.disk_Disk_Stamp
  by_cases h : x < 0
  · rw [if_pos (by simpa using h)]; rfl
  · rw [if_neg (by simpa using h)]
    have e : F.disk_Disk_Size_2 zD = some 0 := rfl
    show thru (Option.bind (F.disk_Disk_Size_2 zD) _) _ = _
    rw [e, Option.bind_some, if_pos (by simp; omega)]
    rfl
theorem pure_DiskNobody (x0 : Int) (x1 : disk_Fall) {w0 z0 w1 z1 : Prop} (_ : w0) (_ : z0) (_ : w1) (_ : z1) : F.law09_DiskNobody x0 x1 = some true := by
  have a1 : F.disk_Disk_Calm = some () := rfl
  have a2 : F.disk_Disk_Calm_1 zD = some zD := rfl
  have a3 : F.disk_Disk_Read_1 x0 = some (ByteArray.mk #[], 9) := rfl
  have a4 : F.disk_Disk_Read_2 x0 zD = some (ByteArray.mk #[], 9, zD) := rfl
  have a5 : F.disk_Disk_Write_1 x0 (ByteArray.mk #[]) = some 9 := rfl
  have a6 : F.disk_Disk_Flush_1 zD = some (9, zD) := rfl
  have a7 : F.disk_Disk_Crash_1 x1 = some 9 := rfl
  have a8 : F.disk_Disk_Arm x0 x1 zD = some (9, zD) := rfl
  have a9 : F.disk_Disk_Start_1 = some 9 := rfl
  have b1 : F.disk_Disk_Up zD = some (false, zD) := rfl
  have b2 : F.disk_Disk_Image = some (ByteArray.mk #[]) := rfl
  have b3 : F.disk_Disk_Acts = some 0 := rfl
  have b4 : F.disk_Disk_Falls zD = some 0 := rfl
  have b5 : F.disk_Disk_Size_1 = some 0 := rfl
  have sq : seqB (ByteArray.mk #[]) (ByteArray.mk #[]) = true := seqB_refl _
  unfold F.law09_DiskNobody
  rw [a1, Option.bind_some]
  show Option.bind (F.disk_Disk_Calm_1 zD) _ = _
  rw [a2, Option.bind_some, a3, Option.bind_some]
  show Option.bind (F.disk_Disk_Read_2 x0 zD) _ = _
  rw [a4, Option.bind_some]
  dsimp only
  rw [if_pos (by decide), if_pos (by decide), a5, Option.bind_some, if_pos (by decide)]
  show Option.bind (F.disk_Disk_Flush_1 zD) _ = _
  rw [a6, Option.bind_some]
  dsimp only
  rw [if_pos (by decide), a7, Option.bind_some, if_pos (by decide)]
  show Option.bind (F.disk_Disk_Arm x0 x1 zD) _ = _
  rw [a8, Option.bind_some]
  dsimp only
  rw [if_pos (by decide), a9, Option.bind_some, if_pos (by decide)]
  show Option.bind (F.disk_Disk_Up zD) _ = _
  rw [b1, Option.bind_some]
  dsimp only
  rw [if_pos (by decide), b2, Option.bind_some, sq, if_pos rfl]
  show Option.bind (F.disk_Disk_Stamp x0 zD) _ = _
  rw [stamp_none, Option.bind_some, b3, Option.bind_some]
  show Option.bind (F.disk_Disk_Falls zD) _ = _
  rw [b4, Option.bind_some, b5, Option.bind_some, awake]
  rfl
end Go.Proofs.Ytbjilfhjclkebaa
