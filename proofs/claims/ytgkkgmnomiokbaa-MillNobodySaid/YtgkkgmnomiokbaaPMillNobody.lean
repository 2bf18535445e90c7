/- A mill that nobody made makes nothing: the plain law. -/
import Derived.Test.YtgkkgmnomiokbaaGNobody
import Derived.Test.YtgkkgmnomiokbaaPLaw03
import Derived.Test.YtgkkgmnomiokbaaPAwake03
namespace Go.Proofs.Ytgkkgmnomiokbaa
set_option linter.all false
open Go Go.RowKit Go.Fw
set_option maxRecDepth 100000
attribute [local irreducible] FUEL
def zz : mill_Mill := ⟨([] : List (ByteArray × ByteArray)), ([] : List (ByteArray × ByteArray)), (⟨(ByteArray.mk #[]), (ByteArray.mk #[])⟩ : A2_ByteArray), false, false, 0⟩
theorem pure_MillNobody (x0 : ByteArray) (x1 : Int) {w0 z0 w1 z1 : Prop} (_ : w0) (_ : z0) (_ : w1) (_ : z1) : F.law03_MillNobody x0 x1 = some true := by
  have e : seqB (ByteArray.mk #[]) (ByteArray.mk #[]) = true := seqB_refl _
  have e0 : seqB (ByteArray.mk #[] ++ ByteArray.mk #[]) (ByteArray.mk #[]) = true := by rw [seqB_iff]; rfl
  have t1 : F.mill_Mill_Twins_1 = some (ByteArray.mk #[], ByteArray.mk #[], false) := rfl
  have s1 : F.mill_Mill_Sum_1 x0 = some (ByteArray.mk #[]) := rfl
  have s2 : F.mill_Mill_Sum_2 x0 zz = some (ByteArray.mk #[], zz) := rfl
  have g1 : F.mill_Mill_Tag_1 x0 x0 = some (ByteArray.mk #[]) := rfl
  have st1 : F.mill_Mill_Stream_1 x0 x0 x1 zz = some (ByteArray.mk #[], zz) := rfl
  have f1 : F.mill_Mill_Full_1 zz = some (false, zz) := rfl
  have u1 : F.mill_Mill_Sums_1 = some 0 := rfl
  have u2 : F.mill_Mill_Sums_2 zz = some (0, zz) := rfl
  have st2 : F.mill_Mill_Stream_2 x0 x0 (x0.size : Int) = some (ByteArray.mk #[]) := rfl
  have v1 : F.mill_Mill_Veil_1 x0 x0 x0 = some (ByteArray.mk #[]) := by
    unfold F.mill_Mill_Veil_1
    rw [st2, Option.bind_some]
    by_cases h0 : x0.size = 0
    · have hs : sbytes x0 = [] := List.length_eq_zero_iff.1 (by rw [sbytes_length]; exact h0)
      rw [if_neg (by rw [h0]; decide), chk_pos (by rw [h0]; decide), hs]
      have h := iter_stop (f := fun (x : List Int × Int) => F.mill_Mill_Veil_1.l1 x0 (ByteArray.mk #[]) x.1 x.2) (k := 18446744073709551615) (s := ([], 0)) (r := []) (by
        dsimp only
        unfold F.mill_Mill_Veil_1.l1
        rw [hs, if_neg (by decide)])
      rw [show 18446744073709551615 + 1 = FUEL by rw [FUEL_eq]] at h
      refine (congrArg (fun o => Option.bind o _) h).trans ?_
      rfl
    · rw [if_pos]
      have : ((ByteArray.mk #[]).size : Int) = 0 := rfl
      rw [this]
      simp; omega
  have n1 : F.mill_Mill_Stream x0 x0 (-1) m00 = some (ByteArray.mk #[]) := rfl
  unfold F.law03_MillNobody
  rw [t1, Option.bind_some, s1, Option.bind_some, e, if_pos rfl]
  show Option.bind (F.mill_Mill_Sum_2 x0 zz) _ = _
  rw [s2, Option.bind_some]
  dsimp only
  rw [e, if_pos rfl, g1, Option.bind_some, e, if_pos rfl]
  show Option.bind (F.mill_Mill_Stream_1 x0 x0 x1 zz) _ = _
  rw [st1, Option.bind_some]
  dsimp only
  rw [e, if_pos rfl, v1, Option.bind_some, e, if_pos rfl, chk_pos (by decide), e0, if_pos rfl, if_pos (by decide)]
  show Option.bind (F.mill_Mill_Full_1 zz) _ = _
  rw [f1, Option.bind_some]
  dsimp only
  rw [if_pos (by decide), u1, Option.bind_some]
  show Option.bind (F.mill_Mill_Sums_2 zz) _ = _
  rw [u2, Option.bind_some]
  dsimp only
  rw [if_pos (by decide), mnew_eq, Option.bind_some, n1, Option.bind_some, e, if_pos rfl, awake]
  rfl
end Go.Proofs.Ytgkkgmnomiokbaa
