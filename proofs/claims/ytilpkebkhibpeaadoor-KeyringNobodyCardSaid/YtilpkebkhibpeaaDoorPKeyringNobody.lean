/- A ring that nobody made has nothing: the plain law. -/
import Derived.Test.YtilpkebkhibpeaaDoorGNobody
import Derived.Test.YtilpkebkhibpeaaDoorPRing
import Derived.Test.YtilpkebkhibpeaaDoorPAwake13
namespace Go.Proofs.YtilpkebkhibpeaaDoor
set_option linter.all false
open Go Go.RowKit Go.Fw
set_option maxRecDepth 100000
attribute [local irreducible] FUEL
def zR : keyring_Ring := ⟨0, 0, 0⟩
theorem pure_KeyringNobody (x0 : Int) {w0 z0 : Prop} (_ : w0) (_ : z0) : F.law13_KeyringNobody x0 = some true := by
  have a1 : F.keyring_Ring_Get x0 = some (ByteArray.mk #[], 9) := rfl
  have a2 : F.keyring_Ring_Find zR = some (0, 9) := rfl
  have a3 : F.keyring_Ring_Keep ([] : List Int) = some (0, 9) := rfl
  have a4 : ∀ k, F.keyring_Ring_Put_1 x0 k zR = some 9 := fun _ => rfl
  have a5 : F.keyring_Ring_Shred_1 x0 = some 9 := rfl
  have a6 : F.keyring_Ring_Free_1 x0 zR = some false := rfl
  have a7 : F.keyring_Ring_Slots_1 = some 0 := rfl
  have a8 : F.keyring_Ring_Shreds zR = some 0 := rfl
  unfold F.law13_KeyringNobody
  rw [a1, Option.bind_some]
  show Option.bind (F.keyring_Ring_Find zR) _ = _
  rw [a2, Option.bind_some, a3, Option.bind_some]
  dsimp only
  rw [if_pos (by decide), if_pos (by decide), if_pos (by decide), key_eq, Option.bind_some]
  show Option.bind (F.keyring_Ring_Put_1 x0 _ zR) _ = _
  rw [a4, Option.bind_some, if_pos (by decide), a5, Option.bind_some, if_pos (by decide)]
  show Option.bind (F.keyring_Ring_Free_1 x0 zR) _ = _
  rw [a6, Option.bind_some, if_pos (by decide), a7, Option.bind_some]
  show Option.bind (F.keyring_Ring_Shreds zR) _ = _
  rw [a8, Option.bind_some, if_pos (by decide), awake]
  rfl
end Go.Proofs.YtilpkebkhibpeaaDoor
