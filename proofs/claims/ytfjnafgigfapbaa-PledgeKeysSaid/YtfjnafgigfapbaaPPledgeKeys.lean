/- Keys and salts of anything drawn: the plain law. -/
import Derived.Test.YtfjnafgigfapbaaGKeys
import Derived.Test.YtfjnafgigfapbaaPPledge
import Derived.Test.YtfjnafgigfapbaaPAwake06
namespace Go.Proofs.Ytfjnafgigfapbaa
set_option linter.all false
open Go Go.RowKit Go.Fw
set_option maxRecDepth 100000
attribute [local irreducible] FUEL
theorem pure_PledgeKeys (x0 x1 : ByteArray) {w0 z0 w1 z1 : Prop} (_ : w0) (_ : z0) (_ : w1) (_ : z1) : F.law06_PledgeKeys x0 x1 = some true := by
  have h0 := cutB_size x0
  have h1 := cutB_size x1
  unfold F.law06_PledgeKeys
  rw [mnew_eq, Option.bind_some, Option.bind_some, cut_eq, Option.bind_some, cut_eq, Option.bind_some]
  generalize cutB x0 = d at h0
  generalize cutB x1 = n at h1
  have hn := text_small (s := n) (by omega)
  rw [text_eqS (by omega), Option.bind_some]
  show chk (wSalt.size + (textB n).size ≤ _) (Option.bind (F.mill_Mill_Tag d (wSalt ++ textB n) m00) _) = _
  rw [chk_pos (by rw [wSalt_size]; omega), tag_eq m00 (by omega) (by rw [size_app, wSalt_size]; omega), Option.bind_some]
  have hs := T32_new d (wSalt ++ textB n)
  rw [if_neg (by rw [hs]; decide), key_eq m00 (by omega), Option.bind_some]
  show Option.bind (F.mill_Mill_Tag d wKey m00) _ = _
  rw [tag_eq m00 (by omega) (by decide), Option.bind_some, seqB_refl, if_pos rfl, hs, chk_pos (by decide), salt_eq m00 T32_new (by omega) (by omega), Option.bind_some]
  show (if seqB (saltB m00.table_ d n) (saltB m00.table_ d n) = true then _ else _) = _
  rw [seqB_refl, if_pos rfl, awake]
  rfl
end Go.Proofs.Ytfjnafgigfapbaa
