/- Any text's sum is the document's: the plain law. -/
import Derived.Test.YtadhamgijkbgeaaPRef
import Derived.Test.YtadhamgijkbgeaaPAwake
namespace Go.Proofs.Ytadhamgijkbgeaa
set_option linter.all false
open Go Go.RowKit Go.Fw
theorem pure_ShaSums (x0 : ByteArray) : F.law02_ShaSums x0 = some true := by
  rw [ofL_surj x0]
  generalize x0.data.toList = l
  unfold F.law02_ShaSums
  by_cases h : (((ofL l).size : Nat) : Int) > 300
  · rw [ofL_size] at h
    rw [if_pos (by simpa [ofL_size] using h), chk_pos (by rw [ofL_size]; omega), ofL_extract, shaSum_eq _ (by simp; omega), Option.bind_some, rsum_eq (by simp; omega), Option.bind_some, seqB_refl, if_pos rfl, awake, Option.bind_some]
  · rw [ofL_size] at h
    rw [if_neg (by simpa [ofL_size] using h), shaSum_eq _ (by omega), Option.bind_some, rsum_eq (by omega), Option.bind_some, seqB_refl, if_pos rfl, awake, Option.bind_some]
end Go.Proofs.Ytadhamgijkbgeaa
