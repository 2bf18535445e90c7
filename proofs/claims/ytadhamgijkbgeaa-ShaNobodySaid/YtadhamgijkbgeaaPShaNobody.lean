/- A state that nobody made has no sum: the plain law. -/
import Derived.Test.YtadhamgijkbgeaaGNobody
import Derived.Test.YtadhamgijkbgeaaPAwake
namespace Go.Proofs.Ytadhamgijkbgeaa
set_option linter.all false
open Go Go.RowKit Go.Fw
set_option maxRecDepth 100000
attribute [local irreducible] FUEL
theorem pure_ShaNobody (x0 : ByteArray) : F.law02_ShaNobody x0 = some true := by
  unfold F.law02_ShaNobody
  simp only [F.sha_State_Write_1, F.sha_State_Write, F.sha_State_Sum_1, F.sha_State_Sum, F.sha_State_Len_1, F.sha_State_Len, awake, thru, Option.bind_some, Bool.not_false, if_true, seqB_refl]
  rfl
end Go.Proofs.Ytadhamgijkbgeaa
