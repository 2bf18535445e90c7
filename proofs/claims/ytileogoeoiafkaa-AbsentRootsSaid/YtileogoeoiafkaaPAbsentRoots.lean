/- AbsentRoots in plain words: any list tidied, its root, how many IDs it has. -/
import Derived.Test.YtileogoeoiafkaaPRt
import Derived.Test.YtileogoeoiafkaaPAwake24
import Derived.Test.YtileogoeoiafkaaPSame24
import Derived.Test.YtileogoeoiafkaaGRoots
namespace Go.Proofs.Ytileogoeoiafkaa
set_option linter.all false
open Go Go.RowKit Go.Fw
set_option maxRecDepth 100000
attribute [local irreducible] FUEL
theorem pure_AbsentRoots (l : Texts) {q0 q1 : Prop} (_ : q0) (_ : q1) : F.law24_AbsentRoots l = some true := by
  have hl := fewL_length l
  obtain ⟨h1, h2, h3, h4⟩ := tidyB_eq (l := fewL l) (by omega)
  unfold F.law24_AbsentRoots
  rw [few_eq, Option.bind_some, mnew_eq, Option.bind_some, h2, Option.bind_some, rootA_eq s32_new (by omega) m00 rfl, Option.bind_some, h1, Option.bind_some, sameList_refl _ (by omega), Option.bind_some]
  dsimp only
  rw [if_pos rfl, if_pos (by simp), leavesL_eq (T := []) (fun x hx => ((h3.mem x).1 hx).2) (by omega) _ (by rw [runM_table, runM_table]; rfl), Option.bind_some]
  dsimp only
  rw [root7_eq s32_new ((tidyB (fewL l)).length + 1) _ _ FUEL (by rw [runM_table, runM_table, runM_table]; rfl) (by rw [List.length_map]; omega) (by rw [FUEL_eq]; omega) (by rw [List.length_map]; omega) (idL_32 s32_new), Option.bind_some]
  dsimp only
  rw [if_pos (seqB_refl _), awake]
  rfl
end Go.Proofs.Ytileogoeoiafkaa
