/- A journal that nobody opened has nothing: the plain law. -/
import Derived.Test.YtgbloaophfaaoaaDoorGNobody
import Derived.Test.YtgbloaophfaaoaaDoorFwU
import Derived.Test.YtgbloaophfaaoaaDoorPAwake12
namespace Go.Proofs.YtgbloaophfaaoaaDoor
set_option linter.all false
open Go Go.RowKit Go.Fw
set_option maxRecDepth 100000
attribute [local irreducible] FUEL
def zJ : journal_Journal := ⟨0, 0, 0, 0, [], 0, false⟩
theorem wipe_nil : F.journal_Wipe 0 1 = some (0, 9) := by
  unfold F.journal_Wipe
  have e := iter_count (f := fun (x : Int × Int) => F.journal_Wipe.l1 0 1 x.1 x.2) (fun _ => (0, 0)) (n := 0) (r := .inr (0, 9)) (fun k hk => absurd hk (by omega)) rfl (k := FUEL) (by rw [FUEL_eq]; omega)
  refine (congrArg (fun o => thru o _) e).trans ?_
  rw [thru_inr]
theorem pure_JournalNobody (x0 : ByteArray) {w0 z0 : Prop} (_ : w0) (_ : z0) : F.law12_JournalNobody x0 = some true := by
  have a1 : F.journal_Journal_Append_1 x0 = some 9 := rfl
  have a2 : F.journal_Journal_Flush zJ = some (9, zJ) := rfl
  have a3 : F.journal_Journal_Records = some [] := rfl
  have a4 : F.journal_Journal_Sure zJ = some 0 := rfl
  have a5 : F.journal_Journal_Used_1 = some 0 := rfl
  have a6 : F.journal_Journal_Left_2 zJ = some 0 := rfl
  unfold F.law12_JournalNobody
  rw [wipe_nil, Option.bind_some, a1, Option.bind_some, if_pos (by decide)]
  show Option.bind (F.journal_Journal_Flush zJ) _ = _
  rw [a2, Option.bind_some]
  dsimp only
  rw [if_pos (by decide), a3, Option.bind_some, a4, Option.bind_some, a5, Option.bind_some, a6, Option.bind_some, if_pos (by decide), if_pos (by decide), awake]
  rfl
end Go.Proofs.YtgbloaophfaaoaaDoor
