/- A sector of a journal that holds nothing. -/
import Derived.Test.YtgbloaophfaaoaaDoorPJournal
import Derived.Test.YtgbloaophfaaoaaDoorGSectorsb
namespace Go.Proofs.YtgbloaophfaaoaaDoor
set_option linter.all false
open Go Go.RowKit Go.Fw
set_option maxRecDepth 100000
attribute [local irreducible] FUEL
theorem part_blank {i p : Int} {j : journal_Journal} {g : guard_Guard} {d : disk_Disk} (hi : i < j.size_) (hp : 1 ≤ d.sure_.length) {q : Int} (hq : IntKind.i64.wrap (j.base_ + i) = q) (hw : whyB d q = 0) {b : List UInt8} (hc : curB d q = ofL b) (hb : b.length = 64) (h7 : (readL b).2.2 = 7 ∨ (readL b).2.2 = 17) : F.journal_Journal_part_1 i p j g d = some (0, 0, ByteArray.mk #[], 0, 0) := by
  unfold F.journal_Journal_part_1
  rw [if_neg (by simp; omega), hq, gget_eq hp hw hc hb, Option.bind_some]
  dsimp only
  have : (if ((readL b).2.2 == 7) = true then some true else some ((readL b).2.2 == 17)) = some true := by
    rcases h7 with h | h
    · rw [h]; rfl
    · rw [h]; rfl
  rw [this, Option.bind_some]
  unfold F.journal_Journal_part_1.r1
  rw [if_pos rfl, thru_inr]
theorem record_none {i p : Int} {j : journal_Journal} {g : guard_Guard} {d : disk_Disk} (h : F.journal_Journal_part_1 i p j g d = some (0, 0, ByteArray.mk #[], 0, 0)) : F.journal_Journal_record_1 i p j g d = some (ByteArray.mk #[], 0, 0, 0) := by
  unfold F.journal_Journal_record_1
  rw [h, Option.bind_some]
  rfl
def j0 : journal_Journal := ⟨3, 60, 0, 7, [], 0, false⟩
end Go.Proofs.YtgbloaophfaaoaaDoor
