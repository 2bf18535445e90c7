/- Which disks there are at the limits: the plain law. -/
import Derived.Test.YtbjilfhjclkebaaGMost
import Derived.Test.YtbjilfhjclkebaaPDiskB
import Derived.Test.YtbjilfhjclkebaaPAwake09
namespace Go.Proofs.Ytbjilfhjclkebaa
set_option linter.all false
open Go Go.RowKit Go.Fw
set_option maxRecDepth 100000
attribute [local irreducible] FUEL
theorem fok0 : FOk ⟨0, 0⟩ := ⟨by decide, by decide⟩
theorem pure_DiskMost (x0 : Int) {w z : Prop} (_ : w) (_ : z) : F.law09_DiskMost x0 = some true := by
  unfold F.law09_DiskMost
  by_cases h1 : x0 < -1
  · rw [if_pos (by simpa using h1), awake]; rfl
  rw [if_neg (by simpa using h1)]
  by_cases h2 : x0 > 1
  · rw [if_pos (by simpa using h2), awake]; rfl
  rw [if_neg (by simpa using h2), thru_inl]
  unfold F.law09_DiskMost.r1
  rw [w64 (by omega) (by omega)]
  by_cases h3 : x0 = 1
  · subst h3
    rw [new_none (.inr (by decide)), Option.bind_some, awake]
    rfl
  obtain ⟨n, hn⟩ : ∃ n : Nat, 8192 + x0 = (n : Int) := ⟨(8192 + x0).toNat, by omega⟩
  rw [hn, new_eq (by omega) (by omega), Option.bind_some]
  dsimp only [optC]
  rw [if_neg (by simpa using h3), thru_inl]
  have hok := new_ok (n := n) (by omega) (by omega)
  have hlen : (newD n).sure_.length = n := by unfold newD; rw [List.length_replicate]
  unfold F.law09_DiskMost.r3 F.disk_Disk_Size
  dsimp only
  rw [if_pos (by decide), Option.bind_some, hlen, w64 (n := 8192 + x0) (by omega) (by omega), w64 (n := 8191 + x0) (by omega) (by omega), if_pos (by simp; omega)]
  have hfill := fill_eq 1 (n := 64) (by decide)
  rw [show ((64 : Nat) : Int) = 64 from rfl] at hfill
  have hw : whyB (newD n) (8191 + x0) = 0 := whyB_in rfl (by omega) (by rw [hlen]; omega)
  rw [hfill, Option.bind_some, write_eq fok0 hok, hw, if_neg (by decide), if_neg (by rw [fillB_size]; decide), if_neg (by unfold due; intro h; cases h.1), Option.bind_some]
  dsimp only
  have hok2 : DOk (writeD (newD n) (8191 + x0) (fillB 1 64)) := write_ok hok (by omega) (by rw [hlen]; omega) (fillB_size _ _)
  have hw2 : whyB (writeD (newD n) (8191 + x0) (fillB 1 64)) (8192 + x0) = 5 := by
    unfold whyB
    have e1 : (writeD (newD n) (8191 + x0) (fillB 1 64)).off_ = false := rfl
    have e2 : (writeD (newD n) (8191 + x0) (fillB 1 64)).sure_.length = n := hlen
    rw [e1, e2, if_neg (by decide), if_pos (.inr (by omega))]
  rw [if_pos (by decide), Option.bind_some, write_eq (by exact fok0) hok2, hw2, if_pos (by decide), Option.bind_some]
  dsimp only
  rw [if_pos (by decide), awake]
  rfl
end Go.Proofs.Ytbjilfhjclkebaa
