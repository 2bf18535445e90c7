/- Which supers may be, just what is saved of one, and that it is loaded again: the plain law. -/
import Derived.Test.YtgbciaegbpkpaaaGreatDoorGSaves
import Derived.Test.YtgbciaegbpkpaaaGreatDoorPLoad
import Derived.Test.YtgbciaegbpkpaaaGreatDoorPAwake11
namespace Go.Proofs.YtgbciaegbpkpaaaGreatDoor
set_option linter.all false
open Go Go.RowKit Go.Fw
set_option maxRecDepth 100000
attribute [local irreducible] FUEL
theorem pure_SuperSaves (s : super_Super) {w0 z0 : Prop} (_ : w0) (_ : z0) : F.law11_SuperSaves s = some true := by
  unfold F.law11_SuperSaves
  rw [made4, Option.bind_some]
  dsimp only [optC]
  rw [right1_eq, Option.bind_some, right2_eq, Option.bind_some, if_neg (by simp), thru_inl]
  unfold F.law11_SuperSaves.r1
  have hwait : ∀ d : disk_Disk, DOk d → d.wait_ = [] → F.disk_Disk_Waiting d = some [] := fun d h hw => by
    rw [waiting_eq h]
    unfold keysD
    rw [hw]
    exact congrArg some (List.Perm.eq_nil (sortI_p []))
  by_cases h : RightP s
  rotate_left
  · rw [save_no h, Option.bind_some, right2_eq, decide_eq_false h, Option.bind_some, if_pos (by decide)]
    dsimp only
    rw [if_pos (by decide), hwait _ ok4_new.ok rfl, Option.bind_some, if_pos (by decide), awake]
    rfl
  have hsl := supL_len h
  have hm := gen_mod h
  have hs64 : (secL (stampG ⟨1, 0⟩) (supL s)).length = 64 := secL_len hsl
  obtain ⟨ok1, d1, w1, c1⟩ := step4 ok4_new (j := s.Gen.tmod 2) (by omega) (by omega) hs64
  rw [save_eq h g10 ok4_new.ok ok4_new.fall ok4_new.len rfl, if_neg ok4_new.due, if_neg d1, Option.bind_some, right2_eq, decide_eq_true h, Option.bind_some, if_neg (by decide), thru_inl]
  generalize hD : flushD (writeD (newD 4) (s.Gen.tmod 2) (ofL (secL (stampG ⟨1, 0⟩) (supL s)))) = D at ok1 w1 c1
  unfold F.law11_SuperSaves.r2
  dsimp only
  rw [st10] at c1 hs64
  have hwy : ∀ i : Int, 0 ≤ i → i < 4 → whyB D i = 0 := fun i h0 h1 => whyB_in ok1.off h0 (by rw [ok1.len]; omega)
  have hcj : curB D (s.Gen.tmod 2) = ofL (secL 4294967297 (supL s)) := by rw [c1 _ (by omega) (by omega), if_pos rfl]
  have hck : ∀ k : Int, 0 ≤ k → k < 4 → k ≠ s.Gen.tmod 2 → curB D k = ofL noL := fun k h0 h1 hn => by rw [c1 _ h0 h1, if_neg hn]; exact new_cur h0 h1
  have hload : F.super_Load D = some (s, 0) := by
    rcases hm with hm | hm
    · exact load_one ok1.ok.pos h hm (.inl ⟨rfl, rfl⟩) (a := 4294967297) (R := noL) (by decide) (by decide) (hwy _ (by decide) (by decide)) (hwy _ (by decide) (by decide)) (by rw [← hm]; exact hcj) (hck 1 (by decide) (by decide) (by omega)) rfl (by rw [no_read]; decide)
    · exact load_one ok1.ok.pos h hm (.inr ⟨rfl, rfl⟩) (a := 4294967297) (R := noL) (by decide) (by decide) (hwy _ (by decide) (by decide)) (hwy _ (by decide) (by decide)) (by rw [← hm]; exact hcj) (hck 0 (by decide) (by decide) (by omega)) rfl (by rw [no_read]; decide)
  rw [gread_eq ok1.ok.pos (hwy _ (by omega) (by omega)) hcj hs64, sec_read (by decide) (by decide) hsl, Option.bind_some, hload, Option.bind_some]
  dsimp only
  rw [if_pos (by decide), if_pos (by decide), bytes_eq h, Option.bind_some, if_pos (seqB_refl _), hwait _ ok1.ok w1, Option.bind_some, if_pos (by decide), if_pos ((sup_eqB s s).2 rfl), if_pos (by decide), awake]
  rfl
end Go.Proofs.YtgbciaegbpkpaaaGreatDoor
