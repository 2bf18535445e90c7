/- Just which bytes a sector has into which something is put, and that it is told as it was, or why it is not put: the plain law. -/
import Derived.Test.YthebdiboijhjmaaDoorGPuts
import Derived.Test.YthebdiboijhjmaaDoorPGuardReads
namespace Go.Proofs.YthebdiboijhjmaaDoor
set_option linter.all false
open Go Go.RowKit Go.Fw
set_option maxRecDepth 100000
attribute [local irreducible] FUEL
theorem made_none {b : Int} (h : b < 1 ∨ 2147483647 < b) : F.law10_made b = some (none, none) := by
  unfold F.law10_made
  have hn := new_eq (n := 10) (by decide) (by decide)
  rw [show ((10 : Nat) : Int) = 10 from rfl] at hn
  rw [hn, Option.bind_some]
  dsimp only [optC]
  rw [if_neg (by decide), thru_inl]
  unfold F.law10_made.r1
  have hl : (newD 10).sure_.length = 10 := by unfold newD; rw [List.length_replicate]
  have : F.guard_New b (newD 10) = some (none, 1) := by
    unfold F.guard_New F.disk_Disk_Size
    rw [Option.bind_some, if_neg (by intro e; rw [beq_iff_eq] at e; omega)]
    by_cases h1 : b < 1
    · rw [if_pos (by simpa using h1)]; rfl
    · rw [if_neg (by simpa using h1), if_pos (by simp; omega)]; rfl
  rw [this, Option.bind_some]
  dsimp only [optC]
  rw [if_pos (by decide)]
theorem pure_GuardPuts (x0 x1 : Int) (x2 x3 : ByteArray) {z0 z1 w2 z2 w3 z3 : Prop} (_ : (Lit.int .i64 x0).wf = true) (_ : z0) (_ : (Lit.int .i64 x1).wf = true) (_ : z1) (_ : w2) (_ : z2) (_ : w3) (_ : z3) : F.law10_GuardPuts x0 x1 x2 x3 = some true := by
  unfold F.law10_GuardPuts
  by_cases h2 : x2.size > 100
  · rw [if_pos (by simp; omega), awake]; rfl
  rw [if_neg (by simp; omega)]
  by_cases h3 : x3.size > 47
  · rw [if_pos (by simp; omega), awake]; rfl
  rw [if_neg (by simp; omega), thru_inl]
  unfold F.law10_GuardPuts.r1
  by_cases hb : x0 < 1 ∨ 2147483647 < x0
  · rw [made_none hb, Option.bind_some]
    dsimp only [optC]
    have : (if decide (x0 < 1) = true then some true else some (decide (x0 > 2147483647))) = some true := by
      by_cases h1 : x0 < 1
      · rw [if_pos (by simpa using h1)]
      · rw [if_neg (by simpa using h1)]; congr 1; simp; omega
    rw [this, Option.bind_some]
    unfold F.law10_GuardPuts.r2
    rw [if_pos rfl, awake]
    rfl
  have hb1 : 1 ≤ x0 := by omega
  have hb2 : x0 ≤ 2147483647 := by omega
  rw [made_eq hb1 hb2, Option.bind_some]
  dsimp only [optC]
  have : (if decide (x0 < 1) = true then some true else some (decide (x0 > 2147483647))) = some false := by
    rw [if_neg (by simp; omega)]; congr 1; simp; omega
  rw [this, Option.bind_some]
  unfold F.law10_GuardPuts.r6
  rw [if_neg (by decide), thru_inl]
  unfold F.law10_GuardPuts.r7
  rw [Option.bind_some]
  unfold F.law10_GuardPuts.r8
  obtain ⟨s, rfl⟩ : ∃ s, x2 = ofL s := ⟨_, ofL_surj x2⟩
  obtain ⟨m, rfl⟩ : ∃ s, x3 = ofL s := ⟨_, ofL_surj x3⟩
  rw [ofL_size] at h2 h3
  have hok := new_ok (n := 10) (by decide) (by decide)
  have hlen : (newD 10).sure_.length = 10 := by unfold newD; rw [List.length_replicate]
  have hw : whyB (newD 10) 5 = 0 := whyB_in rfl (by decide) (by rw [hlen]; decide)
  have hF : FOk (newD 10).fall_ := ⟨by decide, by decide⟩
  have g0 : GOk ⟨x0, 0⟩ := ⟨hb1, hb2, (by decide : (0 : Int) ≤ 0), (by decide : (0 : Int) < 4294967295)⟩
  rw [gput_eq g0 hF hok 5 m (by omega), if_neg (by omega), if_neg (fun e => e hw), if_neg (by unfold due; intro e; cases e.1), Option.bind_some]
  have hst : stampG ⟨x0, 0⟩ = x0 * 4294967296 + 1 := stamp_eq g0
  rw [hst]
  dsimp only
  have hlm : (secL (x0 * 4294967296 + 1) m).length = 64 := secL_len (by omega)
  have hok1 : DOk (writeD (newD 10) 5 (ofL (secL (x0 * 4294967296 + 1) m))) := write_ok hok (by decide) (by rw [hlen]; decide) (by rw [ofL_size, hlm])
  generalize hD : writeD (newD 10) 5 (ofL (secL (x0 * 4294967296 + 1) m)) = D at hok1
  have hDl : D.sure_.length = 10 := by rw [← hD]; exact hlen
  have hDo : D.off_ = false := by rw [← hD]; rfl
  have hDa : ¬ due D := by rw [← hD]; unfold due; intro e; cases e.1
  have hDf : FOk D.fall_ := by rw [← hD]; exact hF
  have g1 : GOk (upG ⟨x0, 0⟩) := ⟨hb1, hb2, (by decide : (0 : Int) ≤ 0 + 1), (by decide : (0 : Int) + 1 < 4294967295)⟩
  have hst1 : stampG (upG ⟨x0, 0⟩) = x0 * 4294967296 + 2 := stamp_eq g1
  rw [gput_eq g1 hDf hok1 x1 s (by omega), hst1, Option.bind_some, w64 (n := x0 * 4294967296) (by omega) (by omega), w64 (n := x0 * 4294967296 + 1) (by omega) (by omega), if_neg (by decide), if_neg (by simp), thru_inl]
  unfold F.law10_GuardPuts.r9
  rw [ofL_size]
  by_cases hs : 47 < s.length
  · rw [if_pos hs, if_pos (by simp; omega)]
    dsimp only
    rw [if_pos (by decide), if_pos (by decide), awake]
    rfl
  rw [if_neg hs, if_neg (by simp; omega), thru_inl]
  unfold F.law10_GuardPuts.r10
  by_cases hi : x1 < 0 ∨ 10 ≤ x1
  · have hw1 : whyB D x1 = 5 := by
      unfold whyB
      rw [hDo, hDl, if_neg (by decide), if_pos (by simpa using hi)]
    have : (if decide (x1 < 0) = true then some true else some (decide (x1 ≥ 10))) = some true := by
      by_cases h1 : x1 < 0
      · rw [if_pos (by simpa using h1)]
      · rw [if_neg (by simpa using h1)]; congr 1; simp; omega
    rw [this, Option.bind_some, hw1, if_pos (by decide)]
    unfold F.law10_GuardPuts.r11
    rw [if_pos rfl]
    dsimp only
    rw [if_pos (by decide), if_pos (by decide), awake]
    rfl
  have : (if decide (x1 < 0) = true then some true else some (decide (x1 ≥ 10))) = some false := by
    rw [if_neg (by simp; omega)]; congr 1; simp; omega
  have hw1 : whyB D x1 = 0 := whyB_in hDo (by omega) (by rw [hDl]; omega)
  rw [this, Option.bind_some, if_neg (fun e => e hw1), if_neg hDa]
  unfold F.law10_GuardPuts.r11
  rw [if_neg (by decide), thru_inl]
  unfold F.law10_GuardPuts.r12
  rw [ofL_size]
  dsimp only
  generalize hA : x0 * 4294967296 + 2 = A
  have hA0 : 4294967296 ≤ A := by omega
  have hA1 : A ≤ 9223372036854775807 := by omega
  have hS := secL_len (a := A) (s := s) (by omega)
  have hcur : curB (writeD D x1 (ofL (secL A s))) x1 = ofL (secL A s) := by rw [cur_write, if_pos rfl]
  have hEl : (writeD D x1 (ofL (secL A s))).sure_.length = 10 := hDl
  have hwE : whyB (writeD D x1 (ofL (secL A s))) x1 = 0 := whyB_in hDo (by omega) (by rw [hEl]; omega)
  generalize hE : writeD D x1 (ofL (secL A s)) = E at hcur hEl hwE
  have hEp : 1 ≤ E.sure_.length := by omega
  have hR := sec_read hA0 hA1 (s := s) (by omega)
  have hA2 : A = IntKind.i64.wrap (x0 * 4294967296 + 1 + 1) := by rw [w64 (by omega) (by omega)]; omega
  rw [read_eq hEp, if_pos hwE, Option.bind_some, hcur, gget_eq hEp hwE hcur hS, hR, Option.bind_some, eight_eq, Option.bind_some, if_pos (by simp), if_pos (by simp), if_pos (by rw [beq_iff_eq]; exact hA2), bstr_one _ (by omega)]
  simp only [ofL_append]
  rw [chk_pos (by rw [ofL_size, ofL_size, fixI_len]; simp), chk_pos (by rw [ofL_size, List.length_append, fixI_len]; simp; omega), w64 (n := 47 - (s.length : Int)) (by omega) (by omega), noughts_eq (by omega) (by omega), Option.bind_some]
  simp only [ofL_append]
  have e : ((47 : Int) - (s.length : Int)).toNat = 47 - s.length := by omega
  rw [e]
  have hl : (fixI 8 A ++ [UInt8.ofNat s.length] ++ s ++ List.replicate (47 - s.length) 0 ++ fixI 8 A) = secL A s := by
    unfold secL
    simp
  rw [chk_pos (by rw [ofL_size, ofL_size, List.length_append, List.length_append, List.length_replicate, fixI_len]; simp; omega), chk_pos (by rw [ofL_size, ofL_size, List.length_append, List.length_append, List.length_append, List.length_replicate, fixI_len]; simp; omega), hl, gblank_eq hEp hwE hcur hS, hR, Option.bind_some]
  unfold F.guard_Guard_Disk F.guard_Guard_none F.disk_Disk_Size F.disk_Disk_Acts
  rw [Option.bind_some, Option.bind_some, Option.bind_some, Option.bind_some, awake, Option.bind_some, if_pos (seqB_refl _), if_pos (seqB_refl _), if_pos (by simp), if_pos (by simp), if_pos (by simp), if_pos (by rw [hEl]; decide), if_pos (by simp)]
end Go.Proofs.YthebdiboijhjmaaDoor
