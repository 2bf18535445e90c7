/- What the laws of layer 24 cut of a proof. -/
import Derived.Test.YtileogoeoiafkaaPId
import Derived.Test.YtileogoeoiafkaaGFew
namespace Go.Proofs.Ytileogoeoiafkaa
set_option linter.all false
open Go Go.RowKit Go.Fw
set_option maxRecDepth 100000
attribute [local irreducible] FUEL
def fewS (s : absent_Side) : absent_Side := ⟨s.Index, cut100 s.ID, fewL s.Path⟩
def fewP (p : absent_Proof) : absent_Proof := ⟨p.Size, (p.Sides.take 5).map fewS⟩
theorem fewP_eq (p : absent_Proof) : F.law24_Few p = some (fewP p) := by
  unfold F.law24_Few
  have key : ∀ i, i < (p.Sides.take 5).length → (fun x : Int × List absent_Side => F.law24_Few.l2 p x.1 x.2) ((i : Int), ((p.Sides.take 5).take i).map fewS) = some (.inl (((i + 1 : Nat) : Int), ((p.Sides.take 5).take (i + 1)).map fewS)) := fun i hi => by
    rw [List.length_take] at hi
    dsimp only
    unfold F.law24_Few.l2
    rw [if_pos (by simp; omega), if_pos (by simp; omega)]
    show F.law24_Few.r1 p _ _ = _
    unfold F.law24_Few.r1
    have hy : p.Sides[i]? = some p.Sides[i] := List.getElem?_eq_getElem (by omega)
    have hl : (((p.Sides.take 5).take i).map fewS).length = i := by rw [List.length_map, List.length_take, List.length_take]; omega
    have hs : ((p.Sides.take 5).take (i + 1)).map fewS = ((p.Sides.take 5).take i).map fewS ++ [fewS p.Sides[i]] := by
      rw [List.take_succ, List.getElem?_take, if_pos (by omega), hy, List.map_append]; rfl
    have hroom : room (i + 1) 48 := by unfold room; omega
    rw [at_nat hy, Option.bind_some, hs, w64 (n := (i : Int) + 1) (by omega) (by omega)]
    unfold fewS cut100
    by_cases h : (p.Sides[i].ID.size : Int) > 100
    · rw [if_pos (by simpa using h), chk_pos (by omega), few_eq, Option.bind_some, chk_pos (by
        have : ([(⟨p.Sides[i].Index, p.Sides[i].ID.extract (0 : Int).toNat (100 : Int).toNat, fewL p.Sides[i].Path⟩ : absent_Side)] : List absent_Side).length = 1 := rfl
        unfold fewS cut100 at hl
        rw [hl, this]; exact hroom), if_pos (by omega)]; rfl
    · rw [if_neg (by simpa using h), few_eq, Option.bind_some, chk_pos (by
        have : ([(⟨p.Sides[i].Index, p.Sides[i].ID, fewL p.Sides[i].Path⟩ : absent_Side)] : List absent_Side).length = 1 := rfl
        unfold fewS cut100 at hl
        rw [hl, this]; exact hroom), if_neg (by omega)]; rfl
  have hend : (fun x : Int × List absent_Side => F.law24_Few.l2 p x.1 x.2) (((p.Sides.take 5).length : Int), ((p.Sides.take 5).take (p.Sides.take 5).length).map fewS) = some (.inr ((p.Sides.take 5).map fewS)) := by
    dsimp only
    unfold F.law24_Few.l2
    rw [List.take_length, List.length_take]
    by_cases h : p.Sides.length ≤ 5
    · rw [Nat.min_eq_right h, if_neg (by simp)]; rfl
    · rw [Nat.min_eq_left (by omega), if_pos (by simp; omega), if_neg (by simp)]; rfl
  have h := iter_count (f := fun x : Int × List absent_Side => F.law24_Few.l2 p x.1 x.2) (fun i => ((i : Int), ((p.Sides.take 5).take i).map fewS)) key hend (k := FUEL) (by rw [FUEL_eq, List.length_take]; omega)
  exact (congrArg (fun o => Option.bind o _) h).trans rfl
theorem fewP_sides (p : absent_Proof) : (fewP p).Sides.length ≤ 5 ∧ ∀ s ∈ (fewP p).Sides, s.ID.size ≤ 100 ∧ s.Path.length ≤ 30 ∧ ∀ x ∈ s.Path, x.size ≤ 100 := by
  unfold fewP
  refine ⟨by rw [List.length_map, List.length_take]; omega, fun s hs => ?_⟩
  obtain ⟨x, _, rfl⟩ := List.mem_map.1 hs
  exact ⟨cut100_size _, fewL_length _, fewL_small⟩
end Go.Proofs.Ytileogoeoiafkaa
