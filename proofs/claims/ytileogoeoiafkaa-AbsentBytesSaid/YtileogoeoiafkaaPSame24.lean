/- Lists, sides and proofs that are one. -/
import Derived.Test.YtileogoeoiafkaaPWay
import Derived.Test.YtileogoeoiafkaaGSame
namespace Go.Proofs.Ytileogoeoiafkaa
set_option linter.all false
open Go Go.RowKit Go.Fw
set_option maxRecDepth 100000
attribute [local irreducible] FUEL
theorem sameList_refl (l : Texts) (hl : l.length < 1000000000000000000) : F.law24_sameList l l = some true := by
  unfold F.law24_sameList
  rw [if_neg (by simp)]
  have h := iter_count (f := fun x : Int => F.law24_sameList.l1 l l x) (fun i => (i : Int)) (n := l.length) (r := .inl ()) (fun i hi => by
      have hy : l[i]? = some l[i] := List.getElem?_eq_getElem hi
      unfold F.law24_sameList.l1
      rw [if_pos (by apply decide_eq_true; omega), at_nat hy, Option.bind_some, Option.bind_some, if_neg (by rw [seqB_refl]; decide), w64 (n := (i : Int) + 1) (by omega) (by omega)]; rfl) (by
      unfold F.law24_sameList.l1
      rw [if_neg (by simp)]) (k := FUEL) (by rw [FUEL_eq]; omega)
  exact (congrArg (fun o => thru o _) h).trans rfl
theorem sameSide_refl (a : absent_Side) (h : a.Path.length < 1000000000000000000) : F.law24_sameSide a a = some true := by
  unfold F.law24_sameSide
  rw [if_pos (by simp), if_pos (seqB_refl _), sameList_refl _ h]; rfl
theorem same_refl (p : absent_Proof) (hl : p.Sides.length < 1000000000000000000) (h : ∀ s ∈ p.Sides, s.Path.length < 1000000000000000000) : F.law24_same p p = some true := by
  unfold F.law24_same
  rw [if_neg (by simp), if_neg (by simp)]
  show F.law24_same.r1 p p = _
  unfold F.law24_same.r1
  have h := iter_count (f := fun x : Int => F.law24_same.l2 p p x) (fun i => (i : Int)) (n := p.Sides.length) (r := .inl ()) (fun i hi => by
      have hy : p.Sides[i]? = some p.Sides[i] := List.getElem?_eq_getElem hi
      unfold F.law24_same.l2
      rw [if_pos (by apply decide_eq_true; omega), at_nat hy, Option.bind_some, Option.bind_some, sameSide_refl _ (h _ (List.getElem_mem hi)), Option.bind_some, if_neg (by decide), w64 (n := (i : Int) + 1) (by omega) (by omega)]; rfl) (by
      unfold F.law24_same.l2
      rw [if_neg (by simp)]) (k := FUEL) (by rw [FUEL_eq]; omega)
  exact (congrArg (fun o => thru o _) h).trans rfl
end Go.Proofs.Ytileogoeoiafkaa
