/- Two unlike fields have unlike pledges, or two unlike texts that were summed have one sum: the plain law. -/
import Derived.Test.YtfjnafgigfapbaaGApart
import Derived.Test.YtfjnafgigfapbaaPPledge
import Derived.Test.YtfjnafgigfapbaaPAwake06
namespace Go.Proofs.Ytfjnafgigfapbaa
set_option linter.all false
open Go Go.RowKit Go.Fw
set_option maxRecDepth 100000
attribute [local irreducible] FUEL
theorem ofTx_inj {a b c d a' b' c' d' : ByteArray} (ha : a.size ≤ 10000) (hb : b.size ≤ 10000) (hc : c.size ≤ 10000) (hd : d.size ≤ 10000) (ha' : a'.size ≤ 10000) (hb' : b'.size ≤ 10000) (hc' : c'.size ≤ 10000) (hd' : d'.size ≤ 10000)
    (h : ofTx a b c d = ofTx a' b' c' d') : a = a' ∧ b = b' ∧ c = c' ∧ d = d' := by
  have assoc : ∀ x y z : ByteArray, x ++ y ++ z = x ++ (y ++ z) := by
    intro x y z
    rw [app_eq, app_eq, app_eq x, app_eq y]
    simp only [ofL_toList]
    rw [List.append_assoc]
  unfold ofTx at h
  rw [assoc, assoc, assoc, assoc, assoc, assoc] at h
  obtain ⟨_, h⟩ := app_inj h rfl
  obtain ⟨e1, h⟩ := textB_cut (by omega) (by omega) h
  obtain ⟨e2, h⟩ := textB_cut (by omega) (by omega) h
  have en : ∀ x : ByteArray, x = x ++ b0 := fun x => by rw [app_eq, show b0.data.toList = [] from rfl, List.append_nil, ofL_lit]
  obtain ⟨e3, h⟩ := textB_cut (by omega) (by omega) h
  rw [en (textB d), en (textB d')] at h
  obtain ⟨e4, _⟩ := textB_cut (by omega) (by omega) h
  exact ⟨e1, e2, e3, e4⟩
theorem take10 {α : Type} (l : List α) : (if decide ((l.length : Int) > 10) then (chk (0 ≤ (0 : Int) ∧ (0 : Int) ≤ (10 : Int) ∧ (10 : Int) ≤ (l.length : Int)) (some (((l.drop (0 : Int).toNat).take ((10 : Int).toNat - (0 : Int).toNat))))) else (some l)) = some (l.take 10) := by
  by_cases h : l.length > 10
  · rw [if_pos (by simp; omega), chk_pos (by omega)]; rfl
  · rw [if_neg (by simp; omega), List.take_of_length_le (by omega)]
theorem sized_of {x0 : List mill_Entry} {k0 : Nat} (z0 : ∀ n ∈ (x0.length * k0 :: x0.flatMap fun y => (([] : List Nat) ++ [y.Key.size] ++ [y.Text.size] ++ [y.Out.size])), n ≤ 140737488351232) : (∀ e ∈ x0.take 10, sizedE e) ∧ (x0.take 10).length < 1000000000000000000 := by
  refine ⟨fun e he => ?_, by rw [List.length_take]; omega⟩
  have hm := List.mem_of_mem_take he
  refine ⟨z0 _ (List.mem_cons_of_mem _ (List.mem_flatMap.2 ⟨e, hm, by simp⟩)), z0 _ (List.mem_cons_of_mem _ (List.mem_flatMap.2 ⟨e, hm, by simp⟩)), z0 _ (List.mem_cons_of_mem _ (List.mem_flatMap.2 ⟨e, hm, by simp⟩))⟩
theorem pure_PledgeApart (x0 : List mill_Entry) (p q : law06_Field) {k0 : Nat} {w0 w1 z1 w2 z2 : Prop} (_ : w0) (z0 : ∀ n ∈ (x0.length * k0 :: x0.flatMap fun y => (([] : List Nat) ++ [y.Key.size] ++ [y.Text.size] ++ [y.Out.size])), n ≤ 140737488351232)
    (_ : w1) (_ : z1) (_ : w2) (_ : z2) : F.law06_PledgeApart x0 p q = some true := by
  obtain ⟨hs, hl⟩ := sized_of z0
  unfold F.law06_PledgeApart
  refine (congrArg (fun o => Option.bind o _) (take10 x0)).trans ?_
  rw [Option.bind_some]
  unfold F.law06_PledgeApart.r1
  generalize x0.take 10 = l at hs hl
  rw [with_eq hs hl, Option.bind_some]
  cases h32 : all32 l with
  | false =>
    simp only [Bool.false_eq_true, if_false, optC_none]
    rw [if_pos (by decide), awake]; rfl
  | true =>
    simp only [if_true, optC_some]
    rw [if_neg (by decide)]
    generalize tabOf l = T
    rw [cut_eq, Option.bind_some, cut_eq, Option.bind_some, cut_eq, Option.bind_some, cut_eq, Option.bind_some, cut_eq, Option.bind_some, cut_eq, Option.bind_some, cut_eq, Option.bind_some, cut_eq, Option.bind_some]
    have h0 := cutB_size p.ID
    have h1 := cutB_size p.Name
    have h2 := cutB_size p.Salt
    have h3 := cutB_size p.Value
    have h4 := cutB_size q.ID
    have h5 := cutB_size q.Name
    have h6 := cutB_size q.Salt
    have h7 := cutB_size q.Value
    generalize cutB p.ID = a at h0
    generalize cutB p.Name = b at h1
    generalize cutB p.Salt = c at h2
    generalize cutB p.Value = d at h3
    generalize cutB q.ID = a' at h4
    generalize cutB q.Name = b' at h5
    generalize cutB q.Salt = c' at h6
    generalize cutB q.Value = d' at h7
    rw [of_eq _ (by omega) (by omega) (by omega) (by omega), Option.bind_some]
    dsimp only
    rw [of_eq _ (by omega) (by omega) (by omega) (by omega), Option.bind_some, noteM_table]
    dsimp only
    rw [twins_eq, Option.bind_some]
    have hN := ((noted_new T).sum (by simp) (ofTx a b c d)).sum (by simp) (ofTx a' b' c' d')
    generalize noteM (ofTx a' b' c' d') (sumB T (ofTx a' b' c' d')) (noteM (ofTx a b c d) (sumB T (ofTx a b c d)) ⟨T, [], ⟨b0, b0⟩, false, false, 0⟩) = M at hN
    cases hs : seqB (sumB T (ofTx a b c d)) (sumB T (ofTx a' b' c' d')) with
    | false => 
      rw [awake]
      split <;> rfl
    | true =>
      cases hf : M.found_ with
      | true =>
        have := hN.twins hf
        have hsq : seqB M.twins_.e0 M.twins_.e1 = false := by
          cases hc : seqB M.twins_.e0 M.twins_.e1 with
          | false => rfl
          | true => exact absurd (seqB_iff.1 hc) this
        dsimp only
        rw [hsq, awake]
        split <;> rfl
      | false =>
        have := hN.apart hf (s := ofTx a b c d) (t := ofTx a' b' c' d') (by simp) (by simp) (seqB_iff.1 hs)
        obtain ⟨rfl, rfl, rfl, rfl⟩ := ofTx_inj (by omega) (by omega) (by omega) (by omega) (by omega) (by omega) (by omega) (by omega) this
        rw [seqB_refl, seqB_refl, seqB_refl, seqB_refl, if_pos (by decide), awake]
        rfl
end Go.Proofs.Ytfjnafgigfapbaa
