/- What Root answers of any proof. -/
import Derived.Test.YtoamnhmdhficiaaPClimb
namespace Go.Proofs.Ytoamnhmdhficiaa
set_option linter.all false
open Go Go.RowKit Go.Fw
set_option maxRecDepth 100000
attribute [local irreducible] FUEL
/-- what the program's Root answers of a proof that may be -/
theorem rootP_eq {T : Tab} (hT : S32 T) {p : batch_Proof} (hp : Fine p) (h : RightP p) (m : mill_Mill) (hm : m.table_ = T) :
    let n := p.Size.toNat
    (p.Nodes.length ≠ many p.Picks n 0 n → ∃ m', F.batch_Root p m = some (b0, 20, m') ∧ m'.table_ = T) ∧
    (p.Nodes.length = many p.Picks n 0 n → ∃ s lf' ts, climb T p.Picks n 0 n p.Leaf p.Nodes = some (s, lf', [], ts) ∧ F.batch_Root p m = some (s, 0, runM ts m)) := by
  intro n
  have hn : p.Size = (n : Int) := by have := h.s1; omega
  have hn1 : 1 ≤ n := by have := h.s1; omega
  have hn2 : n ≤ 65536 := by have := h.s2; omega
  have hP : P p.Picks 0 n = p.Picks := P_all fun x hx => by rw [← hn]; exact h.within x hx
  have hll : p.Picks.length < 1000000000000000000 := by have := h.k2; omega
  have hlf : (P p.Picks 0 n).length ≤ p.Leaf.length := by rw [hP, h.lf]; exact Nat.le_refl _
  have hr : rightP p = true := by
    unfold rightP all32B
    simp only [Bool.and_eq_true, decide_eq_true_eq, List.all_eq_true]
    refine ⟨h.s1, h.s2, h.k1, h.k2, h.lf, ?_, h.nodes, h.leaf32, h.nodes32⟩
    have : ∀ (l : List Int) (last : Int), Rise l → (∀ x ∈ l, last < x ∧ x < p.Size) → riseG p.Size last l = true := by
      intro l
      induction l with
      | nil => intro _ _ _; rfl
      | cons x l ih =>
        intro last hr hb
        obtain ⟨g1, g2⟩ := List.pairwise_cons.1 hr
        unfold riseG
        simp only [Bool.and_eq_true, decide_eq_true_eq]
        exact ⟨(hb x (by simp)).1, (hb x (by simp)).2, ih x g2 fun y hy => ⟨g1 y hy, (hb y (by simp [hy])).2⟩⟩
    exact this _ _ h.rise fun x hx => by have := h.within x hx; omega
  have hroot := root_eq hT p.Picks h.rise hll n 0 n p.Leaf p.Nodes m FUEL hm hn1 (Nat.le_refl _) (by rw [FUEL_eq]; omega) (by omega) hlf h.leaf32 h.nodes32
  obtain ⟨c1, c2⟩ := climb_many T p.Picks h.rise n 0 n p.Leaf p.Nodes hn1 (Nat.le_refl _) hlf
  rw [hP, show ((0 : Nat) : Int) = 0 from rfl, ← hn] at hroot
  unfold F.batch_Root
  rw [right_eq hp, hr, Option.bind_some]
  simp only [Bool.not_true, Bool.false_eq_true, if_false]
  refine ⟨fun hne => ?_, fun he => ?_⟩
  · by_cases hlt : p.Nodes.length < many p.Picks n 0 n
    · rw [c1 hlt] at hroot
      obtain ⟨c, m', g1, g2, g3⟩ := hroot
      refine ⟨m', ?_, g3⟩
      rw [g1, Option.bind_some]
      dsimp only
      rw [if_pos g2]; rfl
    · obtain ⟨s, ts, e⟩ := c2 (by omega)
      rw [e] at hroot
      dsimp only at hroot
      refine ⟨runM ts m, ?_, by rw [runM_table, hm]⟩
      rw [hroot, Option.bind_some]
      dsimp only
      rw [if_neg (by simp), if_pos (by rw [List.length_drop]; simp; omega)]; rfl
  · obtain ⟨s, ts, e⟩ := c2 (by omega)
    have hz : p.Nodes.drop (many p.Picks n 0 n) = [] := by rw [← he, List.drop_length]
    rw [hz] at e
    rw [e] at hroot
    dsimp only at hroot
    refine ⟨s, _, ts, e, ?_⟩
    rw [hroot, Option.bind_some]
    dsimp only
    rw [if_neg (by simp), if_neg (by simp)]

theorem rootAny {T : Tab} (hT : S32 T) {p : batch_Proof} (hp : Fine p) (m : mill_Mill) (hm : m.table_ = T) :
    ∃ s e m', F.batch_Root p m = some (s, e, m') ∧ m'.table_ = T ∧ (e = 0 → RightP p ∧ ∃ lf' ts, climb T p.Picks p.Size.toNat 0 p.Size.toNat p.Leaf p.Nodes = some (s, lf', [], ts) ∧ m' = runM ts m) := by
  cases hr : rightP p with
  | false =>
    refine ⟨b0, 4, m, ?_, hm, fun h => by cases h⟩
    unfold F.batch_Root
    rw [right_eq hp, hr]; rfl
  | true =>
    have h := right_spec hr
    obtain ⟨h1, h2⟩ := rootP_eq hT hp h m hm
    by_cases he : p.Nodes.length = many p.Picks p.Size.toNat 0 p.Size.toNat
    · obtain ⟨s, lf', ts, hc, e⟩ := h2 he
      exact ⟨s, 0, _, e, by rw [runM_table, hm], fun _ => ⟨h, lf', ts, hc, rfl⟩⟩
    · obtain ⟨m', e, ht⟩ := h1 he
      exact ⟨b0, 20, m', e, ht, fun h => by cases h⟩
end Go.Proofs.Ytoamnhmdhficiaa
