/- One way up to the root of honest leaves: unless two unlike texts of one sum were summed, only the leaf of a place comes there. -/
import Derived.Test.YtileogoeoiafkaaPRt
namespace Go.Proofs.Ytileogoeoiafkaa
set_option linter.all false
open Go Go.RowKit Go.Fw
set_option maxRecDepth 100000
attribute [local irreducible] FUEL
theorem cl_32 {T : Tab} (hT : S32 T) {s : ByteArray} (hs : s.size = 32) : ∀ (r : Texts) (i n : Nat), (cl T s r i n).2.1 = true → (cl T s r i n).1.size = 32
  | [], i, n, h => by
    unfold cl at h ⊢
    by_cases h1 : n = 1
    · rw [if_pos h1]; exact hs
    · rw [if_neg h1] at h; cases h
  | y :: r, i, n, h => by
    unfold cl at h ⊢
    by_cases h1 : n = 1
    · rw [if_pos h1] at h; cases h
    · rw [if_neg h1]
      split <;> exact hT _
theorem cl_length (T : Tab) (s : ByteArray) : ∀ (r : Texts) (i n : Nat), (cl T s r i n).2.2.length ≤ r.length
  | [], i, n => by unfold cl; split <;> exact Nat.le_refl _
  | y :: r, i, n => by
    unfold cl
    split
    · exact Nat.zero_le _
    · split
      · have := cl_length T s r i (bel n)
        dsimp only
        rw [List.length_append, List.length_singleton, List.length_cons]; omega
      · have := cl_length T s r (i - bel n) (n - bel n)
        dsimp only
        rw [List.length_append, List.length_singleton, List.length_cons]; omega
theorem way_up {T : Tab} (hT : S32 T) {s : ByteArray} (hs : s.size = 32) : ∀ (r : Texts) (i : Nat) (xs : Texts), (∀ x ∈ xs, x.size = 32) → i < xs.length → (cl T s r i xs.length).2.1 = true → (cl T s r i xs.length).1 = tree T xs →
    (∀ u ∈ (cl T s r i xs.length).2.2, ∀ v ∈ treeX T xs, sumB T u = sumB T v → u = v) → xs[i]? = some s
  | [], i, xs, hx, hi, h, he, hno => by
    unfold cl at h he
    by_cases h1 : xs.length = 1
    · rw [if_pos h1] at he
      have h0 : i = 0 := by omega
      subst h0
      rw [tree_one T h1] at he
      dsimp only at he
      rw [List.getElem?_eq_getElem hi] at he ⊢
      rw [he]; rfl
    · rw [if_neg h1] at h; cases h
  | y :: r, i, xs, hx, hi, h, he, hno => by
    unfold cl at h he hno
    by_cases h1 : xs.length = 1
    · rw [if_pos h1] at h; cases h
    rw [if_neg h1] at h he hno
    have hb1 := bel_lt (n := xs.length) (by omega)
    have hb0 := bel_pos xs.length
    have l1 : (xs.take (bel xs.length)).length = bel xs.length := by rw [List.length_take]; omega
    have l2 : (xs.drop (bel xs.length)).length = xs.length - bel xs.length := by rw [List.length_drop]
    have tt := tree_two T (xs := xs) (by omega)
    have tx := treeX_two T (xs := xs) (by omega)
    have s1 := tree_32 hT (mem_take' (n := bel xs.length) hx)
    have s2 := tree_32 hT (mem_drop' (n := bel xs.length) hx)
    by_cases hb : i < bel xs.length
    · rw [if_pos hb] at h he hno
      dsimp only at h he hno
      have c1 := cl_32 hT hs r i (bel xs.length) h
      have htx := hno _ (List.mem_append_right _ (List.mem_singleton_self _)) (txN (tree T (xs.take (bel xs.length))) (tree T (xs.drop (bel xs.length)))) (by rw [tx]; exact List.mem_append_right _ (List.mem_singleton_self _)) (he.trans tt)
      have e1 := (txN_inj htx (by rw [c1, s1])).1
      have := way_up hT hs r i (xs.take (bel xs.length)) (mem_take' hx) (by omega) (by rw [l1]; exact h) (by rw [l1]; exact e1) (by
        rw [l1]
        exact fun u hu v hv => hno u (List.mem_append_left _ hu) v (by rw [tx]; exact List.mem_append_left _ (List.mem_append_left _ hv)))
      rw [List.getElem?_take, if_pos hb] at this
      exact this
    · rw [if_neg hb] at h he hno
      dsimp only at h he hno
      have c1 := cl_32 hT hs r (i - bel xs.length) (xs.length - bel xs.length) h
      have htx := hno _ (List.mem_append_right _ (List.mem_singleton_self _)) (txN (tree T (xs.take (bel xs.length))) (tree T (xs.drop (bel xs.length)))) (by rw [tx]; exact List.mem_append_right _ (List.mem_singleton_self _)) (he.trans tt)
      have hy : y.size = (tree T (xs.take (bel xs.length))).size ∨ y.size ≠ (tree T (xs.take (bel xs.length))).size := by omega
      have hl := congrArg ByteArray.size htx
      unfold txN at hl
      rw [size_app, size_app, size_app, size_app, s1, s2, c1] at hl
      have e1 := (txN_inj htx (by rw [s1]; omega)).2
      have := way_up hT hs r (i - bel xs.length) (xs.drop (bel xs.length)) (mem_drop' hx) (by omega) (by rw [l2]; exact h) (by rw [l2]; exact e1) (by
        rw [l2]
        exact fun u hu v hv => hno u (List.mem_append_left _ hu) v (by rw [tx]; exact List.mem_append_left _ (List.mem_append_right _ hv)))
      rw [List.getElem?_drop, show bel xs.length + (i - bel xs.length) = i by omega] at this
      exact this
end Go.Proofs.Ytileogoeoiafkaa
