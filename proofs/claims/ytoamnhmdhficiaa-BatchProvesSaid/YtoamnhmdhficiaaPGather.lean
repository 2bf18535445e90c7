/- What is gathered beside picked leaves, and that a proof of it comes to the root. -/
import Derived.Test.YtoamnhmdhficiaaGProves
import Derived.Test.YtoamnhmdhficiaaPRootAny
namespace Go.Proofs.Ytoamnhmdhficiaa
set_option linter.all false
open Go Go.RowKit Go.Fw
set_option maxRecDepth 100000
attribute [local irreducible] FUEL

theorem ln1_pos {α : Type} {l : List α} (h : l.length = 1) : ((l.length : Int) == 1) = true := by rw [h]; rfl
theorem ln1_neg {α : Type} {l : List α} (h : ¬ l.length = 1) : ¬ (((l.length : Int) == 1) = true) := by intro hh; rw [beq_iff_eq] at hh; omega
theorem ln0_pos {α : Type} {l : List α} (h : l.length = 0) : ((l.length : Int) == 0) = true := by rw [h]; rfl
theorem ln0_neg {α : Type} {l : List α} (h : ¬ l.length = 0) : ¬ (((l.length : Int) == 0) = true) := by intro hh; rw [beq_iff_eq] at hh; omega
def treeR (T : Tab) : Nat → Texts → ByteArray
  | 0, _ => b0
  | f + 1, xs => if xs.length = 0 then sumB T b0 else if xs.length = 1 then (xs[0]?).getD b0 else nodeB T (treeR T f (xs.take (bel xs.length))) (treeR T f (xs.drop (bel xs.length)))
theorem treeR_fuel (T : Tab) : ∀ (f g : Nat) (xs : Texts), xs.length < f → xs.length < g → treeR T f xs = treeR T g xs
  | 0, _, _, h, _ => by omega
  | _ + 1, 0, _, _, h => by omega
  | f + 1, g + 1, xs, h1, h2 => by
    unfold treeR
    by_cases h0 : xs.length = 0
    · rw [if_pos h0, if_pos h0]
    · rw [if_neg h0, if_neg h0]
      by_cases h3 : xs.length = 1
      · rw [if_pos h3, if_pos h3]
      · rw [if_neg h3, if_neg h3]
        have hb1 := bel_lt (n := xs.length) (by omega)
        have hb0 := bel_pos xs.length
        rw [treeR_fuel T f g (xs.take _) (by rw [List.length_take]; omega) (by rw [List.length_take]; omega), treeR_fuel T f g (xs.drop _) (by rw [List.length_drop]; omega) (by rw [List.length_drop]; omega)]
/-- the root of leaves -/
def tree (T : Tab) (xs : Texts) : ByteArray := treeR T (xs.length + 1) xs
theorem tree_nil (T : Tab) {xs : Texts} (h : xs.length = 0) : tree T xs = sumB T b0 := by unfold tree treeR; rw [if_pos h]
theorem tree_one (T : Tab) {xs : Texts} (h : xs.length = 1) : tree T xs = (xs[0]?).getD b0 := by unfold tree treeR; rw [if_neg (by omega), if_pos h]
theorem tree_two (T : Tab) {xs : Texts} (h : 2 ≤ xs.length) : tree T xs = nodeB T (tree T (xs.take (bel xs.length))) (tree T (xs.drop (bel xs.length))) := by
  have hb1 := bel_lt (n := xs.length) h
  have hb0 := bel_pos xs.length
  have e : tree T xs = nodeB T (treeR T xs.length (xs.take (bel xs.length))) (treeR T xs.length (xs.drop (bel xs.length))) := by
    unfold tree
    conv => lhs; unfold treeR
    rw [if_neg (by omega), if_neg (by omega)]
  rw [e]
  unfold tree
  rw [treeR_fuel T xs.length ((xs.take (bel xs.length)).length + 1) (xs.take (bel xs.length)) (by rw [List.length_take]; omega) (by omega), treeR_fuel T xs.length ((xs.drop (bel xs.length)).length + 1) (xs.drop (bel xs.length)) (by rw [List.length_drop]; omega) (by omega)]
theorem mem_take' {xs : Texts} {n : Nat} {Q : ByteArray → Prop} (h : ∀ x ∈ xs, Q x) : ∀ x ∈ xs.take n, Q x := fun x hx => h x (List.mem_of_mem_take hx)
theorem mem_drop' {xs : Texts} {n : Nat} {Q : ByteArray → Prop} (h : ∀ x ∈ xs, Q x) : ∀ x ∈ xs.drop n, Q x := fun x hx => h x (List.mem_of_mem_drop hx)
theorem tree_32 {T : Tab} (hT : S32 T) {xs : Texts} (h : ∀ x ∈ xs, x.size = 32) : (tree T xs).size = 32 := by
  by_cases h0 : xs.length = 0
  · rw [tree_nil T h0]; exact hT _
  · by_cases h1 : xs.length = 1
    · rw [tree_one T h1, List.getElem?_eq_getElem (by omega)]
      exact h _ (List.getElem_mem _)
    · rw [tree_two T (by omega)]; exact hT _
theorem slices {α : Type} {xs : List α} {k : Nat} : (xs.drop (0 : Int).toNat).take (((k : Nat) : Int).toNat - (0 : Int).toNat) = xs.take k ∧ (xs.drop ((k : Nat) : Int).toNat).take ((xs.length : Int).toNat - ((k : Nat) : Int).toNat) = xs.drop k := by
  refine ⟨rfl, ?_⟩
  rw [Int.toNat_natCast, Int.toNat_natCast]
  rw [List.take_of_length_le (by rw [List.length_drop]; omega)]
theorem mroot_eq {T : Tab} (hT : S32 T) : ∀ (f : Nat) (xs : Texts) (m : mill_Mill) (k : Nat), m.table_ = T → xs.length < f → f ≤ k → xs.length < 1000000000000000000 → (∀ x ∈ xs, x.size = 32) → ∃ m', F.merkle_Root k xs m = some (tree T xs, m') ∧ m'.table_ = T
  | 0, _, _, _, _, h, _, _, _ => by omega
  | f + 1, xs, m, k, hm, h1, hk, hx, h32 => by
    obtain ⟨k, rfl⟩ : ∃ j, k = j + 1 := ⟨k - 1, by omega⟩
    unfold F.merkle_Root
    by_cases h0 : xs.length = 0
    · rw [if_pos (ln0_pos h0), none_eq, Option.bind_some, tree_nil T h0, hm]
      exact ⟨_, rfl, by rw [runM_table, hm]⟩
    rw [if_neg (ln0_neg h0)]
    by_cases h2 : xs.length = 1
    · rw [if_pos (ln1_pos h2), tree_one T h2]
      obtain ⟨y, hy⟩ : ∃ y, xs[0]? = some y := ⟨xs[0], List.getElem?_eq_getElem (by omega)⟩
      have := at_nat hy
      rw [show ((0 : Nat) : Int) = 0 from rfl] at this
      rw [this, hy]
      exact ⟨m, rfl, hm⟩
    rw [if_neg (ln1_neg h2)]
    have hb1 := bel_lt (n := xs.length) (by omega)
    have hb0 := bel_pos xs.length
    rw [msplit_eq (by omega) hx, Option.bind_some, chk_pos (by omega), chk_pos (by omega), slices.1, slices.2]
    obtain ⟨m1, e1, t1⟩ := mroot_eq hT f (xs.take (bel xs.length)) m k hm (by rw [List.length_take]; omega) (by omega) (by rw [List.length_take]; omega) (mem_take' h32)
    rw [e1, Option.bind_some]
    dsimp only
    obtain ⟨m2, e2, t2⟩ := mroot_eq hT f (xs.drop (bel xs.length)) m1 k t1 (by rw [List.length_drop]; omega) (by omega) (by rw [List.length_drop]; omega) (mem_drop' h32)
    rw [e2, Option.bind_some]
    dsimp only
    have s1 := tree_32 hT (mem_take' (n := bel xs.length) h32)
    have s2 := tree_32 hT (mem_drop' (n := bel xs.length) h32)
    rw [node_eq _ (by omega) (by omega), Option.bind_some, t2, tree_two T (xs := xs) (by omega)]
    exact ⟨_, rfl, by rw [runM_table, t2]⟩
theorem below7_eq {n : Nat} (hn : 2 ≤ n) (h : n < 1000000000000000000) : F.law07_below (n : Int) = some ((bel n : Nat) : Int) := by
  unfold F.law07_below
  rw [iter_bel0 hn h fun k h1 h2 => ?_]
  · rfl
  · unfold F.law07_below.l1
    rw [w64 (by omega) (by omega)]
    by_cases hk : 2 * k < n
    · rw [if_pos (by simp; omega), if_pos hk]
      congr 3
    · rw [if_neg (by simp; omega), if_neg hk]
theorem root7_eq {T : Tab} (hT : S32 T) : ∀ (f : Nat) (xs : Texts) (m : mill_Mill) (k : Nat), m.table_ = T → xs.length < f → f ≤ k → xs.length < 1000000000000000000 → (∀ x ∈ xs, x.size = 32) → ∃ m', F.law07_Root k xs m = some (tree T xs, m') ∧ m'.table_ = T
  | 0, _, _, _, _, h, _, _, _ => by omega
  | f + 1, xs, m, k, hm, h1, hk, hx, h32 => by
    obtain ⟨k, rfl⟩ : ∃ j, k = j + 1 := ⟨k - 1, by omega⟩
    unfold F.law07_Root
    by_cases h0 : xs.length = 0
    · rw [if_pos (ln0_pos h0), none_eq, Option.bind_some, tree_nil T h0, hm]
      exact ⟨_, rfl, by rw [runM_table, hm]⟩
    rw [if_neg (ln0_neg h0)]
    by_cases h2 : xs.length = 1
    · rw [if_pos (ln1_pos h2), tree_one T h2]
      obtain ⟨y, hy⟩ : ∃ y, xs[0]? = some y := ⟨xs[0], List.getElem?_eq_getElem (by omega)⟩
      have := at_nat hy
      rw [show ((0 : Nat) : Int) = 0 from rfl] at this
      rw [this, hy]
      exact ⟨m, rfl, hm⟩
    rw [if_neg (ln1_neg h2)]
    have hb1 := bel_lt (n := xs.length) (by omega)
    have hb0 := bel_pos xs.length
    rw [below7_eq (by omega) hx, Option.bind_some, chk_pos (by omega), chk_pos (by omega), slices.1, slices.2]
    obtain ⟨m1, e1, t1⟩ := root7_eq hT f (xs.take (bel xs.length)) m k hm (by rw [List.length_take]; omega) (by omega) (by rw [List.length_take]; omega) (mem_take' h32)
    rw [e1, Option.bind_some]
    dsimp only
    obtain ⟨m2, e2, t2⟩ := root7_eq hT f (xs.drop (bel xs.length)) m1 k t1 (by rw [List.length_drop]; omega) (by omega) (by rw [List.length_drop]; omega) (mem_drop' h32)
    rw [e2, Option.bind_some]
    dsimp only
    have s1 := tree_32 hT (mem_take' (n := bel xs.length) h32)
    have s2 := tree_32 hT (mem_drop' (n := bel xs.length) h32)
    rw [node_eq _ (by omega) (by omega), Option.bind_some, t2, tree_two T (xs := xs) (by omega)]
    exact ⟨_, rfl, by rw [runM_table, t2]⟩

/-! ### what is gathered -/
def gath (T : Tab) (l : List Int) : Nat → Nat → Texts → Texts
  | 0, _, _ => []
  | f + 1, a, xs => if P l a xs.length = [] then [tree T xs] else if xs.length = 1 then [] else gath T l f a (xs.take (bel xs.length)) ++ gath T l f (a + bel xs.length) (xs.drop (bel xs.length))
theorem gath_two (T : Tab) {l : List Int} {f a : Nat} {xs : Texts} (hP : ¬ P l a xs.length = []) (h : ¬ xs.length = 1) : gath T l (f + 1) a xs = gath T l f a (xs.take (bel xs.length)) ++ gath T l f (a + bel xs.length) (xs.drop (bel xs.length)) := by
  conv => lhs; unfold gath
  rw [if_neg hP, if_neg h]
theorem gath_many (T : Tab) (l : List Int) : ∀ (f a : Nat) (xs : Texts), 1 ≤ xs.length → xs.length ≤ f → (gath T l f a xs).length = many l f a xs.length
  | 0, _, _, h, h2 => by omega
  | f + 1, a, xs, h, h2 => by
    unfold gath many
    by_cases hP : P l a xs.length = []
    · rw [if_pos hP, if_pos hP]; rfl
    rw [if_neg hP, if_neg hP]
    by_cases h1 : xs.length = 1
    · rw [if_pos h1, if_pos h1]; rfl
    rw [if_neg h1, if_neg h1]
    have hb1 := bel_lt (n := xs.length) (by omega)
    have hb0 := bel_pos xs.length
    have l1 : (xs.take (bel xs.length)).length = bel xs.length := by rw [List.length_take]; omega
    have l2 : (xs.drop (bel xs.length)).length = xs.length - bel xs.length := by rw [List.length_drop]
    have g1 := gath_many T l f a (xs.take (bel xs.length)) (by omega) (by omega)
    have g2 := gath_many T l f (a + bel xs.length) (xs.drop (bel xs.length)) (by omega) (by omega)
    rw [List.length_append, g1, g2, l1, l2]
theorem gath_32 {T : Tab} (hT : S32 T) (l : List Int) : ∀ (f a : Nat) (xs : Texts), (∀ x ∈ xs, x.size = 32) → ∀ y ∈ gath T l f a xs, y.size = 32
  | 0, _, _, _, y, hy => by cases hy
  | f + 1, a, xs, h, y, hy => by
    unfold gath at hy
    split at hy
    · rw [List.mem_singleton.1 hy]; exact tree_32 hT h
    · split at hy
      · cases hy
      · rcases List.mem_append.1 hy with hy | hy
        · exact gath_32 hT l f _ _ (mem_take' h) y hy
        · exact gath_32 hT l f _ _ (mem_drop' h) y hy
theorem gather_eq {T : Tab} (hT : S32 T) (l : List Int) (hr : Rise l) (hll : l.length < 1000000000000000000) : ∀ (f a : Nat) (xs : Texts) (m : mill_Mill) (k : Nat), m.table_ = T → 1 ≤ xs.length → xs.length ≤ f → f ≤ k → f ≤ 100000 → a + xs.length < 1000000000000000000 → (∀ x ∈ xs, x.size = 32) →
    ∃ m', F.batch_gather k xs (a : Int) (P l a xs.length) m = some (gath T l f a xs, m') ∧ m'.table_ = T
  | 0, _, _, _, _, _, h, h2, _, _, _, _ => by omega
  | f + 1, a, xs, m, k, hm, h1, h2, hk, hf, ha, h32 => by
    obtain ⟨k, rfl⟩ : ∃ j, k = j + 1 := ⟨k - 1, by omega⟩
    unfold F.batch_gather
    rw [len0]
    by_cases hP : P l a xs.length = []
    · have hg : gath T l (f + 1) a xs = [tree T xs] := by unfold gath; rw [if_pos hP]
      rw [if_pos (by simpa using hP), hg]
      obtain ⟨m', e, t⟩ := mroot_eq hT (xs.length + 1) xs m FUEL hm (by omega) (by rw [FUEL_eq]; omega) (by omega) h32
      rw [e]
      exact ⟨m', rfl, t⟩
    rw [if_neg (by simpa using hP)]
    by_cases hn : xs.length = 1
    · have hg : gath T l (f + 1) a xs = [] := by unfold gath; rw [if_neg hP, if_pos hn]
      rw [if_pos (ln1_pos hn), hg]
      exact ⟨m, rfl, hm⟩
    rw [if_neg (ln1_neg hn), gath_two T hP hn]
    have hb1 := bel_lt (n := xs.length) (by omega)
    have hb0 := bel_pos xs.length
    have hlP : (P l a xs.length).length ≤ l.length := List.length_filter_le _ _
    rw [split_eq (by omega) (by omega), Option.bind_some, w64 (n := (a : Int) + (bel xs.length : Nat)) (by omega) (by omega)]
    rw [show (a : Int) + ((bel xs.length : Nat) : Int) = ((a + bel xs.length : Nat) : Int) by omega, part_eq _ _ (hr.P a _) (by omega), Option.bind_some]
    dsimp only
    rw [P_low l (Nat.le_of_lt hb1), P_high l (Nat.le_of_lt hb1), chk_pos (by omega), chk_pos (by omega), slices.1, slices.2]
    have l1 : (xs.take (bel xs.length)).length = bel xs.length := by rw [List.length_take]; omega
    have l2 : (xs.drop (bel xs.length)).length = xs.length - bel xs.length := by rw [List.length_drop]
    obtain ⟨m1, e1, t1⟩ := gather_eq hT l hr hll f a (xs.take (bel xs.length)) m k hm (by omega) (by omega) (by omega) (by omega) (by omega) (mem_take' h32)
    rw [l1] at e1
    rw [e1, Option.bind_some]
    dsimp only
    obtain ⟨m2, e2, t2⟩ := gather_eq hT l hr hll f (a + bel xs.length) (xs.drop (bel xs.length)) m1 k t1 (by omega) (by omega) (by omega) (by omega) (by omega) (mem_drop' h32)
    rw [l2] at e2
    rw [e2, Option.bind_some]
    dsimp only
    have g1 := gath_many T l f a (xs.take (bel xs.length)) (by omega) (by omega)
    have g2 := gath_many T l f (a + bel xs.length) (xs.drop (bel xs.length)) (by omega) (by omega)
    have g3 := many_le l f a (xs.take (bel xs.length)).length (by omega)
    have g4 := many_le l f (a + bel xs.length) (xs.drop (bel xs.length)).length (by omega)
    rw [chk_pos (by unfold room; omega)]
    exact ⟨m2, rfl, t2⟩
theorem app_loop (ys : Texts) (m : mill_Mill) (out : Texts) (h : out.length + ys.length ≤ 200000) : iter (fun x => F.law30_beside.l1 (ys, m) x.1 x.2) FUEL (out, 0) = some (out ++ ys) := by
  have e := iter_count (f := fun (x : Texts × Int) => F.law30_beside.l1 (ys, m) x.1 x.2) (fun i => (out ++ ys.take i, (i : Int))) (n := ys.length) (r := out ++ ys) (fun i hi => by
    obtain ⟨y, hy⟩ : ∃ y, ys[i]? = some y := ⟨ys[i], List.getElem?_eq_getElem hi⟩
    dsimp only
    unfold F.law30_beside.l1
    dsimp only
    have ht : (out ++ ys.take i).length ≤ 200000 := by rw [List.length_append, List.length_take]; omega
    rw [if_pos (by simp; omega), at_nat hy, Option.bind_some, chk_pos (by unfold room; simp only [List.length_singleton]; omega), wadd (by omega), List.append_assoc]
    have : ys.take i ++ [y] = ys.take (i + 1) := by rw [List.take_succ, hy]; rfl
    rw [this])
    (by
      dsimp only
      unfold F.law30_beside.l1
      dsimp only
      rw [if_neg (by simp), List.take_length]) (k := FUEL) (by rw [FUEL_eq]; omega)
  rw [List.take_zero, List.append_nil] at e
  exact e
theorem beside_eq {T : Tab} (hT : S32 T) (l : List Int) (hll : l.length < 1000000000000000000) : ∀ (f a : Nat) (xs : Texts) (m : mill_Mill) (k : Nat), m.table_ = T → 1 ≤ xs.length → xs.length ≤ f → f ≤ k → f ≤ 100000 → a + xs.length < 1000000000000000000 → (∀ x ∈ xs, x.size = 32) →
    ∃ m', F.law30_beside k xs (a : Int) l m = some (gath T l f a xs, m') ∧ m'.table_ = T
  | 0, _, _, _, _, _, h, h2, _, _, _, _ => by omega
  | f + 1, a, xs, m, k, hm, h1, h2, hk, hf, ha, h32 => by
    obtain ⟨k, rfl⟩ : ∃ j, k = j + 1 := ⟨k - 1, by omega⟩
    unfold F.law30_beside
    rw [some_eq l hll ha, Option.bind_some]
    by_cases hP : P l a xs.length = []
    · have hg : gath T l (f + 1) a xs = [tree T xs] := by unfold gath; rw [if_pos hP]
      rw [if_pos (by simpa using hP), hg]
      obtain ⟨m', e, t⟩ := root7_eq hT (xs.length + 1) xs m FUEL hm (by omega) (by rw [FUEL_eq]; omega) (by omega) h32
      rw [e]
      exact ⟨m', rfl, t⟩
    rw [if_neg (by simpa using hP)]
    by_cases hn : xs.length = 1
    · have hg : gath T l (f + 1) a xs = [] := by unfold gath; rw [if_neg hP, if_pos hn]
      rw [if_pos (ln1_pos hn), hg]
      exact ⟨m, rfl, hm⟩
    rw [if_neg (ln1_neg hn), gath_two T hP hn]
    have hb1 := bel_lt (n := xs.length) (by omega)
    have hb0 := bel_pos xs.length
    rw [below_eq (by omega) (by omega), Option.bind_some, chk_pos (by omega), slices.1]
    have l1 : (xs.take (bel xs.length)).length = bel xs.length := by rw [List.length_take]; omega
    have l2 : (xs.drop (bel xs.length)).length = xs.length - bel xs.length := by rw [List.length_drop]
    obtain ⟨m1, e1, t1⟩ := beside_eq hT l hll f a (xs.take (bel xs.length)) m k hm (by omega) (by omega) (by omega) (by omega) (by omega) (mem_take' h32)
    rw [e1, Option.bind_some]
    dsimp only
    rw [chk_pos (by omega), slices.2, w64 (n := (a : Int) + (bel xs.length : Nat)) (by omega) (by omega), show (a : Int) + ((bel xs.length : Nat) : Int) = ((a + bel xs.length : Nat) : Int) by omega]
    obtain ⟨m2, e2, t2⟩ := beside_eq hT l hll f (a + bel xs.length) (xs.drop (bel xs.length)) m1 k t1 (by omega) (by omega) (by omega) (by omega) (by omega) (mem_drop' h32)
    rw [e2, Option.bind_some]
    have g1 := gath_many T l f a (xs.take (bel xs.length)) (by omega) (by omega)
    have g2 := gath_many T l f (a + bel xs.length) (xs.drop (bel xs.length)) (by omega) (by omega)
    have g3 := many_le l f a (xs.take (bel xs.length)).length (by omega)
    have g4 := many_le l f (a + bel xs.length) (xs.drop (bel xs.length)).length (by omega)
    have e3 := app_loop (gath T l f (a + bel xs.length) (xs.drop (bel xs.length))) m2 (gath T l f a (xs.take (bel xs.length))) (by omega)
    refine ⟨m2, ?_, t2⟩
    refine (congrArg (fun o => Option.bind o _) e3).trans ?_
    rfl
theorem need_eq (l : List Int) (hr : Rise l) (hll : l.length < 1000000000000000000) : ∀ (f a n k : Nat), 1 ≤ n → n ≤ f → f ≤ k → a + n < 1000000000000000000 → F.batch_need k (a : Int) (n : Int) (P l a n) = some ((many l f a n : Nat) : Int)
  | 0, _, _, _, h1, h2, _, _ => by omega
  | f + 1, a, n, k, h1, h2, hk, han => by
    obtain ⟨k, rfl⟩ : ∃ j, k = j + 1 := ⟨k - 1, by omega⟩
    unfold F.batch_need many
    rw [if_neg (by simp; omega), len0]
    by_cases hP : P l a n = []
    · rw [if_pos (by simpa using hP), if_pos hP]; rfl
    · rw [if_neg (by simpa using hP), if_neg hP]
      by_cases hn : n = 1
      · rw [if_pos (by simp; omega), if_pos hn]; rfl
      · rw [if_neg (by simp; omega), if_neg hn]
        have hb1 := bel_lt (n := n) (by omega)
        have hb0 := bel_pos n
        have m1 := many_le l f a (bel n) hb0
        have m2 := many_le l f (a + bel n) (n - bel n) (by omega)
        have hlP : (P l a n).length ≤ l.length := List.length_filter_le _ _
        rw [split_eq (by omega) (by omega), Option.bind_some, w64 (n := (a : Int) + (bel n : Nat)) (by omega) (by omega), w64 (n := (n : Int) - (bel n : Nat)) (by omega) (by omega)]
        rw [show (a : Int) + ((bel n : Nat) : Int) = ((a + bel n : Nat) : Int) by omega, show (n : Int) - ((bel n : Nat) : Int) = ((n - bel n : Nat) : Int) by omega, part_eq _ _ (hr.P a n) (by omega), Option.bind_some]
        dsimp only
        rw [P_low l (Nat.le_of_lt hb1), P_high l (Nat.le_of_lt hb1)]
        rw [need_eq l hr hll f a (bel n) k hb0 (by omega) (by omega) (by omega), Option.bind_some]
        rw [need_eq l hr hll f (a + bel n) (n - bel n) k (by omega) (by omega) (by omega) (by omega), Option.bind_some, w64 (by omega) (by omega)]
        congr 1

/-! ### that it comes to the root -/
def pickd (l : List Int) (a : Nat) (xs : Texts) : Texts := (P l a xs.length).map fun (x : Int) => (xs[(x - (a : Int)).toNat]?).getD b0
theorem P_split {l : List Int} (hr : Rise l) {a n k : Nat} (hk : k ≤ n) : P l a n = P l a k ++ P l (a + k) (n - k) := by
  obtain ⟨h1, h2⟩ := tw_filter (((a + k : Nat) : Int)) (P l a n) (hr.P a n)
  rw [← P_low l hk, ← P_high l hk, ← h1, ← h2, List.takeWhile_append_dropWhile]
theorem mem_P' {l : List Int} {a n : Nat} {x : Int} : x ∈ P l a n → (a : Int) ≤ x ∧ x < (a : Int) + n := by
  intro h
  have := (List.mem_filter.1 h).2
  unfold inR at this
  simpa using this
theorem pickd_split {l : List Int} (hr : Rise l) {a k : Nat} {xs : Texts} (hk : k ≤ xs.length) : pickd l a xs = pickd l a (xs.take k) ++ pickd l (a + k) (xs.drop k) := by
  unfold pickd
  have l1 : (xs.take k).length = k := by rw [List.length_take]; omega
  have l2 : (xs.drop k).length = xs.length - k := by rw [List.length_drop]
  rw [P_split hr hk, List.map_append, l1, l2]
  congr 1
  · refine List.map_congr_left fun x hx => ?_
    have := mem_P' hx
    rw [List.getElem?_take_of_lt (by omega)]
  · refine List.map_congr_left fun x hx => ?_
    have := mem_P' hx
    rw [List.getElem?_drop]
    congr 2
    omega
theorem climb_gath (T : Tab) (l : List Int) (hr : Rise l) : ∀ (f a : Nat) (xs lf ns : Texts), 1 ≤ xs.length → xs.length ≤ f → ∃ ts, climb T l f a xs.length (pickd l a xs ++ lf) (gath T l f a xs ++ ns) = some (tree T xs, lf, ns, ts)
  | 0, _, _, _, _, h1, h2 => by omega
  | f + 1, a, xs, lf, ns, h1, h2 => by
    by_cases hP : P l a xs.length = []
    · have hg : gath T l (f + 1) a xs = [tree T xs] := by unfold gath; rw [if_pos hP]
      have hp : pickd l a xs = [] := by unfold pickd; rw [hP]; rfl
      rw [climb_nil T _ _ hP, hg, hp]
      exact ⟨[], rfl⟩
    by_cases hn : xs.length = 1
    · have hg : gath T l (f + 1) a xs = [] := by unfold gath; rw [if_neg hP, if_pos hn]
      have hp : pickd l a xs = [tree T xs] := by
        unfold pickd
        rw [hn] at hP ⊢
        have ho := P_one hr a
        cases hq : P l a 1 with
        | nil => exact absurd hq hP
        | cons x r =>
          rw [hq] at ho
          have hr0 : r = [] := by
            cases r with
            | nil => rfl
            | cons _ _ => simp at ho
          have := mem_P' (l := l) (a := a) (n := 1) (x := x) (by rw [hq]; simp)
          rw [hr0, tree_one T hn, List.map_singleton, show (x - (a : Int)).toNat = 0 by omega]
      rw [climb_one T _ _ hP hn, hg, hp]
      exact ⟨[], rfl⟩
    have hb1 := bel_lt (n := xs.length) (by omega)
    have hb0 := bel_pos xs.length
    have l1 : (xs.take (bel xs.length)).length = bel xs.length := by rw [List.length_take]; omega
    have l2 : (xs.drop (bel xs.length)).length = xs.length - bel xs.length := by rw [List.length_drop]
    rw [climb_two T _ _ hP hn, gath_two T hP hn, pickd_split hr (Nat.le_of_lt hb1), List.append_assoc, List.append_assoc]
    obtain ⟨t1, e1⟩ := climb_gath T l hr f a (xs.take (bel xs.length)) (pickd l (a + bel xs.length) (xs.drop (bel xs.length)) ++ lf) (gath T l f (a + bel xs.length) (xs.drop (bel xs.length)) ++ ns) (by omega) (by omega)
    rw [l1] at e1
    rw [e1]
    dsimp only
    obtain ⟨t2, e2⟩ := climb_gath T l hr f (a + bel xs.length) (xs.drop (bel xs.length)) lf ns (by omega) (by omega)
    rw [l2] at e2
    rw [e2, tree_two T (xs := xs) (by omega)]
    exact ⟨_, rfl⟩
end Go.Proofs.Ytoamnhmdhficiaa
