/- Leaves of IDs, roots of leaves, and what is summed for them, in plain words. -/
import Derived.Test.YtileogoeoiafkaaPChk
import Derived.Test.YtileogoeoiafkaaPTidy
namespace Go.Proofs.Ytileogoeoiafkaa
set_option linter.all false
open Go Go.RowKit Go.Fw
set_option maxRecDepth 100000
attribute [local irreducible] FUEL
/-! ### leaves -/
abbrev L8 := Texts × Int × M7
theorem leaves_loop {T : Tab} {t : Texts} (ht : ∀ x ∈ t, idB x = true) {f : L8 → Option (L8 ⊕ (Texts × M7))}
    (hf : ∀ (i : Nat) (s : ByteArray) (out : Texts) (m : mill_Mill), m.table_ = T → t[i]? = some s → idB s = true → out.length = i → f (out, (i : Int), m7 m) = some (.inl (out ++ [idL T s], ((i + 1 : Nat) : Int), m7 (runM [idT s] m))))
    (hn : ∀ out m, f (out, (t.length : Int), m7 m) = some (.inr (out, m7 m))) :
    ∀ (l : Texts) (i : Nat) (out : Texts) (m : mill_Mill) (k : Nat), m.table_ = T → t.drop i = l → i + l.length = t.length → out.length = i → l.length < k → iter f k (out, (i : Int), m7 m) = some (out ++ l.map (idL T), m7 (runM (l.map idT) m))
  | l, i, out, m, 0, _, _, _, _, h => by omega
  | [], i, out, m, k + 1, hm, hd, hl, ho, hk => by
    have : i = t.length := by simpa using hl
    subst this
    rw [iter, hn, List.map_nil, List.append_nil]; rfl
  | s :: l, i, out, m, k + 1, hm, hd, hl, ho, hk => by
    have hy : t[i]? = some s := by
      have := congrArg List.head? hd
      rw [List.head?_drop] at this
      simpa using this
    rw [iter, hf i s out m hm hy (ht s (List.mem_of_getElem? hy)) ho]
    dsimp only
    rw [leaves_loop ht hf hn l (i + 1) (out ++ [idL T s]) (runM [idT s] m) k (by rw [runM_table, hm]) (by rw [← List.drop_drop, hd]; rfl) (by simp only [List.length_cons] at hl; omega) (by rw [List.length_append, ho]; rfl) (by simp only [List.length_cons] at hk; omega)]
    rw [List.append_assoc]; rfl
theorem leavesA_eq {T : Tab} {t : Texts} (ht : ∀ x ∈ t, idB x = true) (hl : t.length ≤ 800) (m : mill_Mill) (hm : m.table_ = T) : F.absent_leaves t m = some (t.map (idL T), runM (t.map idT) m) := by
  have h := leaves_loop (T := T) ht (f := fun x => F.absent_leaves.l1 t x.1 x.2.1 x.2.2.1 x.2.2.2.1 x.2.2.2.2.1 x.2.2.2.2.2.1 x.2.2.2.2.2.2.1 x.2.2.2.2.2.2.2.1 x.2.2.2.2.2.2.2.2) (fun i s out m hm hs hid ho => by
      have hi := lt_of_get hs
      unfold m7
      dsimp only
      unfold F.absent_leaves.l1
      rw [if_pos (by apply decide_eq_true; omega), at_nat hs, Option.bind_some]
      show Option.bind (F.absent_leaf s m) _ = _
      rw [leafA_eq hid, Option.bind_some, hm]
      dsimp only
      rw [chk_pos (room_small (by rw [List.length_singleton]; omega) (by omega)), w64 (n := (i : Int) + 1) (by omega) (by omega)]; rfl) (fun out m => by
      unfold m7
      dsimp only
      unfold F.absent_leaves.l1
      rw [if_neg (by simp)]) t 0 [] m FUEL hm rfl (by omega) rfl (by rw [FUEL_eq]; omega)
  unfold F.absent_leaves
  exact (congrArg (fun o => Option.bind o _) h).trans rfl
theorem leavesL_eq {T : Tab} {t : Texts} (ht : ∀ x ∈ t, idB x = true) (hl : t.length ≤ 800) (m : mill_Mill) (hm : m.table_ = T) : F.law24_leaves t m = some (t.map (idL T), runM (t.map idT) m) := by
  have h := leaves_loop (T := T) ht (f := fun x => F.law24_leaves.l1 t x.1 x.2.1 x.2.2.1 x.2.2.2.1 x.2.2.2.2.1 x.2.2.2.2.2.1 x.2.2.2.2.2.2.1 x.2.2.2.2.2.2.2.1 x.2.2.2.2.2.2.2.2) (fun i s out m hm hs hid ho => by
      have hi := lt_of_get hs
      have h24 := (idB_small hid).1
      have := textB_size (s := s) (by omega)
      unfold m7
      dsimp only
      unfold F.law24_leaves.l1
      rw [if_pos (by apply decide_eq_true; omega), at_nat hs, Option.bind_some, text_eq (by omega), Option.bind_some, chk_pos (by show 2 + _ ≤ _; omega)]
      show Option.bind (F.pledge_Leaf (wId ++ textB s) m) _ = _
      rw [pleaf_eq hid, Option.bind_some, hm]
      dsimp only
      rw [chk_pos (room_small (by rw [List.length_singleton]; omega) (by omega)), w64 (n := (i : Int) + 1) (by omega) (by omega)]; rfl) (fun out m => by
      unfold m7
      dsimp only
      unfold F.law24_leaves.l1
      rw [if_neg (by simp)]) t 0 [] m FUEL hm rfl (by omega) rfl (by rw [FUEL_eq]; omega)
  unfold F.law24_leaves
  exact (congrArg (fun o => Option.bind o _) h).trans rfl
/-! ### roots -/
def treeR (T : Tab) : Nat → Texts → ByteArray
  | 0, _ => b0
  | f + 1, xs => if xs.length = 0 then sumB T b0 else if xs.length = 1 then (xs[0]?).getD b0 else nodeB T (treeR T f (xs.take (bel xs.length))) (treeR T f (xs.drop (bel xs.length)))
theorem treeR_fuel (T : Tab) : ∀ (f g : Nat) (xs : Texts), xs.length < f → xs.length < g → treeR T f xs = treeR T g xs
  | 0, _, _, h, _ => by omega
  | _ + 1, 0, _, _, h => by omega
  | f + 1, g + 1, xs, h1, h2 => by
    unfold treeR
    by_cases h0 : xs.length = 0
    · rw [if_pos h0, if_pos h0]
    · rw [if_neg h0, if_neg h0]
      by_cases h3 : xs.length = 1
      · rw [if_pos h3, if_pos h3]
      · rw [if_neg h3, if_neg h3]
        have hb1 := bel_lt (n := xs.length) (by omega)
        have hb0 := bel_pos xs.length
        rw [treeR_fuel T f g (xs.take _) (by rw [List.length_take]; omega) (by rw [List.length_take]; omega), treeR_fuel T f g (xs.drop _) (by rw [List.length_drop]; omega) (by rw [List.length_drop]; omega)]
/-- the root of leaves -/
def tree (T : Tab) (xs : Texts) : ByteArray := treeR T (xs.length + 1) xs
theorem tree_nil (T : Tab) {xs : Texts} (h : xs.length = 0) : tree T xs = sumB T b0 := by unfold tree treeR; rw [if_pos h]
theorem tree_one (T : Tab) {xs : Texts} (h : xs.length = 1) : tree T xs = (xs[0]?).getD b0 := by unfold tree treeR; rw [if_neg (by omega), if_pos h]
theorem tree_two (T : Tab) {xs : Texts} (h : 2 ≤ xs.length) : tree T xs = nodeB T (tree T (xs.take (bel xs.length))) (tree T (xs.drop (bel xs.length))) := by
  have hb1 := bel_lt (n := xs.length) h
  have hb0 := bel_pos xs.length
  have e : tree T xs = nodeB T (treeR T xs.length (xs.take (bel xs.length))) (treeR T xs.length (xs.drop (bel xs.length))) := by
    unfold tree
    conv => lhs; unfold treeR
    rw [if_neg (by omega), if_neg (by omega)]
  rw [e]
  unfold tree
  rw [treeR_fuel T xs.length ((xs.take (bel xs.length)).length + 1) (xs.take (bel xs.length)) (by rw [List.length_take]; omega) (by omega), treeR_fuel T xs.length ((xs.drop (bel xs.length)).length + 1) (xs.drop (bel xs.length)) (by rw [List.length_drop]; omega) (by omega)]
theorem mem_take' {xs : Texts} {n : Nat} {Q : ByteArray → Prop} (h : ∀ x ∈ xs, Q x) : ∀ x ∈ xs.take n, Q x := fun x hx => h x (List.mem_of_mem_take hx)
theorem mem_drop' {xs : Texts} {n : Nat} {Q : ByteArray → Prop} (h : ∀ x ∈ xs, Q x) : ∀ x ∈ xs.drop n, Q x := fun x hx => h x (List.mem_of_mem_drop hx)
theorem tree_32 {T : Tab} (hT : S32 T) {xs : Texts} (h : ∀ x ∈ xs, x.size = 32) : (tree T xs).size = 32 := by
  by_cases h0 : xs.length = 0
  · rw [tree_nil T h0]; exact hT _
  · by_cases h1 : xs.length = 1
    · rw [tree_one T h1, List.getElem?_eq_getElem (by omega)]
      exact h _ (List.getElem_mem _)
    · rw [tree_two T (by omega)]; exact hT _
theorem slices {α : Type} {xs : List α} {k : Nat} : (xs.drop (0 : Int).toNat).take (((k : Nat) : Int).toNat - (0 : Int).toNat) = xs.take k ∧ (xs.drop ((k : Nat) : Int).toNat).take ((xs.length : Int).toNat - ((k : Nat) : Int).toNat) = xs.drop k := by
  refine ⟨rfl, ?_⟩
  rw [Int.toNat_natCast, Int.toNat_natCast]
  rw [List.take_of_length_le (by rw [List.length_drop]; omega)]
/-- what is summed for a root -/
def treeXR (T : Tab) : Nat → Texts → Texts
  | 0, _ => []
  | f + 1, xs => if xs.length = 0 then [b0] else if xs.length = 1 then [] else treeXR T f (xs.take (bel xs.length)) ++ treeXR T f (xs.drop (bel xs.length)) ++ [txN (tree T (xs.take (bel xs.length))) (tree T (xs.drop (bel xs.length)))]
theorem treeXR_fuel (T : Tab) : ∀ (f g : Nat) (xs : Texts), xs.length < f → xs.length < g → treeXR T f xs = treeXR T g xs
  | 0, _, _, h, _ => by omega
  | _ + 1, 0, _, _, h => by omega
  | f + 1, g + 1, xs, h1, h2 => by
    unfold treeXR
    by_cases h0 : xs.length = 0
    · rw [if_pos h0, if_pos h0]
    · rw [if_neg h0, if_neg h0]
      by_cases h3 : xs.length = 1
      · rw [if_pos h3, if_pos h3]
      · rw [if_neg h3, if_neg h3]
        have hb1 := bel_lt (n := xs.length) (by omega)
        have hb0 := bel_pos xs.length
        rw [treeXR_fuel T f g (xs.take _) (by rw [List.length_take]; omega) (by rw [List.length_take]; omega), treeXR_fuel T f g (xs.drop _) (by rw [List.length_drop]; omega) (by rw [List.length_drop]; omega)]
def treeX (T : Tab) (xs : Texts) : Texts := treeXR T (xs.length + 1) xs
theorem treeX_nil (T : Tab) {xs : Texts} (h : xs.length = 0) : treeX T xs = [b0] := by unfold treeX treeXR; rw [if_pos h]
theorem treeX_one (T : Tab) {xs : Texts} (h : xs.length = 1) : treeX T xs = [] := by unfold treeX treeXR; rw [if_neg (by omega), if_pos h]
theorem treeX_two (T : Tab) {xs : Texts} (h : 2 ≤ xs.length) : treeX T xs = treeX T (xs.take (bel xs.length)) ++ treeX T (xs.drop (bel xs.length)) ++ [txN (tree T (xs.take (bel xs.length))) (tree T (xs.drop (bel xs.length)))] := by
  have hb1 := bel_lt (n := xs.length) h
  have hb0 := bel_pos xs.length
  have e : treeX T xs = treeXR T xs.length (xs.take (bel xs.length)) ++ treeXR T xs.length (xs.drop (bel xs.length)) ++ [txN (tree T (xs.take (bel xs.length))) (tree T (xs.drop (bel xs.length)))] := by
    unfold treeX
    conv => lhs; unfold treeXR
    rw [if_neg (by omega), if_neg (by omega)]
  rw [e]
  unfold treeX
  rw [treeXR_fuel T xs.length ((xs.take (bel xs.length)).length + 1) (xs.take (bel xs.length)) (by rw [List.length_take]; omega) (by omega), treeXR_fuel T xs.length ((xs.drop (bel xs.length)).length + 1) (xs.drop (bel xs.length)) (by rw [List.length_drop]; omega) (by omega)]
theorem treeX_length (T : Tab) : ∀ (f : Nat) (xs : Texts), xs.length ≤ f → (treeX T xs).length ≤ xs.length + 1
  | 0, xs, h => by rw [treeX_nil T (by omega)]; simp
  | f + 1, xs, h => by
    by_cases h0 : xs.length = 0
    · rw [treeX_nil T h0]; simp
    by_cases h1 : xs.length = 1
    · rw [treeX_one T h1]; simp
    have hb1 := bel_lt (n := xs.length) (by omega)
    have hb0 := bel_pos xs.length
    rw [treeX_two T (by omega)]
    have i1 : (treeX T (xs.take (bel xs.length))).length + 1 ≤ (xs.take (bel xs.length)).length := treeX_pos T f _ (by rw [List.length_take]; omega) (by rw [List.length_take]; omega)
    have i2 : (treeX T (xs.drop (bel xs.length))).length + 1 ≤ (xs.drop (bel xs.length)).length := treeX_pos T f _ (by rw [List.length_drop]; omega) (by rw [List.length_drop]; omega)
    rw [List.length_take] at i1
    rw [List.length_drop] at i2
    simp only [List.length_append, List.length_singleton]
    omega
where treeX_pos (T : Tab) : ∀ (f : Nat) (xs : Texts), 1 ≤ xs.length → xs.length ≤ f → (treeX T xs).length + 1 ≤ xs.length
  | 0, xs, h0, h => by omega
  | f + 1, xs, h0, h => by
    by_cases h1 : xs.length = 1
    · rw [treeX_one T h1, h1]; simp
    have hb1 := bel_lt (n := xs.length) (by omega)
    have hb0 := bel_pos xs.length
    rw [treeX_two T (by omega)]
    have i1 := treeX_pos T f (xs.take (bel xs.length)) (by rw [List.length_take]; omega) (by rw [List.length_take]; omega)
    have i2 := treeX_pos T f (xs.drop (bel xs.length)) (by rw [List.length_drop]; omega) (by rw [List.length_drop]; omega)
    rw [List.length_take] at i1
    rw [List.length_drop] at i2
    simp only [List.length_append, List.length_singleton]
    omega
theorem mroot_eq {T : Tab} (hT : S32 T) : ∀ (f : Nat) (xs : Texts) (m : mill_Mill) (k : Nat), m.table_ = T → xs.length < f → f ≤ k → xs.length < 1000000000000000000 → (∀ x ∈ xs, x.size = 32) → F.merkle_Root k xs m = some (tree T xs, runM (treeX T xs) m)
  | 0, _, _, _, _, h, _, _, _ => by omega
  | f + 1, xs, m, k, hm, h1, hk, hx, h32 => by
    obtain ⟨k, rfl⟩ : ∃ j, k = j + 1 := ⟨k - 1, by omega⟩
    unfold F.merkle_Root
    by_cases h0 : xs.length = 0
    · rw [if_pos (ln0_pos h0), none_eq, Option.bind_some, tree_nil T h0, treeX_nil T h0, hm]
    rw [if_neg (ln0_neg h0)]
    by_cases h2 : xs.length = 1
    · rw [if_pos (ln1_pos h2), tree_one T h2, treeX_one T h2]
      obtain ⟨y, hy⟩ : ∃ y, xs[0]? = some y := ⟨xs[0], List.getElem?_eq_getElem (by omega)⟩
      have := at_nat hy
      rw [show ((0 : Nat) : Int) = 0 from rfl] at this
      rw [this, hy]
      rfl
    rw [if_neg (ln1_neg h2)]
    have hb1 := bel_lt (n := xs.length) (by omega)
    have hb0 := bel_pos xs.length
    rw [msplit_eq (by omega) hx, Option.bind_some, chk_pos (by omega), chk_pos (by omega), slices.1, slices.2]
    rw [mroot_eq hT f (xs.take (bel xs.length)) m k hm (by rw [List.length_take]; omega) (by omega) (by rw [List.length_take]; omega) (mem_take' h32), Option.bind_some]
    dsimp only
    rw [mroot_eq hT f (xs.drop (bel xs.length)) _ k (by rw [runM_table, hm]) (by rw [List.length_drop]; omega) (by omega) (by rw [List.length_drop]; omega) (mem_drop' h32), Option.bind_some]
    dsimp only
    have s1 := tree_32 hT (mem_take' (n := bel xs.length) h32)
    have s2 := tree_32 hT (mem_drop' (n := bel xs.length) h32)
    rw [node_eq _ (by omega) (by omega), Option.bind_some, runM_table, runM_table, hm, tree_two T (xs := xs) (by omega), treeX_two T (xs := xs) (by omega), runM_app, runM_app]
theorem below7_eq {n : Nat} (hn : 2 ≤ n) (h : n < 1000000000000000000) : F.law07_below (n : Int) = some ((bel n : Nat) : Int) := by
  unfold F.law07_below
  rw [iter_bel0 hn h fun k h1 h2 => ?_]
  · rfl
  · unfold F.law07_below.l1
    rw [w64 (by omega) (by omega)]
    by_cases hk : 2 * k < n
    · rw [if_pos (by simp; omega), if_pos hk]
      congr 3
    · rw [if_neg (by simp; omega), if_neg hk]
theorem root7_eq {T : Tab} (hT : S32 T) : ∀ (f : Nat) (xs : Texts) (m : mill_Mill) (k : Nat), m.table_ = T → xs.length < f → f ≤ k → xs.length < 1000000000000000000 → (∀ x ∈ xs, x.size = 32) → F.law07_Root k xs m = some (tree T xs, runM (treeX T xs) m)
  | 0, _, _, _, _, h, _, _, _ => by omega
  | f + 1, xs, m, k, hm, h1, hk, hx, h32 => by
    obtain ⟨k, rfl⟩ : ∃ j, k = j + 1 := ⟨k - 1, by omega⟩
    unfold F.law07_Root
    by_cases h0 : xs.length = 0
    · rw [if_pos (ln0_pos h0), none_eq, Option.bind_some, tree_nil T h0, treeX_nil T h0, hm]
    rw [if_neg (ln0_neg h0)]
    by_cases h2 : xs.length = 1
    · rw [if_pos (ln1_pos h2), tree_one T h2, treeX_one T h2]
      obtain ⟨y, hy⟩ : ∃ y, xs[0]? = some y := ⟨xs[0], List.getElem?_eq_getElem (by omega)⟩
      have := at_nat hy
      rw [show ((0 : Nat) : Int) = 0 from rfl] at this
      rw [this, hy]
      rfl
    rw [if_neg (ln1_neg h2)]
    have hb1 := bel_lt (n := xs.length) (by omega)
    have hb0 := bel_pos xs.length
    rw [below7_eq (by omega) hx, Option.bind_some, chk_pos (by omega), chk_pos (by omega), slices.1, slices.2]
    rw [root7_eq hT f (xs.take (bel xs.length)) m k hm (by rw [List.length_take]; omega) (by omega) (by rw [List.length_take]; omega) (mem_take' h32), Option.bind_some]
    dsimp only
    rw [root7_eq hT f (xs.drop (bel xs.length)) _ k (by rw [runM_table, hm]) (by rw [List.length_drop]; omega) (by omega) (by rw [List.length_drop]; omega) (mem_drop' h32), Option.bind_some]
    dsimp only
    have s1 := tree_32 hT (mem_take' (n := bel xs.length) h32)
    have s2 := tree_32 hT (mem_drop' (n := bel xs.length) h32)
    rw [node_eq _ (by omega) (by omega), Option.bind_some, runM_table, runM_table, hm, tree_two T (xs := xs) (by omega), treeX_two T (xs := xs) (by omega), runM_app, runM_app]
theorem idL_32 {T : Tab} (hT : S32 T) {t : Texts} : ∀ x ∈ t.map (idL T), x.size = 32 := fun x hx => by
  obtain ⟨y, _, rfl⟩ := List.mem_map.1 hx
  exact hT _
theorem rootA_eq {T : Tab} (hT : S32 T) {l : Texts} (hl : l.length ≤ 800) (m : mill_Mill) (hm : m.table_ = T) :
    F.absent_Root l m = some (tree T ((tidyB l).map (idL T)), ((tidyB l).length : Int), runM (treeX T ((tidyB l).map (idL T))) (runM ((tidyB l).map idT) m)) := by
  obtain ⟨h1, _, h3, h4⟩ := tidyB_eq hl
  unfold F.absent_Root
  rw [h1, Option.bind_some, leavesA_eq (T := T) (fun x hx => ((h3.mem x).1 hx).2) (by omega) m hm, Option.bind_some]
  dsimp only
  rw [mroot_eq hT ((tidyB l).length + 1) _ _ FUEL (by rw [runM_table, hm]) (by rw [List.length_map]; omega) (by rw [FUEL_eq]; omega) (by rw [List.length_map]; omega) (idL_32 hT), Option.bind_some]
end Go.Proofs.Ytileogoeoiafkaa
