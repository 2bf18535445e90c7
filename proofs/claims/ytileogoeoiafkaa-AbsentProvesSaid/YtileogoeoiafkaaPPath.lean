/- One leaf's proof, made; and that it comes to the root. Where an ID is, or would be, in a list in order. -/
import Derived.Test.YtileogoeoiafkaaPWayUp
import Derived.Test.YtileogoeoiafkaaGAbs
import Derived.Test.YtileogoeoiafkaaGPath
namespace Go.Proofs.Ytileogoeoiafkaa
set_option linter.all false
open Go Go.RowKit Go.Fw
set_option maxRecDepth 100000
attribute [local irreducible] FUEL
/-- what proves a place of leaves -/
def pathR (T : Tab) : Nat → Texts → Nat → Texts
  | 0, _, _ => []
  | f + 1, xs, i => if xs.length < 2 then [] else if i < bel xs.length then pathR T f (xs.take (bel xs.length)) i ++ [tree T (xs.drop (bel xs.length))] else pathR T f (xs.drop (bel xs.length)) (i - bel xs.length) ++ [tree T (xs.take (bel xs.length))]
theorem pathR_fuel (T : Tab) : ∀ (f g : Nat) (xs : Texts) (i : Nat), xs.length < f → xs.length < g → pathR T f xs i = pathR T g xs i
  | 0, _, _, _, h, _ => by omega
  | _ + 1, 0, _, _, _, h => by omega
  | f + 1, g + 1, xs, i, h1, h2 => by
    unfold pathR
    by_cases h3 : xs.length < 2
    · rw [if_pos h3, if_pos h3]
    · rw [if_neg h3, if_neg h3]
      have hb1 := bel_lt (n := xs.length) (by omega)
      have hb0 := bel_pos xs.length
      rw [pathR_fuel T f g (xs.take _) i (by rw [List.length_take]; omega) (by rw [List.length_take]; omega), pathR_fuel T f g (xs.drop _) _ (by rw [List.length_drop]; omega) (by rw [List.length_drop]; omega)]
def path (T : Tab) (xs : Texts) (i : Nat) : Texts := pathR T (xs.length + 1) xs i
theorem path_one (T : Tab) {xs : Texts} (h : xs.length < 2) (i : Nat) : path T xs i = [] := by unfold path pathR; rw [if_pos h]
theorem path_two (T : Tab) {xs : Texts} (h : 2 ≤ xs.length) (i : Nat) : path T xs i = if i < bel xs.length then path T (xs.take (bel xs.length)) i ++ [tree T (xs.drop (bel xs.length))] else path T (xs.drop (bel xs.length)) (i - bel xs.length) ++ [tree T (xs.take (bel xs.length))] := by
  have hb1 := bel_lt (n := xs.length) h
  have hb0 := bel_pos xs.length
  have e : path T xs i = if i < bel xs.length then pathR T xs.length (xs.take (bel xs.length)) i ++ [tree T (xs.drop (bel xs.length))] else pathR T xs.length (xs.drop (bel xs.length)) (i - bel xs.length) ++ [tree T (xs.take (bel xs.length))] := by
    unfold path
    conv => lhs; unfold pathR
    rw [if_neg (by omega)]
  rw [e]
  unfold path
  rw [pathR_fuel T xs.length ((xs.take (bel xs.length)).length + 1) (xs.take (bel xs.length)) i (by rw [List.length_take]; omega) (by omega), pathR_fuel T xs.length ((xs.drop (bel xs.length)).length + 1) (xs.drop (bel xs.length)) _ (by rw [List.length_drop]; omega) (by omega)]
theorem path_32 {T : Tab} (hT : S32 T) : ∀ (f : Nat) (xs : Texts) (i : Nat), xs.length ≤ f → (∀ x ∈ xs, x.size = 32) → ∀ y ∈ path T xs i, y.size = 32
  | 0, xs, i, h, _ => by rw [path_one T (by omega)]; intro y hy; cases hy
  | f + 1, xs, i, h, hx => by
    by_cases h2 : xs.length < 2
    · rw [path_one T h2]; intro y hy; cases hy
    have hb1 := bel_lt (n := xs.length) (by omega)
    have hb0 := bel_pos xs.length
    rw [path_two T (by omega)]
    intro y hy
    split at hy
    · rcases List.mem_append.1 hy with hy | hy
      · exact path_32 hT f _ i (by rw [List.length_take]; omega) (mem_take' hx) y hy
      · rw [List.mem_singleton] at hy; subst hy; exact tree_32 hT (mem_drop' hx)
    · rcases List.mem_append.1 hy with hy | hy
      · exact path_32 hT f _ _ (by rw [List.length_drop]; omega) (mem_drop' hx) y hy
      · rw [List.mem_singleton] at hy; subst hy; exact tree_32 hT (mem_take' hx)
theorem path_length (T : Tab) : ∀ (d : Nat) (xs : Texts) (i : Nat), xs.length ≤ 2 ^ d → (path T xs i).length ≤ d
  | 0, xs, i, h => by rw [path_one T (by simp at h; omega)]; exact Nat.le_refl _
  | d + 1, xs, i, h => by
    by_cases h2 : xs.length < 2
    · rw [path_one T h2]; exact Nat.zero_le _
    have hb1 := bel_lt (n := xs.length) (by omega)
    have hb0 := bel_pos xs.length
    have hb2 := bel_half (n := xs.length) (by omega) h
    have hb3 := bel_two xs.length
    rw [path_two T (by omega)]
    split
    · have := path_length T d (xs.take (bel xs.length)) i (by rw [List.length_take]; omega)
      rw [List.length_append, List.length_singleton]; omega
    · have := path_length T d (xs.drop (bel xs.length)) (i - bel xs.length) (by rw [List.length_drop]; omega)
      rw [List.length_append, List.length_singleton]; omega
/-- a proof that was made comes to the root -/
theorem path_up (T : Tab) : ∀ (f : Nat) (xs : Texts) (i : Nat) {s : ByteArray}, xs.length ≤ f → xs[i]? = some s → (cl T s (path T xs i).reverse i xs.length).2.1 = true ∧ (cl T s (path T xs i).reverse i xs.length).1 = tree T xs
  | 0, xs, i, s, h, hs => by have := lt_of_get hs; omega
  | f + 1, xs, i, s, h, hs => by
    have hi := lt_of_get hs
    by_cases h2 : xs.length < 2
    · have h1 : xs.length = 1 := by omega
      have h0 : i = 0 := by omega
      subst h0
      rw [path_one T h2, tree_one T h1, hs]
      unfold cl
      rw [List.reverse_nil]
      dsimp only
      rw [if_pos h1]
      exact ⟨rfl, rfl⟩
    have hb1 := bel_lt (n := xs.length) (by omega)
    have hb0 := bel_pos xs.length
    have l1 : (xs.take (bel xs.length)).length = bel xs.length := by rw [List.length_take]; omega
    have l2 : (xs.drop (bel xs.length)).length = xs.length - bel xs.length := by rw [List.length_drop]
    rw [path_two T (by omega), tree_two T (xs := xs) (by omega)]
    by_cases hb : i < bel xs.length
    · rw [if_pos hb, List.reverse_append]
      obtain ⟨g1, g2⟩ := path_up T f (xs.take (bel xs.length)) i (s := s) (by omega) (by rw [List.getElem?_take, if_pos hb]; exact hs)
      rw [l1] at g1 g2
      show (cl T s (tree T (xs.drop (bel xs.length)) :: (path T (xs.take (bel xs.length)) i).reverse) i xs.length).2.1 = true ∧ (cl T s (tree T (xs.drop (bel xs.length)) :: (path T (xs.take (bel xs.length)) i).reverse) i xs.length).1 = _
      unfold cl
      rw [if_neg (show ¬ xs.length = 1 by omega), if_pos hb]
      dsimp only
      rw [g2]
      exact ⟨g1, rfl⟩
    · rw [if_neg hb, List.reverse_append]
      obtain ⟨g1, g2⟩ := path_up T f (xs.drop (bel xs.length)) (i - bel xs.length) (s := s) (by omega) (by rw [List.getElem?_drop, show bel xs.length + (i - bel xs.length) = i by omega]; exact hs)
      rw [l2] at g1 g2
      show (cl T s (tree T (xs.take (bel xs.length)) :: (path T (xs.drop (bel xs.length)) (i - bel xs.length)).reverse) i xs.length).2.1 = true ∧ (cl T s (tree T (xs.take (bel xs.length)) :: (path T (xs.drop (bel xs.length)) (i - bel xs.length)).reverse) i xs.length).1 = _
      unfold cl
      rw [if_neg (show ¬ xs.length = 1 by omega), if_neg hb]
      dsimp only
      rw [g2]
      exact ⟨g1, rfl⟩
theorem mpath_eq {T : Tab} (hT : S32 T) : ∀ (f : Nat) (xs : Texts) (i : Nat) (m : mill_Mill) (k : Nat), m.table_ = T → xs.length ≤ f → f ≤ k → xs.length ≤ 800 → i < xs.length → (∀ x ∈ xs, x.size = 32) → ∃ m', F.merkle_Path (k + 1) xs (i : Int) m = some (path T xs i, 0, m') ∧ m'.table_ = T ∧ (path T xs i).length ≤ xs.length
  | 0, _, _, _, _, _, h, _, _, hi, _ => by omega
  | f + 1, xs, i, m, k, hm, h1, hk, hx, hi, h32 => by
    obtain ⟨k, rfl⟩ : ∃ j, k = j + 1 := ⟨k - 1, by omega⟩
    unfold F.merkle_Path
    rw [if_neg (by simp), if_neg (by simp; omega)]
    show ∃ m', F.merkle_Path.r1 (F.merkle_Path (k + 1)) xs (i : Int) m = _ ∧ _
    unfold F.merkle_Path.r1
    by_cases h2 : xs.length = 1
    · rw [if_pos (ln1_pos h2), path_one T (by omega)]
      exact ⟨m, rfl, hm, Nat.zero_le _⟩
    rw [if_neg (ln1_neg h2)]
    have hb1 := bel_lt (n := xs.length) (by omega)
    have hb0 := bel_pos xs.length
    rw [msplit_eq (by omega) (by omega), Option.bind_some, path_two T (by omega)]
    have l1 : (xs.take (bel xs.length)).length = bel xs.length := by rw [List.length_take]; omega
    have l2 : (xs.drop (bel xs.length)).length = xs.length - bel xs.length := by rw [List.length_drop]
    by_cases hb : i < bel xs.length
    · rw [if_pos (by simp; omega), if_pos hb, chk_pos (by omega), slices.1]
      obtain ⟨m', e, g, gl⟩ := mpath_eq hT f (xs.take (bel xs.length)) i m k hm (by omega) (by omega) (by omega) (by omega) (mem_take' h32)
      rw [e, Option.bind_some, chk_pos (by omega), slices.2]
      dsimp only
      rw [mroot_eq hT (xs.length + 1) (xs.drop (bel xs.length)) m' FUEL g (by omega) (by rw [FUEL_eq]; omega) (by omega) (mem_drop' h32), Option.bind_some]
      dsimp only
      rw [chk_pos (room_small (by rw [List.length_singleton]; omega) (by omega))]
      exact ⟨_, rfl, by rw [runM_table, g], by rw [List.length_append, List.length_singleton]; omega⟩
    · rw [if_neg (by simp; omega), if_neg hb, chk_pos (by omega), slices.2, w64 (n := (i : Int) - ((bel xs.length : Nat) : Int)) (by omega) (by omega), show (i : Int) - ((bel xs.length : Nat) : Int) = ((i - bel xs.length : Nat) : Int) by omega]
      obtain ⟨m', e, g, gl⟩ := mpath_eq hT f (xs.drop (bel xs.length)) (i - bel xs.length) m k hm (by omega) (by omega) (by omega) (by omega) (mem_drop' h32)
      rw [e, Option.bind_some, chk_pos (by omega), slices.1]
      dsimp only
      rw [mroot_eq hT (xs.length + 1) (xs.take (bel xs.length)) m' FUEL g (by omega) (by rw [FUEL_eq]; omega) (by omega) (mem_take' h32), Option.bind_some]
      dsimp only
      rw [chk_pos (room_small (by rw [List.length_singleton]; omega) (by omega))]
      exact ⟨_, rfl, by rw [runM_table, g], by rw [List.length_append, List.length_singleton]; omega⟩
theorem path7_eq {T : Tab} (hT : S32 T) : ∀ (f : Nat) (xs : Texts) (i : Nat) (m : mill_Mill) (k : Nat), m.table_ = T → xs.length ≤ f → f ≤ k → xs.length ≤ 800 → i < xs.length → (∀ x ∈ xs, x.size = 32) → ∃ m', F.law07_Path (k + 1) xs (i : Int) m = some (path T xs i, m') ∧ m'.table_ = T ∧ (path T xs i).length ≤ xs.length
  | 0, _, _, _, _, _, h, _, _, hi, _ => by omega
  | f + 1, xs, i, m, k, hm, h1, hk, hx, hi, h32 => by
    obtain ⟨k, rfl⟩ : ∃ j, k = j + 1 := ⟨k - 1, by omega⟩
    unfold F.law07_Path
    by_cases h2 : xs.length < 2
    · rw [if_pos (by simp; omega), path_one T (by omega)]
      exact ⟨m, rfl, hm, Nat.zero_le _⟩
    rw [if_neg (by simp; omega)]
    have hb1 := bel_lt (n := xs.length) (by omega)
    have hb0 := bel_pos xs.length
    rw [below7_eq (by omega) (by omega), Option.bind_some, path_two T (by omega)]
    have l1 : (xs.take (bel xs.length)).length = bel xs.length := by rw [List.length_take]; omega
    have l2 : (xs.drop (bel xs.length)).length = xs.length - bel xs.length := by rw [List.length_drop]
    by_cases hb : i < bel xs.length
    · rw [if_pos (by simp; omega), if_pos hb, chk_pos (by omega), slices.1]
      obtain ⟨m', e, g, gl⟩ := path7_eq hT f (xs.take (bel xs.length)) i m k hm (by omega) (by omega) (by omega) (by omega) (mem_take' h32)
      rw [e, Option.bind_some, chk_pos (by omega), slices.2]
      dsimp only
      rw [root7_eq hT (xs.length + 1) (xs.drop (bel xs.length)) m' FUEL g (by omega) (by rw [FUEL_eq]; omega) (by omega) (mem_drop' h32), Option.bind_some]
      dsimp only
      rw [chk_pos (room_small (by rw [List.length_singleton]; omega) (by omega))]
      exact ⟨_, rfl, by rw [runM_table, g], by rw [List.length_append, List.length_singleton]; omega⟩
    · rw [if_neg (by simp; omega), if_neg hb, chk_pos (by omega), slices.2, w64 (n := (i : Int) - ((bel xs.length : Nat) : Int)) (by omega) (by omega), show (i : Int) - ((bel xs.length : Nat) : Int) = ((i - bel xs.length : Nat) : Int) by omega]
      obtain ⟨m', e, g, gl⟩ := path7_eq hT f (xs.drop (bel xs.length)) (i - bel xs.length) m k hm (by omega) (by omega) (by omega) (by omega) (mem_drop' h32)
      rw [e, Option.bind_some, chk_pos (by omega), slices.1]
      dsimp only
      rw [root7_eq hT (xs.length + 1) (xs.take (bel xs.length)) m' FUEL g (by omega) (by rw [FUEL_eq]; omega) (by omega) (mem_take' h32), Option.bind_some]
      dsimp only
      rw [chk_pos (room_small (by rw [List.length_singleton]; omega) (by omega))]
      exact ⟨_, rfl, by rw [runM_table, g], by rw [List.length_append, List.length_singleton]; omega⟩
/-! ### where an ID is, or would be -/
structure Pos (t : Texts) (id : ByteArray) (i : Nat) : Prop where
  le : i ≤ t.length
  low : ∀ (j : Nat) (z : ByteArray), j < i → t[j]? = some z → Lt z id
  high : ∀ (j : Nat) (z : ByteArray), i ≤ j → t[j]? = some z → ¬ Lt z id
theorem Pos.uniq {t : Texts} {id : ByteArray} {i j : Nat} (h1 : Pos t id i) (h2 : Pos t id j) : i = j := by
  apply Classical.byContradiction
  intro hne
  rcases Nat.lt_or_gt_of_ne hne with h | h
  · have hi : i < t.length := by have := h2.le; omega
    exact h1.high i t[i] (Nat.le_refl _) (List.getElem?_eq_getElem hi) (h2.low i t[i] h (List.getElem?_eq_getElem hi))
  · have hj : j < t.length := by have := h1.le; omega
    exact h2.high j t[j] (Nat.le_refl _) (List.getElem?_eq_getElem hj) (h1.low j t[j] h (List.getElem?_eq_getElem hj))
theorem sorted_le {t : Texts} (ht : t.Pairwise Lt) {i j : Nat} {u v : ByteArray} (hi : t[i]? = some u) (hj : t[j]? = some v) (h : i ≤ j) : u = v ∨ Lt u v := by
  obtain ⟨h1, e1⟩ := List.getElem?_eq_some_iff.1 hi
  obtain ⟨h2, e2⟩ := List.getElem?_eq_some_iff.1 hj
  by_cases he : i = j
  · subst he; exact .inl (e1.symm.trans e2)
  · have := List.pairwise_iff_getElem.1 ht i j h1 h2 (by omega)
    rw [e1, e2] at this
    exact .inr this
theorem half_eq {a b : Nat} (h : a + b < 1000000) : IntKind.i64.wrap ((IntKind.u64.wrap (IntKind.i64.wrap ((a : Int) + (b : Int)))).fdiv (2 ^ 1)) = (((a + b) / 2 : Nat) : Int) := by
  rw [w64 (n := (a : Int) + b) (by omega) (by omega), wu64 (by omega) (by omega)]
  have : ((a : Int) + (b : Int)).fdiv (2 ^ 1) = (((a + b) / 2 : Nat) : Int) := by
    rw [Int.fdiv_eq_ediv_of_nonneg _ (by decide)]
    omega
  rw [this, w64 (by omega) (by omega)]
theorem bin_loop {t : Texts} (ht : t.Pairwise Lt) (hl : t.length ≤ 800) (id : ByteArray) : ∃ i : Nat, iter (fun x => F.slices_BinarySearch_string_string.l1 t id x.1 x.2) FUEL (0, (t.length : Int)) = some (i : Int) ∧ Pos t id i := by
  obtain ⟨r, hr, i, rfl, hp⟩ := iter_up (f := fun x : Int × Int => F.slices_BinarySearch_string_string.l1 t id x.1 x.2) t.length
    (fun n x => ∃ a b : Nat, x = ((a : Int), (b : Int)) ∧ a ≤ b ∧ b ≤ t.length ∧ b - a + n ≤ t.length ∧ (∀ (j : Nat) (z : ByteArray), j < a → t[j]? = some z → Lt z id) ∧ ∀ (j : Nat) (z : ByteArray), b ≤ j → t[j]? = some z → ¬ Lt z id)
    (fun r : Int => ∃ i : Nat, r = (i : Int) ∧ Pos t id i)
    (fun n x hn hx => by
      obtain ⟨a, b, rfl, h1, h2, h3, h4, h5⟩ := hx
      dsimp only
      unfold F.slices_BinarySearch_string_string.l1
      by_cases hab : a < b
      · left
        have hh1 : (a + b) / 2 < b := by omega
        have hh0 : a ≤ (a + b) / 2 := by omega
        have hy : t[(a + b) / 2]? = some t[(a + b) / 2] := List.getElem?_eq_getElem (by omega)
        rw [if_pos (by apply decide_eq_true; omega), half_eq (by omega), at_nat hy, Option.bind_some]
        have hc : F.cmp_Less_string t[(a + b) / 2] id = some (decide (Lt t[(a + b) / 2] id)) := by
          unfold F.cmp_Less_string F.cmp_isNaN_string
          rw [Option.bind_some, if_neg (by rw [seqB_refl]; decide), sltB_dec]
        rw [hc, Option.bind_some]
        by_cases hlt : Lt t[(a + b) / 2] id
        · rw [if_pos (by simpa using hlt), w64 (n := (((a + b) / 2 : Nat) : Int) + 1) (by omega) (by omega)]
          refine ⟨_, rfl, (a + b) / 2 + 1, b, rfl, by omega, h2, by omega, fun j z hj hz => ?_, h5⟩
          rcases sorted_le ht hz hy (by omega) with e | e
          · rw [e]; exact hlt
          · exact e.trans hlt
        · rw [if_neg (by simpa using hlt)]
          refine ⟨_, rfl, a, (a + b) / 2, rfl, hh0, by omega, by omega, h4, fun j z hj hz hn => ?_⟩
          rcases sorted_le ht hy hz hj with e | e
          · exact hlt (e ▸ hn)
          · exact hlt (e.trans hn)
      · right
        rw [if_neg (by simp; omega)]
        have : a = b := by omega
        subst this
        exact ⟨_, rfl, a, rfl, h2, h4, h5⟩)
    (fun x hx => by
      obtain ⟨a, b, rfl, h1, h2, h3, h4, h5⟩ := hx
      have : a = b := by omega
      subst this
      dsimp only
      unfold F.slices_BinarySearch_string_string.l1
      rw [if_neg (by simp)]
      exact ⟨_, rfl, a, rfl, h2, h4, h5⟩) (s0 := (0, (t.length : Int))) ⟨0, t.length, rfl, Nat.zero_le _, Nat.le_refl _, by omega, (fun j z h => by omega), (fun j z h hz => by rw [List.getElem?_eq_none h] at hz; cases hz)⟩ (k := FUEL) (by rw [FUEL_eq]; omega)
  exact ⟨i, hr, hp⟩
/-- is it there? -/
def thereB (t : Texts) (id : ByteArray) (i : Nat) : Bool := decide (t[i]? = some id)
theorem bin_eq {t : Texts} (ht : t.Pairwise Lt) (hl : t.length ≤ 800) (id : ByteArray) : ∃ i : Nat, F.slices_BinarySearch_string_string t id = some ((i : Int), thereB t id i) ∧ Pos t id i := by
  obtain ⟨i, hi, hp⟩ := bin_loop ht hl id
  refine ⟨i, ?_, hp⟩
  unfold F.slices_BinarySearch_string_string
  refine (congrArg (fun o => Option.bind o _) hi).trans ?_
  rw [Option.bind_some]
  unfold F.slices_BinarySearch_string_string.r2 thereB
  by_cases h : i < t.length
  · have hy : t[i]? = some t[i] := List.getElem?_eq_getElem h
    rw [if_pos (by simpa using h), at_nat hy, Option.bind_some, seqB_dec, hy]
    by_cases he : t[i] = id
    · rw [if_pos (by simpa using he)]; simp [he]
    · rw [if_neg (by simpa using he), Option.bind_some]
      unfold F.slices_isNaN_string
      rw [Option.bind_some, if_neg (by rw [seqB_refl]; decide)]
      simp [he]
  · rw [if_neg (by simpa using h), List.getElem?_eq_none (by omega)]
    rfl
end Go.Proofs.Ytileogoeoiafkaa
