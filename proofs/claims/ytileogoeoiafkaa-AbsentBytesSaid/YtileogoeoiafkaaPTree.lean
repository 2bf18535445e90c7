/- Trees of leaves, in plain words: where a part is split; sums of two; the mill behind some texts. -/
import Derived.Test.YtileogoeoiafkaaPMill
namespace Go.Proofs.Ytileogoeoiafkaa
set_option linter.all false
open Go Go.RowKit Go.Fw
set_option maxRecDepth 100000
attribute [local irreducible] FUEL

/-! ### the mill behind some texts -/
def runM (ts : List ByteArray) (m : mill_Mill) : mill_Mill := ts.foldl (fun m s => noteM s (sumB m.table_ s) m) m
theorem runM_app (a b : List ByteArray) (m : mill_Mill) : runM (a ++ b) m = runM b (runM a m) := by unfold runM; rw [List.foldl_append]
theorem runM_table (ts : List ByteArray) : ∀ m : mill_Mill, (runM ts m).table_ = m.table_ := by
  induction ts with
  | nil => intro m; rfl
  | cons s ts ih => intro m; show (runM ts (noteM s (sumB m.table_ s) m)).table_ = _; rw [ih, noteM_table]
theorem Noted.run {T : Tab} (ts : List ByteArray) : ∀ {S : List ByteArray} {m : mill_Mill}, Noted T S m → S.length + ts.length ≤ 20000 → Noted T (ts.reverse ++ S) (runM ts m) := by
  induction ts with
  | nil => intro S m h _; exact h
  | cons s ts ih =>
    intro S m h hl
    simp only [List.length_cons] at hl
    have := ih (h.sum (by omega) s) (by simp only [List.length_cons]; omega)
    rw [List.reverse_cons, List.append_assoc]
    show Noted T _ (runM ts (noteM s (sumB m.table_ s) m))
    rw [h.table]
    exact this
def c1 : ByteArray := ByteArray.mk #[1]
def c0 : ByteArray := ByteArray.mk #[0]
def txN (a b : ByteArray) : ByteArray := c1 ++ a ++ b
def nodeB (T : Tab) (a b : ByteArray) : ByteArray := sumB T (txN a b)
theorem node_eq {a b : ByteArray} (m : mill_Mill) (ha : a.size ≤ 1000000000000000000) (hb : b.size ≤ 1000000000000000000) : F.pledge_Node a b m = some (nodeB m.table_ a b, runM [txN a b] m) := by
  unfold F.pledge_Node
  rw [chk_pos (by show 1 + a.size ≤ _; omega), chk_pos (by rw [size_app]; show 1 + a.size + b.size ≤ _; omega)]
  rw [sum_eqB m (by rw [size_app, size_app]; show 1 + a.size + b.size ≤ _; omega), Option.bind_some]
  rfl
theorem leaf_eq {a : ByteArray} (m : mill_Mill) (ha : a.size ≤ 1000000000000000000) : F.pledge_Leaf a m = some (sumB m.table_ (c0 ++ a), runM [c0 ++ a] m) := by
  unfold F.pledge_Leaf
  rw [chk_pos (by show 1 + a.size ≤ _; omega), sum_eqB m (by rw [size_app]; show 1 + a.size ≤ _; omega), Option.bind_some]
  rfl
theorem none_eq (m : mill_Mill) : F.pledge_None m = some (sumB m.table_ b0, runM [b0] m) := by
  unfold F.pledge_None
  rw [sum_eqB m (by decide), Option.bind_some]
  rfl
theorem txN_inj {a b c d : ByteArray} (h : txN a b = txN c d) (hl : a.size = c.size) : a = c ∧ b = d := by
  unfold txN at h
  obtain ⟨h1, h2⟩ := app_inj h (by rw [size_app, size_app, hl])
  exact ⟨(app_inj h1 rfl).2, h2⟩

/-! ### the greatest power of two below a number -/
def belG : Nat → Nat → Nat → Nat
  | 0, _, k => k
  | f + 1, n, k => if 2 * k < n then belG f n (2 * k) else k
def bel (n : Nat) : Nat := belG n n 1
theorem belG_lt : ∀ (f n k : Nat), k < n → belG f n k < n
  | 0, _, _, h => h
  | f + 1, n, k, h => by
    unfold belG
    split
    · exact belG_lt f n (2 * k) (by assumption)
    · exact h
theorem belG_ge : ∀ (f n k : Nat), k ≤ belG f n k
  | 0, _, _ => Nat.le_refl _
  | f + 1, n, k => by
    unfold belG
    split
    · have := belG_ge f n (2 * k); omega
    · exact Nat.le_refl _
theorem bel_lt {n : Nat} (h : 2 ≤ n) : bel n < n := belG_lt n n 1 (by omega)
theorem bel_pos (n : Nat) : 1 ≤ bel n := belG_ge n n 1
theorem belG_two : ∀ (f n k : Nat), n ≤ k * 2 ^ f → n ≤ 2 * belG f n k
  | 0, n, k, h => by unfold belG; omega
  | f + 1, n, k, h => by
    unfold belG
    split
    · exact belG_two f n (2 * k) (by rw [Nat.pow_succ] at h; rw [Nat.mul_comm 2 k, Nat.mul_assoc, Nat.mul_comm 2]; exact h)
    · omega
theorem bel_two (n : Nat) : n ≤ 2 * bel n := belG_two n n 1 (by rw [Nat.one_mul]; exact Nat.le_of_lt Nat.lt_two_pow_self)
theorem belG_pow : ∀ (f n i : Nat), ∃ j, belG f n (2 ^ i) = 2 ^ j
  | 0, _, i => ⟨i, rfl⟩
  | f + 1, n, i => by
    unfold belG
    split
    · obtain ⟨j, hj⟩ := belG_pow f n (i + 1)
      exact ⟨j, by rw [← hj, Nat.pow_succ, Nat.mul_comm]⟩
    · exact ⟨i, rfl⟩
theorem bel_half {n d : Nat} (h : 2 ≤ n) (hd : n ≤ 2 ^ (d + 1)) : bel n ≤ 2 ^ d := by
  obtain ⟨j, hj⟩ := belG_pow n n 0
  have hj : bel n = 2 ^ j := hj
  have hlt := bel_lt h
  rw [hj] at hlt ⊢
  have : j < d + 1 := (Nat.pow_lt_pow_iff_right (by decide)).1 (Nat.lt_of_lt_of_le hlt hd)
  exact Nat.pow_le_pow_right (by decide) (by omega)
theorem iter_bel {step : Int → Option (Int ⊕ Int)} {n : Nat} (h : ∀ k : Nat, 1 ≤ k → k < n → step (k : Int) = some (if 2 * k < n then .inl ((2 * k : Nat) : Int) else .inr (k : Int))) :
    ∀ (f k m : Nat), 1 ≤ k → k < n → n ≤ k * 2 ^ f → f < m → iter step m (k : Int) = some ((belG f n k : Nat) : Int)
  | 0, k, m, h1, h2, h3, _ => by omega
  | f + 1, k, m, h1, h2, h3, h4 => by
    obtain ⟨m, rfl⟩ : ∃ j, m = j + 1 := ⟨m - 1, by omega⟩
    rw [iter, h k h1 h2]
    unfold belG
    by_cases hk : 2 * k < n
    · rw [if_pos hk, if_pos hk]
      exact iter_bel h f (2 * k) m (by omega) hk (by rw [Nat.pow_succ] at h3; rw [Nat.mul_comm 2 k, Nat.mul_assoc, Nat.mul_comm 2]; exact h3) (by omega)
    · rw [if_neg hk, if_neg hk]
theorem iter_bel0 {step : Int → Option (Int ⊕ Int)} {n : Nat} (hn : 2 ≤ n) (hn2 : n < 1000000000000000000) (h : ∀ k : Nat, 1 ≤ k → k < n → step (k : Int) = some (if 2 * k < n then .inl ((2 * k : Nat) : Int) else .inr (k : Int))) : iter step FUEL 1 = some ((bel n : Nat) : Int) :=
  iter_bel h n 1 FUEL (Nat.le_refl _) (by omega) (by rw [Nat.one_mul]; exact Nat.le_of_lt Nat.lt_two_pow_self) (by rw [FUEL_eq]; omega)
end Go.Proofs.Ytileogoeoiafkaa
