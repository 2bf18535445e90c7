/- One leaf's way to the root, in plain words. -/
import Derived.Test.YtileogoeoiafkaaPTree
import Derived.Test.YtileogoeoiafkaaPOct
import Derived.Test.YtileogoeoiafkaaGClimb
namespace Go.Proofs.Ytileogoeoiafkaa
set_option linter.all false
open Go Go.RowKit Go.Fw
set_option maxRecDepth 100000
attribute [local irreducible] FUEL
abbrev Texts := List ByteArray
def S32 (T : Tab) : Prop := ∀ s, (sumB T s).size = 32
theorem s32_new : S32 [] := fun s => by rw [sumB_new]; exact shaB_size s
theorem b0_size : b0.size = 0 := rfl
theorem ln1_pos {α : Type} {l : List α} (h : l.length = 1) : ((l.length : Int) == 1) = true := by rw [h]; rfl
theorem ln1_neg {α : Type} {l : List α} (h : ¬ l.length = 1) : ¬ (((l.length : Int) == 1) = true) := by intro hh; rw [beq_iff_eq] at hh; omega
theorem ln0_pos {α : Type} {l : List α} (h : l.length = 0) : ((l.length : Int) == 0) = true := by rw [h]; rfl
theorem ln0_neg {α : Type} {l : List α} (h : ¬ l.length = 0) : ¬ (((l.length : Int) == 0) = true) := by intro hh; rw [beq_iff_eq] at hh; omega
theorem msplit_eq {n : Nat} (hn : 2 ≤ n) (h : n < 1000000000000000000) : F.merkle_split (n : Int) = some ((bel n : Nat) : Int) := by
  unfold F.merkle_split
  rw [iter_bel0 hn h fun k h1 h2 => ?_]
  · rfl
  · unfold F.merkle_split.l1
    rw [w64 (n := (n : Int) - k) (by omega) (by omega), w64 (n := (k : Int) * 2) (by omega) (by omega)]
    by_cases hk : 2 * k < n
    · rw [if_pos (by simp; omega), if_pos hk]
      congr 3
      omega
    · rw [if_neg (by simp; omega), if_neg hk]
/-- what a leaf's sum comes to by a path (its last first), in a tree of n; is it one; what was summed -/
def cl (T : Tab) (s : ByteArray) : Texts → Nat → Nat → ByteArray × Bool × Texts
  | [], _, n => if n = 1 then (s, true, []) else (b0, false, [])
  | y :: r, i, n =>
    if n = 1 then (s, false, [])
    else if i < bel n then (nodeB T (cl T s r i (bel n)).1 y, (cl T s r i (bel n)).2.1, (cl T s r i (bel n)).2.2 ++ [txN (cl T s r i (bel n)).1 y])
    else (nodeB T y (cl T s r (i - bel n) (n - bel n)).1, (cl T s r (i - bel n) (n - bel n)).2.1, (cl T s r (i - bel n) (n - bel n)).2.2 ++ [txN y (cl T s r (i - bel n) (n - bel n)).1])
theorem cl_small {T : Tab} (hT : S32 T) {s : ByteArray} (hs : s.size ≤ 32) : ∀ (r : Texts) (i n : Nat), (cl T s r i n).1.size ≤ 32
  | [], i, n => by
    unfold cl
    split
    · exact hs
    · show b0.size ≤ 32; rw [b0_size]; omega
  | y :: r, i, n => by
    unfold cl
    split
    · exact hs
    · split
      · show (sumB T _).size ≤ 32; rw [hT]; omega
      · show (sumB T _).size ≤ 32; rw [hT]; omega
theorem climb_eq {T : Tab} (hT : S32 T) {s : ByteArray} (hs : s.size ≤ 32) : ∀ (r : Texts) (i n : Nat) (m : mill_Mill) (k : Nat), m.table_ = T → 1 ≤ n → n < 1000000000000000000 → i < 1000000000000000000 → (∀ y ∈ r, y.size ≤ 32) → r.length < k → r.length < 1000000000000000000 →
    F.merkle_climb k s (i : Int) (n : Int) r.reverse m = some ((cl T s r i n).1, (cl T s r i n).2.1, runM (cl T s r i n).2.2 m)
  | r, i, n, m, 0, _, _, _, _, _, h, _ => by omega
  | [], i, n, m, k + 1, hm, h1, hn, hi, hr, hk, hl => by
    unfold F.merkle_climb cl
    by_cases h : n = 1
    · rw [if_pos (by rw [h]; rfl), if_pos h]; rfl
    · rw [if_neg (by intro hh; rw [beq_iff_eq] at hh; omega), if_neg h, if_pos (ln0_pos rfl)]; rfl
  | y :: r, i, n, m, k + 1, hm, h1, hn, hi, hr, hk, hl => by
    have hkr : r.length < k := by simp only [List.length_cons] at hk; omega
    have hlr : r.length < 1000000000000000000 := by simp only [List.length_cons] at hl; omega
    have hrr : ∀ y ∈ r, y.size ≤ 32 := fun z hz => hr z (List.mem_cons_of_mem _ hz)
    have hy : y.size ≤ 32 := hr y (List.mem_cons_self ..)
    have hlen : (y :: r).reverse.length = r.length + 1 := by rw [List.length_reverse, List.length_cons]
    have e0 : IntKind.i64.wrap (((y :: r).reverse.length : Int) - 1) = ((r.length : Nat) : Int) := by rw [hlen, w64 (by omega) (by omega)]; omega
    have e1 : (y :: r).reverse[r.length]? = some y := by rw [List.reverse_cons, List.getElem?_append_right (by rw [List.length_reverse]; omega), List.length_reverse, Nat.sub_self]; rfl
    have e2 : ((y :: r).reverse.drop (0 : Int).toNat).take (((r.length : Nat) : Int).toNat - (0 : Int).toNat) = r.reverse := by
      show (y :: r).reverse.take (r.length - 0) = _
      rw [Nat.sub_zero, List.reverse_cons, List.take_append_of_le_length (by rw [List.length_reverse]; omega), List.take_of_length_le (by rw [List.length_reverse]; omega)]
    unfold F.merkle_climb cl
    by_cases h : n = 1
    · rw [if_pos (by rw [h]; rfl), if_pos h]
      have : (((y :: r).reverse.length : Int) == 0) = false := by
        cases hc : (((y :: r).reverse.length : Int) == 0) with
        | false => rfl
        | true => rw [beq_iff_eq] at hc; omega
      rw [this]; rfl
    · rw [if_neg (by intro hh; rw [beq_iff_eq] at hh; omega), if_neg h, if_neg (ln0_neg (by omega)), e0, at_nat e1, Option.bind_some, chk_pos (by omega), msplit_eq (by omega) hn, Option.bind_some, e2]
      have hb1 := bel_lt (n := n) (by omega)
      have hb0 := bel_pos n
      by_cases hb : i < bel n
      · rw [if_pos (by simp; omega), if_pos hb, climb_eq hT hs r i (bel n) m k hm hb0 (by omega) hi hrr hkr hlr, Option.bind_some]
        dsimp only
        have := cl_small hT hs r i (bel n)
        rw [node_eq _ (by omega) (by omega), Option.bind_some, runM_table, hm, runM_app]
      · rw [if_neg (by simp; omega), if_neg hb, w64 (n := (i : Int) - (bel n : Nat)) (by omega) (by omega), w64 (n := (n : Int) - (bel n : Nat)) (by omega) (by omega)]
        rw [show (i : Int) - ((bel n : Nat) : Int) = ((i - bel n : Nat) : Int) by omega, show (n : Int) - ((bel n : Nat) : Int) = ((n - bel n : Nat) : Int) by omega]
        rw [climb_eq hT hs r (i - bel n) (n - bel n) m k hm (by omega) (by omega) (by omega) hrr hkr hlr, Option.bind_some]
        dsimp only
        have := cl_small hT hs r (i - bel n) (n - bel n)
        rw [node_eq _ (by omega) (by omega), Option.bind_some, runM_table, hm, runM_app]

def all32B (l : List ByteArray) : Bool := l.all fun s => decide (s.size = 32)
theorem foldE_32 {β : Type} (b : β) (l : List ByteArray) : ∀ i, foldE (fun _ (_ : Unit) (y : ByteArray) => if y.size = 32 then (.inl () : Unit ⊕ (Unit ⊕ β)) else .inr (.inr b)) (fun _ => .inl ()) l i () = if all32B l then .inl () else .inr b := by
  unfold all32B
  induction l with
  | nil => intro i; rfl
  | cons y l ih =>
    intro i
    unfold foldE
    rw [List.all_cons]
    by_cases h : y.size = 32
    · rw [if_pos h]; dsimp only; rw [ih]; simp [h]
    · rw [if_neg h]; simp [h]
theorem all32B_spec {l : List ByteArray} (h : all32B l = true) : ∀ s ∈ l, s.size = 32 := fun s hs => by simpa using List.all_eq_true.1 h s hs
theorem sums_eq (l : List ByteArray) (hl : l.length < 1000000000000000000) : F.merkle_sums l = some (all32B l) := by
  unfold F.merkle_sums
  have h := iter_fold (f := fun x => F.merkle_sums.l1 l x) (fun i (_ : Unit) => (i : Int)) (fun _ _ y => if y.size = 32 then (.inl () : Unit ⊕ (Unit ⊕ Bool)) else .inr (.inr false)) (fun _ => .inl ()) (fun _ _ => True) l
    (fun i t y _ hy => ⟨by
      have hi := lt_of_get hy
      unfold F.merkle_sums.l1
      rw [if_pos (by simp; omega), at_nat hy, Option.bind_some, wadd (by omega)]
      by_cases h1 : y.size = 32
      · rw [if_neg (by simp; omega), if_pos h1]
      · rw [if_pos (by simp; omega), if_neg h1], fun _ _ => trivial⟩)
    (fun t _ => by
      unfold F.merkle_sums.l1
      rw [if_neg (by simp)]) (t0 := ()) trivial (k := FUEL) (by rw [FUEL_eq]; omega)
  refine (congrArg (fun o => thru o _) h).trans ?_
  rw [foldE_32]
  cases all32B l <;> rfl
/-- what a proof of one leaf comes to, or why to nothing, and what was summed -/
def clim (T : Tab) (s : ByteArray) (i n : Int) (p : Texts) : ByteArray × Int × Texts :=
  if n < 1 ∨ n > 65536 ∨ i < 0 ∨ i ≥ n then (b0, 21, [])
  else if p.length > 16 ∨ s.size ≠ 32 ∨ all32B p = false then (b0, 20, [])
  else if (cl T s p.reverse i.toNat n.toNat).2.1 = false then (b0, 20, (cl T s p.reverse i.toNat n.toNat).2.2)
  else ((cl T s p.reverse i.toNat n.toNat).1, 0, (cl T s p.reverse i.toNat n.toNat).2.2)
theorem clim_eq {T : Tab} (hT : S32 T) {s : ByteArray} (i n : Int) {p : Texts} (hp : p.length < 1000000000000000000) (m : mill_Mill) (hm : m.table_ = T) :
    F.merkle_Climb s i n p m = some ((clim T s i n p).1, (clim T s i n p).2.1, runM (clim T s i n p).2.2 m) := by
  unfold F.merkle_Climb clim
  by_cases h0 : n < 1 ∨ n > 65536 ∨ i < 0 ∨ i ≥ n
  · rw [if_pos h0]
    have : (if decide (n < 1) then (some true) else (if decide (n > 65536) then (some true) else (if decide (i < 0) then (some true) else (some ((decide (i ≥ n))))))) = some true := by
      by_cases a : n < 1
      · rw [if_pos (by simpa using a)]
      rw [if_neg (by simpa using a)]
      by_cases b : n > 65536
      · rw [if_pos (by simpa using b)]
      rw [if_neg (by simpa using b)]
      by_cases c : i < 0
      · rw [if_pos (by simpa using c)]
      rw [if_neg (by simpa using c)]
      have d : i ≥ n := by omega
      simp [d]
    rw [this, Option.bind_some]
    rfl
  · rw [if_neg h0]
    have h0 : ¬ n < 1 ∧ ¬ n > 65536 ∧ ¬ i < 0 ∧ ¬ i ≥ n := by omega
    obtain ⟨a, b, c, d⟩ := h0
    rw [if_neg (by simpa using a), if_neg (by simpa using b), if_neg (by simpa using c), Option.bind_some]
    unfold F.merkle_Climb.r1
    rw [if_neg (by simpa using d)]
    by_cases h1 : p.length > 16 ∨ s.size ≠ 32 ∨ all32B p = false
    · rw [if_pos h1]
      by_cases hl : p.length > 16
      · rw [if_pos (by simp; omega)]; rfl
      · rw [if_neg (by simp; omega), sums_eq _ (by simp), Option.bind_some]
        by_cases hs : s.size = 32
        · rw [show all32B [s] = true by simp [all32B, hs], if_neg (by decide), sums_eq _ hp, Option.bind_some]
          have : all32B p = false := by
            rcases h1 with h | h | h
            · exact absurd h hl
            · exact absurd hs h
            · exact h
          rw [this, if_pos (show (!false) = true from rfl)]; rfl
        · rw [show all32B [s] = false by simp [all32B, hs], if_pos (show (!false) = true from rfl)]; rfl
    · rw [if_neg h1]
      have hl : ¬ p.length > 16 := fun h => h1 (.inl h)
      have hs : s.size = 32 := Classical.byContradiction fun h => h1 (.inr (.inl h))
      have h32 : all32B p = true := by
        cases h : all32B p with
        | true => rfl
        | false => exact absurd (.inr (.inr h)) h1
      rw [if_neg (by simp; omega), sums_eq _ (by simp), Option.bind_some, show all32B [s] = true by simp [all32B, hs], if_neg (by decide), sums_eq _ hp, Option.bind_some, h32, if_neg (by decide)]
      show F.merkle_Climb.r2 s i n p m = _
      unfold F.merkle_Climb.r2
      have h := climb_eq hT (s := s) (by omega) p.reverse i.toNat n.toNat m FUEL hm (by omega) (by omega) (by omega) (fun y hy => by have := all32B_spec h32 y (List.mem_reverse.1 hy); omega) (by rw [List.length_reverse, FUEL_eq]; omega) (by rw [List.length_reverse]; omega)
      rw [List.reverse_reverse, Int.toNat_of_nonneg (by omega), Int.toNat_of_nonneg (by omega)] at h
      rw [h, Option.bind_some]
      dsimp only
      cases (cl T s p.reverse i.toNat n.toNat).2.1 <;> rfl
theorem clim_32 {T : Tab} {s : ByteArray} {i n : Int} {p : Texts} (h : (clim T s i n p).2.1 = 0) : 1 ≤ n ∧ n ≤ 65536 ∧ 0 ≤ i ∧ i < n ∧ p.length ≤ 16 ∧ s.size = 32 ∧ all32B p = true ∧ (cl T s p.reverse i.toNat n.toNat).2.1 = true ∧ clim T s i n p = ((cl T s p.reverse i.toNat n.toNat).1, 0, (cl T s p.reverse i.toNat n.toNat).2.2) := by
  unfold clim at h ⊢
  by_cases h0 : n < 1 ∨ n > 65536 ∨ i < 0 ∨ i ≥ n
  · rw [if_pos h0] at h; cases h
  rw [if_neg h0] at h ⊢
  by_cases h1 : p.length > 16 ∨ s.size ≠ 32 ∨ all32B p = false
  · rw [if_pos h1] at h; cases h
  rw [if_neg h1] at h ⊢
  cases h2 : (cl T s p.reverse i.toNat n.toNat).2.1 with
  | false => rw [if_pos h2] at h; cases h
  | true =>
    refine ⟨by omega, by omega, by omega, by omega, Nat.le_of_not_lt fun h => h1 (.inl h), Classical.byContradiction fun h => h1 (.inr (.inl h)), ?_, rfl, ?_⟩
    · cases h3 : all32B p with
      | true => rfl
      | false => exact absurd (.inr (.inr h3)) h1
    · rw [if_neg (by decide)]
end Go.Proofs.Ytileogoeoiafkaa
