/- Proofs of many leaves, in plain words: places in a part, which proofs may be, climbing. -/
import Derived.Test.YtoamnhmdhficiaaPTree
import Derived.Test.YtoamnhmdhficiaaGBatch
namespace Go.Proofs.Ytoamnhmdhficiaa
set_option linter.all false
open Go Go.RowKit Go.Fw
set_option maxRecDepth 100000
attribute [local irreducible] FUEL

/-! ### splits -/
theorem split_eq {n : Nat} (hn : 2 ≤ n) (h : n < 1000000000000000000) : F.batch_split (n : Int) = some ((bel n : Nat) : Int) := by
  unfold F.batch_split
  rw [iter_bel0 hn h fun k h1 h2 => ?_]
  · rfl
  · unfold F.batch_split.l1
    have e1 : IntKind.i64.wrap ((n : Int) - 1) = ((n - 1 : Nat) : Int) := by rw [w64 (by omega) (by omega)]; omega
    have e2 : ((n - 1 : Nat) : Int).tdiv 2 = (((n - 1) / 2 : Nat) : Int) := rfl
    rw [e1, e2, w64 (by omega) (by omega)]
    by_cases hk : 2 * k < n
    · rw [if_pos (by simp; omega), if_pos hk, w64 (by omega) (by omega)]
      congr 3; omega
    · rw [if_neg (by simp; omega), if_neg hk]
theorem msplit_eq {n : Nat} (hn : 2 ≤ n) (h : n < 1000000000000000000) : F.merkle_split (n : Int) = some ((bel n : Nat) : Int) := by
  unfold F.merkle_split
  rw [iter_bel0 hn h fun k h1 h2 => ?_]
  · rfl
  · unfold F.merkle_split.l1
    rw [w64 (by omega) (by omega)]
    by_cases hk : 2 * k < n
    · rw [if_pos (by simp; omega), if_pos hk, w64 (by omega) (by omega)]
      congr 3; omega
    · rw [if_neg (by simp; omega), if_neg hk]
theorem below_eq {n : Nat} (hn : 2 ≤ n) (h : n < 1000000000000000000) : F.law30_below (n : Int) = some ((bel n : Nat) : Int) := by
  unfold F.law30_below
  rw [iter_bel0 hn h fun k h1 h2 => ?_]
  · rfl
  · unfold F.law30_below.l1
    rw [w64 (by omega) (by omega)]
    by_cases hk : 2 * k < n
    · rw [if_pos (by simp; omega), if_pos hk]
      congr 3
    · rw [if_neg (by simp; omega), if_neg hk]

/-! ### places within a part -/
def inR (a n : Nat) (x : Int) : Bool := decide ((a : Int) ≤ x) && decide (x < (a : Int) + n)
def P (l : List Int) (a n : Nat) : List Int := l.filter (inR a n)
theorem P_low (l : List Int) {a n k : Nat} (hk : k ≤ n) : (P l a n).filter (fun x => decide (x < ((a + k : Nat) : Int))) = P l a k := by
  unfold P
  rw [List.filter_filter]
  congr 1
  funext x
  unfold inR
  rw [Bool.eq_iff_iff]
  simp only [Bool.and_eq_true, decide_eq_true_eq]
  omega
theorem P_high (l : List Int) {a n k : Nat} (hk : k ≤ n) : (P l a n).filter (fun x => !decide (x < ((a + k : Nat) : Int))) = P l (a + k) (n - k) := by
  unfold P
  rw [List.filter_filter]
  congr 1
  funext x
  unfold inR
  rw [Bool.eq_iff_iff]
  simp only [Bool.and_eq_true, decide_eq_true_eq, Bool.not_eq_true', decide_eq_false_iff_not]
  omega
theorem P_len (l : List Int) {a n k : Nat} (hk : k ≤ n) : (P l a n).length = (P l a k).length + (P l (a + k) (n - k)).length := by
  rw [← P_low l hk, ← P_high l hk]
  generalize P l a n = q
  induction q with
  | nil => rfl
  | cons x q ih =>
    by_cases h : x < ((a + k : Nat) : Int)
    · rw [List.filter_cons_of_pos (by simpa using h), List.filter_cons_of_neg (by simpa using h), List.length_cons, List.length_cons, ih]; omega
    · rw [List.filter_cons_of_neg (by simpa using h), List.filter_cons_of_pos (by simpa using h), List.length_cons, List.length_cons, ih]; omega
abbrev Rise (l : List Int) : Prop := l.Pairwise (· < ·)
theorem Rise.P {l : List Int} (h : Rise l) (a n : Nat) : Rise (P l a n) := h.sublist List.filter_sublist
theorem P_one {l : List Int} (h : Rise l) (a : Nat) : (P l a 1).length ≤ 1 := by
  have h1 := h.P a 1
  have h2 : ∀ x ∈ P l a 1, x = (a : Int) := fun x hx => by
    have := (List.mem_filter.1 hx).2
    unfold inR at this
    simp only [Bool.and_eq_true, decide_eq_true_eq] at this
    omega
  cases hq : P l a 1 with
  | nil => simp
  | cons x q =>
    rw [hq] at h1 h2
    cases q with
    | nil => simp
    | cons y q =>
      have e1 := h2 x (by simp)
      have e2 := h2 y (by simp)
      have := (List.pairwise_cons.1 h1).1 y (by simp)
      omega
theorem tw_filter (c : Int) : ∀ (l : List Int), Rise l → l.takeWhile (fun x => decide (x < c)) = l.filter (fun x => decide (x < c)) ∧ l.dropWhile (fun x => decide (x < c)) = l.filter (fun x => !decide (x < c))
  | [], _ => ⟨rfl, rfl⟩
  | x :: l, h => by
    obtain ⟨h1, h2⟩ := List.pairwise_cons.1 h
    by_cases hx : x < c
    · obtain ⟨a, b⟩ := tw_filter c l h2
      refine ⟨?_, ?_⟩
      · rw [List.takeWhile_cons_of_pos (by simpa using hx), List.filter_cons_of_pos (by simpa using hx), a]
      · rw [List.dropWhile_cons_of_pos (by simpa using hx), List.filter_cons_of_neg (by simpa using hx), b]
    · have hall : ∀ y ∈ l, ¬ y < c := fun y hy => by have := h1 y hy; omega
      refine ⟨?_, ?_⟩
      · rw [List.takeWhile_cons_of_neg (by simpa using hx), List.filter_cons_of_neg (by simpa using hx), List.filter_eq_nil_iff.2 (fun y hy => by simpa using hall y hy)]
      · rw [List.dropWhile_cons_of_neg (by simpa using hx), List.filter_cons_of_pos (by simpa using hx)]
        congr 1
        exact (List.filter_eq_self.2 (fun y hy => by simpa using hall y hy)).symm
theorem take_tw {α : Type} (p : α → Bool) : ∀ (l : List α), l.take (l.takeWhile p).length = l.takeWhile p ∧ l.drop (l.takeWhile p).length = l.dropWhile p
  | [] => ⟨rfl, rfl⟩
  | x :: l => by
    obtain ⟨a, b⟩ := take_tw p l
    by_cases h : p x = true
    · rw [List.takeWhile_cons_of_pos h, List.dropWhile_cons_of_pos h, List.length_cons, List.take_succ_cons, List.drop_succ_cons, a, b]; exact ⟨rfl, rfl⟩
    · rw [List.takeWhile_cons_of_neg h, List.dropWhile_cons_of_neg h]; exact ⟨rfl, rfl⟩
theorem foldE_part (c : Int) (n : Int) : ∀ (l : List Int) (i : Nat), (i : Int) + l.length = n → foldE (fun i (_ : Unit) y => if y < c then (.inl () : Unit ⊕ Int) else .inr (i : Int)) (fun _ => n) l i () = ((i + (l.takeWhile fun x => decide (x < c)).length : Nat) : Int)
  | [], i, h => by simp [foldE] at h ⊢; omega
  | x :: l, i, h => by
    unfold foldE
    by_cases hx : x < c
    · rw [if_pos hx, List.takeWhile_cons_of_pos (by simpa using hx)]
      dsimp only
      rw [foldE_part c n l (i + 1) (by simp at h; omega), List.length_cons]
      congr 1; omega
    · rw [if_neg hx, List.takeWhile_cons_of_neg (by simpa using hx)]
      simp
theorem part_eq (l : List Int) (c : Int) (hr : Rise l) (hl : l.length < 1000000000000000000) : F.batch_part l c = some (l.filter (fun x => decide (x < c)), l.filter (fun x => !decide (x < c))) := by
  unfold F.batch_part
  have h := iter_fold (f := fun x => F.batch_part.l1 l c x) (fun i (_ : Unit) => (i : Int)) (fun i _ y => if y < c then (.inl () : Unit ⊕ Int) else .inr (i : Int)) (fun _ => (l.length : Int)) (fun _ _ => True) l
    (fun i t y _ hy => ⟨by
      have hi := lt_of_get hy
      unfold F.batch_part.l1
      rw [if_pos (by simp; omega), at_nat hy, Option.bind_some]
      by_cases hx : y < c
      · rw [if_pos (by simpa using hx), if_pos hx, wadd (by omega)]
      · rw [if_neg (by simpa using hx), if_neg hx], fun _ _ => trivial⟩)
    (fun t _ => by
      unfold F.batch_part.l1
      rw [if_neg (by simp)]) (t0 := ()) trivial (k := FUEL) (by rw [FUEL_eq]; omega)
  refine (congrArg (fun o => Option.bind o _) h).trans ?_
  rw [foldE_part c _ l 0 (by simp), Option.bind_some]
  unfold F.batch_part.r2
  have hle : (l.takeWhile fun x => decide (x < c)).length ≤ l.length := List.IsPrefix.length_le (List.takeWhile_prefix _)
  have ht : ∀ K, (l.drop K).take (l.length - K) = l.drop K := fun K => List.take_of_length_le (by rw [List.length_drop]; exact Nat.le_refl _)
  rw [chk_pos (by omega), chk_pos (by omega), Nat.zero_add, Int.toNat_natCast, Int.toNat_natCast, show (0 : Int).toNat = 0 from rfl, List.drop_zero, Nat.sub_zero, ht, (take_tw _ l).1, (take_tw _ l).2, (tw_filter c l hr).1, (tw_filter c l hr).2]
theorem some_eq (l : List Int) {a n : Nat} (hl : l.length < 1000000000000000000) (ha : a + n < 1000000000000000000) : F.law30_some l (a : Int) (n : Int) = some (decide (P l a n ≠ [])) := by
  unfold F.law30_some
  have h := iter_fold (f := fun x => F.law30_some.l1 l (a : Int) (n : Int) x) (fun i (_ : Unit) => (i : Int)) (fun i _ y => if inR a n y then (.inr (.inr true) : Unit ⊕ (Unit ⊕ Bool)) else .inl ()) (fun _ => .inl ()) (fun _ _ => True) l
    (fun i t y _ hy => ⟨by
      have hi := lt_of_get hy
      unfold F.law30_some.l1
      rw [if_pos (by simp; omega), at_nat hy, Option.bind_some, Option.bind_some, wadd (by omega), w64 (by omega) (by omega)]
      unfold inR
      by_cases h1 : (a : Int) ≤ y
      · by_cases h2 : y < (a : Int) + n
        · simp [h1, h2]
        · simp [h1, h2]
      · simp [h1], fun _ _ => trivial⟩)
    (fun t _ => by
      unfold F.law30_some.l1
      rw [if_neg (by simp)]) (t0 := ()) trivial (k := FUEL) (by rw [FUEL_eq]; omega)
  refine (congrArg (fun o => thru o _) h).trans ?_
  have hf : ∀ (q : List Int) (i : Nat), foldE (fun i (_ : Unit) y => if inR a n y then (.inr (.inr true) : Unit ⊕ (Unit ⊕ Bool)) else .inl ()) (fun _ => .inl ()) q i () = if q.filter (inR a n) ≠ [] then .inr true else .inl () := by
    intro q
    induction q with
    | nil => intro i; rfl
    | cons x q ih =>
      intro i
      unfold foldE
      by_cases hx : inR a n x = true
      · rw [if_pos hx, List.filter_cons_of_pos hx, if_pos (by simp)]
      · rw [if_neg hx, List.filter_cons_of_neg hx]; exact ih (i + 1)
  rw [hf]
  unfold P
  by_cases hP : l.filter (inR a n) = []
  · rw [if_neg (by simpa using hP), hP]; rfl
  · rw [if_pos hP]; simp [thru, hP]

/-! ### which proofs may be -/
def riseG (n : Int) : Int → List Int → Bool
  | _, [] => true
  | last, x :: r => decide (last < x) && (decide (x < n) && riseG n x r)
theorem riseG_spec {n : Int} : ∀ (l : List Int) {last : Int}, riseG n last l = true → Rise l ∧ ∀ x ∈ l, last < x ∧ x < n
  | [], _, _ => ⟨List.Pairwise.nil, (by intro x hx; cases hx)⟩
  | x :: l, last, h => by
    unfold riseG at h
    simp only [Bool.and_eq_true, decide_eq_true_eq] at h
    obtain ⟨h1, h2, h3⟩ := h
    obtain ⟨h4, h5⟩ := riseG_spec l h3
    refine ⟨List.pairwise_cons.2 ⟨fun y hy => (h5 y hy).1, h4⟩, fun y hy => ?_⟩
    rcases List.mem_cons.1 hy with rfl | hy
    · exact ⟨h1, h2⟩
    · have := h5 y hy; omega
theorem foldE_rise (n : Int) : ∀ (l : List Int) (i : Nat) (last : Int), foldE (fun _ (t : Int) y => if t < y ∧ y < n then (.inl y : Int ⊕ (Unit ⊕ Bool)) else .inr (.inr false)) (fun _ => .inl ()) l i last = if riseG n last l then .inl () else .inr false
  | [], i, last => rfl
  | x :: l, i, last => by
    unfold foldE riseG
    by_cases h : last < x ∧ x < n
    · rw [if_pos h]
      dsimp only
      rw [foldE_rise n l]
      simp [h.1, h.2]
    · rw [if_neg h]
      by_cases h1 : last < x
      · have : ¬ x < n := fun h2 => h ⟨h1, h2⟩
        simp [h1, this]
      · simp [h1]
theorem brising_eq (l : List Int) (n : Int) (hl : l.length < 1000000000000000000) : F.batch_rising l n = some (riseG n (-1) l) := by
  unfold F.batch_rising
  have h := iter_fold (f := fun x => F.batch_rising.l1 l n x.1 x.2) (fun i (t : Int) => (t, (i : Int))) (fun _ t y => if t < y ∧ y < n then (.inl y : Int ⊕ (Unit ⊕ Bool)) else .inr (.inr false)) (fun _ => .inl ()) (fun _ _ => True) l
    (fun i t y _ hy => ⟨by
      have hi := lt_of_get hy
      dsimp only
      unfold F.batch_rising.l1
      rw [if_pos (by simp; omega), at_nat hy, Option.bind_some, wadd (by omega)]
      by_cases h1 : t < y
      · rw [if_neg (by simp; omega)]
        by_cases h2 : y < n
        · rw [if_neg (by simp; omega), if_pos ⟨h1, h2⟩]
        · rw [if_pos (by simp; omega), if_neg (fun h => h2 h.2)]
      · rw [if_pos (by simp; omega), if_neg (fun h => h1 h.1)], fun _ _ => trivial⟩)
    (fun t _ => by
      dsimp only
      unfold F.batch_rising.l1
      rw [if_neg (by simp)]) (t0 := (-1)) trivial (k := FUEL) (by rw [FUEL_eq]; omega)
  refine (congrArg (fun o => thru o _) h).trans ?_
  rw [foldE_rise]
  cases riseG n (-1) l <;> rfl
theorem lrising_eq (l : List Int) (n : Int) (hl : l.length < 1000000000000000000) : F.law30_rising l n = some (riseG n (-1) l) := by
  unfold F.law30_rising
  have h := iter_fold (f := fun x => F.law30_rising.l1 l n x) (fun i (_ : Int) => (i : Int)) (fun _ t y => if t < y ∧ y < n then (.inl y : Int ⊕ (Unit ⊕ Bool)) else .inr (.inr false)) (fun _ => .inl ()) (fun i t => -1 ≤ t ∧ (i = 0 → t = -1) ∧ (0 < i → l[i - 1]? = some t ∧ 0 ≤ t)) l
    (fun i t y hI hy => ⟨by
      have hi := lt_of_get hy
      obtain ⟨hI0, hI1, hI2⟩ := hI
      unfold F.law30_rising.l1
      rw [if_pos (by simp; omega), at_nat hy, Option.bind_some, wadd (by omega)]
      by_cases hy0 : y < 0
      · rw [if_pos (by simpa using hy0), if_neg (by omega)]
      · rw [if_neg (by simpa using hy0), Option.bind_some]
        by_cases h2 : y < n
        · rw [if_neg (by simp; omega)]
          by_cases h0 : 0 < i
          · obtain ⟨hp, hp0⟩ := hI2 h0
            have e1 : IntKind.i64.wrap ((i : Int) - 1) = ((i - 1 : Nat) : Int) := by rw [w64 (by omega) (by omega)]; omega
            rw [if_pos (by simpa using h0), e1, at_nat hp, Option.bind_some, Option.bind_some]
            by_cases h1 : t < y
            · rw [if_neg (by simp; omega), if_pos ⟨h1, h2⟩]
            · rw [if_pos (by simp; omega), if_neg (fun h => h1 h.1)]
          · have := hI1 (by omega)
            rw [if_neg (by simpa using h0), if_pos (by omega)]
        · rw [if_pos (by simp; omega), if_neg (fun h => h2 h.2)], fun t' ht => by
      by_cases h : t < y ∧ y < n
      · rw [if_pos h] at ht
        cases ht
        exact ⟨by omega, (by intro h; omega), fun _ => ⟨by simpa using hy, by omega⟩⟩
      · rw [if_neg h] at ht; cases ht⟩)
    (fun t _ => by
      unfold F.law30_rising.l1
      rw [if_neg (by simp)]) (t0 := (-1)) ⟨by omega, fun _ => rfl, (by intro h; omega)⟩ (k := FUEL) (by rw [FUEL_eq]; omega)
  refine (congrArg (fun o => thru o _) h).trans ?_
  rw [foldE_rise]
  cases riseG n (-1) l <;> rfl

def all32B (l : List ByteArray) : Bool := l.all fun s => decide (s.size = 32)
theorem foldE_32 {β : Type} (b : β) (l : List ByteArray) : ∀ i, foldE (fun _ (_ : Unit) (y : ByteArray) => if y.size = 32 then (.inl () : Unit ⊕ (Unit ⊕ β)) else .inr (.inr b)) (fun _ => .inl ()) l i () = if all32B l then .inl () else .inr b := by
  induction l with
  | nil => intro i; rfl
  | cons x l ih =>
    intro i
    unfold foldE all32B
    rw [List.all_cons]
    by_cases h : x.size = 32
    · rw [if_pos h]; dsimp only; rw [ih]; simp [h, all32B]
    · rw [if_neg h]; simp [h]
theorem iter_32 {β : Type} (b : β) {f : Int → Option (Int ⊕ (Unit ⊕ β))} (l : List ByteArray) (hl : l.length < 1000000000000000000)
    (h1 : ∀ (i : Nat) (y : ByteArray), l[i]? = some y → f (i : Int) = some (if y.size = 32 then .inl ((i + 1 : Nat) : Int) else .inr (.inr b))) (h2 : f (l.length : Int) = some (.inr (.inl ()))) : iter f FUEL 0 = some (if all32B l then .inl () else .inr b) := by
  have h := iter_fold (f := f) (fun i (_ : Unit) => (i : Int)) (fun _ _ (y : ByteArray) => if y.size = 32 then (.inl () : Unit ⊕ (Unit ⊕ β)) else .inr (.inr b)) (fun _ => .inl ()) (fun _ _ => True) l
    (fun i t y _ hy => ⟨by rw [h1 i y hy]; split <;> rfl, fun _ _ => trivial⟩) (fun t _ => h2) (t0 := ()) trivial (k := FUEL) (by rw [FUEL_eq]; omega)
  rw [foldE_32] at h
  exact h

def rightP (p : batch_Proof) : Bool := decide (1 ≤ p.Size) && (decide (p.Size ≤ 65536) && (decide (1 ≤ p.Picks.length) && (decide (p.Picks.length ≤ 64) && (decide (p.Leaf.length = p.Picks.length) && (riseG p.Size (-1) p.Picks && (decide (p.Nodes.length ≤ 1024) && (all32B p.Leaf && all32B p.Nodes)))))))
structure Fine (p : batch_Proof) : Prop where
  picks : p.Picks.length < 100000000000000
  leaf : p.Leaf.length < 100000000000000
  nodes : p.Nodes.length < 100000000000000
theorem ite_bool {α : Type} {c : Prop} [Decidable c] {b : Bool} (h : c ↔ b = true) (x y : α) : (if c then x else y) = (if b then x else y) := by
  by_cases hc : c
  · rw [if_pos hc, if_pos (h.1 hc)]
  · rw [if_neg hc, if_neg (fun hb => hc (h.2 hb))]
theorem right_eq {p : batch_Proof} (hp : Fine p) : F.batch_Right p = some (rightP p) := by
  obtain ⟨hp1, hp2, hp3⟩ := hp
  unfold F.batch_Right rightP
  by_cases h1 : 1 ≤ p.Size
  rotate_left
  · rw [if_pos (by simp; omega)]; simp [thru, h1]
  rw [if_neg (by simp; omega)]
  by_cases h2 : p.Size ≤ 65536
  rotate_left
  · rw [if_pos (by simp; omega)]; simp [thru, h2]
  rw [if_neg (by simp; omega)]
  by_cases h3 : 1 ≤ p.Picks.length
  rotate_left
  · rw [if_pos (by simp; omega)]; simp [thru, h3]
  rw [if_neg (by simp; omega)]
  by_cases h4 : p.Picks.length ≤ 64
  rotate_left
  · rw [if_pos (by simp; omega)]; simp [thru, h4]
  rw [if_neg (by simp; omega)]
  by_cases h5 : p.Leaf.length = p.Picks.length
  rotate_left
  · rw [if_pos (by simp; omega)]; simp [thru, h5]
  rw [if_neg (by simp; omega)]
  by_cases h6 : p.Nodes.length ≤ 1024
  rotate_left
  · rw [if_pos (by simp; omega)]; simp [thru, h6]
  rw [if_neg (by simp; omega), brising_eq _ _ (by omega), Option.bind_some]
  cases h7 : riseG p.Size (-1) p.Picks with
  | false => simp [thru]
  | true =>
    simp only [Bool.not_true, Bool.false_eq_true, if_false, thru_inl]
    unfold F.batch_Right.r1
    have e1 := iter_32 (β := Unit ⊕ Bool) (.inr false) (f := fun x => F.batch_Right.l2 p x) p.Leaf (by omega) (fun i y hy => by
      have hi := lt_of_get hy
      unfold F.batch_Right.l2
      rw [if_pos (by simp; omega), at_nat hy, Option.bind_some, wadd (by omega)]
      by_cases h : y.size = 32
      · rw [if_neg (by simp; omega), if_pos h]
      · rw [if_pos (by simp; omega), if_neg h]) (by unfold F.batch_Right.l2; rw [if_neg (by simp)])
    have e2 := iter_32 (β := Unit ⊕ Bool) (.inr false) (f := fun x => F.batch_Right.l4 p x) p.Nodes (by omega) (fun i y hy => by
      have hi := lt_of_get hy
      unfold F.batch_Right.l4
      rw [if_pos (by simp; omega), at_nat hy, Option.bind_some, wadd (by omega)]
      by_cases h : y.size = 32
      · rw [if_neg (by simp; omega), if_pos h]
      · rw [if_pos (by simp; omega), if_neg h]) (by unfold F.batch_Right.l4; rw [if_neg (by simp)])
    refine (congrArg (fun o => thru (thru o _) _) e1).trans ?_
    simp only [h1, h2, h3, h4, h5, h6, decide_true, Bool.true_and]
    cases hb : all32B p.Leaf with
    | false => rfl
    | true =>
      simp only [if_true, thru_inl, Bool.true_and]
      unfold F.batch_Right.r3
      refine (congrArg (fun o => thru (thru o _) _) e2).trans ?_
      cases hb2 : all32B p.Nodes <;> rfl
theorem lright_eq {p : batch_Proof} (hp : Fine p) : F.law30_right p = some (rightP p) := by
  obtain ⟨hp1, hp2, hp3⟩ := hp
  unfold F.law30_right rightP
  by_cases h1 : 1 ≤ p.Size
  rotate_left
  · rw [if_pos (by simp; omega)]; simp [thru, h1]
  rw [if_neg (by simp; omega)]
  by_cases h2 : p.Size ≤ 65536
  rotate_left
  · rw [if_pos (by simp; omega)]; simp [thru, h2]
  rw [if_neg (by simp; omega)]
  by_cases h3 : 1 ≤ p.Picks.length
  rotate_left
  · rw [if_pos (by simp; omega)]; simp [thru, h3]
  rw [if_neg (by simp; omega)]
  by_cases h4 : p.Picks.length ≤ 64
  rotate_left
  · rw [if_pos (by simp; omega)]; simp [thru, h4]
  rw [if_neg (by simp; omega)]
  by_cases h5 : p.Leaf.length = p.Picks.length
  rotate_left
  · rw [if_pos (by simp; omega)]; simp [thru, h5]
  rw [if_neg (by simp; omega), lrising_eq _ _ (by omega), Option.bind_some]
  cases h7 : riseG p.Size (-1) p.Picks with
  | false => simp [thru]
  | true =>
    simp only [Bool.not_true, Bool.false_eq_true, if_false, thru_inl]
    unfold F.law30_right.r1
    have e1 := iter_32 (β := Bool) false (f := fun x => F.law30_right.l2 p x) p.Leaf (by omega) (fun i y hy => by
      have hi := lt_of_get hy
      unfold F.law30_right.l2
      rw [if_pos (by simp; omega), at_nat hy, Option.bind_some, wadd (by omega)]
      by_cases h : y.size = 32
      · rw [if_neg (by simp; omega), if_pos h]
      · rw [if_pos (by simp; omega), if_neg h]) (by unfold F.law30_right.l2; rw [if_neg (by simp)])
    have e2 := iter_32 (β := Bool) false (f := fun x => F.law30_right.l4 p x) p.Nodes (by omega) (fun i y hy => by
      have hi := lt_of_get hy
      unfold F.law30_right.l4
      rw [if_pos (by simp; omega), at_nat hy, Option.bind_some, wadd (by omega)]
      by_cases h : y.size = 32
      · rw [if_neg (by simp; omega), if_pos h]
      · rw [if_pos (by simp; omega), if_neg h]) (by unfold F.law30_right.l4; rw [if_neg (by simp)])
    refine (congrArg (fun o => thru o _) e1).trans ?_
    simp only [h1, h2, h3, h4, h5, decide_true, Bool.true_and]
    cases hb : all32B p.Leaf with
    | false => simp [thru]
    | true =>
      simp only [if_true, thru_inl, Bool.true_and]
      unfold F.law30_right.r3
      refine (congrArg (fun o => thru o _) e2).trans ?_
      cases hb2 : all32B p.Nodes with
      | false => simp [thru]
      | true =>
        simp only [if_true, thru_inl]
        unfold F.law30_right.r5
        by_cases h6 : p.Nodes.length ≤ 1024
        · simp [h6]; omega
        · simp [h6]; omega
structure RightP (p : batch_Proof) : Prop where
  s1 : 1 ≤ p.Size
  s2 : p.Size ≤ 65536
  k1 : 1 ≤ p.Picks.length
  k2 : p.Picks.length ≤ 64
  lf : p.Leaf.length = p.Picks.length
  rise : Rise p.Picks
  within : ∀ x ∈ p.Picks, 0 ≤ x ∧ x < p.Size
  nodes : p.Nodes.length ≤ 1024
  leaf32 : ∀ s ∈ p.Leaf, s.size = 32
  nodes32 : ∀ s ∈ p.Nodes, s.size = 32
theorem all32B_spec {l : List ByteArray} (h : all32B l = true) : ∀ s ∈ l, s.size = 32 := fun s hs => by simpa using List.all_eq_true.1 h s hs
theorem right_spec {p : batch_Proof} (h : rightP p = true) : RightP p := by
  unfold rightP at h
  simp only [Bool.and_eq_true, decide_eq_true_eq] at h
  obtain ⟨h1, h2, h3, h4, h5, h6, h7, h8, h9⟩ := h
  obtain ⟨g1, g2⟩ := riseG_spec _ h6
  exact ⟨h1, h2, h3, h4, h5, g1, fun x hx => by have := g2 x hx; omega, h7, all32B_spec h8, all32B_spec h9⟩
theorem P_all {l : List Int} {n : Nat} (h : ∀ x ∈ l, 0 ≤ x ∧ x < (n : Int)) : P l 0 n = l := by
  unfold P
  refine List.filter_eq_self.2 fun x hx => ?_
  have := h x hx
  unfold inR
  simp only [Bool.and_eq_true, decide_eq_true_eq]
  omega

/-! ### few -/
def fewP (p : batch_Proof) : batch_Proof := ⟨p.Size, p.Picks.take 70, p.Leaf.take 70, p.Nodes.take 70⟩
theorem take70 {α : Type} (l : List α) : (l.drop (0 : Int).toNat).take ((70 : Int).toNat - (0 : Int).toNat) = l.take 70 := rfl
theorem few_eq (p : batch_Proof) : F.law30_few p = some (fewP p) := by
  unfold F.law30_few
  have h1 : (if decide ((p.Picks.length : Int) > 70) then (chk (0 ≤ (0 : Int) ∧ (0 : Int) ≤ (70 : Int) ∧ (70 : Int) ≤ (p.Picks.length : Int)) (some (((p.Picks.drop (0 : Int).toNat).take ((70 : Int).toNat - (0 : Int).toNat))))) else (some (p.Picks))) = some (p.Picks.take 70) := by
    by_cases h : p.Picks.length > 70
    · rw [if_pos (by simp; omega), chk_pos (by omega), take70]
    · rw [if_neg (by simp; omega), List.take_of_length_le (by omega)]
  refine (congrArg (fun o => Option.bind o _) h1).trans ?_
  rw [Option.bind_some]
  unfold F.law30_few.r1 fewP
  by_cases h2 : p.Leaf.length > 70
  · rw [if_pos (by simp; omega), chk_pos (by omega), take70]
    by_cases h3 : p.Nodes.length > 70
    · rw [if_pos (by simp; omega), chk_pos (by omega), take70]
    · rw [if_neg (by simp; omega), List.take_of_length_le (l := p.Nodes) (by omega)]
  · rw [if_neg (by simp; omega), List.take_of_length_le (l := p.Leaf) (by omega)]
    by_cases h3 : p.Nodes.length > 70
    · rw [if_pos (by simp; omega), chk_pos (by omega), take70]
    · rw [if_neg (by simp; omega), List.take_of_length_le (l := p.Nodes) (by omega)]
theorem few_fine (p : batch_Proof) : Fine (fewP p) := ⟨by simp [fewP]; omega, by simp [fewP]; omega, by simp [fewP]; omega⟩
end Go.Proofs.Ytoamnhmdhficiaa
