/- Climbing: what a proof of many leaves comes to. -/
import Derived.Test.YtoamnhmdhficiaaPBatch
namespace Go.Proofs.Ytoamnhmdhficiaa
set_option linter.all false
open Go Go.RowKit Go.Fw
set_option maxRecDepth 100000
attribute [local irreducible] FUEL

abbrev Texts := List ByteArray
/-- the root of a part of a tree: it, what is left of leaves and of roots, what was summed -/
def climb (T : Tab) (l : List Int) : Nat → Nat → Nat → Texts → Texts → Option (ByteArray × Texts × Texts × Texts)
  | 0, _, _, _, _ => none
  | f + 1, a, n, lf, ns =>
    if P l a n = [] then (match ns with | [] => none | s :: r => some (s, lf, r, []))
    else if n = 1 then (match lf with | [] => none | s :: r => some (s, r, ns, []))
    else match climb T l f a (bel n) lf ns with
      | none => none
      | some (x, lf1, ns1, t1) => match climb T l f (a + bel n) (n - bel n) lf1 ns1 with
        | none => none
        | some (y, lf2, ns2, t2) => some (nodeB T x y, lf2, ns2, t1 ++ t2 ++ [txN x y])
theorem climb_nil (T : Tab) {l : List Int} {f a n : Nat} (lf ns : Texts) (hP : P l a n = []) : climb T l (f + 1) a n lf ns = (match ns with | [] => none | s :: r => some (s, lf, r, [])) := by unfold climb; rw [if_pos hP]
theorem climb_one (T : Tab) {l : List Int} {f a n : Nat} (lf ns : Texts) (hP : ¬ P l a n = []) (hn : n = 1) : climb T l (f + 1) a n lf ns = (match lf with | [] => none | s :: r => some (s, r, ns, [])) := by unfold climb; rw [if_neg hP, if_pos hn]
theorem climb_two (T : Tab) {l : List Int} {f a n : Nat} (lf ns : Texts) (hP : ¬ P l a n = []) (hn : ¬ n = 1) : climb T l (f + 1) a n lf ns = (match climb T l f a (bel n) lf ns with
      | none => none
      | some (x, lf1, ns1, t1) => match climb T l f (a + bel n) (n - bel n) lf1 ns1 with
        | none => none
        | some (y, lf2, ns2, t2) => some (nodeB T x y, lf2, ns2, t1 ++ t2 ++ [txN x y])) := by
  conv => lhs; unfold climb
  rw [if_neg hP, if_neg hn]
def many (l : List Int) : Nat → Nat → Nat → Nat
  | 0, _, _ => 0
  | f + 1, a, n => if P l a n = [] then 1 else if n = 1 then 0 else many l f a (bel n) + many l f (a + bel n) (n - bel n)
theorem many_le (l : List Int) : ∀ (f a n : Nat), 1 ≤ n → many l f a n ≤ n
  | 0, _, _, _ => Nat.zero_le _
  | f + 1, a, n, hn => by
    unfold many
    split
    · exact hn
    · split
      · omega
      · have h1 := many_le l f a (bel n) (bel_pos n)
        have h2 := bel_lt (n := n) (by omega)
        have h3 := many_le l f (a + bel n) (n - bel n) (by omega)
        omega
theorem climb_many (T : Tab) (l : List Int) (hr : Rise l) : ∀ (f a n : Nat) (lf ns : Texts), 1 ≤ n → n ≤ f → (P l a n).length ≤ lf.length →
    (ns.length < many l f a n → climb T l f a n lf ns = none) ∧ (many l f a n ≤ ns.length → ∃ s ts, climb T l f a n lf ns = some (s, lf.drop (P l a n).length, ns.drop (many l f a n), ts))
  | 0, _, _, _, _, h1, h2, _ => by omega
  | f + 1, a, n, lf, ns, h1, h2, h3 => by
    unfold climb many
    by_cases hP : P l a n = []
    · rw [if_pos hP, if_pos hP, hP]
      cases ns with
      | nil => exact ⟨fun _ => rfl, fun h => by simp at h⟩
      | cons s r => exact ⟨fun h => by simp at h, fun _ => ⟨s, [], rfl⟩⟩
    · rw [if_neg hP, if_neg hP]
      by_cases hn : n = 1
      · rw [if_pos hn, if_pos hn]
        subst hn
        have hone := P_one hr a
        have hpos : 0 < (P l a 1).length := List.length_pos_iff.2 hP
        have hone : (P l a 1).length = 1 := by omega
        rw [hone] at h3 ⊢
        cases lf with
        | nil => simp at h3
        | cons s r => exact ⟨fun h => by simp at h, fun _ => ⟨s, [], rfl⟩⟩
      · rw [if_neg hn, if_neg hn]
        have hb1 := bel_lt (n := n) (by omega)
        have hb0 := bel_pos n
        have hlen := P_len l (a := a) (Nat.le_of_lt hb1)
        obtain ⟨i1, i2⟩ := climb_many T l hr f a (bel n) lf ns hb0 (by omega) (by omega)
        refine ⟨fun h => ?_, fun h => ?_⟩
        · by_cases hl : ns.length < many l f a (bel n)
          · rw [i1 hl]
          · obtain ⟨s, ts, e⟩ := i2 (by omega)
            rw [e]
            dsimp only
            rw [(climb_many T l hr f (a + bel n) (n - bel n) (lf.drop (P l a (bel n)).length) (ns.drop (many l f a (bel n))) (by omega) (by omega) (by rw [List.length_drop]; omega)).1 (by rw [List.length_drop]; omega)]
        · obtain ⟨s, ts, e⟩ := i2 (by omega)
          rw [e]
          dsimp only
          obtain ⟨s2, ts2, e2⟩ := (climb_many T l hr f (a + bel n) (n - bel n) (lf.drop (P l a (bel n)).length) (ns.drop (many l f a (bel n))) (by omega) (by omega) (by rw [List.length_drop]; omega)).2 (by rw [List.length_drop]; omega)
          rw [e2]
          dsimp only
          exact ⟨_, _, by rw [List.drop_drop, List.drop_drop, hlen]⟩

def S32 (T : Tab) : Prop := ∀ s, (sumB T s).size = 32
theorem s32_new : S32 [] := fun s => by rw [sumB_new]; exact shaB_size s
theorem climb_32 {T : Tab} (hT : S32 T) (l : List Int) : ∀ (f a n : Nat) (lf ns : Texts) {s lf' ns' ts}, (∀ x ∈ lf, x.size = 32) → (∀ x ∈ ns, x.size = 32) → climb T l f a n lf ns = some (s, lf', ns', ts) → s.size = 32 ∧ (∀ x ∈ lf', x.size = 32) ∧ (∀ x ∈ ns', x.size = 32)
  | 0, _, _, _, _, _, _, _, _, _, _, h => by cases h
  | f + 1, a, n, lf, ns, s, lf', ns', ts, h1, h2, h => by
    unfold climb at h
    by_cases hP : P l a n = []
    · rw [if_pos hP] at h
      cases ns with
      | nil => cases h
      | cons x r =>
        cases h
        exact ⟨h2 _ (by simp), h1, fun y hy => h2 y (by simp [hy])⟩
    · rw [if_neg hP] at h
      by_cases hn : n = 1
      · rw [if_pos hn] at h
        cases lf with
        | nil => cases h
        | cons x r =>
          cases h
          exact ⟨h1 _ (by simp), fun y hy => h1 y (by simp [hy]), h2⟩
      · rw [if_neg hn] at h
        cases e1 : climb T l f a (bel n) lf ns with
        | none => rw [e1] at h; cases h
        | some q =>
          obtain ⟨x, lf1, ns1, t1⟩ := q
          rw [e1] at h
          dsimp only at h
          obtain ⟨g1, g2, g3⟩ := climb_32 hT l f a (bel n) lf ns h1 h2 e1
          cases e2 : climb T l f (a + bel n) (n - bel n) lf1 ns1 with
          | none => rw [e2] at h; cases h
          | some q =>
            obtain ⟨y, lf2, ns2, t2⟩ := q
            rw [e2] at h
            dsimp only at h
            obtain ⟨k1, k2, k3⟩ := climb_32 hT l f (a + bel n) (n - bel n) lf1 ns1 g2 g3 e2
            cases h
            exact ⟨hT _, k2, k3⟩

theorem len0 {α : Type} {l : List α} : ((l.length : Int) == 0) = decide (l = []) := by
  cases l <;> simp <;> omega
theorem drop1 {α : Type} (x : α) (l : List α) : (((x :: l).drop (1 : Int).toNat).take (((x :: l).length : Int).toNat - (1 : Int).toNat)) = l := by
  show (l.take ((l.length + 1 : Nat) - 1)) = l
  rw [Nat.add_sub_cancel, List.take_length]
/-- the program's climbing -/
theorem root_eq {T : Tab} (hT : S32 T) (l : List Int) (hr : Rise l) (hll : l.length < 1000000000000000000) : ∀ (f a n : Nat) (lf ns : Texts) (m : mill_Mill) (k : Nat), m.table_ = T → 1 ≤ n → n ≤ f → f ≤ k → a + n < 1000000000000000000 → (P l a n).length ≤ lf.length → (∀ x ∈ lf, x.size = 32) → (∀ x ∈ ns, x.size = 32) →
    match climb T l f a n lf ns with
    | some (s, lf', ns', ts) => F.batch_climber_root k (a : Int) (n : Int) (P l a n) ⟨lf, ns, false⟩ m = some (s, ⟨lf', ns', false⟩, runM ts m)
    | none => ∃ c m', F.batch_climber_root k (a : Int) (n : Int) (P l a n) ⟨lf, ns, false⟩ m = some (b0, c, m') ∧ c.bad_ = true ∧ m'.table_ = T
  | 0, _, _, _, _, _, _, _, h1, h2, _, _, _, _, _ => by omega
  | f + 1, a, n, lf, ns, m, k, hm, h1, h2, hk, han, h3, hlf, hns => by
    obtain ⟨k, rfl⟩ : ∃ j, k = j + 1 := ⟨k - 1, by omega⟩
    unfold F.batch_climber_root
    dsimp only
    rw [if_neg Bool.false_ne_true, len0]
    by_cases hP : P l a n = []
    · rw [climb_nil T lf ns hP, if_pos (by simpa using hP)]
      unfold F.batch_climber_node
      cases ns with
      | nil => exact ⟨⟨lf, [], true⟩, m, rfl, rfl, hm⟩
      | cons s r =>
        dsimp only
        rw [if_neg (by simp; omega), show at_ (s :: r) 0 = some s from rfl, Option.bind_some, chk_pos (by simp; omega), Option.bind_some, drop1]
        rfl
    · rw [if_neg (by simpa using hP)]
      by_cases hn : n = 1
      · rw [climb_one T lf ns hP hn]
        subst hn
        rw [if_pos (by simp)]
        cases lf with
        | nil => have := List.length_pos_iff.2 hP; simp at h3; exact absurd h3 hP
        | cons s r =>
          dsimp only
          rw [show at_ (s :: r) 0 = some s from rfl, Option.bind_some, chk_pos (by simp; omega), drop1]
          rfl
      · rw [climb_two T lf ns hP hn, if_neg (by simp; omega)]
        have hb1 := bel_lt (n := n) (by omega)
        have hb0 := bel_pos n
        have hlen := P_len l (a := a) (Nat.le_of_lt hb1)
        have hlP : (P l a n).length ≤ l.length := List.length_filter_le _ _
        rw [split_eq (by omega) (by omega), Option.bind_some, w64 (n := (a : Int) + (bel n : Nat)) (by omega) (by omega), w64 (n := (n : Int) - (bel n : Nat)) (by omega) (by omega)]
        rw [show (a : Int) + ((bel n : Nat) : Int) = ((a + bel n : Nat) : Int) by omega, part_eq _ _ (hr.P a n) (by omega), Option.bind_some]
        dsimp only
        rw [P_low l (Nat.le_of_lt hb1), P_high l (Nat.le_of_lt hb1)]
        have i1 := root_eq hT l hr hll f a (bel n) lf ns m k hm hb0 (by omega) (by omega) (by omega) (by omega) hlf hns
        have en : (n : Int) - ((bel n : Nat) : Int) = ((n - bel n : Nat) : Int) := by omega
        cases e1 : climb T l f a (bel n) lf ns with
        | none =>
          rw [e1] at i1
          obtain ⟨c, m', g1, g2, g3⟩ := i1
          dsimp only
          rw [g1, Option.bind_some]
          dsimp only
          obtain ⟨k, rfl⟩ : ∃ j, k = j + 1 := ⟨k - 1, by omega⟩
          refine ⟨c, m', ?_, g2, g3⟩
          rw [F.batch_climber_root, if_pos g2, Option.bind_some]
          dsimp only
          rw [if_pos g2]; rfl
        | some q =>
          obtain ⟨x, lf1, ns1, t1⟩ := q
          rw [e1] at i1
          dsimp only at i1 ⊢
          rw [i1, Option.bind_some]
          dsimp only
          obtain ⟨g1, g2, g3⟩ := climb_32 hT l f a (bel n) lf ns hlf hns e1
          have hl1 : (P l (a + bel n) (n - bel n)).length ≤ lf1.length := by
            obtain ⟨c1, c2⟩ := climb_many T l hr f a (bel n) lf ns hb0 (by omega) (by omega)
            by_cases hc : ns.length < many l f a (bel n)
            · rw [c1 hc] at e1; cases e1
            · obtain ⟨s', ts', e'⟩ := c2 (by omega)
              rw [e1] at e'
              cases e'
              rw [List.length_drop]; omega
          have i2 := root_eq hT l hr hll f (a + bel n) (n - bel n) lf1 ns1 (runM t1 m) k (by rw [runM_table, hm]) (by omega) (by omega) (by omega) (by omega) hl1 g2 g3
          rw [en]
          cases e2 : climb T l f (a + bel n) (n - bel n) lf1 ns1 with
          | none =>
            rw [e2] at i2
            obtain ⟨c, m', g1, g2, g3⟩ := i2
            dsimp only
            refine ⟨c, m', ?_, g2, g3⟩
            rw [g1, Option.bind_some]
            dsimp only
            rw [if_pos g2]; rfl
          | some q =>
            obtain ⟨y, lf2, ns2, t2⟩ := q
            rw [e2] at i2
            dsimp only at i2 ⊢
            obtain ⟨k1, _, _⟩ := climb_32 hT l f (a + bel n) (n - bel n) lf1 ns1 g2 g3 e2
            rw [i2, Option.bind_some]
            dsimp only
            rw [if_neg (by simp), node_eq _ (by omega) (by omega), Option.bind_some, runM_table, runM_table, hm, runM_app, runM_app]
end Go.Proofs.Ytoamnhmdhficiaa
