/- To which root any proof of many leaves comes, or why to none: the plain law. -/
import Derived.Test.YtoamnhmdhficiaaGRoots
import Derived.Test.YtoamnhmdhficiaaPClimb
import Derived.Test.YtoamnhmdhficiaaPAwake30
namespace Go.Proofs.Ytoamnhmdhficiaa
set_option linter.all false
open Go Go.RowKit Go.Fw
set_option maxRecDepth 100000
attribute [local irreducible] FUEL

theorem many_eq (l : List Int) (hll : l.length < 1000000000000000000) : ∀ (f a n k : Nat), 1 ≤ n → n ≤ f → f ≤ k → a + n < 1000000000000000000 → F.law30_many k (a : Int) (n : Int) l = some ((many l f a n : Nat) : Int)
  | 0, _, _, _, h1, h2, _, _ => by omega
  | f + 1, a, n, k, h1, h2, hk, han => by
    obtain ⟨k, rfl⟩ : ∃ j, k = j + 1 := ⟨k - 1, by omega⟩
    unfold F.law30_many many
    rw [some_eq l hll han, Option.bind_some]
    by_cases hP : P l a n = []
    · rw [if_pos (by simpa using hP), if_pos hP]; rfl
    · rw [if_neg (by simpa using hP), if_neg hP]
      by_cases hn : n = 1
      · rw [if_pos (by simp; omega), if_pos hn]; rfl
      · rw [if_neg (by simp; omega), if_neg hn]
        have hb1 := bel_lt (n := n) (by omega)
        have hb0 := bel_pos n
        have m1 := many_le l f a (bel n) hb0
        have m2 := many_le l f (a + bel n) (n - bel n) (by omega)
        rw [below_eq (by omega) (by omega), Option.bind_some, many_eq l hll f a (bel n) k hb0 (by omega) (by omega) (by omega), Option.bind_some, w64 (n := (a : Int) + (bel n : Nat)) (by omega) (by omega), w64 (n := (n : Int) - (bel n : Nat)) (by omega) (by omega)]
        rw [show (a : Int) + ((bel n : Nat) : Int) = ((a + bel n : Nat) : Int) by omega, show (n : Int) - ((bel n : Nat) : Int) = ((n - bel n : Nat) : Int) by omega]
        rw [many_eq l hll f (a + bel n) (n - bel n) k (by omega) (by omega) (by omega) (by omega), Option.bind_some, w64 (by omega) (by omega)]
        congr 1

theorem build_eq {T : Tab} (hT : S32 T) (l : List Int) (hll : l.length < 1000000000000000000) : ∀ (f a n : Nat) (lf ns : Texts) (m : mill_Mill) (k : Nat) {s lf' ns' ts}, m.table_ = T → 1 ≤ n → n ≤ f → f ≤ k → a + n < 1000000000000000000 → (∀ x ∈ lf, x.size = 32) → (∀ x ∈ ns, x.size = 32) → climb T l f a n lf ns = some (s, lf', ns', ts) →
    F.law30_plain_build k (a : Int) (n : Int) l ⟨lf, ns⟩ m = some (s, ⟨lf', ns'⟩, runM ts m)
  | 0, _, _, _, _, _, _, _, _, _, _, _, h1, h2, _, _, _, _, _ => by omega
  | f + 1, a, n, lf, ns, m, k, s, lf', ns', ts, hm, h1, h2, hk, han, hlf, hns, hc => by
    obtain ⟨k, rfl⟩ : ∃ j, k = j + 1 := ⟨k - 1, by omega⟩
    unfold F.law30_plain_build
    rw [some_eq l hll han, Option.bind_some]
    by_cases hP : P l a n = []
    · rw [climb_nil T lf ns hP] at hc
      rw [if_pos (by simpa using hP)]
      cases ns with
      | nil => cases hc
      | cons x r =>
        obtain ⟨rfl, rfl, rfl, rfl⟩ : x = s ∧ lf = lf' ∧ r = ns' ∧ [] = ts := by simpa using hc
        dsimp only
        rw [show at_ (x :: r) 0 = some x from rfl, Option.bind_some, chk_pos (by simp; omega), drop1]
        rfl
    · rw [if_neg (by simpa using hP)]
      by_cases hn : n = 1
      · rw [climb_one T lf ns hP hn] at hc
        rw [if_pos (by simp; omega)]
        cases lf with
        | nil => cases hc
        | cons x r =>
          obtain ⟨rfl, rfl, rfl, rfl⟩ : x = s ∧ r = lf' ∧ ns = ns' ∧ [] = ts := by simpa using hc
          dsimp only
          rw [show at_ (x :: r) 0 = some x from rfl, Option.bind_some, chk_pos (by simp; omega), drop1]
          rfl
      · rw [climb_two T lf ns hP hn] at hc
        rw [if_neg (by simp; omega)]
        have hb1 := bel_lt (n := n) (by omega)
        have hb0 := bel_pos n
        rw [below_eq (by omega) (by omega), Option.bind_some, w64 (n := (a : Int) + (bel n : Nat)) (by omega) (by omega), w64 (n := (n : Int) - (bel n : Nat)) (by omega) (by omega)]
        rw [show (a : Int) + ((bel n : Nat) : Int) = ((a + bel n : Nat) : Int) by omega, show (n : Int) - ((bel n : Nat) : Int) = ((n - bel n : Nat) : Int) by omega]
        cases e1 : climb T l f a (bel n) lf ns with
        | none => rw [e1] at hc; cases hc
        | some q =>
          obtain ⟨x, lf1, ns1, t1⟩ := q
          rw [e1] at hc
          dsimp only at hc
          obtain ⟨g1, g2, g3⟩ := climb_32 hT l f a (bel n) lf ns hlf hns e1
          rw [build_eq hT l hll f a (bel n) lf ns m k hm hb0 (by omega) (by omega) (by omega) hlf hns e1, Option.bind_some]
          dsimp only
          cases e2 : climb T l f (a + bel n) (n - bel n) lf1 ns1 with
          | none => rw [e2] at hc; cases hc
          | some q =>
            obtain ⟨y, lf2, ns2, t2⟩ := q
            rw [e2] at hc
            dsimp only at hc
            obtain ⟨k1, _, _⟩ := climb_32 hT l f (a + bel n) (n - bel n) lf1 ns1 g2 g3 e2
            rw [build_eq hT l hll f (a + bel n) (n - bel n) lf1 ns1 (runM t1 m) k (by rw [runM_table, hm]) (by omega) (by omega) (by omega) (by omega) g2 g3 e2, Option.bind_some]
            dsimp only
            cases hc
            rw [node_eq _ (by omega) (by omega), Option.bind_some, runM_table, runM_table, hm, runM_app, runM_app]

/-- what the program's Root answers of a proof that may be -/
theorem rootP_eq {T : Tab} (hT : S32 T) {p : batch_Proof} (hp : Fine p) (h : RightP p) (m : mill_Mill) (hm : m.table_ = T) :
    let n := p.Size.toNat
    (p.Nodes.length ≠ many p.Picks n 0 n → ∃ m', F.batch_Root p m = some (b0, 20, m') ∧ m'.table_ = T) ∧
    (p.Nodes.length = many p.Picks n 0 n → ∃ s lf' ts, climb T p.Picks n 0 n p.Leaf p.Nodes = some (s, lf', [], ts) ∧ F.batch_Root p m = some (s, 0, runM ts m)) := by
  intro n
  have hn : p.Size = (n : Int) := by have := h.s1; omega
  have hn1 : 1 ≤ n := by have := h.s1; omega
  have hn2 : n ≤ 65536 := by have := h.s2; omega
  have hP : P p.Picks 0 n = p.Picks := P_all fun x hx => by rw [← hn]; exact h.within x hx
  have hll : p.Picks.length < 1000000000000000000 := by have := h.k2; omega
  have hlf : (P p.Picks 0 n).length ≤ p.Leaf.length := by rw [hP, h.lf]; exact Nat.le_refl _
  have hr : rightP p = true := by
    unfold rightP all32B
    simp only [Bool.and_eq_true, decide_eq_true_eq, List.all_eq_true]
    refine ⟨h.s1, h.s2, h.k1, h.k2, h.lf, ?_, h.nodes, h.leaf32, h.nodes32⟩
    have : ∀ (l : List Int) (last : Int), Rise l → (∀ x ∈ l, last < x ∧ x < p.Size) → riseG p.Size last l = true := by
      intro l
      induction l with
      | nil => intro _ _ _; rfl
      | cons x l ih =>
        intro last hr hb
        obtain ⟨g1, g2⟩ := List.pairwise_cons.1 hr
        unfold riseG
        simp only [Bool.and_eq_true, decide_eq_true_eq]
        exact ⟨(hb x (by simp)).1, (hb x (by simp)).2, ih x g2 fun y hy => ⟨g1 y hy, (hb y (by simp [hy])).2⟩⟩
    exact this _ _ h.rise fun x hx => by have := h.within x hx; omega
  have hroot := root_eq hT p.Picks h.rise hll n 0 n p.Leaf p.Nodes m FUEL hm hn1 (Nat.le_refl _) (by rw [FUEL_eq]; omega) (by omega) hlf h.leaf32 h.nodes32
  obtain ⟨c1, c2⟩ := climb_many T p.Picks h.rise n 0 n p.Leaf p.Nodes hn1 (Nat.le_refl _) hlf
  rw [hP, show ((0 : Nat) : Int) = 0 from rfl, ← hn] at hroot
  unfold F.batch_Root
  rw [right_eq hp, hr, Option.bind_some]
  simp only [Bool.not_true, Bool.false_eq_true, if_false]
  refine ⟨fun hne => ?_, fun he => ?_⟩
  · by_cases hlt : p.Nodes.length < many p.Picks n 0 n
    · rw [c1 hlt] at hroot
      obtain ⟨c, m', g1, g2, g3⟩ := hroot
      refine ⟨m', ?_, g3⟩
      rw [g1, Option.bind_some]
      dsimp only
      rw [if_pos g2]; rfl
    · obtain ⟨s, ts, e⟩ := c2 (by omega)
      rw [e] at hroot
      dsimp only at hroot
      refine ⟨runM ts m, ?_, by rw [runM_table, hm]⟩
      rw [hroot, Option.bind_some]
      dsimp only
      rw [if_neg (by simp), if_pos (by rw [List.length_drop]; simp; omega)]; rfl
  · obtain ⟨s, ts, e⟩ := c2 (by omega)
    have hz : p.Nodes.drop (many p.Picks n 0 n) = [] := by rw [← he, List.drop_length]
    rw [hz] at e
    rw [e] at hroot
    dsimp only at hroot
    refine ⟨s, _, ts, e, ?_⟩
    rw [hroot, Option.bind_some]
    dsimp only
    rw [if_neg (by simp), if_neg (by simp)]

theorem pure_BatchRoots (p : batch_Proof) {w : Prop} {z : Prop} (_ : w) (_ : z) : F.law30_BatchRoots p = some true := by
  unfold F.law30_BatchRoots
  have hp := few_fine p
  generalize hq : fewP p = q at hp
  rw [few_eq, Option.bind_some, hq, mnew_eq, Option.bind_some, right_eq hp, lright_eq hp]
  cases hr : rightP q with
  | false =>
    have e : F.batch_Root q m00 = some (b0, 4, m00) := by
      unfold F.batch_Root
      rw [right_eq hp, hr]; rfl
    rw [e]
    simp only [Option.bind_some, beq_self_eq_true, Bool.not_true, Bool.false_eq_true, if_false, Bool.not_false, if_true]
    have : seqB b0 (ByteArray.mk #[]) = true := seqB_refl b0
    rw [this]
    simp only [if_true, awake, Option.bind_some, thru_inr]
  | true =>
    have h := right_spec hr
    obtain ⟨h1, h2⟩ := rootP_eq s32_new hp h m00 rfl
    have hn : q.Size = (q.Size.toNat : Int) := by have := h.s1; omega
    have hn1 : 1 ≤ q.Size.toNat := by have := h.s1; omega
    have hn2 : q.Size.toNat ≤ 65536 := by have := h.s2; omega
    have hll : q.Picks.length < 1000000000000000000 := by have := h.k2; omega
    have hm := many_eq q.Picks hll q.Size.toNat 0 q.Size.toNat FUEL hn1 (Nat.le_refl _) (by rw [FUEL_eq]; omega) (by omega)
    rw [show ((0 : Nat) : Int) = 0 from rfl, ← hn] at hm
    by_cases he : q.Nodes.length = many q.Picks q.Size.toNat 0 q.Size.toNat
    · obtain ⟨s, lf', ts, hc, e⟩ := h2 he
      have hb := build_eq s32_new q.Picks hll q.Size.toNat 0 q.Size.toNat q.Leaf q.Nodes (runM ts m00) FUEL (by rw [runM_table]; rfl) hn1 (Nat.le_refl _) (by rw [FUEL_eq]; omega) (by omega) h.leaf32 h.nodes32 hc
      rw [show ((0 : Nat) : Int) = 0 from rfl, ← hn] at hb
      rw [e]
      simp only [Option.bind_some, beq_self_eq_true, Bool.not_true, Bool.false_eq_true, if_false, thru_inl]
      unfold F.law30_BatchRoots.r1
      rw [hm, Option.bind_some, if_neg (by simp [he]), thru_inl]
      unfold F.law30_BatchRoots.r2
      dsimp only
      rw [if_pos (by rfl), hb, Option.bind_some]
      dsimp only
      rw [seqB_refl, if_pos rfl, awake]; rfl
    · obtain ⟨m', e, _⟩ := h1 he
      rw [e]
      simp only [Option.bind_some, beq_self_eq_true, Bool.not_true, Bool.false_eq_true, if_false, thru_inl]
      unfold F.law30_BatchRoots.r1
      rw [hm, Option.bind_some, if_pos (by simp; omega)]
      have : seqB b0 (ByteArray.mk #[]) = true := seqB_refl b0
      dsimp only
      rw [this, if_pos rfl, if_pos (by rfl), awake]; rfl
end Go.Proofs.Ytoamnhmdhficiaa
