/- Where two proofs of one size come to one root with unlike leaves of one place, two unlike texts of one sum were summed: the plain law. -/
import Derived.Test.YtoamnhmdhficiaaGApart
import Derived.Test.YtoamnhmdhficiaaPClimb
import Derived.Test.YtoamnhmdhficiaaPAwake30
import Derived.Test.YtoamnhmdhficiaaPRootAny
namespace Go.Proofs.Ytoamnhmdhficiaa
set_option linter.all false
open Go Go.RowKit Go.Fw
set_option maxRecDepth 100000
attribute [local irreducible] FUEL

theorem climb_texts (T : Tab) (l : List Int) : ∀ (f a n d : Nat) (lf ns : Texts) {s lf' ns' ts}, 1 ≤ n → n ≤ f → n ≤ 2 ^ d → climb T l f a n lf ns = some (s, lf', ns', ts) → ts.length ≤ (P l a n).length * d
  | 0, _, _, _, _, _, _, _, _, _, _, _, _, h => by cases h
  | f + 1, a, n, d, lf, ns, s, lf', ns', ts, h1, h2, hd, h => by
    by_cases hP : P l a n = []
    · rw [climb_nil T lf ns hP] at h
      cases ns with
      | nil => cases h
      | cons x r => cases h; simp
    · by_cases hn : n = 1
      · rw [climb_one T lf ns hP hn] at h
        cases lf with
        | nil => cases h
        | cons x r => cases h; simp
      · rw [climb_two T lf ns hP hn] at h
        have hb1 := bel_lt (n := n) (by omega)
        have hb0 := bel_pos n
        have hb2 := bel_two n
        have hlen := P_len l (a := a) (Nat.le_of_lt hb1)
        have hpos : 0 < (P l a n).length := List.length_pos_iff.2 hP
        obtain ⟨d, rfl⟩ : ∃ j, d = j + 1 := ⟨d - 1, by cases d with | zero => simp at hd; omega | succ d => omega⟩
        have hh := bel_half (n := n) (by omega) hd
        cases e1 : climb T l f a (bel n) lf ns with
        | none => rw [e1] at h; cases h
        | some q =>
          obtain ⟨x, lf1, ns1, t1⟩ := q
          rw [e1] at h
          dsimp only at h
          cases e2 : climb T l f (a + bel n) (n - bel n) lf1 ns1 with
          | none => rw [e2] at h; cases h
          | some q =>
            obtain ⟨y, lf2, ns2, t2⟩ := q
            rw [e2] at h
            dsimp only at h
            have i1 := climb_texts T l f a (bel n) d lf ns hb0 (by omega) hh e1
            have i2 := climb_texts T l f (a + bel n) (n - bel n) d lf1 ns1 (by omega) (by omega) (by omega) e2
            cases h
            rw [List.length_append, List.length_append, List.length_singleton, hlen, Nat.mul_succ, Nat.add_mul]
            omega

theorem climb_left (T : Tab) {l : List Int} (hr : Rise l) {f a n : Nat} {lf ns : Texts} (h1 : 1 ≤ n) (h2 : n ≤ f) (h3 : (P l a n).length ≤ lf.length) {s lf' ns' ts} (h : climb T l f a n lf ns = some (s, lf', ns', ts)) : lf' = lf.drop (P l a n).length := by
  obtain ⟨c1, c2⟩ := climb_many T l hr f a n lf ns h1 h2 h3
  by_cases hc : ns.length < many l f a n
  · rw [c1 hc] at h; cases h
  · obtain ⟨s', ts', e'⟩ := c2 (by omega)
    rw [h] at e'
    cases e'; rfl

theorem mem_P {l : List Int} {a n x : Nat} : ((x : Int) ∈ P l a n) ↔ (x : Int) ∈ l ∧ a ≤ x ∧ x < a + n := by
  unfold P inR
  rw [List.mem_filter]
  simp only [Bool.and_eq_true, decide_eq_true_eq]
  constructor
  · intro ⟨h1, h2⟩; exact ⟨h1, by omega, by omega⟩
  · intro ⟨h1, h2, h3⟩; exact ⟨h1, by omega, by omega⟩

/-- one way down from the root -/
theorem descend {T : Tab} (hT : S32 T) {l l' : List Int} (hr : Rise l) (hr' : Rise l') (x : Nat) (hx : (x : Int) ∈ l) (hx' : (x : Int) ∈ l') :
    ∀ (f a n : Nat) (lf lf2 ns ns2 : Texts) {s o1 o2 o3 q1 q2 q3}, 1 ≤ n → n ≤ f → a ≤ x → x < a + n → (P l a n).length ≤ lf.length → (P l' a n).length ≤ lf2.length →
      (∀ z ∈ lf, z.size = 32) → (∀ z ∈ ns, z.size = 32) → (∀ z ∈ lf2, z.size = 32) → (∀ z ∈ ns2, z.size = 32) →
      climb T l f a n lf ns = some (s, o1, o2, o3) → climb T l' f a n lf2 ns2 = some (s, q1, q2, q3) →
      (∀ u ∈ o3, ∀ v ∈ q3, sumB T u = sumB T v → u = v) → lf[(P l a (x - a)).length]? = lf2[(P l' a (x - a)).length]?
  | 0, _, _, _, _, _, _, _, _, _, _, _, _, _, _, h2, _, _, _, _, _, _, _, _, h, _, _ => by cases h
  | f + 1, a, n, lf, lf2, ns, ns2, s, o1, o2, o3, q1, q2, q3, h1, h2, ha, hn, hl, hl2, z1, z2, z3, z4, h, h', hno => by
    have hP : ¬ P l a n = [] := fun e => by have := mem_P.2 ⟨hx, ha, hn⟩; rw [e] at this; cases this
    have hP' : ¬ P l' a n = [] := fun e => by have := mem_P.2 ⟨hx', ha, hn⟩; rw [e] at this; cases this
    by_cases hn1 : n = 1
    · rw [climb_one T lf ns hP hn1] at h
      rw [climb_one T lf2 ns2 hP' hn1] at h'
      have hxa : x - a = 0 := by omega
      have e0 : ∀ l : List Int, P l a (x - a) = [] := fun l => by
        rw [hxa]; unfold P inR
        refine List.filter_eq_nil_iff.2 fun y _ => ?_
        simp
      rw [e0, e0]
      cases lf with
      | nil => cases h
      | cons u r =>
        cases lf2 with
        | nil => cases h'
        | cons v r' => cases h; cases h'; rfl
    · rw [climb_two T lf ns hP hn1] at h
      rw [climb_two T lf2 ns2 hP' hn1] at h'
      have hb1 := bel_lt (n := n) (by omega)
      have hb0 := bel_pos n
      have hlen := P_len l (a := a) (Nat.le_of_lt hb1)
      have hlen' := P_len l' (a := a) (Nat.le_of_lt hb1)
      cases e1 : climb T l f a (bel n) lf ns with
      | none => rw [e1] at h; cases h
      | some q =>
      obtain ⟨u1, lf1, ns1, t1⟩ := q
      rw [e1] at h
      dsimp only at h
      cases e2 : climb T l f (a + bel n) (n - bel n) lf1 ns1 with
      | none => rw [e2] at h; cases h
      | some q =>
      obtain ⟨v1, lfa, nsa, t2⟩ := q
      rw [e2] at h
      dsimp only at h
      cases f1 : climb T l' f a (bel n) lf2 ns2 with
      | none => rw [f1] at h'; cases h'
      | some q =>
      obtain ⟨u2, lf3, ns3, t3⟩ := q
      rw [f1] at h'
      dsimp only at h'
      cases f2 : climb T l' f (a + bel n) (n - bel n) lf3 ns3 with
      | none => rw [f2] at h'; cases h'
      | some q =>
      obtain ⟨v2, lfb, nsb, t4⟩ := q
      rw [f2] at h'
      dsimp only at h'
      obtain ⟨a1, a2, a3⟩ := climb_32 hT l f a (bel n) lf ns z1 z2 e1
      obtain ⟨a4, a5, a6⟩ := climb_32 hT l' f a (bel n) lf2 ns2 z3 z4 f1
      have d1 := climb_left T hr hb0 (by omega) (by omega) e1
      have d2 := climb_left T hr' hb0 (by omega) (by omega) f1
      simp only [Option.some.injEq, Prod.mk.injEq] at h h'
      obtain ⟨hs, _, _, ho3⟩ := h
      obtain ⟨hs', _, _, hq3⟩ := h'
      have htx : txN u1 v1 = txN u2 v2 := hno _ (by rw [← ho3]; simp) _ (by rw [← hq3]; simp) (by show nodeB T u1 v1 = nodeB T u2 v2; rw [hs, hs'])
      obtain ⟨rfl, rfl⟩ := txN_inj htx (by rw [a1, a4])
      by_cases hxl : x < a + bel n
      · exact descend hT hr hr' x hx hx' f a (bel n) lf lf2 ns ns2 hb0 (by omega) ha hxl (by omega) (by omega) z1 z2 z3 z4 e1 f1 (fun u hu v hv => hno u (by rw [← ho3]; simp [hu]) v (by rw [← hq3]; simp [hv]))
      · have := descend hT hr hr' x hx hx' f (a + bel n) (n - bel n) lf1 lf3 ns1 ns3 (by omega) (by omega) (by omega) (by omega) (by rw [d1, List.length_drop]; omega) (by rw [d2, List.length_drop]; omega) a2 a3 a5 a6 e2 f2 (fun u hu v hv => hno u (by rw [← ho3]; simp [hu]) v (by rw [← hq3]; simp [hv]))
        rw [d1, d2, List.getElem?_drop, List.getElem?_drop] at this
        have k1 := P_len l (a := a) (n := x - a) (k := bel n) (by omega)
        have k2 := P_len l' (a := a) (n := x - a) (k := bel n) (by omega)
        rw [show x - a - bel n = x - (a + bel n) by omega] at k1 k2
        rw [k1, k2]
        exact this

theorem P_index {l : List Int} (hr : Rise l) {i : Nat} {x : Nat} (h0 : ∀ y ∈ l, 0 ≤ y) (hi : l[i]? = some (x : Int)) : (P l 0 x).length = i := by
  have hlt := lt_of_get hi
  have hx : l[i] = (x : Int) := by rw [List.getElem?_eq_getElem hlt] at hi; exact Option.some.inj hi
  have hd : l = l.take i ++ (x : Int) :: l.drop (i + 1) := by rw [← hx, List.getElem_cons_drop, List.take_append_drop]
  have hr2 := hr
  rw [hd] at hr2
  obtain ⟨_, g2, g3⟩ := List.pairwise_append.1 hr2
  have e : P l 0 x = l.take i := by
    unfold P
    conv => lhs; rw [hd]
    rw [List.filter_append, List.filter_eq_self.2, List.filter_eq_nil_iff.2, List.append_nil]
    · intro y hy
      have : (x : Int) ≤ y := by
        rcases List.mem_cons.1 hy with rfl | hy
        · exact Int.le_refl _
        · exact Int.le_of_lt ((List.pairwise_cons.1 g2).1 y hy)
      unfold inR; simp; omega
    · intro y hy
      have h1 := g3 y hy (x : Int) (by simp)
      have h2 := h0 y (List.mem_of_mem_take hy)
      unfold inR; simp; omega
  rw [e, List.length_take]; omega

/-- unlike leaves of one place -/
def Unlike (p q : batch_Proof) : Prop := ∃ (i k : Nat) (x : Int) (u v : ByteArray), p.Picks[i]? = some x ∧ q.Picks[k]? = some x ∧ p.Leaf[i]? = some u ∧ q.Leaf[k]? = some v ∧ u ≠ v
theorem unlike_inner {p q : batch_Proof} (hl : p.Leaf.length = p.Picks.length) (hl2 : q.Leaf.length = q.Picks.length) (h64 : q.Picks.length ≤ 64) {i : Nat} (hi : i < p.Picks.length) {b : Bool} (hb : b = true → Unlike p q) :
    ∃ r, iter (fun x => F.law30_BatchApart.l12 p q (i : Int) x.1 x.2) FUEL (b, 0) = some r ∧ (r = true → Unlike p q) := by
  refine iter_up q.Picks.length (fun k s => s.2 = (k : Int) ∧ (s.1 = true → Unlike p q)) (fun r => r = true → Unlike p q) ?_ ?_ ⟨rfl, hb⟩ (by rw [FUEL_eq]; omega)
  · rintro k ⟨c, j⟩ hk ⟨rfl, hc⟩
    left
    unfold F.law30_BatchApart.l12
    dsimp only at hc ⊢
    rw [if_pos (by simp; omega), if_pos (by simp; omega), thru_inl]
    unfold F.law30_BatchApart.r11
    cases c with
    | true => exact ⟨(true, ((k + 1 : Nat) : Int)), by rw [if_pos rfl, wadd (by omega)], rfl, fun _ => hc rfl⟩
    | false =>
      have g1 := List.getElem?_eq_getElem hi
      have g2 := List.getElem?_eq_getElem hk
      have g3 := List.getElem?_eq_getElem (show i < p.Leaf.length by omega)
      have g4 := List.getElem?_eq_getElem (show k < q.Leaf.length by omega)
      rw [if_neg Bool.false_ne_true, at_nat g1, Option.bind_some, at_nat g2, Option.bind_some, wadd (by omega)]
      by_cases he : p.Picks[i] = q.Picks[k]
      · rw [if_pos (by simpa using he), at_nat g3, Option.bind_some, at_nat g4, Option.bind_some]
        refine ⟨_, rfl, rfl, fun h => ⟨i, k, _, _, _, g1, by rw [he]; exact g2, g3, g4, ?_⟩⟩
        dsimp only at h
        exact seqB_false (by simpa using h)
      · rw [if_neg (by simpa using he)]
        exact ⟨_, rfl, rfl, fun h => by cases h⟩
  · rintro ⟨c, j⟩ ⟨rfl, hc⟩
    refine ⟨c, ?_, hc⟩
    unfold F.law30_BatchApart.l12
    dsimp only
    rw [if_neg (by simp)]; rfl
theorem unlike_eq {p q : batch_Proof} (hl : p.Leaf.length = p.Picks.length) (hl2 : q.Leaf.length = q.Picks.length) (h64 : q.Picks.length ≤ 64) (h642 : p.Picks.length ≤ 64) :
    ∃ r, iter (fun x => F.law30_BatchApart.l14 p q x.1 x.2) FUEL (false, 0) = some r ∧ (r = true → Unlike p q) := by
  refine iter_up p.Picks.length (fun k s => s.2 = (k : Int) ∧ (s.1 = true → Unlike p q)) (fun r => r = true → Unlike p q) ?_ ?_ ⟨rfl, fun h => by cases h⟩ (by rw [FUEL_eq]; omega)
  · rintro k ⟨c, j⟩ hk ⟨rfl, hc⟩
    left
    unfold F.law30_BatchApart.l14
    dsimp only at hc ⊢
    rw [if_pos (by simp; omega), if_pos (by simp; omega), thru_inl]
    unfold F.law30_BatchApart.r10
    obtain ⟨r, h1, h2⟩ := unlike_inner hl hl2 h64 hk hc
    refine ⟨(r, ((k + 1 : Nat) : Int)), ?_, rfl, h2⟩
    refine (congrArg (fun o => Option.bind o _) h1).trans ?_
    rw [Option.bind_some]
    unfold F.law30_BatchApart.r13
    rw [wadd (by omega)]
  · rintro ⟨c, j⟩ ⟨rfl, hc⟩
    refine ⟨c, ?_, hc⟩
    unfold F.law30_BatchApart.l14
    dsimp only
    rw [if_neg (by simp)]; rfl

theorem take10 {α : Type} (l : List α) : (if decide ((l.length : Int) > 10) then (chk (0 ≤ (0 : Int) ∧ (0 : Int) ≤ (10 : Int) ∧ (10 : Int) ≤ (l.length : Int)) (some (((l.drop (0 : Int).toNat).take ((10 : Int).toNat - (0 : Int).toNat))))) else (some l)) = some (l.take 10) := by
  by_cases h : l.length > 10
  · rw [if_pos (by simp; omega), chk_pos (by omega)]; rfl
  · rw [if_neg (by simp; omega), List.take_of_length_le (by omega)]

theorem pure_BatchApart (x0 : List mill_Entry) (p q : batch_Proof) {k0 : Nat} {w0 w1 z1 w2 z2 : Prop} (_ : w0) (z0 : ∀ n ∈ (x0.length * k0 :: x0.flatMap fun y => (([] : List Nat) ++ [y.Key.size] ++ [y.Text.size] ++ [y.Out.size])), n ≤ 140737488351232)
    (_ : w1) (_ : z1) (_ : w2) (_ : z2) : F.law30_BatchApart x0 p q = some true := by
  unfold F.law30_BatchApart
  refine (congrArg (fun o => Option.bind o _) (take10 x0)).trans ?_
  rw [Option.bind_some]
  unfold F.law30_BatchApart.r1
  have hsz : ∀ e ∈ x0.take 10, sizedE e := fun e he => by
    have hm : ∀ n ∈ (([] : List Nat) ++ [e.Key.size] ++ [e.Text.size] ++ [e.Out.size]), n ≤ 140737488351232 := fun n hn => z0 n (List.mem_cons_of_mem _ (List.mem_flatMap.2 ⟨e, List.mem_of_mem_take he, hn⟩))
    exact ⟨hm _ (by simp), hm _ (by simp), hm _ (by simp)⟩
  have hlen : (x0.take 10).length < 1000000000000000000 := by rw [List.length_take]; omega
  generalize x0.take 10 = l at hsz hlen
  rw [with_eq hsz hlen, Option.bind_some]
  cases h32 : all32 l with
  | false =>
    simp only [Bool.false_eq_true, if_false, optC_none]
    rw [if_pos (by rfl), awake]; rfl
  | true =>
    simp only [if_true, optC_some]
    rw [if_neg (by decide)]
    have hT : S32 (tabOf l) := sumB_size h32
    generalize tabOf l = T at hT
    have hp := few_fine p
    have hq := few_fine q
    rw [few_eq, Option.bind_some, few_eq, Option.bind_some]
    generalize fewP p = p at hp
    generalize fewP q = q at hq
    obtain ⟨s1, e1, m1, h1, t1, c1⟩ := rootAny hT hp ⟨T, [], ⟨b0, b0⟩, false, false, 0⟩ rfl
    obtain ⟨s2, e2, m2, h2, t2, c2⟩ := rootAny hT hq m1 t1
    rw [h1, Option.bind_some]
    dsimp only
    rw [h2, Option.bind_some]
    dsimp only
    by_cases he1 : e1 = 0
    rotate_left
    · rw [if_pos (by simpa using he1), awake]; rfl
    rw [if_neg (by simpa using he1)]
    by_cases he2 : e2 = 0
    rotate_left
    · rw [if_pos (by simpa using he2), awake]; rfl
    rw [if_neg (by simpa using he2)]
    cases hs : seqB s1 s2 with
    | false => simp only [Bool.not_false, if_true, awake, Option.bind_some, thru_inr]
    | true =>
    simp only [Bool.not_true, Bool.false_eq_true, if_false]
    by_cases hsize : p.Size = q.Size
    rotate_left
    · rw [if_pos (by simpa using hsize), awake]; rfl
    rw [if_neg (by simpa using hsize), thru_inl]
    have hs := seqB_iff.1 hs
    subst hs
    obtain ⟨r1, lf1, ts1, cl1, rfl⟩ := c1 he1
    obtain ⟨r2, lf2, ts2, cl2, rfl⟩ := c2 he2
    unfold F.law30_BatchApart.r9
    obtain ⟨u, hu, hun⟩ := unlike_eq r1.lf r2.lf r2.k2 r1.k2
    refine (congrArg (fun o => Option.bind o _) hu).trans ?_
    rw [Option.bind_some]
    unfold F.law30_BatchApart.r15
    rw [twins_eq, Option.bind_some]
    cases u with
    | false => simp only [Bool.not_false, if_true, awake, Option.bind_some]
    | true =>
    simp only [Bool.not_true, Bool.false_eq_true, if_false]
    have hn1 : 1 ≤ p.Size.toNat := by have := r1.s1; omega
    have hn2 : p.Size.toNat ≤ 2 ^ 16 := by have := r1.s2; omega
    have hnp : p.Size = (p.Size.toNat : Int) := by have := r1.s1; omega
    have hPp : P p.Picks 0 p.Size.toNat = p.Picks := P_all fun x hx => by rw [← hnp]; exact r1.within x hx
    have hPq : P q.Picks 0 p.Size.toNat = q.Picks := P_all fun x hx => by rw [← hnp, hsize]; exact r2.within x hx
    rw [← hsize] at cl2
    have b1 := climb_texts T p.Picks _ 0 _ 16 p.Leaf p.Nodes hn1 (Nat.le_refl _) hn2 cl1
    have b2 := climb_texts T q.Picks _ 0 _ 16 q.Leaf q.Nodes hn1 (Nat.le_refl _) hn2 cl2
    rw [hPp] at b1
    rw [hPq] at b2
    have k1 := r1.k2
    have k2 := r2.k2
    have hN := ((noted_new T).run ts1 (by simp; omega)).run ts2 (by simp; omega)
    rw [List.append_nil] at hN
    generalize runM ts2 (runM ts1 ⟨T, [], ⟨b0, b0⟩, false, false, 0⟩) = M at hN
    cases hf : M.found_ with
    | true =>
      rw [if_pos rfl]
      have := hN.twins hf
      have hsq : seqB M.twins_.e0 M.twins_.e1 = false := by
        cases hc : seqB M.twins_.e0 M.twins_.e1 with
        | false => rfl
        | true => exact absurd (seqB_iff.1 hc) this
      rw [hsq]
      simp only [Bool.not_false, if_true, awake, Option.bind_some]
    | false =>
      exfalso
      obtain ⟨i, k, x, u, v, g1, g2, g3, g4, hne⟩ := hun rfl
      have hx := r1.within x (List.mem_of_getElem? g1)
      obtain ⟨y, rfl⟩ := Int.eq_ofNat_of_zero_le hx.1
      have := descend hT r1.rise r2.rise y (List.mem_of_getElem? g1) (List.mem_of_getElem? g2) _ 0 _ p.Leaf q.Leaf p.Nodes q.Nodes hn1 (Nat.le_refl _) (Nat.zero_le _) (by omega) (by rw [hPp, r1.lf]; exact Nat.le_refl _) (by rw [hPq, r2.lf]; exact Nat.le_refl _) r1.leaf32 r1.nodes32 r2.leaf32 r2.nodes32 cl1 cl2
        (fun a ha b hb hab => hN.apart hf (by simp [ha]) (by simp [hb]) hab)
      rw [Nat.sub_zero, P_index r1.rise (fun y hy => (r1.within y hy).1) g1, P_index r2.rise (fun y hy => (r2.within y hy).1) g2, g3, g4] at this
      exact hne (Option.some.inj this)
end Go.Proofs.Ytoamnhmdhficiaa
