/- What is proved of any leaves by their places, and that it comes to the root: the plain law. -/
import Derived.Test.YtoamnhmdhficiaaPGather
import Derived.Test.YtoamnhmdhficiaaPAwake30
namespace Go.Proofs.Ytoamnhmdhficiaa
set_option linter.all false
open Go Go.RowKit Go.Fw
set_option maxRecDepth 100000
attribute [local irreducible] FUEL
theorem cut100 (y : ByteArray) (h : y.size > 100) : (y.extract 0 100).size = 100 := by
  rw [ofL_surj y, ofL_extract, ofL_size, List.length_drop, List.length_take, size_ofL']; omega
theorem leaves_eq (xs : Texts) : ∃ L m, F.law07_Leaves xs m00 = some (L, m) ∧ L.length ≤ 40 ∧ (∀ x ∈ L, x.size = 32) ∧ m.table_ = [] := by
  unfold F.law07_Leaves
  obtain ⟨r, e, L, m, hr, h1, h2, h3⟩ := iter_up (f := fun x => F.law07_Leaves.l2 xs x.1 x.2.1 x.2.2.1 x.2.2.2.1 x.2.2.2.2.1 x.2.2.2.2.2.1 x.2.2.2.2.2.2.1 x.2.2.2.2.2.2.2.1 x.2.2.2.2.2.2.2.2) 40
    (fun i s => ∃ (L : Texts) (m : mill_Mill), s = (L, (i : Int), m.table_, m.notes_, m.twins_.e0, m.twins_.e1, m.found_, m.full_, m.sums_) ∧ L.length = i ∧ (∀ x ∈ L, x.size = 32) ∧ m.table_ = [])
    (fun r => ∃ (L : Texts) (m : mill_Mill), r = (L, m.table_, m.notes_, m.twins_.e0, m.twins_.e1, m.found_, m.full_, m.sums_) ∧ L.length ≤ 40 ∧ (∀ x ∈ L, x.size = 32) ∧ m.table_ = [])
    (fun i s hi hI => by
      obtain ⟨L, m, rfl, h1, h2, h3⟩ := hI
      dsimp only
      by_cases hx : i < xs.length
      · obtain ⟨y, hy⟩ : ∃ y, xs[i]? = some y := ⟨xs[i], List.getElem?_eq_getElem hx⟩
        have hm : (⟨m.table_, m.notes_, (⟨m.twins_.e0, m.twins_.e1⟩ : A2_ByteArray), m.found_, m.full_, m.sums_⟩ : mill_Mill) = m := rfl
        have hgo : ∀ z : ByteArray, z.size ≤ 1000000000000000000 → ∃ b m', F.pledge_Leaf z m = some (b, m') ∧ b.size = 32 ∧ m'.table_ = [] := fun z hz => by
          refine ⟨_, _, leaf_eq m hz, ?_, by rw [runM_table, h3]⟩
          rw [h3, sumB_new]; exact shaB_size _
        refine .inl ?_
        unfold F.law07_Leaves.l2 F.law07_Leaves.r1
        rw [if_pos (by simp; omega), if_pos (by simp; omega), thru_inl, at_nat hy, Option.bind_some, hm]
        by_cases hy2 : y.size > 100
        · obtain ⟨b, m', e, g1, g2⟩ := hgo (y.extract 0 100) (by rw [cut100 y hy2]; omega)
          refine ⟨_, ?_, L ++ [b], m', rfl, by simp [h1], ?_, g2⟩
          · rw [if_pos (by simp; omega), chk_pos (by omega)]
            show Option.bind (F.pledge_Leaf (y.extract 0 100) m) _ = _
            rw [e, Option.bind_some]
            dsimp only
            rw [chk_pos (by unfold room; simp only [List.length_singleton]; omega), wadd (by omega)]
          · intro x hx
            rcases List.mem_append.1 hx with hx | hx
            · exact h2 x hx
            · rw [List.mem_singleton.1 hx]; exact g1
        · obtain ⟨b, m', e, g1, g2⟩ := hgo y (by omega)
          refine ⟨_, ?_, L ++ [b], m', rfl, by simp [h1], ?_, g2⟩
          · rw [if_neg (by simp; omega), e, Option.bind_some]
            dsimp only
            rw [chk_pos (by unfold room; simp only [List.length_singleton]; omega), wadd (by omega)]
          · intro x hx
            rcases List.mem_append.1 hx with hx | hx
            · exact h2 x hx
            · rw [List.mem_singleton.1 hx]; exact g1
      · refine .inr ⟨_, ?_, L, m, rfl, by omega, h2, h3⟩
        unfold F.law07_Leaves.l2
        rw [if_neg (by simp; omega), thru_inr])
    (fun s hI => by
      obtain ⟨L, m, rfl, h1, h2, h3⟩ := hI
      refine ⟨_, ?_, L, m, rfl, by omega, h2, h3⟩
      dsimp only
      unfold F.law07_Leaves.l2
      by_cases hx : 40 < xs.length
      · rw [if_pos (by simp; omega), if_neg (by simp), thru_inr]
      · rw [if_neg (by simp; omega), thru_inr])
    (s0 := ([], 0, m00.table_, m00.notes_, m00.twins_.e0, m00.twins_.e1, m00.found_, m00.full_, m00.sums_)) ⟨[], m00, rfl, rfl, (fun _ h => by cases h), rfl⟩ (k := FUEL) (by rw [FUEL_eq]; omega)
  subst hr
  refine ⟨L, m, ?_, h1, h2, h3⟩
  refine (congrArg (fun o => Option.bind o _) e).trans ?_
  rfl
theorem same_refl {l : List ByteArray} (h : l.length < 1000000000000000000) : F.law30_same l l = some true := by
  unfold F.law30_same
  rw [if_neg (by simp)]
  have e := iter_count (f := fun (x : Int) => F.law30_same.l1 l l x) (fun i => (i : Int)) (n := l.length) (r := .inl ()) (fun i hi => by
    obtain ⟨y, hy⟩ : ∃ y, l[i]? = some y := ⟨l[i], List.getElem?_eq_getElem hi⟩
    unfold F.law30_same.l1
    rw [if_pos (by simp; omega), at_nat hy, Option.bind_some, Option.bind_some, seqB_refl, if_neg (by decide), wadd (by omega)])
    (by
      unfold F.law30_same.l1
      rw [if_neg (by simp)]) (k := FUEL) (by rw [FUEL_eq]; omega)
  refine (congrArg (fun o => thru o _) e).trans ?_
  rfl
def pp00 : batch_Proof := ⟨0, [], [], []⟩
def proveR (T : Tab) (L : Texts) (pick : List Int) : batch_Proof × Int := if pick.length < 1 ∨ 64 < pick.length then (pp00, 5) else if riseG (L.length : Int) (-1) pick then (⟨(L.length : Int), pick, pickd pick 0 L, gath T pick L.length 0 L⟩, 0) else (pp00, 21)
theorem proveR_range {T : Tab} {L : Texts} {pick : List Int} (h : pick.length < 1 ∨ 64 < pick.length) : proveR T L pick = (pp00, 5) := if_pos h
theorem proveR_ok {T : Tab} {L : Texts} {pick : List Int} (h : ¬ (pick.length < 1 ∨ 64 < pick.length)) (hr : riseG (L.length : Int) (-1) pick = true) : proveR T L pick = (⟨(L.length : Int), pick, pickd pick 0 L, gath T pick L.length 0 L⟩, 0) := by unfold proveR; rw [if_neg h, if_pos hr]
theorem proveR_size {T : Tab} {L : Texts} {pick : List Int} (h : ¬ (pick.length < 1 ∨ 64 < pick.length)) (hr : riseG (L.length : Int) (-1) pick = false) : proveR T L pick = (pp00, 21) := by unfold proveR; rw [if_neg h, if_neg (by rw [hr]; decide)]
/-- what is proved -/
theorem prove_eq {T : Tab} (hT : S32 T) {L : Texts} {pick : List Int} (m : mill_Mill) (hm : m.table_ = T) (hL : L.length ≤ 40) (h32 : ∀ x ∈ L, x.size = 32) (hp : pick.length ≤ 70) :
    ∃ m', m'.table_ = T ∧ F.batch_Prove L pick m = some ((proveR T L pick).1, (proveR T L pick).2, m') := by
  unfold F.batch_Prove
  by_cases h1 : pick.length < 1
  · refine ⟨m, hm, ?_⟩
    rw [if_pos (by simp; omega), Option.bind_some, proveR_range (.inl h1)]
    rfl
  rw [if_neg (by simp; omega), Option.bind_some]
  unfold F.batch_Prove.r1
  by_cases h2 : 64 < pick.length
  · refine ⟨m, hm, ?_⟩
    rw [if_pos (by simp; omega), proveR_range (.inr h2)]
    rfl
  rw [if_neg (by simp; omega), if_neg (by simp; omega), brising_eq _ _ (by omega), Option.bind_some]
  have hno : ¬ (pick.length < 1 ∨ 64 < pick.length) := by omega
  cases hr : riseG (L.length : Int) (-1) pick with
  | false =>
    refine ⟨m, hm, ?_⟩
    rw [proveR_size hno hr]
    rfl
  | true =>
    obtain ⟨g1, g2⟩ := riseG_spec _ hr
    have hL1 : 1 ≤ L.length := by
      cases hpk : pick with
      | nil => rw [hpk] at h1; simp at h1
      | cons x r => have := g2 x (by rw [hpk]; simp); omega
    have hP : P pick 0 L.length = pick := P_all fun x hx => by have := g2 x hx; omega
    rw [if_neg (by decide), thru_inl, proveR_ok hno hr]
    unfold F.batch_Prove.r2
    have e := iter_count (f := fun (x : Int × Texts) => F.batch_Prove.l3 L pick x.1 x.2) (fun i => ((i : Int), (pick.take i).map fun (x : Int) => (L[(x - ((0 : Nat) : Int)).toNat]?).getD b0)) (n := pick.length) (r := pick.map fun (x : Int) => (L[(x - ((0 : Nat) : Int)).toNat]?).getD b0) (fun i hi => by
      obtain ⟨x, hx⟩ : ∃ x, pick[i]? = some x := ⟨pick[i], List.getElem?_eq_getElem hi⟩
      have hxb := g2 x (List.mem_of_getElem? hx)
      obtain ⟨y, hy⟩ : ∃ y, L[x.toNat]? = some y := ⟨L[x.toNat]'(by omega), List.getElem?_eq_getElem (by omega)⟩
      have hy' := at_nat hy
      rw [show ((x.toNat : Nat) : Int) = x by omega] at hy'
      dsimp only
      unfold F.batch_Prove.l3
      rw [if_pos (by simp; omega), at_nat hx, Option.bind_some, hy', Option.bind_some, chk_pos (by unfold room; simp only [List.length_map, List.length_take, List.length_singleton]; omega), wadd (by omega), List.take_succ, hx]
      simp [hy])
      (by
        dsimp only
        unfold F.batch_Prove.l3
        rw [if_neg (by simp), List.take_length]) (k := FUEL) (by rw [FUEL_eq]; omega)
    obtain ⟨m', e2, t⟩ := gather_eq hT pick g1 (by omega) L.length 0 L m FUEL hm hL1 (Nat.le_refl _) (by rw [FUEL_eq]; omega) (by omega) (by omega) h32
    rw [hP] at e2
    refine ⟨m', t, ?_⟩
    rw [chk_pos (by unfold room; simp only [List.length_nil]; omega)]
    refine (congrArg (fun o => Option.bind o _) e).trans ?_
    rw [Option.bind_some]
    unfold F.batch_Prove.r4
    refine (congrArg (fun o => Option.bind o _) e2).trans ?_
    unfold pickd
    rw [hP]
    rfl
theorem take70p (l : List Int) : (if decide ((l.length : Int) > 70) then (chk (0 ≤ (0 : Int) ∧ (0 : Int) ≤ (70 : Int) ∧ (70 : Int) ≤ (l.length : Int)) (some (((l.drop (0 : Int).toNat).take ((70 : Int).toNat - (0 : Int).toNat))))) else (some l)) = some (l.take 70) := by
  by_cases h : l.length > 70
  · rw [if_pos (by simp; omega), chk_pos (by omega)]; rfl
  · rw [if_neg (by simp; omega), List.take_of_length_le (by omega)]
theorem right_of {p : batch_Proof} (h : RightP p) : rightP p = true := by
  unfold rightP all32B
  simp only [Bool.and_eq_true, decide_eq_true_eq, List.all_eq_true]
  refine ⟨h.s1, h.s2, h.k1, h.k2, h.lf, ?_, h.nodes, h.leaf32, h.nodes32⟩
  have : ∀ (l : List Int) (last : Int), Rise l → (∀ x ∈ l, last < x ∧ x < p.Size) → riseG p.Size last l = true := by
    intro l
    induction l with
    | nil => intro _ _ _; rfl
    | cons x l ih =>
      intro last hr hb
      obtain ⟨g1, g2⟩ := List.pairwise_cons.1 hr
      unfold riseG
      simp only [Bool.and_eq_true, decide_eq_true_eq]
      exact ⟨(hb x (by simp)).1, (hb x (by simp)).2, ih x g2 fun y hy => ⟨g1 y hy, (hb y (by simp [hy])).2⟩⟩
  exact this _ _ h.rise fun x hx => by have := h.within x hx; omega
theorem pure_BatchProves (x0 : Texts) (x1 : List Int) {w0 z0 w1 z1 : Prop} (_ : w0) (_ : z0) (_ : w1) (_ : z1) : F.law30_BatchProves x0 x1 = some true := by
  obtain ⟨L, m, eL, hL, h32, hm⟩ := leaves_eq x0
  unfold F.law30_BatchProves
  rw [mnew_eq, Option.bind_some, eL, Option.bind_some]
  refine (congrArg (fun o => Option.bind o _) (take70p x1)).trans ?_
  rw [Option.bind_some]
  unfold F.law30_BatchProves.r1
  have hpl : (x1.take 70).length ≤ 70 := by rw [List.length_take]; omega
  generalize x1.take 70 = pick at hpl
  obtain ⟨m1, t1, e1⟩ := prove_eq s32_new (L := L) (pick := pick) m hm hL h32 hpl
  dsimp only
  rw [e1, Option.bind_some]
  by_cases h1 : pick.length < 1 ∨ 64 < pick.length
  · rw [proveR_range h1]
    have hb : (if decide ((pick.length : Int) < 1) then some true else some (decide ((pick.length : Int) > 64))) = some true := by
      rcases h1 with h | h
      · rw [if_pos (by simp; omega)]
      · by_cases h' : pick.length < 1
        · rw [if_pos (by simp; omega)]
        · rw [if_neg (by simp; omega)]; simp; omega
    rw [hb, Option.bind_some]
    unfold F.law30_BatchProves.r2 pp00
    dsimp only
    rw [if_pos rfl, if_pos (by decide), if_pos (by decide), if_pos (by decide), awake]
    rfl
  have hb : (if decide ((pick.length : Int) < 1) then some true else some (decide ((pick.length : Int) > 64))) = some false := by
    rw [if_neg (by simp; omega)]; simp; omega
  rw [hb, Option.bind_some]
  unfold F.law30_BatchProves.r2
  rw [if_neg (by decide), thru_inl]
  unfold F.law30_BatchProves.r3
  dsimp only
  rw [lrising_eq _ _ (by omega), Option.bind_some]
  cases hr : riseG (L.length : Int) (-1) pick with
  | false =>
    rw [proveR_size h1 hr, if_pos (by decide)]
    unfold pp00
    dsimp only
    rw [if_pos (by decide), if_pos (by decide), if_pos (by decide), awake]
    rfl
  | true =>
  rw [proveR_ok h1 hr, if_neg (by decide), thru_inl]
  obtain ⟨g1, g2⟩ := riseG_spec _ hr
  have hL1 : 1 ≤ L.length := by
    cases hpk : pick with
    | nil => rw [hpk] at h1; simp at h1
    | cons x r => have := g2 x (by rw [hpk]; simp); omega
  have hP : P pick 0 L.length = pick := P_all fun x hx => by have := g2 x hx; omega
  have hpk : (pickd pick 0 L).length = pick.length := by unfold pickd; rw [List.length_map, hP]
  have hgl := gath_many [] pick L.length 0 L hL1 (Nat.le_refl _)
  have hml := many_le pick L.length 0 L.length hL1
  unfold F.law30_BatchProves.r4
  dsimp only
  rw [if_neg (by decide), if_neg (by simp), if_neg (by simp), if_neg (by rw [hpk]; simp)]
  obtain ⟨m2, e2, t2⟩ := beside_eq s32_new pick (by omega) L.length 0 L m1 FUEL t1 hL1 (Nat.le_refl _) (by rw [FUEL_eq]; omega) (by omega) (by omega) h32
  rw [show ((0 : Nat) : Int) = 0 from rfl] at e2
  rw [e2, Option.bind_some]
  dsimp only
  rw [same_refl (by omega), Option.bind_some, if_neg (by decide), thru_inl]
  unfold F.law30_BatchProves.r5
  have e3 := iter_count (f := fun (x : Int) => F.law30_BatchProves.l6 (L, m) pick (⟨(L.length : Int), pick, pickd pick 0 L, gath [] pick L.length 0 L⟩, 0, m1) x) (fun i => (i : Int)) (n := pick.length) (r := .inl ()) (fun i hi => by
    obtain ⟨x, hx⟩ : ∃ x, pick[i]? = some x := ⟨pick[i], List.getElem?_eq_getElem hi⟩
    have hxb := g2 x (List.mem_of_getElem? hx)
    obtain ⟨y, hy⟩ : ∃ y, L[x.toNat]? = some y := ⟨L[x.toNat]'(by omega), List.getElem?_eq_getElem (by omega)⟩
    have hy' := at_nat hy
    rw [show ((x.toNat : Nat) : Int) = x by omega] at hy'
    have hz : (pickd pick 0 L)[i]? = some y := by
      unfold pickd
      rw [hP, List.getElem?_map, hx]
      simp [hy]
    unfold F.law30_BatchProves.l6
    dsimp only
    rw [if_pos (by simp; omega), at_nat hx, Option.bind_some, Option.bind_some, if_neg (by simp), at_nat hz, Option.bind_some, Option.bind_some, hy', Option.bind_some, seqB_refl, if_neg (by decide), wadd (by omega)])
    (by
      unfold F.law30_BatchProves.l6
      rw [if_neg (by simp)]) (k := FUEL) (by rw [FUEL_eq]; omega)
  refine (congrArg (fun o => thru o _) e3).trans ?_
  rw [thru_inl]
  unfold F.law30_BatchProves.r7
  dsimp only
  have hq : RightP ⟨(L.length : Int), pick, pickd pick 0 L, gath [] pick L.length 0 L⟩ := ⟨by show (1 : Int) ≤ (L.length : Int); omega, by show (L.length : Int) ≤ 65536; omega, by show 1 ≤ pick.length; omega, by show pick.length ≤ 64; omega, hpk, g1, fun x hx => by have := g2 x hx; show 0 ≤ x ∧ x < (L.length : Int); omega, by show (gath [] pick L.length 0 L).length ≤ 1024; omega, by
    intro s hs
    have hs : s ∈ pickd pick 0 L := hs
    unfold pickd at hs
    rw [hP] at hs
    obtain ⟨x, hx, rfl⟩ := List.mem_map.1 hs
    have hxb := g2 x hx
    rw [show ((0 : Nat) : Int) = 0 from rfl, Int.sub_zero, List.getElem?_eq_getElem (by omega)]
    exact h32 _ (List.getElem_mem _), gath_32 s32_new pick _ _ _ h32⟩
  have hf : Fine ⟨(L.length : Int), pick, pickd pick 0 L, gath [] pick L.length 0 L⟩ := ⟨by show pick.length < _; omega, by show (pickd pick 0 L).length < _; omega, by show (gath [] pick L.length 0 L).length < _; omega⟩
  have hmm : (⟨m2.table_, m2.notes_, (⟨m2.twins_.e0, m2.twins_.e1⟩ : A2_ByteArray), m2.found_, m2.full_, m2.sums_⟩ : mill_Mill) = m2 := rfl
  rw [hmm]
  obtain ⟨_, hroot⟩ := rootP_eq s32_new hf hq m2 t2
  obtain ⟨s, lf', ts, c1, c2⟩ := hroot (by dsimp only; rw [hgl, Int.toNat_natCast])
  dsimp only at c1
  rw [Int.toNat_natCast] at c1
  obtain ⟨ts', c3⟩ := climb_gath [] pick g1 L.length 0 L [] [] hL1 (Nat.le_refl _)
  rw [List.append_nil, List.append_nil, c1] at c3
  have hs : s = tree [] L := by
    have := Option.some.inj c3
    exact congrArg Prod.fst this
  rw [c2, Option.bind_some]
  dsimp only
  rw [if_pos (by decide)]
  obtain ⟨m3, e4, t4⟩ := root7_eq s32_new (L.length + 1) L (runM ts m2) FUEL (by rw [runM_table, t2]) (by omega) (by rw [FUEL_eq]; omega) (by omega) h32
  rw [e4, Option.bind_some, hs]
  dsimp only
  rw [seqB_refl, if_pos rfl, right_eq hf, Option.bind_some, right_of hq, if_pos rfl]
  have e5 := need_eq pick g1 (by omega) L.length 0 L.length FUEL hL1 (Nat.le_refl _) (by rw [FUEL_eq]; omega) (by omega)
  rw [hP, show ((0 : Nat) : Int) = 0 from rfl] at e5
  unfold F.batch_Need
  rw [e5, Option.bind_some, Option.bind_some, hgl, if_pos (by simp), awake]
  rfl
end Go.Proofs.Ytoamnhmdhficiaa
