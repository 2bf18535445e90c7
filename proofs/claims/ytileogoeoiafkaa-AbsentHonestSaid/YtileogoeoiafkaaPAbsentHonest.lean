/- AbsentHonest in plain words: neighbours in a list in order. -/
import Derived.Test.YtileogoeoiafkaaPWayUp
import Derived.Test.YtileogoeoiafkaaPFew24
import Derived.Test.YtileogoeoiafkaaPAwake24
import Derived.Test.YtileogoeoiafkaaGHonest
namespace Go.Proofs.Ytileogoeoiafkaa
set_option linter.all false
open Go Go.RowKit Go.Fw
set_option maxRecDepth 100000
attribute [local irreducible] FUEL
theorem clim_length (T : Tab) (s : ByteArray) (i n : Int) (p : Texts) : (clim T s i n p).2.2.length ≤ p.length := by
  have := cl_length T s p.reverse i.toNat n.toNat
  rw [List.length_reverse] at this
  unfold clim
  repeat' split
  all_goals first | exact Nat.zero_le _ | exact this
theorem standA_length (T : Tab) (root : ByteArray) (size : Int) (s : absent_Side) : (standA T root size s).2.length ≤ s.Path.length + 1 := by
  have := clim_length T (idL T s.ID) s.Index size s.Path
  unfold standA
  repeat' split
  all_goals first | exact Nat.zero_le _ | (dsimp only; rw [List.length_cons]; omega)
theorem sidesA_length (T : Tab) (root : ByteArray) (size : Int) : ∀ (l : List absent_Side), (∀ s ∈ l, s.Path.length ≤ 30) → (sidesA T root size l).2.length ≤ l.length * 31
  | [], _ => Nat.zero_le _
  | s :: l, h => by
    have h1 := standA_length T root size s
    have h2 := sidesA_length T root size l fun z hz => h z (List.mem_cons_of_mem _ hz)
    have h3 := h s (List.mem_cons_self ..)
    unfold sidesA
    rw [List.length_cons]
    split
    · omega
    · dsimp only
      rw [List.length_append]; omega
theorem chkA_length (T : Tab) (root : ByteArray) (size : Int) (id : ByteArray) {p : absent_Proof} (h : ∀ s ∈ p.Sides, s.Path.length ≤ 30) : (chkA T root size id p).2.2.length ≤ p.Sides.length * 31 + 1 := by
  have h1 := sidesA_length T root size p.Sides h
  have h0 : (pre0 size).length ≤ 1 := by unfold pre0; split <;> simp
  unfold chkA
  repeat' split
  all_goals first | exact Nat.zero_le _ | (dsimp only; rw [List.length_append]; omega) | (dsimp only; rw [List.length_singleton]; omega)
theorem sidesA_all {T : Tab} {root : ByteArray} {size : Int} : ∀ {l : List absent_Side}, (sidesA T root size l).1 = 0 → ∀ s ∈ l, (standA T root size s).1 = 0 ∧ ∀ x ∈ (standA T root size s).2, x ∈ (sidesA T root size l).2
  | [], _, s, hs => by cases hs
  | a :: l, h, s, hs => by
    unfold sidesA at h ⊢
    by_cases h0 : (standA T root size a).1 = 0
    · rw [if_neg (by simpa using h0)] at h ⊢
      dsimp only at h ⊢
      rcases List.mem_cons.1 hs with rfl | hs
      · exact ⟨h0, fun x hx => List.mem_append_left _ hx⟩
      · obtain ⟨g1, g2⟩ := sidesA_all h s hs
        exact ⟨g1, fun x hx => List.mem_append_right _ (g2 x hx)⟩
    · rw [if_pos h0] at h
      exact absurd h h0
/-- a side that stands by an honest root: its ID is the list's at its place -/
theorem stands_at {T : Tab} (hT : S32 T) {t : Texts} (ht : ∀ x ∈ t, idB x = true) {s : absent_Side} {S : Texts} (hS : ∀ u ∈ S, ∀ v ∈ S, sumB T u = sumB T v → u = v) (h1 : ∀ x ∈ t, idT x ∈ S) (h2 : ∀ x ∈ treeX T (t.map (idL T)), x ∈ S)
    (h3 : ∀ x ∈ (standA T (tree T (t.map (idL T))) (t.length : Int) s).2, x ∈ S) (h : (standA T (tree T (t.map (idL T))) (t.length : Int) s).1 = 0) : 0 ≤ s.Index ∧ t[s.Index.toNat]? = some s.ID := by
  unfold standA at h h3
  cases hid : idB s.ID with
  | false => rw [if_pos hid] at h; cases h
  | true =>
  rw [if_neg (by rw [hid]; decide)] at h h3
  by_cases hc : (clim T (idL T s.ID) s.Index (t.length : Int) s.Path).2.1 = 0
  · rw [if_neg (by simpa using hc)] at h h3
    by_cases hr : (clim T (idL T s.ID) s.Index (t.length : Int) s.Path).1 = tree T (t.map (idL T))
    · rw [if_neg (by simpa using hr)] at h3
      obtain ⟨c1, c2, c3, c4, c5, c6, c7, c8, c9⟩ := clim_32 hc
      rw [c9] at hr h3
      dsimp only at hr h3
      have hl : (t.map (idL T)).length = ((t.length : Int)).toNat := by rw [List.length_map]; omega
      rw [← hl] at c8 hr h3
      have hw := way_up hT c6 s.Path.reverse s.Index.toNat (t.map (idL T)) (idL_32 hT) (by rw [List.length_map]; omega) c8 hr (fun u hu v hv => hS u (h3 u (List.mem_cons_of_mem _ hu)) v (h2 v hv))
      rw [List.getElem?_map, Option.map_eq_some_iff] at hw
      obtain ⟨x, hx, he⟩ := hw
      have hxt := List.mem_of_getElem? hx
      have := hS _ (h1 x hxt) _ (h3 (idT s.ID) (List.mem_cons_self ..)) he
      rw [← idT_inj (ht x hxt) hid this]
      exact ⟨by omega, hx⟩
    · rw [if_pos hr] at h; cases h
  · rw [if_pos hc] at h; cases h
theorem sorted_at {t : Texts} (ht : t.Pairwise Lt) {i j : Nat} {u v : ByteArray} (hi : t[i]? = some u) (hj : t[j]? = some v) (h : Lt u v) : i < j := by
  obtain ⟨h1, e1⟩ := List.getElem?_eq_some_iff.1 hi
  obtain ⟨h2, e2⟩ := List.getElem?_eq_some_iff.1 hj
  apply Classical.byContradiction
  intro hn
  by_cases he : i = j
  · subst he
    rw [e1] at e2
    exact h.ne e2
  · have := List.pairwise_iff_getElem.1 ht j i h2 h1 (by omega)
    rw [e1, e2] at this
    exact h.asymm this
theorem honest {T : Tab} (hT : S32 T) {l t : Texts} (ht : IsTidy l t) (htl : t.length ≤ 800) {id : ByteArray} {p : absent_Proof} {S : Texts} (hS : ∀ u ∈ S, ∀ v ∈ S, sumB T u = sumB T v → u = v) (h1 : ∀ x ∈ t, idT x ∈ S) (h2 : ∀ x ∈ treeX T (t.map (idL T)), x ∈ S)
    (h3 : ∀ x ∈ (chkA T (tree T (t.map (idL T))) (t.length : Int) id p).2.2, x ∈ S) (h : (chkA T (tree T (t.map (idL T))) (t.length : Int) id p).2.1 = 0) : (chkA T (tree T (t.map (idL T))) (t.length : Int) id p).1 = true ↔ id ∈ l := by
  have hid' : ∀ x ∈ t, idB x = true := fun x hx => ((ht.mem x).1 hx).2
  unfold chkA at h h3 ⊢
  cases hid : idB id with
  | false => rw [if_pos hid] at h; cases h
  | true =>
  have hmem : id ∈ l ↔ id ∈ t := by rw [ht.mem]; exact ⟨fun h => ⟨h, hid⟩, fun h => h.1⟩
  rw [hmem]
  have hne : ¬ idB id = false := by rw [hid]; decide
  rw [if_neg hne] at h h3
  rw [if_neg (show ¬ true = false by decide)]
  by_cases g1 : p.Size ≠ (t.length : Int) ∨ (t.length : Int) < 0 ∨ (t.length : Int) > 65536 ∨ p.Sides.length > 2
  · rw [if_pos g1] at h; cases h
  rw [if_neg g1] at h h3 ⊢
  have hsz : p.Size = (t.length : Int) := Classical.byContradiction fun h => g1 (.inl h)
  by_cases g2 : (t.length : Int) = 0 ∧ tree T (t.map (idL T)) ≠ sumB T b0
  · rw [if_pos g2] at h; cases h
  rw [if_neg g2] at h h3 ⊢
  by_cases g3 : (sidesA T (tree T (t.map (idL T))) (t.length : Int) p.Sides).1 = 0
  · rw [if_neg (by simpa using g3)] at h h3 ⊢
    have hall := sidesA_all g3
    have hat : (∀ x ∈ (sidesA T (tree T (t.map (idL T))) (t.length : Int) p.Sides).2, x ∈ S) → ∀ s ∈ p.Sides, 0 ≤ s.Index ∧ t[s.Index.toNat]? = some s.ID := fun hsub s hs => stands_at hT hid' hS h1 h2 (fun x hx => hsub x ((hall s hs).2 x hx)) (hall s hs).1
    by_cases g4 : isOne p id = true
    · rw [if_pos g4] at h3 ⊢
      have hat := hat fun x hx => h3 x (List.mem_append_right _ hx)
      unfold isOne at g4
      rcases hs : p.Sides with _ | ⟨a, _ | ⟨b, r⟩⟩
      · rw [hs] at g4; cases g4
      · rw [hs] at g4 hat
        obtain ⟨_, ha⟩ := hat a (List.mem_cons_self ..)
        have ea : a.ID = id := seqB_iff.1 g4
        rw [ea] at ha
        exact ⟨fun _ => List.mem_of_getElem? ha, fun _ => rfl⟩
      · rw [hs] at g4; cases g4
    rw [if_neg g4] at h h3 ⊢
    by_cases g5 : betw p id = true
    · rw [if_pos g5] at h3 ⊢
      have hat := hat fun x hx => h3 x (List.mem_append_right _ hx)
      refine ⟨(fun h => by cases h), fun hm => ?_⟩
      exfalso
      obtain ⟨j, hj⟩ := List.getElem?_of_mem hm
      have hjl := lt_of_get hj
      unfold betw at g5
      rcases hs : p.Sides with _ | ⟨a, _ | ⟨b, r⟩⟩
      · rw [hs, hsz] at g5
        have := of_decide_eq_true g5
        omega
      · rw [hs, hsz] at g5
        rw [hs] at hat
        dsimp only at g5
        obtain ⟨a0, ha⟩ := hat a (List.mem_cons_self ..)
        have hal := lt_of_get ha
        rw [sltB_dec, seqB_dec, w64 (n := (t.length : Int) - 1) (by omega) (by omega)] at g5
        by_cases q1 : Lt a.ID id
        · have hlt := sorted_at ht.sorted ha hj q1
          simp [q1] at g5
          omega
        · by_cases q2 : a.ID = id
          · simp [q1, q2] at g5
            rw [← q2] at g5
            exact Lt.irrefl _ g5.1
          · have q3 : Lt id a.ID := Classical.byContradiction fun h => q2 (Lt.total q1 h)
            have hlt := sorted_at ht.sorted hj ha q3
            simp [q1, q2] at g5
            omega
      · rw [hs] at g5 hat
        dsimp only at g5
        obtain ⟨a0, ha⟩ := hat a (List.mem_cons_self ..)
        obtain ⟨b0', hb⟩ := hat b (List.mem_cons_of_mem _ (List.mem_cons_self ..))
        have hal := lt_of_get ha
        have hbl := lt_of_get hb
        rw [sltB_dec, sltB_dec, w64 (n := b.Index - 1) (by omega) (by omega)] at g5
        simp only [Bool.and_eq_true, decide_eq_true_eq, beq_iff_eq] at g5
        obtain ⟨q1, q2, q3⟩ := g5
        have k1 := sorted_at ht.sorted ha hj q1
        have k2 := sorted_at ht.sorted hj hb q2
        omega
    · rw [if_neg g5] at h; cases h
  · rw [if_pos g3] at h
    exact absurd h g3
theorem there_eq (l : Texts) (id : ByteArray) (hl : l.length ≤ 800) : ∃ b, iter (fun x => F.law24_AbsentHonest.l2 id l x.1 x.2) FUEL (false, 0) = some b ∧ (b = true ↔ id ∈ l) := by
  have h := iter_up (f := fun x : Bool × Int => F.law24_AbsentHonest.l2 id l x.1 x.2) l.length (fun i x => x.2 = (i : Int) ∧ (x.1 = true ↔ id ∈ l.take i)) (fun b => b = true ↔ id ∈ l)
    (fun i x hi hx => by
      obtain ⟨b, j⟩ := x
      obtain ⟨rfl, hb⟩ := hx
      dsimp only at hb
      have hy : l[i]? = some l[i] := List.getElem?_eq_getElem hi
      have ht : l.take (i + 1) = l.take i ++ [l[i]] := by rw [List.take_succ, hy]; rfl
      left
      dsimp only
      unfold F.law24_AbsentHonest.l2
      rw [if_pos (by apply decide_eq_true; omega), w64 (n := (i : Int) + 1) (by omega) (by omega)]
      cases b with
      | true =>
        rw [if_pos rfl]
        refine ⟨_, rfl, rfl, ?_⟩
        dsimp only
        rw [ht]
        exact ⟨fun _ => List.mem_append_left _ (hb.1 rfl), fun _ => rfl⟩
      | false =>
        rw [if_neg (by decide), at_nat hy, Option.bind_some]
        refine ⟨_, rfl, rfl, ?_⟩
        dsimp only
        rw [ht, seqB_dec, List.mem_append, List.mem_singleton, decide_eq_true_eq]
        constructor
        · intro h; exact .inr h.symm
        · rintro (h | h)
          · have := hb.2 h; cases this
          · exact h.symm)
    (fun x hx => by
      obtain ⟨b, j⟩ := x
      obtain ⟨rfl, hb⟩ := hx
      rw [List.take_length] at hb
      refine ⟨b, ?_, hb⟩
      dsimp only
      unfold F.law24_AbsentHonest.l2
      rw [if_neg (by simp)]) (s0 := (false, 0)) ⟨rfl, by simp⟩ (k := FUEL) (by rw [FUEL_eq]; omega)
  exact h
theorem take10 {α : Type} (l : List α) : (if decide ((l.length : Int) > 10) then (chk (0 ≤ (0 : Int) ∧ (0 : Int) ≤ (10 : Int) ∧ (10 : Int) ≤ (l.length : Int)) (some (((l.drop (0 : Int).toNat).take ((10 : Int).toNat - (0 : Int).toNat))))) else (some l)) = some (l.take 10) := by
  by_cases h : l.length > 10
  · rw [if_pos (by simp; omega), chk_pos (by omega)]; rfl
  · rw [if_neg (by simp; omega), List.take_of_length_le (by omega)]
theorem pure_AbsentHonest (x0 : List mill_Entry) (l0 : Texts) (id : ByteArray) (p0 : absent_Proof) {k0 : Nat} {w0 w1 z1 w2 z2 w3 z3 : Prop} (_ : w0) (z0 : ∀ n ∈ (x0.length * k0 :: x0.flatMap fun y => (([] : List Nat) ++ [y.Key.size] ++ [y.Text.size] ++ [y.Out.size])), n ≤ 140737488351232)
    (_ : w1) (_ : z1) (_ : w2) (_ : z2) (_ : w3) (_ : z3) : F.law24_AbsentHonest x0 l0 id p0 = some true := by
  unfold F.law24_AbsentHonest
  refine (congrArg (fun o => Option.bind o _) (take10 x0)).trans ?_
  rw [Option.bind_some]
  unfold F.law24_AbsentHonest.r1
  have hsz : ∀ e ∈ x0.take 10, sizedE e := fun e he => by
    have hm : ∀ n ∈ (([] : List Nat) ++ [e.Key.size] ++ [e.Text.size] ++ [e.Out.size]), n ≤ 140737488351232 := fun n hn => z0 n (List.mem_cons_of_mem _ (List.mem_flatMap.2 ⟨e, List.mem_of_mem_take he, hn⟩))
    exact ⟨hm _ (by simp), hm _ (by simp), hm _ (by simp)⟩
  have hlen : (x0.take 10).length < 1000000000000000000 := by rw [List.length_take]; omega
  generalize x0.take 10 = en at hsz hlen
  rw [with_eq hsz hlen, Option.bind_some]
  cases h32 : all32 en with
  | false =>
    simp only [Bool.false_eq_true, if_false, optC_none]
    rw [awake]; rfl
  | true =>
    simp only [if_true, optC_some]
    have hT : S32 (tabOf en) := sumB_size h32
    generalize tabOf en = T at hT
    have hl := fewL_length l0
    rw [few_eq, Option.bind_some]
    generalize fewL l0 = l at hl
    obtain ⟨h5, hsd⟩ := fewP_sides p0
    obtain ⟨h1, _, h3, h4⟩ := tidyB_eq (l := l) (by omega)
    rw [rootA_eq hT (by omega) ⟨T, [], ⟨b0, b0⟩, false, false, 0⟩ rfl, Option.bind_some, fewP_eq, Option.bind_some]
    dsimp only
    generalize fewP p0 = p at h5 hsd
    generalize htt : tidyB l = t at h3 h4
    rw [check_eq hT (tree T (t.map (idL T))) (t.length : Int) id (p := p) (fun s hs => by have := (hsd s hs).2.1; omega) (by omega) _ (by rw [runM_table, runM_table]), Option.bind_some]
    obtain ⟨b, hb1, hb2⟩ := there_eq l id (by omega)
    refine (congrArg (fun o => Option.bind o _) hb1).trans ?_
    rw [Option.bind_some]
    unfold F.law24_AbsentHonest.r3
    rw [twins_eq, Option.bind_some]
    dsimp only
    generalize hq : chkA T (tree T (t.map (idL T))) (t.length : Int) id p = q
    by_cases hf : q.2.1 = 0
    rotate_left
    · rw [if_pos (by simpa using hf), awake]; rfl
    rw [if_neg (by simpa using hf)]
    by_cases hib : q.1 = b
    · rw [if_pos (by simpa using hib), awake]; rfl
    rw [if_neg (by simpa using hib)]
    -- the texts that were noted
    have hn0 := noted_new T
    have hn1 := Noted.run (t.map idT) hn0 (by rw [List.length_map, List.length_nil]; omega)
    have hx := treeX_length T _ (t.map (idL T)) (Nat.le_refl _)
    rw [List.length_map] at hx
    have hn2 := Noted.run (treeX T (t.map (idL T))) hn1 (by rw [List.length_append, List.length_reverse, List.length_map, List.length_nil]; omega)
    have hc := chkA_length T (tree T (t.map (idL T))) (t.length : Int) id (p := p) fun s hs => (hsd s hs).2.1
    rw [hq] at hc
    have hn3 := Noted.run q.2.2 hn2 (by simp only [List.length_append, List.length_reverse, List.length_map, List.length_nil]; omega)
    generalize runM q.2.2 (runM (treeX T (t.map (idL T))) (runM (t.map idT) ⟨T, [], ⟨b0, b0⟩, false, false, 0⟩)) = m' at hn3
    cases hfound : m'.found_ with
    | true =>
      rw [if_pos rfl, if_pos (by
        have := hn3.twins hfound
        rw [seqB_dec]; simp [this]), awake]; rfl
    | false =>
      exfalso
      apply hib
      have hhon := honest hT h3 (by omega) (id := id) (p := p) (fun u hu v hv he => hn3.apart hfound hu hv he) (fun x hx => by
          simp only [List.mem_append, List.mem_reverse, List.mem_map]
          exact .inr (.inr (.inl ⟨x, hx, rfl⟩))) (fun x hx => by
          simp only [List.mem_append, List.mem_reverse]
          exact .inr (.inl hx)) (fun x hx => by
          rw [hq] at hx
          simp only [List.mem_append, List.mem_reverse]
          exact .inl hx) (by rw [hq]; exact hf)
      rw [hq, ← hb2] at hhon
      exact Bool.eq_iff_iff.2 hhon
end Go.Proofs.Ytileogoeoiafkaa
