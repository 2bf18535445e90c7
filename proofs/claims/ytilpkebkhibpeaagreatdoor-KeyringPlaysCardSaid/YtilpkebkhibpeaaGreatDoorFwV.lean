/- Rounds over a map of the call's own, in whichever order. -/
import Derived.Test.YtilpkebkhibpeaaGreatDoorFwU
import Derived.Test.YtilpkebkhibpeaaGreatDoorFwT
import Derived.Maps.RangeRun
namespace Go.Fw
set_option linter.all false
open Go Go.RowKit Go.MapKept Go.ChangeMaps

section
variable {P : Program} {kt vt T : TypeId} {κ ν : Type} [DecidableEq κ] {kf : κ → Value} {vf : ν → Value}

/-- which entry the round has -/
def curOk (kf : κ → Value) (vf : ν → Value) (es : List MapEntry) (seen : Array Nat) (c0 clock : Nat) : Option (κ × ν) → Prop
  | none => True
  | some p => ∃ (e : MapEntry) (seen' : Array Nat), seen = seen'.push e.born ∧ e ∈ es ∧ e.key = kf p.1 ∧ e.val = vf p.2 ∧ c0 = clock
/-- A MAP THAT IS RANGED OVER: what it holds, what is left to come, which entry the round has -/
def mrg (kf : κ → Value) (vf : ν → Value) (b r : Nat) (l left : List (κ × ν)) (cur : Option (κ × ν)) : HP := fun h =>
  ∃ es clock since seen c0, h b = some (.map es clock) ∧ h r = some (.mapIter (some b) since seen c0) ∧ b ≠ r ∧ ment kf vf es.toList l ∧ Stamped es clock ∧ since ≤ c0 ∧ since ≤ clock ∧ (∀ x ∈ es.toList, x.born < since) ∧
    ment kf vf (leftOf es seen).toList left ∧ curOk kf vf es.toList seen c0 clock cur

theorem left_nil (es : Array MapEntry) : leftOf es #[] = es := by
  unfold leftOf
  refine Array.filter_eq_self.2 fun e _ => by simp
theorem ment_keys {es : List MapEntry} {l : List (κ × ν)} (h : ment kf vf es l) (hn : (es.map (·.key)).Nodup) : (l.map Prod.fst).Nodup := by
  have : es.map (·.key) = (l.map Prod.fst).map kf := by
    have := congrArg (List.map Prod.fst) h
    simpa [List.map_map, Function.comp_def] using this
  rw [this] at hn
  rw [List.nodup_iff_pairwise_ne, List.pairwise_map] at hn
  rw [List.nodup_iff_pairwise_ne]
  exact hn.imp fun h e => h (by rw [e])
theorem map_keys {w0 : World} {H : List HP} {k b : Nat} {l : List (κ × ν)} {w : World} (hk : H[k]? = some (mpo kf vf b l)) (hs : SAT w0 H w) : (l.map Prod.fst).Nodup := by
  obtain ⟨es, clock, _, he, hst⟩ := map_in hk hs.1
  exact ment_keys he hst.2.2
theorem mrg_in {H : List HP} {k b r : Nat} {l left : List (κ × ν)} {cur : Option (κ × ν)} {w : World} (hk : H[k]? = some (mrg kf vf b r l left cur)) (hs : Sat H (hp w)) :
    ∃ es clock since seen c0, hp w b = some (.map es clock) ∧ hp w r = some (.mapIter (some b) since seen c0) ∧ b ≠ r ∧ ment kf vf es.toList l ∧ Stamped es clock ∧ since ≤ c0 ∧ since ≤ clock ∧ (∀ x ∈ es.toList, x.born < since) ∧
    ment kf vf (leftOf es seen).toList left ∧ curOk kf vf es.toList seen c0 clock cur := by
  obtain ⟨h, h1, ⟨es, clock, since, seen, c0, h2, h3, h4⟩, _⟩ := sat_at hk hs
  exact ⟨es, clock, since, seen, c0, h1 b _ h2, h1 r _ h3, h4⟩

variable {ops : Array Oper} {Q : Exit → Act → World → Prop} {i n : Nat} {L : Slots} {o : Oper} {w0 : World} {H : List HP} {K : Act → World → Prop}

theorem pw_range (k : Nat) {b : Nat} {l : List (κ × ν)} {t : TypeId} {x : Operand} (ho : ops[i]? = some o) (hop : o.op = .range t x) (hd : dstOk n o.dst = true) (hw : wantedL ops L o = some true) (hkn : knows L o = true)
    (ht : mapOf P t = some (kt, vt)) (hx : rho L x = .map (some b)) (hk : H[k]? = some (mpo kf vf b l))
    (h : ∀ r : Nat, NW K n (putL o.dst (.pointer (some ⟨r, 0, none⟩)) L) (SAT w0 (H.set k (mrg kf vf b r l l none)))) : PW P ops Q i n L (SAT w0 H) K := by
  refine pw_run (S' := fun u w => ∃ r, u = .pointer (some ⟨r, 0, none⟩) ∧ SAT w0 (H.set k (mrg kf vf b r l l none)) w) ho hd hw hkn (fun w hs => ?_) fun u a w hf hs => by obtain ⟨r, rfl, hs⟩ := hs; exact h r a w hf hs
  obtain ⟨es, clock, hg, he, hst⟩ := map_in hk hs.1
  have hu := mapOf_spec ht
  refine ⟨_, w.alloc (.mapIter (some b) clock #[] clock), ?_, w.heap.size, rfl, ?_, hs.2.trans ⟨rfl, rfl, rfl⟩⟩
  · have := run_range_map (P := P) w t kt vt b es clock hu hg
    simp [execOp, hop, hx, this, Result.andThen_ok]
  · refine sat_set hk hs.1 fun hh hsub hm => ?_
    obtain ⟨es', clock', h1, h2, h3⟩ := hm
    have hbn : hh w.heap.size = none := by
      cases hc : hh w.heap.size with
      | none => rfl
      | some o' => have := hsub _ _ hc; rw [hp_size] at this; cases this
    have hne : b ≠ w.heap.size := by intro e; rw [e, hbn] at h1; cases h1
    refine ⟨hh.upd w.heap.size (.mapIter (some b) clock #[] clock), ?_, ⟨es', clock', clock, #[], clock, ?_, ?_, hne, h2, h3, Nat.le_refl _, ?_, ?_, by rw [left_nil]; exact h2, trivial⟩, ?_⟩
    · intro c o' e
      rw [hp_alloc]
      unfold Hl.upd at e ⊢
      by_cases hc : c = w.heap.size
      · rw [if_pos hc] at e ⊢; exact e
      · rw [if_neg hc] at e ⊢; exact hsub c o' e
    · unfold Hl.upd; rw [if_neg hne]; exact h1
    · unfold Hl.upd; rw [if_pos rfl]
    · have := hsub b _ h1; rw [hg] at this; cases this; exact Nat.le_refl _
    · have := hsub b _ h1; rw [hg] at this; cases this; exact hst.1
    · intro c o' e1 e2
      have hc : c ≠ w.heap.size := by intro hc; subst hc; rw [hp_size] at e1; cases e1
      rw [hp_alloc]
      unfold Hl.upd
      rw [if_neg hc, if_neg hc]
      exact ⟨e1, e2⟩

theorem left_push {es : Array MapEntry} {seen : Array Nat} {e : MapEntry} (he : e ∈ (leftOf es seen).toList) (hn : (es.toList.map (·.born)).Nodup) :
    ∃ A B, (leftOf es seen).toList = A ++ e :: B ∧ (leftOf es (seen.push e.born)).toList = A ++ B := by
  have h1 : (leftOf es (seen.push e.born)).toList = (leftOf es seen).toList.filter fun x => !(x.born == e.born) := by
    unfold leftOf
    rw [Array.toList_filter, Array.toList_filter, List.filter_filter]
    refine List.filter_congr fun x _ => ?_
    simp only [Array.contains_push]
    cases seen.contains x.born <;> simp
  have hsub : ((leftOf es seen).toList.map (·.born)).Nodup := by
    unfold leftOf
    rw [Array.toList_filter]
    exact hn.sublist (List.Sublist.map _ List.filter_sublist)
  obtain ⟨A, B, hAB⟩ := List.append_of_mem he
  refine ⟨A, B, hAB, ?_⟩
  rw [h1, hAB]
  rw [hAB] at hsub
  rw [List.map_append, List.map_cons, List.nodup_append] at hsub
  obtain ⟨_, hB, hA⟩ := hsub
  rw [List.nodup_cons] at hB
  rw [List.filter_append, List.filter_cons_of_neg (by simp)]
  congr 1
  · refine List.filter_eq_self.2 fun x hx => ?_
    have := hA x.born (List.mem_map_of_mem hx) e.born (by simp)
    simpa using this
  · refine List.filter_eq_self.2 fun x hx => ?_
    have : x.born ≠ e.born := fun h => hB.1 (by rw [← h]; exact List.mem_map_of_mem hx)
    simpa using this
theorem ment_split {A B : List MapEntry} {e : MapEntry} {l : List (κ × ν)} (h : ment kf vf (A ++ e :: B) l) : ∃ p l', l.Perm (p :: l') ∧ e.key = kf p.1 ∧ e.val = vf p.2 ∧ ment kf vf (A ++ B) l' := by
  unfold ment at h
  rw [List.map_append, List.map_cons] at h
  obtain ⟨l1, l2, rfl, h1, h2⟩ := List.map_eq_append_iff.1 h.symm
  cases l2 with
  | nil => simp at h2
  | cons p l2 =>
    simp only [List.map_cons, List.cons.injEq, Prod.mk.injEq] at h2
    refine ⟨p, l1 ++ l2, List.perm_middle, h2.1.1.symm, h2.1.2.symm, ?_⟩
    unfold ment
    rw [List.map_append, List.map_append, ← h1, ← h2.2]
theorem hp_setBlock {w : World} {r : Nat} {o1 : Obj} (o' : Obj) (hr : hp w r = some o1) : hp (setBlock w r o') = (hp w).upd r o' := by
  have hlt := (Array.getElem?_eq_some_iff.1 hr).1
  funext c
  unfold hp Hl.upd setBlock
  simp only [Array.getElem?_setIfInBounds]
  by_cases h : r = c
  · subst h; simp [hlt]
  · rw [if_neg h, if_neg (fun e => h e.symm)]

theorem pw_next (k : Nat) {b r : Nat} {l left : List (κ × ν)} {cur : Option (κ × ν)} {x : Operand} (ho : ops[i]? = some o) (hop : o.op = .next x false) (hd : dstOk n o.dst = true) (hw : wantedL ops L o = some true) (hkn : knows L o = true)
    (hx : rho L x = .pointer (some ⟨r, 0, none⟩)) (hk : H[k]? = some (mrg kf vf b r l left cur))
    (h0 : left = [] → NW K n (putL o.dst (.tuple #[.bool false]) L) (SAT w0 H))
    (h1 : ∀ (p : κ × ν) (lft : List (κ × ν)), left.Perm (p :: lft) → NW K n (putL o.dst (.tuple #[.bool true, kf p.1, vf p.2]) L) (SAT w0 (H.set k (mrg kf vf b r l lft (some p))))) : PW P ops Q i n L (SAT w0 H) K := by
  refine pw_run (S' := fun u w => (left = [] ∧ u = .tuple #[.bool false] ∧ SAT w0 H w) ∨ ∃ p lft, left.Perm (p :: lft) ∧ u = .tuple #[.bool true, kf p.1, vf p.2] ∧ SAT w0 (H.set k (mrg kf vf b r l lft (some p))) w) ho hd hw hkn (fun w hs => ?_) fun u a w hf hs => by
    rcases hs with ⟨e, rfl, hs⟩ | ⟨p, lft, e, rfl, hs⟩
    · exact h0 e a w hf hs
    · exact h1 p lft e a w hf hs
  obtain ⟨es, clock, since, seen, c0, g1, g2, g3, g4, g5, g6, g7, g8, g9, g10⟩ := mrg_in hk hs.1
  rcases run_next_at (P := P) w o.type r b since c0 seen es clock g2 g1 g8 g6 with ⟨e1, e2⟩ | ⟨e, he, w1, hw1, e2⟩
  · refine ⟨_, w, by simp [execOp, hop, hx, e2, Result.andThen_ok], .inl ⟨?_, rfl, hs⟩⟩
    have := ment_length g9
    rw [Array.length_toList, e1] at this
    exact List.length_eq_zero_iff.1 this.symm
  · obtain ⟨A, B, hAB, hAB2⟩ := left_push he g5.2.1
    rw [hAB] at g9
    obtain ⟨p, lft, hp1, hp2, hp3, hp4⟩ := ment_split g9
    have hhp : hp w1 = hp w := by rcases hw1 with rfl | rfl <;> rfl
    have hkp : Keep w w1 := by rcases hw1 with rfl | rfl <;> exact ⟨rfl, rfl, rfl⟩
    refine ⟨.tuple #[.bool true, e.key, e.val], setBlock w1 r (.mapIter (some b) since (seen.push e.born) clock), by simp [execOp, hop, hx, e2, Result.andThen_ok], .inr ⟨p, lft, hp1, by rw [hp2, hp3], ?_, hs.2.trans (hkp.trans ⟨rfl, rfl, rfl⟩)⟩⟩
    refine sat_set hk hs.1 fun hh hsub hm => ?_
    obtain ⟨es', clock', since', seen', c0', m1, m2, m3, m4, m5, m6, m7, m8, m9, m10⟩ := hm
    have q1 := hsub b _ m1
    rw [g1] at q1
    cases q1
    have q2 := hsub r _ m2
    rw [g2] at q2
    cases q2
    have hset : hp (setBlock w1 r (.mapIter (some b) since (seen.push e.born) clock)) = (hp w).upd r (.mapIter (some b) since (seen.push e.born) clock) := by
      rw [hp_setBlock _ (by rw [hhp]; exact g2), hhp]
    refine ⟨hh.upd r (.mapIter (some b) since (seen.push e.born) clock), ?_, ⟨es, clock, since, seen.push e.born, clock, ?_, ?_, g3, g4, g5, g7, g7, g8, by rw [hAB2]; exact hp4, ⟨e, seen, rfl, ?_, hp2, hp3, rfl⟩⟩, ?_⟩
    · intro c o' e'
      rw [hset]
      unfold Hl.upd at e' ⊢
      by_cases hc : c = r
      · rw [if_pos hc] at e' ⊢; exact e'
      · rw [if_neg hc] at e' ⊢; exact hsub c o' e'
    · unfold Hl.upd; rw [if_neg g3]; exact m1
    · unfold Hl.upd; rw [if_pos rfl]
    · have := he
      unfold leftOf at this
      rw [Array.toList_filter] at this
      exact (List.mem_filter.1 this).1
    · intro c o' e1 e2'
      have hc : c ≠ r := by intro hc; subst hc; rw [m2] at e2'; cases e2'
      rw [hset]
      unfold Hl.upd
      rw [if_neg hc, if_neg hc]
      exact ⟨e1, e2'⟩

theorem q_entry (k : Nat) {b r : Nat} {l left : List (κ × ν)} {p : κ × ν} {x : Operand} (hop : o.op = .entry x) (hx : rho L x = .pointer (some ⟨r, 0, none⟩)) (hk : H[k]? = some (mrg kf vf b r l left (some p))) :
    RunIs P (SAT w0 H) L o (.tuple #[kf p.1, vf p.2]) := by
  intro w hs
  obtain ⟨es, clock, since, seen, c0, g1, g2, g3, g4, g5, g6, g7, g8, g9, ⟨e, seen', rfl, he, hk1, hk2, rfl⟩⟩ := mrg_in hk hs.1
  have := run_entry_at (P := P) w r b since seen' es c0 e g2 g1 he g5.2.1
  simp [execOp, hop, hx, this, hk1, hk2, Result.andThen_ok]

theorem leftOf_erase {es : Array MapEntry} {seen : Array Nat} {j : Nat} {e : MapEntry} (hj : es.toList[j]? = some e) (hs : seen.contains e.born = true) : (leftOf (es.eraseIdxIfInBounds j) seen).toList = (leftOf es seen).toList := by
  unfold leftOf
  rw [Array.toList_filter, Array.toList_filter, Array.toList_eraseIdxIfInBounds]
  generalize es.toList = l at hj
  induction l generalizing j with
  | nil => simp at hj
  | cons x l ih =>
    cases j with
    | zero =>
      simp at hj
      subst hj
      rw [List.eraseIdx_cons_zero, List.filter_cons_of_neg (by rw [hs]; decide)]
    | succ j =>
      simp at hj
      rw [List.eraseIdx_cons_succ, List.filter_cons, List.filter_cons, ih hj]
/-- the round's own entry is taken away -/
theorem pw_mapDel_cur (k : Nat) {b r : Nat} {l left : List (κ × ν)} {p : κ × ν} {t t2 : TypeId} {x y : Operand} (MK : MKey P kt kf) (ho : ops[i]? = some o) (hop : o.op = .call { callee := .builtin .delete, args := #[x, y], argTypes := #[t, t2] }) (hd : dstOk n o.dst = true) (hw : wantedL ops L o = some true) (hkn : knows L o = true)
    (ht : mapOf P t = some (kt, vt)) (hx : rho L x = .map (some b)) (hy : rho L y = kf p.1) (hk : H[k]? = some (mrg kf vf b r l left (some p)))
    (h : NW K n (putL o.dst (.tuple #[]) L) (SAT w0 (H.set k (mrg kf vf b r (mdel l p.1) left none)))) : PW P ops Q i n L (SAT w0 H) K := by
  refine pw_run (S' := fun u w => u = .tuple #[] ∧ SAT w0 (H.set k (mrg kf vf b r (mdel l p.1) left none)) w) ho hd hw hkn (fun w hs => ?_) fun u a w hf hs => by obtain ⟨rfl, hs⟩ := hs; exact h a w hf hs
  obtain ⟨es, clock, since, seen, c0, g1, g2, g3, g4, g5, g6, g7, g8, g9, ⟨e, seen', hseen, he, hk1, hk2, hc0⟩⟩ := mrg_in hk hs.1
  have hu := mapOf_spec ht
  rcases run_findKey (vf := vf) MK g4 p.1 w with ⟨u, j, ⟨_, ⟨e', q1, q2⟩, _, q4⟩, q5⟩ | ⟨⟨_, _, _, q0⟩, _⟩
  · have hee : e' = e := by
      have hp := (stamped_iff es clock).1 g5 |>.2.2
      have m1 : e' ∈ es.toList := List.mem_of_getElem? q1
      by_cases hh : e' = e
      · exact hh
      · exfalso
        obtain ⟨a, ha⟩ := List.getElem?_of_mem m1
        obtain ⟨c, hc⟩ := List.getElem?_of_mem he
        have hn : (es.toList.map (·.key)).Nodup := g5.2.2
        have h1 : (es.toList.map (·.key))[a]? = some (kf p.1) := by rw [List.getElem?_map, ha]; simp [q2]
        have h2 : (es.toList.map (·.key))[c]? = some (kf p.1) := by rw [List.getElem?_map, hc]; simp [hk1]
        have hac : a = c := (List.getElem?_inj (by rw [List.length_map]; exact (List.getElem?_eq_some_iff.1 ha).1) hn).1 (by rw [h1, h2])
        subst hac
        rw [ha] at hc
        exact hh (Option.some.inj hc)
    subst hee
    obtain ⟨w', hr, hh, hkp⟩ := hp_setObj (P := P) (.map (es.eraseIdxIfInBounds j) clock) g1
    refine ⟨_, w', by simp [execOp, hop, resolve, invoke, builtin, Builtin.delete_, hx, hy, Sem.run_bind, run_underlying hu w, run_getMap g1, MK.check, q5, hr, Result.andThen_ok], rfl, ?_, hs.2.trans hkp⟩
    refine sat_set hk hs.1 fun hl hsub hm => ?_
    obtain ⟨es', clock', since', seen'', c0', m1, m2, m3, m4, m5, m6, m7, m8, m9, m10⟩ := hm
    have z1 := hsub b _ m1
    rw [g1] at z1
    cases z1
    have z2 := hsub r _ m2
    rw [g2] at z2
    cases z2
    refine ⟨hl.upd b (.map (es.eraseIdxIfInBounds j) clock), ?_, ⟨es.eraseIdxIfInBounds j, clock, since, seen, c0, ?_, ?_, g3, by rw [Array.toList_eraseIdxIfInBounds]; exact q4, stamped_erase g5 _, g6, g7, ?_, ?_, trivial⟩, ?_⟩
    · intro c o' e1
      rw [hh]
      unfold Hl.upd at e1 ⊢
      by_cases hc : c = b
      · rw [if_pos hc] at e1 ⊢; exact e1
      · rw [if_neg hc] at e1 ⊢; exact hsub c o' e1
    · unfold Hl.upd; rw [if_pos rfl]
    · unfold Hl.upd; rw [if_neg (fun e => g3 e.symm)]; exact m2
    · intro x hx'
      rw [Array.toList_eraseIdxIfInBounds] at hx'
      exact g8 x (List.mem_of_mem_eraseIdx hx')
    · rw [leftOf_erase q1 (by rw [hseen]; simp)]; exact g9
    · intro c o' e1 e2
      have hc : c ≠ b := by intro hc; subst hc; rw [m1] at e2; cases e2
      rw [hh]; unfold Hl.upd; rw [if_neg hc, if_neg hc]; exact ⟨e1, e2⟩
  · exact absurd hk1 (q0 e he)

theorem mrg_keys {k b r : Nat} {l left : List (κ × ν)} {cur : Option (κ × ν)} {w : World} (hk : H[k]? = some (mrg kf vf b r l left cur)) (hs : SAT w0 H w) : (l.map Prod.fst).Nodup := by
  obtain ⟨es, clock, since, seen, c0, g1, g2, g3, g4, g5, _⟩ := mrg_in hk hs.1
  exact ment_keys g4 g5.2.2
/-- the rounds are over -/
theorem sat_mrg_end {k b r : Nat} {l left : List (κ × ν)} {cur : Option (κ × ν)} {w : World} (hk : H[k]? = some (mrg kf vf b r l left cur)) (hs : SAT w0 H w) : SAT w0 (H.set k (mpo kf vf b l)) w := by
  refine ⟨sat_set hk hs.1 fun h hsub ⟨es, clock, since, seen, c0, h1, _, _, h4, h5, _⟩ => ⟨h, hsub, ⟨es, clock, h1, h4, h5⟩, fun _ _ e1 e2 => ⟨e1, e2⟩⟩, hs.2⟩
theorem sat_mrg_none {k b r : Nat} {l left : List (κ × ν)} {cur : Option (κ × ν)} {w : World} (hk : H[k]? = some (mrg kf vf b r l left cur)) (hs : SAT w0 H w) : SAT w0 (H.set k (mrg kf vf b r l left none)) w := by
  refine ⟨sat_set hk hs.1 fun h hsub ⟨es, clock, since, seen, c0, h1, h2, h3, h4, h5, h6, h7, h8, h9, _⟩ => ⟨h, hsub, ⟨es, clock, since, seen, c0, h1, h2, h3, h4, h5, h6, h7, h8, h9, trivial⟩, fun _ _ e1 e2 => ⟨e1, e2⟩⟩, hs.2⟩
end

/-! ### rounds, as a function -/
def mloop {σ α : Type} (f : α → σ → Option σ) : List α → σ → Option σ
  | [], s => some s
  | p :: l, s => (f p s).bind (mloop f l)
theorem mloop_app {σ α : Type} (f : α → σ → Option σ) : ∀ (l l' : List α) (s : σ), mloop f (l ++ l') s = (mloop f l s).bind (mloop f l')
  | [], _, _ => rfl
  | p :: l, l', s => by
    show (f p s).bind (mloop f (l ++ l')) = ((f p s).bind (mloop f l)).bind (mloop f l')
    cases f p s with
    | none => rfl
    | some t => exact mloop_app f l l' t
theorem mloop_snoc {σ α : Type} {f : α → σ → Option σ} {l : List α} {p : α} {s t u : σ} (h : mloop f l s = some t) (h2 : f p t = some u) : mloop f (l ++ [p]) s = some u := by
  rw [mloop_app, h]
  show (f p t).bind _ = _
  rw [h2]; rfl
/-- what has been done, and what is to come: the next round goes well -/
theorem mloop_step {σ α : Type} {f : α → σ → Option σ} {l done lft : List α} {p : α} {s t : σ} (hall : ∀ l', l'.Perm l → ∃ v, mloop f l' s = some v) (hd : mloop f done s = some t) (hp : (done ++ (p :: lft)).Perm l) : ∃ u, f p t = some u := by
  obtain ⟨v, hv⟩ := hall _ hp
  rw [mloop_app, hd] at hv
  cases hf : f p t with
  | some u => exact ⟨u, rfl⟩
  | none =>
    have hv : (f p t).bind (mloop f lft) = some v := hv
    rw [hf] at hv; cases hv
/-- rounds that may change places -/
theorem mloop_perm {σ α : Type} {f : α → σ → Option σ} {D : α → α → Prop} (hD : ∀ a b, D a b → D b a) (hc : ∀ a b s, D a b → (f a s).bind (f b) = (f b s).bind (f a)) {l l' : List α} (h : l.Perm l') : l.Pairwise D → ∀ s, mloop f l s = mloop f l' s := by
  induction h with
  | nil => exact fun _ _ => rfl
  | cons x h ih =>
    intro hp s
    rw [List.pairwise_cons] at hp
    unfold mloop
    cases f x s with
    | none => rfl
    | some t => exact ih hp.2 t
  | swap x y l =>
    intro hp s
    rw [List.pairwise_cons, List.pairwise_cons] at hp
    have := hc x y s (hD _ _ (hp.1 x (by simp)))
    unfold mloop
    have e : ∀ (a b : α), (f a s).bind (mloop f (b :: l)) = ((f a s).bind (f b)).bind (mloop f l) := by
      intro a b
      cases f a s <;> rfl
    rw [e, e, this]
  | trans h1 h2 ih1 ih2 =>
    intro hp s
    rw [ih1 hp s, ih2 (hp.perm h1 (fun {a b} h => hD a b h)) s]
theorem map_fst_pair {κ ν : Type} {l : List (κ × ν)} (h : (l.map Prod.fst).Nodup) : l.Pairwise fun a b => a.1 ≠ b.1 := by
  rw [List.nodup_iff_pairwise_ne, List.pairwise_map] at h
  exact h
theorem at_set_none {α : Type} {s : List α} {i : Nat} {v : α} {j : Int} (h : at_ s j = none) : at_ (s.set i v) j = none := by
  unfold at_ at *
  split
  · rename_i hj
    rw [if_pos hj] at h
    rw [List.getElem?_eq_none_iff] at h ⊢
    rw [List.length_set]; exact h
  · rfl
theorem at_set_some {α : Type} {s : List α} {i : Nat} {v : α} {j : Int} {y : α} (h : at_ s j = some y) : ∃ z, at_ (s.set i v) j = some z := by
  cases hz : at_ (s.set i v) j with
  | some z => exact ⟨z, rfl⟩
  | none =>
    exfalso
    unfold at_ at *
    split at hz
    · rename_i hj
      rw [if_pos hj] at h
      rw [List.getElem?_eq_none_iff, List.length_set] at hz
      rw [List.getElem?_eq_none hz] at h
      cases h
    · rename_i hj
      rw [if_neg hj] at h; cases h
theorem mdel_comm {κ ν : Type} [DecidableEq κ] : ∀ (l : List (κ × ν)) (a b : κ), mdel (mdel l a) b = mdel (mdel l b) a
  | [], _, _ => rfl
  | p :: l, a, b => by
    by_cases ha : a = p.1
    · by_cases hb : b = p.1
      · rw [ha, hb]
      · have e1 : mdel (p :: l) a = l := if_pos ha
        have e2 : mdel (p :: l) b = p :: mdel l b := if_neg hb
        rw [e1, e2]
        exact (if_pos ha).symm
    · by_cases hb : b = p.1
      · have e1 : mdel (p :: l) a = p :: mdel l a := if_neg ha
        have e2 : mdel (p :: l) b = l := if_pos hb
        rw [e1, e2]
        exact if_pos hb
      · have e1 : mdel (p :: l) a = p :: mdel l a := if_neg ha
        have e2 : mdel (p :: l) b = p :: mdel l b := if_neg hb
        rw [e1, e2]
        have e3 : mdel (p :: mdel l a) b = p :: mdel (mdel l a) b := if_neg hb
        have e4 : mdel (p :: mdel l b) a = p :: mdel (mdel l b) a := if_neg ha
        rw [e3, e4, mdel_comm l a b]
end Go.Fw
