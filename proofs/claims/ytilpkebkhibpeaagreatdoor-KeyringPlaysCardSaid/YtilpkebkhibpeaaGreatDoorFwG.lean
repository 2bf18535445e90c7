/- Rows of the call's own: made, appended to, read, stored into. -/
import Derived.Test.YtilpkebkhibpeaaGreatDoorFwF
namespace Go.Fw
set_option linter.all false
open Go Go.RowKit
section
variable {P : Program} {ops : Array Oper} {Q : Exit → Act → World → Prop} {i n : Nat} {L : Slots} {S : World → Prop} {o : Oper} {w0 : World} {H : List HP} {K : Act → World → Prop} {α : Type} {e : Enc α} {E : Nat} {p : Option Addr} {c : Nat} {l : List α} {I : Hl}

theorem own_nil (e : Enc α) (E : Nat) (h : Hl) : own e E none 0 ([] : List α) h := ⟨by simp [Enc.all], by simp, by simp, .inl ⟨rfl, rfl⟩⟩

/-- what a slice's elements are, in a type's table -/
def slOf (P : Program) (t : TypeId) : Option (Nat × Nat) := (P.underlying t).bind fun d => match d with | .slice E => (P.info? E).map fun i => (E, i.size) | _ => none
theorem slOf_spec {t : TypeId} {E sz : Nat} (h : slOf P t = some (E, sz)) : P.underlying t = some (.slice E) ∧ ∃ i, P.info? E = some i ∧ i.size = sz := by
  unfold slOf at h
  cases hu : P.underlying t with
  | none => rw [hu] at h; cases h
  | some d =>
    rw [hu] at h
    cases d <;> first | (cases h; done) | skip
    case slice E' =>
      simp only [Option.bind_some] at h
      cases hi : P.info? E' with
      | none => rw [hi] at h; cases h
      | some inf => rw [hi] at h; simp only [Option.map_some, Option.some.injEq, Prod.mk.injEq] at h; obtain ⟨rfl, rfl⟩ := h; exact ⟨rfl, inf, hi, rfl⟩

theorem own_new {w : World} {cur : Array Value} {fz : Nat × Nat} (c : Nat) (hc : cur.size = c * e.sz) (hm : c ≤ maxLen) (hl : l.length ≤ c) (hs : soft fz cur.size) (ht : cur.toList.take (l.length * e.sz) = e.all l) :
    own e E (some ⟨w.heap.size, 0, none⟩) c l (Hl.one w.heap.size (.cells cur E fz)) :=
  ⟨e.all_length l, hl, hm, .inr ⟨_, cur, fz, rfl, by simp [Hl.one], hs, hc, ht⟩⟩

/-- '[]T{..}', each part told -/
def bsCells (P : Program) (t : TypeId) (len : Nat) (parts : List (Nat × Value)) : Option (Array Value) :=
  match slOf P t with
  | none => none
  | some (E, size) =>
    bif Nat.ble (len * size) (2 ^ 24) then
      match (if len * size = 0 then some #[] else ((P.info? E).bind (·.zero)).map (·.cells)) with
      | none => none
      | some zero => Instr.fill (fun i => some (i * size, size)) ((Array.range (len * size)).map (zero[· % zero.size]!)) parts
    else none
theorem run_buildSlice {t : TypeId} {len : Nat} {parts : Array (Nat × Value)} {E sz : Nat} {cells : Array Value} {w : World} (hsl : slOf P t = some (E, sz)) (h : bsCells P t len parts.toList = some cells) :
    (Instr.buildSlice t len parts).run P w = .ok (.slice (some ⟨w.heap.size, 0, none⟩) len len) (w.alloc (.cells cells E (0, 0))) := by
  obtain ⟨hu, inf, hi, hsz⟩ := slOf_spec hsl
  unfold bsCells at h
  rw [hsl] at h
  simp only at h
  cases hb : Nat.ble (len * sz) (2 ^ 24) with
  | false => rw [hb] at h; cases h
  | true =>
    rw [hb] at h
    have hb : ¬ (16777216 < len * sz) := by have := Nat.le_of_ble_eq_true hb; omega
    simp only [cond_true, hi, Option.bind_some] at h
    by_cases h0 : len * sz = 0
    · rw [if_pos h0] at h
      simp only at h
      simp [Instr.buildSlice, run_underlying hu, sizeOf, typeInfo, hi, hsz, h0] at h ⊢
      rw [h]
      simp [newRow]
    · rw [if_neg h0] at h
      cases hz : inf.zero with
      | none => rw [hz] at h; cases h
      | some z =>
        rw [hz] at h
        simp only [Option.map_some] at h
        simp [Instr.buildSlice, run_underlying hu, sizeOf, typeInfo, zeroValue, hi, hsz, h0, hz, hb] at h ⊢
        rw [h]
        simp [newRow]

theorem pw_buildSlice (e : Enc α) (l : List α) {t : TypeId} {len : Nat} {parts : Array (Nat × Operand)} {cells : Array Value} {sz : Nat} (ho : ops[i]? = some o) (hop : o.op = .buildSlice t len parts) (hd : dstOk n o.dst = true) (hw : wantedL ops L o = some true) (hkn : knows L o = true)
    (hsl : slOf P t = some (E, sz)) (hsz : e.sz = sz) (hc : bsCells P t len (parts.toList.map fun x => (x.1, rho L x.2)) = some cells) (hl : l.length = len) (hle : len ≤ maxLen) (hcl : cells = (e.all l).toArray)
    (h : ∀ p : Option Addr, NW K n (putL o.dst (.slice p l.length len) L) (SAT w0 (own e E p len l :: H))) : PW P ops Q i n L (SAT w0 H) K := by
  subst hsz
  have hcs : cells.size = len * e.sz := by rw [hcl, List.size_toArray, e.all_length, hl]
  refine pw_run (S' := fun u w => ∃ p, u = .slice p l.length len ∧ SAT w0 (own e E p len l :: H) w) ho hd hw hkn (fun w hs => ?_) fun u a w hf hs => by obtain ⟨p, rfl, hs⟩ := hs; exact h p a w hf hs
  refine ⟨.slice (some ⟨w.heap.size, 0, none⟩) len len, w.alloc (.cells cells E (0, 0)), ?_, some ⟨w.heap.size, 0, none⟩, by rw [hl], sat_alloc hs.1 (own_new len hcs hle (by omega) (soft_zero _) ?_), hs.2.trans ⟨rfl, rfl, rfl⟩⟩
  · have := run_buildSlice (P := P) (w := w) (parts := parts.map fun x => (x.1, rho L x.2)) hsl (by rw [Array.toList_map]; exact hc)
    simp only [execOp, hop]
    rw [Sem.run_bind, this]
    rfl
  · rw [hcl, hl, List.take_of_length_le]
    rw [e.all_length, hl]; exact Nat.le_refl _

/-- what an append may append: cells that are there, in every world that is known so -/
def SrcIs (P : Program) (size : Nat) (tx : TypeId) (x : Value) (n : Nat) (news : List Value) (S : World → Prop) : Prop := ∀ w, S w → Src P size tx x n news w

theorem own_cells {h : Hl} {w : World} (hsub : Hl.sub h (hp w)) (ho : own e E p c l h) : ∀ j v, (e.all l)[j]? = some v → ∃ a, p = some a ∧ w.cell? (a.add j) = some v := by
  obtain ⟨hlen, hnc, _, hcase⟩ := ho
  intro j v hj
  rcases hcase with ⟨_, hc0⟩ | ⟨g, cur, fz, rfl, hg, _, _, ht⟩
  · have : (e.all l).length = 0 := by rw [hlen, show l.length = 0 by omega, Nat.zero_mul]
    have := (List.getElem?_eq_some_iff.1 hj).1; omega
  · refine ⟨_, rfl, ?_⟩
    rw [add_lit, cell_of (hsub g _ hg)]
    rw [← ht, List.getElem?_take] at hj
    split at hj
    · simpa using hj
    · cases hj

theorem src_cells {p : Option Addr} {m c : Nat} {xs : List Value} {sz : Nat} {w : World} {tx E' : TypeId} (hk : P.underlying tx = some (.slice E')) (hl : xs.length = m * sz) (h1 : xs.all (·.oneCell') = true) (hp0 : p = none → m = 0)
    (hc : ∀ j v, xs[j]? = some v → ∃ a, p = some a ∧ w.cell? (a.add j) = some v) : Src P sz tx (.slice p m c) m xs w := by
  cases p with
  | none =>
    have := hp0 rfl; subst this
    have : xs = [] := List.eq_nil_of_length_eq_zero (by omega)
    subst this
    exact Src.ofNil w hk c
  | some a =>
    refine Src.ofSlice w hk a m c xs hl (fun j u hj => ?_) (fun u hu => List.all_eq_true.1 h1 u hu)
    obtain ⟨a', ha, hc⟩ := hc j u hj
    cases ha; exact hc

theorem src_own (k : Nat) {tx E' : TypeId} {sz : Nat} (hk : H[k]? = some (own e E p c l)) (htx : P.underlying tx = some (.slice E')) (hsz : e.sz = sz) : SrcIs P sz tx (.slice p l.length c) l.length (e.all l) (SAT w0 H) := by
  subst hsz
  intro w hs
  obtain ⟨h, h1, h2, _⟩ := sat_at hk hs.1
  refine src_cells htx (e.all_length l) (e.all_one l) (fun hp0 => ?_) (own_cells h1 h2)
  obtain ⟨_, hnc, _, hcase⟩ := h2
  rcases hcase with ⟨_, hc0⟩ | ⟨g, cur, fz, hp, _⟩
  · omega
  · rw [hp0] at hp; cases hp
theorem src_ro (k : Nat) {tx E' : TypeId} {sz : Nat} (hk : H[k]? = some (imm I)) (hr : ro I e p c l) (htx : P.underlying tx = some (.slice E')) (hsz : e.sz = sz) : SrcIs P sz tx (.slice p l.length c) l.length (e.all l) (SAT w0 H) := by
  subst hsz
  intro w hs
  refine src_cells htx (e.all_length l) (e.all_one l) (fun hp0 => by have := hr.nil hp0; have := hr.le; omega) (fun j v hj => ?_)
  obtain ⟨a, h1, h2⟩ := hr.cells j v hj
  exact ⟨a, h1, cellOf_sub (imm_in hk hs.1) h2⟩
theorem src_str {tx : TypeId} {s : ByteArray} (htx : P.underlying tx = some .string) : SrcIs P 1 tx (.string s) s.size (byteCells s) S := fun w _ => Src.ofString w htx s

theorem run_append_storeds {t tx ty E : TypeId} {inf : TypeInfo} (ht : P.underlying t = some (.slice E)) (hi : P.info? E = some inf) {w w' : World} {a : Addr} {sLen sCap : Nat} {x : Value} {m : Nat} {news : List Value} (hs : Src P inf.size tx x m news w)
    (hroom : sLen + m ≤ sCap) (hst : (storeCells (a.add (sLen * inf.size)) news).run P w = .ok () w') :
    (Builtin.append_ #[t, tx] ty #[.slice (some a) sLen sCap, x]).run P w = .ok (.slice (some a) (sLen + m) sCap) w' := by
  rcases hs.kind with ⟨e', hk⟩ | hk <;> simp [Builtin.append_, run_underlying ht, run_underlying hk, sizeOf, typeInfo, hi, hs.len, hroom, hs.cells, hst]

theorem getElem?_setAll (vs : List Value) : ∀ (cs : Array Value) (off j : Nat), off + vs.length ≤ cs.size → (setAll cs off vs)[j]? = if off ≤ j ∧ j < off + vs.length then vs[j - off]? else cs[j]? := by
  induction vs with
  | nil => intro cs off j h; rw [if_neg (by simp only [List.length_nil]; omega)]; rfl
  | cons v r ih =>
    intro cs off j h
    simp only [List.length_cons] at h
    rw [setAll, ih _ _ _ (by simp; omega), Array.getElem?_setIfInBounds]
    simp only [List.length_cons]
    by_cases h1 : j = off
    · subst h1
      rw [if_neg (by omega), if_pos rfl, if_pos (by omega), if_pos (by omega)]
      simp
    · by_cases h2 : off + 1 ≤ j ∧ j < off + 1 + r.length
      · rw [if_pos h2, if_pos (by omega), show j - off = (j - (off + 1)) + 1 by omega, List.getElem?_cons_succ]
      · rw [if_neg h2, if_neg (fun e => h1 e.symm), if_neg (by omega)]

theorem take_setAll {cs : Array Value} {off : Nat} {vs : List Value} (h : off + vs.length ≤ cs.size) : (setAll cs off vs).toList.take (off + vs.length) = cs.toList.take off ++ vs := by
  apply List.ext_getElem?
  intro j
  rw [List.getElem?_take]
  by_cases h1 : j < off
  · rw [if_pos (by omega), List.getElem?_append_left (by simp; omega), Array.getElem?_toList, getElem?_setAll _ _ _ _ h, if_neg (by omega), List.getElem?_take, if_pos h1, Array.getElem?_toList]
  · rw [List.getElem?_append_right (by simp; omega)]
    have hl : (cs.toList.take off).length = off := by simp; omega
    rw [hl]
    by_cases h2 : j < off + vs.length
    · rw [if_pos h2, Array.getElem?_toList, getElem?_setAll _ _ _ _ h, if_pos ⟨by omega, h2⟩]
    · rw [if_neg h2, List.getElem?_eq_none (by omega)]

/-- 'append(s, ..)' to a slice of the call's own -/
theorem pw_append (k : Nat) {t tx : TypeId} {s x : Operand} {sz bytes : Nat} {m : Nat} {xv : Value} {l' : List α} (hk : H[k]? = some (own e E p c l)) (ho : ops[i]? = some o) (hop : o.op = .call { callee := .builtin .append, args := #[s, x], argTypes := #[t, tx] }) (hd : dstOk n o.dst = true) (hw : wantedL ops L o = some true) (hkn : knows L o = true)
    (hsl : slOf P t = some (E, sz)) (hinf : ((P.info? E).bind fun i => i.zero.map fun z => (i.bytes, z.cells.size)) = some (bytes, sz)) (hsz : e.sz = sz) (hs : rho L s = .slice p l.length c) (hx : rho L x = xv) (hsrc : SrcIs P sz tx xv m (e.all l') (SAT w0 H)) (hm : l'.length = m)
    (hmax : l.length + m ≤ 4611686018427387904) (hby : 2 * (l.length + m) * bytes ≤ 281474976710656)
    (h : ∀ (p' : Option Addr) (c' : Nat), NW K n (putL o.dst (.slice p' (l ++ l').length c') L) (SAT w0 (H.set k (own e E p' c' (l ++ l'))))) : PW P ops Q i n L (SAT w0 H) K := by
  subst hsz
  subst hm
  obtain ⟨hu, inf, hi, hisz⟩ := slOf_spec hsl
  rw [hi] at hinf
  cases hz : inf.zero with
  | none => rw [Option.bind_some, hz] at hinf; cases hinf
  | some z =>
  rw [Option.bind_some, hz] at hinf
  simp only [Option.map_some, Option.some.injEq, Prod.mk.injEq] at hinf
  obtain ⟨rfl, hzs⟩ := hinf
  refine pw_run (S' := fun u w => ∃ p' c', u = .slice p' (l ++ l').length c' ∧ SAT w0 (H.set k (own e E p' c' (l ++ l'))) w) ho hd hw hkn (fun w hsat => ?_) fun u a w hf hs => by obtain ⟨p', c', rfl, hs⟩ := hs; exact h p' c' a w hf hs
  have hsr := hsrc w hsat
  obtain ⟨hl, hl1, hl2, hl3⟩ := sat_at hk hsat.1
  have hlen : (l ++ l').length = l.length + l'.length := by simp
  have hcl : (e.all l').length = l'.length * e.sz := e.all_length l'
  have hrun : ∀ v w', (Builtin.append_ #[t, tx] o.type #[.slice p l.length c, xv]).run P w = .ok v w' → (execOp (rho L) o).run P w = .ok (.value v) w' := by
    intro v w' hr
    simp [execOp, hop, resolve, invoke, builtin, Sem.run_bind, hs, hx, hr]
  obtain ⟨hxl, hnc, hcm, hcase⟩ := hl2
  by_cases hroom : l.length + l'.length ≤ c
  · rcases hcase with ⟨rfl, rfl⟩ | ⟨g, cur, fz, rfl, hg, hsoft, hcs, htk⟩
    · -- nothing, onto nothing
      have h0 : l = [] := List.eq_nil_of_length_eq_zero (by omega)
      have h0' : l' = [] := List.eq_nil_of_length_eq_zero (by omega)
      subst h0; subst h0'
      refine ⟨.slice none 0 0, w, hrun _ _ ?_, none, 0, rfl, ?_, hsat.2⟩
      · have hsr2 : Src P inf.size tx xv 0 [] w := by rw [hisz]; exact hsr
        rcases hsr2.kind with ⟨e', hkx⟩ | hkx <;> simp [Builtin.append_, run_underlying hu, run_underlying hkx, sizeOf, typeInfo, hi, hsr2.len, hsr2.cells]
      · exact sat_set hk hsat.1 fun hh hsub _ => ⟨hh, hsub, own_nil e E hh, fun b ob h1 h2 => ⟨h1, h2⟩⟩
    · have hgw := hl1 g _ hg
      have hfit : l.length * e.sz + (e.all l').length ≤ cur.size := by rw [hcl, hcs, ← Nat.add_mul]; exact Nat.mul_le_mul_right _ hroom
      obtain ⟨w', hst, hh, hkp⟩ := run_storeCells_pt (P := P) g E fz (e.all l') (l.length * e.sz) 0 cur w hgw hsoft (by simpa using hfit) (e.all_one l')
      refine ⟨.slice (some ⟨g, 0, none⟩) (l.length + l'.length) c, w', hrun _ _ (run_append_storeds hu hi (by rw [hisz]; exact hsr) hroom (by rw [hisz, add_lit, Nat.zero_add]; exact hst)), some ⟨g, 0, none⟩, c, by rw [hlen], ?_, hsat.2.trans hkp⟩
      simp only [Nat.add_zero] at hh
      refine sat_set hk hsat.1 fun hh2 hsub ho2 => ?_
      obtain ⟨_, _, _, hcase2⟩ := ho2
      rcases hcase2 with ⟨hp0, _⟩ | ⟨g2, cur2, fz2, hp2, hg2, _⟩
      · cases hp0
      · cases hp2
        refine ⟨hh2.upd g (.cells (setAll cur (l.length * e.sz) (e.all l')) E fz), fun b ob hb => ?_, ⟨e.all_length _, by rw [hlen]; exact hroom, hcm, .inr ⟨g, setAll cur (l.length * e.sz) (e.all l'), fz, rfl, by simp [Hl.upd], by rw [size_setAll]; exact hsoft, by rw [size_setAll]; exact hcs, ?_⟩⟩, fun b ob h1 h2 => ?_⟩
        · rw [hh]
          unfold Hl.upd at hb ⊢
          by_cases hbg : b = g
          · rw [if_pos hbg] at hb ⊢; exact hb
          · rw [if_neg hbg] at hb ⊢; exact hsub b ob hb
        · rw [hlen, Nat.add_mul, ← hcl, take_setAll hfit, htk, e.all_append]
        · have hbg : b ≠ g := by intro hbg; subst hbg; rw [hg2] at h2; cases h2
          rw [hh]; unfold Hl.upd; rw [if_neg hbg, if_neg hbg]; exact ⟨h1, h2⟩
  · have hgrow : c < l.length + l'.length := by omega
    have hold : (Builtin.firstCells inf.size l.length (.slice p l.length c)).run P w.drew = .ok (e.all l).toArray w.drew := by
      have hc2 := own_cells hl1 ⟨hxl, hnc, hcm, hcase⟩
      cases p with
      | none =>
        have hxs : e.all l = [] := by
          cases hx0 : e.all l with
          | nil => rfl
          | cons v r => obtain ⟨a, ha, _⟩ := hc2 0 v (by rw [hx0]; rfl); cases ha
        rw [hxs]; exact run_firstCells_none _ _ _ _ _
      | some a =>
        refine run_firstCells_some (P := P) w.drew inf.size l.length a l.length c (e.all l) (by rw [hisz]; exact hxl) fun j v hj => ?_
        obtain ⟨a', ha, hc3⟩ := hc2 j v hj
        cases ha; exact hc3
    have hcap := nextslicecap_le hgrow
    have hr := run_append_grow_src (P := P) w t tx o.type E inf z hu hi hz p l.length c (e.all l) hold xv l'.length (e.all l') (by rw [hisz]; exact hsr) hgrow (by omega) (by
      refine Nat.le_trans (Nat.mul_le_mul_right _ hcap) hby)
    have hge := grownCap_ge w (l.length + l'.length) c E
    have hle := grownCap_le_maxLen w (l.length + l'.length) c E (by unfold maxLen; omega)
    refine ⟨_, _, hrun _ _ hr, some ⟨w.heap.size, 0, none⟩, grownCap w (l.length + l'.length) c E, by rw [hlen], ?_, hsat.2.trans ⟨rfl, rfl, rfl⟩⟩
    have hs2 : Sat (H.eraseIdx k) (hp w.drew) := sat_mono (Hl.minus_sub _ _) hl3
    have hnew : own e E (some ⟨w.drew.heap.size, 0, none⟩) (grownCap w (l.length + l'.length) c E) (l ++ l') (Hl.one w.drew.heap.size (.cells ((e.all l ++ e.all l').toArray ++ Builtin.zeroCells z.cells (grownCap w (l.length + l'.length) c E - (l.length + l'.length))) E (0, 0))) := by
      refine own_new _ ?_ hle (by rw [hlen]; exact hge) (soft_zero _) ?_
      · rw [Array.size_append, List.size_toArray, List.length_append, size_zeroCells, e.all_length, e.all_length, hzs, ← Nat.add_mul, ← Nat.add_mul]
        congr 1; omega
      · rw [Array.toList_append, List.take_append_of_le_length (by simp only [List.length_append, e.all_length, hlen, Nat.add_mul]; exact Nat.le_refl _), List.take_of_length_le (by simp only [List.length_append, e.all_length, hlen, Nat.add_mul]; exact Nat.le_refl _), e.all_append]
    have hs3 := sat_new (q := own e E (some ⟨w.drew.heap.size, 0, none⟩) (grownCap w (l.length + l'.length) c E) (l ++ l')) (hp_size w.drew) (hp_alloc w.drew _) hnew hs2
    exact sat_perm (perm_set hk) hs3
end
end Go.Fw
