/- Arrays in memory, known as lists; parts of arrays that are copied; loops that are laid out round by round. -/
import Derived.Test.YtilpkebkhibpeaaGreatDoorFwJ
import Derived.LoopN
namespace Go.Fw
set_option linter.all false
open Go Go.RowKit
section
variable {P : Program} {ops : Array Oper} {Q : Exit → Act → World → Prop} {i n : Nat} {L : Slots} {S : World → Prop} {o : Oper} {w0 : World} {H : List HP} {K : Act → World → Prop} {α : Type} {e : Enc α} {l : List α}

theorem cw_freeze {c : Code} {w0 : World} {I : Hl} {E : Nat} {p : Option Addr} {cc : Nat} {G : List HP} (hs : ∀ w, S w → SAT w0 (imm I :: own e E p cc l :: G) w) (h : ∀ J, Hl.sub I J → ro J e p cc l → CW P c Q n L (SAT w0 (imm J :: G))) : CW P c Q n L S := by
  intro a w hf hS
  obtain ⟨J, h1, h2, h3⟩ := freeze (hs w hS)
  exact h J h1 h2 a w hf h3
theorem cw_H {c : Code} {w0 : World} {H H' : List HP} (h : H = H') (k : CW P c Q n L (SAT w0 H')) : CW P c Q n L (SAT w0 H) := h ▸ k
/-- so many rounds of a loop, laid out -/
def CR (P : Program) (c : Code) (Q : Exit → Act → World → Prop) (m n : Nat) (L : Slots) (S : World → Prop) : Prop := ∀ a w, Fr n L a → S w → Code.rounds P c Q m a w
theorem cw_rounds (m : Nat) {c : Code} (h : CR P c Q m n L S) : CW P (.loop c) Q n L S := fun a w hf hs => wp_loop_rounds m (h a w hf hs)
theorem cr_next {m : Nat} {c : Code} (h : CW P c (Exit.then (Code.rounds P c Q m) Q) n L S) : CR P c Q (m + 1) n L S := fun a w hf hs => h a w hf hs
theorem ew_rounds {m : Nat} {c : Code} (h : CR P c Q m n L S) : EW (Exit.then (Code.rounds P c Q m) Q) .normal n L S := h

/-- an array of a type's table: how many elements, which, and how many cells each -/
def arOf (P : Program) (t : TypeId) : Option (Nat × Nat × Nat × Nat) := (P.underlying t).bind fun d => match d with | .array n E => ((P.info? E).bind fun i => (P.info? t).map fun j => (n, E, i.size, j.size)) | _ => none
theorem arOf_spec {t : TypeId} {m E sz tot : Nat} (h : arOf P t = some (m, E, sz, tot)) : P.underlying t = some (.array m E) ∧ (∃ i, P.info? E = some i ∧ i.size = sz) ∧ ∃ j, P.info? t = some j ∧ j.size = tot := by
  unfold arOf at h
  cases hu : P.underlying t with
  | none => rw [hu] at h; cases h
  | some d =>
    rw [hu] at h
    cases d <;> first | (cases h; done) | skip
    case array n E' =>
      simp only [Option.bind_some] at h
      cases hi : P.info? E' with
      | none => rw [hi] at h; cases h
      | some inf =>
        rw [hi] at h
        cases hj : P.info? t with
        | none => rw [hj] at h; cases h
        | some jnf =>
          rw [hj] at h
          simp only [Option.bind_some, Option.map_some, Option.some.injEq, Prod.mk.injEq] at h
          obtain ⟨rfl, rfl, rfl, rfl⟩ := h
          exact ⟨rfl, ⟨inf, hi, rfl⟩, jnf, rfl, rfl⟩

theorem all_size (e : Enc α) (l : List α) : (e.all l).toArray.size = l.length * e.sz := by rw [List.size_toArray, e.all_length]

theorem arr_get0 {j : Int} {y : α} {v : Value} (h1 : e.sz = 1) (hy : at_ l j = some y) (hv : e.f y = [v]) : (e.all l)[j.toNat]? = some v := by
  have := Enc.all_get e (at_some hy).2 0 e.pos
  rw [h1] at this
  simp only [Nat.add_zero, Nat.mul_one] at this
  rw [this, hv]
  rfl

/-- the whole array is read -/
theorem q_load_arr (k : Nat) {b : Nat} {T t : TypeId} {x : Operand} {m E sz tot : Nat} (hk : H[k]? = some (pt b (e.all l).toArray T)) (hop : o.op = .load t x) (har : arOf P t = some (m, E, sz, tot)) (hl : l.length = m) (hsz : e.sz = sz) (htot : m * sz = tot) (hx : rho L x = .pointer (some ⟨b, 0, none⟩)) :
    RunIs P (SAT w0 H) L o (.agg (e.all l).toArray) := by
  refine q_load k hop hx hk ?_
  obtain ⟨hu, _, j, hj, hjs⟩ := arOf_spec har
  unfold ptLoad
  rw [hu]
  simp only [hj]
  have hs : (e.all l).toArray.size = tot := by rw [all_size, hl, hsz, htot]
  rw [hs, hjs, Nat.zero_add, Nat.ble_eq_true_of_le (Nat.le_refl _), ← hs]
  simp

theorem rr_arr {a b : Nat} {T t : TypeId} {m E sz tot : Nat} (k : Nat) (hl : look L a = some (.pointer (some ⟨b, 0, none⟩))) (hk : H[k]? = some (pt b (e.all l).toArray T)) (har : arOf P t = some (m, E, sz, tot)) (hm : l.length = m) (hsz : e.sz = sz) (htot : m * sz = tot) :
    ∀ c w, Fr n L c → SAT w0 H w → resRun P c.tmps w (.cell a t) (.agg (e.all l).toArray) := by
  intro c w hf hs
  have := q_load_arr (P := P) (o := { dst := none, op := .load t (.const (.pointer (some ⟨b, 0, none⟩))), type := t, pos := "", after := #[], guard := none }) (L := []) k hk rfl har hm hsz htot rfl w hs
  refine ⟨_, hf.get a _ hl, ?_⟩
  simp only [execOp, rho, Instr.loadAt, Instr.sureAddr, Sem.run_bind, Sem.run_pure, Result.andThen_ok] at this
  generalize (loadVar t ⟨b, 0, none⟩).run P w = r at this
  cases r with
  | ok v w' => simp only [Result.andThen, Sem.run_pure, Result.ok.injEq, Next.value.injEq] at this; obtain ⟨rfl, rfl⟩ := this; rfl
  | halt h w' => cases this

/-- an element of an array that is a value -/
theorem q_index_agg {t : TypeId} {x ix : Operand} {kd : IntKind} {j : Int} {y : α} {v : Value} {m E sz tot : Nat} (hop : o.op = .index t x ix) (har : arOf P t = some (m, E, sz, tot)) (hsc : ((P.underlying E).map fun d => match d with | .struct _ => false | .array _ _ => false | _ => true) = some true) (h1 : e.sz = 1) (hsz : sz = 1)
    (hx : rho L x = .agg (e.all l).toArray) (hix : rho L ix = .int kd j) (hl : l.length = m) (hy : at_ l j = some y) (hv : e.f y = [v]) : RunIs P S L o v := by
  intro w _
  subst hsz
  obtain ⟨hu, ⟨inf, hi, his⟩, _⟩ := arOf_spec har
  have h0 := (at_some hy).1
  have hj := at_lt hy
  rw [hl] at hj
  have hg := arr_get0 h1 hy hv
  have hagg : (isAgg E).run P w = .ok false w := by
    cases hu' : P.underlying E with
    | none => rw [hu'] at hsc; cases hsc
    | some d => rw [hu'] at hsc; unfold isAgg; rw [Sem.run_bind, run_underlying hu' w]; cases d <;> first | rfl | (cases hsc; done)
  simp [execOp, hop, hx, hix, Instr.index, asIntOf, run_underlying hu, h0, hj, sizeOf, typeInfo, hi, his, part, Sem.run_bind, hagg] at hg ⊢
  simp [hg]

/-- an array is laid over the whole one -/
theorem pw_store_arr (k : Nat) {b : Nat} {T t : TypeId} {x y : Operand} {l' : List α} {m E sz tot : Nat} (hk : H[k]? = some (pt b (e.all l).toArray T)) (ho : ops[i]? = some o) (hop : o.op = .store t x y) (hd : dstOk n o.dst = true) (hw : wantedL ops L o = some true) (hkn : knows L o = true)
    (har : arOf P t = some (m, E, sz, tot)) (hl : l.length = m) (hl' : l'.length = m) (hsz : e.sz = sz) (htot : m * sz = tot) (hx : rho L x = .pointer (some ⟨b, 0, none⟩)) (hy : rho L y = .agg (e.all l').toArray)
    (h : NW K n (putL o.dst undef L) (SAT w0 (H.set k (pt b (e.all l').toArray T)))) : PW P ops Q i n L (SAT w0 H) K := by
  refine pw_store k (e.all l').toArray ho hop hd hw hkn hx hk ?_ h
  obtain ⟨hu, _, j, hj, hjs⟩ := arOf_spec har
  have hs : (e.all l).toArray.size = tot := by rw [all_size, hl, hsz, htot]
  have hs' : (e.all l').toArray.size = tot := by rw [all_size, hl', hsz, htot]
  unfold ptStore
  rw [hy]
  simp only [hj, Value.cells]
  rw [hs, hs', hjs, Nat.zero_add]
  have h1 : (e.all l').all (·.oneCell') = true := e.all_one l'
  rw [Nat.ble_eq_true_of_le (Nat.le_refl _)]
  simp only [Nat.beq_refl, Bool.true_and]
  rw [show (e.all l').toArray.toList.all (·.oneCell') = true from h1]
  simp only [cond_true, Option.some.injEq]
  apply Array.ext'
  apply List.ext_getElem?
  intro r
  rw [Array.getElem?_toList, getElem?_setAll _ _ _ _ (by simp at hs hs' ⊢; omega)]
  by_cases hr : r < tot
  · rw [if_pos ⟨Nat.zero_le _, by simp at hs' ⊢; omega⟩]; simp
  · rw [if_neg (by simp at hs' ⊢; omega), Array.getElem?_eq_none (by rw [hs]; omega), List.getElem?_eq_none (by simp at hs' ⊢; omega)]

/-- '&a[j]' of an array in memory -/
theorem q_index_arr {b : Nat} {t : TypeId} {x ix : Operand} {kd : IntKind} {j : Int} {y : α} {m E sz tot : Nat} (hop : o.op = .indexAddr t x ix) (har : arOf P t = some (m, E, sz, tot)) (hx : rho L x = .pointer (some ⟨b, 0, none⟩)) (hix : rho L ix = .int kd j) (hl : l.length = m) (hy : at_ l j = some y) :
    RunIs P S L o (.pointer (some ((⟨b, 0, none⟩ : Addr).add (j.toNat * sz)))) := by
  intro w _
  obtain ⟨hu, ⟨inf, hi, his⟩, _⟩ := arOf_spec har
  have h0 := (at_some hy).1
  have hj := at_lt hy
  rw [hl] at hj
  simp [execOp, hop, hx, hix, Instr.indexAt, asIntOf, run_underlying hu, Instr.sureAddr, h0, hj, sizeOf, typeInfo, hi, his]

theorem arr_get {j : Int} {y : α} {v : Value} (h1 : e.sz = 1) (hy : at_ l j = some y) (hv : e.f y = [v]) : (e.all l).toArray[j.toNat * 1]? = some v := by
  have := Enc.all_get e (at_some hy).2 0 e.pos
  rw [h1] at this
  simp only [Nat.add_zero] at this
  rw [List.getElem?_toArray, this, hv]
  rfl

theorem q_load_arr_el (k : Nat) {b : Nat} {T t : TypeId} {x : Operand} {j : Int} {y : α} {v : Value} (hk : H[k]? = some (pt b (e.all l).toArray T)) (h1 : e.sz = 1) (hop : o.op = .load t x) (hsc : ((P.underlying t).map fun d => match d with | .struct _ => false | .array _ _ => false | _ => true) = some true)
    (hx : rho L x = .pointer (some ((⟨b, 0, none⟩ : Addr).add (j.toNat * 1)))) (hy : at_ l j = some y) (hv : e.f y = [v]) : RunIs P (SAT w0 H) L o v := by
  rw [add_lit] at hx
  refine q_load k hop hx hk ?_
  unfold ptLoad
  cases hu : P.underlying t with
  | none => rw [hu] at hsc; cases hsc
  | some d =>
    rw [hu] at hsc
    have := arr_get h1 hy hv
    cases d <;> first | (cases hsc; done) | (simp only [Nat.zero_add]; exact this)

theorem pw_store_arr_el (k : Nat) {b : Nat} {T t : TypeId} {x y : Operand} {j : Int} {z z' : α} {v : Value} (hk : H[k]? = some (pt b (e.all l).toArray T)) (h1 : e.sz = 1) (ho : ops[i]? = some o) (hop : o.op = .store t x y) (hd : dstOk n o.dst = true) (hw : wantedL ops L o = some true) (hkn : knows L o = true)
    (hi1 : (P.info? t).map (·.size) = some 1) (hx : rho L x = .pointer (some ((⟨b, 0, none⟩ : Addr).add (j.toNat * 1)))) (hy : rho L y = v) (hone : v.oneCell' = true) (hz : at_ l j = some z) (hv : e.f z' = [v])
    (h : NW K n (putL o.dst undef L) (SAT w0 (H.set k (pt b (e.all (l.set j.toNat z')).toArray T)))) : PW P ops Q i n L (SAT w0 H) K := by
  rw [add_lit, Nat.zero_add, Nat.mul_one] at hx
  refine pw_store k _ ho hop hd hw hkn hx hk ?_ h
  have hjl : j.toNat < l.length := (List.getElem?_eq_some_iff.1 (at_some hz).2).1
  have hcells : v.cells = #[v] := by cases v <;> first | rfl | (simp [Value.oneCell'] at hone)
  unfold ptStore
  cases hi : P.info? t with
  | none => rw [hi] at hi1; cases hi1
  | some inf =>
    rw [hi] at hi1
    simp only [Option.map_some, Option.some.injEq] at hi1
    simp only [hy, hcells, hi1]
    have hs : (e.all l).toArray.size = l.length := by rw [all_size, h1, Nat.mul_one]
    rw [hs, Nat.ble_eq_true_of_le (show j.toNat + #[v].size ≤ l.length from hjl)]
    simp only [List.size_toArray, List.length_cons, List.length_nil, Nat.zero_add, Nat.beq_refl, List.all_cons, hone, List.all_nil, Bool.and_self, cond_true, Option.some.injEq, setAll]
    apply Array.ext'
    simp only [Array.toList_setIfInBounds]
    apply List.ext_getElem?
    intro r
    rw [List.getElem?_set]
    have get : ∀ (l : List α) (r : Nat), (e.all l)[r]? = (l[r]?).bind fun x => (e.f x)[0]? := by
      intro l r
      cases hr : l[r]? with
      | none =>
        rw [List.getElem?_eq_none]
        · rfl
        · rw [e.all_length, h1, Nat.mul_one]; exact List.getElem?_eq_none_iff.1 hr
      | some x =>
        have := Enc.all_get e hr 0 e.pos
        rw [h1] at this
        simpa using this
    rw [get (l.set j.toNat z')]
    by_cases hr : j.toNat = r
    · subst hr
      rw [if_pos rfl, if_pos (by rw [e.all_length, h1]; simpa using hjl), List.getElem?_set_self hjl]
      simp [hv]
    · rw [if_neg hr, List.getElem?_set_ne hr, get l]

theorem q_quo {t u : TypeId} {x y : Operand} {k1 : IntKind} {a b : Int} (hop : o.op = .binOp .quo t x y u) (hx : rho L x = .int k1 a) (hy : rho L y = .int k1 b) (h0 : b ≠ 0) : RunIs P S L o (.int k1 (k1.wrap (a.tdiv b))) := by
  intro w _
  simp [execOp, hop, hx, hy, eqGuard, binOp, Op.intDiv, h0]
theorem q_rem {t u : TypeId} {x y : Operand} {k1 : IntKind} {a b : Int} (hop : o.op = .binOp .rem t x y u) (hx : rho L x = .int k1 a) (hy : rho L y = .int k1 b) (h0 : b ≠ 0) : RunIs P S L o (.int k1 (a.tmod b)) := by
  intro w _
  simp [execOp, hop, hx, hy, eqGuard, binOp, Op.intDiv, h0]
theorem q_shift_shr {t u : TypeId} {x y : Operand} {k1 k2 : IntKind} {a b : Int} (hop : o.op = .binOp .shr t x y u) (hx : rho L x = .int k1 a) (hy : rho L y = .int k2 b) (h0 : 0 ≤ b) : RunIs P S L o (.int k1 (a.fdiv ((2 : Int) ^ (min b.toNat k1.bits)))) := by
  intro w _
  have : ¬ b < 0 := by omega
  simp [execOp, hop, hx, hy, eqGuard, binOp, Op.shift, this]
theorem q_shift_shl {t u : TypeId} {x y : Operand} {k1 k2 : IntKind} {a b : Int} (hop : o.op = .binOp .shl t x y u) (hx : rho L x = .int k1 a) (hy : rho L y = .int k2 b) (h0 : 0 ≤ b) : RunIs P S L o (.int k1 (k1.wrap (a * (2 : Int) ^ (min b.toNat k1.bits)))) := by
  intro w _
  have : ¬ b < 0 := by omega
  simp [execOp, hop, hx, hy, eqGuard, binOp, Op.shift, this]
/-- a copy from one part of a block to another part of it -/
theorem pw_copy_pt (k : Nat) {b d s m c1 c2 : Nat} {T : TypeId} {cs cs' : Array Value} {t1 t2 E sz : Nat} {x y : Operand} (hk : H[k]? = some (pt b cs T)) (ho : ops[i]? = some o) (hop : o.op = .call { callee := .builtin .copy, args := #[x, y], argTypes := #[t1, t2] }) (hd : dstOk n o.dst = true) (hw : wantedL ops L o = some true) (hkn : knows L o = true)
    (hsl : slOf P t1 = some (E, sz)) (hx : rho L x = .slice (some ⟨b, d, none⟩) m c1) (hy : rho L y = .slice (some ⟨b, s, none⟩) m c2) (hfit : s + m * sz ≤ cs.size) (hfit' : d + m * sz ≤ cs.size) (hone : ((cs.extract s (s + m * sz)).toList.all (·.oneCell')) = true) (hcs : setAll cs d (cs.extract s (s + m * sz)).toList = cs')
    (h : NW K n (putL o.dst (.int .i64 m) L) (SAT w0 (H.set k (pt b cs' T)))) : PW P ops Q i n L (SAT w0 H) K := by
  subst hcs
  obtain ⟨hu, inf, hi, his⟩ := slOf_spec hsl
  refine pw_run (S' := fun u w => u = .int .i64 m ∧ SAT w0 (H.set k (pt b (setAll cs d (cs.extract s (s + m * sz)).toList) T)) w) ho hd hw hkn (fun w hs => ?_) fun u a w hf hs => by obtain ⟨rfl, hs⟩ := hs; exact h a w hf hs
  have hg := pt_in hk hs.1
  have hlen : (cs.extract s (s + m * sz)).toList.length = m * sz := by simp; omega
  obtain ⟨w', hr, hh, hkp⟩ := run_storeCells_pt (P := P) b T (0, 0) (cs.extract s (s + m * sz)).toList d 0 cs w hg (soft_zero _) (by rw [hlen]; omega) hone
  have hf := run_firstCells_some (P := P) w sz m ⟨b, s, none⟩ m c2 (cs.extract s (s + m * sz)).toList hlen (fun j v hj => by
    rw [add_lit, cell_of hg]
    have : j < m * sz := by have := (List.getElem?_eq_some_iff.1 hj).1; omega
    simp only [Array.getElem?_toList, Array.getElem?_extract] at hj
    split at hj
    · simpa using hj
    · cases hj)
  refine ⟨_, w', ?_, rfl, sat_upd_pt hk hs.1 (by simpa using hh), hs.2.trans hkp⟩
  simp only [Array.toArray_toList] at hf
  have hmin : Nat.min m m = m := Nat.min_self m
  simp [execOp, hop, resolve, invoke, builtin, Builtin.copy_, hx, hy, run_underlying hu, Builtin.lenOf, sizeOf, typeInfo, hi, his, hmin, hf] at hr ⊢
  rw [hr]
  rfl
end
end Go.Fw
