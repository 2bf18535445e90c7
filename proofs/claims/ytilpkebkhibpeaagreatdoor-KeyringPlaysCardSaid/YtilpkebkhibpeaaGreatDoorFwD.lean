/- Loads, stores, new variables, calls: the operations that touch blocks that are known whole. -/
import Derived.Test.YtilpkebkhibpeaaGreatDoorFwC
namespace Go.Fw
set_option linter.all false
open Go Go.RowKit

def ptLoad (P : Program) (t : TypeId) (cs : Array Value) (off : Nat) : Option Value :=
  match P.underlying t with
  | some (.struct _) | some (.array _ _) =>
    match P.info? t with
    | some i => bif Nat.ble (off + i.size) cs.size then some (.agg (cs.extract off (off + i.size))) else none
    | none => none
  | some _ => cs[off]?
  | none => none

section
variable {P : Program}

theorem add_lit (b off j : Nat) : (⟨b, off, none⟩ : Addr).add j = ⟨b, off + j, none⟩ := by unfold Addr.add; split <;> simp_all
theorem cell_of {w : World} {b : Nat} {cs : Array Value} {T : TypeId} {fz : Nat × Nat} (hg : hp w b = some (.cells cs T fz)) (off : Nat) : w.cell? ⟨b, off, none⟩ = cs[off]? := by
  unfold hp at hg
  simp [World.cell?, hg]
theorem frozen_of {w : World} {b : Nat} {cs : Array Value} {T : TypeId} {fz : Nat × Nat} (hg : hp w b = some (.cells cs T fz)) (off : Nat) : w.frozen? ⟨b, off, none⟩ = (decide (fz.1 ≤ off) && decide (off < fz.2)) := by
  unfold hp at hg
  obtain ⟨lo, hi⟩ := fz
  simp [World.frozen?, hg]

theorem run_loadVar_pt {w : World} {b : Nat} {cs : Array Value} {T : TypeId} {fz : Nat × Nat} (hg : hp w b = some (.cells cs T fz)) {t : TypeId} {off : Nat} {v : Value} (h : ptLoad P t cs off = some v) :
    (loadVar t ⟨b, off, none⟩).run P w = .ok v w := by
  unfold ptLoad at h
  cases hu : P.underlying t with
  | none => rw [hu] at h; cases h
  | some d =>
    rw [hu] at h
    have agg : (∃ i, P.info? t = some i ∧ Nat.ble (off + i.size) cs.size = true ∧ v = .agg (cs.extract off (off + i.size))) → (isAgg t).run P w = .ok true w → (loadVar t ⟨b, off, none⟩).run P w = .ok v w := by
      rintro ⟨i, hi, hle, rfl⟩ ha
      have hle : off + i.size ≤ cs.size := Nat.le_of_ble_eq_true hle
      have hl : (cs.extract off (off + i.size)).toList.length = i.size := by simp; omega
      have := run_loadCells_list (P := P) w ⟨b, off, none⟩ (cs.extract off (off + i.size)).toList (fun j u hu => by
        rw [add_lit, cell_of hg]
        have : j < i.size := by have := (List.getElem?_eq_some_iff.1 hu).1; omega
        simp only [Array.getElem?_toList, Array.getElem?_extract] at hu
        split at hu
        · simpa using hu
        · cases hu)
      rw [hl, Array.toArray_toList] at this
      simp [loadVar, Sem.run_bind, ha, sizeOf, typeInfo, hi, this]
    cases d
    case struct fs =>
      simp only at h
      cases hi : P.info? t with
      | none => rw [hi] at h; cases h
      | some i =>
        rw [hi] at h; simp only at h
        cases hb : Nat.ble (off + i.size) cs.size with
        | false => rw [hb] at h; cases h
        | true => rw [hb] at h; cases h; exact agg ⟨i, hi, hb, rfl⟩ (by simp [isAgg, Sem.run_bind, run_underlying hu w])
    case array n e =>
      simp only at h
      cases hi : P.info? t with
      | none => rw [hi] at h; cases h
      | some i =>
        rw [hi] at h; simp only at h
        cases hb : Nat.ble (off + i.size) cs.size with
        | false => rw [hb] at h; cases h
        | true => rw [hb] at h; cases h; exact agg ⟨i, hi, hb, rfl⟩ (by simp [isAgg, Sem.run_bind, run_underlying hu w])
    all_goals
      simp only at h
      have hc := cell_of hg off
      rw [h] at hc
      simp [loadVar, Sem.run_bind, isAgg, run_underlying hu w, hc]

def setAll (cs : Array Value) (off : Nat) : List Value → Array Value
  | [] => cs
  | v :: r => setAll (cs.setIfInBounds off v) (off + 1) r
theorem size_setAll (vs : List Value) : ∀ (cs : Array Value) (off : Nat), (setAll cs off vs).size = cs.size := by
  induction vs with
  | nil => intro cs off; rfl
  | cons v r ih => intro cs off; rw [setAll, ih]; simp

theorem hp_setCell {w : World} {b : Nat} {cs : Array Value} {T : TypeId} {fz : Nat × Nat} (hg : hp w b = some (.cells cs T fz)) (off : Nat) (v : Value) :
    hp (w.setCell ⟨b, off, none⟩ v) = (hp w).upd b (.cells (cs.setIfInBounds off v) T fz) := by
  funext c
  unfold hp at hg
  unfold hp Hl.upd World.setCell
  simp only [Array.getElem?_modify]
  by_cases h : b = c
  · subst h; simp [hg]
  · rw [if_neg h, if_neg (fun e => h e.symm)]

/-- no cell of a block from a place on is frozen -/
def soft (fz : Nat × Nat) (size : Nat) : Prop := ∀ o, o < size → (decide (fz.1 ≤ o) && decide (o < fz.2)) = false
theorem soft_zero (size : Nat) : soft (0, 0) size := fun o _ => by simp

theorem run_storeCells_pt (b : Nat) (T : TypeId) (fz : Nat × Nat) : ∀ (vs : List Value) (off i : Nat) (cs : Array Value) (w : World), hp w b = some (.cells cs T fz) → soft fz cs.size → off + i + vs.length ≤ cs.size →
    vs.all (·.oneCell') = true → ∃ w', (storeCells ⟨b, off, none⟩ vs i).run P w = .ok () w' ∧ hp w' = (hp w).upd b (.cells (setAll cs (off + i) vs) T fz) ∧ Keep w w'
  | [], off, i, cs, w, hg, _, _, _ => ⟨w, rfl, by
      funext c; unfold Hl.upd setAll; split
      · rename_i h; subst h; exact hg
      · rfl, Keep.refl w⟩
  | v :: vs, off, i, cs, w, hg, hs, hl, h1 => by
    simp only [List.all_cons, Bool.and_eq_true] at h1
    simp only [List.length_cons] at hl
    have hc : w.cell? ⟨b, off + i, none⟩ = some cs[off + i] := by rw [cell_of hg, Array.getElem?_eq_getElem (by omega)]
    have hf : w.frozen? ⟨b, off + i, none⟩ = false := by rw [frozen_of hg]; exact hs _ (by omega)
    have hp1 := hp_setCell hg (off + i) v
    have hg1 : hp (w.setCell ⟨b, off + i, none⟩ v) b = some (.cells (cs.setIfInBounds (off + i) v) T fz) := by rw [hp1]; simp [Hl.upd]
    obtain ⟨w', hr, hh, hk⟩ := run_storeCells_pt b T fz vs off (i + 1) _ _ hg1 (by simpa using hs) (by simp; omega) h1.2
    refine ⟨w', ?_, ?_, Keep.trans (b := w.setCell ⟨b, off + i, none⟩ v) ⟨rfl, rfl, rfl⟩ hk⟩
    · unfold storeCells
      rw [Sem.run_bind, add_lit, run_store P w _ v _ h1.1, hc]
      simp only [hf]
      exact hr
    · rw [hh, hp1]
      funext c
      unfold Hl.upd
      split <;> rfl

def ptStore (P : Program) (t : TypeId) (cs : Array Value) (off : Nat) (v : Value) : Option (Array Value) :=
  match P.info? t with
  | some i => bif Nat.beq v.cells.size i.size && (Nat.ble (off + v.cells.size) cs.size && v.cells.toList.all (·.oneCell')) then some (setAll cs off v.cells.toList) else none
  | none => none

theorem run_storeVar_pt {w : World} {b : Nat} {cs cs' : Array Value} {T : TypeId} {fz : Nat × Nat} (hg : hp w b = some (.cells cs T fz)) (hs : soft fz cs.size) {t : TypeId} {off : Nat} {v : Value} (h : ptStore P t cs off v = some cs') :
    ∃ w', (storeVar t ⟨b, off, none⟩ v).run P w = .ok () w' ∧ hp w' = (hp w).upd b (.cells cs' T fz) ∧ Keep w w' := by
  unfold ptStore at h
  cases hi : P.info? t with
  | none => rw [hi] at h; cases h
  | some i =>
    rw [hi] at h
    simp only at h
    cases hb : (Nat.beq v.cells.size i.size && (Nat.ble (off + v.cells.size) cs.size && v.cells.toList.all (·.oneCell'))) with
    | false => rw [hb] at h; cases h
    | true =>
      rw [hb] at h
      cases h
      simp only [Bool.and_eq_true] at hb
      obtain ⟨h1, h2, h3⟩ := hb
      have h1 : v.cells.size = i.size := Nat.eq_of_beq_eq_true h1
      have h2 := Nat.le_of_ble_eq_true h2
      obtain ⟨w', hr, hh, hk⟩ := run_storeCells_pt (P := P) b T fz v.cells.toList off 0 cs w hg hs (by simpa using h2) h3
      exact ⟨w', by simp [storeVar, sizeOf, typeInfo, hi, h1, hr], hh, hk⟩

theorem sat_upd_pt {H : List HP} {k b : Nat} {cs cs' : Array Value} {T : TypeId} {w w' : World} (hk : H[k]? = some (pt b cs T)) (hs : Sat H (hp w)) (hh : hp w' = (hp w).upd b (.cells cs' T (0, 0))) : Sat (H.set k (pt b cs' T)) (hp w') := by
  refine sat_set hk hs fun h hsub hb => ?_
  refine ⟨h.upd b (.cells cs' T (0, 0)), ?_, by simp [pt, Hl.upd], ?_⟩
  · intro c o e
    rw [hh]
    unfold Hl.upd at e ⊢
    by_cases hc : c = b
    · rw [if_pos hc] at e ⊢; exact e
    · rw [if_neg hc] at e ⊢; exact hsub c o e
  · intro c o e1 e2
    have hc : c ≠ b := by intro hc; subst hc; unfold pt at hb; rw [hb] at e2; cases e2
    rw [hh]; unfold Hl.upd; rw [if_neg hc, if_neg hc]; exact ⟨e1, e2⟩
theorem pt_in {H : List HP} {k b : Nat} {cs : Array Value} {T : TypeId} {w : World} (hk : H[k]? = some (pt b cs T)) (hs : Sat H (hp w)) : hp w b = some (.cells cs T (0, 0)) := by
  obtain ⟨h, h1, h2, _⟩ := sat_at hk hs
  exact h1 b _ h2

variable {ops : Array Oper} {Q : Exit → Act → World → Prop} {i n : Nat} {L : Slots} {o : Oper} {w0 : World} {H : List HP} {K : Act → World → Prop}

theorem q_load (k : Nat) {b : Nat} {cs : Array Value} {T : TypeId} {off : Nat} {v : Value} {t : TypeId} {x : Operand} (hop : o.op = .load t x)
    (hx : rho L x = .pointer (some ⟨b, off, none⟩)) (hk : H[k]? = some (pt b cs T)) (hv : ptLoad P t cs off = some v) : RunIs P (SAT w0 H) L o v := by
  intro w hs
  have hg := pt_in hk hs.1
  simp only [execOp, hop, hx, Instr.loadAt, Instr.sureAddr, Sem.run_bind, Sem.run_pure, Result.andThen_ok, run_loadVar_pt hg hv]

theorem pw_store (k : Nat) {b : Nat} {cs : Array Value} {T : TypeId} {off : Nat} {t : TypeId} {x y : Operand} (cs' : Array Value) (ho : ops[i]? = some o) (hop : o.op = .store t x y) (hd : dstOk n o.dst = true) (hw : wantedL ops L o = some true) (hkn : knows L o = true)
    (hx : rho L x = .pointer (some ⟨b, off, none⟩)) (hk : H[k]? = some (pt b cs T)) (hv : ptStore P t cs off (rho L y) = some cs')
    (h : NW K n (putL o.dst undef L) (SAT w0 (H.set k (pt b cs' T)))) : PW P ops Q i n L (SAT w0 H) K := by
  refine pw_run0 ho hd hw hkn (fun w hs => ?_) h
  have hg := pt_in hk hs.1
  obtain ⟨w', hr, hh, hkp⟩ := run_storeVar_pt (P := P) hg (soft_zero _) hv
  refine ⟨w', ?_, sat_upd_pt hk hs.1 hh, hs.2.trans hkp⟩
  simp only [execOp, hop, hx, Instr.storeAt, Instr.sureAddr, Sem.run_bind, Sem.run_pure, Result.andThen_ok, hr]

theorem sat_alloc {w : World} {ob : Obj} {q : HP} (hs : Sat H (hp w)) (hq : q (Hl.one w.heap.size ob)) : Sat (q :: H) (hp (w.alloc ob)) :=
  sat_new (hp_size w) (hp_alloc w ob) hq hs

/-- a new variable, holding what is given -/
theorem pw_box {e : TypeId} {x : Operand} {cs : Array Value} (ho : ops[i]? = some o) (hop : o.op = .box e x) (hd : dstOk n o.dst = true) (hw : wantedL ops L o = some true) (hkn : knows L o = true) (hcs : (rho L x).cells = cs)
    (h : ∀ b : Nat, NW K n (putL o.dst (.pointer (some ⟨b, 0, none⟩)) L) (SAT w0 (pt b cs e :: H))) : PW P ops Q i n L (SAT w0 H) K := by
  subst hcs
  refine pw_run (S' := fun u w => ∃ b, u = .pointer (some ⟨b, 0, none⟩) ∧ SAT w0 (pt b (rho L x).cells e :: H) w) ho hd hw hkn
    (fun w hs => ⟨_, w.alloc (.cells (rho L x).cells e (0, 0)), ?_, w.heap.size, rfl, sat_alloc hs.1 (by simp [pt, Hl.one]), hs.2.trans ⟨rfl, rfl, rfl⟩⟩) fun u a w hf hs => by obtain ⟨b, rfl, hs⟩ := hs; exact h b a w hf hs
  simp [execOp, hop, Instr.box, newVar, newRow]

/-- a new variable, zero -/
theorem pw_alloc {e : TypeId} {cs : Array Value} (ho : ops[i]? = some o) (hop : o.op = .alloc e) (hd : dstOk n o.dst = true) (hw : wantedL ops L o = some true) (hkn : knows L o = true) (hz : ((P.info? e).bind (·.zero)).map (·.cells) = some cs)
    (h : ∀ b : Nat, NW K n (putL o.dst (.pointer (some ⟨b, 0, none⟩)) L) (SAT w0 (pt b cs e :: H))) : PW P ops Q i n L (SAT w0 H) K := by
  cases hi : P.info? e with
  | none => rw [hi] at hz; cases hz
  | some inf =>
    rw [hi] at hz
    replace hz : inf.zero.map (·.cells) = some cs := hz
    cases hzz : inf.zero with
    | none => rw [hzz] at hz; cases hz
    | some z =>
      rw [hzz] at hz
      cases hz
      refine pw_run (S' := fun u w => ∃ b, u = .pointer (some ⟨b, 0, none⟩) ∧ SAT w0 (pt b z.cells e :: H) w) ho hd hw hkn
        (fun w hs => ⟨_, w.alloc (.cells z.cells e (0, 0)), ?_, w.heap.size, rfl, sat_alloc hs.1 (by simp [pt, Hl.one]), hs.2.trans ⟨rfl, rfl, rfl⟩⟩) fun u a w hf hs => by obtain ⟨b, rfl, hs⟩ := hs; exact h b a w hf hs
      simp [execOp, hop, Instr.alloc, zeroValue, typeInfo, hi, hzz, newVar, newRow]

/-- A CALL by its contract; 'pm': what it wants stands ahead of all else -/
theorem pw_call {f : FuncId} {vs : List Value} {H1 F : List HP} {R : Value → List HP → Prop} {c : Call} (ho : ops[i]? = some o) (hop : o.op = .call c) (hcal : c.callee = .value (.func f)) (hd : dstOk n o.dst = true) (hw : wantedL ops L o = some true) (hkn : knows L o = true)
    (hvs : c.args.toList.map (rho L) = vs) (hbody : ((P.funcs[f]?).map fun fn => fn.name != "runtime.NumGoroutine" && fn.body.isSome) = some true) (pm : H.Perm (H1 ++ F)) (hc : Tr P f vs H1 R)
    (h : ∀ r H', R r H' → NW K n (putL o.dst r L) (SAT w0 (H' ++ F))) : PW P ops Q i n L (SAT w0 H) K := by
  refine pw_wp ho hw fun a w hf hs => ?_
  unfold Oper.wp
  rw [exec_eq hf hkn]
  have hargs : c.args.map (rho L) = vs.toArray := by
    rw [← hvs]
    apply Array.ext'
    rw [Array.toList_map]
  cases hfn : P.funcs[f]? with
  | none => rw [hfn] at hbody; cases hbody
  | some fn =>
    rw [hfn] at hbody
    simp only [Option.map_some, Option.some.injEq, Bool.and_eq_true] at hbody
    obtain ⟨hname, hb⟩ := hbody
    have hname : ¬ fn.name = "runtime.NumGoroutine" := by simpa using hname
    obtain ⟨code, hcode⟩ := Option.isSome_iff_exists.1 hb
    have hrun : (execOp (rho L) o).run P w = .ok (.enter f vs.toArray) w := by
      simp [execOp, hop, resolve, hcal, rho, Deferred.ofValue, invoke, callFunc, program, Sem.run, Sem.run_bind, hfn, hname, hcode, hargs]
    rw [hrun]
    refine (hc F w (sat_perm pm hs.1)).mono fun e w' ⟨r, H', he, hR, hs', hkp⟩ => ?_
    subst he
    exact h r H' hR _ _ (hf.put hd r) ⟨hs', hs.2.trans hkp⟩
end
end Go.Fw
