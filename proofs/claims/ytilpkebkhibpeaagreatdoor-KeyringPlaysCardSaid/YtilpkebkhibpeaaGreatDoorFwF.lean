/- Rows: slices of the call's own, and slices that are never written. -/
import Derived.Test.YtilpkebkhibpeaaGreatDoorFwE
import Derived.Deep.AppendSrc
import Derived.Deep.DeepAppendWide
namespace Go.Fw
set_option linter.all false
open Go Go.RowKit

/-- how a value lies in cells -/
structure Enc (α : Type) where
  f : α → List Value
  sz : Nat
  len : ∀ x, (f x).length = sz
  one : ∀ x, (f x).all (·.oneCell') = true
  pos : 0 < sz

def eInt (k : IntKind) : Enc Int := ⟨fun n => [.int k n], 1, fun _ => rfl, fun _ => rfl, by decide⟩
def eStr : Enc ByteArray := ⟨fun s => [.string s], 1, fun _ => rfl, fun _ => rfl, by decide⟩
def eBool : Enc Bool := ⟨fun b => [.bool b], 1, fun _ => rfl, fun _ => rfl, by decide⟩

section
variable {α : Type} {e : Enc α}
def Enc.all (e : Enc α) (l : List α) : List Value := l.flatMap e.f
theorem Enc.all_length (e : Enc α) (l : List α) : (e.all l).length = l.length * e.sz := by
  induction l with
  | nil => simp [Enc.all]
  | cons x l ih => simp only [Enc.all, List.flatMap_cons, List.length_append, List.length_cons, e.len] at *; rw [ih, Nat.add_mul]; omega
theorem Enc.all_one (e : Enc α) (l : List α) : (e.all l).all (·.oneCell') = true := by
  simp only [Enc.all, List.all_flatMap, List.all_eq_true]
  intro x _
  exact List.all_eq_true.1 (e.one x)
theorem Enc.all_append (e : Enc α) (l r : List α) : e.all (l ++ r) = e.all l ++ e.all r := by simp [Enc.all]
theorem Enc.all_drop (e : Enc α) : ∀ (l : List α) (i : Nat), e.all (l.drop i) = (e.all l).drop (i * e.sz)
  | [], i => by simp [Enc.all]
  | x :: l, 0 => by simp
  | x :: l, i + 1 => by
    have h := Enc.all_drop e l i
    have hx := e.len x
    have hm : (i + 1) * e.sz = e.sz + i * e.sz := by rw [Nat.add_mul]; omega
    simp only [List.drop_succ_cons, h]
    show _ = (e.f x ++ e.all l).drop ((i + 1) * e.sz)
    rw [hm, ← hx, List.drop_append]
    simp
theorem Enc.all_take (e : Enc α) : ∀ (l : List α) (i : Nat), e.all (l.take i) = (e.all l).take (i * e.sz)
  | [], i => by simp [Enc.all]
  | x :: l, 0 => by simp [Enc.all]
  | x :: l, i + 1 => by
    have h := Enc.all_take e l i
    have hx := e.len x
    have hm : (i + 1) * e.sz = e.sz + i * e.sz := by rw [Nat.add_mul]; omega
    simp only [List.take_succ_cons]
    show e.f x ++ e.all (l.take i) = (e.f x ++ e.all l).take ((i + 1) * e.sz)
    rw [h, hm, ← hx, List.take_append, List.take_of_length_le (l := e.f x) (Nat.le_add_right _ _), Nat.add_sub_cancel_left]
theorem Enc.all_get (e : Enc α) {l : List α} {i : Nat} {x : α} (h : l[i]? = some x) (j : Nat) (hj : j < e.sz) : (e.all l)[i * e.sz + j]? = (e.f x)[j]? := by
  induction l generalizing i with
  | nil => simp at h
  | cons y l ih =>
    have hy := e.len y
    cases i with
    | zero =>
      simp only [List.getElem?_cons_zero, Option.some.injEq] at h
      subst h
      show (e.f y ++ e.all l)[0 * e.sz + j]? = _
      rw [List.getElem?_append_left (by rw [hy]; omega)]
      congr 1; omega
    | succ i =>
      simp only [List.getElem?_cons_succ] at h
      show (e.f y ++ e.all l)[(i + 1) * e.sz + j]? = _
      rw [List.getElem?_append_right (by rw [hy, Nat.add_mul]; omega), hy, ← ih h]
      congr 1
      rw [Nat.add_mul]; omega
end

/-- cells of a row of the call's own -/
def ownC (E sz : Nat) (p : Option Addr) (n c : Nat) (xs : List Value) : HP := fun h =>
  xs.length = n * sz ∧ n ≤ c ∧ c ≤ maxLen ∧ ((p = none ∧ c = 0) ∨
    ∃ g cur fz, p = some ⟨g, 0, none⟩ ∧ h g = some (.cells cur E fz) ∧ soft fz cur.size ∧ cur.size = c * sz ∧ cur.toList.take (n * sz) = xs)
/-- A SLICE OF THE CALL's OWN -/
def own {α : Type} (e : Enc α) (E : Nat) (p : Option Addr) (c : Nat) (l : List α) : HP := ownC E e.sz p l.length c (e.all l)

def cellOf (I : Hl) (a : Addr) : Option Value :=
  match I a.block with
  | some (.cells c _ _) => if a.spot.isSome then none else c[a.off]?
  | _ => none
theorem cellOf_hp (w : World) (a : Addr) : cellOf (hp w) a = w.cell? a := rfl
theorem cellOf_sub {I J : Hl} (h : Hl.sub I J) {a : Addr} {v : Value} (hc : cellOf I a = some v) : cellOf J a = some v := by
  unfold cellOf at *
  cases hi : I a.block with
  | none => rw [hi] at hc; cases hc
  | some ob => rw [hi] at hc; rw [h _ _ hi]; exact hc

/-- cells that are never written -/
def roC (I : Hl) (p : Option Addr) (xs : List Value) : Prop := ∀ j v, xs[j]? = some v → ∃ a, p = some a ∧ cellOf I (a.add j) = some v
/-- A SLICE THAT IS NEVER WRITTEN -/
structure ro {α : Type} (I : Hl) (e : Enc α) (p : Option Addr) (c : Nat) (l : List α) : Prop where
  le : l.length ≤ c
  max : c ≤ maxLen
  nil : p = none → c = 0
  cells : roC I p (e.all l)
theorem roC.sub {I J : Hl} (h : Hl.sub I J) {p : Option Addr} {xs : List Value} (hr : roC I p xs) : roC J p xs := fun j v hj => by
  obtain ⟨a, h1, h2⟩ := hr j v hj; exact ⟨a, h1, cellOf_sub h h2⟩
theorem ro.sub {α : Type} {I J : Hl} (h : Hl.sub I J) {e : Enc α} {p : Option Addr} {c : Nat} {l : List α} (hr : ro I e p c l) : ro J e p c l := ⟨hr.le, hr.max, hr.nil, hr.cells.sub h⟩

theorem add_add (a : Addr) (i j : Nat) : (a.add i).add j = a.add (i + j) := by
  unfold Addr.add
  split
  · rename_i h; subst h; simp
  · split
    · rename_i h1 h2; subst h2; simp [h1]
    · rename_i h1 h2; rw [if_neg (by omega)]; simp [Nat.add_assoc]

section
variable {P : Program} {ops : Array Oper} {Q : Exit → Act → World → Prop} {i n : Nat} {L : Slots} {S : World → Prop} {o : Oper} {w0 : World} {H : List HP} {K : Act → World → Prop} {α : Type} {e : Enc α} {E : Nat} {p : Option Addr} {c : Nat} {l : List α} {I : Hl}

theorem imm_in {k : Nat} {w : World} (hk : H[k]? = some (imm I)) (hs : Sat H (hp w)) : Hl.sub I (hp w) := by
  obtain ⟨h, h1, h2, _⟩ := sat_at hk hs
  exact Hl.sub_trans h2 h1

/-- the cells of one element -/
def elem (I : Hl) (e : Enc α) (q : Addr) (x : α) : Prop := ∀ j v, (e.f x)[j]? = some v → cellOf I (q.add j) = some v
theorem elem.sub {J : Hl} (h : Hl.sub I J) {q : Addr} {x : α} (hr : elem I e q x) : elem J e q x := fun j v hj => cellOf_sub h (hr j v hj)

theorem ro_at (hr : ro I e p c l) {i : Nat} {x : α} (hx : l[i]? = some x) : ∃ a, p = some a ∧ elem I e (a.add (i * e.sz)) x := by
  have hlen := e.len x
  obtain ⟨a, hp, _⟩ := hr.cells (i * e.sz + 0) _ (by rw [Enc.all_get e hx 0 e.pos]; exact List.getElem?_eq_getElem (by rw [hlen]; exact e.pos))
  refine ⟨a, hp, fun j v hj => ?_⟩
  have hjl : j < e.sz := by have := (List.getElem?_eq_some_iff.1 hj).1; omega
  obtain ⟨a', hp', hc⟩ := hr.cells (i * e.sz + j) v (by rw [Enc.all_get e hx j hjl]; exact hj)
  rw [hp] at hp'
  cases hp'
  rw [add_add]
  exact hc

/-- '&l[i]' of a slice that is never written -/
theorem q_index_ro {t : TypeId} {x ix : Operand} {kd : IntKind} {j : Int} {y : α} (sz : Nat) (hr : ro I e p c l) (hop : o.op = .indexAddr t x ix)
    (ht : (P.underlying t).bind (fun d => match d with | .slice E => (P.info? E).map (·.size) | _ => none) = some sz) (hsz : e.sz = sz) (hx : rho L x = .slice p l.length c) (hix : rho L ix = .int kd j) (h0 : 0 ≤ j) (hy : l[j.toNat]? = some y) :
    ∃ q : Addr, elem I e q y ∧ RunIs P S L o (.pointer (some q)) := by
  obtain ⟨a, rfl, hel⟩ := ro_at hr hy
  have hjl : j.toNat < l.length := (List.getElem?_eq_some_iff.1 hy).1
  refine ⟨_, hel, fun w _ => ?_⟩
  subst hsz
  cases hu : P.underlying t with
  | none => rw [hu] at ht; cases ht
  | some d =>
    rw [hu] at ht
    cases d <;> first | (cases ht; done) | skip
    case slice E =>
      simp only [Option.bind_some] at ht
      cases hi : P.info? E with
      | none => rw [hi] at ht; cases ht
      | some inf =>
        rw [hi] at ht
        simp only [Option.map_some, Option.some.injEq] at ht
        have hb : 0 ≤ j ∧ j < (l.length : Int) := ⟨h0, by omega⟩
        simp [execOp, hop, hx, hix, Instr.indexAt, asIntOf, run_underlying hu, hb.1, hb.2, sizeOf, typeInfo, hi, ht]

/-- a load out of an element that is never written -/
def elLoad (P : Program) (t : TypeId) (cs : List Value) (off : Nat) : Option Value := ptLoad P t cs.toArray off
theorem run_loadVar_el {w : World} {q : Addr} {y : α} (hI : Hl.sub I (hp w)) (he : elem I e q y) {t : TypeId} {off : Nat} {v : Value} (hv : elLoad P t (e.f y) off = some v) : (loadVar t (q.add off)).run P w = .ok v w := by
  have hcell : ∀ j u, (e.f y)[j]? = some u → w.cell? (q.add j) = some u := fun j u hj => cellOf_sub hI (he j u hj)
  unfold elLoad ptLoad at hv
  cases hu : P.underlying t with
  | none => rw [hu] at hv; cases hv
  | some d =>
    rw [hu] at hv
    have agg : (∃ i, P.info? t = some i ∧ Nat.ble (off + i.size) (e.f y).toArray.size = true ∧ v = .agg ((e.f y).toArray.extract off (off + i.size))) → (isAgg t).run P w = .ok true w → (loadVar t (q.add off)).run P w = .ok v w := by
      rintro ⟨i, hi, hle, rfl⟩ ha
      have hle : off + i.size ≤ (e.f y).toArray.size := Nat.le_of_ble_eq_true hle
      have hl : ((e.f y).toArray.extract off (off + i.size)).toList.length = i.size := by simp at hle ⊢; omega
      have := run_loadCells_list (P := P) w (q.add off) ((e.f y).toArray.extract off (off + i.size)).toList (fun j u hu => by
        rw [add_add]
        refine hcell _ _ ?_
        have : j < i.size := by have := (List.getElem?_eq_some_iff.1 hu).1; omega
        simp only [Array.getElem?_toList, Array.getElem?_extract] at hu
        split at hu
        · simpa using hu
        · cases hu)
      rw [hl, Array.toArray_toList] at this
      simp [loadVar, Sem.run_bind, ha, sizeOf, typeInfo, hi, this]
    cases d
    case struct fs =>
      simp only at hv
      cases hi : P.info? t with
      | none => rw [hi] at hv; cases hv
      | some i =>
        rw [hi] at hv; simp only at hv
        cases hb : Nat.ble (off + i.size) (e.f y).toArray.size with
        | false => rw [hb] at hv; cases hv
        | true => rw [hb] at hv; cases hv; exact agg ⟨i, hi, hb, rfl⟩ (by simp [isAgg, Sem.run_bind, run_underlying hu w])
    case array n e' =>
      simp only at hv
      cases hi : P.info? t with
      | none => rw [hi] at hv; cases hv
      | some i =>
        rw [hi] at hv; simp only at hv
        cases hb : Nat.ble (off + i.size) (e.f y).toArray.size with
        | false => rw [hb] at hv; cases hv
        | true => rw [hb] at hv; cases hv; exact agg ⟨i, hi, hb, rfl⟩ (by simp [isAgg, Sem.run_bind, run_underlying hu w])
    all_goals
      simp only at hv
      have hc := hcell off v (by simpa using hv)
      simp [loadVar, Sem.run_bind, isAgg, run_underlying hu w, hc]

theorem q_load_el (k : Nat) {q : Addr} {y : α} {t : TypeId} {x : Operand} {off : Nat} {v : Value} (hI : H[k]? = some (imm I)) (he : elem I e q y) (hop : o.op = .load t x) (hx : rho L x = .pointer (some (q.add off))) (hv : elLoad P t (e.f y) off = some v) :
    RunIs P (SAT w0 H) L o v := by
  intro w hs
  have hl := run_loadVar_el (P := P) (imm_in hI hs.1) he hv
  simp only [execOp, hop, hx, Instr.loadAt, Instr.sureAddr, Sem.run_bind, Sem.run_pure, Result.andThen_ok, hl]
theorem q_load_el0 (k : Nat) {q : Addr} {y : α} {t : TypeId} {x : Operand} {v : Value} (hI : H[k]? = some (imm I)) (he : elem I e q y) (hop : o.op = .load t x) (hx : rho L x = .pointer (some q)) (hv : elLoad P t (e.f y) 0 = some v) :
    RunIs P (SAT w0 H) L o v := q_load_el k (off := 0) hI he hop (by rw [hx]; rfl) hv

end
end Go.Fw
