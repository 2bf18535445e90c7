/- Elements of an array that is a part of a variable, at an open index. -/
import Derived.Test.YtilpkebkhibpeaaGreatDoorFw2
namespace Go.Fw
set_option linter.all false
open Go Go.RowKit
/-- a list with one element set, laid out element by element -/
def setF {α : Type} : List α → Nat → Nat → α → List α
  | [], _, _, _ => []
  | x :: l, i, j, z => (if j = i then z else x) :: setF l (i + 1) j z
theorem setF_get {α : Type} : ∀ (l : List α) (i j : Nat) (z : α) (r : Nat), (setF l i j z)[r]? = if j = i + r ∧ r < l.length then some z else l[r]?
  | [], i, j, z, r => by simp [setF]
  | x :: l, i, j, z, 0 => by
    unfold setF
    rw [List.getElem?_cons_zero, List.getElem?_cons_zero, Nat.add_zero]
    by_cases h : j = i
    · rw [if_pos h, if_pos ⟨h, by simp⟩]
    · rw [if_neg h, if_neg (fun e => h e.1)]
  | x :: l, i, j, z, r + 1 => by
    unfold setF
    rw [List.getElem?_cons_succ, List.getElem?_cons_succ, setF_get l (i + 1) j z r]
    have : (j = i + 1 + r ∧ r < l.length) ↔ (j = i + (r + 1) ∧ r + 1 < (x :: l).length) := by
      rw [List.length_cons]; omega
    by_cases h : j = i + 1 + r ∧ r < l.length
    · rw [if_pos h, if_pos (this.1 h)]
    · rw [if_neg h, if_neg (fun e => h (this.2 e))]
theorem setF_set {α : Type} (l : List α) (j : Nat) (z : α) : setF l 0 j z = l.set j z := by
  apply List.ext_getElem?
  intro r
  rw [setF_get, List.getElem?_set, Nat.zero_add]
  by_cases h : j = r
  · subst h
    by_cases h2 : j < l.length
    · rw [if_pos ⟨rfl, h2⟩, if_pos rfl, if_pos h2]
    · rw [if_neg (fun e => h2 e.2), if_pos rfl, if_neg h2, List.getElem?_eq_none (by omega)]
  · rw [if_neg (fun e => h e.1), if_neg h]
section
variable {P : Program} {ops : Array Oper} {Q : Exit → Act → World → Prop} {i n : Nat} {L : Slots} {S : World → Prop} {o : Oper} {w0 : World} {H : List HP} {K : Act → World → Prop} {α : Type} {e : Enc α} {l : List α}
/-- '&v.a[j]' -/
theorem q_index_objel {b off : Nat} {t : TypeId} {x ix : Operand} {kd : IntKind} {j : Int} {y : α} {m E sz tot : Nat} (hop : o.op = .indexAddr t x ix) (har : arOf P t = some (m, E, sz, tot)) (hx : rho L x = .pointer (some ⟨b, off, none⟩)) (hix : rho L ix = .int kd j) (hl : l.length = m) (hy : at_ l j = some y) :
    RunIs P S L o (.pointer (some ((⟨b, off, none⟩ : Addr).add (j.toNat * sz)))) := by
  intro w _
  obtain ⟨hu, ⟨inf, hi, his⟩, _⟩ := arOf_spec har
  have h0 := (at_some hy).1
  have hj := at_lt hy
  rw [hl] at hj
  simp [execOp, hop, hx, hix, Instr.indexAt, asIntOf, run_underlying hu, Instr.sureAddr, h0, hj, sizeOf, typeInfo, hi, his]
theorem all_get1 (h1 : e.sz = 1) (l : List α) (r : Nat) : (e.all l)[r]? = (l[r]?).bind fun x => (e.f x)[0]? := by
  cases hr : l[r]? with
  | none =>
    rw [List.getElem?_eq_none]
    · rfl
    · rw [e.all_length, h1, Nat.mul_one]; exact List.getElem?_eq_none_iff.1 hr
  | some x =>
    have := Enc.all_get e hr 0 e.pos
    rw [h1] at this
    simpa using this
theorem objel_get {C : Array Value} {off : Nat} {A B : List Value} {j : Int} {y : α} {v : Value} (h1 : e.sz = 1) (hC : C.toList = A ++ (e.all l ++ B)) (hA : A.length = off) (hy : at_ l j = some y) (hv : e.f y = [v]) : C[off + j.toNat]? = some v := by
  have h2 := (at_some hy).2
  have hlt : j.toNat < l.length := (List.getElem?_eq_some_iff.1 h2).1
  rw [← Array.getElem?_toList, hC, List.getElem?_append_right (by omega), hA, Nat.add_sub_cancel_left, List.getElem?_append_left (by rw [e.all_length, h1]; omega), all_get1 h1, h2, Option.bind_some, hv]
  rfl
theorem q_load_objel (k : Nat) {b off : Nat} {T t : TypeId} {x : Operand} {j : Int} {y : α} {v : Value} {C : Array Value} (A B : List Value) (hk : H[k]? = some (pt b C T)) (hC : C.toList = A ++ (e.all l ++ B)) (hA : A.length = off) (h1 : e.sz = 1) (hop : o.op = .load t x) (hsc : ((P.underlying t).map fun d => match d with | .struct _ => false | .array _ _ => false | _ => true) = some true)
    (hx : rho L x = .pointer (some ((⟨b, off, none⟩ : Addr).add (j.toNat * 1)))) (hy : at_ l j = some y) (hv : e.f y = [v]) : RunIs P (SAT w0 H) L o v := by
  rw [add_lit, Nat.mul_one] at hx
  refine q_load k hop hx hk ?_
  unfold ptLoad
  cases hu : P.underlying t with
  | none => rw [hu] at hsc; cases hsc
  | some d =>
    rw [hu] at hsc
    have := objel_get h1 hC hA hy hv
    cases d <;> first | (cases hsc; done) | exact this
theorem pw_store_objel (k : Nat) {b off : Nat} {T t : TypeId} {x y : Operand} {j : Int} {z z' : α} {v : Value} {C C' : Array Value} (A B : List Value) (hk : H[k]? = some (pt b C T)) (hC : C.toList = A ++ (e.all l ++ B)) (hA : A.length = off) (h1 : e.sz = 1) (hC' : C'.toList = A ++ (e.all (setF l 0 j.toNat z') ++ B)) (ho : ops[i]? = some o) (hop : o.op = .store t x y) (hd : dstOk n o.dst = true) (hw : wantedL ops L o = some true) (hkn : knows L o = true)
    (hi1 : (P.info? t).map (·.size) = some 1) (hx : rho L x = .pointer (some ((⟨b, off, none⟩ : Addr).add (j.toNat * 1)))) (hy : rho L y = v) (hone : v.oneCell' = true) (hz : at_ l j = some z) (hv : e.f z' = [v])
    (h : NW K n (putL o.dst undef L) (SAT w0 (H.set k (pt b C' T)))) : PW P ops Q i n L (SAT w0 H) K := by
  rw [add_lit, Nat.mul_one] at hx
  refine pw_store k _ ho hop hd hw hkn hx hk ?_ h
  have hjl : j.toNat < l.length := (List.getElem?_eq_some_iff.1 (at_some hz).2).1
  have hcells : v.cells = #[v] := by cases v <;> first | rfl | (simp [Value.oneCell'] at hone)
  have hlen : C.size = off + (l.length + B.length) := by rw [← Array.length_toList, hC, List.length_append, List.length_append, hA, e.all_length, h1, Nat.mul_one]
  unfold ptStore
  cases hi : P.info? t with
  | none => rw [hi] at hi1; cases hi1
  | some inf =>
    rw [hi] at hi1
    simp only [Option.map_some, Option.some.injEq] at hi1
    simp only [hy, hcells, hi1]
    rw [Nat.ble_eq_true_of_le (show off + j.toNat + #[v].size ≤ C.size by rw [hlen]; show off + j.toNat + 1 ≤ _; omega)]
    simp only [List.size_toArray, List.length_cons, List.length_nil, Nat.zero_add, Nat.beq_refl, List.all_cons, hone, List.all_nil, Bool.and_self, cond_true, Option.some.injEq, setAll]
    apply Array.ext'
    rw [Array.toList_setIfInBounds, hC, hC', setF_set, List.set_append_right _ _ (by omega), hA, Nat.add_sub_cancel_left, List.set_append_left _ _ (by rw [e.all_length, h1]; omega)]
    congr 2
    apply List.ext_getElem?
    intro r
    rw [List.getElem?_set, all_get1 h1 (l.set j.toNat z')]
    by_cases hr : j.toNat = r
    · subst hr
      rw [if_pos rfl, if_pos (by rw [e.all_length, h1]; omega), List.getElem?_set_self hjl, Option.bind_some, hv]
      rfl
    · rw [if_neg hr, List.getElem?_set_ne hr, all_get1 h1]
end
end Go.Fw
