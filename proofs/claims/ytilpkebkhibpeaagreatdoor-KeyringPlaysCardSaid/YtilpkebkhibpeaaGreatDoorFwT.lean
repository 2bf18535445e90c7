/- Two structs held against one another. -/
import Derived.Test.YtilpkebkhibpeaaGreatDoorFwR
import Derived.Laws.StructEq
namespace Go.Fw
set_option linter.all false
open Go Go.RowKit

def eqF (P : Program) (t : TypeId) (x y : Option Value) : Option Bool :=
  match P.underlying t, x, y with
  | some (.int _), some (.int k a), some (.int k' b) => if k = k' then some (a == b) else none
  | some .bool, some (.bool a), some (.bool b) => some (a == b)
  | some .string, some (.string a), some (.string b) => some (seqB a b)
  | _, _, _ => none
/-- are two structs of plain fields one? -/
def eqFs (P : Program) (xs ys : Array Value) : List Field → Option Bool
  | [] => some true
  | f :: fs => bif f.name == "_" then none else match eqF P f.type xs[f.offset]? ys[f.offset]? with
    | none => none
    | some b => match eqFs P xs ys fs with
      | none => none
      | some r => some (b && r)
theorem run_eqFs {P : Program} {xs ys : Array Value} (d : Nat) (w : World) : ∀ (fs : List Field) {b : Bool}, eqFs P xs ys fs = some b → (Op.eqFields (d + 1) xs ys fs).run P w = .ok b w
  | [], b, h => by cases h; rfl
  | f :: fs, b, h => by
    unfold eqFs at h
    cases hn : f.name == "_" with
    | true => rw [hn] at h; cases h
    | false =>
    rw [hn] at h
    simp only [cond_false] at h
    have hname : f.name ≠ "_" := by simpa using hn
    cases he : eqF P f.type xs[f.offset]? ys[f.offset]? with
    | none => rw [he] at h; cases h
    | some c =>
    rw [he] at h
    simp only at h
    cases hr : eqFs P xs ys fs with
    | none => rw [hr] at h; cases h
    | some r =>
    rw [hr] at h
    simp only [Option.some.injEq] at h
    subst h
    have ih := run_eqFs d w fs hr
    have key : ∀ {a b : Value}, xs[f.offset]? = some a → ys[f.offset]? = some b → (isAgg f.type).run P w = .ok false w → (Op.equalIn (d + 1) f.type a b).run P w = .ok c w → (Op.eqFields (d + 1) xs ys (f :: fs)).run P w = .ok (c && r) w := by
      intro a b hx hy ha hq
      have h1 : (part f.type xs f.offset).run P w = .ok a w := by simp [part, Sem.run_bind, ha, hx]
      have h2 : (part f.type ys f.offset).run P w = .ok b w := by simp [part, Sem.run_bind, ha, hy]
      unfold Op.eqFields
      rw [if_pos hname]
      simp only [Sem.run_bind, h1, h2, hq, Result.andThen_ok]
      cases c with
      | true => simp [ih]
      | false => simp
    unfold eqF at he
    split at he
    · rename_i hu hx hy
      split at he
      · rename_i hk
        subst hk
        have he := Option.some.inj he
        exact key hx hy (by simp [isAgg, Sem.run_bind, run_underlying hu]) (by rw [← he]; exact run_equalIn_int w d _ _ _ _ _ hu)
      · cases he
    · rename_i hu hx hy
      have he := Option.some.inj he
      exact key hx hy (by simp [isAgg, Sem.run_bind, run_underlying hu]) (by rw [← he]; exact run_equalIn_bool' w d _ _ _ hu)
    · rename_i hu hx hy
      have he := Option.some.inj he
      exact key hx hy (by simp [isAgg, Sem.run_bind, run_underlying hu]) (by rw [← he]; exact run_equalIn_string w d _ _ _ hu)
    · cases he
section
variable {P : Program} {S : World → Prop} {L : Slots} {o : Oper}
theorem q_eql_struct {t t' : TypeId} {x y : Operand} {xs ys : Array Value} {b : Bool} (hop : o.op = .binOp .eql t x y t') (hx : rho L x = .agg xs) (hy : rho L y = .agg ys) (ht : P.stoodInHeld t = false) (hg : P.eqGuardType P.depth t = false) (hf : (match P.underlying t with | some (.struct _) => true | _ => false) = true) (he : eqFs P xs ys (P.fieldsOf t).toList = some b) : RunIs P S L o (.bool b) := by
  intro w _
  have hu : P.underlying t = some (.struct (P.fieldsOf t)) := by
    unfold Program.fieldsOf
    split at hf
    · rename_i h; rw [h]
    · cases hf
  have h1 := run_eqFs (P := P) (xs := xs) (ys := ys) 9998 w _ he
  have h2 := run_equalIn_struct (P := P) w 9999 t xs ys hu ht
  rw [h1] at h2
  simp only [execOp, hop, hx, hy, Sem.run_bind, run_eqGuard_agg w .eql t x y xs ys hg, Result.andThen_ok, run_eql_struct, h2]
  rfl
theorem q_neq_struct {t t' : TypeId} {x y : Operand} {xs ys : Array Value} {b : Bool} (hop : o.op = .binOp .neq t x y t') (hx : rho L x = .agg xs) (hy : rho L y = .agg ys) (ht : P.stoodInHeld t = false) (hg : P.eqGuardType P.depth t = false) (hf : (match P.underlying t with | some (.struct _) => true | _ => false) = true) (he : eqFs P xs ys (P.fieldsOf t).toList = some b) : RunIs P S L o (.bool (!b)) := by
  intro w _
  have hu : P.underlying t = some (.struct (P.fieldsOf t)) := by
    unfold Program.fieldsOf
    split at hf
    · rename_i h; rw [h]
    · cases hf
  have h1 := run_eqFs (P := P) (xs := xs) (ys := ys) 9998 w _ he
  have h2 := run_equalIn_struct (P := P) w 9999 t xs ys hu ht
  rw [h1] at h2
  simp only [execOp, hop, hx, hy, Sem.run_bind, run_eqGuard_agg w .neq t x y xs ys hg, Result.andThen_ok, run_neq_struct, h2]
  rfl
end
end Go.Fw
