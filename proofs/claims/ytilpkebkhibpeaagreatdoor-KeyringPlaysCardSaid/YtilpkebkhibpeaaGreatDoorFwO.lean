/- Maps of the call's own: what they hold, in the order in which it was put. -/
import Derived.Test.YtilpkebkhibpeaaGreatDoorFwK
import Derived.MapKept
namespace Go.Fw
set_option linter.all false
open Go Go.RowKit Go.MapKept

/-- what stands under a key -/
def mget {κ ν : Type} [DecidableEq κ] : List (κ × ν) → κ → Option ν
  | [], _ => none
  | p :: l, k => if k = p.1 then some p.2 else mget l k
def mset {κ ν : Type} [DecidableEq κ] : List (κ × ν) → κ → ν → List (κ × ν)
  | [], k, v => [(k, v)]
  | p :: l, k, v => if k = p.1 then (k, v) :: l else p :: mset l k v
def mdel {κ ν : Type} [DecidableEq κ] : List (κ × ν) → κ → List (κ × ν)
  | [], _ => []
  | p :: l, k => if k = p.1 then l else p :: mdel l k

/-- a text, a number, a truth, as it stands under a key, or in a map -/
def kStr (s : ByteArray) : Value := .string s
def kInt (k : IntKind) (n : Int) : Value := .int k n
def kBool (b : Bool) : Value := .bool b

/-- what a map needs of its keys -/
structure MKey (P : Program) (kt : TypeId) {κ : Type} [DecidableEq κ] (kf : κ → Value) : Prop where
  check : ∀ (em : Bool) (k : κ) (w : World), (Instr.checkKey em 10000 kt (kf k)).run P w = .ok () w
  kind : ∃ d, P.underlying kt = some d ∧ ∀ a b : κ, Instr.sameNow d (kf a) (kf b) = some (decide (a = b))
  bits : ∀ a : κ, Instr.sameBits 10000 (kf a) (kf a) = true
  inj : ∀ a b : κ, kf a = kf b → a = b

theorem mkey_str {P : Program} {kt : TypeId} (h : P.underlying kt = some .string) : MKey P kt kStr where
  check em k w := by unfold Instr.checkKey; simp [Sem.run_bind, run_underlying h w, kStr, kInt]
  kind := ⟨.string, h, fun a b => by
    show some (a == b) = _
    have hb := MapKept.bytes_beq a b
    by_cases e : a = b
    · rw [hb.2 e]; simp [e]
    · have : (a == b) = false := by
        cases hc : (a == b) with
        | false => rfl
        | true => exact absurd (hb.1 hc) e
      simp [this, e]⟩
  bits a := by show (a == a) = true; exact (MapKept.bytes_beq a a).2 rfl
  inj a b h := by unfold kStr at h; injection h
theorem mkey_int {P : Program} {kt : TypeId} {q : IntKind} (h : P.underlying kt = some (.int q)) : MKey P kt (kInt q) where
  check em k w := by unfold Instr.checkKey; simp [Sem.run_bind, run_underlying h w, kStr, kInt]
  kind := ⟨.int q, h, fun a b => by
    unfold Instr.sameNow kInt
    by_cases e : a = b
    · subst e; simp
    · simp [e]⟩
  bits a := by show (q == q && a == a) = true; cases q <;> simp
  inj a b h := by unfold kInt at h; injection h

set_option linter.unusedSectionVars false
section
variable {P : Program} {kt vt T : TypeId} {κ ν : Type} [DecidableEq κ] {kf : κ → Value} {vf : ν → Value}

def ment (kf : κ → Value) (vf : ν → Value) (es : List MapEntry) (l : List (κ × ν)) : Prop := es.map (fun e => (e.key, e.val)) = l.map fun p => (kf p.1, vf p.2)
/-- A MAP OF THE CALL's OWN -/
def mpo (kf : κ → Value) (vf : ν → Value) (b : Nat) (l : List (κ × ν)) : HP := fun h => ∃ es clock, h b = some (.map es clock) ∧ ment kf vf es.toList l ∧ Stamped es clock

theorem ment_length {es : List MapEntry} {l : List (κ × ν)} (h : ment kf vf es l) : es.length = l.length := by
  have := congrArg List.length h
  simpa using this

/-- what a find tells, and what may be done with it -/
def Found (kf : κ → Value) (vf : ν → Value) (es : List MapEntry) (l : List (κ × ν)) (k : κ) (j : Nat) (v : ν) : Prop :=
  mget l k = some v ∧ (∃ e, es[j]? = some e ∧ e.key = kf k) ∧ (∀ v', ment kf vf (es.modify j fun e => { e with key := kf k, val := vf v' }) (mset l k v')) ∧ ment kf vf (es.eraseIdx j) (mdel l k)
def Missing (kf : κ → Value) (vf : ν → Value) (es : List MapEntry) (l : List (κ × ν)) (k : κ) : Prop :=
  mget l k = none ∧ (∀ v' e', e'.key = kf k → e'.val = vf v' → ment kf vf (es ++ [e']) (mset l k v')) ∧ mdel l k = l ∧ ∀ e ∈ es, e.key ≠ kf k
theorem findNow_eq {d : TypeDesc} (hinj : ∀ a b : κ, kf a = kf b → a = b) (hd : ∀ a b : κ, Instr.sameNow d (kf a) (kf b) = some (decide (a = b))) (k : κ) : ∀ (es : List MapEntry) (l : List (κ × ν)) (i : Nat), ment kf vf es l →
    (∃ v j, Found kf vf es l k j v ∧ Instr.findNow d (kf k) es i = some (some (i + j, vf v))) ∨ (Missing kf vf es l k ∧ Instr.findNow d (kf k) es i = some none)
  | [], [], i, _ => .inr ⟨⟨rfl, (fun v' e' h1 h2 => by simp [ment, mset, h1, h2]), rfl, (fun e he => by cases he)⟩, rfl⟩
  | [], _ :: _, _, h => by simp [ment] at h
  | _ :: _, [], _, h => by simp [ment] at h
  | e :: es, p :: l, i, h => by
    unfold ment at h
    simp only [List.map_cons, List.cons.injEq, Prod.mk.injEq] at h
    obtain ⟨⟨h1, h2⟩, h3⟩ := h
    unfold Instr.findNow
    rw [h1, hd]
    by_cases hk : k = p.1
    · left
      refine ⟨p.2, 0, ⟨by unfold mget; rw [if_pos hk], ⟨e, rfl, by rw [h1, hk]⟩, fun v' => ?_, ?_⟩, by simp [hk, h2]⟩
      · unfold mset ment; rw [if_pos hk]; simp [List.modify, h3]
      · unfold mdel ment; rw [if_pos hk]; simp [h3]
    · rcases findNow_eq hinj hd k es l (i + 1) h3 with ⟨v, j, ⟨g1, g2, g3, g4⟩, g5⟩ | ⟨⟨g1, g2, g3, g0⟩, g4⟩
      · left
        refine ⟨v, j + 1, ⟨by unfold mget; rw [if_neg hk]; exact g1, by simpa using g2, fun v' => ?_, ?_⟩, ?_⟩
        · have := g3 v'
          unfold ment at this
          unfold mset ment; rw [if_neg hk, List.modify_succ_cons, List.map_cons, List.map_cons, this, h1, h2]
        · unfold ment at g4
          unfold mdel ment; rw [if_neg hk]; simp [h1, h2, g4]
        · simp only [hk, decide_false]; rw [g5]; congr 3; omega
      · right
        refine ⟨⟨by unfold mget; rw [if_neg hk]; exact g1, fun v' e' q1 q2 => ?_, by unfold mdel; rw [if_neg hk, g3], fun e0 he0 => ?_⟩, by simp only [hk, decide_false]; exact g4⟩
        have := g2 v' e' q1 q2
        unfold ment at this
        unfold mset ment; rw [if_neg hk]; simp only [List.cons_append, List.map_cons, h1, h2, this]
        rcases List.mem_cons.1 he0 with h | h
        · subst h; rw [h1]; exact fun e => hk (hinj _ _ e).symm
        · exact g0 e0 h

theorem run_findKey (K : MKey P kt kf) {es : List MapEntry} {l : List (κ × ν)} (h : ment kf vf es l) (k : κ) (w : World) :
    (∃ v j, Found kf vf es l k j v ∧ (Instr.findKey kt (kf k) es).run P w = .ok (some (j, vf v)) w) ∨ (Missing kf vf es l k ∧ (Instr.findKey kt (kf k) es).run P w = .ok none w) := by
  obtain ⟨d, hu, hd⟩ := K.kind
  rcases findNow_eq (vf := vf) K.inj hd k es l 0 h with ⟨v, j, g1, g2⟩ | ⟨g1, g2⟩
  · left
    refine ⟨v, j, g1, ?_⟩
    simp [Instr.findKey, Sem.run_bind, run_underlying hu w, g2]
  · right
    refine ⟨g1, ?_⟩
    simp [Instr.findKey, Sem.run_bind, run_underlying hu w, g2]

theorem run_getMap {w : World} {b : Nat} {es : Array MapEntry} {clock : Nat} (h : hp w b = some (.map es clock)) : (getObj b).run P w = .ok (.map es clock) w := by
  exact MapKept.run_getObj_map h
theorem map_in {H : List HP} {k b : Nat} {l : List (κ × ν)} {w : World} (hk : H[k]? = some (mpo kf vf b l)) (hs : Sat H (hp w)) : ∃ es clock, hp w b = some (.map es clock) ∧ ment kf vf es.toList l ∧ Stamped es clock := by
  obtain ⟨h, h1, ⟨es, clock, h2, h3, h4⟩, _⟩ := sat_at hk hs
  exact ⟨es, clock, h1 b _ h2, h3, h4⟩
/-- a map's type: its keys', its values' -/
def mapOf (P : Program) (t : TypeId) : Option (TypeId × TypeId) := match P.underlying t with | some (.map k e) => some (k, e) | _ => none
theorem mapOf_spec {t : TypeId} (h : mapOf P t = some (kt, vt)) : P.underlying t = some (.map kt vt) := by
  unfold mapOf at h
  split at h
  · cases h; assumption
  · cases h
/-- what a look-up tells -/
def mgetD (l : List (κ × ν)) (k : κ) (z : ν) : ν := (mget l k).getD z
def mhas (l : List (κ × ν)) (k : κ) : Bool := (mget l k).isSome

variable {ops : Array Oper} {Q : Exit → Act → World → Prop} {i n : Nat} {L : Slots} {o : Oper} {w0 : World} {H : List HP} {K : Act → World → Prop}

theorem q_lookup (k : Nat) (z : ν) {b : Nat} {l : List (κ × ν)} {t : TypeId} {x y : Operand} {key : κ} {ok : Bool} (MK : MKey P kt kf) (hop : o.op = .lookup t x y ok) (ht : mapOf P t = some (kt, vt)) (hk : H[k]? = some (mpo kf vf b l)) (hx : rho L x = .map (some b)) (hy : rho L y = kf key)
    (hz : (P.info? vt).bind (·.zero) = some (vf z)) : RunIs P (SAT w0 H) L o (if ok then .tuple #[vf (mgetD l key z), .bool (mhas l key)] else vf (mgetD l key z)) := by
  intro w hs
  obtain ⟨es, clock, hg, he, hst⟩ := map_in hk hs.1
  have hu := mapOf_spec ht
  have hzv : (zeroValue vt).run P w = .ok (vf z) w := by
    cases hi : P.info? vt with
    | none => rw [hi] at hz; cases hz
    | some inf => rw [hi] at hz; replace hz : inf.zero = some (vf z) := hz; simp [zeroValue, typeInfo, Sem.run_bind, hi, hz]
  rcases run_findKey (vf := vf) MK he key w with ⟨v, j, ⟨g1, _⟩, g2⟩ | ⟨⟨g1, _⟩, g2⟩
  · have e1 : mgetD l key z = v := by unfold mgetD; rw [g1]; rfl
    have e2 : mhas l key = true := by unfold mhas; rw [g1]; rfl
    rw [e1, e2]
    cases ok <;> simp [execOp, hop, hx, hy, Instr.lookup, Sem.run_bind, run_underlying hu w, run_getMap hg, MK.check, g2, Result.andThen_ok]
  · have e1 : mgetD l key z = z := by unfold mgetD; rw [g1]; rfl
    have e2 : mhas l key = false := by unfold mhas; rw [g1]; rfl
    rw [e1, e2]
    cases ok <;> simp [execOp, hop, hx, hy, Instr.lookup, Sem.run_bind, run_underlying hu w, run_getMap hg, MK.check, g2, hzv, Result.andThen_ok]
theorem q_lookup1 (k : Nat) (z : ν) {b : Nat} {l : List (κ × ν)} {t : TypeId} {x y : Operand} {key : κ} (MK : MKey P kt kf) (hop : o.op = .lookup t x y false) (ht : mapOf P t = some (kt, vt)) (hk : H[k]? = some (mpo kf vf b l)) (hx : rho L x = .map (some b)) (hy : rho L y = kf key)
    (hz : (P.info? vt).bind (·.zero) = some (vf z)) : RunIs P (SAT w0 H) L o (vf (mgetD l key z)) := q_lookup k z MK hop ht hk hx hy hz
theorem q_lookup2 (k : Nat) (z : ν) {b : Nat} {l : List (κ × ν)} {t : TypeId} {x y : Operand} {key : κ} (MK : MKey P kt kf) (hop : o.op = .lookup t x y true) (ht : mapOf P t = some (kt, vt)) (hk : H[k]? = some (mpo kf vf b l)) (hx : rho L x = .map (some b)) (hy : rho L y = kf key)
    (hz : (P.info? vt).bind (·.zero) = some (vf z)) : RunIs P (SAT w0 H) L o (.tuple #[vf (mgetD l key z), .bool (mhas l key)]) := q_lookup k z MK hop ht hk hx hy hz
/-- .. of no map -/
theorem q_lookup_nil (z : ν) {t : TypeId} {x y : Operand} {key : κ} {ok : Bool} {S : World → Prop} (MK : MKey P kt kf) (hop : o.op = .lookup t x y ok) (ht : mapOf P t = some (kt, vt)) (hx : rho L x = .map none) (hy : rho L y = kf key)
    (hz : (P.info? vt).bind (·.zero) = some (vf z)) : RunIs P S L o (if ok then .tuple #[vf z, .bool false] else vf z) := by
  intro w hs
  have hu := mapOf_spec ht
  have hzv : (zeroValue vt).run P w = .ok (vf z) w := by
    cases hi : P.info? vt with
    | none => rw [hi] at hz; cases hz
    | some inf => rw [hi] at hz; replace hz : inf.zero = some (vf z) := hz; simp [zeroValue, typeInfo, Sem.run_bind, hi, hz]
  rcases run_findKey (kf := kf) (vf := vf) (es := []) (l := ([] : List (κ × ν))) MK rfl key w with ⟨v, j, ⟨g1, _⟩, g2⟩ | ⟨⟨g1, _⟩, g2⟩
  · cases g1
  · cases ok <;> simp [execOp, hop, hx, hy, Instr.lookup, Sem.run_bind, run_underlying hu w, MK.check, g2, hzv, Result.andThen_ok]

theorem q_lookup_nil1 (z : ν) {t : TypeId} {x y : Operand} {key : κ} {S : World → Prop} (MK : MKey P kt kf) (hop : o.op = .lookup t x y false) (ht : mapOf P t = some (kt, vt)) (hx : rho L x = .map none) (hy : rho L y = kf key)
    (hz : (P.info? vt).bind (·.zero) = some (vf z)) : RunIs P S L o (vf z) := q_lookup_nil z MK hop ht hx hy hz
theorem q_lookup_nil2 (z : ν) {t : TypeId} {x y : Operand} {key : κ} {S : World → Prop} (MK : MKey P kt kf) (hop : o.op = .lookup t x y true) (ht : mapOf P t = some (kt, vt)) (hx : rho L x = .map none) (hy : rho L y = kf key)
    (hz : (P.info? vt).bind (·.zero) = some (vf z)) : RunIs P S L o (.tuple #[vf z, .bool false]) := q_lookup_nil z MK hop ht hx hy hz

theorem q_len_map (k : Nat) {b : Nat} {l : List (κ × ν)} {t : TypeId} {x : Operand} (hop : o.op = .call { callee := .builtin .len, args := #[x], argTypes := #[t] }) (ht : mapOf P t = some (kt, vt)) (hx : rho L x = .map (some b))
    (hk : H[k]? = some (mpo kf vf b l)) : RunIs P (SAT w0 H) L o (.int .i64 (l.length : Int)) := by
  intro w hs
  obtain ⟨es, clock, hg, he, hst⟩ := map_in hk hs.1
  have hl := ment_length he
  rw [Array.length_toList] at hl
  have hu := mapOf_spec ht
  simp [execOp, hop, resolve, invoke, builtin, Builtin.len_, hx, Sem.run_bind, run_underlying hu w, run_getMap hg, hl, Result.andThen_ok, goInt]

theorem hp_setObj {w : World} {b : Nat} {es : Array MapEntry} {clock : Nat} (ob' : Obj) (hg : hp w b = some (.map es clock)) : ∃ w', (setObj b ob').run P w = .ok () w' ∧ hp w' = (hp w).upd b ob' ∧ Keep w w' := by
  refine ⟨_, MapKept.run_setObj_map ob' hg, ?_, ⟨rfl, rfl, rfl⟩⟩
  unfold hp at hg
  have hlt := (Array.getElem?_eq_some_iff.1 hg).1
  funext c
  unfold hp Hl.upd
  simp only [Array.getElem?_setIfInBounds]
  by_cases h : b = c
  · subst h; simp [hlt]
  · rw [if_neg h, if_neg (fun e => h e.symm)]
theorem sat_upd_map {H : List HP} {k b : Nat} {l l' : List (κ × ν)} {es' : Array MapEntry} {clock' : Nat} {w w' : World} (hk : H[k]? = some (mpo kf vf b l)) (hs : Sat H (hp w)) (hh : hp w' = (hp w).upd b (.map es' clock')) (he : ment kf vf es'.toList l') (hst : Stamped es' clock') : Sat (H.set k (mpo kf vf b l')) (hp w') := by
  refine sat_set hk hs fun h hsub ⟨es, clock, hb, _, _⟩ => ?_
  refine ⟨h.upd b (.map es' clock'), ?_, ⟨es', clock', by simp [Hl.upd], he, hst⟩, ?_⟩
  · intro c o e
    rw [hh]
    unfold Hl.upd at e ⊢
    by_cases hc : c = b
    · rw [if_pos hc] at e ⊢; exact e
    · rw [if_neg hc] at e ⊢; exact hsub c o e
  · intro c o e1 e2
    have hc : c ≠ b := by intro hc; subst hc; rw [hb] at e2; cases e2
    rw [hh]; unfold Hl.upd; rw [if_neg hc, if_neg hc]; exact ⟨e1, e2⟩

theorem pw_mapSet (k : Nat) {b : Nat} {l : List (κ × ν)} {t : TypeId} {x y z : Operand} {key : κ} {v : ν} (MK : MKey P kt kf) (ho : ops[i]? = some o) (hop : o.op = .mapUpdate t x y z) (hd : dstOk n o.dst = true) (hw : wantedL ops L o = some true) (hkn : knows L o = true)
    (ht : mapOf P t = some (kt, vt)) (hk : H[k]? = some (mpo kf vf b l)) (hx : rho L x = .map (some b)) (hy : rho L y = kf key) (hz : rho L z = vf v)
    (h : NW K n (putL o.dst undef L) (SAT w0 (H.set k (mpo kf vf b (mset l key v))))) : PW P ops Q i n L (SAT w0 H) K := by
  refine pw_run0 ho hd hw hkn (fun w hs => ?_) h
  obtain ⟨es, clock, hg, he, hst⟩ := map_in hk hs.1
  have hu := mapOf_spec ht
  rcases run_findKey (vf := vf) MK he key w with ⟨u, j, ⟨g1, ⟨e, g2, g2'⟩, g3, g4⟩, g5⟩ | ⟨⟨g1, g2, g3, g0⟩, g4⟩
  · obtain ⟨w', hr, hh, hkp⟩ := hp_setObj (P := P) (.map (es.modify j fun e => { e with key := kf key, val := vf v }) clock) hg
    refine ⟨w', ?_, sat_upd_map hk hs.1 hh (by rw [Array.toList_modify]; exact g3 v) (stamped_modify hst _ _ (fun _ _ => rfl) (fun e' _ he' => by rw [Array.getElem?_toList] at g2; rw [g2] at he'; cases he'; exact g2'.symm)), hs.2.trans hkp⟩
    rw [Array.getElem?_toList] at g2
    simp [execOp, hop, hx, hy, hz, Instr.mapUpdate, Sem.run_bind, run_underlying hu w, run_getMap hg, MK.check, g5, g2, g2', Instr.keyThatStays, MK.bits, hr, Result.andThen_ok]
  · obtain ⟨w', hr, hh, hkp⟩ := hp_setObj (P := P) (.map (es.push { key := kf key, val := vf v, born := clock }) (clock + 1)) hg
    refine ⟨w', ?_, sat_upd_map hk hs.1 hh (by rw [Array.toList_push]; exact g2 v _ rfl rfl) (stamped_push hst g0), hs.2.trans hkp⟩
    simp [execOp, hop, hx, hy, hz, Instr.mapUpdate, Sem.run_bind, run_underlying hu w, run_getMap hg, MK.check, g4, hr, Result.andThen_ok]

theorem pw_mapDel (k : Nat) {b : Nat} {l : List (κ × ν)} {t t2 : TypeId} {x y : Operand} {key : κ} (MK : MKey P kt kf) (ho : ops[i]? = some o) (hop : o.op = .call { callee := .builtin .delete, args := #[x, y], argTypes := #[t, t2] }) (hd : dstOk n o.dst = true) (hw : wantedL ops L o = some true) (hkn : knows L o = true)
    (ht : mapOf P t = some (kt, vt)) (hx : rho L x = .map (some b)) (hy : rho L y = kf key) (hk : H[k]? = some (mpo kf vf b l))
    (h : NW K n (putL o.dst (.tuple #[]) L) (SAT w0 (H.set k (mpo kf vf b (mdel l key))))) : PW P ops Q i n L (SAT w0 H) K := by
  refine pw_run (S' := fun u w => u = .tuple #[] ∧ SAT w0 (H.set k (mpo kf vf b (mdel l key))) w) ho hd hw hkn (fun w hs => ?_) fun u a w hf hs => by obtain ⟨rfl, hs⟩ := hs; exact h a w hf hs
  obtain ⟨es, clock, hg, he, hst⟩ := map_in hk hs.1
  have hu := mapOf_spec ht
  rcases run_findKey (vf := vf) MK he key w with ⟨u, j, ⟨g1, _, g3, g4⟩, g5⟩ | ⟨⟨g1, g2, g3, g0⟩, g4⟩
  · obtain ⟨w', hr, hh, hkp⟩ := hp_setObj (P := P) (.map (es.eraseIdxIfInBounds j) clock) hg
    refine ⟨_, w', ?_, rfl, sat_upd_map hk hs.1 hh (by rw [Array.toList_eraseIdxIfInBounds]; exact g4) (stamped_erase hst _), hs.2.trans hkp⟩
    simp [execOp, hop, resolve, invoke, builtin, Builtin.delete_, hx, hy, Sem.run_bind, run_underlying hu w, run_getMap hg, MK.check, g5, hr, Result.andThen_ok]
  · obtain ⟨w', hr, hh, hkp⟩ := hp_setObj (P := P) (.map es clock) hg
    refine ⟨_, w', ?_, rfl, sat_upd_map hk hs.1 hh (by rw [g3]; exact he) hst, hs.2.trans hkp⟩
    simp [execOp, hop, resolve, invoke, builtin, Builtin.delete_, hx, hy, Sem.run_bind, run_underlying hu w, run_getMap hg, MK.check, g4, hr, Result.andThen_ok]

theorem pw_mapClear (k : Nat) {b : Nat} {l : List (κ × ν)} {t : TypeId} {x : Operand} (ho : ops[i]? = some o) (hop : o.op = .call { callee := .builtin .clear, args := #[x], argTypes := #[t] }) (hd : dstOk n o.dst = true) (hw : wantedL ops L o = some true) (hkn : knows L o = true)
    (ht : mapOf P t = some (kt, vt)) (hx : rho L x = .map (some b)) (hk : H[k]? = some (mpo kf vf b l))
    (h : NW K n (putL o.dst (.tuple #[]) L) (SAT w0 (H.set k (mpo kf vf b ([] : List (κ × ν)))))) : PW P ops Q i n L (SAT w0 H) K := by
  refine pw_run (S' := fun u w => u = .tuple #[] ∧ SAT w0 (H.set k (mpo kf vf b ([] : List (κ × ν)))) w) ho hd hw hkn (fun w hs => ?_) fun u a w hf hs => by obtain ⟨rfl, hs⟩ := hs; exact h a w hf hs
  obtain ⟨es, clock, hg, he, hst⟩ := map_in hk hs.1
  have hu := mapOf_spec ht
  obtain ⟨w', hr, hh, hkp⟩ := hp_setObj (P := P) (.map #[] clock) hg
  refine ⟨_, w', ?_, rfl, sat_upd_map hk hs.1 hh rfl (stamped_empty _), hs.2.trans hkp⟩
  simp [execOp, hop, resolve, invoke, builtin, Builtin.clear_, hx, Sem.run_bind, run_underlying hu w, run_getMap hg, hr, Result.andThen_ok]

/-- a new map -/
theorem pw_makeMap (kf : κ → Value) (vf : ν → Value) {t : TypeId} (ho : ops[i]? = some o) (hop : o.op = .makeMap t none) (hd : dstOk n o.dst = true) (hw : wantedL ops L o = some true) (hkn : knows L o = true)
    (h : ∀ b : Nat, NW K n (putL o.dst (.map (some b)) L) (SAT w0 (mpo kf vf b ([] : List (κ × ν)) :: H))) : PW P ops Q i n L (SAT w0 H) K := by
  refine pw_run (S' := fun u w => ∃ b, u = .map (some b) ∧ SAT w0 (mpo kf vf b ([] : List (κ × ν)) :: H) w) ho hd hw hkn
    (fun w hs => ⟨_, w.alloc (.map #[] 0), ?_, w.heap.size, rfl, sat_alloc hs.1 ⟨#[], 0, by simp [Hl.one], rfl, stamped_empty 0⟩, hs.2.trans ⟨rfl, rfl, rfl⟩⟩) fun u a w hf hs => by obtain ⟨b, rfl, hs⟩ := hs; exact h b a w hf hs
  simp [execOp, hop, Instr.makeMap, newObj]
  rfl
end
end Go.Fw
