/- Rows and texts, more: elements of the call's own rows, parts of slices and of texts, bytes and texts. -/
import Derived.Test.YtilpkebkhibpeaaGreatDoorFwG
namespace Go.Fw
set_option linter.all false
open Go Go.RowKit
section
variable {P : Program} {ops : Array Oper} {Q : Exit → Act → World → Prop} {i n : Nat} {L : Slots} {S : World → Prop} {o : Oper} {w0 : World} {H : List HP} {K : Act → World → Prop} {α : Type} {e : Enc α} {E : Nat} {p : Option Addr} {c : Nat} {l : List α} {I : Hl}

def base (p : Option Addr) : Addr := p.getD ⟨0, 0, none⟩
theorem own_base {h : Hl} (ho : own e E p c l h) (hl : 0 < c) : ∃ g cur fz, p = some ⟨g, 0, none⟩ ∧ base p = ⟨g, 0, none⟩ ∧ h g = some (.cells cur E fz) ∧ soft fz cur.size ∧ cur.size = c * e.sz ∧ cur.toList.take (l.length * e.sz) = e.all l := by
  obtain ⟨_, _, _, hcase⟩ := ho
  rcases hcase with ⟨_, hc0⟩ | ⟨g, cur, fz, rfl, h1, h2, h3, h4⟩
  · omega
  · exact ⟨g, cur, fz, rfl, rfl, h1, h2, h3, h4⟩

theorem q_index_own (k : Nat) {t : TypeId} {x ix : Operand} {kd : IntKind} {j : Int} (sz : Nat) (hk : H[k]? = some (own e E p c l)) (hop : o.op = .indexAddr t x ix)
    (hsl : slOf P t = some (E, sz)) (hx : rho L x = .slice p l.length c) (hix : rho L ix = .int kd j) (h0 : 0 ≤ j) (hj : j < l.length) :
    RunIs P (SAT w0 H) L o (.pointer (some ((base p).add (j.toNat * sz)))) := by
  intro w hs
  obtain ⟨hu, inf, hi, hisz⟩ := slOf_spec hsl
  obtain ⟨h, h1, h2, _⟩ := sat_at hk hs.1
  have hc : 0 < c := by have := h2.2.1; omega
  obtain ⟨g, cur, fz, rfl, hb, _⟩ := own_base h2 hc
  simp [execOp, hop, hx, hix, Instr.indexAt, asIntOf, run_underlying hu, h0, hj, sizeOf, typeInfo, hi, hisz, hb]

theorem q_load_own (k : Nat) {t : TypeId} {x : Operand} {j : Int} {y : α} {off : Nat} {v : Value} (sz : Nat) (hk : H[k]? = some (own e E p c l)) (hsz : e.sz = sz) (hop : o.op = .load t x)
    (hx : rho L x = .pointer (some (((base p).add (j.toNat * sz)).add off))) (hy : l[j.toNat]? = some y) (hv : elLoad P t (e.f y) off = some v) : RunIs P (SAT w0 H) L o v := by
  subst hsz
  intro w hs
  obtain ⟨h, h1, h2, _⟩ := sat_at hk hs.1
  have hjl : j.toNat < l.length := (List.getElem?_eq_some_iff.1 hy).1
  have hel : elem (hp w) e ((base p).add (j.toNat * e.sz)) y := by
    intro r u hr
    have hrl : r < e.sz := by have := (List.getElem?_eq_some_iff.1 hr).1; rw [e.len] at this; exact this
    obtain ⟨a, hp', hc⟩ := own_cells h1 h2 (j.toNat * e.sz + r) u (by rw [Enc.all_get e hy r hrl]; exact hr)
    rw [add_add, hp']
    exact hc
  have hl := run_loadVar_el (P := P) (Hl.sub_refl (hp w)) hel hv
  simp only [execOp, hop, hx, Instr.loadAt, Instr.sureAddr, Sem.run_bind, Sem.run_pure, Result.andThen_ok, hl]
theorem q_load_own0 (k : Nat) {t : TypeId} {x : Operand} {j : Int} {y : α} {v : Value} (sz : Nat) (hk : H[k]? = some (own e E p c l)) (hsz : e.sz = sz) (hop : o.op = .load t x)
    (hx : rho L x = .pointer (some ((base p).add (j.toNat * sz)))) (hy : l[j.toNat]? = some y) (hv : elLoad P t (e.f y) 0 = some v) : RunIs P (SAT w0 H) L o v :=
  q_load_own k sz hk hsz hop (off := 0) (by rw [hx]; rfl) hy hv

theorem run_storeVar_mid {w : World} {b : Nat} {cs : Array Value} {T : TypeId} {fz : Nat × Nat} (hg : hp w b = some (.cells cs T fz)) (hs : soft fz cs.size) {t : TypeId} {off : Nat} {v : Value} {inf : TypeInfo} (hi : P.info? t = some inf) (hv : v.cells.size = inf.size)
    (hfit : off + v.cells.size ≤ cs.size) (h1 : v.cells.toList.all (·.oneCell') = true) :
    ∃ w', (storeVar t ⟨b, off, none⟩ v).run P w = .ok () w' ∧ hp w' = (hp w).upd b (.cells (setAll cs off v.cells.toList) T fz) ∧ Keep w w' :=
  run_storeVar_pt hg hs (by
    unfold ptStore
    rw [hi]
    simp only
    rw [show (Nat.beq v.cells.size inf.size && (Nat.ble (off + v.cells.size) cs.size && v.cells.toList.all (·.oneCell'))) = true by
      simp only [Bool.and_eq_true]; exact ⟨by rw [hv]; exact Nat.beq_refl _, Nat.ble_eq_true_of_le hfit, h1⟩]
    rfl)

/-- 'l[j].f = v', a row of the call's own -/
theorem pw_store_own (k : Nat) {t : TypeId} {x y : Operand} {j : Int} {z z' : α} {off : Nat} (sz : Nat) (hk : H[k]? = some (own e E p c l)) (hsz : e.sz = sz) (ho : ops[i]? = some o) (hop : o.op = .store t x y) (hd : dstOk n o.dst = true) (hw : wantedL ops L o = some true) (hkn : knows L o = true)
    (hx : rho L x = .pointer (some (((base p).add (j.toNat * sz)).add off))) (hz : l[j.toNat]? = some z) (hst : ptStore P t (e.f z).toArray off (rho L y) = some (e.f z').toArray)
    (h : NW K n (putL o.dst undef L) (SAT w0 (H.set k (own e E p c (l.set j.toNat z'))))) : PW P ops Q i n L (SAT w0 H) K := by
  subst hsz
  refine pw_run0 ho hd hw hkn (fun w hsat => ?_) h
  obtain ⟨hh, h1, h2, _⟩ := sat_at hk hsat.1
  have hjl : j.toNat < l.length := (List.getElem?_eq_some_iff.1 hz).1
  have hc : 0 < c := by have := h2.2.1; omega
  obtain ⟨g, cur, fz, rfl, hb, hg, hsoft, hcs, htk⟩ := own_base h2 hc
  have hgw := h1 g _ hg
  have hlc : l.length ≤ c := h2.2.1
  unfold ptStore at hst
  cases hi : P.info? t with
  | none => rw [hi] at hst; cases hst
  | some inf =>
  rw [hi] at hst
  simp only at hst
  cases hbb : (Nat.beq (rho L y).cells.size inf.size && (Nat.ble (off + (rho L y).cells.size) (e.f z).toArray.size && (rho L y).cells.toList.all (·.oneCell'))) with
  | false => rw [hbb] at hst; cases hst
  | true =>
  rw [hbb] at hst
  simp only [cond_true, Option.some.injEq] at hst
  simp only [Bool.and_eq_true] at hbb
  obtain ⟨g1, g2, g3⟩ := hbb
  have g1 := Nat.eq_of_beq_eq_true g1
  have g2 : off + (rho L y).cells.size ≤ e.sz := by have := Nat.le_of_ble_eq_true g2; simpa [e.len] using this
  have hmul : j.toNat * e.sz + e.sz ≤ l.length * e.sz := by rw [← Nat.succ_mul]; exact Nat.mul_le_mul_right _ hjl
  have hmul2 : l.length * e.sz ≤ c * e.sz := Nat.mul_le_mul_right _ hlc
  obtain ⟨w', hr, hhp, hkp⟩ := run_storeVar_mid (P := P) hgw hsoft (t := t) (off := j.toNat * e.sz + off) (v := rho L y) hi g1 (by omega) g3
  refine ⟨w', ?_, ?_, hsat.2.trans hkp⟩
  · simp only [execOp, hop, hx, hb, add_lit, Nat.zero_add, Instr.storeAt, Instr.sureAddr, Sem.run_bind, Sem.run_pure, Result.andThen_ok, hr]
  · refine sat_set hk hsat.1 fun hh2 hsub ho2 => ?_
    obtain ⟨_, _, hcm, hcase2⟩ := ho2
    rcases hcase2 with ⟨hp0, _⟩ | ⟨g5, cur5, fz5, hp5, hg5, _⟩
    · cases hp0
    · cases hp5
      refine ⟨hh2.upd g (.cells (setAll cur (j.toNat * e.sz + off) (rho L y).cells.toList) E fz), fun b ob hbo => ?_, ⟨e.all_length _, by simpa using hlc, hcm, .inr ⟨g, setAll cur (j.toNat * e.sz + off) (rho L y).cells.toList, fz, rfl, by simp [Hl.upd], by rw [size_setAll]; exact hsoft, by rw [size_setAll]; exact hcs, ?_⟩⟩, fun b ob e1 e2 => ?_⟩
      · rw [hhp]
        unfold Hl.upd at hbo ⊢
        by_cases hbg : b = g
        · rw [if_pos hbg] at hbo ⊢; exact hbo
        · rw [if_neg hbg] at hbo ⊢; exact hsub b ob hbo
      · have hfit : j.toNat * e.sz + off + (rho L y).cells.toList.length ≤ cur.size := by rw [Array.length_toList]; omega
        apply List.ext_getElem?
        intro r
        have key : ∀ r, r < l.length * e.sz → (e.all l)[r]? = cur[r]? := fun r hr => by
          rw [← htk, List.getElem?_take, if_pos hr, Array.getElem?_toList]
        rw [List.length_set, List.getElem?_take]
        by_cases hrl : r < l.length * e.sz
        · rw [if_pos hrl, Array.getElem?_toList, getElem?_setAll _ _ _ _ hfit]
          have hq : (r / e.sz) * e.sz + r % e.sz = r := by rw [Nat.mul_comm]; exact Nat.div_add_mod r e.sz
          have hm : r % e.sz < e.sz := Nat.mod_lt _ e.pos
          have hdl : r / e.sz < l.length := Nat.div_lt_of_lt_mul (by rw [Nat.mul_comm]; exact hrl)
          have hset : (e.all (l.set j.toNat z'))[r]? = if r / e.sz = j.toNat then (e.f z')[r % e.sz]? else (e.all l)[r]? := by
            by_cases hrj : r / e.sz = j.toNat
            · rw [if_pos hrj]
              have := Enc.all_get e (l := l.set j.toNat z') (i := j.toNat) (x := z') (by rw [List.getElem?_set_self hjl]) (r % e.sz) hm
              rw [← hrj, hq] at this
              rw [hrj] at this
              exact this
            · rw [if_neg hrj]
              have a1 := Enc.all_get e (l := l.set j.toNat z') (i := r / e.sz) (x := l[r / e.sz]) (by rw [List.getElem?_set_ne (fun h => hrj h.symm)]; exact List.getElem?_eq_getElem hdl) (r % e.sz) hm
              have a2 := Enc.all_get e (l := l) (i := r / e.sz) (x := l[r / e.sz]) (List.getElem?_eq_getElem hdl) (r % e.sz) hm
              rw [hq] at a1 a2
              rw [a1, a2]
          rw [hset]
          have hz' : (e.f z') = (setAll (e.f z).toArray off (rho L y).cells.toList).toList := by rw [hst]
          by_cases hrj : r / e.sz = j.toNat
          · rw [if_pos hrj, hz', Array.getElem?_toList (xs := setAll _ _ _), getElem?_setAll _ (e.f z).toArray _ _ (by rw [List.size_toArray, e.len, Array.length_toList]; exact g2)]
            have hrr : r = j.toNat * e.sz + r % e.sz := by rw [← hrj]; exact hq.symm
            have hold := Enc.all_get e hz (r % e.sz) hm
            rw [← hrr, key r hrl] at hold
            by_cases hin : off ≤ r % e.sz ∧ r % e.sz < off + (rho L y).cells.toList.length
            · rw [if_pos hin, if_pos (by omega)]
              congr 1; omega
            · rw [if_neg hin, if_neg (by omega), hold]
              simp
          · rw [if_neg hrj, if_neg, key r hrl]
            rw [Array.length_toList]
            rintro ⟨b1, b2⟩
            apply hrj
            have : r / e.sz = j.toNat := by
              rw [Nat.div_eq_iff e.pos]
              omega
            exact this
        · rw [if_neg hrl, List.getElem?_eq_none (by rw [e.all_length, List.length_set]; omega)]
      · have hbg : b ≠ g := by intro hbg; subst hbg; rw [hg5] at e2; cases e2
        rw [hhp]; unfold Hl.upd; rw [if_neg hbg, if_neg hbg]; exact ⟨e1, e2⟩
end
end Go.Fw
