/- Rows whose elements hold slices of their own, that are never written. -/
import Derived.Test.YtilpkebkhibpeaaGreatDoorFwY
import Derived.Test.YtilpkebkhibpeaaGreatDoorFwX
import Derived.Test.YtilpkebkhibpeaaGreatDoorFwP
namespace Go.Fw
set_option linter.all false
open Go Go.RowKit Go.ChangeShapes Go.WideShapes Go.ChangeAt
/-- a slice as it lies -/
structure Rs (α : Type) where
  p : Option Addr
  c : Nat
  l : List α
/-- how elements that hold slices lie: by a twin that knows where these are -/
structure NEnc (α : Type) where
  β : Type
  e : Enc β
  log : β → α
  ok : Hl → β → Prop
  sub : ∀ {I J : Hl}, Hl.sub I J → ∀ r, ok I r → ok J r
section
variable {α : Type}
def roN (I : Hl) (n : NEnc α) (p : Option Addr) (c : Nat) (l : List α) : Prop := ∃ R : List n.β, ro I n.e p c R ∧ R.map n.log = l ∧ ∀ r ∈ R, n.ok I r
def elemN (I : Hl) (n : NEnc α) (q : Addr) (y : α) : Prop := ∃ r : n.β, elem I n.e q r ∧ n.log r = y ∧ n.ok I r
theorem roN.sub {I J : Hl} (h : Hl.sub I J) {n : NEnc α} {p : Option Addr} {c : Nat} {l : List α} (hr : roN I n p c l) : roN J n p c l := by
  obtain ⟨R, h1, h2, h3⟩ := hr
  exact ⟨R, h1.sub h, h2, fun r hr => n.sub h r (h3 r hr)⟩
theorem elemN.sub {I J : Hl} (h : Hl.sub I J) {n : NEnc α} {q : Addr} {y : α} (hr : elemN I n q y) : elemN J n q y := by
  obtain ⟨r, h1, h2, h3⟩ := hr
  exact ⟨r, h1.sub h, h2, n.sub h r h3⟩
theorem roN_nil (I : Hl) (n : NEnc α) : roN I n none 0 ([] : List α) := ⟨[], ro_nil I n.e, rfl, fun r hr => by cases hr⟩
theorem roN_at {I : Hl} {n : NEnc α} {p : Option Addr} {c : Nat} {l : List α} {j : Int} {y : α} (hr : roN I n p c l) (hy : at_ l j = some y) : ∃ R : List n.β, R.length = l.length ∧ ro I n.e p c R ∧ ∃ r, at_ R j = some r ∧ n.log r = y ∧ n.ok I r := by
  obtain ⟨R, h1, rfl, h3⟩ := hr
  obtain ⟨h0, hg⟩ := at_some hy
  rw [List.getElem?_map, Option.map_eq_some_iff] at hg
  obtain ⟨r, hr, hl⟩ := hg
  refine ⟨R, by rw [List.length_map], h1, r, ?_, hl, h3 r (List.mem_of_getElem? hr)⟩
  unfold at_
  rw [if_pos h0, hr]
end
section
variable {P : Program} {ops : Array Oper} {Q : Exit → Act → World → Prop} {i n tl : Nat} {L : Slots} {S : World → Prop}
theorem pw_index_roN {K : Act → World → Prop} {o : Oper} {α : Type} {ne : NEnc α} {E : Nat} {p : Option Addr} {c : Nat} {l : List α} {I : Hl} {t : TypeId} {x ix : Operand} {kd : IntKind} {j : Int} {y : α} (sz : Nat) (hr : roN I ne p c l) (ho : ops[i]? = some o) (hop : o.op = .indexAddr t x ix) (hd : dstOk n o.dst = true) (hw : wantedL ops L o = some true) (hkn : knows L o = true)
    (ht : slOf P t = some (E, sz)) (hsz : ne.e.sz = sz) (hx : rho L x = .slice p l.length c) (hix : rho L ix = .int kd j) (hy : at_ l j = some y) (h : ∀ q : Addr, elemN I ne q y → NW K n (putL o.dst (.pointer (some q)) L) S) : PW P ops Q i n L S K := by
  obtain ⟨R, hl, hR, r, hrj, hlog, hok⟩ := roN_at hr hy
  exact pw_index_ro sz hR ho hop hd hw hkn ht hsz (by rw [hx, hl]) hix hrj fun q hq => h q ⟨r, hq, hlog, hok⟩
theorem aw_index_roN (i : Nat) {T : World → Prop} {f m m' : Nat} {o : Oper} {α : Type} {ne : NEnc α} {E : Nat} {p : Option Addr} {c : Nat} {l : List α} {I : Hl} {t : TypeId} {x ix : Operand} {kd : IntKind} {j : Int} {y : α} (sz : Nat) (hr : roN I ne p c l) (ho : ops[i]? = some o) (hop : o.op = .indexAddr t x ix) (hd : dstOk n o.dst = true) (hw : wantedL ops L o = some true) (hkn : knows L o = true)
    (hmay : mayNow ops tl m i = true) (hm' : m ||| 2 ^ i = m') (hQ : Calm Q) (hT : ∀ w, S w → T w)
    (ht : slOf P t = some (E, sz)) (hsz : ne.e.sz = sz) (hx : rho L x = .slice p l.length c) (hix : rho L ix = .int kd j) (hy : at_ l j = some y) (h : ∀ q : Addr, elemN I ne q y → AW P ops Q tl T f m' n (putL o.dst (.pointer (some q)) L) S) : AW P ops Q tl T (f + 1) m n L S := by
  obtain ⟨R, hl, hR, r, hrj, hlog, hok⟩ := roN_at hr hy
  exact aw_index_ro i sz hR ho hop hd hw hkn hmay hm' hQ hT ht hsz (by rw [hx, hl]) hix hrj fun q hq => h q ⟨r, hq, hlog, hok⟩
end
/-! ### decoders -/
section
variable {P : Program} {t : TypeId}
theorem dec_mono {α : Type} {F G : Hl → List Value → α → Prop} {wf : α → Prop} {N : α → List Nat} (h : Dec P t F wf N) (hm : ∀ I cs a, F I cs a → G I cs a) : Dec P t G wf N := by
  intro H enc w base spare held fuel cs x hx
  obtain ⟨a, h1, h2, h3⟩ := h H enc w base spare held fuel cs x hx
  exact ⟨a, hm _ _ _ h1, h2, h3⟩
theorem dec_sliceN {α : Type} {E : TypeId} (ne : NEnc α) {wf : α → Prop} {N : α → List Nat} (hD : Dec P E (fun I cs a => ∃ r : ne.β, cs = ne.e.f r ∧ ne.log r = a ∧ ne.ok I r) wf N) (ht : P.underlying t = some (.slice E)) (hsz : P.cellsOf E = ne.e.sz) :
    Dec P t (fun I cs l => ∃ p c, cs = [.slice p l.length c] ∧ roN I ne p c l) (fun l => ∀ a ∈ l, wf a) (fun l => l.length * P.bytesOf E :: l.flatMap N) := by
  intro H enc w base spare held fuel cs x h
  rcases DataW.trod_slice ht h with ⟨rfl, rfl⟩ | ⟨a, len, cap, elems, rest, n, _, rfl, rfl, hb, hl, hm, hlen, hel, hsp, hns⟩
  · exact ⟨[], ⟨none, 0, rfl, roN_nil _ _⟩, (fun a ha => by cases ha), fun R hR m hm => by simp at hm; omega⟩
  have each : ∀ i, i < len → ∃ z : ne.β, ∃ y cs', elems[i]? = some y ∧ w.cells? base (a.add (i * ne.e.sz)) ne.e.sz = some cs' ∧ cs' = ne.e.f z ∧ ne.ok (hp w) z ∧ wf (ne.log z) ∧ ∀ R, (∀ n ∈ y.1.weights P E, n ≤ R) → ∀ n ∈ N (ne.log z), n ≤ R := by
    intro i hi
    have h1 := hel i hi
    rw [List.getElem?_eq_getElem (by omega), hsz, Option.bind_eq_some_iff] at h1
    obtain ⟨cs', h2, h3⟩ := h1
    obtain ⟨z, ⟨r, hz, rfl, hk⟩, hw, hN⟩ := hD H enc w base spare held n cs' _ h3
    exact ⟨r, _, cs', List.getElem?_eq_getElem (by omega), h2, hz, hk, hw, hN⟩
  obtain ⟨l, hll, hl2⟩ := list_choose len each
  have hget : ∀ z ∈ l, ∃ i, i < len ∧ l[i]? = some z := fun z hz => by
    obtain ⟨i, hi⟩ := List.getElem?_of_mem hz
    exact ⟨i, by have := (List.getElem?_eq_some_iff.1 hi).1; omega, hi⟩
  refine ⟨l.map ne.log, ⟨some a, cap, by rw [List.length_map, hll], l, ⟨by omega, hm, (fun h => by cases h), fun j v hj => ⟨a, rfl, ?_⟩⟩, rfl, fun r hr => ?_⟩, fun z hz => ?_, fun R hR m hm => ?_⟩
  · have hjl : j < l.length * ne.e.sz := by
      have := (List.getElem?_eq_some_iff.1 hj).1
      rwa [Enc.all_length] at this
    have hq : (j / ne.e.sz) * ne.e.sz + j % ne.e.sz = j := by rw [Nat.mul_comm]; exact Nat.div_add_mod j ne.e.sz
    have hr : j % ne.e.sz < ne.e.sz := Nat.mod_lt _ ne.e.pos
    have hd : j / ne.e.sz < l.length := Nat.div_lt_of_lt_mul (by rw [Nat.mul_comm]; exact hjl)
    obtain ⟨y, cs', _, h2, h3, _⟩ := hl2 (j / ne.e.sz) _ (List.getElem?_eq_getElem hd)
    have hg := Enc.all_get ne.e (List.getElem?_eq_getElem hd) (j % ne.e.sz) hr
    rw [hq, hj, ← h3] at hg
    have hcell := (World.cells?_some h2).2.2 (j % ne.e.sz) hr
    rw [add_add, hq, ← hg] at hcell
    rw [cellOf_hp]
    exact hcell
  · obtain ⟨i, hi, hz⟩ := hget r hr
    obtain ⟨y, cs', _, _, _, hk, _⟩ := hl2 i r hz
    exact hk
  · obtain ⟨r, hr, rfl⟩ := List.mem_map.1 hz
    obtain ⟨i, hi, hz⟩ := hget r hr
    obtain ⟨y, cs', _, _, _, _, hw, _⟩ := hl2 i r hz
    exact hw
  · have hel2 : ∀ y ∈ elems, ∀ n ∈ y.1.weights P E, n ≤ R := fun y hy n hn => hR n (by
      simp only [DataW.weights, ht, List.mem_cons, List.mem_append]
      exact Or.inr (Or.inl (weights_mem_all (d := y.1) (List.mem_map.2 ⟨y, hy, rfl⟩) n hn)))
    rcases List.mem_cons.1 hm with rfl | hm
    · have := hR ((elems.length + rest.length) * P.bytesOf E) (by simp [DataW.weights, ht])
      refine Nat.le_trans (Nat.mul_le_mul_right _ ?_) this
      rw [List.length_map]
      omega
    · obtain ⟨z, hz, hm⟩ := List.mem_flatMap.1 hm
      obtain ⟨r, hr, rfl⟩ := List.mem_map.1 hz
      obtain ⟨i, hi, hz⟩ := hget r hr
      obtain ⟨y, cs', hy, _, _, _, _, hN⟩ := hl2 i r hz
      exact hN R (hel2 y (List.mem_of_getElem? hy)) m hm
end
end Go.Fw
