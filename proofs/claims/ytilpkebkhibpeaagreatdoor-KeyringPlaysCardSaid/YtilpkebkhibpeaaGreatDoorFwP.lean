/- What comes in, decoded: a type's cells, as a plain value; how great what it holds is. -/
import Derived.Test.YtilpkebkhibpeaaGreatDoorFwL
namespace Go.Fw
set_option linter.all false
open Go Go.RowKit Go.ChangeShapes Go.WideShapes Go.ChangeAt

/-- the cells of a type are those of a plain value, of which 'wf' holds, and which weighs 'N' -/
def Dec (P : Program) (t : TypeId) {α : Type} (F : Hl → List Value → α → Prop) (wf : α → Prop) (N : α → List Nat) : Prop :=
  ∀ (H : Type) (enc : TypeId × Value → H) (w : World) (base : Nat) (spare : Nat → Bool) (held : Bool) (fuel : Nat) (cs : List Value) (x : DataW H × List MemPlace), DataW.trod enc P w base spare held fuel t cs = some x →
    ∃ a, F (hp w) cs a ∧ wf a ∧ ∀ R, (∀ n ∈ x.1.weights P t, n ≤ R) → ∀ n ∈ N a, n ≤ R

section
variable {P : Program} {t : TypeId}
theorem dec_int {k : IntKind} (ht : P.underlying t = some (.int k)) : Dec P t (fun _ cs (n : Int) => cs = [.int k n]) (fun n => (Lit.int k n).wf = true) (fun _ => []) := by
  intro H enc w base spare held fuel cs x h
  obtain ⟨n, rfl, rfl, hw⟩ := DataW.trod_int ht h
  exact ⟨n, rfl, hw, fun R _ m hm => by cases hm⟩
theorem dec_bool (ht : P.underlying t = some .bool) : Dec P t (fun _ cs (b : Bool) => cs = [.bool b]) (fun _ => True) (fun _ => []) := by
  intro H enc w base spare held fuel cs x h
  obtain ⟨n, rfl, rfl⟩ := DataW.trod_bool ht h
  exact ⟨n, rfl, trivial, fun R _ m hm => by cases hm⟩
theorem dec_str (ht : P.underlying t = some .string) : Dec P t (fun _ cs (s : ByteArray) => cs = [.string s]) (fun _ => True) (fun s => [s.size]) := by
  intro H enc w base spare held fuel cs x h
  obtain ⟨s, rfl, rfl, hw⟩ := DataW.trod_string ht h
  refine ⟨s, rfl, trivial, fun R hR m hm => ?_⟩
  rw [List.mem_singleton] at hm
  subst hm
  exact hR _ (by simp [DataW.weights])

theorem list_choose {α : Type} {p : Nat → α → Prop} : ∀ (n : Nat), (∀ i, i < n → ∃ a, p i a) → ∃ l : List α, l.length = n ∧ ∀ i a, l[i]? = some a → p i a
  | 0, _ => ⟨[], rfl, fun i a h => by cases h⟩
  | n + 1, h => by
    obtain ⟨l, hl, hp⟩ := list_choose n fun i hi => h i (by omega)
    obtain ⟨a, ha⟩ := h n (by omega)
    refine ⟨l ++ [a], by simp [hl], fun i b hb => ?_⟩
    by_cases hi : i < n
    · rw [List.getElem?_append_left (by omega)] at hb; exact hp i b hb
    · rw [List.getElem?_append_right (by omega)] at hb
      have : i = n := by have := (List.getElem?_eq_some_iff.1 hb).1; simp at this; omega
      subst this
      rw [hl, Nat.sub_self] at hb
      cases hb; exact ha

theorem dec_slice {α : Type} {E : TypeId} (e : Enc α) {wf : α → Prop} {N : α → List Nat} (hD : Dec P E (fun _ cs a => cs = e.f a) wf N) (ht : P.underlying t = some (.slice E)) (hsz : P.cellsOf E = e.sz) :
    Dec P t (fun I cs l => ∃ p c, cs = [.slice p l.length c] ∧ ro I e p c l) (fun l => ∀ a ∈ l, wf a) (fun l => l.length * P.bytesOf E :: l.flatMap N) := by
  intro H enc w base spare held fuel cs x h
  rcases DataW.trod_slice ht h with ⟨rfl, rfl⟩ | ⟨a, len, cap, elems, rest, n, _, rfl, rfl, hb, hl, hm, hlen, hel, hsp, hns⟩
  · exact ⟨[], ⟨none, 0, rfl, ro_nil _ _⟩, (fun a ha => by cases ha), fun R hR m hm => by simp at hm; omega⟩
  have each : ∀ i, i < len → ∃ z : α, ∃ y cs', elems[i]? = some y ∧ w.cells? base (a.add (i * e.sz)) e.sz = some cs' ∧ cs' = e.f z ∧ wf z ∧ ∀ R, (∀ n ∈ y.1.weights P E, n ≤ R) → ∀ n ∈ N z, n ≤ R := by
    intro i hi
    have h1 := hel i hi
    rw [List.getElem?_eq_getElem (by omega), hsz, Option.bind_eq_some_iff] at h1
    obtain ⟨cs', h2, h3⟩ := h1
    obtain ⟨z, hz, hw, hN⟩ := hD H enc w base spare held n cs' _ h3
    exact ⟨z, _, cs', List.getElem?_eq_getElem (by omega), h2, hz, hw, hN⟩
  obtain ⟨l, hll, hl2⟩ := list_choose len each
  have hget : ∀ z ∈ l, ∃ i, i < len ∧ l[i]? = some z := fun z hz => by
    obtain ⟨i, hi⟩ := List.getElem?_of_mem hz
    exact ⟨i, by have := (List.getElem?_eq_some_iff.1 hi).1; omega, hi⟩
  refine ⟨l, ⟨some a, cap, by rw [hll], by omega, hm, (fun h => by cases h), fun j v hj => ⟨a, rfl, ?_⟩⟩, fun z hz => ?_, fun R hR m hm => ?_⟩
  · have hjl : j < l.length * e.sz := by
      have := (List.getElem?_eq_some_iff.1 hj).1
      rwa [Enc.all_length] at this
    have hq : (j / e.sz) * e.sz + j % e.sz = j := by rw [Nat.mul_comm]; exact Nat.div_add_mod j e.sz
    have hr : j % e.sz < e.sz := Nat.mod_lt _ e.pos
    have hd : j / e.sz < l.length := Nat.div_lt_of_lt_mul (by rw [Nat.mul_comm]; exact hjl)
    obtain ⟨y, cs', _, h2, h3, _⟩ := hl2 (j / e.sz) _ (List.getElem?_eq_getElem hd)
    have hg := Enc.all_get e (List.getElem?_eq_getElem hd) (j % e.sz) hr
    rw [hq, hj, ← h3] at hg
    have hcell := (World.cells?_some h2).2.2 (j % e.sz) hr
    rw [add_add, hq, ← hg] at hcell
    rw [cellOf_hp]
    exact hcell
  · obtain ⟨i, hi, hz⟩ := hget z hz
    obtain ⟨y, cs', _, _, _, hw, _⟩ := hl2 i z hz
    exact hw
  · have hel2 : ∀ y ∈ elems, ∀ n ∈ y.1.weights P E, n ≤ R := fun y hy n hn => hR n (by
      simp only [DataW.weights, ht, List.mem_cons, List.mem_append]
      exact Or.inr (Or.inl (weights_mem_all (d := y.1) (List.mem_map.2 ⟨y, hy, rfl⟩) n hn)))
    rcases List.mem_cons.1 hm with rfl | hm
    · have := hR ((elems.length + rest.length) * P.bytesOf E) (by simp [DataW.weights, ht])
      refine Nat.le_trans (Nat.mul_le_mul_right _ ?_) this
      omega
    · obtain ⟨z, hz, hm⟩ := List.mem_flatMap.1 hm
      obtain ⟨i, hi, hz⟩ := hget z hz
      obtain ⟨y, cs', hy, _, _, _, hN⟩ := hl2 i z hz
      exact hN R (hel2 y (List.mem_of_getElem? hy)) m hm

/-- a run of cells, in parts -/
def cparts : List Nat → Nat → List Value → List (List Value)
  | [], _, _ => []
  | s :: r, o, cs => (cs.drop o).take s :: cparts r (o + s) cs
theorem cells_parts : ∀ (ss : List Nat) (o : Nat) (cs : List Value), cs.length = o + ss.sum → cs.drop o = (cparts ss o cs).flatten
  | [], o, cs, h => by simp at h; simp [cparts, h]
  | s :: r, o, cs, h => by
    simp only [cparts, List.flatten_cons]
    rw [← cells_parts r (o + s) cs (by simp at h; omega), ← List.drop_drop, List.take_append_drop]
theorem weights_agg {H : Type} {fs : Array Field} {xs : List (DataW H × List MemPlace)} {R : Nat} (ht : P.underlying t = some (.struct fs)) (hR : ∀ n ∈ (DataW.agg (xs.map (·.1))).weights P t, n ≤ R) {j : Nat} {f : Field} {y : DataW H × List MemPlace} (hf : fs[j]? = some f) (hy : xs[j]? = some y) : ∀ n ∈ y.1.weights P f.type, n ≤ R := fun n hn => hR n (by
  simp only [DataW.weights, ht]
  exact DataW.weights_mem_each (by rw [List.getElem?_map, Array.getElem?_toList, hf]; rfl) (by rw [List.getElem?_map, hy]; rfl) n hn)
theorem get_some {α : Type} {l : List α} {n : Nat} (h : l.length = n) (i : Nat) (hi : i < n) : ∃ y, l[i]? = some y := ⟨_, List.getElem?_eq_getElem (by omega)⟩
theorem arr_of {cs : Array Value} {l : List Value} (h : cs.toList = l) : cs = l.toArray := by rw [← h]
theorem sized_dec {H : Type} {ts : List TypeId} {ds : List (DataW H)} (h : (DataW.weightsEach P ts ds).all (· ≤ reachBytes) = true) {j : Nat} {x : DataW H} (ht : ts[j]? = some t) (hd : ds[j]? = some x) {N : List Nat} (hN : ∀ R, (∀ n ∈ x.weights P t, n ≤ R) → ∀ n ∈ N, n ≤ R) : ∀ n ∈ N, n ≤ 140737488351232 :=
  hN 140737488351232 fun n hn => of_decide_eq_true (List.all_eq_true.1 h _ (DataW.weights_mem_each ht hd n hn))
end
end Go.Fw
