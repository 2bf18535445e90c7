/- From a call's contract to the row: what came in is never written, and read as it was. -/
import Derived.Test.YtilpkebkhibpeaaGreatDoorFwK
import Derived.ProofKit
import Derived.OpenShut
import Derived.ShutString
import Derived.ChangeOld
import Derived.Below
import Derived.SizedLaws
import Derived.SliceStrings
namespace Go.Fw
set_option linter.all false
open Go Go.RowKit Go.ChangeShapes Go.WideShapes Go.ChangeAt

theorem below_of_sub {W W' : World} (hs : Hl.sub (hp W) (hp W')) (hk : Keep W W') : Below W.heap.size W W' := by
  refine ⟨hk.os, hk.tape, hk.output, ?_, fun k hk => ?_⟩
  · rcases Nat.eq_zero_or_pos W.heap.size with h | h
    · omega
    · have hlt : W.heap.size - 1 < W.heap.size := by omega
      have := hs (W.heap.size - 1) _ (Array.getElem?_eq_getElem hlt)
      have h2 := (Array.getElem?_eq_some_iff.1 this).1
      omega
  · rw [Array.getElem?_eq_getElem hk]
    exact hs k _ (Array.getElem?_eq_getElem hk)

theorem calls_of_tr {P : Program} {f : FuncId} {args : List Value} {W : World} {R : Value → List HP → Prop} (h : Tr P f args [imm (hp W)] R)
    (hR : ∀ r H', R r H' → r = .bool true ∧ ∃ J G, H' = imm J :: G ∧ Hl.sub (hp W) J) :
    Calls P f args.toArray W fun e W' => e = .returned (.bool true) ∧ Below W.heap.size W W' := by
  refine (h [] W ⟨hp W, Hl.sub_refl _, Hl.sub_refl _, trivial⟩).mono ?_
  rintro e W' ⟨r, H', rfl, hr, hs, hk⟩
  obtain ⟨rfl, J, G, rfl, hJ⟩ := hR r H' hr
  obtain ⟨g, h1, h2, _⟩ := hs
  exact ⟨rfl, below_of_sub (Hl.sub_trans hJ (Hl.sub_trans h2 h1)) hk⟩

/-- cells that come in, as a slice that is never written -/
theorem ro_of_cells {α : Type} {e : Enc α} {W : World} {a : Addr} {cap : Nat} {l : List α} (h1 : e.sz = 1) (hl : l.length ≤ cap) (hm : cap ≤ maxLen)
    (h : ∀ i x, l[i]? = some x → ∃ v, e.f x = [v] ∧ W.cell? (a.add i) = some v) : ro (hp W) e (some a) cap l := by
  refine ⟨hl, hm, (fun h => by cases h), fun j v hj => ⟨a, rfl, ?_⟩⟩
  have hjl : j < l.length := by
    have := (List.getElem?_eq_some_iff.1 hj).1
    rw [Enc.all_length, h1, Nat.mul_one] at this
    exact this
  obtain ⟨v', h2, h3⟩ := h j l[j] (List.getElem?_eq_getElem hjl)
  have hg := Enc.all_get e (List.getElem?_eq_getElem hjl) 0 e.pos
  rw [h1, Nat.mul_one, Nat.add_zero, h2, hj] at hg
  have hv : v = v' := Option.some.inj hg
  subst hv
  rw [cellOf_hp]
  exact h3

theorem take_get? {α : Type} {l : List α} {k i : Nat} {x : α} (h : (l.take k)[i]? = some x) : i < k ∧ l[i]? = some x := by
  rw [List.getElem?_take] at h
  split at h
  · exact ⟨by assumption, h⟩
  · cases h

section
variable {H : Type} {enc : TypeId × Value → H} {P : Program} {w : World} {base : Nat} {spare : Nat → Bool} {held : Bool}

theorem ro_strings {t e : TypeId} {fuel : Nat} {p : Option Addr} {len cap : Nat} {x : DataW H × List MemPlace} (ht : P.underlying t = some (.slice e)) (he : P.underlying e = some .string) (hc : P.cellsOf e = 1)
    (h : DataW.trod enc P w base spare held fuel t [.slice p len cap] = some x) :
    ∃ l : List ByteArray, len = l.length ∧ ro (hp w) eStr p cap l ∧ (∀ s ∈ l, s.size ≤ maxLen) ∧ ((x.1 = .nil ∧ l = []) ∨ ∃ sp, x.1 = .slice (l.map fun s => .lit (.string s.data.toList)) sp) := by
  rcases open_strings ht he hc h with ⟨hcs, hx⟩ | ⟨a, len', cap', ss, hcs, _, hl, hm, hz, hx, hcell, hwz⟩
  · injection hcs with hcs _
    injection hcs with h1 h2 h3
    subst h1; subst h2; subst h3
    exact ⟨[], rfl, ro_nil _ _, by simp, .inl (by rw [hx]; exact ⟨rfl, rfl⟩)⟩
  · injection hcs with hcs _
    injection hcs with h1 h2 h3
    subst h1; subst h2; subst h3
    have hle : len ≤ ss.length := by rw [hz]; split <;> omega
    refine ⟨ss.take len, by rw [List.length_take]; omega, ro_of_cells rfl (by rw [List.length_take]; omega) hm fun i s hi => ?_, fun s hs => hwz s (List.mem_of_mem_take hs), .inr ⟨_, by rw [hx]; rfl⟩⟩
    obtain ⟨_, h2⟩ := take_get? hi
    have hil := (List.getElem?_eq_some_iff.1 h2).1
    refine ⟨.string s, rfl, ?_⟩
    rw [hcell i hil]
    simp [List.getD, h2]

theorem ro_ints {t e : TypeId} {k : IntKind} {fuel : Nat} {p : Option Addr} {len cap : Nat} {x : DataW H × List MemPlace} (ht : P.underlying t = some (.slice e)) (he : P.underlying e = some (.int k)) (hc : P.cellsOf e = 1)
    (h : DataW.trod enc P w base spare held fuel t [.slice p len cap] = some x) :
    ∃ l : List Int, len = l.length ∧ ro (hp w) (eInt k) p cap l ∧ (∀ n ∈ l, (Lit.int k n).wf = true) ∧ ((x.1 = .nil ∧ l = []) ∨ ∃ sp, x.1 = .slice (l.map fun n => .lit (.int k n)) sp) := by
  rcases open_ints ht he hc h with ⟨hcs, hx⟩ | ⟨a, len', cap', ss, hcs, _, hl, hm, hz, hx, hcell, hwz⟩
  · injection hcs with hcs _
    injection hcs with h1 h2 h3
    subst h1; subst h2; subst h3
    exact ⟨[], rfl, ro_nil _ _, by simp, .inl (by rw [hx]; exact ⟨rfl, rfl⟩)⟩
  · injection hcs with hcs _
    injection hcs with h1 h2 h3
    subst h1; subst h2; subst h3
    have hle : len ≤ ss.length := by rw [hz]; split <;> omega
    refine ⟨ss.take len, by rw [List.length_take]; omega, ro_of_cells rfl (by rw [List.length_take]; omega) hm fun i s hi => ?_, fun s hs => hwz s (List.mem_of_mem_take hs), .inr ⟨_, by rw [hx]; rfl⟩⟩
    obtain ⟨_, h2⟩ := take_get? hi
    have hil := (List.getElem?_eq_some_iff.1 h2).1
    refine ⟨.int k s, rfl, ?_⟩
    rw [hcell i hil]
    simp [List.getD, h2]
end
theorem weights_mem_all {H : Type} {P : Program} {e : TypeId} : ∀ {ds : List (DataW H)} {d : DataW H}, d ∈ ds → ∀ n ∈ d.weights P e, n ∈ DataW.weightsAll P e ds
  | d0 :: ds, d, hd, n, hn => by
    simp only [DataW.weightsAll, List.mem_append]
    rcases List.mem_cons.1 hd with h | h
    · subst h; exact Or.inl hn
    · exact Or.inr (weights_mem_all h n hn)
section
variable {H : Type} {P : Program} {ts : List TypeId} {ds : List (DataW H)}
theorem sized_strs (h : (DataW.weightsEach P ts ds).all (· ≤ reachBytes) = true) {j : Nat} {t e : TypeId} {x : DataW H} {l : List ByteArray} (ht : ts[j]? = some t) (hd : ds[j]? = some x) (hu : P.underlying t = some (.slice e))
    (hx : (x = .nil ∧ l = []) ∨ ∃ sp, x = .slice (l.map fun s => .lit (.string s.data.toList)) sp) : (∀ s ∈ l, s.size ≤ 140737488351232) ∧ l.length * P.bytesOf e ≤ 140737488351232 := by
  rcases hx with ⟨_, rfl⟩ | ⟨sp, rfl⟩
  · exact ⟨(by intro s hs; cases hs), by simp⟩
  · refine ⟨fun s hs => ?_, ?_⟩
    · have hm : s.data.toList.length ∈ DataW.weightsEach P ts ds := DataW.weights_mem_each ht hd _ (by
        simp only [DataW.weights, hu, List.mem_cons, List.mem_append]
        exact Or.inr (Or.inl (weights_mem_all (d := .lit (.string s.data.toList)) (List.mem_map.2 ⟨s, hs, rfl⟩) _ (by simp [DataW.weights]))))
      have := List.all_eq_true.1 h _ hm
      rw [Array.length_toList] at this
      exact of_decide_eq_true this
    · have h2 : ((l.map fun s => (DataW.lit (.string s.data.toList) : DataW H)).length + sp.length) * P.bytesOf e ≤ reachBytes := sized_slice h ht hd hu
      rw [List.length_map] at h2
      refine Nat.le_trans ?_ h2
      exact Nat.mul_le_mul_right _ (Nat.le_add_right _ _)
theorem sized_nums (h : (DataW.weightsEach P ts ds).all (· ≤ reachBytes) = true) {j : Nat} {t e : TypeId} {x : DataW H} {k : IntKind} {l : List Int} (ht : ts[j]? = some t) (hd : ds[j]? = some x) (hu : P.underlying t = some (.slice e))
    (hx : (x = .nil ∧ l = []) ∨ ∃ sp, x = .slice (l.map fun n => .lit (.int k n)) sp) : l.length * P.bytesOf e ≤ 140737488351232 := by
  rcases hx with ⟨_, rfl⟩ | ⟨sp, rfl⟩
  · simp
  · have h2 : ((l.map fun n => (DataW.lit (.int k n) : DataW H)).length + sp.length) * P.bytesOf e ≤ reachBytes := sized_slice h ht hd hu
    rw [List.length_map] at h2
    refine Nat.le_trans ?_ h2
    exact Nat.mul_le_mul_right _ (Nat.le_add_right _ _)
end
end Go.Fw
