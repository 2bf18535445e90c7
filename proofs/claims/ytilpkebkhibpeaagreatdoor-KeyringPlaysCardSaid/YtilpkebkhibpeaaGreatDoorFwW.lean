/- What is sorted where it lies: the kit's contract of slices.Sort as a call over small heaps. -/
import Derived.Test.YtilpkebkhibpeaaGreatDoorFwV
import Derived.Sort.Row
import Derived.Sort.Grow
namespace Go.Fw
set_option linter.all false
open Go Go.RowKit
theorem hp_sorted {β : Type} [Inhabited β] {enc : β → Value} {w : World} {n g : Nat} {d : Array β} {os : Array Obj} : (∀ b o, b ≠ g → hp w b = some o → hp (Sort.grow (Sort.putRow enc (Sort.ahead w n) g 0 d) os) b = some o) ∧
    (∀ cur E fz, hp w g = some (.cells cur E fz) → hp (Sort.grow (Sort.putRow enc (Sort.ahead w n) g 0 d) os) g = some (.cells (Sort.putCells enc 0 d cur) E fz)) := by
  have key : ∀ b o, hp w b = some o → hp (Sort.grow (Sort.putRow enc (Sort.ahead w n) g 0 d) os) b = (w.heap.modify g (Sort.onCells (Sort.putCells enc 0 d)))[b]? := by
    intro b o h
    have hlt := (Array.getElem?_eq_some_iff.1 h).1
    show ((w.heap.modify g (Sort.onCells (Sort.putCells enc 0 d))) ++ os)[b]? = _
    rw [Array.getElem?_append_left (by rw [Array.size_modify]; exact hlt)]
  refine ⟨fun b o hb h => ?_, fun cur E fz h => ?_⟩
  · rw [key b o h, Array.getElem?_modify, if_neg (fun e => hb e.symm)]; exact h
  · rw [key g _ h, Array.getElem?_modify, if_pos rfl]
    unfold hp at h
    rw [h]; rfl
theorem tr_sort {P : Program} {f : FuncId} {α β : Type} [Inhabited β] {enc : β → Value} {φ : α → β} (e : Enc α) (hsz : e.sz = 1) (he : ∀ x, e.f x = [enc (φ x)]) (E : Nat) (srt : List β → List β) (hlen : ∀ z, (srt z).length = z.length) (res : List α → List α) (hres : ∀ l, (res l).map φ = srt (l.map φ))
    (hn : ∀ (cap : Nat) (w : World), Calls P f #[.slice none 0 cap] w fun e w' => e = .returned (.tuple #[]) ∧ w' = w)
    (hc : ∀ (blk off cap : Nat) (zs : List β) (w : World), Sort.Holds enc w blk off zs.toArray → blk < w.heap.size → zs.length < 4611686018427387904 → Calls P f #[.slice (some ⟨blk, off, none⟩) zs.length cap] w fun e w' => e = .returned (.tuple #[]) ∧ ∃ n os, w' = Sort.grow (Sort.putRow enc (Sort.ahead w n) blk off (srt zs).toArray) os)
    (p : Option Addr) (c : Nat) (l : List α) (hll : l.length < 4611686018427387904) : Tr P f [.slice p l.length c] [own e E p c l] (fun r H' => r = .tuple #[] ∧ H' = [own e E p c (res l)]) := by
  have hrl : ∀ l, (res l).length = l.length := fun l => by
    have := congrArg List.length (hres l)
    rw [List.length_map, hlen, List.length_map] at this
    exact this
  intro F w hs
  have hs0 := hs
  obtain ⟨h, h1, ⟨o1, o2, o3, o4⟩, _⟩ := hs
  rcases o4 with ⟨rfl, rfl⟩ | ⟨g, cur, fz, rfl, hg, hsoft, hcs, htk⟩
  · have hl0 : l = [] := List.length_eq_zero_iff.1 (by omega)
    subst hl0
    refine (hn 0 w).mono ?_
    rintro e' w' ⟨rfl, rfl⟩
    refine ⟨_, _, rfl, ⟨rfl, rfl⟩, ?_, Keep.refl _⟩
    have : res [] = [] := List.length_eq_zero_iff.1 (by rw [hrl]; rfl)
    rw [this]; exact hs0
  · have hgw := h1 g _ hg
    have hget : ∀ (l : List α) (j : Nat) (x : α), l[j]? = some x → (e.all l)[j]? = some (enc (φ x)) := fun l j x hx => by
      have := Enc.all_get e hx 0 e.pos
      rw [hsz, Nat.mul_one, Nat.add_zero, he] at this
      exact this
    have hcur : ∀ (j : Nat) (x : α), l[j]? = some x → cur[j]? = some (enc (φ x)) := fun j x hx => by
      have hj := lt_of_get hx
      have := hget l j x hx
      rw [← htk, List.getElem?_take, hsz, if_pos (by omega), Array.getElem?_toList] at this
      exact this
    have hH : Sort.Holds enc w g 0 (l.map φ).toArray := by
      intro j hj
      have hj : j < l.length := by simpa using hj
      obtain ⟨x, hx⟩ : ∃ x, l[j]? = some x := ⟨l[j], List.getElem?_eq_getElem hj⟩
      have hx2 : (l.map φ).toArray[j]! = φ x := by
        rw [getElem!_pos _ j (by simpa using hj)]
        simp only [List.getElem_toArray, List.getElem_map]
        rw [List.getElem?_eq_getElem hj] at hx
        rw [Option.some.inj hx]
      refine ⟨?_, ?_⟩
      · unfold World.cell?
        show (match w.heap[g]? with | some (.cells c _ _) => _ | _ => none) = _
        unfold hp at hgw
        rw [hgw]
        show cur[0 + j]? = _
        rw [Nat.zero_add, hcur j x hx, hx2]
      · unfold World.frozen?
        show (match w.heap[g]? with | some (.cells _ _ (lo, hi)) => _ | _ => false) = _
        unfold hp at hgw
        rw [hgw]
        exact hsoft (0 + j) (by rw [hcs, hsz]; omega)
    have hblk : g < w.heap.size := (Array.getElem?_eq_some_iff.1 hgw).1
    have hcc := hc g 0 c (l.map φ) w hH hblk (by rw [List.length_map]; exact hll)
    rw [List.length_map] at hcc
    refine hcc.mono ?_
    rintro e' w' ⟨rfl, n, os, rfl⟩
    refine ⟨_, _, rfl, ⟨rfl, rfl⟩, ?_, ⟨rfl, rfl, rfl⟩⟩
    obtain ⟨q1, q2⟩ := hp_sorted (enc := enc) (w := w) (n := n) (g := g) (d := (srt (l.map φ)).toArray) (os := os)
    refine sat_turn hs0 fun hh hsub hm => ?_
    obtain ⟨m1, m2, m3, m4⟩ := hm
    rcases m4 with ⟨hx, _⟩ | ⟨g2, cur2, fz2, hp2, hg2, hsoft2, hcs2, htk2⟩
    · cases hx
    cases hp2
    have hg3 := hsub g _ hg2
    rw [hgw] at hg3
    cases hg3
    refine ⟨hh.upd g (.cells (Sort.putCells enc 0 (srt (l.map φ)).toArray cur) E fz), ?_, ⟨e.all_length _, by rw [hrl]; exact m2, m3, .inr ⟨g, Sort.putCells enc 0 (srt (l.map φ)).toArray cur, fz, rfl, by simp [Hl.upd], by unfold Sort.putCells; rw [Array.size_mapIdx]; exact hsoft, by unfold Sort.putCells; rw [Array.size_mapIdx]; exact hcs, ?_⟩⟩, ?_⟩
    · intro b o hb
      unfold Hl.upd at hb
      by_cases hbg : b = g
      · rw [if_pos hbg] at hb
        cases hb
        subst hbg
        exact q2 _ _ _ hgw
      · rw [if_neg hbg] at hb
        exact q1 b o hbg (hsub b o hb)
    · apply List.ext_getElem?
      intro j
      rw [List.getElem?_take, hsz, Nat.mul_one, hrl]
      by_cases hj : j < l.length
      · rw [if_pos hj, Array.getElem?_toList]
        obtain ⟨y, hy⟩ : ∃ y, (res l)[j]? = some y := ⟨(res l)[j]'(by rw [hrl]; exact hj), List.getElem?_eq_getElem (by rw [hrl]; exact hj)⟩
        rw [hget (res l) j y hy]
        unfold Sort.putCells
        rw [Array.getElem?_mapIdx]
        obtain ⟨x, hx⟩ : ∃ x, l[j]? = some x := ⟨l[j], List.getElem?_eq_getElem hj⟩
        rw [hcur j x hx]
        have hsj : (srt (l.map φ))[j]? = some (φ y) := by rw [← hres l, List.getElem?_map, hy]; rfl
        have hsl : (srt (l.map φ)).length = l.length := by rw [hlen, List.length_map]
        simp only [Option.map_some, Nat.sub_zero, Nat.zero_le, true_and, Nat.zero_add, List.size_toArray]
        rw [if_pos (by omega), getElem!_pos _ j (by simp; omega)]
        have hjs : j < (srt (l.map φ)).length := by omega
        rw [List.getElem?_eq_getElem hjs] at hsj
        simp only [List.getElem_toArray]
        rw [Option.some.inj hsj]
      · rw [if_neg hj, List.getElem?_eq_none (by rw [e.all_length, hrl, hsz]; omega)]
    · intro b o e1 e2
      have hbg : b ≠ g := by intro hbg; subst hbg; rw [hg2] at e2; cases e2
      unfold Hl.upd
      rw [if_neg hbg]
      exact ⟨q1 b o hbg e1, e2⟩
/-- a list in order -/
def sortI (l : List Int) : List Int := l.mergeSort fun x y => decide (x ≤ y)
theorem sortI_len (l : List Int) : (sortI l).length = l.length := by unfold sortI; rw [List.length_mergeSort]
theorem sortI_perm {l l' : List Int} (h : l.Perm l') : sortI l = sortI l' := by
  unfold sortI
  have tr : ∀ a b c : Int, decide (a ≤ b) = true → decide (b ≤ c) = true → decide (a ≤ c) = true := fun a b c h1 h2 => by simp at *; omega
  have to : ∀ a b : Int, (decide (a ≤ b) || decide (b ≤ a)) = true := fun a b => by simp; omega
  refine List.Perm.eq_of_pairwise (le := fun a b : Int => decide (a ≤ b) = true) (fun a b _ _ h1 h2 => by simp at h1 h2; omega) (List.pairwise_mergeSort tr to l) (List.pairwise_mergeSort tr to l') ?_
  exact (List.mergeSort_perm l _).trans (h.trans (List.mergeSort_perm l' _).symm)
end Go.Fw
