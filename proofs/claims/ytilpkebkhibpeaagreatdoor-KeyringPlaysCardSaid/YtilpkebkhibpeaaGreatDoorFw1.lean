/- What turns a row where it lies: the kit's contracts of slices.Sort at []string and of slices.Compact, as calls over small heaps. -/
import Derived.Test.YtilpkebkhibpeaaGreatDoorFwZ
import Derived.Sort.EncStr
import Derived.Lib.SlicesCompact
namespace Go.Fw
set_option linter.all false
open Go Go.RowKit
theorem tr_putrow {P : Program} {f : FuncId} {α β : Type} [Inhabited β] {enc : β → Value} {φ : α → β} (e : Enc α) (hsz : e.sz = 1) (he : ∀ x, e.f x = [enc (φ x)]) (E : Nat) (srt : List β → List β) (hlen : ∀ z, (srt z).length = z.length) (res : List α → List α) (hres : ∀ l, (res l).map φ = srt (l.map φ))
    (rv : Option Addr → List β → Nat → Value) (hn : ∀ (cap : Nat) (w : World), Calls P f #[.slice none 0 cap] w fun e w' => e = .returned (rv none [] cap) ∧ w' = w)
    (hc : ∀ (blk off cap : Nat) (zs : List β) (w : World), Sort.Holds enc w blk off zs.toArray → blk < w.heap.size → zs.length < 4611686018427387904 → zs.length ≤ cap → Calls P f #[.slice (some ⟨blk, off, none⟩) zs.length cap] w fun e w' => e = .returned (rv (some ⟨blk, off, none⟩) zs cap) ∧ ∃ n os, w' = Sort.grow (Sort.putRow enc (Sort.ahead w n) blk off (srt zs).toArray) os)
    (p : Option Addr) (c : Nat) (l : List α) (hll : l.length < 4611686018427387904) : Tr P f [.slice p l.length c] [own e E p c l] (fun r H' => r = rv p (l.map φ) c ∧ H' = [own e E p c (res l)]) := by
  have hrl : ∀ l, (res l).length = l.length := fun l => by
    have := congrArg List.length (hres l)
    rw [List.length_map, hlen, List.length_map] at this
    exact this
  intro F w hs
  have hs0 := hs
  obtain ⟨h, h1, ⟨o1, o2, o3, o4⟩, _⟩ := hs
  rcases o4 with ⟨rfl, rfl⟩ | ⟨g, cur, fz, rfl, hg, hsoft, hcs, htk⟩
  · have hl0 : l = [] := List.length_eq_zero_iff.1 (by omega)
    subst hl0
    refine (hn 0 w).mono ?_
    rintro e' w' ⟨rfl, rfl⟩
    refine ⟨_, _, rfl, ⟨rfl, rfl⟩, ?_, Keep.refl _⟩
    have : res [] = [] := List.length_eq_zero_iff.1 (by rw [hrl]; rfl)
    rw [this]; exact hs0
  · have hgw := h1 g _ hg
    have hget : ∀ (l : List α) (j : Nat) (x : α), l[j]? = some x → (e.all l)[j]? = some (enc (φ x)) := fun l j x hx => by
      have := Enc.all_get e hx 0 e.pos
      rw [hsz, Nat.mul_one, Nat.add_zero, he] at this
      exact this
    have hcur : ∀ (j : Nat) (x : α), l[j]? = some x → cur[j]? = some (enc (φ x)) := fun j x hx => by
      have hj := lt_of_get hx
      have := hget l j x hx
      rw [← htk, List.getElem?_take, hsz, if_pos (by omega), Array.getElem?_toList] at this
      exact this
    have hH : Sort.Holds enc w g 0 (l.map φ).toArray := by
      intro j hj
      have hj : j < l.length := by simpa using hj
      obtain ⟨x, hx⟩ : ∃ x, l[j]? = some x := ⟨l[j], List.getElem?_eq_getElem hj⟩
      have hx2 : (l.map φ).toArray[j]! = φ x := by
        rw [getElem!_pos _ j (by simpa using hj)]
        simp only [List.getElem_toArray, List.getElem_map]
        rw [List.getElem?_eq_getElem hj] at hx
        rw [Option.some.inj hx]
      refine ⟨?_, ?_⟩
      · unfold World.cell?
        show (match w.heap[g]? with | some (.cells c _ _) => _ | _ => none) = _
        unfold hp at hgw
        rw [hgw]
        show cur[0 + j]? = _
        rw [Nat.zero_add, hcur j x hx, hx2]
      · unfold World.frozen?
        show (match w.heap[g]? with | some (.cells _ _ (lo, hi)) => _ | _ => false) = _
        unfold hp at hgw
        rw [hgw]
        exact hsoft (0 + j) (by rw [hcs, hsz]; omega)
    have hblk : g < w.heap.size := (Array.getElem?_eq_some_iff.1 hgw).1
    have hcc := hc g 0 c (l.map φ) w hH hblk (by rw [List.length_map]; exact hll) (by rw [List.length_map]; exact o2)
    rw [List.length_map] at hcc
    refine hcc.mono ?_
    rintro e' w' ⟨rfl, n, os, rfl⟩
    refine ⟨_, _, rfl, ⟨rfl, rfl⟩, ?_, ⟨rfl, rfl, rfl⟩⟩
    obtain ⟨q1, q2⟩ := hp_sorted (enc := enc) (w := w) (n := n) (g := g) (d := (srt (l.map φ)).toArray) (os := os)
    refine sat_turn hs0 fun hh hsub hm => ?_
    obtain ⟨m1, m2, m3, m4⟩ := hm
    rcases m4 with ⟨hx, _⟩ | ⟨g2, cur2, fz2, hp2, hg2, hsoft2, hcs2, htk2⟩
    · cases hx
    cases hp2
    have hg3 := hsub g _ hg2
    rw [hgw] at hg3
    cases hg3
    refine ⟨hh.upd g (.cells (Sort.putCells enc 0 (srt (l.map φ)).toArray cur) E fz), ?_, ⟨e.all_length _, by rw [hrl]; exact m2, m3, .inr ⟨g, Sort.putCells enc 0 (srt (l.map φ)).toArray cur, fz, rfl, by simp [Hl.upd], by unfold Sort.putCells; rw [Array.size_mapIdx]; exact hsoft, by unfold Sort.putCells; rw [Array.size_mapIdx]; exact hcs, ?_⟩⟩, ?_⟩
    · intro b o hb
      unfold Hl.upd at hb
      by_cases hbg : b = g
      · rw [if_pos hbg] at hb
        cases hb
        subst hbg
        exact q2 _ _ _ hgw
      · rw [if_neg hbg] at hb
        exact q1 b o hbg (hsub b o hb)
    · apply List.ext_getElem?
      intro j
      rw [List.getElem?_take, hsz, Nat.mul_one, hrl]
      by_cases hj : j < l.length
      · rw [if_pos hj, Array.getElem?_toList]
        obtain ⟨y, hy⟩ : ∃ y, (res l)[j]? = some y := ⟨(res l)[j]'(by rw [hrl]; exact hj), List.getElem?_eq_getElem (by rw [hrl]; exact hj)⟩
        rw [hget (res l) j y hy]
        unfold Sort.putCells
        rw [Array.getElem?_mapIdx]
        obtain ⟨x, hx⟩ : ∃ x, l[j]? = some x := ⟨l[j], List.getElem?_eq_getElem hj⟩
        rw [hcur j x hx]
        have hsj : (srt (l.map φ))[j]? = some (φ y) := by rw [← hres l, List.getElem?_map, hy]; rfl
        have hsl : (srt (l.map φ)).length = l.length := by rw [hlen, List.length_map]
        simp only [Option.map_some, Nat.sub_zero, Nat.zero_le, true_and, Nat.zero_add, List.size_toArray]
        rw [if_pos (by omega), getElem!_pos _ j (by simp; omega)]
        have hjs : j < (srt (l.map φ)).length := by omega
        rw [List.getElem?_eq_getElem hjs] at hsj
        simp only [List.getElem_toArray]
        rw [Option.some.inj hsj]
      · rw [if_neg hj, List.getElem?_eq_none (by rw [e.all_length, hrl, hsz]; omega)]
    · intro b o e1 e2
      have hbg : b ≠ g := by intro hbg; subst hbg; rw [hg2] at e2; cases e2
      unfold Hl.upd
      rw [if_neg hbg]
      exact ⟨q1 b o hbg e1, e2⟩
/-- the bytes of a text -/
def toB (s : ByteArray) : List UInt8 := s.data.toList
theorem encS (s : ByteArray) : eStr.f s = [Go.Proofs.encStr (toB s)] := by
  show [Value.string s] = [Value.string ⟨s.data.toList.toArray⟩]
  rw [Array.toArray_toList]
theorem toB_ofL (l : List UInt8) : toB (ofL l) = l := ofL_toList l
/-- texts in order -/
def sortS (l : List ByteArray) : List ByteArray := ((l.map toB).mergeSort fun x y => decide (x ≤ y)).map ofL
theorem sortS_toB (l : List ByteArray) : (sortS l).map toB = (l.map toB).mergeSort fun x y => decide (x ≤ y) := by
  unfold sortS
  rw [List.map_map]
  have : (toB ∘ ofL) = id := by funext x; exact toB_ofL x
  rw [this, List.map_id]
theorem sortS_len (l : List ByteArray) : (sortS l).length = l.length := by
  unfold sortS
  rw [List.length_map, List.length_mergeSort, List.length_map]
/-- each once of a list in order -/
def compS (l : List ByteArray) : List ByteArray := (Lib.compact (l.map toB)).map ofL
theorem compact_le (zs : List (List UInt8)) : (Lib.compact zs).length ≤ zs.length := by
  unfold Lib.compact Lib.compactUpTo
  rw [List.length_map]
  refine Nat.le_trans (List.length_filter_le _ _) ?_
  rw [List.length_range]
  exact Nat.le_refl _
theorem own_shorter {α : Type} {e : Enc α} {E : Nat} {p : Option Addr} {c : Nat} {A B : List α} {h : Hl} (ho : own e E p c (A ++ B) h) : own e E p c A h := by
  obtain ⟨o1, o2, o3, o4⟩ := ho
  rw [List.length_append] at o2
  refine ⟨e.all_length _, by omega, o3, ?_⟩
  rcases o4 with h0 | ⟨g, cur, fz, hp, hg, hsoft, hcs, htk⟩
  · exact .inl h0
  · refine .inr ⟨g, cur, fz, hp, hg, hsoft, hcs, ?_⟩
    have := congrArg (List.take (A.length * e.sz)) htk
    rw [List.take_take, List.length_append, Nat.min_eq_left (Nat.mul_le_mul_right _ (by omega)), Enc.all_append, List.take_append_of_le_length (by rw [Enc.all_length]; exact Nat.le_refl _), List.take_of_length_le (l := e.all A) (by rw [Enc.all_length]; exact Nat.le_refl _)] at this
    exact this
theorem tr_sortS' {P : Program} {f : FuncId} (E : Nat)
    (hn : ∀ (cap : Nat) (w : World), Calls P f #[.slice none 0 cap] w fun e w' => e = .returned (.tuple #[]) ∧ w' = w)
    (hc : ∀ (blk off cap : Nat) (zs : List (List UInt8)) (w : World), Sort.Holds Go.Proofs.encStr w blk off zs.toArray → blk < w.heap.size → zs.length < 4611686018427387904 → Calls P f #[.slice (some ⟨blk, off, none⟩) zs.length cap] w fun e w' => e = .returned (.tuple #[]) ∧ ∃ n os, w' = Sort.grow (Sort.putRow Go.Proofs.encStr (Sort.ahead w n) blk off (zs.mergeSort fun x y => decide (x ≤ y)).toArray) os)
    (p : Option Addr) (c : Nat) (l : List ByteArray) (h : l.length < 4611686018427387904) : Tr P f [.slice p l.length c] [own eStr E p c l] (fun r H' => r = .tuple #[] ∧ H' = [own eStr E p c (sortS l)]) :=
  tr_sort (enc := Go.Proofs.encStr) (φ := toB) eStr rfl encS E (fun z => z.mergeSort fun x y => decide (x ≤ y)) (fun z => List.length_mergeSort z) sortS sortS_toB hn hc p c l h
theorem tr_compS' {P : Program} {f : FuncId} (E : Nat)
    (hn : ∀ (a : Option Addr) (cap : Nat) (w : World), Calls P f #[.slice a 0 cap] w fun e w' => e = .returned (.slice a 0 cap) ∧ w' = w)
    (hc : ∀ (blk off cap : Nat) (zs : List (List UInt8)) (w : World), Sort.Holds Go.Proofs.encStr w blk off zs.toArray → zs.length ≤ 9223372036854775807 → zs.length ≤ cap → Calls P f #[.slice (some ⟨blk, off, none⟩) zs.length cap] w fun e w' => e = .returned (.slice (some ⟨blk, off, none⟩) (Lib.compact zs).length cap) ∧ ∃ q, w' = Sort.putRow Go.Proofs.encStr (Sort.ahead w q) blk off (Lib.compact zs ++ List.replicate (zs.length - (Lib.compact zs).length) []).toArray)
    (p : Option Addr) (c : Nat) (l : List ByteArray) (h : l.length < 4611686018427387904) : Tr P f [.slice p l.length c] [own eStr E p c l] (fun r H' => r = .slice p (compS l).length c ∧ H' = [own eStr E p c (compS l)]) := by
  have key := tr_putrow (enc := Go.Proofs.encStr) (φ := toB) (f := f) (P := P) eStr rfl encS E (fun zs => Lib.compact zs ++ List.replicate (zs.length - (Lib.compact zs).length) []) (fun z => by have := compact_le z; simp; omega) (fun l => compS l ++ List.replicate (l.length - (compS l).length) (ofL [])) (fun l => by
      unfold compS
      rw [List.map_append, List.map_map, List.map_replicate, List.length_map, List.length_map]
      have : (toB ∘ ofL) = id := by funext x; exact toB_ofL x
      rw [this, List.map_id, toB_ofL]) (fun a zs cap => .slice a (Lib.compact zs).length cap) (fun cap w => hn none cap w)
      (fun blk off cap zs w h1 _ h3 h4 => (hc blk off cap zs w h1 (by omega) h4).mono (by
        rintro e w' ⟨rfl, q, rfl⟩
        exact ⟨rfl, q, #[], by rw [Sort.grow_empty]⟩)) p c l h
  intro F w hs
  refine (key F w hs).mono ?_
  rintro e w' ⟨r, H', rfl, ⟨hr, rfl⟩, hs2, hk⟩
  refine ⟨r, [own eStr E p c (compS l)], rfl, ⟨?_, rfl⟩, sat_imp (fun _ ho => own_shorter ho) hs2, hk⟩
  rw [hr]
  unfold compS
  rw [List.length_map]
end Go.Fw
