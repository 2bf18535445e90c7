/- IDs, their leaves, and what the laws of layer 24 cut, in plain words. -/
import Derived.Test.YtileogoeoiafkaaPWay
import Derived.Test.YtileogoeoiafkaaGOct
namespace Go.Proofs.Ytileogoeoiafkaa
set_option linter.all false
open Go Go.RowKit Go.Fw
set_option maxRecDepth 100000
attribute [local irreducible] FUEL
theorem seqB_dec (a b : ByteArray) : seqB a b = decide (a = b) := by
  by_cases h : a = b
  · rw [seqB_iff.2 h]; simp [h]
  · rw [show seqB a b = false from by
      cases hc : seqB a b with
      | false => rfl
      | true => exact absurd (seqB_iff.1 hc) h]; simp [h]
theorem sign_some (x : Int) : ∃ b, F.paper_sign x = some b := by
  unfold F.paper_sign
  repeat' split
  all_goals exact ⟨_, rfl⟩
/-- is a text an ID? -/
def idB (s : ByteArray) : Bool := (F.paper_IsID s).getD false
theorem word_some (s : ByteArray) : ∃ b, F.paper_word s 24 = some b ∧ (b = true → s.size ≤ 24 ∧ s ≠ b0) := by
  unfold F.paper_word
  by_cases h0 : seqB s (ByteArray.mk #[]) = true
  · rw [if_pos h0]; exact ⟨false, rfl, fun h => by cases h⟩
  rw [if_neg h0]
  by_cases h1 : (s.size : Int) > 24
  · rw [if_pos (by simpa using h1)]; exact ⟨false, rfl, fun h => by cases h⟩
  rw [if_neg (by simpa using h1)]
  show ∃ b, F.paper_word.r1 s = some b ∧ _
  have hz : s.size ≤ 24 ∧ s ≠ b0 := ⟨by omega, fun e => h0 (by rw [e]; exact seqB_refl _)⟩
  have h := iter_up (f := fun x => F.paper_word.l2 s x) s.size (fun i (x : Int) => x = (i : Int)) (fun (_ : Unit ⊕ Bool) => True)
    (fun i x hi hx => by
      subst hx
      unfold F.paper_word.l2
      obtain ⟨b, hb⟩ := sign_some (bt s (i : Int))
      rw [if_pos (by simp; omega), chk_pos (by omega), hb, Option.bind_some]
      cases b with
      | false => exact .inr ⟨_, rfl, trivial⟩
      | true => exact .inl ⟨_, rfl, by rw [w64 (by omega) (by omega)]; omega⟩)
    (fun x hx => by
      subst hx
      unfold F.paper_word.l2
      rw [if_neg (by simp)]
      exact ⟨_, rfl, trivial⟩) (s0 := (0 : Int)) rfl (k := FUEL) (by rw [FUEL_eq]; omega)
  obtain ⟨r, hr, _⟩ := h
  unfold F.paper_word.r1
  rcases r with ⟨⟩ | b
  · exact ⟨true, (congrArg (fun o => thru o _) hr).trans rfl, fun _ => hz⟩
  · exact ⟨b, (congrArg (fun o => thru o _) hr).trans rfl, fun _ => hz⟩
theorem isid_eq (s : ByteArray) : F.paper_IsID s = some (idB s) := by
  obtain ⟨b, h, _⟩ := word_some s
  unfold idB F.paper_IsID
  rw [h]; rfl
theorem idB_small {s : ByteArray} (h : idB s = true) : s.size ≤ 24 ∧ s ≠ b0 := by
  obtain ⟨b, h1, h2⟩ := word_some s
  refine h2 ?_
  unfold idB F.paper_IsID at h
  rw [h1] at h
  exact h
theorem text_eq {s : ByteArray} (h : s.size < 72057594037927936) : F.octet_Text s = some (textB s) := by
  unfold F.octet_Text
  rw [num_eq h, Option.bind_some, chk_pos (by have := numB_size h; omega)]
  rfl
/-- what an ID's leaf is the sum of -/
def wId : ByteArray := ByteArray.mk #[105, 100]
def idT (s : ByteArray) : ByteArray := c0 ++ (wId ++ textB s)
def idL (T : Tab) (s : ByteArray) : ByteArray := sumB T (idT s)
theorem size_le_app {a b : ByteArray} {m n : Nat} (ha : a.size ≤ m) (hb : b.size ≤ n) : (a ++ b).size ≤ m + n := by rw [size_app]; omega
theorem wId_size : wId.size = 2 := rfl
theorem idt_small {s : ByteArray} (h : idB s = true) : (wId ++ textB s).size ≤ 100 := by
  have := (idB_small h).1
  have := textB_size (s := s) (by omega)
  rw [size_app, wId_size]; omega
theorem pleaf_eq {s : ByteArray} (h : idB s = true) (m : mill_Mill) : F.pledge_Leaf (wId ++ textB s) m = some (idL m.table_ s, runM [idT s] m) := by
  rw [leaf_eq _ (by have := idt_small h; omega)]; rfl
theorem idT_inj {a b : ByteArray} (ha : idB a = true) (hb : idB b = true) (h : idT a = idT b) : a = b := by
  unfold idT at h
  have h1 : wId ++ textB a = wId ++ textB b := (app_inj (a := c0) (c := c0) h rfl).2
  have h2 : textB a = textB b := (app_inj (a := wId) (c := wId) h1 rfl).2
  have h3 : textB a ++ b0 = textB b ++ b0 := by rw [h2]
  exact (textB_cut (by have := (idB_small ha).1; omega) (by have := (idB_small hb).1; omega) h3).1

/-! ### what is cut -/
def cut100 (s : ByteArray) : ByteArray := if 100 < s.size then s.extract 0 100 else s
theorem cut100_size (s : ByteArray) : (cut100 s).size ≤ 100 := by
  unfold cut100
  split
  · rw [ByteArray.size_extract]; omega
  · omega
def fewL (l : Texts) : Texts := (l.take 30).map cut100
theorem fewL_length (l : Texts) : (fewL l).length ≤ 30 := by unfold fewL; rw [List.length_map, List.length_take]; omega
theorem fewL_small {l : Texts} : ∀ s ∈ fewL l, s.size ≤ 100 := fun s hs => by
  unfold fewL at hs
  obtain ⟨x, _, rfl⟩ := List.mem_map.1 hs
  exact cut100_size x
theorem few_eq (l : Texts) : F.law24_few l = some (fewL l) := by
  unfold F.law24_few
  have key : ∀ i, i < (l.take 30).length → (fun x : Texts × Int => F.law24_few.l2 l x.1 x.2) (((l.take 30).take i).map cut100, (i : Int)) = some (.inl (((l.take 30).take (i + 1)).map cut100, ((i + 1 : Nat) : Int))) := fun i hi => by
    rw [List.length_take] at hi
    dsimp only
    unfold F.law24_few.l2
    rw [if_pos (by simp; omega), if_pos (by simp; omega)]
    show F.law24_few.r1 l _ _ = _
    unfold F.law24_few.r1
    have hy : l[i]? = some l[i] := List.getElem?_eq_getElem (by omega)
    have hl : (((l.take 30).take i).map cut100).length = i := by rw [List.length_map, List.length_take, List.length_take]; omega
    have hs : ((l.take 30).take (i + 1)).map cut100 = ((l.take 30).take i).map cut100 ++ [cut100 l[i]] := by
      rw [List.take_succ, List.getElem?_take, if_pos (by omega), hy, List.map_append]; rfl
    have hroom : room ((((l.take 30).take i).map cut100).length + ([l[i]] : Texts).length) 16 := by
      rw [hl]; unfold room; simp; omega
    rw [at_nat hy, Option.bind_some, hs, w64 (n := (i : Int) + 1) (by omega) (by omega)]
    by_cases h : (l[i].size : Int) > 100
    · rw [if_pos (by simpa using h), chk_pos (by omega), chk_pos (show room ((((l.take 30).take i).map cut100).length + ([l[i].extract (0 : Int).toNat (100 : Int).toNat] : Texts).length) 16 from hroom)]
      unfold cut100
      rw [if_pos (by omega)]; rfl
    · rw [if_neg (by simpa using h), chk_pos hroom]
      unfold cut100
      rw [if_neg (by omega)]; rfl
  have hend : (fun x : Texts × Int => F.law24_few.l2 l x.1 x.2) (((l.take 30).take (l.take 30).length).map cut100, ((l.take 30).length : Int)) = some (.inr (fewL l)) := by
    dsimp only
    unfold F.law24_few.l2
    rw [List.take_length, List.length_take]
    by_cases h : l.length ≤ 30
    · rw [Nat.min_eq_right h, if_neg (by simp)]; rfl
    · rw [Nat.min_eq_left (by omega), if_pos (by simp; omega), if_neg (by simp)]; rfl
  have h := iter_count (f := fun x : Texts × Int => F.law24_few.l2 l x.1 x.2) (fun i => (((l.take 30).take i).map cut100, (i : Int))) key hend (k := FUEL) (by rw [FUEL_eq, List.length_take]; omega)
  exact (congrArg (fun o => Option.bind o _) h).trans rfl
end Go.Proofs.Ytileogoeoiafkaa
