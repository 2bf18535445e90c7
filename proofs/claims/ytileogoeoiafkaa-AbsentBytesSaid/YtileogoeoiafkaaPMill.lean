/- The mill, in plain words: sums by a table, or sha256; what is noted; twins. -/
import Derived.Test.YtileogoeoiafkaaGMill
import Derived.Test.YtileogoeoiafkaaPShb
import Derived.Test.YtileogoeoiafkaaFwS
namespace Go.Proofs.Ytileogoeoiafkaa
set_option linter.all false
open Go Go.RowKit Go.Fw
set_option maxRecDepth 100000
attribute [local irreducible] FUEL

abbrev Tab := List (ByteArray × ByteArray)
def bS : ByteArray := ByteArray.mk #[115]
def bT : ByteArray := ByteArray.mk #[116]
def b0 : ByteArray := ByteArray.mk #[]
/-- sha256 of a text -/
def shaB (s : ByteArray) : ByteArray := ofL (digest s.data.toList)
theorem shaB_size (s : ByteArray) : (shaB s).size = 32 := by unfold shaB; rw [ofL_size, digest_length]
theorem sha_eq {s : ByteArray} (h : s.size ≤ 9223372036854775700) : F.sha_Sum s = some (shaB s) := by
  conv => lhs; rw [ofL_surj s]
  rw [shaSum_eq _ (by rw [size_ofL']; exact h)]; rfl
/-- a text's sum, with a table -/
def sumB (T : Tab) (s : ByteArray) : ByteArray := if mhas T (bS ++ s) then mgetD T (bS ++ s) b0 else shaB s
def noteM (s o : ByteArray) (m : mill_Mill) : mill_Mill :=
  match mget m.notes_ o with
  | some f => if f ≠ s ∧ m.found_ = false then ⟨m.table_, m.notes_, ⟨f, s⟩, true, m.full_, IntKind.i64.wrap (m.sums_ + 1)⟩ else ⟨m.table_, m.notes_, m.twins_, m.found_, m.full_, IntKind.i64.wrap (m.sums_ + 1)⟩
  | none => if 20000 ≤ m.notes_.length then ⟨m.table_, m.notes_, m.twins_, m.found_, true, IntKind.i64.wrap (m.sums_ + 1)⟩ else ⟨m.table_, mset m.notes_ o s, m.twins_, m.found_, m.full_, IntKind.i64.wrap (m.sums_ + 1)⟩
theorem note_eq (s o : ByteArray) (m : mill_Mill) : F.mill_Mill_note s o m = some (noteM s o m) := by
  unfold F.mill_Mill_note noteM mhas
  cases hg : mget m.notes_ o with
  | none =>
    simp only [Option.isSome_none, Bool.false_eq_true, if_false, Option.bind_some]
    unfold F.mill_Mill_note.r1
    simp only [Bool.false_eq_true, if_false]
    by_cases h : 20000 ≤ m.notes_.length
    · rw [if_pos (by simp; omega), if_pos h]
    · rw [if_neg (by simp; omega), if_neg h]
  | some f =>
    simp only [Option.isSome_some, if_true]
    have hd : mgetD m.notes_ o (ByteArray.mk #[]) = f := mgetD_some hg
    rw [hd]
    by_cases hf : f = s
    · subst hf
      rw [seqB_refl]
      simp only [Bool.not_true, Bool.false_eq_true, if_false, Option.bind_some]
      unfold F.mill_Mill_note.r1
      simp
    · have : seqB f s = false := by
        cases hc : seqB f s with
        | false => rfl
        | true => exact absurd (seqB_iff.1 hc) hf
      rw [this]
      simp only [Bool.not_false, if_true, Option.bind_some]
      unfold F.mill_Mill_note.r1
      rw [hd]
      cases hfd : m.found_ <;> simp [hf]
theorem noteM_table (s o : ByteArray) (m : mill_Mill) : (noteM s o m).table_ = m.table_ := by unfold noteM; split <;> split <;> rfl

theorem sum_eqB {s : ByteArray} (m : mill_Mill) (h : s.size ≤ 9223372036854775000) : F.mill_Mill_Sum s m = some (sumB m.table_ s, noteM s (sumB m.table_ s) m) := by
  unfold F.mill_Mill_Sum F.mill_Mill_none F.mill_name sumB
  simp only [Option.bind_some, Bool.false_eq_true, if_false, Bool.not_false, if_true]
  rw [chk_pos (by show 1 + s.size ≤ _; omega), Option.bind_some]
  show (if (!(mhas m.table_ (bS ++ s))) = true then _ else _) = _
  cases hh : mhas m.table_ (bS ++ s) with
  | true => simp only [Bool.not_true, Bool.false_eq_true, if_false, if_true, note_eq, Option.bind_some]; rfl
  | false => simp only [Bool.not_false, Bool.false_eq_true, if_false, if_true, sha_eq (show s.size ≤ _ by omega), note_eq, Option.bind_some]

/-- what was noted of some texts -/
structure Noted (T : Tab) (S : List ByteArray) (m : mill_Mill) : Prop where
  table : m.table_ = T
  twins : m.found_ = true → m.twins_.e0 ≠ m.twins_.e1
  first : m.found_ = false → ∀ s ∈ S, mget m.notes_ (sumB T s) = some s
  few : m.notes_.length ≤ S.length
theorem Noted.sum {T : Tab} {S : List ByteArray} {m : mill_Mill} (h : Noted T S m) (hS : S.length < 20000) (s : ByteArray) : Noted T (s :: S) (noteM s (sumB T s) m) := by
  obtain ⟨h1, h2, h3, h4⟩ := h
  refine ⟨by rw [noteM_table, h1], ?_, ?_, ?_⟩
  · unfold noteM
    cases hg : mget m.notes_ (sumB T s) with
    | none => dsimp only; split <;> exact h2
    | some f =>
      dsimp only
      split
      · rename_i hc; exact fun _ => hc.1
      · exact h2
  · unfold noteM
    cases hg : mget m.notes_ (sumB T s) with
    | none =>
      dsimp only
      rw [if_neg (by omega)]
      intro hf t ht
      dsimp only at hf ⊢
      rw [mget_mset]
      rcases List.mem_cons.1 ht with rfl | ht
      · rw [if_pos rfl]
      · have := h3 hf t ht
        by_cases he : sumB T t = sumB T s
        · rw [he, hg] at this; cases this
        · rw [if_neg he, this]
    | some f =>
      dsimp only
      split
      · intro hf; cases hf
      · rename_i hc
        intro hf t ht
        dsimp only at hf ⊢
        rcases List.mem_cons.1 ht with rfl | ht
        · have : f = t := Classical.byContradiction fun hne => hc ⟨hne, hf⟩
          rw [hg, this]
        · exact h3 hf t ht
  · unfold noteM
    cases hg : mget m.notes_ (sumB T s) with
    | none =>
      dsimp only
      rw [if_neg (by omega)]
      have := mset_length_le m.notes_ (sumB T s) s
      simp only [List.length_cons]; omega
    | some f => dsimp only; split <;> (simp only [List.length_cons]; omega)
/-- unless twins were found, texts of one sum are one -/
theorem Noted.apart {T : Tab} {S : List ByteArray} {m : mill_Mill} (h : Noted T S m) (hf : m.found_ = false) {s t : ByteArray} (hs : s ∈ S) (ht : t ∈ S) (he : sumB T s = sumB T t) : s = t := by
  have h1 := h.first hf s hs
  have h2 := h.first hf t ht
  rw [he, h2] at h1
  exact (Option.some.inj h1).symm

def m00 : mill_Mill := ⟨[], [], ⟨b0, b0⟩, false, false, 0⟩
theorem mnew_eq : F.mill_New = some m00 := rfl
theorem noted_new (T : Tab) : Noted T [] ⟨T, [], ⟨b0, b0⟩, false, false, 0⟩ := ⟨rfl, (fun h => by cases h), (fun _ s h => by cases h), Nat.le_refl _⟩
theorem twins_eq (m : mill_Mill) : F.mill_Mill_Twins m = some (m.twins_.e0, m.twins_.e1, m.found_) := rfl

/-! ### a table -/
def nameOf (e : mill_Entry) : ByteArray := if e.Tag then bT ++ shaB e.Key ++ e.Text else bS ++ e.Text
def insE (t : Tab) (e : mill_Entry) : Tab := if mhas t (nameOf e) then t else mset t (nameOf e) e.Out
def tabOf (l : List mill_Entry) : Tab := l.foldl insE []
def all32 (l : List mill_Entry) : Bool := l.all fun e => decide (e.Out.size = 32)
def sizedE (e : mill_Entry) : Prop := e.Key.size ≤ 140737488351232 ∧ e.Text.size ≤ 140737488351232 ∧ e.Out.size ≤ 140737488351232
theorem name_eq {e : mill_Entry} (h : sizedE e) : F.mill_name e.Tag e.Key e.Text = some (nameOf e) := by
  obtain ⟨h1, h2, _⟩ := h
  unfold F.mill_name nameOf
  cases e.Tag with
  | false =>
    simp only [Bool.not_false, if_true, Bool.false_eq_true, if_false]
    rw [chk_pos (by show 1 + e.Text.size ≤ _; omega)]; rfl
  | true =>
    simp only [Bool.not_true, Bool.false_eq_true, if_false, if_true]
    rw [sha_eq (by omega), Option.bind_some, chk_pos (by show 1 + (shaB e.Key).size ≤ _; rw [shaB_size]; omega), chk_pos (by rw [size_app]; show 1 + (shaB e.Key).size + _ ≤ _; rw [shaB_size]; omega)]; rfl
theorem foldE_with (l : List mill_Entry) : ∀ (i : Nat) (t : Tab), foldE (fun _ t e => if e.Out.size = 32 then (.inl (insE t e) : Tab ⊕ (Tab ⊕ (Option mill_Mill × Int))) else .inr (.inr (none, 1))) (fun t => .inl t) l i t
    = if all32 l then .inl (l.foldl insE t) else .inr (none, 1) := by
  induction l with
  | nil => intro i t; rfl
  | cons e l ih =>
    intro i t
    unfold foldE all32
    rw [List.all_cons]
    by_cases h : e.Out.size = 32
    · rw [if_pos h]
      dsimp only
      rw [ih]
      simp [h, all32]
    · rw [if_neg h]
      simp [h]
theorem with_eq {l : List mill_Entry} (hl : ∀ e ∈ l, sizedE e) (hn : l.length < 1000000000000000000) : F.mill_With l = some (if all32 l then (some ⟨tabOf l, [], ⟨b0, b0⟩, false, false, 0⟩, 0) else (none, 1)) := by
  unfold F.mill_With
  rw [mnew_eq, Option.bind_some]
  have h := iter_fold (f := fun x => F.mill_With.l1 l x.1 x.2) (fun i (t : Tab) => ((i : Int), t)) (fun _ t e => if e.Out.size = 32 then (.inl (insE t e) : Tab ⊕ (Tab ⊕ (Option mill_Mill × Int))) else .inr (.inr (none, 1))) (fun t => .inl t) (fun _ _ => True) l
    (fun i t y _ hy => ⟨by
      have hi := lt_of_get hy
      dsimp only
      unfold F.mill_With.l1
      rw [if_pos (by simp; omega), at_nat hy, Option.bind_some]
      by_cases h32 : y.Out.size = 32
      · rw [if_neg (by simp; omega), name_eq (hl y (List.mem_of_getElem? hy)), Option.bind_some, wadd (by omega), if_pos h32]
        unfold insE
        cases hh : mhas t (nameOf y) <;> simp
      · rw [if_pos (by simp; omega), if_neg h32], fun _ _ => trivial⟩)
    (fun t _ => by
      dsimp only
      unfold F.mill_With.l1
      rw [if_neg (by simp)]) (t0 := m00.table_) trivial (k := FUEL) (by rw [FUEL_eq]; omega)
  refine (congrArg (fun o => thru o _) h).trans ?_
  rw [foldE_with]
  cases hc : all32 l with
  | true => simp only [if_true]; rfl
  | false => simp only [Bool.false_eq_true, if_false]; rfl

theorem mget_foldl (k : ByteArray) : ∀ (l : List mill_Entry) (t : Tab), mget (l.foldl insE t) k = match mget t k with
    | some v => some v
    | none => (l.find? fun e => decide (nameOf e = k)).map (·.Out)
  | [], t => by cases h : mget t k <;> simp [h]
  | e :: l, t => by
    rw [List.foldl_cons, mget_foldl k l]
    unfold insE
    by_cases hk : nameOf e = k
    · subst hk
      rw [List.find?_cons_of_pos (by simp)]
      cases hh : mhas t (nameOf e) with
      | true =>
        obtain ⟨v, hv⟩ := mhas_iff.1 hh
        simp only [if_true, hv]
      | false =>
        simp only [Bool.false_eq_true, if_false, mget_mset, if_true, mhas_false hh, Option.map_some]
    · rw [List.find?_cons_of_neg (by simpa using hk)]
      cases hh : mhas t (nameOf e) with
      | true => simp only [if_true]
      | false => simp only [Bool.false_eq_true, if_false, mget_mset, if_neg (fun e' => hk e'.symm : ¬ k = nameOf e)]
theorem mget_tab (l : List mill_Entry) (k : ByteArray) : mget (tabOf l) k = (l.find? fun e => decide (nameOf e = k)).map (·.Out) := mget_foldl k l []
/-- what stands in a table that may be has 32 bytes; so has each sum -/
theorem sumB_size {l : List mill_Entry} (h : all32 l = true) (s : ByteArray) : (sumB (tabOf l) s).size = 32 := by
  unfold sumB
  split
  · rename_i hh
    obtain ⟨v, hv⟩ := mhas_iff.1 hh
    rw [mgetD_some hv]
    rw [mget_tab] at hv
    obtain ⟨e, he, rfl⟩ := Option.map_eq_some_iff.1 hv
    have := List.all_eq_true.1 h e (List.mem_of_find?_eq_some he)
    simpa using this
  · exact shaB_size s
theorem sumB_new (s : ByteArray) : sumB [] s = shaB s := rfl
end Go.Proofs.Ytileogoeoiafkaa
