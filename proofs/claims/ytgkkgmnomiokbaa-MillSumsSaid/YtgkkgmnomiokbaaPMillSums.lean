/- What any texts are summed to, with any table, and which first two unlike ones had one sum: the plain law. -/
import Derived.Test.YtgkkgmnomiokbaaGSums
import Derived.Test.YtgkkgmnomiokbaaPLaw03
import Derived.Test.YtgkkgmnomiokbaaPAwake03
namespace Go.Proofs.Ytgkkgmnomiokbaa
set_option linter.all false
open Go Go.RowKit Go.Fw
set_option maxRecDepth 100000
attribute [local irreducible] FUEL

/-- what is known behind some texts: what is noted are the first of each sum -/
structure Sums (T : Tab) (S : List ByteArray) (m : mill_Mill) : Prop where
  table : m.table_ = T
  first : ∀ o, mget m.notes_ o = S.find? fun s => decide (sumB T s = o)
  few : m.notes_.length ≤ S.length
  full : m.full_ = false
  sums : m.sums_ = (S.length : Int)
/-- the twins behind one text more -/
def twinsB (T : Tab) (S : List ByteArray) (s : ByteArray) (a b : ByteArray) (f : Bool) : ByteArray × ByteArray × Bool :=
  if f then (a, b, f) else match S.find? fun t => decide (sumB T t = sumB T s) with
    | some t => if t = s then (a, b, f) else (t, s, true)
    | none => (a, b, f)
theorem Sums.next {T : Tab} {S : List ByteArray} {m : mill_Mill} (h : Sums T S m) (hS : S.length < 30) (s : ByteArray) :
    Sums T (S ++ [s]) (noteM s (sumB T s) m) ∧ ((noteM s (sumB T s) m).twins_.e0, (noteM s (sumB T s) m).twins_.e1, (noteM s (sumB T s) m).found_) = twinsB T S s m.twins_.e0 m.twins_.e1 m.found_ := by
  obtain ⟨h1, h2, h3, h4, h5⟩ := h
  have hg := h2 (sumB T s)
  have hw : IntKind.i64.wrap (m.sums_ + 1) = ((S ++ [s]).length : Int) := by rw [h5, wadd (by omega), List.length_append]; rfl
  have hfind : ∀ o, (S ++ [s]).find? (fun t => decide (sumB T t = o)) = match S.find? (fun t => decide (sumB T t = o)) with
    | some t => some t
    | none => if sumB T s = o then some s else none := fun o => by
    rw [List.find?_append]
    cases S.find? (fun t => decide (sumB T t = o)) with
    | some t => rfl
    | none =>
      by_cases ho : sumB T s = o
      · simp [ho]
      · simp [ho]
  unfold noteM twinsB
  cases hm : mget m.notes_ (sumB T s) with
  | some f =>
    rw [hm] at hg
    have hkeep : ∀ o, mget m.notes_ o = (S ++ [s]).find? fun t => decide (sumB T t = o) := fun o => by
      rw [hfind, h2 o]
      cases hc : S.find? (fun t => decide (sumB T t = o)) with
      | some t => rfl
      | none =>
        dsimp only
        rw [if_neg]
        intro ho
        subst ho
        rw [hc] at hg; cases hg
    rw [← hg]
    dsimp only
    by_cases hc : f ≠ s ∧ m.found_ = false
    · rw [if_pos hc]
      refine ⟨⟨h1, hkeep, by simp; omega, h4, hw⟩, ?_⟩
      rw [hc.2, if_neg Bool.false_ne_true, if_neg hc.1]
    · rw [if_neg hc]
      refine ⟨⟨h1, hkeep, by simp; omega, h4, hw⟩, ?_⟩
      cases hf : m.found_ with
      | true => simp
      | false =>
        have : f = s := Classical.byContradiction fun hne => hc ⟨hne, hf⟩
        simp [this]
  | none =>
    rw [hm] at hg
    dsimp only
    rw [if_neg (by omega), ← hg]
    refine ⟨⟨h1, fun o => ?_, ?_, h4, hw⟩, ?_⟩
    · show mget (mset m.notes_ (sumB T s) s) o = _
      rw [mget_mset, hfind, h2 o]
      by_cases ho : o = sumB T s
      · subst ho
        rw [if_pos rfl, ← hg]
        simp
      · rw [if_neg ho]
        cases hc : S.find? (fun t => decide (sumB T t = o)) with
        | some t => rfl
        | none => dsimp only; rw [if_neg (fun e => ho e.symm)]
    · have := mset_length_le m.notes_ (sumB T s) s
      show (mset m.notes_ (sumB T s) s).length ≤ _
      simp; omega
    · cases m.found_ <;> simp

theorem inner_eq {l : List mill_Entry} {texts : List ByteArray} (hl : l.length < 1000000000000000000) (hz : ∀ s ∈ texts, s.size ≤ 140737488351232) {i : Nat} {s : ByteArray} (hs : texts[i]? = some s) (hi : i < 30) (a b : ByteArray) (f : Bool) :
    iter (fun x => F.law03_MillSums.l6 texts l a b f (i : Int) (sumB (tabOf l) s) x) FUEL 0 = some (twinsB (tabOf l) (texts.take i) s a b f) := by
  have hil := lt_of_get hs
  unfold twinsB
  cases f with
  | true =>
    have h := iter_stop (f := fun (x : Int) => F.law03_MillSums.l6 texts l a b true (i : Int) (sumB (tabOf l) s) x) (k := 18446744073709551615) (s := 0) (r := (a, b, true)) (by
      unfold F.law03_MillSums.l6
      by_cases h0 : 0 < i
      · rw [if_pos (by simpa using h0), if_neg (by decide), thru_inr]
      · rw [if_neg (by simpa using h0), thru_inr])
    rw [show 18446744073709551615 + 1 = FUEL by rw [FUEL_eq]] at h
    rw [if_pos rfl]
    exact h
  | false =>
    rw [if_neg Bool.false_ne_true]
    have hlt : (texts.take i).length = i := by rw [List.length_take]; omega
    have h := iter_fold (f := fun (x : Int) => F.law03_MillSums.l6 texts l a b false (i : Int) (sumB (tabOf l) s) x) (fun k (_ : Unit) => (k : Int)) (fun _ _ (y : ByteArray) => if sumB (tabOf l) y = sumB (tabOf l) s then (.inr (if y = s then (a, b, false) else (y, s, true)) : Unit ⊕ (ByteArray × ByteArray × Bool)) else .inl ()) (fun _ => (a, b, false)) (fun _ _ => True) (texts.take i)
      (fun k t y _ hy => ⟨by
        have hk := lt_of_get hy
        have hy' : texts[k]? = some y := by rw [List.getElem?_take] at hy; split at hy; · exact hy
                                            · cases hy
        have hzy := hz y (List.mem_of_getElem? hy')
        unfold F.law03_MillSums.l6
        rw [if_pos (by simp; omega), if_pos (by decide), thru_inl]
        unfold F.law03_MillSums.r5
        rw [at_nat hy', Option.bind_some, lsum_eq hl (by omega), Option.bind_some]
        by_cases he : sumB (tabOf l) y = sumB (tabOf l) s
        · rw [seqB_iff.2 he, if_pos rfl, if_pos he, Option.bind_some, at_nat hs, Option.bind_some]
          by_cases hys : y = s
          · rw [seqB_iff.2 hys, if_neg (by decide), if_pos hys]
          · have : seqB y s = false := by
              cases hc : seqB y s with
              | false => rfl
              | true => exact absurd (seqB_iff.1 hc) hys
            rw [this, if_pos (by decide), if_neg hys, Option.bind_some, Option.bind_some]
        · have : seqB (sumB (tabOf l) y) (sumB (tabOf l) s) = false := by
            cases hc : seqB (sumB (tabOf l) y) (sumB (tabOf l) s) with
            | false => rfl
            | true => exact absurd (seqB_iff.1 hc) he
          rw [this, if_neg Bool.false_ne_true, if_neg he, wadd (by omega)], fun _ _ => trivial⟩)
      (fun t _ => by
        unfold F.law03_MillSums.l6
        rw [if_neg (by rw [hlt]; simp), thru_inr]) (t0 := ()) trivial (k := FUEL) (by rw [FUEL_eq]; omega)
    refine h.trans ?_
    congr 1
    have : ∀ (q : List ByteArray) (j : Nat), foldE (fun _ (_ : Unit) (y : ByteArray) => if sumB (tabOf l) y = sumB (tabOf l) s then (.inr (if y = s then (a, b, false) else (y, s, true)) : Unit ⊕ (ByteArray × ByteArray × Bool)) else .inl ()) (fun _ => (a, b, false)) q j () = match q.find? fun t => decide (sumB (tabOf l) t = sumB (tabOf l) s) with
        | some t => if t = s then (a, b, false) else (t, s, true)
        | none => (a, b, false) := by
      intro q
      induction q with
      | nil => intro j; rfl
      | cons y q ih =>
        intro j
        unfold foldE
        by_cases he : sumB (tabOf l) y = sumB (tabOf l) s
        · rw [if_pos he, List.find?_cons_of_pos (by simpa using he)]
        · rw [if_neg he, List.find?_cons_of_neg (by simpa using he)]; exact ih (j + 1)
    exact this _ 0

abbrev StM := ByteArray × ByteArray × Bool × Int × (List (ByteArray × ByteArray)) × (List (ByteArray × ByteArray)) × ByteArray × ByteArray × Bool × Bool × Int
abbrev ResM := (List (ByteArray × ByteArray) × List (ByteArray × ByteArray) × ByteArray × ByteArray × Bool × Bool × Int) ⊕ Bool
def InvM (T : Tab) (texts : List ByteArray) (i : Nat) (x : StM) : Prop :=
  ∃ m : mill_Mill, Sums T (texts.take i) m ∧ i ≤ 30 ∧ x = (m.twins_.e0, m.twins_.e1, m.found_, (i : Int), m.table_, m.notes_, m.twins_.e0, m.twins_.e1, m.found_, m.full_, m.sums_)

theorem pure_MillSums (x0 : List mill_Entry) (x1 : List ByteArray) {k0 k1 : Nat} {w0 w1 : Prop} (_ : w0) (z0 : ∀ n ∈ (x0.length * k0 :: x0.flatMap fun y => (([] : List Nat) ++ [y.Key.size] ++ [y.Text.size] ++ [y.Out.size])), n ≤ 140737488351232)
    (_ : w1) (z1 : ∀ n ∈ (x1.length * k1 :: x1.flatMap fun y => [y.size]), n ≤ 140737488351232) : F.law03_MillSums x0 x1 = some true := by
  have hz : ∀ s ∈ x1, s.size ≤ 140737488351232 := fun s hs => z1 _ (List.mem_cons_of_mem _ (List.mem_flatMap.2 ⟨s, hs, by simp⟩))
  obtain ⟨hsz, hlen⟩ := sized_of z0
  unfold F.law03_MillSums
  rw [few_eq, Option.bind_some]
  generalize x0.take 10 = l at hsz hlen
  rw [with_eq hsz hlen, Option.bind_some]
  cases h32 : all32 l with
  | false =>
    simp only [Bool.false_eq_true, if_false, optC_none]
    rw [right_eq hlen, h32, Option.bind_some, if_pos (by decide), if_pos (by decide), awake]; rfl
  | true =>
    simp only [if_true, optC_some]
    rw [right_eq hlen, h32, Option.bind_some, if_neg (by decide), thru_inl]
    unfold F.law03_MillSums.r2
    dsimp only
    rw [if_neg (by decide), thru_inl]
    unfold F.law03_MillSums.r3
    have key : ∃ r : ResM, iter (fun x : StM => F.law03_MillSums.l9 x1 l x.1 x.2.1 x.2.2.1 x.2.2.2.1 x.2.2.2.2.1 x.2.2.2.2.2.1 x.2.2.2.2.2.2.1 x.2.2.2.2.2.2.2.1 x.2.2.2.2.2.2.2.2.1 x.2.2.2.2.2.2.2.2.2.1 x.2.2.2.2.2.2.2.2.2.2) FUEL ((ByteArray.mk #[]), (ByteArray.mk #[]), false, 0, tabOf l, [], b0, b0, false, false, 0) = some r ∧ ∃ t, r = .inl t := by
      refine iter_up (k := FUEL) (min x1.length 30) (InvM (tabOf l) x1) (fun (r : ResM) => ∃ t, r = .inl t) ?_ ?_ ⟨⟨tabOf l, [], ⟨b0, b0⟩, false, false, 0⟩, ⟨rfl, fun o => rfl, Nat.le_refl _, rfl, rfl⟩, by omega, rfl⟩ (by rw [FUEL_eq]; omega)
      · rintro i x hi ⟨m, hm, h30, rfl⟩
        left
        obtain ⟨s, hs⟩ : ∃ s, x1[i]? = some s := ⟨_, List.getElem?_eq_getElem (by omega)⟩
        have hlt : (x1.take i).length = i := by rw [List.length_take]; omega
        obtain ⟨hn, ht⟩ := hm.next (by omega) s
        have htake : x1.take (i + 1) = x1.take i ++ [s] := by rw [List.take_add_one, hs]; rfl
        refine ⟨_, ?_, noteM s (sumB (tabOf l) s) m, by rw [htake]; exact hn, by omega, rfl⟩
        dsimp only
        unfold F.law03_MillSums.l9
        rw [if_pos (by simp; omega), if_pos (by simp; omega), thru_inl]
        unfold F.law03_MillSums.r4
        have hzs := hz s (List.mem_of_getElem? hs)
        have hme : (⟨m.table_, m.notes_, ⟨m.twins_.e0, m.twins_.e1⟩, m.found_, m.full_, m.sums_⟩ : mill_Mill) = m := rfl
        rw [at_nat hs, Option.bind_some, lsum_eq hlen (by omega), Option.bind_some, Option.bind_some, hme, sum_eqB m (by omega), Option.bind_some, hm.table]
        dsimp only
        rw [seqB_refl, if_neg (by decide)]
        have hin := inner_eq hlen hz hs (by omega) m.twins_.e0 m.twins_.e1 m.found_
        rw [← ht] at hin
        refine (congrArg (fun o => thru (Option.bind o _) _) hin).trans ?_
        rw [Option.bind_some]
        dsimp only
        unfold F.law03_MillSums.r7
        generalize noteM s (sumB (tabOf l) s) m = M at hn
        rw [twins_eq, Option.bind_some]
        dsimp only
        rw [seqB_refl, seqB_refl, if_neg (by decide), if_neg (by decide), if_neg (by simp)]
        unfold F.mill_Mill_Sums F.mill_Mill_Full F.mill_Mill_none
        have hsum : M.sums_ = ((i + 1 : Nat) : Int) := by rw [hn.sums, List.length_append, hlt]; rfl
        rw [Option.bind_some, if_neg Bool.false_ne_true, Option.bind_some, wadd (by omega), if_neg (by rw [hsum]; simp), Option.bind_some, if_pos (by decide), Option.bind_some, hn.full, if_neg Bool.false_ne_true, thru_inl]
        unfold F.law03_MillSums.r8
        dsimp only
        rw [wadd (by omega), hn.table]
      · rintro x ⟨m, hm, h30, rfl⟩
        dsimp only
        unfold F.law03_MillSums.l9
        by_cases hl : x1.length ≤ 30
        · rw [if_neg (by simp; omega), thru_inr]; exact ⟨_, rfl, _, rfl⟩
        · rw [if_pos (by simp; omega), if_neg (by simp; omega), thru_inr]; exact ⟨_, rfl, _, rfl⟩
    obtain ⟨r, hr, t, rfl⟩ := key
    refine (congrArg (fun o => thru o _) hr).trans ?_
    rw [thru_inl]
    unfold F.law03_MillSums.r10
    rw [awake]; rfl
end Go.Proofs.Ytgkkgmnomiokbaa
