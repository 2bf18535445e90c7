/- AbsentBytes in plain words: any proof's bytes, and that they are read again; that what any bytes are read as has just these. -/
import Derived.Test.YtileogoeoiafkaaPAbsentRead
import Derived.Test.YtileogoeoiafkaaPFew24
import Derived.Test.YtileogoeoiafkaaPSame24
import Derived.Test.YtileogoeoiafkaaPAwake24
import Derived.Test.YtileogoeoiafkaaGBytes
namespace Go.Proofs.Ytileogoeoiafkaa
set_option linter.all false
open Go Go.RowKit Go.Fw
set_option maxRecDepth 100000
attribute [local irreducible] FUEL
theorem path_loop (y : absent_Side) (hP : y.Path.length ≤ 1000) (b : Bool) : iter (fun x => F.law24_right.l3 y x.1 x.2) FUEL (b, 0) = some (b && all32B y.Path, y.Index, y.ID, y.Path) := by
  have h := iter_count (f := fun x : Bool × Int => F.law24_right.l3 y x.1 x.2) (fun i => (b && all32B (y.Path.take i), (i : Int))) (n := y.Path.length) (r := (b && all32B y.Path, y.Index, y.ID, y.Path)) (fun i hi => by
      have hy : y.Path[i]? = some y.Path[i] := List.getElem?_eq_getElem hi
      have ht : all32B (y.Path.take (i + 1)) = (all32B (y.Path.take i) && decide (y.Path[i].size = 32)) := by
        unfold all32B
        rw [List.take_succ, hy, List.all_append]
        simp
      dsimp only
      unfold F.law24_right.l3
      rw [if_pos (by apply decide_eq_true; omega), w64 (n := (i : Int) + 1) (by omega) (by omega), ht, ← Bool.and_assoc]
      cases b && all32B (y.Path.take i) with
      | true =>
        rw [if_pos rfl, at_nat hy, Option.bind_some, Bool.true_and]
        have : ((y.Path[i].size : Int) == 32) = decide (y.Path[i].size = 32) := by
          by_cases h : y.Path[i].size = 32
          · rw [decide_eq_true h, h]; rfl
          · rw [decide_eq_false h, beq_eq_false_iff_ne]; omega
        rw [this]; rfl
      | false =>
        rw [if_neg (by decide)]; rfl) (by
      dsimp only
      unfold F.law24_right.l3
      rw [if_neg (by simp), List.take_length]) (k := FUEL) (by rw [FUEL_eq]; omega)
  have e0 : (b && all32B (y.Path.take 0), ((0 : Nat) : Int)) = (b, (0 : Int)) := by
    rw [List.take_zero]
    unfold all32B
    simp
  rw [← e0]; exact h
theorem right_eq {p : absent_Proof} (hp : Fine p) : F.law24_right p = some (rightP p) := by
  unfold F.law24_right rightP
  have e : (if decide (p.Size ≥ 0) = true then (if decide (p.Size ≤ 65536) = true then some (decide ((p.Sides.length : Int) ≤ 2)) else some false) else some false) = some (decide (0 ≤ p.Size ∧ p.Size ≤ 65536 ∧ p.Sides.length ≤ 2)) := by
    by_cases c1 : 0 ≤ p.Size
    · rw [if_pos (by simpa using c1)]
      by_cases c2 : p.Size ≤ 65536
      · rw [if_pos (by simpa using c2)]
        congr 1
        apply decide_eq_decide.2
        omega
      · rw [if_neg (by simpa using c2), decide_eq_false (by omega)]
    · rw [if_neg (by simpa using c1), decide_eq_false (by omega)]
  rw [e, Option.bind_some]
  generalize decide (0 ≤ p.Size ∧ p.Size ≤ 65536 ∧ p.Sides.length ≤ 2) = b
  unfold F.law24_right.r1
  have hps := hp.sides
  have h := iter_count (f := fun x : Bool × Int => F.law24_right.l5 p x.1 x.2) (fun i => (b && (p.Sides.take i).all (sideOk p.Size), (i : Int))) (n := p.Sides.length) (r := b && p.Sides.all (sideOk p.Size)) (fun i hi => by
      have hy : p.Sides[i]? = some p.Sides[i] := List.getElem?_eq_getElem hi
      have hpp := hp.paths _ (List.getElem_mem hi)
      have ht : (p.Sides.take (i + 1)).all (sideOk p.Size) = ((p.Sides.take i).all (sideOk p.Size) && sideOk p.Size p.Sides[i]) := by
        rw [List.take_succ, hy, List.all_append]
        simp
      dsimp only
      unfold F.law24_right.l5
      rw [if_pos (by apply decide_eq_true; omega), at_nat hy, Option.bind_some, ht, ← Bool.and_assoc]
      generalize (b && (p.Sides.take i).all (sideOk p.Size)) = q
      generalize p.Sides[i] = y at hpp
      have hr : ∀ c : Bool, Option.bind (F.law24_right.r2 y c) (fun x => F.law24_right.r4 (i : Int) x.1 x.2.1 x.2.2.1 x.2.2.2) = some (.inl (c && all32B y.Path, ((i + 1 : Nat) : Int))) := fun c => by
        unfold F.law24_right.r2
        rw [path_loop y hpp c, Option.bind_some]
        unfold F.law24_right.r4
        rw [w64 (n := (i : Int) + 1) (by omega) (by omega)]; rfl
      have hc : (if q = true then (if decide (y.Index ≥ 0) = true then (if decide (y.Index < p.Size) = true then (Option.bind (F.paper_IsID y.ID) (fun (r48 : Bool) => if r48 = true then (some ((decide ((y.Path.length : Int) ≤ 16)))) else (some (false)))) else (some (false))) else (some (false))) else (some (false))) = some (q && (decide (0 ≤ y.Index) && (decide (y.Index < p.Size) && (idB y.ID && decide (y.Path.length ≤ 16))))) := by
        rw [isid_eq, Option.bind_some]
        have c4 : decide ((y.Path.length : Int) ≤ 16) = decide (y.Path.length ≤ 16) := by
          apply decide_eq_decide.2; omega
        rw [c4]
        cases q
        · rfl
        by_cases c1 : 0 ≤ y.Index
        · rw [decide_eq_true c1, if_pos rfl, if_pos (by simpa using c1)]
          by_cases c2 : y.Index < p.Size
          · rw [decide_eq_true c2, if_pos rfl]
            cases idB y.ID <;> rfl
          · rw [decide_eq_false c2]; rfl
        · rw [decide_eq_false c1, if_pos rfl, if_neg (by simpa using c1)]; rfl
      rw [hc, Option.bind_some, hr]
      unfold sideOk
      simp only [Bool.and_assoc]) (by
      dsimp only
      unfold F.law24_right.l5
      rw [if_neg (by simp), List.take_length]) (k := FUEL) (by rw [FUEL_eq]; omega)
  have e0 : (b && (p.Sides.take 0).all (sideOk p.Size), ((0 : Nat) : Int)) = (b, (0 : Int)) := by
    rw [List.take_zero]; simp
  rw [e0] at h
  refine (congrArg (fun o => Option.bind o _) h).trans ?_
  rfl
/-! ### the document's bytes -/
theorem eTxs_snoc : ∀ (l : List ByteArray) (y : ByteArray), eTxs (l ++ [y]) = eTxs l ++ eText y
  | [], y => by show eText y ++ [] = [] ++ eText y; simp
  | x :: l, y => by
    show eText x ++ eTxs (l ++ [y]) = (eText x ++ eTxs l) ++ eText y
    rw [eTxs_snoc l y, List.append_assoc]
theorem eSides_snoc : ∀ (l : List absent_Side) (y : absent_Side), eSides (l ++ [y]) = eSides l ++ eSide y
  | [], y => by show eSide y ++ [] = [] ++ eSide y; simp
  | x :: l, y => by
    show eSide x ++ eSides (l ++ [y]) = (eSide x ++ eSides l) ++ eSide y
    rw [eSides_snoc l y, List.append_assoc]
theorem eSides_len : ∀ {l : List absent_Side}, (∀ x ∈ l, VSide x) → (eSides l).length ≤ l.length * 1000
  | [], _ => by unfold eSides; simp
  | x :: l, h => by
    have h1 := eSide_len (h x (List.mem_cons_self ..))
    have h2 := eSides_len (l := l) fun z hz => h z (List.mem_cons_of_mem _ hz)
    show (eSide x ++ eSides l).length ≤ _
    rw [List.length_append, List.length_cons, Nat.succ_mul]; omega
theorem text_eqL {s : ByteArray} (h : s.size ≤ 1000) : F.octet_Text s = some (ofL (eText s)) := by
  rw [text_eq (by omega), textB_eq]; rfl
theorem ltxs_loop {y : absent_Side} (hP : y.Path.length ≤ 16) (h32 : ∀ x ∈ y.Path, x.size ≤ 32) {acc : List UInt8} (ha : acc.length ≤ 1000000) : iter (fun x => F.law24_bytes.l1 y x.1 x.2) FUEL (ofL acc, 0) = some (ofL (acc ++ eTxs y.Path), y.Index, y.ID, y.Path) := by
  have h := iter_count (f := fun x : ByteArray × Int => F.law24_bytes.l1 y x.1 x.2) (fun i => (ofL (acc ++ eTxs (y.Path.take i)), (i : Int))) (n := y.Path.length) (r := (ofL (acc ++ eTxs y.Path), y.Index, y.ID, y.Path)) (fun i hi => by
      have hy : y.Path[i]? = some y.Path[i] := List.getElem?_eq_getElem hi
      have hz := h32 _ (List.getElem_mem hi)
      have n1 := eText_len (y := y.Path[i]) (by omega)
      have n2 := eTxs_len (l := y.Path.take i) (b := 32) (fun x hx => h32 x (List.mem_of_mem_take hx)) (by omega)
      have n3 : (y.Path.take i).length ≤ 16 := by rw [List.length_take]; omega
      dsimp only
      unfold F.law24_bytes.l1
      rw [if_pos (by apply decide_eq_true; omega), at_nat hy, Option.bind_some, text_eqL (by omega), Option.bind_some, chk_pos (by rw [ofL_size, ofL_size, List.length_append]; omega), ofL_append, w64 (n := (i : Int) + 1) (by omega) (by omega), List.append_assoc, ← eTxs_snoc]
      have ht : y.Path.take (i + 1) = y.Path.take i ++ [y.Path[i]] := by rw [List.take_succ, hy]; rfl
      rw [ht]; rfl) (by
      dsimp only
      unfold F.law24_bytes.l1
      rw [if_neg (by simp), List.take_length]) (k := FUEL) (by rw [FUEL_eq]; omega)
  have e0 : (ofL (acc ++ eTxs (y.Path.take 0)), ((0 : Nat) : Int)) = (ofL acc, (0 : Int)) := by
    rw [List.take_zero]
    show (ofL (acc ++ []), _) = _
    rw [List.append_nil]; rfl
  rw [e0] at h
  exact h
theorem lbytes_eq {p : absent_Proof} (h : VProof p) : F.law24_bytes p = some (ofL (bytesL p)) := by
  obtain ⟨h1, h2, h3⟩ := h
  unfold VNum at h1
  have hI : ((p.Size.toNat : Nat) : Int) = p.Size := Int.toNat_of_nonneg h1.1
  have n1 := numL_len (n := p.Size.toNat) (by omega)
  have n2 := numL_len (n := p.Sides.length) (by omega)
  have e1 : F.octet_Num p.Size = some (ofL (numL p.Size.toNat)) := by
    have := num_eq (n := p.Size.toNat) (by omega)
    rw [hI] at this
    exact this
  unfold F.law24_bytes
  rw [e1, Option.bind_some, num_eq (n := p.Sides.length) (by omega), Option.bind_some]
  unfold numB
  rw [chk_pos (by rw [ofL_size, ofL_size]; omega), ofL_append]
  generalize hA : numL p.Size.toNat ++ numL p.Sides.length = A
  have hAl : A.length ≤ 100 := by rw [← hA, List.length_append]; omega
  have hl := iter_count (f := fun x : ByteArray × Int => F.law24_bytes.l3 p x.1 x.2) (fun i => (ofL (A ++ eSides (p.Sides.take i)), (i : Int))) (n := p.Sides.length) (r := ofL (A ++ eSides p.Sides)) (fun i hi => by
      have hy : p.Sides[i]? = some p.Sides[i] := List.getElem?_eq_getElem hi
      have hv := h3 _ (List.getElem_mem hi)
      have n3 := eSides_len (l := p.Sides.take i) fun x hx => h3 x (List.mem_of_mem_take hx)
      have n4 : (p.Sides.take i).length ≤ 2 := by rw [List.length_take]; omega
      have ht : p.Sides.take (i + 1) = p.Sides.take i ++ [p.Sides[i]] := by rw [List.take_succ, hy]; rfl
      rw [ht, eSides_snoc]
      dsimp only
      unfold F.law24_bytes.l3
      rw [if_pos (by apply decide_eq_true; omega), at_nat hy, Option.bind_some]
      generalize p.Sides[i] = y at hv
      generalize hB : A ++ eSides (p.Sides.take i) = B
      have hBl : B.length ≤ 3000 := by rw [← hB, List.length_append]; omega
      obtain ⟨v1, v2, v3, v4⟩ := hv
      unfold VNum at v1
      unfold VText at v2
      have m1 := numL_len (n := y.Index.toNat) (by omega)
      have m2 := numL_len (n := y.Path.length) (by omega)
      have m3 := eText_len (y := y.ID) (by omega)
      have e2 : F.octet_Num y.Index = some (ofL (numL y.Index.toNat)) := by
        have := num_eq (n := y.Index.toNat) (by omega)
        rw [Int.toNat_of_nonneg v1.1] at this
        exact this
      rw [e2, Option.bind_some, chk_pos (by rw [ofL_size, ofL_size]; omega), ofL_append, text_eqL (by omega), Option.bind_some, chk_pos (by rw [ofL_size, ofL_size, List.length_append]; omega), ofL_append, num_eq (n := y.Path.length) (by omega), Option.bind_some]
      unfold numB
      rw [chk_pos (by rw [ofL_size, ofL_size, List.length_append, List.length_append]; omega), ofL_append, ltxs_loop v3 v4 (by rw [List.length_append, List.length_append, List.length_append]; omega), Option.bind_some]
      unfold F.law24_bytes.r2
      rw [w64 (n := (i : Int) + 1) (by omega) (by omega)]
      unfold eSide eNum eTexts
      rw [← List.append_assoc A, hB]
      simp only [List.append_assoc]
      rfl) (by
      dsimp only
      unfold F.law24_bytes.l3
      rw [if_neg (by simp), List.take_length]) (k := FUEL) (by rw [FUEL_eq]; omega)
  have e0 : (ofL (A ++ eSides (p.Sides.take 0)), ((0 : Nat) : Int)) = (ofL A, (0 : Int)) := by
    rw [List.take_zero]
    show (ofL (A ++ []), _) = _
    rw [List.append_nil]; rfl
  rw [e0] at hl
  refine (congrArg (fun o => Option.bind o _) hl).trans ?_
  rw [Option.bind_some]
  unfold F.law24_bytes.r4 bytesL eNum
  rw [← hA, List.append_assoc]
theorem bytesL_len {p : absent_Proof} (h : VProof p) : (bytesL p).length ≤ 10000 := by
  obtain ⟨h1, h2, h3⟩ := h
  unfold VNum at h1
  have n1 := numL_len (n := p.Size.toNat) (by omega)
  have n2 := numL_len (n := p.Sides.length) (by omega)
  have n3 := eSides_len h3
  unfold bytesL eNum
  rw [List.length_append, List.length_append]; omega
theorem same_fine {p : absent_Proof} (h : Fine p) : F.law24_same p p = some true := same_refl p (by have := h.sides; omega) fun s hs => by have := h.paths s hs; omega
/-- the second half: what any bytes are read as -/
theorem reads_any {s : List UInt8} (hs : s.length ≤ 1000000000000000000) : F.law24_AbsentBytes.r3 (ofL s) = some true := by
  unfold F.law24_AbsentBytes.r3
  rcases read_eq hs with ⟨p, e1, hr, hp⟩ | ⟨er, her, e1, _⟩
  · have hV := right_V hr
    rw [e1, Option.bind_some]
    dsimp only
    rw [if_neg (by decide), thru_inl]
    unfold F.law24_AbsentBytes.r4
    dsimp only
    rw [right_eq (fine_V hV), Option.bind_some, hr, if_pos rfl, lbytes_eq hV, Option.bind_some, ← hp, seqB_refl, if_pos rfl, awake]
    rfl
  · rw [e1, Option.bind_some]
    dsimp only
    rw [if_pos (by simpa using her)]
    have hsame : F.law24_same p00 ⟨0, []⟩ = some true := same_fine (p := p00) ⟨by decide, fun s hs => by cases hs⟩
    rw [hsame, Option.bind_some, if_pos rfl, awake]
    rfl
theorem pure_AbsentBytes (p0 : absent_Proof) (b : ByteArray) {q0 q1 q2 q3 : Prop} (_ : q0) (_ : q1) (_ : q2) (_ : q3) : F.law24_AbsentBytes p0 b = some true := by
  unfold F.law24_AbsentBytes
  obtain ⟨f1, f2⟩ := fewP_sides p0
  rw [fewP_eq, Option.bind_some]
  generalize fewP p0 = p at f1 f2
  have hp : Fine p := ⟨by omega, fun s hs => by have := (f2 s hs).2.1; omega⟩
  have hcut : ∃ s : List UInt8, s.length ≤ 3000 ∧ (if decide ((b.size : Int) > 3000) then (chk (0 ≤ (0 : Int) ∧ (0 : Int) ≤ (3000 : Int) ∧ (3000 : Int) ≤ (b.size : Int)) (some ((b.extract (0 : Int).toNat (3000 : Int).toNat)))) else (some (b))) = some (ofL s) := by
    by_cases h : b.size > 3000
    · refine ⟨(b.data.toList.take 3000).drop 0, by rw [List.length_drop, List.length_take]; omega, ?_⟩
      rw [if_pos (by apply decide_eq_true; omega), chk_pos (by omega)]
      rw [ofL_surj b, ofL_extract, ofL_toList]
      rfl
    · refine ⟨b.data.toList, by rw [size_ofL']; omega, ?_⟩
      rw [if_neg (by simp; omega), ← ofL_surj]
  obtain ⟨s, hs, e⟩ := hcut
  refine (congrArg (fun o => Option.bind o _) e).trans ?_
  rw [Option.bind_some]
  have h3 := reads_any (s := s) (by omega)
  unfold F.law24_AbsentBytes.r1
  rw [abytes_eq, Option.bind_some, right_eq hp, Option.bind_some]
  cases hr : rightP p with
  | false =>
    rw [if_neg (c := false = true) (by decide)]
    dsimp only
    rw [if_neg (by decide), if_pos (by decide), if_neg (by rw [show seqB b0 (ByteArray.mk #[]) = true from seqB_refl b0]; decide), thru_inl]
    unfold F.law24_AbsentBytes.r2
    dsimp only
    rw [if_neg (by decide), thru_inl]
    exact h3
  | true =>
    have hV := right_V hr
    have hlen := bytesL_len hV
    rw [if_pos (c := true = true) rfl]
    dsimp only
    rw [if_neg (by decide), if_neg (by decide), thru_inl]
    unfold F.law24_AbsentBytes.r2
    dsimp only
    rcases read_eq (s := bytesL p) (by omega) with ⟨p', e1, hr', hp'⟩ | ⟨er, her, e1, hno⟩
    rotate_left
    · exact absurd rfl (hno p hr)
    have heq : p = p' := (cut_proof _ _ [] [] hV (right_V hr') (by rw [List.append_nil, List.append_nil]; exact hp')).1
    subst heq
    rw [if_pos rfl, e1, Option.bind_some, lbytes_eq hV, Option.bind_some, seqB_refl, if_neg (by decide)]
    dsimp only
    rw [if_neg (by decide), same_fine hp, Option.bind_some, if_neg (by decide), thru_inl]
    exact h3
end Go.Proofs.Ytileogoeoiafkaa
