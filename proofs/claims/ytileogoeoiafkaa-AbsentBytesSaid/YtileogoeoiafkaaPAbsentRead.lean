/- A proof's bytes: how they are laid, told to be right, and read; in plain words. -/
import Derived.Test.YtileogoeoiafkaaPRd
import Derived.Test.YtileogoeoiafkaaPId
import Derived.Test.YtileogoeoiafkaaGBytes
namespace Go.Proofs.Ytileogoeoiafkaa
set_option linter.all false
open Go Go.RowKit Go.Fw
set_option maxRecDepth 100000
attribute [local irreducible] FUEL
/-! ### sides -/
def VSide (s : absent_Side) : Prop := VNum 65536 s.Index ∧ VText 24 s.ID ∧ VTexts 16 32 s.Path
def eSide (s : absent_Side) : List UInt8 := eNum s.Index ++ (eText s.ID ++ eTexts s.Path)
def readSide (m : octet_Reader) : Option (absent_Side × octet_Reader) := Option.bind (F.octet_Reader_Num 65536 m) fun x => Option.bind (F.octet_Reader_Text 24 x.2) fun y => Option.bind (F.octet_Reader_Texts 16 32 y.2) fun z => some (⟨x.1, y.1, z.1⟩, z.2)
theorem cut_side : Cut VSide eSide := by
  rintro ⟨i, d, p⟩ ⟨i', d', p'⟩ r r' ⟨h1, h2, h3⟩ ⟨g1, g2, g3⟩ h
  unfold eSide at h
  dsimp only at h1 h2 h3 g1 g2 g3 h
  rw [List.append_assoc, List.append_assoc, List.append_assoc, List.append_assoc] at h
  obtain ⟨e1, h4⟩ := cut_num (max := 65536) (by decide) _ _ _ _ h1 g1 h
  obtain ⟨e2, h5⟩ := cut_text (max := 24) (by decide) _ _ _ _ h2 g2 h4
  obtain ⟨e3, h6⟩ := cut_texts (many := 16) (max := 32) (by decide) (by decide) _ _ _ _ h3 g3 h5
  subst e1; subst e2; subst e3
  exact ⟨rfl, h6⟩
theorem rd_side {s : List UInt8} (hs : s.length ≤ 1000000000000000000) : Rd s readSide VSide eSide := by
  have h2 := Rd.seq (rd_text hs (max := 24) (by decide)) (cut_text (by decide)) (R2 := fun _ => F.octet_Reader_Texts 16 32) (V2 := fun _ => VTexts 16 32) (e2 := fun _ => eTexts) (fun _ _ => rd_texts hs (many := 16) (max := 32) (by decide) (by decide)) (fun _ j e he => (rd_texts hs (many := 16) (max := 32) (by decide) (by decide)).bad j e he)
  have h1 := Rd.seq (rd_num hs (max := 65536) (by decide)) (cut_num (by decide)) (R2 := fun _ m => Option.bind (F.octet_Reader_Text ((24 : Nat) : Int) m) fun x => Option.bind (F.octet_Reader_Texts 16 32 x.2) fun y => some ((x.1, y.1), y.2)) (V2 := fun _ z => VText 24 z.1 ∧ VTexts 16 32 z.2) (e2 := fun _ z => eText z.1 ++ eTexts z.2) (fun _ _ => h2) (fun _ j e he => h2.bad j e he)
  have h0 := h1.map (fun z : Int × ByteArray × List ByteArray => (⟨z.1, z.2.1, z.2.2⟩ : absent_Side)) (fun a => (a.Index, a.ID, a.Path)) (fun _ => rfl) (fun _ _ => rfl)
  refine h0.congr fun m => ?_
  unfold readSide
  show Option.bind (F.octet_Reader_Num ((65536 : Nat) : Int) m) _ = _
  simp only [Option.bind_assoc, Option.bind_some]
  rfl
def eSides : List absent_Side → List UInt8
  | [] => []
  | a :: l => eSide a ++ eSides l
theorem cut_sides : ∀ (l l' : List absent_Side) (r r' : List UInt8), l.length = l'.length → (∀ s ∈ l, VSide s) → (∀ s ∈ l', VSide s) → eSides l ++ r = eSides l' ++ r' → l = l' ∧ r = r'
  | [], [], r, r', _, _, _, h => ⟨rfl, h⟩
  | [], _ :: _, _, _, hl, _, _, _ => by simp at hl
  | _ :: _, [], _, _, hl, _, _, _ => by simp at hl
  | b :: l, b' :: l', r, r', hl, h1, h2, he => by
    have he : (eSide b ++ eSides l) ++ r = (eSide b' ++ eSides l') ++ r' := he
    rw [List.append_assoc, List.append_assoc] at he
    obtain ⟨rfl, he1⟩ := cut_side _ _ _ _ (h1 b (List.mem_cons_self ..)) (h2 b' (List.mem_cons_self ..)) he
    obtain ⟨rfl, he2⟩ := cut_sides l l' r r' (by simpa using hl) (fun x hx => h1 x (List.mem_cons_of_mem _ hx)) (fun x hx => h2 x (List.mem_cons_of_mem _ hx)) he1
    exact ⟨rfl, he2⟩
/-! ### proofs that may be -/
def sideOk (size : Int) (s : absent_Side) : Bool := decide (0 ≤ s.Index) && (decide (s.Index < size) && (idB s.ID && (decide (s.Path.length ≤ 16) && all32B s.Path)))
def rightP (p : absent_Proof) : Bool := decide (0 ≤ p.Size ∧ p.Size ≤ 65536 ∧ p.Sides.length ≤ 2) && p.Sides.all (sideOk p.Size)
structure Fine (p : absent_Proof) : Prop where
  sides : p.Sides.length ≤ 1000
  paths : ∀ s ∈ p.Sides, s.Path.length ≤ 1000
def VProof (p : absent_Proof) : Prop := VNum 65536 p.Size ∧ p.Sides.length ≤ 2 ∧ ∀ s ∈ p.Sides, VSide s
def bytesL (p : absent_Proof) : List UInt8 := eNum p.Size ++ (numL p.Sides.length ++ eSides p.Sides)
theorem sideOk_spec {size : Int} {s : absent_Side} (h : sideOk size s = true) : 0 ≤ s.Index ∧ s.Index < size ∧ idB s.ID = true ∧ s.Path.length ≤ 16 ∧ all32B s.Path = true := by
  unfold sideOk at h
  simpa only [Bool.and_eq_true, decide_eq_true_eq] using h
theorem sideOk_V {size : Int} {s : absent_Side} (hz : size ≤ 65536) (h : sideOk size s = true) : VSide s := by
  obtain ⟨h1, h2, h3, h4, h5⟩ := sideOk_spec h
  refine ⟨⟨h1, by omega⟩, (idB_small h3).1, h4, fun x hx => ?_⟩
  have := all32B_spec h5 x hx
  unfold VText; omega
theorem right_spec {p : absent_Proof} (h : rightP p = true) : (0 ≤ p.Size ∧ p.Size ≤ 65536 ∧ p.Sides.length ≤ 2) ∧ ∀ s ∈ p.Sides, sideOk p.Size s = true := by
  unfold rightP at h
  rw [Bool.and_eq_true, decide_eq_true_eq, List.all_eq_true] at h
  exact h
theorem right_V {p : absent_Proof} (h : rightP p = true) : VProof p := by
  obtain ⟨h1, h2⟩ := right_spec h
  exact ⟨⟨h1.1, h1.2.1⟩, h1.2.2, fun s hs => sideOk_V h1.2.1 (h2 s hs)⟩
theorem cut_proof : Cut VProof bytesL := by
  rintro ⟨n, l⟩ ⟨n', l'⟩ r r' ⟨h1, h2, h3⟩ ⟨g1, g2, g3⟩ h
  unfold bytesL at h
  dsimp only at h1 h2 h3 g1 g2 g3 h
  rw [List.append_assoc, List.append_assoc, List.append_assoc, List.append_assoc] at h
  obtain ⟨e1, h4⟩ := cut_num (max := 65536) (by decide) _ _ _ _ h1 g1 h
  obtain ⟨e2, h5⟩ := numL_cut (by omega) (by omega) h4
  obtain ⟨e3, h6⟩ := cut_sides l l' r r' e2 h3 g3 h5
  subst e1; subst e3
  exact ⟨rfl, h6⟩
theorem fine_V {p : absent_Proof} (h : VProof p) : Fine p := ⟨by have := h.2.1; omega, fun s hs => by have := (h.2.2 s hs).2.2.1; omega⟩
theorem eSide_len {s : absent_Side} (h : VSide s) : (eSide s).length ≤ 1000 := by
  obtain ⟨h1, h2, h3, h4⟩ := h
  unfold VNum at h1
  unfold VText at h2
  have n1 := numL_len (n := s.Index.toNat) (by omega)
  have n2 := eText_len (y := s.ID) (by omega)
  have n3 := numL_len (n := s.Path.length) (by omega)
  have n4 := eTxs_len (l := s.Path) (b := 32) h4 (by omega)
  unfold eSide eTexts eNum
  rw [List.length_append, List.length_append, List.length_append]
  omega
/-! ### laid by the program -/
abbrev E2 := (ByteArray × Bool × Int × ByteArray × (List ByteArray)) ⊕ ((Int × ByteArray × Bool) ⊕ ((ByteArray × Bool) ⊕ (ByteArray × Bool)))
theorem side_w {y : absent_Side} (hV : VNum 65536 y.Index ∧ VText 24 y.ID ∧ y.Path.length ≤ 16) {acc : List UInt8} (ha : acc.length ≤ 1000000) :
    F.absent_Bytes.r2 (ofL acc) false y = some (if all32B y.Path = true then .inl (ofL (acc ++ eSide y), false, y.Index, y.ID, y.Path) else .inr (.inr (.inr (b0, false)))) := by
  obtain ⟨h1, h2, h3⟩ := hV
  unfold VNum at h1
  unfold VText at h2
  have hI : ((y.Index.toNat : Nat) : Int) = y.Index := Int.toNat_of_nonneg h1.1
  have n1 := numL_len (n := y.Index.toNat) (by omega)
  have n2 := eText_len (y := y.ID) (by omega)
  have e1 := wnum_eq (n := y.Index.toNat) (by omega) (s := acc) (by omega)
  rw [hI] at e1
  unfold F.absent_Bytes.r2
  rw [e1, Option.bind_some, wtext_eq (by omega) (by rw [List.length_append]; omega), Option.bind_some]
  have h := iter_fold (f := fun x => F.absent_Bytes.l3 y x) (fun i (_ : Unit) => (i : Int)) (fun _ _ x => if x.size = 32 then (.inl () : Unit ⊕ (Unit ⊕ E2)) else .inr (.inr (.inr (.inr (.inr (b0, false)))))) (fun _ => .inl ()) (fun _ _ => True) y.Path
    (fun i t x _ hx => ⟨by
      have hi := lt_of_get hx
      unfold F.absent_Bytes.l3
      rw [if_pos (by apply decide_eq_true; omega), at_nat hx, Option.bind_some, wadd (by omega)]
      by_cases hz : x.size = 32
      · rw [if_neg (by simp; omega), if_pos hz]
      · rw [if_pos (by simp; omega), if_neg hz]; rfl, fun _ _ => trivial⟩)
    (fun t _ => by
      unfold F.absent_Bytes.l3
      rw [if_neg (by simp)]) (t0 := ()) trivial (k := FUEL) (by rw [FUEL_eq]; omega)
  refine (congrArg (fun o => thru o _) h).trans ?_
  rw [foldE_32]
  cases h32 : all32B y.Path with
  | true =>
    rw [if_pos rfl, if_pos rfl]
    show F.absent_Bytes.r4 y _ = _
    unfold F.absent_Bytes.r4
    rw [wtexts_eq (fun x hx => by have := all32B_spec h32 x hx; omega) (by omega) (by rw [List.length_append, List.length_append]; omega), Option.bind_some]
    unfold eSide eNum
    rw [List.append_assoc, List.append_assoc]
  | false =>
    rw [if_neg (by decide), if_neg (by decide)]
    rfl
theorem bytes_loop {p : absent_Proof} (hz : 0 ≤ p.Size ∧ p.Size ≤ 65536 ∧ p.Sides.length ≤ 2) : ∀ (l : List absent_Side) (i : Nat) (acc : List UInt8) (k : Nat), p.Sides.drop i = l → i + l.length = p.Sides.length → acc.length + l.length * 1000 ≤ 1000000 → l.length < k →
    iter (fun x => F.absent_Bytes.l6 p x.1 x.2.1 x.2.2) k ((i : Int), ofL acc, false) = some (if l.all (sideOk p.Size) = true then .inl (ofL (acc ++ eSides l), false) else .inr (b0, false))
  | l, i, acc, 0, _, _, _, h => by omega
  | [], i, acc, k + 1, hd, hl, ha, _ => by
    have : i = p.Sides.length := by simpa using hl
    subst this
    have h0 : F.absent_Bytes.l6 p (p.Sides.length : Int) (ofL acc) false = some (.inr (.inl (ofL acc, false))) := by
      unfold F.absent_Bytes.l6
      rw [if_neg (by simp)]
    rw [iter]
    dsimp only
    rw [h0]
    unfold eSides
    rw [List.append_nil]
    rfl
  | y :: l, i, acc, k + 1, hd, hl, ha, hk => by
    have hy : p.Sides[i]? = some y := by
      have := congrArg List.head? hd
      rw [List.head?_drop] at this
      simpa using this
    simp only [List.length_cons] at hl ha hk
    have hi := lt_of_get hy
    have hall : (y :: l).all (sideOk p.Size) = (sideOk p.Size y && l.all (sideOk p.Size)) := List.all_cons
    rw [hall]
    have hbad : sideOk p.Size y = false → F.absent_Bytes.l6 p (i : Int) (ofL acc) false = some (.inr (.inr (b0, false))) → iter (fun x => F.absent_Bytes.l6 p x.1 x.2.1 x.2.2) (k + 1) ((i : Int), ofL acc, false) = some (if (sideOk p.Size y && l.all (sideOk p.Size)) = true then .inl (ofL (acc ++ eSides (y :: l)), false) else .inr (b0, false)) := fun h1 h2 => by
      rw [iter]
      dsimp only
      rw [h2, h1]; rfl
    by_cases c1 : y.Index < 0
    · refine hbad (by unfold sideOk; rw [decide_eq_false (by omega)]; rfl) ?_
      unfold F.absent_Bytes.l6
      rw [if_pos (by apply decide_eq_true; omega), at_nat hy, Option.bind_some, if_pos (by simpa using c1)]; rfl
    by_cases c2 : y.Index ≥ p.Size
    · refine hbad (by unfold sideOk; rw [decide_eq_false (show ¬ y.Index < p.Size by omega)]; simp) ?_
      unfold F.absent_Bytes.l6
      rw [if_pos (by apply decide_eq_true; omega), at_nat hy, Option.bind_some, if_neg (by simpa using c1), if_pos (by simpa using c2)]; rfl
    cases c3 : idB y.ID with
    | false =>
      refine hbad (by unfold sideOk; rw [c3]; simp) ?_
      unfold F.absent_Bytes.l6
      rw [if_pos (by apply decide_eq_true; omega), at_nat hy, Option.bind_some, if_neg (by simpa using c1), if_neg (by simpa using c2), isid_eq, Option.bind_some, c3]; rfl
    | true =>
    by_cases c4 : y.Path.length > 16
    · refine hbad (by unfold sideOk; rw [decide_eq_false (show ¬ y.Path.length ≤ 16 by omega)]; simp) ?_
      unfold F.absent_Bytes.l6
      rw [if_pos (by apply decide_eq_true; omega), at_nat hy, Option.bind_some, if_neg (by simpa using c1), if_neg (by simpa using c2), isid_eq, Option.bind_some, c3, if_neg (by decide), if_pos (by apply decide_eq_true; omega)]; rfl
    have hV : VNum 65536 y.Index ∧ VText 24 y.ID ∧ y.Path.length ≤ 16 := ⟨⟨by omega, by omega⟩, (idB_small c3).1, by omega⟩
    have hw := side_w hV (acc := acc) (by omega)
    have hstep : F.absent_Bytes.l6 p (i : Int) (ofL acc) false = some (if all32B y.Path = true then .inl (((i + 1 : Nat) : Int), ofL (acc ++ eSide y), false) else .inr (.inr (b0, false))) := by
      unfold F.absent_Bytes.l6
      rw [if_pos (by apply decide_eq_true; omega), at_nat hy, Option.bind_some, if_neg (by simpa using c1), if_neg (by simpa using c2), isid_eq, Option.bind_some, c3, if_neg (by decide), if_neg (by simp; omega), thru_inl, hw]
      cases all32B y.Path with
      | true =>
        show F.absent_Bytes.r5 (i : Int) (ofL (acc ++ eSide y)) false y.Index y.ID y.Path = _
        unfold F.absent_Bytes.r5
        rw [w64 (n := (i : Int) + 1) (by omega) (by omega)]; rfl
      | false => rfl
    cases c5 : all32B y.Path with
    | false =>
      rw [c5] at hstep
      exact hbad (by unfold sideOk; rw [c5]; simp) hstep
    | true =>
      rw [c5, if_pos rfl] at hstep
      have hok : sideOk p.Size y = true := by unfold sideOk; rw [c5, c3]; simp; omega
      have hel := eSide_len (sideOk_V hz.2.1 hok)
      rw [iter]
      dsimp only
      rw [hstep]
      dsimp only
      have ih := bytes_loop hz l (i + 1) (acc ++ eSide y) k (by rw [← List.drop_drop, hd]; rfl) (by omega) (by rw [List.length_append]; omega) (by omega)
      refine ih.trans ?_
      rw [hok, Bool.true_and, List.append_assoc]; rfl
theorem abytes_eq (p : absent_Proof) : F.absent_Bytes p = some (if rightP p = true then (ofL (bytesL p), true) else (b0, false)) := by
  unfold F.absent_Bytes rightP
  by_cases c1 : p.Size < 0
  · rw [if_pos (by simpa using c1), decide_eq_false (by omega)]; rfl
  rw [if_neg (by simpa using c1)]
  by_cases c2 : p.Size > 65536
  · rw [if_pos (by simpa using c2), decide_eq_false (by omega)]; rfl
  rw [if_neg (by simpa using c2)]
  by_cases c3 : p.Sides.length > 2
  · rw [if_pos (by apply decide_eq_true; omega), decide_eq_false (by omega)]; rfl
  have hz : 0 ≤ p.Size ∧ p.Size ≤ 65536 ∧ p.Sides.length ≤ 2 := by omega
  rw [if_neg (by simp; omega), decide_eq_true hz, Bool.true_and, thru_inl]
  unfold F.absent_Bytes.r1
  have hI : ((p.Size.toNat : Nat) : Int) = p.Size := Int.toNat_of_nonneg hz.1
  have n1 := numL_len (n := p.Size.toNat) (by omega)
  have n2 := numL_len (n := p.Sides.length) (by omega)
  have e1 := wnum_eq (n := p.Size.toNat) (by omega) (s := []) (by simp)
  rw [hI] at e1
  have e1' : F.octet_Writer_Num p.Size ⟨ByteArray.mk #[], false⟩ = some ⟨ofL (numL p.Size.toNat), false⟩ := e1
  rw [e1', Option.bind_some, wnum_eq (by omega) (by omega), Option.bind_some]
  dsimp only
  have h := bytes_loop hz p.Sides 0 (numL p.Size.toNat ++ numL p.Sides.length) FUEL rfl (by omega) (by rw [List.length_append]; omega) (by rw [FUEL_eq]; omega)
  refine (congrArg (fun o => thru o _) h).trans ?_
  cases p.Sides.all (sideOk p.Size) with
  | true =>
    rw [if_pos rfl, if_pos rfl]
    show F.absent_Bytes.r7 _ _ = _
    unfold F.absent_Bytes.r7 F.octet_Writer_All bytesL eNum
    dsimp only
    rw [if_neg (by decide), Option.bind_some, List.append_assoc]
  | false => rfl
/-! ### read -/
theorem sides_bad {s : ByteArray} {j e : Int} (he : e ≠ 0) (hb : ∃ a, readSide ⟨s, j, e⟩ = some (a, ⟨s, j, e⟩)) (q : Int × octet_Reader) {c : Nat} (hq : q.1 = (c : Int)) (hc : c ≤ 1000) : ∀ (rem : Nat) (acc : List absent_Side) (k : Nat), acc.length + rem = c → rem < k →
    ∃ l, iter (fun x => F.absent_Read.l1 q x.1 x.2.1 x.2.2.1 x.2.2.2.1 x.2.2.2.2) k ((acc.length : Int), s, j, e, acc) = some (s, j, e, l)
  | rem, acc, 0, _, h => by omega
  | 0, acc, k + 1, hl, _ => by
    refine ⟨acc, ?_⟩
    rw [iter]
    dsimp only
    unfold F.absent_Read.l1
    rw [if_neg (by rw [hq]; simp; omega)]
  | rem + 1, acc, k + 1, hl, hk => by
    obtain ⟨a, ha⟩ := hb
    have ha0 := ha
    have hs : F.absent_Read.l1 q (acc.length : Int) s j e acc = some (.inl (((acc ++ [a]).length : Int), s, j, e, acc ++ [a])) := by
      unfold F.absent_Read.l1
      unfold readSide at ha
      rw [if_pos (by rw [hq]; apply decide_eq_true; omega)]
      rw [Option.bind_eq_some_iff] at ha
      obtain ⟨x, hx, ha⟩ := ha
      rw [Option.bind_eq_some_iff] at ha
      obtain ⟨y, hy, ha⟩ := ha
      rw [Option.bind_eq_some_iff] at ha
      obtain ⟨z, hz, ha⟩ := ha
      have ha := Option.some.inj ha
      have h1 : (⟨x.1, y.1, z.1⟩ : absent_Side) = a := (Prod.mk.inj ha).1
      have h2 : z.2 = ⟨s, j, e⟩ := (Prod.mk.inj ha).2
      rw [hx, Option.bind_some, hy, Option.bind_some, hz, Option.bind_some, h1, h2, chk_pos (by unfold room; rw [List.length_singleton]; omega), w64 (n := (acc.length : Int) + 1) (by omega) (by omega), List.length_append, List.length_singleton]; rfl
    obtain ⟨l, hl2⟩ := sides_bad he ⟨a, ha0⟩ q hq hc rem (acc ++ [a]) k (by rw [List.length_append, List.length_singleton]; omega) (by omega)
    refine ⟨l, ?_⟩
    rw [iter]
    dsimp only
    rw [hs]
    exact hl2
theorem sides_rd {s : List UInt8} (hs : s.length ≤ 1000000000000000000) (q : Int × octet_Reader) {c : Nat} (hq : q.1 = (c : Int)) (hc : c ≤ 1000) : ∀ (rem i : Nat) (acc : List absent_Side) (k : Nat), acc.length + rem = c → i ≤ s.length → rem < k →
    (∃ l j, l.length = rem ∧ (∀ x ∈ l, VSide x) ∧ s.drop i = eSides l ++ s.drop j ∧ i ≤ j ∧ j ≤ s.length ∧ iter (fun x => F.absent_Read.l1 q x.1 x.2.1 x.2.2.1 x.2.2.2.1 x.2.2.2.2) k ((acc.length : Int), ofL s, (i : Int), 0, acc) = some (ofL s, (j : Int), 0, acc ++ l)) ∨
    (∃ j e l, e ≠ 0 ∧ iter (fun x => F.absent_Read.l1 q x.1 x.2.1 x.2.2.1 x.2.2.2.1 x.2.2.2.2) k ((acc.length : Int), ofL s, (i : Int), 0, acc) = some (ofL s, j, e, l) ∧ ∀ l r, l.length = rem → (∀ x ∈ l, VSide x) → s.drop i ≠ eSides l ++ r)
  | rem, i, acc, 0, _, _, h => by omega
  | 0, i, acc, k + 1, hl, hi, _ => by
    refine .inl ⟨[], i, rfl, (fun b hb => by cases hb), rfl, Nat.le_refl _, hi, ?_⟩
    rw [iter]
    dsimp only
    unfold F.absent_Read.l1
    rw [if_neg (by rw [hq]; simp; omega), List.append_nil]
  | rem + 1, i, acc, k + 1, hl, hi, hk => by
    have hstep : ∀ {a : absent_Side} {j e : Int}, readSide ⟨ofL s, (i : Int), 0⟩ = some (a, ⟨ofL s, j, e⟩) → F.absent_Read.l1 q (acc.length : Int) (ofL s) (i : Int) 0 acc = some (.inl (((acc ++ [a]).length : Int), ofL s, j, e, acc ++ [a])) := fun {a j e} ha => by
      unfold F.absent_Read.l1
      unfold readSide at ha
      rw [if_pos (by rw [hq]; apply decide_eq_true; omega)]
      rw [Option.bind_eq_some_iff] at ha
      obtain ⟨x, hx, ha⟩ := ha
      rw [Option.bind_eq_some_iff] at ha
      obtain ⟨y, hy, ha⟩ := ha
      rw [Option.bind_eq_some_iff] at ha
      obtain ⟨z, hz, ha⟩ := ha
      have ha := Option.some.inj ha
      have h1 : (⟨x.1, y.1, z.1⟩ : absent_Side) = a := (Prod.mk.inj ha).1
      have h2 : z.2 = ⟨ofL s, j, e⟩ := (Prod.mk.inj ha).2
      rw [hx, Option.bind_some, hy, Option.bind_some, hz, Option.bind_some, h1, h2, chk_pos (by unfold room; rw [List.length_singleton]; omega), w64 (n := (acc.length : Int) + 1) (by omega) (by omega), List.length_append, List.length_singleton]; rfl
    have hlen : ∀ a : absent_Side, (acc ++ [a]).length + rem = c := fun a => by rw [List.length_append, List.length_singleton]; omega
    rcases (rd_side hs).good i hi with ⟨a, j, va, ea, h3, h4, ra⟩ | ⟨a, j, e, he, ra, hn⟩
    · have hs1 := hstep ra
      rw [iter]
      dsimp only
      rw [hs1]
      rcases sides_rd hs q hq hc rem j (acc ++ [a]) k (hlen a) h4 (by omega) with ⟨l, j2, g1, g2, g3, g4, g5, g6⟩ | ⟨j2, e, l2, he, g1, g2⟩
      · refine .inl ⟨a :: l, j2, by rw [List.length_cons, g1], fun b hb => ?_, ?_, by omega, g5, ?_⟩
        · rcases List.mem_cons.1 hb with rfl | hb
          · exact va
          · exact g2 b hb
        · rw [ea, g3]
          show _ = (eSide a ++ eSides l) ++ _
          rw [List.append_assoc]
        · refine g6.trans ?_
          rw [List.append_assoc]; rfl
      · refine .inr ⟨j2, e, l2, he, g1, fun l r hl2 hv h => ?_⟩
        cases l with
        | nil => simp at hl2
        | cons b l =>
          have h : s.drop i = (eSide b ++ eSides l) ++ r := h
          rw [ea, List.append_assoc] at h
          obtain ⟨rfl, h9⟩ := cut_side _ _ _ _ va (hv b (List.mem_cons_self ..)) h
          exact g2 l r (by simpa using hl2) (fun x hx => hv x (List.mem_cons_of_mem _ hx)) h9
    · have hs1 := hstep ra
      rw [iter]
      dsimp only
      rw [hs1]
      obtain ⟨l2, hl2⟩ := sides_bad he ((rd_side hs).bad j e he) q hq hc rem (acc ++ [a]) k (hlen a) (by omega)
      refine .inr ⟨j, e, l2, he, hl2, fun l r hl2 hv h => ?_⟩
      cases l with
      | nil => simp at hl2
      | cons b l =>
        have h : s.drop i = (eSide b ++ eSides l) ++ r := h
        rw [List.append_assoc] at h
        exact hn b _ (hv b (List.mem_cons_self ..)) h
def p00 : absent_Proof := ⟨0, []⟩
theorem end_bad {s : ByteArray} {j e : Int} (he : e ≠ 0) (q : Int × octet_Reader) (l : List absent_Side) : F.absent_Read.r2 q s j e l = some (p00, e) := by
  unfold F.absent_Read.r2 F.octet_Reader_End F.octet_Reader_Left F.octet_Reader_Err
  dsimp only
  rw [Option.bind_some, if_pos (by simpa using he), Option.bind_some, if_neg (by decide), Option.bind_some, Option.bind_some]
  dsimp only
  rw [if_pos (by simpa using he)]; rfl
theorem read_eq {s : List UInt8} (hs : s.length ≤ 1000000000000000000) :
    (∃ p, F.absent_Read (ofL s) = some (p, 0) ∧ rightP p = true ∧ s = bytesL p) ∨ (∃ e, e ≠ 0 ∧ F.absent_Read (ofL s) = some (p00, e) ∧ ∀ p, rightP p = true → s ≠ bytesL p) := by
  have hfu : ∃ k, FUEL = k + 1 := ⟨18446744073709551615, FUEL_eq⟩
  obtain ⟨k0, hk0⟩ := hfu
  unfold F.absent_Read F.octet_Read
  rw [Option.bind_some]
  -- a reader that is bad reads no more
  have hbad : ∀ (n : Int) (j e : Int), e ≠ 0 → Option.bind (Option.bind (F.octet_Reader_Num 2 ⟨ofL s, j, e⟩) (fun (r31 : Int × octet_Reader) => iter (fun x => F.absent_Read.l1 r31 x.1 x.2.1 x.2.2.1 x.2.2.2.1 x.2.2.2.2) FUEL (0, r31.2.s_, r31.2.at_, r31.2.e_, []))) (fun x => F.absent_Read.r2 (n, ⟨ofL s, j, e⟩) x.1 x.2.1 x.2.2.1 x.2.2.2) = some (p00, e) := fun n j e he => by
    rw [num_bad he, Option.bind_some, hk0, iter]
    dsimp only
    unfold F.absent_Read.l1
    rw [if_neg (by simp)]
    dsimp only
    rw [Option.bind_some]
    exact end_bad he _ _
  rcases (rd_num hs (max := 65536) (by decide)).good 0 (Nat.zero_le _) with ⟨n, i1, vn, en, h3, h4, rn⟩ | ⟨n, j, e, he, rn, hno⟩
  rotate_left
  · have rn : F.octet_Reader_Num 65536 ⟨ofL s, 0, 0⟩ = some (n, ⟨ofL s, j, e⟩) := rn
    rw [rn, Option.bind_some]
    refine .inr ⟨e, he, hbad n j e he, fun p hp h => ?_⟩
    refine hno p.Size (numL p.Sides.length ++ eSides p.Sides) (right_V hp).1 ?_
    rw [List.drop_zero, h]; rfl
  have rn : F.octet_Reader_Num 65536 ⟨ofL s, 0, 0⟩ = some (n, ⟨ofL s, (i1 : Int), 0⟩) := rn
  rw [rn, Option.bind_some]
  dsimp only
  rw [List.drop_zero] at en
  rcases (rd_num hs (max := 2) (by decide)).good i1 h4 with ⟨c, i2, vc, ec, h5, h6, rc⟩ | ⟨c, j, e, he, rc, hno⟩
  rotate_left
  · have rc : F.octet_Reader_Num 2 ⟨ofL s, (i1 : Int), 0⟩ = some (c, ⟨ofL s, j, e⟩) := rc
    refine .inr ⟨e, he, ?_, fun p hp h => ?_⟩
    · have hc0 : c = 0 := by
        rcases num_rd hs h4 2 with ⟨n', k', _, _, _, _, _, q6⟩ | ⟨j', e', he', q1, _⟩
        · have q6 : F.octet_Reader_Num 2 ⟨ofL s, (i1 : Int), 0⟩ = _ := q6
          rw [q6] at rc
          have := congrArg (fun x : Option (Int × octet_Reader) => x.map fun y => y.2.e_) rc
          simp at this
          exact absurd this.symm he
        · have q1 : F.octet_Reader_Num 2 ⟨ofL s, (i1 : Int), 0⟩ = _ := q1
          rw [q1] at rc
          exact (Prod.mk.inj (Option.some.inj rc)).1.symm
      subst hc0
      rw [rc, Option.bind_some, hk0, iter]
      dsimp only
      unfold F.absent_Read.l1
      rw [if_neg (by simp)]
      dsimp only
      rw [Option.bind_some]
      exact end_bad he _ _
    · have hV := right_V hp
      have h9 : eNum n ++ s.drop i1 = eNum p.Size ++ (numL p.Sides.length ++ eSides p.Sides) := by rw [← en, h]; rfl
      obtain ⟨_, h10⟩ := cut_num (max := 65536) (by decide) _ _ _ _ vn hV.1 h9
      refine hno (p.Sides.length : Int) (eSides p.Sides) ⟨by omega, by have := hV.2.1; omega⟩ ?_
      rw [h10]
      unfold eNum
      rw [Int.toNat_natCast]
  have rc : F.octet_Reader_Num 2 ⟨ofL s, (i1 : Int), 0⟩ = some (c, ⟨ofL s, (i2 : Int), 0⟩) := rc
  unfold VNum at vc
  have hcc : ((c.toNat : Nat) : Int) = c := Int.toNat_of_nonneg vc.1
  rw [rc, Option.bind_some]
  dsimp only
  rcases sides_rd hs (c, ⟨ofL s, (i2 : Int), 0⟩) (c := c.toNat) hcc.symm (by omega) c.toNat i2 [] FUEL (by simp) h6 (by rw [FUEL_eq]; omega) with ⟨l, i3, g1, g2, g3, g4, g5, g6⟩ | ⟨j, e, l2, he, g1, g2⟩
  rotate_left
  · have g1 : iter (fun x => F.absent_Read.l1 (c, ⟨ofL s, (i2 : Int), 0⟩) x.1 x.2.1 x.2.2.1 x.2.2.2.1 x.2.2.2.2) FUEL (0, ofL s, (i2 : Int), 0, []) = some (ofL s, j, e, l2) := g1
    refine .inr ⟨e, he, ?_, fun p hp h => ?_⟩
    · rw [g1, Option.bind_some]
      exact end_bad he _ _
    · have hV := right_V hp
      have h9 : eNum n ++ s.drop i1 = eNum p.Size ++ (numL p.Sides.length ++ eSides p.Sides) := by rw [← en, h]; rfl
      obtain ⟨_, h10⟩ := cut_num (max := 65536) (by decide) _ _ _ _ vn hV.1 h9
      rw [ec] at h10
      have := hV.2.1
      obtain ⟨h11, h12⟩ := numL_cut (by omega) (by omega) h10
      exact g2 p.Sides [] h11.symm hV.2.2 (by rw [List.append_nil]; exact h12)
  have g6 : iter (fun x => F.absent_Read.l1 (c, ⟨ofL s, (i2 : Int), 0⟩) x.1 x.2.1 x.2.2.1 x.2.2.2.1 x.2.2.2.2) FUEL (0, ofL s, (i2 : Int), 0, []) = some (ofL s, (i3 : Int), 0, [] ++ l) := g6
  rw [g6, Option.bind_some, List.nil_append]
  dsimp only
  have hVp : VProof ⟨n, l⟩ := ⟨vn, by dsimp only; omega, g2⟩
  have hsall : s = bytesL ⟨n, l⟩ ++ s.drop i3 := by
    conv => lhs; rw [en, ec, g3]
    unfold bytesL
    dsimp only
    have : eNum c = numL l.length := by unfold eNum; rw [g1]
    rw [this, List.append_assoc, List.append_assoc]
  unfold F.absent_Read.r2 F.octet_Reader_End F.octet_Reader_Left F.octet_Reader_Err
  dsimp only
  rw [Option.bind_some, if_neg (by decide), Option.bind_some, ofL_size, w64 (n := (s.length : Int) - i3) (by omega) (by omega)]
  by_cases hend : i3 = s.length
  · have hd : s.drop i3 = [] := by rw [hend]; exact List.drop_length
    rw [hd, List.append_nil] at hsall
    rw [if_neg (by simp; omega), Option.bind_some, Option.bind_some]
    dsimp only
    rw [if_neg (by decide), abytes_eq, Option.bind_some]
    cases hr : rightP ⟨n, l⟩ with
    | true =>
      rw [if_pos rfl]
      dsimp only
      rw [if_neg (by decide)]
      exact .inl ⟨⟨n, l⟩, rfl, hr, hsall⟩
    | false =>
      rw [if_neg (c := false = true) (by decide)]
      dsimp only
      rw [if_pos (by decide)]
      refine .inr ⟨4, by decide, rfl, fun p hp h => ?_⟩
      have h9 : bytesL ⟨n, l⟩ ++ [] = bytesL p ++ [] := by rw [List.append_nil, List.append_nil, ← hsall, h]
      have := (cut_proof _ _ _ _ hVp (right_V hp) h9).1
      rw [← this, hr] at hp
      cases hp
  · rw [if_pos (by apply decide_eq_true; omega), fail_eq, Option.bind_some, Option.bind_some, Option.bind_some]
    dsimp only
    rw [if_pos (by decide)]
    refine .inr ⟨4, by decide, rfl, fun p hp h => ?_⟩
    have h9 : bytesL ⟨n, l⟩ ++ s.drop i3 = bytesL p ++ [] := by rw [List.append_nil, ← hsall, h]
    have := congrArg List.length (cut_proof _ _ _ _ hVp (right_V hp) h9).2
    rw [List.length_drop, List.length_nil] at this
    omega
end Go.Proofs.Ytileogoeoiafkaa
