/- What a store must never forget, as bytes, and read again, in plain words. -/
import Derived.Test.YtgbciaegbpkpaaaGreatDoorPRead
import Derived.Test.YtgbciaegbpkpaaaGreatDoorGSuperb
import Derived.Test.YtgbciaegbpkpaaaGreatDoorGSuper
namespace Go.Proofs.YtgbciaegbpkpaaaGreatDoor
set_option linter.all false
open Go Go.RowKit Go.Fw
set_option maxRecDepth 100000
attribute [local irreducible] FUEL
theorem emp_sq : seqB (ofL []) (ByteArray.mk #[]) = true := seqB_refl _
def signL : List UInt8 := [67, 72, 65, 82, 84, 49]
theorem sign_eq : (ByteArray.mk #[67, 72, 65, 82, 84, 49]) = ofL signL := rfl
/-- a super that may be -/
def RightP (s : super_Super) : Prop := 1 ≤ s.Gen ∧ s.Gen ≤ 2147483647 ∧ 1 ≤ s.Boot ∧ s.Boot ≤ 2147483647 ∧ (s.Side = 0 ∨ s.Side = 1) ∧ 1 ≤ s.Seed ∧ s.Seed ≤ s.Gen
instance (s : super_Super) : Decidable (RightP s) := inferInstanceAs (Decidable (_ ∧ _))
def supL (s : super_Super) : List UInt8 := numL 6 ++ (signL ++ (numL s.Gen.toNat ++ (numL s.Boot.toNat ++ (numL s.Side.toNat ++ numL s.Seed.toNat))))
theorem numL_len {n : Nat} (h : n < 72057594037927936) : (numL n).length ≤ 8 := by
  unfold numL
  rw [List.length_cons]
  have := dig_len h
  omega
theorem supL_len {s : super_Super} (h : RightP s) : (supL s).length ≤ 47 := by
  obtain ⟨h1, h2, h3, h4, h5, h6, h7⟩ := h
  have a := numL_len (n := 6) (by decide)
  have b := numL_len (n := s.Gen.toNat) (by omega)
  have c := numL_len (n := s.Boot.toNat) (by omega)
  have d := numL_len (n := s.Side.toNat) (by omega)
  have e := numL_len (n := s.Seed.toNat) (by omega)
  have f : signL.length = 6 := rfl
  unfold supL
  simp only [List.length_append]
  rw [f]
  have a2 : (numL 6).length = 2 := by decide
  omega
theorem sup_ext {s t : super_Super} (h1 : s.Gen = t.Gen) (h2 : s.Boot = t.Boot) (h3 : s.Side = t.Side) (h4 : s.Seed = t.Seed) : s = t := by
  cases s; cases t; simp at *; exact ⟨h1, h2, h3, h4⟩
theorem right1_eq (s : super_Super) : F.super_Right s = some (decide (RightP s)) := by
  unfold F.super_Right
  by_cases h1 : s.Gen ≥ 1
  rotate_left
  · rw [if_neg (by simpa using h1), decide_eq_false (fun e : RightP s => h1 e.1)]
  rw [if_pos (by simpa using h1)]
  by_cases h2 : s.Gen ≤ 2147483647
  rotate_left
  · rw [if_neg (by simpa using h2), decide_eq_false (fun e : RightP s => h2 e.2.1)]
  rw [if_pos (by simpa using h2)]
  by_cases h3 : s.Boot ≥ 1
  rotate_left
  · rw [if_neg (by simpa using h3), decide_eq_false (fun e : RightP s => h3 e.2.2.1)]
  rw [if_pos (by simpa using h3)]
  by_cases h4 : s.Boot ≤ 2147483647
  rotate_left
  · rw [if_neg (by simpa using h4), decide_eq_false (fun e : RightP s => h4 e.2.2.2.1)]
  rw [if_pos (by simpa using h4)]
  have last : (if decide (s.Seed ≥ 1) = true then some (decide (s.Seed ≤ s.Gen)) else some false) = some (decide (1 ≤ s.Seed ∧ s.Seed ≤ s.Gen)) := by
    by_cases h6 : s.Seed ≥ 1
    · rw [if_pos (by simpa using h6)]
      congr 1
      rw [decide_eq_decide]
      exact ⟨fun e => ⟨h6, e⟩, fun e => e.2⟩
    · rw [if_neg (by simpa using h6), decide_eq_false (fun e => h6 e.1)]
  rw [last]
  by_cases h5 : s.Side = 0
  · rw [if_pos (by simpa using h5)]
    congr 1
    rw [decide_eq_decide]
    exact ⟨fun e => ⟨h1, h2, h3, h4, .inl h5, e.1, e.2⟩, fun e => e.2.2.2.2.2⟩
  · rw [if_neg (by simpa using h5)]
    by_cases h5b : s.Side = 1
    · rw [if_pos (by simpa using h5b)]
      congr 1
      rw [decide_eq_decide]
      exact ⟨fun e => ⟨h1, h2, h3, h4, .inr h5b, e.1, e.2⟩, fun e => e.2.2.2.2.2⟩
    · rw [if_neg (by simpa using h5b), decide_eq_false (fun e : RightP s => by rcases e.2.2.2.2.1 with e | e; exact h5 e; exact h5b e)]
theorem right2_eq (s : super_Super) : F.law11_right s = some (decide (RightP s)) := by
  rw [← right1_eq]
  unfold F.law11_right F.super_Right
  have e1 : decide (s.Gen > 0) = decide (s.Gen ≥ 1) := by rw [decide_eq_decide]; omega
  have e2 : decide (s.Gen < 2147483648) = decide (s.Gen ≤ 2147483647) := by rw [decide_eq_decide]; omega
  have e3 : decide (s.Boot > 0) = decide (s.Boot ≥ 1) := by rw [decide_eq_decide]; omega
  have e4 : decide (s.Boot < 2147483648) = decide (s.Boot ≤ 2147483647) := by rw [decide_eq_decide]; omega
  have e5 : decide (s.Seed > 0) = decide (s.Seed ≥ 1) := by rw [decide_eq_decide]; omega
  rw [e1, e2, e3, e4, e5]
theorem numI {x : Int} (h0 : 0 ≤ x) (h1 : x < 72057594037927936) : F.octet_Num x = some (ofL (numL x.toNat)) := by
  have := num_eq (n := x.toNat) (by omega)
  rw [show ((x.toNat : Nat) : Int) = x by omega] at this
  exact this
theorem text_sign : F.octet_Text (ByteArray.mk #[67, 72, 65, 82, 84, 49]) = some (ofL (numL 6 ++ signL)) := by
  unfold F.octet_Text
  rw [sign_eq, ofL_size]
  have := num_eq (n := 6) (by decide)
  rw [show ((signL.length : Nat) : Int) = ((6 : Nat) : Int) from rfl, this, Option.bind_some]
  unfold numB
  rw [chk_pos (by decide), ofL_append]
theorem bytes_eq {s : super_Super} (h : RightP s) : F.law11_bytes s = some (ofL (supL s)) := by
  obtain ⟨h1, h2, h3, h4, h5, h6, h7⟩ := h
  have a := numL_len (n := 6) (by decide)
  have b := numL_len (n := s.Gen.toNat) (by omega)
  have c := numL_len (n := s.Boot.toNat) (by omega)
  have d := numL_len (n := s.Side.toNat) (by omega)
  have e := numL_len (n := s.Seed.toNat) (by omega)
  have f : signL.length = 6 := rfl
  unfold F.law11_bytes
  rw [text_sign, Option.bind_some, numI (by omega) (by omega), Option.bind_some, chk_pos (by rw [ofL_size, ofL_size, List.length_append]; omega), numI (x := s.Boot) (by omega) (by omega), Option.bind_some]
  simp only [ofL_append]
  rw [chk_pos (by simp only [ofL_size, List.length_append]; omega), numI (x := s.Side) (by omega) (by omega), Option.bind_some]
  simp only [ofL_append]
  rw [chk_pos (by simp only [ofL_size, List.length_append]; omega), numI (x := s.Seed) (by omega) (by omega), Option.bind_some]
  simp only [ofL_append]
  rw [chk_pos (by simp only [ofL_size, List.length_append]; omega)]
  unfold supL
  simp only [List.append_assoc]
def nthS (s : super_Super) : Nat → Int
  | 0 => s.Gen
  | 1 => s.Boot
  | 2 => s.Side
  | _ => s.Seed
def accL (s : super_Super) : Nat → List UInt8
  | 0 => numL 6 ++ signL
  | k + 1 => accL s k ++ numL (nthS s k).toNat
theorem nth_in {s : super_Super} (h : RightP s) (k : Nat) : 0 ≤ nthS s k ∧ nthS s k < 72057594037927936 := by
  obtain ⟨h1, h2, h3, h4, h5, h6, h7⟩ := h
  match k with
  | 0 => exact ⟨by show 0 ≤ s.Gen; omega, by show s.Gen < _; omega⟩
  | 1 => exact ⟨by show 0 ≤ s.Boot; omega, by show s.Boot < _; omega⟩
  | 2 => exact ⟨by show 0 ≤ s.Side; omega, by show s.Side < _; omega⟩
  | _ + 3 => exact ⟨by show 0 ≤ s.Seed; omega, by show s.Seed < _; omega⟩
theorem acc_len {s : super_Super} (h : RightP s) : ∀ k, (accL s k).length ≤ 8 + 8 * k
  | 0 => by show (numL 6 ++ signL).length ≤ 8; decide
  | k + 1 => by
    have ih := acc_len h k
    have := numL_len (n := (nthS s k).toNat) (by have := nth_in h k; omega)
    unfold accL
    rw [List.length_append]
    omega
theorem acc_all (s : super_Super) : accL s 4 = supL s := by
  show (((numL 6 ++ signL) ++ numL s.Gen.toNat) ++ numL s.Boot.toNat) ++ numL s.Side.toNat ++ numL s.Seed.toNat = _
  unfold supL
  simp only [List.append_assoc]
theorem sbytes_eq {s : super_Super} (h : RightP s) : F.super_Super_bytes s = some (ofL (supL s), true) := by
  unfold F.super_Super_bytes F.octet_Writer_Text
  rw [text_sign, Option.bind_some, chk_pos (by decide), Option.bind_some]
  have e := iter_count (f := fun (x : Int × ByteArray × Bool) => F.super_Super_bytes.l1 s x.1 x.2.1 x.2.2) (fun k => ((k : Int), ofL (accL s k), false)) (n := 4) (r := (ofL (accL s 4), false)) (fun k hk => by
    have hn := nth_in h k
    have hl := acc_len h k
    have hm := numL_len (n := (nthS s k).toNat) (by omega)
    have hat : at_ ([s.Gen, s.Boot, s.Side, s.Seed] : List Int) (k : Int) = some (nthS s k) := by
      match k, hk with
      | 0, _ | 1, _ | 2, _ | 3, _ => exact at_nat rfl
    dsimp only
    unfold F.super_Super_bytes.l1 F.octet_Writer_Num
    rw [if_pos (by simp; omega), hat, Option.bind_some, numI hn.1 hn.2, Option.bind_some, if_neg (by simp)]
    have hne : seqB (ofL (numL (nthS s k).toNat)) (ByteArray.mk #[]) = false := by
      cases hh : seqB (ofL (numL (nthS s k).toNat)) (ByteArray.mk #[]) with
      | false => rfl
      | true =>
        have := congrArg List.length (ofL_inj (b := []) (seqB_iff.1 hh))
        unfold numL at this
        simp at this
    rw [hne, Option.bind_some]
    unfold F.octet_Writer_Num.r1
    dsimp only
    rw [chk_pos (by rw [ofL_size, ofL_size]; omega), ofL_append, Option.bind_some, wadd (by omega)]
    rfl)
    (by
      dsimp only
      unfold F.super_Super_bytes.l1
      rw [if_neg (by decide)]) (k := FUEL) (by rw [FUEL_eq]; omega)
  have e0 : ((ByteArray.mk #[]) ++ ofL (numL 6 ++ signL)) = ofL (accL s 0) := by
    rw [show (ByteArray.mk #[]) = ofL [] from rfl, ofL_append]
    rfl
  rw [e0]
  refine (congrArg (fun o => Option.bind o _) e).trans ?_
  rw [Option.bind_some, acc_all]
  rfl
/-! ### reading -/
theorem text_rd {s : List UInt8} {i : Nat} (hs : s.length ≤ 1000000000000000000) (hi : i ≤ s.length) (max : Nat) :
    (∃ l k, l.length ≤ max ∧ s.drop i = numL l.length ++ (l ++ s.drop k) ∧ k ≤ s.length ∧ F.octet_Reader_Text (max : Int) ⟨ofL s, (i : Int), 0⟩ = some (ofL l, ⟨ofL s, (k : Int), 0⟩)) ∨
    (∃ j e, e ≠ 0 ∧ F.octet_Reader_Text (max : Int) ⟨ofL s, (i : Int), 0⟩ = some (ofL [], ⟨ofL s, j, e⟩) ∧ ∀ l r, l.length ≤ max → l.length < 72057594037927936 → s.drop i ≠ numL l.length ++ (l ++ r)) := by
  unfold F.octet_Reader_Text
  rcases num_rd hs hi max with ⟨n, k, h1, h2, h3, h4, h5, h6⟩ | ⟨j, e, he, h6, h7⟩
  · rw [h6, Option.bind_some]
    dsimp only
    rcases raw_rd hs h5 n with ⟨l, g1, g2, g3, g4⟩ | ⟨g1, g2⟩
    · rw [g4, Option.bind_some]
      refine .inl ⟨l, k + n, by omega, ?_, g3, rfl⟩
      rw [h3, g1, g2]
    · rw [g1, Option.bind_some]
      refine .inr ⟨(k : Int), 2, by decide, rfl, fun l r hl1 hl2 hh => ?_⟩
      rw [h3] at hh
      obtain ⟨a1, a2⟩ := numL_cut h2 hl2 hh
      exact g2 l r a1.symm a2
  · rw [h6, Option.bind_some]
    dsimp only
    rw [raw_bad he, Option.bind_some]
    exact .inr ⟨j, e, he, rfl, fun l r hl1 hl2 hh => h7 _ _ hl1 hl2 hh⟩
theorem end_bad {s : ByteArray} {j e : Int} (he : e ≠ 0) : F.octet_Reader_End ⟨s, j, e⟩ = some (e, ⟨s, j, e⟩) := by
  unfold F.octet_Reader_End F.octet_Reader_Left F.octet_Reader_Err
  rw [Option.bind_some]
  dsimp only
  rw [if_pos (by simpa using he), Option.bind_some, if_neg (by decide), Option.bind_some]
theorem end_ok {s : List UInt8} {k : Nat} (hs : s.length ≤ 1000000000000000000) (hk : k ≤ s.length) : ∃ r, F.octet_Reader_End ⟨ofL s, (k : Int), 0⟩ = some (if k = s.length then 0 else 4, r) := by
  unfold F.octet_Reader_End F.octet_Reader_Left F.octet_Reader_Err
  rw [Option.bind_some]
  dsimp only
  rw [if_neg (by decide), Option.bind_some, ofL_size, w64 (by omega) (by omega)]
  by_cases h : k = s.length
  · rw [if_neg (by simp; omega), if_pos h, Option.bind_some]
    exact ⟨_, rfl⟩
  · rw [if_pos (by simp; omega), if_neg h, fail_eq, Option.bind_some, Option.bind_some]
    exact ⟨_, rfl⟩
/-- the super that bytes are -/
theorem sread_eq {b : List UInt8} (hb : b.length ≤ 1000) : ∃ s v, F.super_read (ofL b) = some (s, v) ∧ ((v = true ∧ RightP s ∧ b = supL s) ∨ (v = false ∧ ∀ t, RightP t → b ≠ supL t)) := by
  have hs : b.length ≤ 1000000000000000000 := by omega
  unfold F.super_read F.octet_Read
  rw [Option.bind_some]
  have hcut : ∀ t, RightP t → t.Gen.toNat < 72057594037927936 ∧ t.Boot.toNat < 72057594037927936 ∧ t.Side.toNat < 72057594037927936 ∧ t.Seed.toNat < 72057594037927936 := fun t h => by
    obtain ⟨h1, h2, h3, h4, h5, h6, h7⟩ := h
    exact ⟨by omega, by omega, by omega, by omega⟩
  have ht := text_rd hs (Nat.zero_le _) 6
  rw [show ((0 : Nat) : Int) = 0 from rfl, show ((6 : Nat) : Int) = 6 from rfl, List.drop_zero] at ht
  rcases ht with ⟨l, k, h1, h2, h3, h4⟩ | ⟨j, e, he, h4, h5⟩
  rotate_left
  · rw [h4, Option.bind_some]
    dsimp only
    have : seqB (ofL []) (ByteArray.mk #[67, 72, 65, 82, 84, 49]) = false := by
      cases hh : seqB (ofL []) (ByteArray.mk #[67, 72, 65, 82, 84, 49]) with
      | false => rfl
      | true => exact absurd (ofL_inj (b := signL) (seqB_iff.1 hh)) (by decide)
    rw [this, if_pos (by decide)]
    exact ⟨_, _, rfl, .inr ⟨rfl, fun t _ hh => h5 signL _ (by decide) (by decide) hh⟩⟩
  rw [h4, Option.bind_some]
  dsimp only
  by_cases hl : l = signL
  rotate_left
  · have : seqB (ofL l) (ByteArray.mk #[67, 72, 65, 82, 84, 49]) = false := by
      cases hh : seqB (ofL l) (ByteArray.mk #[67, 72, 65, 82, 84, 49]) with
      | false => rfl
      | true => exact absurd (ofL_inj (b := signL) (seqB_iff.1 hh)) hl
    rw [this, if_pos (by decide)]
    refine ⟨_, _, rfl, .inr ⟨rfl, fun t _ hh => ?_⟩⟩
    rw [h2] at hh
    unfold supL at hh
    obtain ⟨a1, a2⟩ := numL_cut (by omega) (by decide) hh
    exact hl (List.append_inj a2 (by rw [a1]; rfl)).1
  subst hl
  have : seqB (ofL signL) (ByteArray.mk #[67, 72, 65, 82, 84, 49]) = true := seqB_refl _
  rw [this, if_neg (by decide)]
  have hb0 : b = numL 6 ++ (signL ++ b.drop k) := h2
  have hsup : ∀ t, b = supL t → b.drop k = numL t.Gen.toNat ++ (numL t.Boot.toNat ++ (numL t.Side.toNat ++ numL t.Seed.toNat)) := fun t hh => by
    rw [hb0] at hh
    unfold supL at hh
    exact List.append_cancel_left (List.append_cancel_left hh)
  have bad : ∀ (j e : Int), e ≠ 0 → ∀ g1 g2 g3 g4 : Int, (∀ t, RightP t → b ≠ supL t) → ∃ s v, (Option.bind (F.octet_Reader_End ⟨ofL b, j, e⟩) (fun (r39 : Int × octet_Reader) => if r39.1 == 0 then (Option.bind (F.super_Right (⟨g1, g2, g3, g4⟩ : super_Super)) (fun (r42 : Bool) => some (((⟨g1, g2, g3, g4⟩ : super_Super), r42)))) else (some (((⟨g1, g2, g3, g4⟩ : super_Super), false))))) = some (s, v) ∧ ((v = true ∧ RightP s ∧ b = supL s) ∨ (v = false ∧ ∀ t, RightP t → b ≠ supL t)) := by
    intro j e he g1 g2 g3 g4 hno
    rw [end_bad he, Option.bind_some, if_neg (by simpa using he)]
    exact ⟨_, _, rfl, .inr ⟨rfl, hno⟩⟩
  rcases num_rd hs h3 2147483647 with ⟨n1, k1, a1, a2, a3, a4, a5, a6⟩ | ⟨j, e, he, a6, a7⟩
  rotate_left
  · rw [show ((2147483647 : Nat) : Int) = 2147483647 from rfl] at a6
    rw [a6, Option.bind_some]
    dsimp only
    rw [num_bad he, Option.bind_some]
    dsimp only
    rw [num_bad he, Option.bind_some]
    dsimp only
    rw [num_bad he, Option.bind_some]
    dsimp only
    refine bad _ _ he _ _ _ _ (fun t hr hh => ?_)
    obtain ⟨r1, r2, _⟩ := hr
    exact a7 _ _ (by omega) (by omega) (hsup t hh)
  rw [show ((2147483647 : Nat) : Int) = 2147483647 from rfl] at a6
  rw [a6, Option.bind_some]
  dsimp only
  rcases num_rd hs a5 2147483647 with ⟨n2, k2, c1, c2, c3, c4, c5, c6⟩ | ⟨j, e, he, c6, c7⟩
  rotate_left
  · rw [show ((2147483647 : Nat) : Int) = 2147483647 from rfl] at c6
    rw [c6, Option.bind_some]
    dsimp only
    rw [num_bad he, Option.bind_some]
    dsimp only
    rw [num_bad he, Option.bind_some]
    dsimp only
    refine bad _ _ he _ _ _ _ (fun t hr hh => ?_)
    have hq := hcut t hr
    have hh := hsup t hh
    rw [a3] at hh
    obtain ⟨_, b2⟩ := numL_cut a2 hq.1 hh
    obtain ⟨r1, r2, r3, r4, _⟩ := hr
    exact c7 _ _ (by omega) (by omega) b2
  rw [show ((2147483647 : Nat) : Int) = 2147483647 from rfl] at c6
  rw [c6, Option.bind_some]
  dsimp only
  rcases num_rd hs c5 1 with ⟨n3, k3, d1, d2, d3, d4, d5, d6⟩ | ⟨j, e, he, d6, d7⟩
  rotate_left
  · rw [show ((1 : Nat) : Int) = 1 from rfl] at d6
    rw [d6, Option.bind_some]
    dsimp only
    rw [num_bad he, Option.bind_some]
    dsimp only
    refine bad _ _ he _ _ _ _ (fun t hr hh => ?_)
    have hq := hcut t hr
    have hh := hsup t hh
    rw [a3] at hh
    obtain ⟨_, b2⟩ := numL_cut a2 hq.1 hh
    rw [c3] at b2
    obtain ⟨_, b3⟩ := numL_cut c2 hq.2.1 b2
    obtain ⟨r1, r2, r3, r4, r5, _⟩ := hr
    exact d7 _ _ (by omega) (by omega) b3
  rw [show ((1 : Nat) : Int) = 1 from rfl] at d6
  rw [d6, Option.bind_some]
  dsimp only
  rcases num_rd hs d5 2147483647 with ⟨n4, k4, e1, e2, e3, e4, e5, e6⟩ | ⟨j, e, he, e6, e7⟩
  rotate_left
  · rw [show ((2147483647 : Nat) : Int) = 2147483647 from rfl] at e6
    rw [e6, Option.bind_some]
    dsimp only
    refine bad _ _ he _ _ _ _ (fun t hr hh => ?_)
    have hq := hcut t hr
    have hh := hsup t hh
    rw [a3] at hh
    obtain ⟨_, b2⟩ := numL_cut a2 hq.1 hh
    rw [c3] at b2
    obtain ⟨_, b3⟩ := numL_cut c2 hq.2.1 b2
    rw [d3] at b3
    obtain ⟨_, b4⟩ := numL_cut d2 hq.2.2.1 b3
    obtain ⟨r1, r2, r3, r4, r5, r6, r7⟩ := hr
    exact e7 t.Seed.toNat [] (by omega) (by omega) (by rw [b4, List.append_nil])
  rw [show ((2147483647 : Nat) : Int) = 2147483647 from rfl] at e6
  rw [e6, Option.bind_some]
  dsimp only
  obtain ⟨r, er⟩ := end_ok hs e5
  rw [er, Option.bind_some]
  dsimp only
  have hall : b = numL 6 ++ (signL ++ (numL n1 ++ (numL n2 ++ (numL n3 ++ (numL n4 ++ b.drop k4))))) := by
    have h5 : b.drop k = numL n1 ++ (numL n2 ++ (numL n3 ++ (numL n4 ++ b.drop k4))) := by
      rw [a3]
      refine congrArg _ ?_
      rw [c3]
      refine congrArg _ ?_
      rw [d3]
      refine congrArg _ ?_
      exact e3
    exact hb0.trans (congrArg _ (congrArg _ h5))
  have hun : ∀ t, RightP t → b = supL t → t.Gen = n1 ∧ t.Boot = n2 ∧ t.Side = n3 ∧ t.Seed = n4 ∧ b.drop k4 = [] := fun t hr hh => by
    have hq := hcut t hr
    have hh := hsup t hh
    rw [a3] at hh
    obtain ⟨b1, b2⟩ := numL_cut a2 hq.1 hh
    rw [c3] at b2
    obtain ⟨b2', b3⟩ := numL_cut c2 hq.2.1 b2
    rw [d3] at b3
    obtain ⟨b3', b4⟩ := numL_cut d2 hq.2.2.1 b3
    rw [e3] at b4
    obtain ⟨b4', b5⟩ := numL_cut (r := b.drop k4) (s := []) e2 hq.2.2.2 (by rw [b4, List.append_nil])
    obtain ⟨r1, r2, r3, r4, r5, r6, r7⟩ := hr
    exact ⟨by omega, by omega, by omega, by omega, b5⟩
  by_cases hk : k4 = b.length
  · rw [if_pos hk, if_pos (by decide), right1_eq, Option.bind_some]
    have hnil : b.drop k4 = [] := by rw [hk, List.drop_length]
    refine ⟨_, _, rfl, ?_⟩
    by_cases hr : RightP ⟨(n1 : Int), (n2 : Int), (n3 : Int), (n4 : Int)⟩
    · refine .inl ⟨decide_eq_true hr, hr, ?_⟩
      unfold supL
      simp only [Int.toNat_natCast]
      rw [hnil, List.append_nil] at hall
      exact hall
    · refine .inr ⟨decide_eq_false hr, fun t ht hh => hr ?_⟩
      obtain ⟨q1, q2, q3, q4, _⟩ := hun t ht hh
      have : t = ⟨(n1 : Int), (n2 : Int), (n3 : Int), (n4 : Int)⟩ := sup_ext q1 q2 q3 q4
      rw [← this]
      exact ht
  · rw [if_neg hk, if_neg (by decide)]
    refine ⟨_, _, rfl, .inr ⟨rfl, fun t ht hh => ?_⟩⟩
    have := (hun t ht hh).2.2.2.2
    have := List.drop_eq_nil_iff.1 this
    omega
theorem sup_inj {s t : super_Super} (h1 : RightP s) (h2 : RightP t) (h : supL s = supL t) : s = t := by
  obtain ⟨x, v, e, hc⟩ := sread_eq (b := supL s) (by have := supL_len h1; omega)
  rcases hc with ⟨_, hx, hb⟩ | ⟨_, hno⟩
  · have hq : ∀ t, RightP t → t.Gen.toNat < 72057594037927936 ∧ t.Boot.toNat < 72057594037927936 ∧ t.Side.toNat < 72057594037927936 ∧ t.Seed.toNat < 72057594037927936 := fun t h => by
      obtain ⟨h1, h2, h3, h4, h5, h6, h7⟩ := h
      exact ⟨by omega, by omega, by omega, by omega⟩
    have q1 := hq s h1
    have q2 := hq t h2
    unfold supL at h
    have h := List.append_cancel_left (List.append_cancel_left h)
    obtain ⟨b1, h⟩ := numL_cut q1.1 q2.1 h
    obtain ⟨b2, h⟩ := numL_cut q1.2.1 q2.2.1 h
    obtain ⟨b3, h⟩ := numL_cut q1.2.2.1 q2.2.2.1 h
    obtain ⟨b4, _⟩ := numL_cut (r := []) (s := []) q1.2.2.2 q2.2.2.2 (by rw [h])
    obtain ⟨r1, r2, r3, r4, r5, r6, r7⟩ := h1
    obtain ⟨p1, p2, p3, p4, p5, p6, p7⟩ := h2
    exact sup_ext (by omega) (by omega) (by omega) (by omega)
  · exact absurd rfl (hno s h1)
theorem sread_sup {s : super_Super} (h : RightP s) : F.super_read (ofL (supL s)) = some (s, true) := by
  obtain ⟨x, v, e, hc⟩ := sread_eq (b := supL s) (by have := supL_len h; omega)
  rcases hc with ⟨hv, hx, hb⟩ | ⟨_, hno⟩
  · rw [e, hv, ← sup_inj h hx hb]
  · exact absurd rfl (hno s h)
end Go.Proofs.YtgbciaegbpkpaaaGreatDoor
