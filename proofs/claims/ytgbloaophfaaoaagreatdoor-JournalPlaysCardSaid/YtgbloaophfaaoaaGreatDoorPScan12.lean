/- Which records a journal finds on any sectors, in plain words. -/
import Derived.Test.YtgbloaophfaaoaaGreatDoorPJournal
import Derived.Test.YtgbloaophfaaoaaGreatDoorGPlaysb
namespace Go.Proofs.YtgbloaophfaaoaaGreatDoor
set_option linter.all false
open Go Go.RowKit Go.Fw
set_option maxRecDepth 100000
attribute [local irreducible] FUEL
def zP : Int × Int × List UInt8 × Int := (0, 0, [], 0)
def kB (s : List UInt8) : Int := (((s[0]?).getD 0).toNat : Int)
def lB (s : List UInt8) : Int := (((s[0]?).getD 0).toNat : Int) * 256 + (((s[1]?).getD 0).toNat : Int)
/-- what a sector holds of a record, if it hangs to a stamp -/
def partV (T : List UInt8) (p : Int) : Int × Int × List UInt8 × Int :=
  if (readL T).2.2 ≠ 0 then zP else if (readL T).1.length < 9 then zP else if num64 (((readL T).1.take 9).drop 1) ≠ p then zP
  else if kB (readL T).1 = 1 then (if ((readL T).1.drop 9).length < 2 then zP else (1, lB ((readL T).1.drop 9), ((readL T).1.drop 9).drop 2, (readL T).2.1))
  else (kB (readL T).1, 0, (readL T).1.drop 9, (readL T).2.1)
theorem read_code (b : List UInt8) : (readL b).2.2 = 0 ∨ (readL b).2.2 = 7 ∨ (readL b).2.2 = 17 := by
  unfold readL
  split
  · exact .inr (.inl rfl)
  · split
    · exact .inl rfl
    · exact .inr (.inr rfl)
def outP (q : Int × Int × List UInt8 × Int) : Int × Int × ByteArray × Int × Int := (q.1, q.2.1, ofL q.2.2.1, q.2.2.2, 0)
theorem part_eq {j : journal_Journal} {g : guard_Guard} {d : disk_Disk} (hb : j.base_ = 3) (hs : j.size_ = 60) {k : Nat} (hk : k < 60) {T : List UInt8} (hp : 1 ≤ d.sure_.length) (hw : whyB d ((3 + k : Nat) : Int) = 0) (hc : curB d ((3 + k : Nat) : Int) = ofL T) (hT : T.length = 64) (p : Int) : F.journal_Journal_part_1 (k : Int) p j g d = some (outP (partV T p)) := by
  have hpos : IntKind.i64.wrap (j.base_ + (k : Int)) = ((3 + k : Nat) : Int) := by rw [hb, w64 (by omega) (by omega)]; omega
  unfold F.journal_Journal_part_1
  rw [if_neg (by rw [hs]; simp; omega), hpos, gget_eq hp hw hc hT, Option.bind_some]
  have hl := readL_len T hT
  unfold partV
  rcases read_code T with h0 | h0 | h0
  · generalize readL T = R at h0 hl
    obtain ⟨s, a, e⟩ := R
    dsimp only at h0 hl ⊢
    subst h0
    rw [if_neg (by decide), Option.bind_some, if_neg (c := (0 : Int) ≠ 0) (fun h => h rfl)]
    unfold F.journal_Journal_part_1.r1
    dsimp only
    rw [if_neg (by decide), if_neg (by decide), ofL_size]
    by_cases h9 : s.length < 9
    · rw [if_pos (by simp; omega), Option.bind_some, if_pos h9]
      rfl
    rw [if_neg (by simp; omega), chk_pos (by omega), ofL_extract, number_eq (by rw [List.length_drop, List.length_take]; omega), Option.bind_some, Option.bind_some, if_neg h9]
    unfold F.journal_Journal_part_1.r2
    have e1 : (s.take (9 : Int).toNat).drop (1 : Int).toNat = (s.take 9).drop 1 := rfl
    rw [e1]
    by_cases hn : num64 ((s.take 9).drop 1) = p
    rotate_left
    · rw [if_pos (by simpa using hn), thru_inr, if_pos hn]
      rfl
    rw [if_neg (by rw [hn]; simp), thru_inl, if_neg (c := num64 ((s.take 9).drop 1) ≠ p) (fun h => h hn)]
    unfold F.journal_Journal_part_1.r3
    dsimp only
    rw [ofL_size, chk_pos (by omega), chk_pos (by omega), ofL_extract]
    have e2 : (s.take (s.length : Int).toNat).drop (9 : Int).toNat = s.drop 9 := by rw [Int.toNat_natCast, List.take_length]; rfl
    have e3 : bt (ofL s) 0 = kB s := by rw [bt_ofL]; rfl
    have hkb : 0 ≤ kB s ∧ kB s < 256 := by
      unfold kB
      have := u8_lt ((s[0]?).getD 0)
      omega
    rw [e2, e3, w64 (n := kB s) (by omega) (by omega), ofL_size]
    by_cases h1 : kB s = 1
    · rw [if_pos (by simpa using h1), if_pos h1]
      by_cases h2 : (s.drop 9).length < 2
      · rw [if_pos (by simp at h2 ⊢; omega), if_pos h2]
        rfl
      · rw [if_neg (by simp at h2 ⊢; omega), if_neg h2, chk_pos (by omega), chk_pos (by omega), chk_pos (by omega), ofL_extract]
        have b0 : bt (ofL (s.drop 9)) 0 = (((((s.drop 9)[0]?).getD 0).toNat : Nat) : Int) := by rw [bt_ofL]; rfl
        have b1 : bt (ofL (s.drop 9)) 1 = (((((s.drop 9)[1]?).getD 0).toNat : Nat) : Int) := by rw [bt_ofL]; rfl
        have c0 := u8_lt (((s.drop 9)[0]?).getD 0)
        have c1 := u8_lt (((s.drop 9)[1]?).getD 0)
        have e4 : ((s.drop 9).take ((s.drop 9).length : Int).toNat).drop (2 : Int).toNat = (s.drop 9).drop 2 := by rw [Int.toNat_natCast, List.take_length]; rfl
        have hlb : lB (s.drop 9) = (((((s.drop 9)[0]?).getD 0).toNat : Nat) : Int) * 256 + (((((s.drop 9)[1]?).getD 0).toNat : Nat) : Int) := rfl
        rw [b0, b1, e4, h1, hlb]
        generalize ((s.drop 9)[0]?).getD 0 = y0 at c0
        generalize ((s.drop 9)[1]?).getD 0 = y1 at c1
        rw [w64 (n := (y0.toNat : Int)) (by omega) (by omega), ior_step, w64 (n := (y0.toNat : Int) * 256 + (y1.toNat : Int)) (by omega) (by omega)]
        rfl
    · rw [if_neg (by simpa using h1), if_neg h1]
      rfl
  · rw [h0, if_pos (by decide), Option.bind_some, if_pos (c := (7 : Int) ≠ 0) (by decide)]
    rfl
  · rw [h0, if_neg (by decide), Option.bind_some, if_pos (c := (17 : Int) ≠ 0) (by decide)]
    rfl
theorem part_end {j : journal_Journal} {g : guard_Guard} {d : disk_Disk} (hs : j.size_ = 60) {k : Nat} (hk : ¬ k < 60) (p : Int) : F.journal_Journal_part_1 (k : Int) p j g d = some (outP zP) := by
  unfold F.journal_Journal_part_1
  rw [if_pos (by rw [hs]; simp; omega)]
  rfl
/-! ### a record -/
def partZ (C : Nat → List UInt8) (k : Nat) (p : Int) : Int × Int × List UInt8 × Int := if k < 60 then partV (C k) p else zP
def recGo (C : Nat → List UInt8) (sz i : Nat) : Nat → List UInt8 → Int → Nat → Option (List UInt8 × Nat × Int)
  | 0, _, _, _ => none
  | f + 1, acc, a, n =>
    if sz ≤ acc.length then some (acc, n, a)
    else if (partZ C (i + n) a).1 ≠ 2 ∨ (partZ C (i + n) a).2.2.1.length ≠ min (sz - acc.length) 38 then none
    else recGo C sz i f (acc ++ (partZ C (i + n) a).2.2.1) (partZ C (i + n) a).2.2.2 (n + 1)
def recV (C : Nat → List UInt8) (i : Nat) (p : Int) : Option (List UInt8 × Nat × Int) :=
  if (partZ C i p).1 ≠ 1 ∨ 6000 < (partZ C i p).2.1 ∨ ((partZ C i p).2.2.1.length : Int) ≠ (if 36 < (partZ C i p).2.1 then 36 else (partZ C i p).2.1) then none
  else recGo C (partZ C i p).2.1.toNat i 62 (partZ C i p).2.2.1 (partZ C i p).2.2.2 1
/-- a disk whose sectors of the journal are told -/
structure Secs (d : disk_Disk) (C : Nat → List UInt8) : Prop where
  len : d.sure_.length = 64
  off : d.off_ = false
  cur : ∀ k, k < 60 → curB d ((3 + k : Nat) : Int) = ofL (C k)
  c64 : ∀ k, k < 60 → (C k).length = 64
theorem partz_eq {d : disk_Disk} {C : Nat → List UInt8} (h : Secs d C) {j : journal_Journal} {g : guard_Guard} (hb : j.base_ = 3) (hs : j.size_ = 60) (k : Nat) (p : Int) : F.journal_Journal_part_1 (k : Int) p j g d = some (outP (partZ C k p)) := by
  unfold partZ
  by_cases hk : k < 60
  · rw [if_pos hk]
    exact part_eq hb hs hk (by rw [h.len]; decide) (whyB_in h.off (by omega) (by rw [h.len]; omega)) (h.cur k hk) (h.c64 k hk) p
  · rw [if_neg hk]
    exact part_end hs hk p
theorem partz_big {C : Nat → List UInt8} {k : Nat} {p : Int} (h : (partZ C k p).1 ≠ 0) : k < 60 := by
  unfold partZ at h
  by_cases hk : k < 60
  · exact hk
  · rw [if_neg hk] at h
    exact absurd rfl h
theorem go_spec {C : Nat → List UInt8} {sz i : Nat} : ∀ (f : Nat) (acc : List UInt8) (a : Int) (n : Nat) (s : List UInt8) (m : Nat) (b : Int), recGo C sz i f acc a n = some (s, m, b) → n ≤ m ∧ (i + n ≤ 60 → i + m ≤ 60) ∧ (acc.length ≤ 6000 → sz ≤ 6000 → s.length ≤ 6000)
  | 0, acc, a, n, s, m, b, h => by cases h
  | f + 1, acc, a, n, s, m, b, h => by
    unfold recGo at h
    by_cases h1 : sz ≤ acc.length
    · rw [if_pos h1] at h
      cases h
      exact ⟨Nat.le_refl _, fun h => h, fun h _ => h⟩
    rw [if_neg h1] at h
    by_cases h2 : (partZ C (i + n) a).1 ≠ 2 ∨ (partZ C (i + n) a).2.2.1.length ≠ min (sz - acc.length) 38
    · rw [if_pos h2] at h; cases h
    rw [if_neg h2] at h
    have h3 : (partZ C (i + n) a).1 = 2 := Classical.byContradiction fun e => h2 (.inl e)
    have h4 : (partZ C (i + n) a).2.2.1.length = min (sz - acc.length) 38 := Classical.byContradiction fun e => h2 (.inr e)
    have h5 := partz_big (C := C) (k := i + n) (p := a) (by rw [h3]; decide)
    obtain ⟨g1, g2, g3⟩ := go_spec f _ _ _ _ _ _ h
    exact ⟨by omega, fun _ => g2 (by omega), fun ha hz => g3 (by rw [List.length_append]; omega) hz⟩
theorem rec_spec {C : Nat → List UInt8} {i : Nat} {p : Int} {s : List UInt8} {m : Nat} {b : Int} (h : recV C i p = some (s, m, b)) : 1 ≤ m ∧ i + m ≤ 60 ∧ s.length ≤ 6000 := by
  unfold recV at h
  by_cases h1 : (partZ C i p).1 ≠ 1 ∨ 6000 < (partZ C i p).2.1 ∨ ((partZ C i p).2.2.1.length : Int) ≠ (if 36 < (partZ C i p).2.1 then 36 else (partZ C i p).2.1)
  · rw [if_pos h1] at h; cases h
  rw [if_neg h1] at h
  have h3 : (partZ C i p).1 = 1 := Classical.byContradiction fun e => h1 (.inl e)
  have h4 : ¬ 6000 < (partZ C i p).2.1 := fun e => h1 (.inr (.inl e))
  have h5 : ((partZ C i p).2.2.1.length : Int) = (if 36 < (partZ C i p).2.1 then 36 else (partZ C i p).2.1) := Classical.byContradiction fun e => h1 (.inr (.inr e))
  have h6 := partz_big (C := C) (k := i) (p := p) (by rw [h3]; decide)
  obtain ⟨g1, g2, g3⟩ := go_spec _ _ _ _ _ _ _ h
  refine ⟨g1, g2 (by omega), g3 ?_ (by omega)⟩
  split at h5 <;> omega
def outR (r : Option (List UInt8 × Nat × Int)) : ByteArray × Int × Int × Int := match r with | some (s, n, a) => (ofL s, (n : Int), a, 0) | none => (ofL [], 0, 0, 0)
theorem rec_eq {d : disk_Disk} {C : Nat → List UInt8} (h : Secs d C) {j : journal_Journal} {g : guard_Guard} (hb : j.base_ = 3) (hs : j.size_ = 60) (i : Nat) (p : Int) : F.journal_Journal_record_1 (i : Int) p j g d = some (outR (recV C i p)) := by
  unfold F.journal_Journal_record_1 recV
  rw [partz_eq h hb hs, Option.bind_some]
  generalize hq : partZ C i p = q
  have hbig : q.1 = 1 → i < 60 := fun e => partz_big (C := C) (k := i) (p := p) (by rw [hq, e]; decide)
  obtain ⟨q1, q2, q3, q4⟩ := q
  unfold outP
  dsimp only at hbig ⊢
  have hcond : (if ((0 : Int) != 0) = true then some true else if (q1 != 1) = true then some true else if decide (q2 > 6000) = true then some true else some (((ofL q3).size : Int) != (if 36 < q2 then 36 else q2))) = some (decide (q1 ≠ 1 ∨ 6000 < q2 ∨ (q3.length : Int) ≠ (if 36 < q2 then 36 else q2))) := by
    rw [if_neg (by decide), ofL_size]
    by_cases h1 : q1 = 1
    · rw [if_neg (by simpa using h1)]
      by_cases h2 : 6000 < q2
      · rw [if_pos (by simpa using h2)]; simp [h2]
      · rw [if_neg (by simpa using h2)]
        congr 1
        rw [Bool.eq_iff_iff]
        simp [h1, h2]
    · rw [if_pos (by simpa using h1)]; simp [h1]
  rw [hcond, Option.bind_some]
  unfold F.journal_Journal_record_1.r1
  by_cases hbad : q1 ≠ 1 ∨ 6000 < q2 ∨ (q3.length : Int) ≠ (if 36 < q2 then 36 else q2)
  · rw [decide_eq_true hbad, if_pos rfl, thru_inr, if_pos hbad]
    rfl
  rw [decide_eq_false hbad, if_neg (by decide), thru_inl, if_neg hbad]
  have h1 : q1 = 1 := Classical.byContradiction fun e => hbad (.inl e)
  have h2 : q2 ≤ 6000 := by
    rcases Int.lt_or_le 6000 q2 with e | e
    · exact absurd (.inr (.inl e)) hbad
    · exact e
  have h3 : (q3.length : Int) = (if 36 < q2 then 36 else q2) := Classical.byContradiction fun e => hbad (.inr (.inr e))
  have h4 : 0 ≤ q2 := by split at h3 <;> omega
  have h5 : q3.length ≤ 36 := by split at h3 <;> omega
  have hi := hbig h1
  obtain ⟨z, rfl⟩ : ∃ z : Nat, q2 = (z : Int) := ⟨q2.toNat, by omega⟩
  rw [Int.toNat_natCast]
  unfold F.journal_Journal_record_1.r2
  generalize hR : recGo C z i 62 q3 q4 1 = R
  obtain ⟨r, e, hr⟩ := iter_up (f := fun (x : ByteArray × Int × Int) => F.journal_Journal_record_1.l5 (i : Int) j g d (q1, (z : Int), ofL q3, q4, 0) x.1 x.2.1 x.2.2) 62
    (fun k s => ∃ acc a n, s = (ofL acc, a, ((n : Nat) : Int)) ∧ n = k + 1 ∧ i + n ≤ 60 ∧ acc.length ≤ 36 + 38 * k ∧ recGo C z i (62 - k) acc a n = R)
    (fun r => r = match R with | some (s, n, a) => (.inl (ofL s, a, (n : Int)) : (ByteArray × Int × Int) ⊕ (ByteArray × Int × Int × Int)) | none => .inr (ofL [], 0, 0, 0))
    (fun k s hk hI => by
      obtain ⟨acc, a, n, rfl, hn, hin, hal, hR⟩ := hI
      obtain ⟨f, hf⟩ : ∃ f, 62 - k = f + 1 := ⟨61 - k, by omega⟩
      rw [hf] at hR
      unfold recGo at hR
      dsimp only
      unfold F.journal_Journal_record_1.l5
      dsimp only
      rw [ofL_size]
      by_cases c1 : z ≤ acc.length
      · rw [if_pos c1] at hR
        subst hR
        exact .inr ⟨_, by rw [if_neg (by simp; omega)], rfl⟩
      rw [if_neg c1] at hR
      have hp := partz_eq h hb hs (g := g) (i + n) a
      rw [if_pos (by simp; omega), w64 (n := (i : Int) + (n : Int)) (by omega) (by omega), show (i : Int) + (n : Int) = ((i + n : Nat) : Int) by omega, hp, Option.bind_some]
      generalize hqq : partZ C (i + n) a = qq at hR
      have hbig2 : qq.1 = 2 → i + n < 60 := fun e => partz_big (C := C) (k := i + n) (p := a) (by rw [hqq, e]; decide)
      obtain ⟨u1, u2, u3, u4⟩ := qq
      unfold outP
      dsimp only at hR hbig2 ⊢
      have hmin : (if 38 < (z : Int) - (acc.length : Int) then (38 : Int) else (z : Int) - (acc.length : Int)) = ((min (z - acc.length) 38 : Nat) : Int) := by split <;> omega
      rw [w64 (n := (z : Int) - (acc.length : Int)) (by omega) (by omega), hmin, ofL_size]
      have hcond2 : (if ((0 : Int) != 0) = true then some true else if (u1 != 2) = true then some true else some ((u3.length : Int) != ((min (z - acc.length) 38 : Nat) : Int))) = some (decide (u1 ≠ 2 ∨ u3.length ≠ min (z - acc.length) 38)) := by
        rw [if_neg (by decide)]
        by_cases v1 : u1 = 2
        · rw [if_neg (by simpa using v1)]
          congr 1
          rw [Bool.eq_iff_iff]
          simp only [bne_iff_ne, decide_eq_true_eq, v1]
          omega
        · rw [if_pos (by simpa using v1)]; simp [v1]
      rw [hcond2, Option.bind_some]
      unfold F.journal_Journal_record_1.r3
      by_cases c2 : u1 ≠ 2 ∨ u3.length ≠ min (z - acc.length) 38
      · rw [if_pos c2] at hR
        subst hR
        rw [decide_eq_true c2, if_pos rfl, thru_inr]
        exact .inr ⟨_, rfl, rfl⟩
      · rw [if_neg c2] at hR
        rw [decide_eq_false c2, if_neg (by decide), thru_inl]
        have v1 : u1 = 2 := Classical.byContradiction fun e => c2 (.inl e)
        have v2 : u3.length = min (z - acc.length) 38 := Classical.byContradiction fun e => c2 (.inr e)
        have v3 := hbig2 v1
        unfold F.journal_Journal_record_1.r4
        dsimp only
        rw [chk_pos (by rw [ofL_size, ofL_size]; omega), ofL_append, wadd (by omega)]
        exact .inl ⟨_, rfl, _, _, n + 1, rfl, by omega, by omega, by rw [List.length_append]; omega, by rw [show 62 - (k + 1) = f by omega]; exact hR⟩)
    (fun s hI => by
      obtain ⟨acc, a, n, rfl, hn, hin, _, _⟩ := hI
      omega)
    (s0 := (ofL q3, q4, 1)) ⟨q3, q4, 1, rfl, rfl, by omega, by omega, hR⟩ (k := FUEL) (by rw [FUEL_eq]; omega)
  refine (congrArg (fun o => thru o _) e).trans ?_
  rw [hr]
  match R with
  | some (s, n, a) => rw [thru_inl]; rfl
  | none => rw [thru_inr]; rfl
/-! ### all records -/
def scanV (C : Nat → List UInt8) : Nat → Nat → Int → List (List UInt8) → Nat × Int × List (List UInt8)
  | 0, n, l, L => (n, l, L)
  | f + 1, n, l, L => match recV C n l with
    | none => (n, l, L)
    | some (s, m, a) => scanV C f (n + m) a (L ++ [s])
def jOf (r : Nat × Int × List (List UInt8)) : journal_Journal := ⟨3, 60, (r.1 : Int), r.2.1, r.2.2.map ofL, (r.2.2.length : Int), false⟩
theorem open_eq {d : disk_Disk} {C : Nat → List UInt8} (h : Secs d C) (g : guard_Guard) : F.journal_Open 3 60 7 g d = some (some (jOf (scanV C 61 0 7 [])), 0) := by
  have hd : F.guard_Guard_Disk g d = some () := rfl
  have hsz : F.disk_Disk_Size d = some 64 := by unfold F.disk_Disk_Size; rw [h.len]; rfl
  unfold F.journal_Open
  rw [hd, Option.bind_some, if_neg (by decide), if_neg (by decide), if_neg (by decide), Option.bind_some]
  unfold F.journal_Open.r1
  rw [if_neg (by decide), hd, Option.bind_some, hsz, Option.bind_some, if_neg (by decide), Option.bind_some, Option.bind_some, if_neg (by decide), thru_inl]
  unfold F.journal_Open.r2
  generalize hR : scanV C 61 0 7 [] = R
  obtain ⟨r, e, hr⟩ := iter_up (f := fun (x : Int × Int × Int × Int × List ByteArray × Int × Bool) => F.journal_Open.l3 g d x.1 x.2.1 x.2.2.1 x.2.2.2.1 x.2.2.2.2.1 x.2.2.2.2.2.1 x.2.2.2.2.2.2) 61
    (fun k s => ∃ n l L, s = (3, 60, ((n : Nat) : Int), l, L.map ofL, 0, false) ∧ k ≤ n ∧ n ≤ 60 ∧ L.length ≤ n ∧ scanV C (61 - k) n l L = R)
    (fun r => r = .inl (3, 60, (R.1 : Int), R.2.1, R.2.2.map ofL, 0, false))
    (fun k s hk hI => by
      obtain ⟨n, l, L, rfl, hkn, hn, hL, hR⟩ := hI
      obtain ⟨f, hf⟩ : ∃ f, 61 - k = f + 1 := ⟨60 - k, by omega⟩
      rw [hf] at hR
      unfold scanV at hR
      dsimp only
      unfold F.journal_Open.l3
      rw [rec_eq h rfl rfl, Option.bind_some]
      cases hrec : recV C n l with
      | none =>
        rw [hrec] at hR
        dsimp only at hR
        subst hR
        exact .inr ⟨_, rfl, rfl⟩
      | some x =>
        obtain ⟨s, m, a⟩ := x
        rw [hrec] at hR
        dsimp only at hR
        obtain ⟨g1, g2, g3⟩ := rec_spec hrec
        unfold outR
        dsimp only
        rw [if_neg (by decide), if_neg (by simp; omega), chk_pos (by unfold room; rw [List.length_map, List.length_singleton]; omega), w64 (by omega) (by omega)]
        refine .inl ⟨_, rfl, n + m, a, L ++ [s], ?_, by omega, by omega, by rw [List.length_append, List.length_singleton]; omega, by rw [show 61 - (k + 1) = f by omega]; exact hR⟩
        rw [List.map_append, show (n : Int) + (m : Int) = ((n + m : Nat) : Int) by omega]
        rfl)
    (fun s hI => by
      obtain ⟨n, l, L, rfl, hkn, hn, _⟩ := hI
      omega)
    (s0 := (3, 60, 0, 7, [], 0, false)) ⟨0, 7, [], rfl, Nat.le_refl _, by decide, Nat.le_refl _, hR⟩ (k := FUEL) (by rw [FUEL_eq]; omega)
  refine (congrArg (fun o => thru o _) e).trans ?_
  rw [hr, thru_inl]
  unfold F.journal_Open.r4 jOf
  rw [List.length_map]
end Go.Proofs.YtgbloaophfaaoaaGreatDoor
