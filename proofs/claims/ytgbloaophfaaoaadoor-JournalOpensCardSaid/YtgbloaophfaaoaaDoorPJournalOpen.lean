/- Which records a journal finds again, in plain words. -/
import Derived.Test.YtgbloaophfaaoaaDoorPJournalP
namespace Go.Proofs.YtgbloaophfaaoaaDoor
set_option linter.all false
open Go Go.RowKit Go.Fw
set_option maxRecDepth 100000
attribute [local irreducible] FUEL
/-- a disk that has one record of a journal, or none -/
structure Jd (n : Nat) (s : List UInt8) (m : Nat) (d : disk_Disk) : Prop where
  len : d.sure_.length = n
  off : d.off_ = false
  n1 : 1 ≤ n
  n2 : n ≤ 1000
  is : m = 0 ∨ (m = nd s.length ∧ s.length ≤ 6000 ∧ 3 + m ≤ n)
  new : ∀ i, i < m → curB d ((3 + i : Nat) : Int) = ofL (secL (lnk 1 0 7 (i + 1)) (hdr 1 0 7 s i))
  old : ∀ j : Nat, j < n → ¬ (3 ≤ j ∧ j < 3 + m) → curB d (j : Int) = ofL noL
theorem Jd.few {n m : Nat} {s : List UInt8} {d : disk_Disk} (h : Jd n s m d) : m ≤ 200 := by
  rcases h.is with e | ⟨e, h2, _⟩
  · omega
  · have : nd s.length ≤ 200 := by unfold nd; split <;> omega
    omega
theorem lnk_in {q : Nat} (hq : q ≤ 1000) : 0 ≤ lnk 1 0 7 q ∧ lnk 1 0 7 q ≤ 9223372036854775807 ∧ (1 ≤ q → 4294967296 ≤ lnk 1 0 7 q) := by
  cases q with
  | zero => exact ⟨by decide, by decide, fun h => absurd h (by omega)⟩
  | succ q =>
    show 0 ≤ (1 : Int) * 4294967296 + (0 + (q : Int) + 1) ∧ (1 : Int) * 4294967296 + (0 + (q : Int) + 1) ≤ 9223372036854775807 ∧ (1 ≤ q + 1 → 4294967296 ≤ (1 : Int) * 4294967296 + (0 + (q : Int) + 1))
    omega
theorem part_out {i p : Int} {j : journal_Journal} {g : guard_Guard} {d : disk_Disk} (hi : j.size_ ≤ i) : F.journal_Journal_part_1 i p j g d = some (0, 0, ByteArray.mk #[], 0, 0) := by
  unfold F.journal_Journal_part_1
  rw [if_pos (by simpa using hi)]
def partO (s : List UInt8) (q : Nat) : Int × Int × ByteArray × Int × Int :=
  if q = 0 then (1, (s.length : Int), ofL (s.take 36), lnk 1 0 7 1, 0) else (2, 0, ofL (prt s q), lnk 1 0 7 (q + 1), 0)
theorem hdr_shape (s : List UInt8) (q : Nat) : (hdr 1 0 7 s q).length = 9 + (prt s q).length ∧ ((hdr 1 0 7 s q).take 9).drop 1 = fixI 8 (lnk 1 0 7 q) ∧ (hdr 1 0 7 s q).drop 9 = prt s q ∧ (hdr 1 0 7 s q)[0]? = some (knd q) := by
  unfold hdr
  refine ⟨by rw [List.length_cons, List.length_append, fixI_len]; omega, ?_, ?_, rfl⟩
  · rw [List.take_succ_cons, List.drop_succ_cons, List.drop_zero, List.take_append_of_le_length (by rw [fixI_len]; decide), List.take_of_length_le (by rw [fixI_len]; decide)]
  · rw [List.drop_succ_cons, List.drop_append_of_le_length (by rw [fixI_len]; decide), List.drop_of_length_le (by rw [fixI_len]; decide), List.nil_append]
theorem part_hdr {n m : Nat} {s : List UInt8} {d : disk_Disk} (h : Jd n s m d) {i p : Int} {j : journal_Journal} {g : guard_Guard} (hi : i < j.size_) {q : Nat} (hq : q < m) (hb : IntKind.i64.wrap (j.base_ + i) = ((3 + q : Nat) : Int)) (hmn : 3 + m ≤ n) (hs : s.length ≤ 6000) :
    F.journal_Journal_part_1 i p j g d = some (if lnk 1 0 7 q = p then partO s q else (0, 0, ByteArray.mk #[], 0, 0)) := by
  have hfew := h.few
  have hpl := prt_len s q
  obtain ⟨s1, s2, s3, s4⟩ := hdr_shape s q
  have hl := hdr_len 1 0 7 s q
  have hlk := lnk_in (q := q + 1) (by omega)
  have hlq := lnk_in (q := q) (by omega)
  have hw : whyB d ((3 + q : Nat) : Int) = 0 := whyB_in h.off (by omega) (by rw [h.len]; omega)
  have hrd := sec_read (hlk.2.2 (by omega)) hlk.2.1 hl
  unfold F.journal_Journal_part_1
  rw [if_neg (by simp; omega), hb, gget_eq (by rw [h.len]; exact h.n1) hw (h.new q hq) (secL_len hl), hrd, Option.bind_some]
  dsimp only
  rw [if_neg (by decide), Option.bind_some]
  unfold F.journal_Journal_part_1.r1
  dsimp only
  rw [if_neg (by decide), if_neg (by decide), ofL_size, if_neg (by simp; omega), chk_pos (by omega), ofL_extract]
  have e1 : ((hdr 1 0 7 s q).take (9 : Int).toNat).drop (1 : Int).toNat = fixI 8 (lnk 1 0 7 q) := s2
  rw [e1, number_eq (s := fixI 8 (lnk 1 0 7 q)) (by rw [fixI_len]; decide), num_of_fix hlq.1 hlq.2.1, Option.bind_some, Option.bind_some]
  unfold F.journal_Journal_part_1.r2
  by_cases hp : lnk 1 0 7 q = p
  rotate_left
  · rw [if_pos (by simpa using hp), thru_inr, if_neg hp]
  rw [if_neg (by simp [hp]), thru_inl, if_pos hp]
  unfold F.journal_Journal_part_1.r3
  dsimp only
  rw [ofL_size, chk_pos (by omega), chk_pos (by omega), ofL_extract]
  have e2 : ((hdr 1 0 7 s q).take ((hdr 1 0 7 s q).length : Int).toNat).drop (9 : Int).toNat = prt s q := by
    rw [Int.toNat_natCast, List.take_length]
    exact s3
  have e3 : bt (ofL (hdr 1 0 7 s q)) 0 = ((knd q).toNat : Int) := by
    rw [bt_ofL, show (0 : Int).toNat = 0 from rfl, s4]
    rfl
  rw [e2, e3]
  cases q with
  | zero =>
    have hp0 : prt s 0 = lenL s ++ s.take 36 := rfl
    have hll : (prt s 0).length = 2 + (s.take 36).length := by rw [hp0, List.length_append]; rfl
    rw [if_pos (by decide), ofL_size, if_neg (by simp; omega), chk_pos (by omega), chk_pos (by omega), chk_pos (by omega), ofL_extract]
    have b0 : bt (ofL (prt s 0)) 0 = ((UInt8.ofNat (s.length / 256)).toNat : Int) := rfl
    have b1 : bt (ofL (prt s 0)) 1 = ((UInt8.ofNat s.length).toNat : Int) := rfl
    have c0 : (UInt8.ofNat (s.length / 256)).toNat = s.length / 256 := by simp; omega
    have c1 : (UInt8.ofNat s.length).toNat = s.length % 256 := by simp
    rw [b0, b1, w64 (n := ((UInt8.ofNat (s.length / 256)).toNat : Int)) (by omega) (by omega), ior_step, c0, c1, w64 (n := ((s.length / 256 : Nat) : Int) * 256 + ((s.length % 256 : Nat) : Int)) (by omega) (by omega)]
    have e4 : ((s.length / 256 : Nat) : Int) * 256 + ((s.length % 256 : Nat) : Int) = (s.length : Int) := by omega
    have e5 : ((prt s 0).take ((prt s 0).length : Int).toNat).drop (2 : Int).toNat = s.take 36 := by
      rw [Int.toNat_natCast, List.take_length]
      rfl
    rw [e4, e5]
    rfl
  | succ q =>
    rw [if_neg (by show ¬ ((IntKind.i64.wrap ((2 : UInt8).toNat : Int) == 1) = true); decide)]
    rfl
abbrev recO := ByteArray × Int × Int × Int
theorem part_none {i p : Int} {j : journal_Journal} {g : guard_Guard} {d : disk_Disk} {n m : Nat} {s : List UInt8} (h : Jd n s m d) (hi : i < j.size_) {q : Nat} (hb : IntKind.i64.wrap (j.base_ + i) = (q : Int)) (hq : q < n) (hn : ¬ (3 ≤ q ∧ q < 3 + m)) : F.journal_Journal_part_1 i p j g d = some (0, 0, ByteArray.mk #[], 0, 0) :=
  part_blank hi (by rw [h.len]; exact h.n1) hb (whyB_in h.off (by omega) (by rw [h.len]; omega)) (h.old q hq hn) rfl (.inl (by rw [no_read]))
/-- the record from the first sector on, or none -/
theorem record_first {n m : Nat} {s : List UInt8} {d : disk_Disk} (h : Jd n s m d) {j : journal_Journal} {g : guard_Guard} (hm : 0 < m) (hb : j.base_ = 3) (hsz : 1 ≤ j.size_) (hsn : j.size_ ≤ (n : Int)) : F.journal_Journal_record_1 0 7 j g d = some (if (m : Int) ≤ j.size_ then (ofL s, (m : Int), lnk 1 0 7 m, 0) else (ByteArray.mk #[], 0, 0, 0)) := by
  obtain ⟨hmn, hs, hmn3⟩ : m = nd s.length ∧ s.length ≤ 6000 ∧ 3 + m ≤ n := by
    rcases h.is with e | e
    · omega
    · exact e
  have hfew := h.few
  have hn2 := h.n2
  unfold F.journal_Journal_record_1
  rw [part_hdr h (q := 0) (by omega) hm (by rw [hb]; rfl) hmn3 hs, if_pos (c := lnk 1 0 7 0 = 7) rfl, Option.bind_some]
  unfold partO
  rw [if_pos rfl]
  dsimp only
  rw [if_neg (by decide), if_neg (by decide), if_neg (by simp; omega), ofL_size, min36, Option.bind_some]
  have hne : (((s.take 36).length : Int) != ((min s.length 36 : Nat) : Int)) = false := by
    rw [List.length_take]
    have : min 36 s.length = min s.length 36 := Nat.min_comm _ _
    rw [this]
    simp
  unfold F.journal_Journal_record_1.r1
  rw [hne, if_neg (by decide), thru_inl]
  unfold F.journal_Journal_record_1.r2
  dsimp only
  obtain ⟨z, hz⟩ : ∃ z : Nat, j.size_ = (z : Int) := ⟨j.size_.toNat, by omega⟩
  have hacc : ∀ k, (s.take (36 + 38 * k)).length = min (36 + 38 * k) s.length := fun k => List.length_take
  obtain ⟨r, e, hr⟩ := iter_up (f := fun (x : ByteArray × Int × Int) => F.journal_Journal_record_1.l5 0 j g d (1, (s.length : Int), ofL (s.take 36), lnk 1 0 7 1, 0) x.1 x.2.1 x.2.2) (min m z - 1)
    (fun k t => t = (ofL (s.take (36 + 38 * k)), lnk 1 0 7 (k + 1), ((k + 1 : Nat) : Int)))
    (fun r => r = if (m : Int) ≤ j.size_ then .inl (ofL s, lnk 1 0 7 m, (m : Int)) else .inr ((ByteArray.mk #[], 0, 0, 0) : recO))
    (fun k t hk hI => by
      subst hI
      refine .inl ⟨_, ?_, rfl⟩
      have hm1 : 36 + 38 * k < s.length := nd_more.1 (by omega)
      have hpl := prt_len s (k + 1)
      have hpp : (prt s (k + 1)).length = min 38 (s.length - (36 + 38 * k)) := by
        show ((s.drop (36 + 38 * k)).take 38).length = _
        rw [List.length_take, List.length_drop]
      dsimp only
      unfold F.journal_Journal_record_1.l5
      dsimp only
      rw [ofL_size, hacc, if_pos (by simp; omega), w64 (n := (0 : Int) + ((k + 1 : Nat) : Int)) (by omega) (by omega), part_hdr h (q := k + 1) (by omega) (by omega) (by rw [hb, w64 (by omega) (by omega)]; omega) hmn3 hs, if_pos rfl, Option.bind_some]
      unfold partO
      rw [if_neg (c := k + 1 = 0) (by omega)]
      dsimp only
      rw [if_neg (by decide), if_neg (by decide), ofL_size, w64 (n := (s.length : Int) - ((min (36 + 38 * k) s.length : Nat) : Int)) (by omega) (by omega)]
      have hcond : (((prt s (k + 1)).length : Int) != (if (38 : Int) < (s.length : Int) - ((min (36 + 38 * k) s.length : Nat) : Int) then (38 : Int) else (s.length : Int) - ((min (36 + 38 * k) s.length : Nat) : Int))) = false := by
        have e1 : (if (38 : Int) < (s.length : Int) - ((min (36 + 38 * k) s.length : Nat) : Int) then (38 : Int) else (s.length : Int) - ((min (36 + 38 * k) s.length : Nat) : Int)) = ((min 38 (s.length - (36 + 38 * k)) : Nat) : Int) := by split <;> omega
        rw [hpp, e1]
        simp
      rw [hcond, Option.bind_some]
      unfold F.journal_Journal_record_1.r3
      rw [if_neg (by decide), thru_inl]
      unfold F.journal_Journal_record_1.r4
      dsimp only
      rw [chk_pos (by rw [ofL_size, ofL_size, hacc]; omega), ofL_append, w64 (n := ((k + 1 : Nat) : Int) + 1) (by omega) (by omega)]
      have hjoin : s.take (36 + 38 * k) ++ prt s (k + 1) = s.take (36 + 38 * (k + 1)) := by
        show s.take (36 + 38 * k) ++ (s.drop (36 + 38 * k)).take 38 = _
        rw [← List.take_add]
        congr 1
      rw [hjoin]
      rfl)
    (fun t hI => by
      subst hI
      by_cases hmz : m ≤ z
      · refine ⟨_, ?_, rfl⟩
        have hq : min m z - 1 = m - 1 := by omega
        have hm1 : ¬ (36 + 38 * (m - 1) < s.length) := fun e => by have := nd_more.2 e; omega
        rw [if_pos (by omega), hq, show m - 1 + 1 = m by omega]
        dsimp only
        unfold F.journal_Journal_record_1.l5
        dsimp only
        rw [ofL_size, hacc, if_neg (by simp; omega), List.take_of_length_le (by omega)]
      · refine ⟨_, ?_, rfl⟩
        have hq : min m z - 1 = z - 1 := by omega
        have hm1 : 36 + 38 * (z - 1) < s.length := nd_more.1 (by omega)
        rw [if_neg (by omega), hq, show z - 1 + 1 = z by omega]
        dsimp only
        unfold F.journal_Journal_record_1.l5
        dsimp only
        rw [ofL_size, hacc, if_pos (by simp; omega), w64 (n := (0 : Int) + (z : Int)) (by omega) (by omega), part_out (by omega), Option.bind_some]
        rfl)
    (s0 := (ofL (s.take 36), lnk 1 0 7 1, 1)) rfl (k := FUEL) (by rw [FUEL_eq]; omega)
  subst hr
  refine (congrArg (fun o => thru o _) e).trans ?_
  by_cases hmz : (m : Int) ≤ j.size_
  · rw [if_pos hmz, if_pos hmz, thru_inl]
    rfl
  · rw [if_neg hmz, if_neg hmz, thru_inr]
/-- whether the record hangs there -/
def hangsP (m : Nat) (base size seed : Int) : Prop := 0 < m ∧ base = 3 ∧ seed = 7 ∧ (m : Int) ≤ size
instance (m : Nat) (base size seed : Int) : Decidable (hangsP m base size seed) := inferInstanceAs (Decidable (_ ∧ _))
theorem open_arg {g : guard_Guard} {d : disk_Disk} {base size seed : Int} (h : base < 0 ∨ size < 1 ∨ seed < 1 ∨ seed > 4294967295) : F.journal_Open base size seed g d = some (none, 1) := by
  have hd : F.guard_Guard_Disk g d = some () := rfl
  unfold F.journal_Open
  have hc : (if decide (base < 0) = true then some true else if decide (size < 1) = true then some true else if decide (seed < 1) = true then some true else some (decide (seed ≥ 4294967296))) = some true := by
    by_cases h1 : base < 0
    · rw [if_pos (by simpa using h1)]
    rw [if_neg (by simpa using h1)]
    by_cases h2 : size < 1
    · rw [if_pos (by simpa using h2)]
    rw [if_neg (by simpa using h2)]
    by_cases h3 : seed < 1
    · rw [if_pos (by simpa using h3)]
    rw [if_neg (by simpa using h3)]
    congr 1
    simp
    omega
  rw [hd, Option.bind_some, hc, Option.bind_some]
  unfold F.journal_Open.r1
  rw [if_pos rfl, thru_inr]
theorem open_head {g : guard_Guard} {d : disk_Disk} {base size seed : Int} (h : ¬ (base < 0 ∨ size < 1 ∨ seed < 1 ∨ seed > 4294967295)) (hlen : d.sure_.length ≤ 1000) (hb : base ≤ 9223372036854775807) : F.journal_Open base size seed g d = if base > (d.sure_.length : Int) ∨ size > (d.sure_.length : Int) - base then some (none, 5) else F.journal_Open.r2 base size seed g d := by
  have hd : F.guard_Guard_Disk g d = some () := rfl
  unfold F.journal_Open
  have hc : (if decide (base < 0) = true then some true else if decide (size < 1) = true then some true else if decide (seed < 1) = true then some true else some (decide (seed ≥ 4294967296))) = some false := by
    rw [if_neg (by simp; omega), if_neg (by simp; omega), if_neg (by simp; omega)]
    congr 1
    simp
    omega
  rw [hd, Option.bind_some, hc, Option.bind_some]
  unfold F.journal_Open.r1 F.disk_Disk_Size
  rw [if_neg (by decide), hd, Option.bind_some, Option.bind_some]
  by_cases h1 : base > (d.sure_.length : Int)
  · rw [if_pos (by simpa using h1), thru_inr, if_pos (.inl h1)]
  · rw [if_neg (by simpa using h1), Option.bind_some, Option.bind_some, w64 (by omega) (by omega)]
    by_cases h2 : size > (d.sure_.length : Int) - base
    · rw [if_pos (by simpa using h2), thru_inr, if_pos (.inr h2)]
    · rw [if_neg (by simpa using h2), thru_inl, if_neg (by omega)]
theorem open_scan {n m : Nat} {s : List UInt8} {d : disk_Disk} (h : Jd n s m d) {g : guard_Guard} {base size seed : Int} (h0 : 0 ≤ base) (h1 : 1 ≤ size) (h2 : 1 ≤ seed) (h3 : seed ≤ 4294967295) (h4 : base + size ≤ (n : Int)) :
    ∃ j, F.journal_Open.r2 base size seed g d = some (some j, 0) ∧ j.size_ = size ∧ j.list_.length = if hangsP m base size seed then 1 else 0 := by
  have hn2 := h.n2
  have hfew := h.few
  obtain ⟨q, rfl⟩ : ∃ q : Nat, base = (q : Int) := ⟨base.toNat, by omega⟩
  unfold F.journal_Open.r2
  by_cases hh : hangsP m (q : Int) size seed
  · obtain ⟨a1, a2, a3, a4⟩ := hh
    have hq3 : q = 3 := by omega
    have hmn3 : 3 + m ≤ n := by
      rcases h.is with e | e
      · omega
      · exact e.2.2
    subst hq3
    subst a3
    have r0 : F.journal_Journal_record_1 0 7 ⟨3, size, 0, 7, [], 0, false⟩ g d = some (ofL s, (m : Int), lnk 1 0 7 m, 0) := by
      rw [record_first h a1 rfl (by exact h1) (by show size ≤ (n : Int); omega), if_pos (by exact a4)]
    have r1 : F.journal_Journal_record_1 (m : Int) (lnk 1 0 7 m) ⟨3, size, (m : Int), lnk 1 0 7 m, [ofL s], 0, false⟩ g d = some (ByteArray.mk #[], 0, 0, 0) := by
      apply record_none
      by_cases hz : size ≤ (m : Int)
      · exact part_out (by exact hz)
      · exact part_none h (by show (m : Int) < size; omega) (q := 3 + m) (by show IntKind.i64.wrap ((3 : Int) + (m : Int)) = _; rw [w64 (by omega) (by omega)]; omega) (by omega) (by omega)
    have e := iter_count (f := fun (x : Int × Int × Int × Int × List ByteArray × Int × Bool) => F.journal_Open.l3 g d x.1 x.2.1 x.2.2.1 x.2.2.2.1 x.2.2.2.2.1 x.2.2.2.2.2.1 x.2.2.2.2.2.2) (fun k => match k with
        | 0 => (3, size, 0, 7, [], 0, false)
        | _ => (3, size, (m : Int), lnk 1 0 7 m, [ofL s], 0, false)) (n := 1) (r := .inl (3, size, (m : Int), lnk 1 0 7 m, [ofL s], 0, false)) (fun k hk => by
      match k, hk with
      | 0, _ =>
        show F.journal_Open.l3 g d 3 size 0 7 [] 0 false = _
        unfold F.journal_Open.l3
        rw [r0, Option.bind_some]
        dsimp only
        rw [if_neg (by decide), if_neg (by simp; omega), chk_pos (by unfold room; simp), w64 (by omega) (by omega)]
        have : (0 : Int) + (m : Int) = (m : Int) := by omega
        rw [this]
        rfl)
      (by
        show F.journal_Open.l3 g d 3 size (m : Int) (lnk 1 0 7 m) [ofL s] 0 false = _
        unfold F.journal_Open.l3
        rw [r1]
        rfl) (k := FUEL) (by rw [FUEL_eq]; omega)
    refine ⟨⟨3, size, (m : Int), lnk 1 0 7 m, [ofL s], 1, false⟩, ?_, rfl, by rw [if_pos ⟨a1, rfl, rfl, a4⟩]; rfl⟩
    refine (congrArg (fun o => thru o _) e).trans ?_
    rw [thru_inl]
    rfl
  · have hrec : F.journal_Journal_record_1 0 seed ⟨(q : Int), size, 0, seed, [], 0, false⟩ g d = some (ByteArray.mk #[], 0, 0, 0) := by
      by_cases hin : 3 ≤ q ∧ q < 3 + m
      · obtain ⟨p, rfl⟩ : ∃ p, q = 3 + p := ⟨q - 3, by omega⟩
        have hi : (0 : Int) < (⟨((3 + p : Nat) : Int), size, 0, seed, [], 0, false⟩ : journal_Journal).size_ := by show (0 : Int) < size; omega
        obtain ⟨hmn, hs, hmn3⟩ : m = nd s.length ∧ s.length ≤ 6000 ∧ 3 + m ≤ n := by
          rcases h.is with e | e
          · omega
          · exact e
        by_cases hl : lnk 1 0 7 p = seed
        · cases p with
          | zero =>
            have h7 : seed = 7 := hl.symm
            subst h7
            rw [record_first h (by omega) rfl (by exact h1) (by show size ≤ (n : Int); omega), if_neg (fun e => hh ⟨by omega, rfl, rfl, e⟩)]
          | succ p =>
            have := (lnk_in (q := p + 1) (by omega)).2.2 (by omega)
            omega
        · apply record_none
          rw [part_hdr h hi (q := p) (by omega) (by show IntKind.i64.wrap (((3 + p : Nat) : Int) + 0) = _; rw [w64 (by omega) (by omega)]; omega) hmn3 hs, if_neg hl]
      · apply record_none
        exact part_none h (by show (0 : Int) < size; omega) (q := q) (by show IntKind.i64.wrap ((q : Int) + 0) = _; rw [w64 (by omega) (by omega)]; omega) (by omega) hin
    have e := iter_count (f := fun (x : Int × Int × Int × Int × List ByteArray × Int × Bool) => F.journal_Open.l3 g d x.1 x.2.1 x.2.2.1 x.2.2.2.1 x.2.2.2.2.1 x.2.2.2.2.2.1 x.2.2.2.2.2.2) (fun _ => ((q : Int), size, 0, seed, [], 0, false)) (n := 0) (r := .inl ((q : Int), size, 0, seed, [], 0, false)) (fun k hk => absurd hk (by omega))
      (by
        show F.journal_Open.l3 g d (q : Int) size 0 seed [] 0 false = _
        unfold F.journal_Open.l3
        rw [hrec]
        rfl) (k := FUEL) (by rw [FUEL_eq]; omega)
    refine ⟨⟨(q : Int), size, 0, seed, [], 0, false⟩, ?_, rfl, by rw [if_neg hh]; rfl⟩
    refine (congrArg (fun o => thru o _) e).trans ?_
    rw [thru_inl]
    rfl
end Go.Proofs.YtgbloaophfaaoaaDoor
