/- Just what a journal's sectors hold: the plain law. -/
import Derived.Test.YtgbloaophfaaoaaDoorGSectorse
import Derived.Test.YtgbloaophfaaoaaDoorPJournal
import Derived.Test.YtgbloaophfaaoaaDoorPAwake12
namespace Go.Proofs.YtgbloaophfaaoaaDoor
set_option linter.all false
open Go Go.RowKit Go.Fw
set_option maxRecDepth 100000
attribute [local irreducible] FUEL
theorem part_blank {i p : Int} {j : journal_Journal} {g : guard_Guard} {d : disk_Disk} (hi : i < j.size_) (hp : 1 ≤ d.sure_.length) {q : Int} (hq : IntKind.i64.wrap (j.base_ + i) = q) (hw : whyB d q = 0) {b : List UInt8} (hc : curB d q = ofL b) (hb : b.length = 64) (h7 : (readL b).2.2 = 7 ∨ (readL b).2.2 = 17) : F.journal_Journal_part_1 i p j g d = some (0, 0, ByteArray.mk #[], 0, 0) := by
  unfold F.journal_Journal_part_1
  rw [if_neg (by simp; omega), hq, gget_eq hp hw hc hb, Option.bind_some]
  dsimp only
  have : (if ((readL b).2.2 == 7) = true then some true else some ((readL b).2.2 == 17)) = some true := by
    rcases h7 with h | h
    · rw [h]; rfl
    · rw [h]; rfl
  rw [this, Option.bind_some]
  unfold F.journal_Journal_part_1.r1
  rw [if_pos rfl, thru_inr]
theorem record_none {i p : Int} {j : journal_Journal} {g : guard_Guard} {d : disk_Disk} (h : F.journal_Journal_part_1 i p j g d = some (0, 0, ByteArray.mk #[], 0, 0)) : F.journal_Journal_record_1 i p j g d = some (ByteArray.mk #[], 0, 0, 0) := by
  unfold F.journal_Journal_record_1
  rw [h, Option.bind_some]
  rfl
def j0 : journal_Journal := ⟨3, 60, 0, 7, [], 0, false⟩
theorem open_new : F.law12_open 1 (newD 64) = some (some (j0, ⟨1, 0⟩)) := by
  have hok := new_ok (n := 64) (by decide) (by decide)
  have hlen : (newD 64).sure_.length = 64 := by unfold newD; rw [List.length_replicate]
  unfold F.law12_open
  rw [gnew_eq hok.pos (by decide) (by decide), Option.bind_some]
  dsimp only [optC]
  have hopen : F.journal_Open 3 60 7 ⟨1, 0⟩ (newD 64) = some (some j0, 0) := by
    unfold F.journal_Open
    have hd : F.guard_Guard_Disk ⟨1, 0⟩ (newD 64) = some () := rfl
    rw [hd, Option.bind_some, if_neg (by decide), if_neg (by decide), if_neg (by decide), Option.bind_some]
    unfold F.journal_Open.r1 F.disk_Disk_Size
    rw [if_neg (by decide), hd, Option.bind_some, Option.bind_some, hlen, if_neg (by decide), Option.bind_some, Option.bind_some, if_neg (by decide), thru_inl]
    unfold F.journal_Open.r2
    have hrec : F.journal_Journal_record_1 0 7 j0 ⟨1, 0⟩ (newD 64) = some (ByteArray.mk #[], 0, 0, 0) := record_none (part_blank (by decide) hok.pos (q := 3) rfl (whyB_in rfl (by decide) (by rw [hlen]; decide)) (b := noL) (new_cur (by decide) (by decide)) rfl (.inl (by rw [no_read])))
    have e := iter_count (f := fun (x : Int × Int × Int × Int × List ByteArray × Int × Bool) => F.journal_Open.l3 ⟨1, 0⟩ (newD 64) x.1 x.2.1 x.2.2.1 x.2.2.2.1 x.2.2.2.2.1 x.2.2.2.2.2.1 x.2.2.2.2.2.2) (fun _ => (3, 60, 0, 7, [], 0, false)) (n := 0) (r := .inl (3, 60, 0, 7, [], 0, false)) (fun k hk => absurd hk (by omega))
      (by
        show F.journal_Open.l3 ⟨1, 0⟩ (newD 64) 3 60 0 7 [] 0 false = _
        unfold F.journal_Open.l3
        show Option.bind (F.journal_Journal_record_1 0 7 j0 ⟨1, 0⟩ (newD 64)) _ = _
        rw [hrec]
        rfl) (k := FUEL) (by rw [FUEL_eq]; omega)
    refine (congrArg (fun o => thru o _) e).trans ?_
    rw [thru_inl]
    rfl
  rw [hopen, Option.bind_some]
/-- what is left of a record ahead of its k-th sector -/
def lft (s : List UInt8) : Nat → List UInt8
  | 0 => s
  | k + 1 => s.drop (36 + 38 * k)
def roomN : Nat → Nat
  | 0 => 36
  | _ + 1 => 38
def midL (s : List UInt8) : Nat → List UInt8
  | 0 => lenL s
  | _ + 1 => []
theorem mid_len (s : List UInt8) (k : Nat) : (midL s k).length ≤ 2 := by cases k <;> simp [midL, lenL]
theorem hdr_lft (boot n0 last : Int) (s : List UInt8) (k : Nat) : hdr boot n0 last s k = ([knd k] ++ fixI 8 (lnk boot n0 last k) ++ midL s k) ++ (lft s k).take (roomN k) := by
  cases k with
  | zero => unfold hdr prt lft roomN midL; simp
  | succ k => unfold hdr prt lft roomN midL; simp
theorem lft_next (s : List UInt8) (k : Nat) : (lft s k).drop (roomN k) = lft s (k + 1) := by
  cases k with
  | zero => rfl
  | succ k =>
    show (s.drop (36 + 38 * k)).drop 38 = s.drop (36 + 38 * (k + 1))
    rw [List.drop_drop]
    congr 1
theorem sec_round {x0 : List ByteArray} {i : Nat} {s : List UInt8} (hi : x0[i]? = some (ofL s)) (hs : s.length ≤ 6000) {boot n0 last : Int} (hb1 : 1 ≤ boot) (hb2 : boot ≤ 1000) (h0 : 0 ≤ n0) (h1 : n0 ≤ 1000000) {D d : disk_Disk} {P : Nat} (h : Wr D boot n0 last P s (nd s.length) d) (hP : P + nd s.length ≤ D.sure_.length) (hDl : D.sure_.length ≤ 8192) {j : journal_Journal} {g : guard_Guard} {e : Int} {k : Nat} (hk : k < nd s.length) :
    F.law12_JournalSectors.l6 x0 (i : Int) (e, j, g, d) ((P + k : Nat) : Int) (lnk boot n0 last k) (ofL (lft s k)) (k : Int) = some (.inl (((P + (k + 1) : Nat) : Int), lnk boot n0 last (k + 1), ofL (lft s (k + 1)), ((k + 1 : Nat) : Int))) := by
  have hl := hdr_len boot n0 last s k
  have hnd : nd s.length ≤ 200 := by unfold nd; split <;> omega
  have hlk : 4294967296 ≤ lnk boot n0 last (k + 1) ∧ lnk boot n0 last (k + 1) ≤ 9223372036854775807 := by
    show 4294967296 ≤ boot * 4294967296 + (n0 + (k : Int) + 1) ∧ boot * 4294967296 + (n0 + (k : Int) + 1) ≤ 9223372036854775807
    omega
  have hw : whyB d ((P + k : Nat) : Int) = 0 := whyB_in h.off (by omega) (by rw [h.len]; omega)
  have hrd := sec_read hlk.1 hlk.2 hl
  have hll : (lft s k).length ≤ 6000 := by
    cases k with
    | zero => exact hs
    | succ k => show (s.drop _).length ≤ 6000; rw [List.length_drop]; omega
  have hr2 : 36 ≤ roomN k ∧ roomN k ≤ 38 := by
    cases k with
    | zero => exact ⟨by decide, by decide⟩
    | succ k => exact ⟨by show 36 ≤ 38; decide, by show 38 ≤ 38; decide⟩
  unfold F.law12_JournalSectors.l6
  rw [at_nat hi, Option.bind_some, ofL_size, need2_eq (by omega), Option.bind_some, if_pos (by simp; omega)]
  dsimp only
  rw [gread_eq h.ok.pos hw (h.new k hk) (secL_len hl), hrd, Option.bind_some, geight_eq, Option.bind_some, chk_pos (by rw [ofL_size, fixI_len]; decide), ofL_size]
  dsimp only
  have want : (if ((k : Int) == 0) = true then Option.bind (some (ofL (fixI 8 (lnk boot n0 last k)))) (fun (r101 : ByteArray) => chk ((ByteArray.mk #[1]).size + r101.size ≤ 9223372036854775807) (chk (((ByteArray.mk #[1]) ++ r101).size + (bstr ([IntKind.u8.wrap (IntKind.i64.wrap (((lft s k).length : Int).tdiv 256)), IntKind.u8.wrap ((lft s k).length : Int)] : List Int)).size ≤ 9223372036854775807) (some ((((ByteArray.mk #[1]) ++ r101) ++ (bstr ([IntKind.u8.wrap (IntKind.i64.wrap (((lft s k).length : Int).tdiv 256)), IntKind.u8.wrap ((lft s k).length : Int)] : List Int)), (36 : Int)))))) else some (((ByteArray.mk #[2]) ++ ofL (fixI 8 (lnk boot n0 last k)), (38 : Int)))) = some (ofL ([knd k] ++ fixI 8 (lnk boot n0 last k) ++ midL s k), ((roomN k : Nat) : Int)) := by
    cases k with
    | zero =>
      rw [if_pos (by decide), Option.bind_some, show (ByteArray.mk #[1]) = ofL [1] from rfl, chk_pos (by rw [ofL_size, ofL_size, fixI_len]; decide), ofL_append]
      have hb : bstr ([IntKind.u8.wrap (IntKind.i64.wrap (((lft s 0).length : Int).tdiv 256)), IntKind.u8.wrap ((lft s 0).length : Int)] : List Int) = ofL (lenL s) := by
        have e1 : ((lft s 0).length : Int).tdiv 256 = ((s.length / 256 : Nat) : Int) := rfl
        have e2 : ((lft s 0).length : Int) = (s.length : Int) := rfl
        rw [e1, e2, w64 (n := ((s.length / 256 : Nat) : Int)) (by omega) (by omega), u8w, u8w]
        exact bstr_ns [UInt8.ofNat (s.length / 256), UInt8.ofNat s.length]
      rw [hb, chk_pos (by rw [ofL_size, ofL_size, List.length_append, fixI_len]; simp [lenL]), ofL_append]
      rfl
    | succ k =>
      rw [if_neg (by simp; omega), show (ByteArray.mk #[2]) = ofL [2] from rfl, ofL_append]
      unfold midL
      rw [List.append_nil]
      rfl
  refine (congrArg (fun o => Option.bind o _) want).trans ?_
  rw [Option.bind_some]
  unfold F.law12_JournalSectors.r3
  dsimp only
  rw [ofL_size]
  have hmin : (if decide (((roomN k : Nat) : Int) > ((lft s k).length : Int)) = true then some ((lft s k).length : Int) else some ((roomN k : Nat) : Int)) = some ((min (roomN k) (lft s k).length : Nat) : Int) := by
    by_cases hc : (lft s k).length < roomN k
    · rw [if_pos (by simp; omega), Nat.min_eq_right (by omega)]
    · rw [if_neg (by simp; omega), Nat.min_eq_left (by omega)]
  rw [hmin, Option.bind_some]
  unfold F.law12_JournalSectors.r4
  dsimp only
  have htk : ((lft s k).take (min (roomN k) (lft s k).length)).drop (0 : Int).toNat = (lft s k).take (roomN k) := by
    show ((lft s k).take (min (roomN k) (lft s k).length)).drop 0 = _
    rw [List.drop_zero, List.take_eq_take_iff]
    omega
  have hml := mid_len s k
  rw [if_neg (by decide), ofL_size, chk_pos (by omega), ofL_extract, Int.toNat_natCast, htk, chk_pos (by rw [ofL_size, ofL_size, List.length_append, List.length_append, fixI_len, List.length_take, List.length_singleton]; omega), ofL_append, ← hdr_lft, seqB_refl, if_neg (by decide), thru_inl]
  unfold F.law12_JournalSectors.r5
  dsimp only
  have hdp : ((lft s k).take ((lft s k).length : Int).toNat).drop (min (roomN k) (lft s k).length) = lft s (k + 1) := by
    rw [Int.toNat_natCast, List.take_length, ← lft_next]
    by_cases hc : roomN k ≤ (lft s k).length
    · rw [Nat.min_eq_left hc]
    · rw [Nat.min_eq_right (by omega), List.drop_of_length_le (by omega), List.drop_of_length_le (by omega)]
  rw [ofL_size, chk_pos (by omega), ofL_extract, Int.toNat_natCast, hdp, w64 (n := ((P + k : Nat) : Int) + 1) (by omega) (by omega), wadd (by omega)]
  have : ((P + k : Nat) : Int) + 1 = ((P + (k + 1) : Nat) : Int) := by omega
  rw [this]
abbrev OTup := Int × Int × Int × List disk_sector × List (Int × disk_sector) × Bool × Bool × Int × Int × Int × Int × Int × Int × Int × Int × Int × Int × Int × List ByteArray × Int × Bool
abbrev OOut := Int × List disk_sector × List (Int × disk_sector) × Bool × Bool × Int × Int × Int × Int × Int × Int × Int × Int × Int × Int × Int × List ByteArray × Int × Bool
def oTup (i nx : Nat) (last : Int) (L : List ByteArray) (d : disk_Disk) : OTup := (((3 + nx : Nat) : Int), last, (i : Int), d.sure_, d.wait_, d.off_, d.armed_, d.left_, d.fall_.Keep, d.fall_.Tear, d.acts_, d.falls_, 1, (nx : Int), 3, 60, (nx : Int), last, L, 0, false)
def oOut (nx : Nat) (last : Int) (L : List ByteArray) (d : disk_Disk) : OOut := (((3 + nx : Nat) : Int), d.sure_, d.wait_, d.off_, d.armed_, d.left_, d.fall_.Keep, d.fall_.Tear, d.acts_, d.falls_, 1, (nx : Int), 3, 60, (nx : Int), last, L, 0, false)
theorem base_new : Wr (newD 64) 1 0 7 0 [] 0 (newD 64) := ⟨new_ok (by decide) (by decide), rfl, rfl, rfl, ⟨by decide, by decide⟩, fun i hi => absurd hi (by omega), fun _ _ => rfl⟩
set_option maxHeartbeats 1000000 in
theorem out_round {x0 : List ByteArray} {i nx : Nat} (hi : i < x0.length) (hi6 : i < 6) (hnx : nx ≤ 60) {last : Int} {L : List ByteArray} (hL : L.length ≤ i) {d : disk_Disk} (hd : Wr d 1 (nx : Int) last 0 [] 0 d) (hdl : d.sure_.length = 64) :
    ∃ (nx' : Nat) (last' : Int) (L' : List ByteArray) (d' : disk_Disk), F.law12_JournalSectors.l8 x0 ((3 + nx : Nat) : Int) last (i : Int) d.sure_ d.wait_ d.off_ d.armed_ d.left_ d.fall_.Keep d.fall_.Tear d.acts_ d.falls_ 1 (nx : Int) 3 60 (nx : Int) last L 0 false = some (.inl (oTup (i + 1) nx' last' L' d')) ∧ nx' ≤ 60 ∧ L'.length ≤ i + 1 ∧ Wr d' 1 (nx' : Int) last' 0 [] 0 d' ∧ d'.sure_.length = 64 := by
  obtain ⟨y, hy⟩ := getq hi
  obtain ⟨s, rfl⟩ : ∃ s, y = ofL s := ⟨_, ofL_surj y⟩
  have hw1 : IntKind.i64.wrap ((i : Int) + 1) = ((i + 1 : Nat) : Int) := by rw [w64 (by omega) (by omega)]; omega
  unfold F.law12_JournalSectors.l8
  rw [if_pos (by simp; omega), if_pos (by simp; omega), thru_inl]
  unfold F.law12_JournalSectors.r2
  rw [at_nat hy, Option.bind_some]
  show ∃ nx' last' L' d', thru (Option.bind (F.journal_Journal_Append (ofL s) ⟨3, 60, (nx : Int), last, L, 0, false⟩ ⟨1, (nx : Int)⟩ d) _) _ = _ ∧ _
  by_cases hroom : s.length ≤ 6000 ∧ (nd s.length : Int) ≤ 60 - (nx : Int)
  rotate_left
  · obtain ⟨e, he, ea⟩ := append_no (j := ⟨3, 60, (nx : Int), last, L, 0, false⟩) (g := ⟨1, (nx : Int)⟩) (D := d) (s := ofL s) rfl (show (60 : Int) ≤ 100000 by decide) (show (0 : Int) ≤ 60 by decide) (show (0 : Int) ≤ (nx : Int) by omega) (show (nx : Int) ≤ 100000 by omega) (by rw [ofL_size]; show 6000 < s.length ∨ (nd s.length : Int) > 60 - (nx : Int); omega)
    rw [ea, Option.bind_some, if_pos (by simpa using he), thru_inl]
    unfold F.law12_JournalSectors.r7
    rw [hw1]
    exact ⟨nx, last, L, d, rfl, hnx, by omega, hd, hdl⟩
  obtain ⟨hs, hrm⟩ := hroom
  have hnp := nd_pos s.length
  obtain ⟨D', hw, ea⟩ := append_eq (j := ⟨3, 60, (nx : Int), last, L, 0, false⟩) (boot := 1) (n0 := (nx : Int)) (D := d) hd (P := 3 + nx) (by show (3 : Int) + (nx : Int) = _; omega) hs rfl hrm (show (60 : Int) ≤ 100000 by decide) (show (0 : Int) ≤ (nx : Int) by omega) (by omega) (by decide) (by decide) (by omega) (by omega) (show L.length ≤ 1000000 by omega) (by omega)
  rw [ea, Option.bind_some]
  dsimp only
  rw [if_neg (by decide), Option.bind_some]
  have hin := iter_count (f := fun (x : Int × Int × ByteArray × Int) => F.law12_JournalSectors.l6 x0 (i : Int) ((0 : Int), (⟨3, 60, (nx : Int) + (nd s.length : Int), lnk 1 (nx : Int) last (nd s.length), L ++ [ofL s], 0, false⟩ : journal_Journal), (⟨1, (nx : Int) + (nd s.length : Int)⟩ : guard_Guard), D') x.1 x.2.1 x.2.2.1 x.2.2.2) (fun k => (((3 + nx + k : Nat) : Int), lnk 1 (nx : Int) last k, ofL (lft s k), (k : Int))) (n := nd s.length) (fun k hk => sec_round hy hs (by decide) (by decide) (by omega) (by omega) hw (by omega) (by omega) hk)
    (by
      dsimp only
      unfold F.law12_JournalSectors.l6
      rw [at_nat hy, Option.bind_some, ofL_size, need2_eq (by omega), Option.bind_some, if_neg (by simp)]) (k := FUEL) (by rw [FUEL_eq]; have : nd s.length ≤ 200 := by { unfold nd; split <;> omega }; omega)
  refine ⟨nx + nd s.length, lnk 1 (nx : Int) last (nd s.length), L ++ [ofL s], D', ?_, by omega, by rw [List.length_append, List.length_singleton]; omega, ⟨hw.ok, rfl, hw.off, hw.armed, hw.fall, fun i hi => absurd hi (by omega), fun _ _ => rfl⟩, by rw [hw.len, hdl]⟩
  refine (congrArg (fun o => thru o _) hin).trans ?_
  rw [thru_inl]
  unfold F.law12_JournalSectors.r7
  dsimp only
  rw [hw1]
  unfold oTup
  have e1 : (((nx + nd s.length : Nat) : Int)) = (nx : Int) + (nd s.length : Int) := by omega
  have e2 : ((3 + (nx + nd s.length) : Nat) : Int) = ((3 + nx + nd s.length : Nat) : Int) := by omega
  rw [e1, e2]
theorem pure_JournalSectors (x0 : List ByteArray) {w0 z0 : Prop} (_ : w0) (_ : z0) : F.law12_JournalSectors x0 = some true := by
  unfold F.law12_JournalSectors
  have hn := new_eq (n := 64) (by decide) (by decide)
  rw [show ((64 : Nat) : Int) = 64 from rfl] at hn
  rw [hn, Option.bind_some]
  dsimp only [optC]
  rw [Option.bind_some]
  unfold F.law12_JournalSectors.r1
  rw [open_new, Option.bind_some]
  dsimp only [optC]
  obtain ⟨r, e, nx, last, L, d, hr, hnx⟩ := iter_up (f := fun (x : OTup) => F.law12_JournalSectors.l8 x0 x.1 x.2.1 x.2.2.1 x.2.2.2.1 x.2.2.2.2.1 x.2.2.2.2.2.1 x.2.2.2.2.2.2.1 x.2.2.2.2.2.2.2.1 x.2.2.2.2.2.2.2.2.1 x.2.2.2.2.2.2.2.2.2.1 x.2.2.2.2.2.2.2.2.2.2.1 x.2.2.2.2.2.2.2.2.2.2.2.1 x.2.2.2.2.2.2.2.2.2.2.2.2.1 x.2.2.2.2.2.2.2.2.2.2.2.2.2.1 x.2.2.2.2.2.2.2.2.2.2.2.2.2.2.1 x.2.2.2.2.2.2.2.2.2.2.2.2.2.2.2.1 x.2.2.2.2.2.2.2.2.2.2.2.2.2.2.2.2.1 x.2.2.2.2.2.2.2.2.2.2.2.2.2.2.2.2.2.1 x.2.2.2.2.2.2.2.2.2.2.2.2.2.2.2.2.2.2.1 x.2.2.2.2.2.2.2.2.2.2.2.2.2.2.2.2.2.2.2.1 x.2.2.2.2.2.2.2.2.2.2.2.2.2.2.2.2.2.2.2.2) (min x0.length 6)
    (fun i t => ∃ (nx : Nat) (last : Int) (L : List ByteArray) (d : disk_Disk), t = oTup i nx last L d ∧ nx ≤ 60 ∧ L.length ≤ i ∧ Wr d 1 (nx : Int) last 0 [] 0 d ∧ d.sure_.length = 64)
    (fun r => ∃ (nx : Nat) (last : Int) (L : List ByteArray) (d : disk_Disk), r = .inl (oOut nx last L d) ∧ nx ≤ 60)
    (fun i t hi hI => by
      obtain ⟨nx, last, L, d, rfl, hnx, hL, hd, hdl⟩ := hI
      obtain ⟨nx', last', L', d', e, h1, h2, h3, h4⟩ := out_round (x0 := x0) (i := i) (by omega) (by omega) hnx hL hd hdl
      exact .inl ⟨_, e, nx', last', L', d', rfl, h1, h2, h3, h4⟩)
    (fun t hI => by
      obtain ⟨nx, last, L, d, rfl, hnx, hL, hd, hdl⟩ := hI
      refine ⟨_, ?_, nx, last, L, d, rfl, hnx⟩
      show F.law12_JournalSectors.l8 x0 ((3 + nx : Nat) : Int) last ((min x0.length 6 : Nat) : Int) d.sure_ d.wait_ d.off_ d.armed_ d.left_ d.fall_.Keep d.fall_.Tear d.acts_ d.falls_ 1 (nx : Int) 3 60 (nx : Int) last L 0 false = _
      unfold F.law12_JournalSectors.l8
      by_cases h1 : x0.length ≤ 6
      · rw [if_neg (by simp; omega), thru_inr]; rfl
      · rw [if_pos (by simp; omega), if_neg (by simp; omega), thru_inr]; rfl)
    (s0 := oTup 0 0 7 [] (newD 64)) ⟨0, 7, [], newD 64, rfl, by omega, Nat.le_refl _, base_new, by unfold newD; rw [List.length_replicate]⟩ (k := FUEL) (by rw [FUEL_eq]; omega)
  subst hr
  refine (congrArg (fun o => thru o _) e).trans ?_
  rw [thru_inl]
  unfold F.law12_JournalSectors.r9 F.journal_Journal_Used F.journal_Journal_none
  rw [Option.bind_some, if_neg (by decide), Option.bind_some]
  unfold oOut
  dsimp only
  rw [if_pos (by rw [w64 (by omega) (by omega), beq_iff_eq]; omega), awake]
  rfl
end Go.Proofs.YtgbloaophfaaoaaDoor
