/- Records laid into a journal, in plain words. -/
import Derived.Test.YtgbloaophfaaoaaGreatDoorPGuardG
import Derived.Test.YtgbloaophfaaoaaGreatDoorGPlaysd
import Derived.Test.YtgbloaophfaaoaaGreatDoorGJour
import Derived.Test.YtgbloaophfaaoaaGreatDoorGJour
namespace Go.Proofs.YtgbloaophfaaoaaGreatDoor
set_option linter.all false
open Go Go.RowKit Go.Fw
set_option maxRecDepth 100000
attribute [local irreducible] FUEL
/-- how many sectors a record needs -/
def nd (n : Nat) : Nat := if n ≤ 36 then 1 else 1 + (n - 36 + 37) / 38
theorem nd_pos (n : Nat) : 1 ≤ nd n := by unfold nd; split <;> omega
theorem nd_more {n k : Nat} : k + 1 < nd n ↔ 36 + 38 * k < n := by
  unfold nd
  split <;> omega
theorem need1_eq {n : Nat} (h : n ≤ 1000000) : F.journal_Need (n : Int) = some (nd n : Int) := by
  unfold F.journal_Need nd
  by_cases h1 : n ≤ 36
  · rw [if_pos (by simp; omega), if_pos h1]; rfl
  · rw [if_neg (by simp; omega), if_neg h1, w64 (n := (n : Int) - 36) (by omega) (by omega), w64 (n := (n : Int) - 36 + 38) (by omega) (by omega), w64 (n := (n : Int) - 36 + 38 - 1) (by omega) (by omega)]
    have e : ((n : Int) - 36 + 38 - 1).tdiv 38 = (((n - 36 + 37) / 38 : Nat) : Int) := by
      have : (n : Int) - 36 + 38 - 1 = ((n - 36 + 37 : Nat) : Int) := by omega
      rw [this]
      rfl
    rw [e, w64 (n := (((n - 36 + 37) / 38 : Nat) : Int)) (by omega) (by omega), w64 (by omega) (by omega)]
    congr 1
theorem need2_eq {n : Nat} (h : n ≤ 1000000) : F.law12_need (n : Int) = some (nd n : Int) := by
  unfold F.law12_need
  rw [if_neg (by simp), w64 (n := (n : Int) - 36) (by omega) (by omega)]
  have hp := nd_pos n
  have hle : nd n ≤ 1 + (n + 37) / 38 := by unfold nd; split <;> omega
  have e := iter_count (f := fun (x : Int × Int) => F.law12_need.l1 x.1 x.2) (fun k => ((1 + k : Nat) : Int) |> fun a => (a, (n : Int) - 36 - 38 * (k : Int))) (n := nd n - 1) (r := (nd n : Int)) (fun k hk => by
    have hm : 36 + 38 * k < n := nd_more.1 (by omega)
    dsimp only
    unfold F.law12_need.l1
    rw [if_pos (by simp; omega), w64 (by omega) (by omega), w64 (by omega) (by omega)]
    have e1 : ((1 + k : Nat) : Int) + 1 = ((1 + (k + 1) : Nat) : Int) := by omega
    have e2 : (n : Int) - 36 - 38 * (k : Int) - 38 = (n : Int) - 36 - 38 * ((k + 1 : Nat) : Int) := by omega
    rw [e1, e2])
    (by
      have hm : ¬ (36 + 38 * (nd n - 1) < n) := fun e => by have := nd_more.2 e; omega
      dsimp only
      unfold F.law12_need.l1
      rw [if_neg (by simp; omega)]
      have : ((1 + (nd n - 1) : Nat) : Int) = (nd n : Int) := by omega
      rw [this]) (k := FUEL) (by rw [FUEL_eq]; omega)
  have e0 : ((1 + 0 : Nat) : Int) = 1 := rfl
  dsimp only at e
  rw [e0, show (n : Int) - 36 - 38 * ((0 : Nat) : Int) = (n : Int) - 36 by omega] at e
  refine (congrArg (fun o => Option.bind o _) e).trans ?_
  rfl
/-! ### a record's sectors -/
/-- what the k-th sector of a record hangs to; the last one's stamp -/
def lnk (boot n0 last : Int) : Nat → Int
  | 0 => last
  | k + 1 => boot * 4294967296 + (n0 + (k : Int) + 1)
def lenL (s : List UInt8) : List UInt8 := [UInt8.ofNat (s.length / 256), UInt8.ofNat s.length]
def prt (s : List UInt8) : Nat → List UInt8
  | 0 => lenL s ++ s.take 36
  | k + 1 => (s.drop (36 + 38 * k)).take 38
def knd : Nat → UInt8
  | 0 => 1
  | _ + 1 => 2
def hdr (boot n0 last : Int) (s : List UInt8) (k : Nat) : List UInt8 := knd k :: (fixI 8 (lnk boot n0 last k) ++ prt s k)
theorem prt_len (s : List UInt8) (k : Nat) : (prt s k).length ≤ 38 := by
  cases k with
  | zero => show (lenL s ++ s.take 36).length ≤ 38; rw [List.length_append, List.length_take]; show 2 + _ ≤ 38; omega
  | succ k => show ((s.drop (36 + 38 * k)).take 38).length ≤ 38; rw [List.length_take]; omega
theorem hdr_len (boot n0 last : Int) (s : List UInt8) (k : Nat) : (hdr boot n0 last s k).length ≤ 47 := by
  have := prt_len s k
  unfold hdr
  rw [List.length_cons, List.length_append, fixI_len]
  omega
/-- the disk behind so many sectors of a record -/
structure Wr (D : disk_Disk) (boot n0 last : Int) (P : Nat) (s : List UInt8) (k : Nat) (d : disk_Disk) : Prop where
  ok : DOk d
  len : d.sure_.length = D.sure_.length
  off : d.off_ = false
  armed : d.armed_ = false
  fall : FOk d.fall_
  new : ∀ i, i < k → curB d ((P + i : Nat) : Int) = ofL (secL (lnk boot n0 last (i + 1)) (hdr boot n0 last s i))
  old : ∀ j : Nat, ¬ (P ≤ j ∧ j < P + k) → curB d (j : Int) = curB D (j : Int)
theorem not_due {d : disk_Disk} (h : d.armed_ = false) : ¬ due d := by unfold due; rw [h]; intro e; cases e.1
theorem bstr_kind (k : Nat) : bstr ([(knd k).toNat] : List Int) = ofL [knd k] := by
  have := bstr_ns [knd k]
  exact this
/-- one sector is put -/
theorem put_one {D : disk_Disk} {boot n0 last : Int} {P : Nat} {s : List UInt8} {k : Nat} {d : disk_Disk} (h : Wr D boot n0 last P s k d) (hg : GOk ⟨boot, n0 + (k : Int)⟩) (hP : P + k < D.sure_.length) :
    F.guard_Guard_Put ((P + k : Nat) : Int) (ofL (hdr boot n0 last s k)) ⟨boot, n0 + (k : Int)⟩ d = some (lnk boot n0 last (k + 1), 0, ⟨boot, n0 + ((k + 1 : Nat) : Int)⟩, writeD d ((P + k : Nat) : Int) (ofL (secL (lnk boot n0 last (k + 1)) (hdr boot n0 last s k)))) ∧
    Wr D boot n0 last P s (k + 1) (writeD d ((P + k : Nat) : Int) (ofL (secL (lnk boot n0 last (k + 1)) (hdr boot n0 last s k)))) := by
  have hl := hdr_len boot n0 last s k
  have hst : stampG ⟨boot, n0 + (k : Int)⟩ = lnk boot n0 last (k + 1) := stamp_eq hg
  have hw : whyB d ((P + k : Nat) : Int) = 0 := whyB_in h.off (by omega) (by rw [h.len]; omega)
  constructor
  · rw [gput_eq hg h.fall h.ok _ _ (by omega), if_neg (by omega), if_neg (fun e => e hw), if_neg (not_due h.armed), hst]
    have : upG ⟨boot, n0 + (k : Int)⟩ = ⟨boot, n0 + ((k + 1 : Nat) : Int)⟩ := by
      unfold upG
      have : n0 + (k : Int) + 1 = n0 + ((k + 1 : Nat) : Int) := by omega
      dsimp only
      rw [this]
    rw [this]
  · refine ⟨write_ok h.ok (by omega) (by rw [h.len]; omega) (by rw [ofL_size, secL_len hl]), h.len, h.off, h.armed, h.fall, fun i hi => ?_, fun j hj => ?_⟩
    · rw [cur_write]
      by_cases e : i = k
      · subst e
        rw [if_pos rfl]
      · rw [if_neg (by omega)]
        exact h.new i (by omega)
    · rw [cur_write, if_neg (by omega)]
      exact h.old j (by omega)
abbrev ATup := ByteArray × Int × Int × ByteArray × Int × Int × Int × List disk_sector × List (Int × disk_sector) × Bool × Bool × Int × Int × Int × Int × Int
abbrev AOut := Int × Int × Int × Int × List disk_sector × List (Int × disk_sector) × Bool × Bool × Int × Int × Int × Int × Int
def aTup (boot n0 last : Int) (s : List UInt8) (k : Nat) (d : disk_Disk) : ATup := (ofL (s.drop (36 + 38 * k)), (k : Int), lnk boot n0 last k, ofL (prt s k), ((knd k).toNat : Int), boot, n0 + (k : Int), d.sure_, d.wait_, d.off_, d.armed_, d.left_, d.fall_.Keep, d.fall_.Tear, d.acts_, d.falls_)
theorem min38 (n : Nat) : (if (38 : Int) < (n : Int) then (38 : Int) else (n : Int)) = ((min n 38 : Nat) : Int) := by split <;> omega
theorem min36 (n : Nat) : (if (36 : Int) < (n : Int) then (36 : Int) else (n : Int)) = ((min n 36 : Nat) : Int) := by split <;> omega
theorem seq_nil (l : List UInt8) : seqB (ofL l) (ByteArray.mk #[]) = decide (l = []) := by
  cases hh : seqB (ofL l) (ByteArray.mk #[]) with
  | true => exact (decide_eq_true (ofL_inj (b := []) (seqB_iff.1 hh))).symm
  | false => exact (decide_eq_false (fun e => by subst e; exact absurd (emp_eq) (by rw [hh]; decide))).symm
theorem app_round {j : journal_Journal} {D : disk_Disk} {boot n0 last : Int} {P : Nat} (hPj : j.base_ + j.next_ = (P : Int)) (hPs : P ≤ 100000) {s : List UInt8} (hs : s.length ≤ 6000) {k : Nat} {d : disk_Disk} (h : Wr D boot n0 last P s k d) (hg : GOk ⟨boot, n0 + (k : Int)⟩) (hP : P + k < D.sure_.length) (hk : k ≤ 100000) :
    ∃ d', Wr D boot n0 last P s (k + 1) d' ∧ F.journal_Journal_Append.l1 j (ofL (s.drop (36 + 38 * k))) (k : Int) (lnk boot n0 last k) (ofL (prt s k)) ((knd k).toNat : Int) boot (n0 + (k : Int)) d.sure_ d.wait_ d.off_ d.armed_ d.left_ d.fall_.Keep d.fall_.Tear d.acts_ d.falls_ =
      some (if s.length ≤ 36 + 38 * k then .inr (.inl ((((k + 1 : Nat) : Int), lnk boot n0 last (k + 1), boot, n0 + ((k + 1 : Nat) : Int), d'.sure_, d'.wait_, d'.off_, d'.armed_, d'.left_, d'.fall_.Keep, d'.fall_.Tear, d'.acts_, d'.falls_) : AOut)) else .inl (aTup boot n0 last s (k + 1) d')) := by
  obtain ⟨e1, e2⟩ := put_one h hg hP
  refine ⟨_, e2, ?_⟩
  generalize writeD d ((P + k : Nat) : Int) (ofL (secL (lnk boot n0 last (k + 1)) (hdr boot n0 last s k))) = d' at e1 e2
  have hpl := prt_len s k
  have hpos : IntKind.i64.wrap (IntKind.i64.wrap (j.base_ + j.next_) + (k : Int)) = ((P + k : Nat) : Int) := by rw [hPj, w64 (n := (P : Int)) (by omega) (by omega), w64 (by omega) (by omega)]; omega
  unfold F.journal_Journal_Append.l1
  rw [geight_eq, Option.bind_some, bstr_kind, chk_pos (by rw [ofL_size, ofL_size, fixI_len]; simp)]
  simp only [ofL_append]
  rw [chk_pos (by rw [ofL_size, ofL_size, List.length_append, fixI_len]; simp; omega), hpos]
  have hh : ([knd k] ++ fixI 8 (lnk boot n0 last k) ++ prt s k) = hdr boot n0 last s k := by unfold hdr; simp
  rw [hh]
  show Option.bind (F.guard_Guard_Put ((P + k : Nat) : Int) (ofL (hdr boot n0 last s k)) ⟨boot, n0 + (k : Int)⟩ d) _ = _
  rw [e1, Option.bind_some]
  dsimp only
  rw [if_neg (by decide), seq_nil, wadd (by omega)]
  by_cases hend : s.length ≤ 36 + 38 * k
  · have : s.drop (36 + 38 * k) = [] := List.drop_eq_nil_iff.2 hend
    rw [decide_eq_true this, if_pos rfl, if_pos hend]
  · have hne : ¬ (s.drop (36 + 38 * k) = []) := fun e => hend (List.drop_eq_nil_iff.1 e)
    rw [decide_eq_false hne, if_neg (by decide), if_neg hend]
    have hl : (s.drop (36 + 38 * k)).length = s.length - (36 + 38 * k) := List.length_drop
    rw [ofL_size, hl, min38, chk_pos (by omega), ofL_extract, Int.toNat_natCast]
    have ht : ((s.drop (36 + 38 * k)).take (min (s.length - (36 + 38 * k)) 38)).drop (0 : Int).toNat = prt s (k + 1) := by
      show ((s.drop (36 + 38 * k)).take (min (s.length - (36 + 38 * k)) 38)).drop 0 = (s.drop (36 + 38 * k)).take 38
      rw [List.drop_zero, ← hl, Nat.min_comm, List.take_eq_take_iff]
      omega
    rw [ht, ofL_size]
    have hpl2 : (prt s (k + 1)).length = min 38 (s.length - (36 + 38 * k)) := by
      show ((s.drop (36 + 38 * k)).take 38).length = _
      rw [List.length_take, hl]
    rw [chk_pos (by omega), ofL_extract, Int.toNat_natCast, Int.toNat_natCast]
    have hd : ((s.drop (36 + 38 * k)).take (s.length - (36 + 38 * k))).drop (prt s (k + 1)).length = s.drop (36 + 38 * (k + 1)) := by
      rw [List.take_of_length_le (by omega), List.drop_drop, hpl2]
      by_cases h2 : 38 ≤ s.length - (36 + 38 * k)
      · rw [Nat.min_eq_left h2]
        congr 1
      · rw [Nat.min_eq_right (by omega), List.drop_of_length_le (by omega), List.drop_of_length_le (by omega)]
    rw [hd]
    rfl
/-- a record that has room is laid behind the others -/
theorem append_eq {j : journal_Journal} {boot n0 : Int} {D : disk_Disk} (hD : Wr D boot n0 j.last_ 0 [] 0 D) {P : Nat} (hPj : j.base_ + j.next_ = (P : Int)) {s : List UInt8} (hs : s.length ≤ 6000) (hdead : j.dead_ = false) (hroom : (nd s.length : Int) ≤ j.size_ - j.next_) (hsz : j.size_ ≤ 100000) (hn0 : 0 ≤ j.next_) (hP : P + nd s.length ≤ D.sure_.length)
    (hb1 : 1 ≤ boot) (hb2 : boot ≤ 2147483647) (h0 : 0 ≤ n0) (h1 : n0 ≤ 1000000) (hl : j.list_.length ≤ 1000000) (hDl : D.sure_.length ≤ 8192) :
    ∃ D', Wr D boot n0 j.last_ P s (nd s.length) D' ∧ F.journal_Journal_Append (ofL s) j ⟨boot, n0⟩ D = some (0, ⟨j.base_, j.size_, j.next_ + (nd s.length : Int), lnk boot n0 j.last_ (nd s.length), j.list_ ++ [ofL s], j.sure_, false⟩, ⟨boot, n0 + (nd s.length : Int)⟩, D') := by
  have hnp := nd_pos s.length
  have hnd : nd s.length ≤ 200 := by unfold nd; split <;> omega
  unfold F.journal_Journal_Append F.journal_Journal_off F.journal_Journal_Left F.journal_Journal_none
  rw [Option.bind_some, if_neg (by decide), hdead, if_neg (by decide), Option.bind_some, if_neg (by decide), ofL_size, if_neg (by simp; omega), need1_eq (by omega), Option.bind_some, Option.bind_some, if_neg (by decide), Option.bind_some, w64 (n := j.size_ - j.next_) (by omega) (by omega), if_neg (by simp; omega), min36, chk_pos (by omega)]
  have hb2' : bstr ([IntKind.u8.wrap ((s.length : Int).fdiv (2 ^ 8)), IntKind.u8.wrap (s.length : Int)] : List Int) = ofL (lenL s) := by
    have hf : (s.length : Int).fdiv (2 ^ 8) = ((s.length / 256 : Nat) : Int) := fdiv_pow s.length 8
    rw [hf, u8w, u8w]
    exact bstr_ns [UInt8.ofNat (s.length / 256), UInt8.ofNat s.length]
  rw [hb2', ofL_extract, ofL_extract, Int.toNat_natCast]
  have ht : (s.take (min s.length 36)).drop (0 : Int).toNat = s.take 36 := by
    show (s.take (min s.length 36)).drop 0 = _
    rw [List.drop_zero, List.take_eq_take_iff]
    omega
  have hd : (s.take (s.length : Int).toNat).drop (min s.length 36) = s.drop (36 + 38 * 0) := by
    rw [Int.toNat_natCast, List.take_length]
    by_cases h : 36 ≤ s.length
    · rw [Nat.min_eq_right h]
    · rw [Nat.min_eq_left (by omega), List.drop_of_length_le (by omega), List.drop_of_length_le (by omega)]
  rw [ht, hd, chk_pos (by rw [ofL_size, ofL_size, List.length_take]; show 2 + _ ≤ _; omega), chk_pos (by omega)]
  simp only [ofL_append]
  have w0 : Wr D boot n0 j.last_ P s 0 D := ⟨hD.ok, rfl, hD.off, hD.armed, hD.fall, fun i hi => absurd hi (by omega), fun _ _ => rfl⟩
  have hg : ∀ k, k < nd s.length → GOk ⟨boot, n0 + (k : Int)⟩ := fun k hk => ⟨hb1, hb2, by show 0 ≤ n0 + (k : Int); omega, by show n0 + (k : Int) < 4294967295; omega⟩
  obtain ⟨r, e, D', hw, hr⟩ := iter_up (f := fun x => F.journal_Journal_Append.l1 j x.1 x.2.1 x.2.2.1 x.2.2.2.1 x.2.2.2.2.1 x.2.2.2.2.2.1 x.2.2.2.2.2.2.1 x.2.2.2.2.2.2.2.1 x.2.2.2.2.2.2.2.2.1 x.2.2.2.2.2.2.2.2.2.1 x.2.2.2.2.2.2.2.2.2.2.1 x.2.2.2.2.2.2.2.2.2.2.2.1 x.2.2.2.2.2.2.2.2.2.2.2.2.1 x.2.2.2.2.2.2.2.2.2.2.2.2.2.1 x.2.2.2.2.2.2.2.2.2.2.2.2.2.2.1 x.2.2.2.2.2.2.2.2.2.2.2.2.2.2.2) (nd s.length - 1)
    (fun k t => ∃ d, t = aTup boot n0 j.last_ s k d ∧ Wr D boot n0 j.last_ P s k d)
    (fun r => ∃ d, Wr D boot n0 j.last_ P s (nd s.length) d ∧ r = .inl (((nd s.length : Nat) : Int), lnk boot n0 j.last_ (nd s.length), boot, n0 + ((nd s.length : Nat) : Int), d.sure_, d.wait_, d.off_, d.armed_, d.left_, d.fall_.Keep, d.fall_.Tear, d.acts_, d.falls_))
    (fun k t hk hI => by
      obtain ⟨d, rfl, hw⟩ := hI
      obtain ⟨d', hw', e⟩ := app_round hPj (by omega) hs hw (hg k (by omega)) (by omega) (by omega)
      have hm : 36 + 38 * k < s.length := nd_more.1 (by omega)
      rw [if_neg (by omega)] at e
      exact .inl ⟨_, e, d', rfl, hw'⟩)
    (fun t hI => by
      obtain ⟨d, rfl, hw⟩ := hI
      obtain ⟨d', hw', e⟩ := app_round hPj (by omega) hs hw (hg _ (by omega)) (by omega) (by omega)
      have hm : ¬ (36 + 38 * (nd s.length - 1) < s.length) := fun e => by have := nd_more.2 e; omega
      rw [if_pos (by omega), show nd s.length - 1 + 1 = nd s.length by omega] at e
      rw [show nd s.length - 1 + 1 = nd s.length by omega] at hw'
      exact ⟨_, e, d', hw', rfl⟩)
    (s0 := aTup boot n0 j.last_ s 0 D) ⟨D, rfl, w0⟩ (k := FUEL) (by rw [FUEL_eq]; omega)
  subst hr
  refine ⟨D', hw, ?_⟩
  have e0 : (ofL (s.drop (36 + 38 * 0)), (0 : Int), j.last_, ofL (lenL s ++ s.take 36), (1 : Int), boot, n0, D.sure_, D.wait_, D.off_, D.armed_, D.left_, D.fall_.Keep, D.fall_.Tear, D.acts_, D.falls_) = aTup boot n0 j.last_ s 0 D := by
    unfold aTup
    rw [show n0 + ((0 : Nat) : Int) = n0 by omega]
    rfl
  refine (congrArg (fun o => thru o _) ((congrArg (fun z => iter _ FUEL z) e0).trans e)).trans ?_
  rw [thru_inl]
  unfold F.journal_Journal_Append.r2
  rw [chk_pos (by unfold room; rw [List.length_singleton]; omega), w64 (by omega) (by omega), hdead]
theorem append_no {j : journal_Journal} {g : guard_Guard} {D : disk_Disk} {s : ByteArray} (hdead : j.dead_ = false) (hsz : j.size_ ≤ 100000) (hs0 : 0 ≤ j.size_) (hn0 : 0 ≤ j.next_) (hn1 : j.next_ ≤ 100000) (h : 6000 < s.size ∨ (nd s.size : Int) > j.size_ - j.next_) : ∃ e, e ≠ 0 ∧ F.journal_Journal_Append s j g D = some (e, j, g, D) := by
  unfold F.journal_Journal_Append F.journal_Journal_off F.journal_Journal_Left F.journal_Journal_none
  rw [Option.bind_some, if_neg (by decide), hdead, if_neg (by decide), Option.bind_some, if_neg (by decide)]
  by_cases h1 : 6000 < s.size
  · rw [if_pos (by simp; omega)]
    exact ⟨3, by decide, rfl⟩
  · rw [if_neg (by simp; omega), need1_eq (by omega), Option.bind_some, Option.bind_some, if_neg (by decide), Option.bind_some, w64 (n := j.size_ - j.next_) (by omega) (by omega), if_pos (by simp; omega)]
    exact ⟨6, by decide, rfl⟩
end Go.Proofs.YtgbloaophfaaoaaGreatDoor
