/- Behind any loss of power each sector holds something that was put there whole, or is noughts, or is told to be torn: the plain law. -/
import Derived.Test.YthebdiboijhjmaaDoorGWhole
import Derived.Test.YthebdiboijhjmaaDoorPGuardReads
import Derived.Test.YthebdiboijhjmaaDoorPDiskF
import Derived.Test.YthebdiboijhjmaaDoorPDiskC
namespace Go.Proofs.YthebdiboijhjmaaDoor
set_option linter.all false
open Go Go.RowKit Go.Fw
set_option maxRecDepth 100000
attribute [local irreducible] FUEL
/-! ### what the script writes -/
/-- does a step write to a sector -/
def touch (o : law10_Op) (j : Nat) : Bool := (o.I == (j : Int)) && ((o.Kind != 1) && ((o.Kind == 0) || decide ((o.S.size : Int) ≤ 47)))
/-- the last step ahead that writes to a sector, and one more (0: none) -/
def lastT (l : List law10_Op) (j : Nat) : Nat → Nat
  | 0 => 0
  | k + 1 => match l[k]? with
    | some o => if touch o j then k + 1 else lastT l j k
    | none => lastT l j k
def isPut (o : law10_Op) : Bool := (o.Kind != 0) && ((o.Kind != 1) && (decide ((o.S.size : Int) ≤ 47) && (decide (0 ≤ o.I) && decide (o.I < 10))))
def cnt (l : List law10_Op) : Nat → Nat
  | 0 => 0
  | k + 1 => match l[k]? with
    | some o => if isPut o then cnt l k + 1 else cnt l k
    | none => cnt l k
def contC (l : List law10_Op) : Nat → Int × List UInt8
  | 0 => (0, [])
  | k + 1 => match l[k]? with
    | some o => if o.Kind = 0 then (0, []) else (4294967296 + ((cnt l k : Nat) + 1 : Int), o.S.data.toList)
    | none => (0, [])
def secC (l : List law10_Op) (k : Nat) : List UInt8 := secL (contC l k).1 (contC l k).2
theorem lastT_le (l : List law10_Op) (j : Nat) : ∀ k, lastT l j k ≤ k
  | 0 => Nat.le_refl _
  | k + 1 => by
    have ih := lastT_le l j k
    unfold lastT
    split
    · split <;> omega
    · omega
theorem lastT_mono (l : List law10_Op) (j : Nat) {a : Nat} : ∀ {b : Nat}, a ≤ b → lastT l j a ≤ lastT l j b
  | 0, h => by rw [show a = 0 by omega]; exact Nat.le_refl _
  | b + 1, h => by
    by_cases e : a = b + 1
    · rw [e]; exact Nat.le_refl _
    have ih := lastT_mono l j (a := a) (b := b) (by omega)
    have h2 := lastT_le l j b
    have : lastT l j b ≤ lastT l j (b + 1) := by
      conv => rhs; unfold lastT
      split
      · split <;> omega
      · omega
    omega
theorem lastT_spec (l : List law10_Op) (j : Nat) : ∀ k, lastT l j k = 0 ∨ ∃ q, q < k ∧ lastT l j k = q + 1 ∧ ∃ o, l[q]? = some o ∧ touch o j = true
  | 0 => .inl rfl
  | k + 1 => by
    have ih := lastT_spec l j k
    have up : (lastT l j k = 0 ∨ ∃ q, q < k ∧ lastT l j k = q + 1 ∧ ∃ o, l[q]? = some o ∧ touch o j = true) → (lastT l j k = 0 ∨ ∃ q, q < k + 1 ∧ lastT l j k = q + 1 ∧ ∃ o, l[q]? = some o ∧ touch o j = true) := by
      rintro (h | ⟨q, h1, h2⟩)
      · exact .inl h
      · exact .inr ⟨q, by omega, h2⟩
    unfold lastT
    cases ho : l[k]? with
    | none => exact up ih
    | some o =>
      dsimp only
      cases ht : touch o j with
      | true => rw [if_pos rfl]; exact .inr ⟨k, by omega, rfl, o, ho, ht⟩
      | false => rw [if_neg (by decide)]; exact up ih
theorem touch_iff {o : law10_Op} {j : Nat} : touch o j = true ↔ o.I = (j : Int) ∧ o.Kind ≠ 1 ∧ (o.Kind = 0 ∨ (o.S.size : Int) ≤ 47) := by
  unfold touch
  simp
theorem cnt_le (l : List law10_Op) : ∀ k, cnt l k ≤ k
  | 0 => Nat.le_refl _
  | k + 1 => by
    have ih := cnt_le l k
    unfold cnt
    split
    · split <;> omega
    · omega
theorem cnt_mono (l : List law10_Op) {a : Nat} : ∀ {b : Nat}, a ≤ b → cnt l a ≤ cnt l b
  | 0, h => by rw [show a = 0 by omega]; exact Nat.le_refl _
  | b + 1, h => by
    by_cases e : a = b + 1
    · rw [e]; exact Nat.le_refl _
    have ih := cnt_mono l (a := a) (b := b) (by omega)
    have : cnt l b ≤ cnt l (b + 1) := by
      conv => rhs; unfold cnt
      split
      · split <;> omega
      · omega
    omega
/-- what is told of the last writing of a sector -/
theorem cont_of (l : List law10_Op) {j : Nat} (hj : j < 10) {k : Nat} (hk : k ≤ 40) :
    (contC l (lastT l j k) = (0, []) ∨ ∃ q o, q < k ∧ lastT l j k = q + 1 ∧ l[q]? = some o ∧ isPut o = true ∧ contC l (lastT l j k) = (4294967296 + ((cnt l q : Nat) + 1 : Int), o.S.data.toList)) := by
  rcases lastT_spec l j k with h | ⟨q, hq, h, o, ho, ht⟩
  · rw [h]; exact .inl rfl
  · rw [touch_iff] at ht
    rw [h]
    unfold contC
    dsimp only
    rw [ho]
    dsimp only
    by_cases h0 : o.Kind = 0
    · rw [if_pos h0]; exact .inl rfl
    · rw [if_neg h0]
      refine .inr ⟨q, o, hq, rfl, ho, ?_, rfl⟩
      unfold isPut
      have := ht.2.2
      simp only [Bool.and_eq_true, bne_iff_ne, decide_eq_true_eq]
      exact ⟨h0, ht.2.1, by omega, by omega, by omega⟩
theorem cont_bd (l : List law10_Op) {j : Nat} (hj : j < 10) {k : Nat} (hk : k ≤ 40) : 0 ≤ (contC l (lastT l j k)).1 ∧ (contC l (lastT l j k)).1 ≤ 9223372036854775807 ∧ (contC l (lastT l j k)).2.length ≤ 47 := by
  rcases cont_of l hj hk with h | ⟨q, o, hq, _, _, hp, h⟩
  · rw [h]; decide
  · rw [h]
    have hc := cnt_le l q
    unfold isPut at hp
    simp only [Bool.and_eq_true, bne_iff_ne, decide_eq_true_eq] at hp
    dsimp only
    rw [size_ofL']
    omega
theorem sec_len (l : List law10_Op) {j : Nat} (hj : j < 10) {k : Nat} (hk : k ≤ 40) : (secC l (lastT l j k)).length = 64 := secL_len (cont_bd l hj hk).2.2
theorem cont_apart (l : List law10_Op) {j : Nat} (hj : j < 10) {a b : Nat} (hab : a ≤ b) (hb : b ≤ 40) (h : (contC l (lastT l j a)).1 = (contC l (lastT l j b)).1) : contC l (lastT l j a) = contC l (lastT l j b) := by
  rcases Nat.lt_or_ge (lastT l j a) (lastT l j b) with hlt | hge
  · rcases cont_of l hj (k := b) hb with e | ⟨q, o, hq, hl, ho, hp, e⟩
    · rcases cont_of l hj (k := a) (by omega) with e2 | ⟨q2, o2, hq2, _, ho2, hp2, e2⟩
      · rw [e, e2]
      · rw [e, e2] at h
        dsimp only at h
        omega
    · rcases cont_of l hj (k := a) (by omega) with e2 | ⟨q2, o2, hq2, hl2, ho2, hp2, e2⟩
      · rw [e, e2] at h
        dsimp only at h
        omega
      · rw [e, e2] at h
        dsimp only at h
        have h1 : cnt l (q2 + 1) ≤ cnt l q := cnt_mono l (by omega)
        have h2 : cnt l (q2 + 1) = cnt l q2 + 1 := by
          conv => lhs; unfold cnt
          rw [ho2]
          dsimp only
          rw [if_pos hp2]
        omega
  · have : lastT l j a = lastT l j b := Nat.le_antisymm (lastT_mono l j hab) hge
    rw [this]
/-! ### the disk behind so many steps -/
structure Inv (l : List law10_Op) (f : disk_Fall) (k done : Nat) (d : disk_Disk) (n : Int) : Prop where
  ok : DOk d
  off : d.off_ = false
  len : d.sure_.length = 10
  fall : d.fall_ = f
  num : n = (cnt l k : Int)
  le : done ≤ k
  cur : ∀ j : Nat, j < 10 → curB d (j : Int) = ofL (secC l (lastT l j k))
  sure : ∀ j : Nat, j < 10 → (d.sure_[j]?).map (·.s_) = some (ofL (secC l (lastT l j done)))
theorem Inv.skip {l : List law10_Op} {f : disk_Fall} {k done : Nat} {d : disk_Disk} {n : Int} (h : Inv l f k done d n) {o : law10_Op} (ho : l[k]? = some o) (ht : ∀ j, j < 10 → touch o j = false) (hp : isPut o = false) : Inv l f (k + 1) done d n where
  ok := h.ok
  off := h.off
  len := h.len
  fall := h.fall
  num := by
    rw [h.num]
    conv => rhs; unfold cnt
    rw [ho]
    dsimp only
    rw [hp, if_neg (by decide)]
  le := by have := h.le; omega
  cur j hj := by
    rw [h.cur j hj]
    conv => rhs; unfold lastT
    rw [ho]
    dsimp only
    rw [ht j hj, if_neg (by decide)]
  sure := h.sure
theorem Inv.flush {l : List law10_Op} {f : disk_Fall} {k done : Nat} {d : disk_Disk} {n : Int} (h : Inv l f k done d n) {o : law10_Op} (ho : l[k]? = some o) (h1 : o.Kind = 1) : Inv l f (k + 1) (k + 1) (flushD d) n := by
  have ht : ∀ j, touch o j = false := fun j => by unfold touch; rw [h1]; simp
  have hl : ∀ j, lastT l j (k + 1) = lastT l j k := fun j => by
    conv => lhs; unfold lastT
    rw [ho]
    dsimp only
    rw [ht j, if_neg (by decide)]
  have hs : ∀ j : Nat, j < 10 → ((flushD d).sure_[j]?).map (·.s_) = some (ofL (secC l (lastT l j (k + 1)))) := fun j hj => by
    show ((setAll' d.wait_ d.sure_)[j]?).map (·.s_) = _
    rw [setAll'_get _ _ _ h.ok.keys (fun p hp => (h.ok.inr p hp).1), hl j]
    have hc := h.cur j hj
    obtain ⟨y, hy⟩ := getq (l := d.sure_) (i := j) (by rw [h.len]; exact hj)
    unfold curB at hc
    cases hm : mget d.wait_ (j : Int) with
    | none =>
      rw [hm] at hc
      dsimp only at hc ⊢
      rw [Int.toNat_natCast, hy, Option.getD_some] at hc
      rw [hy, Option.map_some, hc]
    | some x =>
      rw [hm] at hc
      dsimp only at hc ⊢
      rw [hy, Option.map_some, Option.map_some, hc]
  exact {
    ok := flush_ok h.ok
    off := h.off
    len := by show (setAll' d.wait_ d.sure_).length = 10; rw [setAll'_len, h.len]
    fall := h.fall
    num := by
      rw [h.num]
      conv => rhs; unfold cnt
      rw [ho]
      dsimp only
      have : isPut o = false := by unfold isPut; rw [h1]; simp
      rw [this, if_neg (by decide)]
    le := Nat.le_refl _
    cur := fun j hj => by
      have := hs j hj
      show (((flushD d).sure_[(j : Int).toNat]?).getD zS).s_ = _
      rw [Int.toNat_natCast]
      cases hx : (flushD d).sure_[j]? with
      | none => rw [hx] at this; cases this
      | some x =>
        rw [hx] at this
        rw [Option.getD_some]
        exact Option.some.inj this
    sure := hs }
theorem Inv.write {l : List law10_Op} {f : disk_Fall} {k done : Nat} {d : disk_Disk} {n n' : Int} (h : Inv l f k done d n) {o : law10_Op} (ho : l[k]? = some o) {i : Nat} (hi : i < 10) (hI : o.I = (i : Int)) (ht : touch o i = true) {s : List UInt8} (hs : s = secC l (k + 1)) (hs64 : s.length = 64) (hn : n' = (cnt l (k + 1) : Int)) : Inv l f (k + 1) done (writeD d (i : Int) (ofL s)) n' where
  ok := write_ok h.ok (by omega) (by rw [h.len]; omega) (by rw [ofL_size, hs64])
  off := h.off
  len := h.len
  fall := h.fall
  num := hn
  le := by have := h.le; omega
  cur j hj := by
    rw [cur_write]
    by_cases e : j = i
    · subst e
      rw [if_pos rfl]
      have : lastT l j (k + 1) = k + 1 := by
        unfold lastT
        rw [ho]
        dsimp only
        rw [ht, if_pos rfl]
      rw [this, hs]
    · rw [if_neg (by omega), h.cur j hj]
      have : lastT l j (k + 1) = lastT l j k := by
        conv => lhs; unfold lastT
        rw [ho]
        dsimp only
        have : touch o j = false := by
          cases hh : touch o j with
          | false => rfl
          | true => rw [touch_iff] at hh; omega
        rw [this, if_neg (by decide)]
      rw [this]
  sure := h.sure
def Fin0 (l : List law10_Op) (f : disk_Fall) (done : Nat) (d : disk_Disk) : Prop := ∃ k d0 n0, Inv l f k done d0 n0 ∧ k ≤ 40 ∧ k ≤ l.length ∧ d = dropD f d0
abbrev Tup' := List disk_sector × List (Int × disk_sector) × Bool × Bool × Int × Int × Int × Int × Int × Int × Int
def tup' (d : disk_Disk) (n : Int) : Tup' := (d.sure_, d.wait_, d.off_, d.armed_, d.left_, d.fall_.Keep, d.fall_.Tear, d.acts_, d.falls_, 1, n)
theorem noL_fill : ofL (List.replicate (Int.toNat 64) 0) = ofL noL := rfl
theorem lcont {l : List law10_Op} {k : Nat} {o : law10_Op} (ho : l[k]? = some o) (h0 : o.Kind = 0) : secC l (k + 1) = noL := by
  unfold secC contC
  dsimp only
  rw [ho]
  dsimp only
  rw [if_pos h0]
  exact no_sec
theorem step_eq {l : List law10_Op} {f : disk_Fall} (hf : FOk f) {k done : Nat} {d : disk_Disk} {n : Int} (h : Inv l f k done d n) {o : law10_Op} (ho : l[k]? = some o) (hk : k < 40) :
    ∃ (done' : Nat) (d' : disk_Disk) (n' : Int), F.law10_GuardWhole.l6 l (done : Int) (k : Int) d.sure_ d.wait_ d.off_ d.armed_ d.left_ d.fall_.Keep d.fall_.Tear d.acts_ d.falls_ 1 n = some (.inl ((done' : Int), ((k + 1 : Nat) : Int), tup' d' n')) ∧ (Inv l f (k + 1) done' d' n' ∨ Fin0 l f done' d') ∧ done' ≤ k + 1 := by
  have hlt := lt_of_get ho
  have hFd : FOk d.fall_ := by rw [h.fall]; exact hf
  have hfin : ∀ dd, dd = dropD d.fall_ d → Fin0 l f done dd := fun dd e => ⟨k, d, n, h, by omega, by omega, by rw [e, h.fall]⟩
  have hle := h.le
  unfold F.law10_GuardWhole.l6 F.disk_Disk_Up F.disk_Disk_Size
  rw [if_pos (by simp; omega), if_pos (by simp; omega), Option.bind_some, if_pos (by dsimp only; rw [h.len]; decide), Option.bind_some]
  dsimp only
  rw [h.off, if_pos (by decide), thru_inl]
  unfold F.law10_GuardWhole.r5
  rw [at_nat ho, Option.bind_some]
  have hw1 : IntKind.i64.wrap ((k : Int) + 1) = ((k + 1 : Nat) : Int) := by rw [w64 (by omega) (by omega)]; omega
  by_cases h1 : o.Kind = 1
  · rw [if_pos (by simpa using h1)]
    unfold F.guard_Guard_Flush_1 F.guard_Guard_none
    rw [Option.bind_some]
    show ∃ (done' : Nat) (d' : disk_Disk) (n' : Int), Option.bind (Option.bind (F.disk_Disk_Flush (⟨d.sure_, d.wait_, false, d.armed_, d.left_, d.fall_, d.acts_, d.falls_⟩ : disk_Disk)) _) _ = _ ∧ _
    have hd : (⟨d.sure_, d.wait_, false, d.armed_, d.left_, d.fall_, d.acts_, d.falls_⟩ : disk_Disk) = d := by rw [← h.off]
    rw [hd, flush_eq hFd h.ok, h.off, if_neg (by decide), Option.bind_some, Option.bind_some]
    by_cases hdue : due d
    · rw [if_pos hdue, if_neg (by simp), hw1]
      exact ⟨done, dropD d.fall_ d, n, rfl, .inr (hfin _ rfl), by omega⟩
    · rw [if_neg hdue, if_pos (by simp), hw1]
      exact ⟨k + 1, flushD d, n, rfl, .inl (h.flush ho h1), by omega⟩
  rw [if_neg (by simpa using h1)]
  have hd : (⟨d.sure_, d.wait_, false, d.armed_, d.left_, d.fall_, d.acts_, d.falls_⟩ : disk_Disk) = d := by rw [← h.off]
  have hout : whyB d o.I ≠ 0 → whyB d o.I = 5 ∧ ∀ j, j < 10 → touch o j = false := by
    intro hw
    have hi : o.I < 0 ∨ 10 ≤ o.I := by
      rcases Int.lt_or_le o.I 0 with hh | hh
      · exact .inl hh
      · refine .inr ?_
        rcases Int.lt_or_le o.I 10 with hh2 | hh2
        · exact absurd (whyB_in h.off hh (by rw [h.len]; omega)) hw
        · exact hh2
    refine ⟨?_, fun j hj => ?_⟩
    · unfold whyB
      rw [h.off, if_neg (by decide), h.len, if_pos (by omega)]
    · cases hh : touch o j with
      | false => rfl
      | true => rw [touch_iff] at hh; omega
  have hnput : whyB d o.I ≠ 0 → isPut o = false := by
    intro hw
    cases hp : isPut o with
    | false => rfl
    | true =>
      unfold isPut at hp
      simp only [Bool.and_eq_true, bne_iff_ne, decide_eq_true_eq] at hp
      exact absurd (whyB_in h.off hp.2.2.2.1 (by rw [h.len]; omega)) hw
  by_cases h0 : o.Kind = 0
  · rw [if_pos (by simpa using h0)]
    unfold F.guard_Guard_Erase_1 F.guard_Guard_none
    rw [Option.bind_some, rep0 (by decide) (by decide), Option.bind_some, noL_fill]
    show ∃ (done' : Nat) (d' : disk_Disk) (n' : Int), Option.bind (Option.bind (F.disk_Disk_Write o.I (ofL noL) (⟨d.sure_, d.wait_, false, d.armed_, d.left_, d.fall_, d.acts_, d.falls_⟩ : disk_Disk)) _) _ = _ ∧ _
    rw [hd, write_eq hFd h.ok]
    by_cases hw : whyB d o.I = 0
    · rw [if_neg (c := whyB d o.I ≠ 0) (fun e => e hw), if_neg (c := (ofL noL).size ≠ 64) (fun e => e (by rw [ofL_size]; rfl))]
      obtain ⟨hq1, hq2, hq3⟩ := whyB_zero hw
      rw [h.len] at hq3
      by_cases hdue : due d
      · rw [if_pos hdue, Option.bind_some, Option.bind_some, hw1]
        exact ⟨done, dropD d.fall_ d, n, rfl, .inr (hfin _ rfl), by omega⟩
      · rw [if_neg hdue, Option.bind_some, Option.bind_some, hw1]
        obtain ⟨i, hi⟩ : ∃ i : Nat, o.I = (i : Int) := ⟨o.I.toNat, by omega⟩
        have ht : touch o i = true := touch_iff.2 ⟨hi, h1, .inl h0⟩
        rw [hi]
        refine ⟨done, writeD d (i : Int) (ofL noL), n, rfl, .inl (h.write ho (by omega) hi ht (lcont ho h0).symm rfl ?_), by omega⟩
        rw [h.num]
        conv => rhs; unfold cnt
        rw [ho]
        dsimp only
        have : isPut o = false := by unfold isPut; rw [h0]; rfl
        rw [this, if_neg (by decide)]
    · rw [if_pos (c := whyB d o.I ≠ 0) hw, Option.bind_some, Option.bind_some, hw1]
      exact ⟨done, d, n, rfl, .inl (h.skip ho (hout hw).2 (hnput hw)), by omega⟩
  · rw [if_neg (by simpa using h0)]
    have hcl := cnt_le l k
    have hg : GOk ⟨1, n⟩ := ⟨(by decide : (1 : Int) ≤ 1), (by decide : (1 : Int) ≤ 2147483647), (by have := h.num; show 0 ≤ n; omega), (by have := h.num; show n < 4294967295; omega)⟩
    have hst : stampG ⟨1, n⟩ = 4294967296 + ((cnt l k : Nat) + 1 : Int) := by
      rw [stamp_eq hg]
      show (1 : Int) * 4294967296 + (n + 1) = _
      rw [h.num]
      omega
    obtain ⟨s, hs⟩ : ∃ s, o.S = ofL s := ⟨_, ofL_surj o.S⟩
    show ∃ (done' : Nat) (d' : disk_Disk) (n' : Int), Option.bind (F.guard_Guard_Put o.I o.S ⟨1, n⟩ (⟨d.sure_, d.wait_, false, d.armed_, d.left_, d.fall_, d.acts_, d.falls_⟩ : disk_Disk)) _ = _ ∧ _
    by_cases hbig : s.length ≤ 1000000
    rotate_left
    · -- longer than anything
      have hlong : F.guard_Guard_Put o.I o.S ⟨1, n⟩ d = some (0, 3, ⟨1, n⟩, d) := by
        unfold F.guard_Guard_Put F.guard_Guard_none
        rw [Option.bind_some, hs, ofL_size, if_pos (by simp; omega)]
      rw [hd, hlong, Option.bind_some, hw1]
      refine ⟨done, d, n, rfl, .inl (h.skip ho (fun j hj => ?_) ?_), by omega⟩
      · cases hh : touch o j with
        | false => rfl
        | true => rw [touch_iff, hs, ofL_size] at hh; omega
      · cases hp : isPut o with
        | false => rfl
        | true =>
          unfold isPut at hp
          simp only [Bool.and_eq_true, bne_iff_ne, decide_eq_true_eq] at hp
          rw [hs, ofL_size] at hp
          omega
    rw [hd, hs, gput_eq hg hFd h.ok o.I s hbig]
    by_cases h47 : 47 < s.length
    · rw [if_pos h47, Option.bind_some, hw1]
      refine ⟨done, d, n, rfl, .inl (h.skip ho (fun j hj => ?_) ?_), by omega⟩
      · cases hh : touch o j with
        | false => rfl
        | true => rw [touch_iff, hs, ofL_size] at hh; omega
      · cases hp : isPut o with
        | false => rfl
        | true =>
          unfold isPut at hp
          simp only [Bool.and_eq_true, bne_iff_ne, decide_eq_true_eq] at hp
          rw [hs, ofL_size] at hp
          omega
    rw [if_neg h47]
    by_cases hw : whyB d o.I = 0
    · rw [if_neg (c := whyB d o.I ≠ 0) (fun e => e hw)]
      obtain ⟨hq1, hq2, hq3⟩ := whyB_zero hw
      rw [h.len] at hq3
      by_cases hdue : due d
      · rw [if_pos hdue, Option.bind_some, hw1]
        exact ⟨done, dropD d.fall_ d, n, rfl, .inr (hfin _ rfl), by omega⟩
      · rw [if_neg hdue, Option.bind_some, hw1, hst]
        obtain ⟨i, hi⟩ : ∃ i : Nat, o.I = (i : Int) := ⟨o.I.toNat, by omega⟩
        have ht : touch o i = true := touch_iff.2 ⟨hi, h1, .inr (by rw [hs, ofL_size]; omega)⟩
        have hp : isPut o = true := by
          unfold isPut
          simp only [Bool.and_eq_true, bne_iff_ne, decide_eq_true_eq]
          rw [hs, ofL_size]
          exact ⟨h0, h1, by omega, by omega, by omega⟩
        rw [hi]
        refine ⟨done, writeD d (i : Int) (ofL (secL (4294967296 + ((cnt l k : Nat) + 1 : Int)) s)), n + 1, rfl, .inl (h.write ho (by omega) hi ht ?_ (secL_len (by omega)) ?_), by omega⟩
        · unfold secC contC
          dsimp only
          rw [ho]
          dsimp only
          rw [if_neg h0, hs, ofL_toList]
        · rw [h.num]
          conv => rhs; unfold cnt
          rw [ho]
          dsimp only
          rw [hp, if_pos rfl]
          omega
    · rw [if_pos (c := whyB d o.I ≠ 0) hw, Option.bind_some, hw1]
      exact ⟨done, d, n, rfl, .inl (h.skip ho (hout hw).2 (hnput hw)), by omega⟩
/-! ### the whole script -/
theorem run_eq {l : List law10_Op} {f : disk_Fall} (hf : FOk f) {d : disk_Disk} (h : Inv l f 0 0 d 0) :
    ∃ (done : Nat) (d' : disk_Disk) (n : Int), iter (fun x => F.law10_GuardWhole.l6 l x.1 x.2.1 x.2.2.1 x.2.2.2.1 x.2.2.2.2.1 x.2.2.2.2.2.1 x.2.2.2.2.2.2.1 x.2.2.2.2.2.2.2.1 x.2.2.2.2.2.2.2.2.1 x.2.2.2.2.2.2.2.2.2.1 x.2.2.2.2.2.2.2.2.2.2.1 x.2.2.2.2.2.2.2.2.2.2.2.1 x.2.2.2.2.2.2.2.2.2.2.2.2) FUEL (((0 : Nat) : Int), ((0 : Nat) : Int), tup' d 0) = some ((done : Int), tup' d' n) ∧ done ≤ min l.length 40 ∧ ((∃ k, k ≤ min l.length 40 ∧ Inv l f k done d' n) ∨ Fin0 l f done d') := by
  obtain ⟨r, e, done, d', n, hr, hd, hx⟩ := iter_up (f := fun x => F.law10_GuardWhole.l6 l x.1 x.2.1 x.2.2.1 x.2.2.2.1 x.2.2.2.2.1 x.2.2.2.2.2.1 x.2.2.2.2.2.2.1 x.2.2.2.2.2.2.2.1 x.2.2.2.2.2.2.2.2.1 x.2.2.2.2.2.2.2.2.2.1 x.2.2.2.2.2.2.2.2.2.2.1 x.2.2.2.2.2.2.2.2.2.2.2.1 x.2.2.2.2.2.2.2.2.2.2.2.2) (min l.length 40)
    (fun k s => ∃ (done : Nat) (d : disk_Disk) (n : Int), s = ((done : Int), (k : Int), tup' d n) ∧ done ≤ k ∧ k ≤ min l.length 40 ∧ (Inv l f k done d n ∨ Fin0 l f done d))
    (fun r => ∃ (done : Nat) (d : disk_Disk) (n : Int), r = ((done : Int), tup' d n) ∧ done ≤ min l.length 40 ∧ ((∃ k, k ≤ min l.length 40 ∧ Inv l f k done d n) ∨ Fin0 l f done d))
    (fun k s hk hI => by
      obtain ⟨done, d, n, rfl, hle, _, hI⟩ := hI
      rcases hI with hI | hI
      · obtain ⟨o, ho⟩ := getq (l := l) (i := k) (by omega)
        obtain ⟨done', d', n', e, hn, hl⟩ := step_eq hf hI ho (by omega)
        exact .inl ⟨_, e, done', d', n', rfl, hl, by omega, hn⟩
      · refine .inr ⟨_, ?_, done, d, n, rfl, by omega, .inr hI⟩
        obtain ⟨k0, d0, n0, hI0, _, _, rfl⟩ := hI
        show F.law10_GuardWhole.l6 l (done : Int) (k : Int) (dropD f d0).sure_ (dropD f d0).wait_ (dropD f d0).off_ (dropD f d0).armed_ (dropD f d0).left_ (dropD f d0).fall_.Keep (dropD f d0).fall_.Tear (dropD f d0).acts_ (dropD f d0).falls_ 1 n = _
        have hpos := (drop_ok (f := f) hI0.ok).pos
        unfold F.law10_GuardWhole.l6 F.disk_Disk_Up F.disk_Disk_Size
        rw [if_pos (by simp; omega), if_pos (by simp; omega), Option.bind_some, if_pos (by dsimp only; simp; omega), Option.bind_some]
        dsimp only
        have : (dropD f d0).off_ = true := rfl
        rw [this, if_neg (by decide), thru_inr]
        rfl)
    (fun s hI => by
      obtain ⟨done, d, n, rfl, hle, _, hI⟩ := hI
      refine ⟨_, ?_, done, d, n, rfl, by omega, ?_⟩
      · show F.law10_GuardWhole.l6 l (done : Int) ((min l.length 40 : Nat) : Int) d.sure_ d.wait_ d.off_ d.armed_ d.left_ d.fall_.Keep d.fall_.Tear d.acts_ d.falls_ 1 n = _
        unfold F.law10_GuardWhole.l6
        by_cases h1 : l.length ≤ 40
        · rw [if_neg (by simp; omega), thru_inr]; rfl
        · rw [if_pos (by simp; omega), if_neg (by simp; omega), thru_inr]; rfl
      · rcases hI with hI | hI
        · exact .inl ⟨_, Nat.le_refl _, hI⟩
        · exact .inr hI)
    (s0 := (((0 : Nat) : Int), ((0 : Nat) : Int), tup' d 0)) ⟨0, d, 0, rfl, Nat.le_refl _, Nat.zero_le _, .inl h⟩ (k := FUEL) (by rw [FUEL_eq]; omega)
  subst hr
  exact ⟨done, d', n, e, hd, hx⟩
/-! ### what a sector is behind the loss of power -/
/-- a sector of a disk that lost its power -/
theorem sector_eq {l : List law10_Op} {f : disk_Fall} {k done : Nat} {d : disk_Disk} {n : Int} (h : Inv l f k done d n) (hk : k ≤ 40) {j : Nat} (hj : j < 10) :
    ∃ R : List UInt8, ((dropD f d).sure_[j]?).map (·.s_) = some (ofL R) ∧ R.length = 64 ∧ (R = secC l (lastT l j done) ∨ R = secC l (lastT l j k) ∨ (readL R = ([], 0, 17) ∧ lastT l j done < lastT l j k)) := by
  have hle := h.le
  have hs := h.sure j hj
  obtain ⟨g1, g2⟩ := drop_get (f := f) h.ok j
  cases ho : d.sure_[j]? with
  | none => rw [ho] at hs; cases hs
  | some old =>
    rw [ho] at hs
    have hs : old.s_ = ofL (secC l (lastT l j done)) := Option.some.inj hs
    have hl1 : (secC l (lastT l j done)).length = 64 := sec_len l hj (by omega)
    have hl2 : (secC l (lastT l j k)).length = 64 := sec_len l hj hk
    cases hm : mget d.wait_ (j : Int) with
    | none =>
      refine ⟨secC l (lastT l j done), ?_, hl1, .inl rfl⟩
      rw [g1 hm, ho, Option.map_some, hs]
    | some x =>
      obtain ⟨z, _, e⟩ := g2 x hm
      rw [e, ho, Option.map_some, Option.map_some]
      have hx : x.s_ = ofL (secC l (lastT l j k)) := by
        have hc := h.cur j hj
        unfold curB at hc
        rw [hm] at hc
        exact hc
      unfold fallV
      cases ht : tearB f z with
      | false =>
        cases hkb : keepB f z with
        | true =>
          rw [if_neg (by decide), if_pos rfl, hx]
          exact ⟨_, rfl, hl2, .inr (.inl rfl)⟩
        | false =>
          rw [if_neg (by decide), if_neg (by decide), hs]
          exact ⟨_, rfl, hl1, .inl rfl⟩
      | true =>
        rw [if_pos rfl]
        dsimp only
        have hT : tearN f ≤ 64 := by
          unfold tearN
          have := Int.tmod_lt_of_pos f.Tear (show (0 : Int) < 64 by decide)
          omega
        cases hkb : keepB f z with
        | true =>
          rw [if_pos rfl, hx, ofL_extract, ofL_extract, ofL_append]
          have e2 : ((secC l (lastT l j k)).take (tearN f)).drop 0 ++ ((secC l (lastT l j k)).take 64).drop (tearN f) = secC l (lastT l j k) := by
            rw [List.drop_zero, List.take_of_length_le (l := secC l (lastT l j k)) (i := 64) (by omega), List.take_append_drop]
          rw [e2]
          exact ⟨_, rfl, hl2, .inr (.inl rfl)⟩
        | false =>
          rw [if_neg (by decide), hx, hs, ofL_extract, ofL_extract, ofL_append]
          have e2 : ((secC l (lastT l j k)).take (tearN f)).drop 0 ++ ((secC l (lastT l j done)).take 64).drop (tearN f) = mixL (tearN f) (secC l (lastT l j k)) (secC l (lastT l j done)) := by
            rw [List.drop_zero, List.take_of_length_le (l := secC l (lastT l j done)) (i := 64) (by omega)]
            rfl
          rw [e2]
          refine ⟨_, rfl, mix_len hl2 hl1 hT, ?_⟩
          have b1 := cont_bd l hj (k := done) (by omega)
          have b2 := cont_bd l hj (k := k) hk
          by_cases hst : (contC l (lastT l j done)).1 = (contC l (lastT l j k)).1
          · have hc := cont_apart l hj hle hk hst
            have hsame : secC l (lastT l j done) = secC l (lastT l j k) := by unfold secC; rw [hc]
            rw [hsame]
            refine .inl ?_
            unfold mixL
            rw [List.take_append_drop]
          · rcases mix_read (n := tearN f) b2.2.2 b1.2.2 b2.1 b2.2.1 b1.1 b1.2.1 (fun e => hst e.symm) hT with hh | hh | hh
            · exact .inl hh
            · exact .inr (.inl hh)
            · refine .inr (.inr ⟨hh, ?_⟩)
              have := lastT_mono l j hle
              rcases Nat.lt_or_ge (lastT l j done) (lastT l j k) with hlt | hge
              · exact hlt
              · exact absurd (by rw [Nat.le_antisymm this hge]) hst
/-! ### the law's look at a sector -/
def witS (l : List law10_Op) (i s : Nat) (rd : List UInt8 × Int × Int) (q : Nat) : Prop := ∃ o, l[q]? = some o ∧ o.I = (i : Int) ∧ o.Kind ≠ 1 ∧ s ≤ q + 1 ∧ ((o.Kind = 0 ∧ rd.2.2 = 7) ∨ (o.Kind ≠ 0 ∧ rd.2.2 = 0 ∧ ofL rd.1 = o.S))
def latS (l : List law10_Op) (i s : Nat) (q : Nat) : Prop := ∃ o, l[q]? = some o ∧ o.I = (i : Int) ∧ o.Kind ≠ 1 ∧ s < q + 1
theorem stand_step {l : List law10_Op} {i s k : Nat} {rd : List UInt8 × Int × Int} {o : law10_Op} (ho : l[k]? = some o) (hk : k < 40) (hs : s ≤ 40) (lat ok : Bool) :
    ∃ lat' ok' : Bool, F.law10_stands.l6 l (i : Int) (s : Int) (ofL rd.1, rd.2.1, rd.2.2) lat ok (k : Int) = some (.inl (lat', ok', ((k + 1 : Nat) : Int))) ∧ (ok = true → ok' = true) ∧ (lat = true → lat' = true) ∧ (witS l i s rd k → ok' = true) ∧ (latS l i s k → lat' = true) := by
  have hlt := lt_of_get ho
  have hw1 : IntKind.i64.wrap ((k : Int) + 1) = ((k + 1 : Nat) : Int) := by rw [w64 (by omega) (by omega)]; omega
  unfold F.law10_stands.l6
  rw [if_pos (by simp; omega), if_pos (by simp; omega), thru_inl]
  unfold F.law10_stands.r2 F.law10_stands.r5
  rw [at_nat ho, Option.bind_some, hw1]
  have none_ : (¬ (o.I = (i : Int) ∧ o.Kind ≠ 1 ∧ s ≤ k + 1)) → (¬ witS l i s rd k) ∧ ¬ latS l i s k := by
    intro hn
    refine ⟨fun ⟨o', h1, h2, h3, h4, _⟩ => ?_, fun ⟨o', h1, h2, h3, h4⟩ => ?_⟩
    · rw [ho] at h1; cases h1; exact hn ⟨h2, h3, h4⟩
    · rw [ho] at h1; cases h1; exact hn ⟨h2, h3, by omega⟩
  by_cases h1 : o.I = (i : Int)
  rotate_left
  · rw [if_pos (by simpa using h1), thru_inr, Option.bind_some]
    have hn := none_ (fun e => h1 e.1)
    exact ⟨lat, ok, rfl, fun e => e, fun e => e, fun e => absurd e hn.1, fun e => absurd e hn.2⟩
  rw [if_neg (by simpa using h1)]
  by_cases h2 : o.Kind = 1
  · rw [if_pos (by simpa using h2), thru_inr, Option.bind_some]
    have hn := none_ (fun e => e.2.1 h2)
    exact ⟨lat, ok, rfl, fun e => e, fun e => e, fun e => absurd e hn.1, fun e => absurd e hn.2⟩
  rw [if_neg (by simpa using h2)]
  by_cases h3 : s ≤ k + 1
  rotate_left
  · rw [if_pos (by simp; omega), thru_inr, Option.bind_some]
    have hn := none_ (fun e => h3 e.2.2)
    exact ⟨lat, ok, rfl, fun e => e, fun e => e, fun e => absurd e hn.1, fun e => absurd e hn.2⟩
  rw [if_neg (by simp; omega), thru_inl]
  unfold F.law10_stands.r3
  rw [hw1]
  obtain ⟨lat', hl', hl1, hl2⟩ : ∃ lat' : Bool, (if decide (((k + 1 : Nat) : Int) > (s : Int)) = true then some true else some lat) = some lat' ∧ (lat = true → lat' = true) ∧ (s < k + 1 → lat' = true) := by
    by_cases h4 : s < k + 1
    · exact ⟨true, by rw [if_pos (by simp; omega)], fun _ => rfl, fun _ => rfl⟩
    · exact ⟨lat, by rw [if_neg (by simp; omega)], fun e => e, fun e => absurd e h4⟩
  rw [hl', Option.bind_some]
  unfold F.law10_stands.r4
  have hlat : latS l i s k → lat' = true := fun ⟨o', _, _, _, e⟩ => hl2 e
  by_cases h0 : o.Kind = 0
  · rw [if_pos (by simpa using h0)]
    cases ok with
    | true =>
      rw [if_pos rfl, Option.bind_some]
      exact ⟨lat', true, rfl, fun _ => rfl, hl1, fun _ => rfl, hlat⟩
    | false =>
      rw [if_neg (by decide), Option.bind_some]
      refine ⟨lat', (rd.2.2 == 7), rfl, (fun e => Bool.noConfusion e), hl1, fun ⟨o', e1, _, _, _, e2⟩ => ?_, hlat⟩
      rw [ho] at e1
      cases e1
      rcases e2 with e2 | e2
      · simpa using e2.2
      · exact absurd h0 e2.1
  · rw [if_neg (by simpa using h0)]
    by_cases hc : rd.2.2 = 0 ∧ ofL rd.1 = o.S
    · rw [if_pos (by simpa using hc.1), if_pos (seqB_iff.2 hc.2), Option.bind_some]
      exact ⟨lat', true, rfl, fun _ => rfl, hl1, fun _ => rfl, hlat⟩
    · have hno : witS l i s rd k → ok = true := by
        rintro ⟨o', e1, _, _, _, e2⟩
        rw [ho] at e1
        cases e1
        rcases e2 with e2 | e2
        · exact absurd e2.1 h0
        · exact absurd e2.2 hc
      by_cases he : rd.2.2 = 0
      · rw [if_pos (by simpa using he), if_neg (fun e => hc ⟨he, seqB_iff.1 e⟩), Option.bind_some]
        exact ⟨lat', ok, rfl, fun e => e, hl1, hno, hlat⟩
      · rw [if_neg (by simpa using he), Option.bind_some]
        exact ⟨lat', ok, rfl, fun e => e, hl1, hno, hlat⟩
theorem stand_eq {l : List law10_Op} {i s : Nat} (hs : s ≤ 40) {D : disk_Disk} (hD : 1 ≤ D.sure_.length) (hw : whyB D (i : Int) = 0) {R : List UInt8} (hc : curB D (i : Int) = ofL R) (hR : R.length = 64)
    (hgood : (s = 0 ∧ (readL R).2.2 = 7) ∨ (∃ q, q < min l.length 40 ∧ witS l i s (readL R) q) ∨ ((readL R).2.2 = 17 ∧ ∃ q, q < min l.length 40 ∧ latS l i s q)) : F.law10_stands l (i : Int) (s : Int) D = some true := by
  unfold F.law10_stands
  rw [gread_eq hD hw hc hR, Option.bind_some]
  have hok0 : (if ((s : Int) == 0) = true then some ((readL R).2.2 == 7) else some false) = some (decide (s = 0) && ((readL R).2.2 == 7)) := by
    by_cases h0 : s = 0
    · rw [if_pos (by simpa using h0)]; simp [h0]
    · rw [if_neg (by simpa using h0)]; simp [h0]
  rw [hok0, Option.bind_some]
  unfold F.law10_stands.r1
  obtain ⟨r, e, lat, ok, hr, h1, h2, h3⟩ := iter_up (f := fun x => F.law10_stands.l6 l (i : Int) (s : Int) (ofL (readL R).1, (readL R).2.1, (readL R).2.2) x.1 x.2.1 x.2.2) (min l.length 40)
    (fun k t => ∃ lat ok : Bool, t = (lat, ok, (k : Int)) ∧ ((decide (s = 0) && ((readL R).2.2 == 7)) = true → ok = true) ∧ (∀ q, q < k → witS l i s (readL R) q → ok = true) ∧ (∀ q, q < k → latS l i s q → lat = true))
    (fun r => ∃ lat ok : Bool, r = (lat, ok) ∧ ((decide (s = 0) && ((readL R).2.2 == 7)) = true → ok = true) ∧ (∀ q, q < min l.length 40 → witS l i s (readL R) q → ok = true) ∧ (∀ q, q < min l.length 40 → latS l i s q → lat = true))
    (fun k t hk hI => by
      obtain ⟨lat, ok, rfl, i1, i2, i3⟩ := hI
      obtain ⟨o, ho⟩ := getq (l := l) (i := k) (by omega)
      obtain ⟨lat', ok', e, m1, m2, m3, m4⟩ := stand_step (i := i) (s := s) (rd := readL R) ho (by omega) hs lat ok
      refine .inl ⟨_, e, lat', ok', rfl, fun h => m1 (i1 h), fun q hq hh => ?_, fun q hq hh => ?_⟩
      · by_cases hqk : q = k
        · subst hqk; exact m3 hh
        · exact m1 (i2 q (by omega) hh)
      · by_cases hqk : q = k
        · subst hqk; exact m4 hh
        · exact m2 (i3 q (by omega) hh))
    (fun t hI => by
      obtain ⟨lat, ok, rfl, i1, i2, i3⟩ := hI
      refine ⟨_, ?_, lat, ok, rfl, i1, i2, i3⟩
      dsimp only
      unfold F.law10_stands.l6
      by_cases h1 : l.length ≤ 40
      · rw [if_neg (by simp; omega), thru_inr]
      · rw [if_pos (by simp; omega), if_neg (by simp; omega), thru_inr])
    (s0 := (false, (decide (s = 0) && ((readL R).2.2 == 7)), ((0 : Nat) : Int))) ⟨false, _, rfl, fun h => h, fun q hq => absurd hq (by omega), fun q hq => absurd hq (by omega)⟩ (k := FUEL) (by rw [FUEL_eq]; omega)
  subst hr
  refine (congrArg (fun o => Option.bind o _) e).trans ?_
  rw [Option.bind_some]
  unfold F.law10_stands.r7
  dsimp only
  rcases hgood with ⟨g1, g2⟩ | ⟨q, hq, g⟩ | ⟨g1, q, hq, g⟩
  · rw [h1 (by simp [g1, g2]), if_pos rfl]
  · rw [h2 q hq g, if_pos rfl]
  · cases ok with
    | true => rw [if_pos rfl]
    | false => rw [if_neg (by decide), if_pos (by simpa using g1), h3 q hq g]
/-- what is told of what was written last -/
theorem wit_of {l : List law10_Op} {j : Nat} (hj : j < 10) {k : Nat} (hk : k ≤ min l.length 40) {s : Nat} (hs : s ≤ lastT l j k) {R : List UInt8} (hR : R = secC l (lastT l j k)) : (lastT l j k = 0 ∧ (readL R).2.2 = 7) ∨ ∃ q, q < min l.length 40 ∧ witS l j s (readL R) q := by
  rcases lastT_spec l j k with h | ⟨q, hq, h, o, ho, ht⟩
  · refine .inl ⟨h, ?_⟩
    rw [hR, h]
    have : secC l 0 = noL := no_sec
    rw [this, no_read]
  · have ht2 := touch_iff.1 ht
    refine .inr ⟨q, by omega, o, ho, ht2.1, ht2.2.1, by omega, ?_⟩
    by_cases h0 : o.Kind = 0
    · refine .inl ⟨h0, ?_⟩
      rw [hR, h, lcont ho h0, no_read]
    · have h47 : o.S.data.toList.length ≤ 47 := by
        have := ht2.2.2
        rw [size_ofL']
        omega
      have hc := cnt_le l q
      have e : R = secL (4294967296 + ((cnt l q : Nat) + 1 : Int)) o.S.data.toList := by
        rw [hR, h]
        unfold secC contC
        dsimp only
        rw [ho]
        dsimp only
        rw [if_neg h0]
      rw [e, sec_read (by omega) (by omega) h47]
      exact .inr ⟨h0, rfl, (ofL_surj _).symm⟩
/-! ### which writing was flushed -/
theorem sure_loop {l : List law10_Op} {i done : Nat} (hi : i < 10) (hd : done ≤ min l.length 40) {L : List Int} (hL : L.length = 10) (h0 : L[i]? = some 0) :
    iter (fun x => F.law10_GuardWhole.l9 l (done : Int) (i : Int) x.1 x.2) FUEL (((0 : Nat) : Int), L) = some (L.set i (lastT l i done : Int)) := by
  have hset0 : L.set i (lastT l i 0 : Int) = L := by
    apply List.ext_getElem?
    intro j
    rw [List.getElem?_set]
    split
    · rename_i e
      subst e
      rw [if_pos (by omega), h0]
      rfl
    · rfl
  have key := iter_count (f := fun (x : Int × List Int) => F.law10_GuardWhole.l9 l (done : Int) (i : Int) x.1 x.2) (fun k => ((k : Int), L.set i (lastT l i k : Int))) (n := done) (r := L.set i (lastT l i done : Int)) (fun k hk => by
    dsimp only
    obtain ⟨o, ho⟩ := getq (l := l) (i := k) (by omega)
    have hw1 : IntKind.i64.wrap ((k : Int) + 1) = ((k + 1 : Nat) : Int) := by rw [w64 (by omega) (by omega)]; omega
    unfold F.law10_GuardWhole.l9
    rw [if_pos (by simp; omega), at_nat ho, Option.bind_some, Option.bind_some, Option.bind_some, Option.bind_some]
    have ht : (if (o.I == (i : Int)) = true then (if (o.Kind != 1) = true then (if (o.Kind == 0) = true then some true else some (decide ((o.S.size : Int) ≤ 47))) else some false) else some false) = some (touch o i) := by
      unfold touch
      cases (o.I == (i : Int)) <;> cases (o.Kind != 1) <;> cases (o.Kind == 0) <;> simp
    rw [ht, Option.bind_some]
    unfold F.law10_GuardWhole.r8
    have hl : lastT l i (k + 1) = if touch o i then k + 1 else lastT l i k := by
      conv => lhs; unfold lastT
      rw [ho]
    rw [hw1]
    cases hto : touch o i with
    | false =>
      rw [if_neg (by decide), hl, hto, if_neg (by decide)]
    | true =>
      rw [if_pos rfl, at_nat (y := (lastT l i k : Int)) (by rw [List.getElem?_set_self (by omega)]), Option.bind_some, Int.toNat_natCast, List.set_set, hl, hto, if_pos rfl])
    (by
      dsimp only
      unfold F.law10_GuardWhole.l9
      rw [if_neg (by simp)]) (k := FUEL) (by rw [FUEL_eq]; omega)
  rw [show ((((0 : Nat) : Int), L) : Int × List Int) = (((0 : Nat) : Int), L.set i (lastT l i 0 : Int)) by rw [hset0]]
  exact key
theorem pure_GuardWhole (x0 : List law10_Op) (x1 : Int) (x2 : disk_Fall) {w0 z0 w1 z1 z2 : Prop} (_ : w0) (_ : z0) (_ : w1) (_ : z1) (w2 : ((Lit.int .u64 x2.Keep).wf = true) ∧ ((Lit.int .i64 x2.Tear).wf = true)) (_ : z2) : F.law10_GuardWhole x0 x1 x2 = some true := by
  have hF : FOk x2 := ⟨(wf_i64 w2.2).1, (wf_i64 w2.2).2⟩
  unfold F.law10_GuardWhole
  rw [made_eq (by decide) (by decide), Option.bind_some]
  dsimp only [optC]
  by_cases hx : x1 < 0 ∨ 100 < x1
  · have : (if decide (x1 < 0) = true then some true else some (decide (x1 > 100))) = some true := by
      by_cases h1 : x1 < 0
      · rw [if_pos (by simpa using h1)]
      · rw [if_neg (by simpa using h1)]; congr 1; simp; omega
    rw [this, Option.bind_some]
    unfold F.law10_GuardWhole.r3
    rw [if_pos rfl, awake]
    rfl
  have : (if decide (x1 < 0) = true then some true else some (decide (x1 > 100))) = some false := by
    rw [if_neg (by simp; omega)]; congr 1; simp; omega
  rw [this, Option.bind_some]
  unfold F.law10_GuardWhole.r3
  rw [if_neg (by decide), thru_inl]
  unfold F.law10_GuardWhole.r4
  have hok := new_ok (n := 10) (by decide) (by decide)
  have hlen : (newD 10).sure_.length = 10 := by unfold newD; rw [List.length_replicate]
  have harm : F.disk_Disk_Arm x1 x2 (newD 10) = some (0, (⟨(newD 10).sure_, (newD 10).wait_, (newD 10).off_, true, x1, x2, (newD 10).acts_, (newD 10).falls_⟩ : disk_Disk)) := by
    unfold F.disk_Disk_Arm
    rw [why_eq hok.pos, Option.bind_some, whyB_in rfl (Int.le_refl _) (by rw [hlen]; decide), if_neg (by decide), if_neg (by simp; omega)]
  rw [harm, Option.bind_some]
  generalize hA : (⟨(newD 10).sure_, (newD 10).wait_, (newD 10).off_, true, x1, x2, (newD 10).acts_, (newD 10).falls_⟩ : disk_Disk) = A
  have hAok : DOk A := by rw [← hA]; exact ⟨hok.sec, hok.keys, hok.inr, hok.pos, hok.len⟩
  have hb : blankB = ofL noL := by
    rw [blank_fill]
    unfold fillB
    rw [bstr_ofL, List.map_replicate]
    rfl
  have hsA : ∀ j : Nat, j < 10 → A.sure_[j]? = some ⟨blankB, 0⟩ := fun j hj => by
    rw [← hA]
    show (newD 10).sure_[j]? = _
    unfold newD
    rw [List.getElem?_replicate, if_pos hj]
  have hI0 : Inv x0 x2 0 0 A 0 := {
    ok := hAok
    off := by rw [← hA]; rfl
    len := by rw [← hA]; exact hlen
    fall := by rw [← hA]
    num := rfl
    le := Nat.le_refl _
    cur := fun j hj => by
      have hwt : A.wait_ = [] := by rw [← hA]; rfl
      unfold curB
      rw [hwt]
      show ((A.sure_[(j : Int).toNat]?).getD zS).s_ = _
      rw [Int.toNat_natCast, hsA j hj, Option.getD_some]
      have : secC x0 (lastT x0 j 0) = noL := no_sec
      rw [this]
      exact hb
    sure := fun j hj => by
      rw [hsA j hj, Option.map_some]
      have : secC x0 (lastT x0 j 0) = noL := no_sec
      rw [this]
      exact congrArg some hb }
  obtain ⟨done, d', n, e, hdone, hend⟩ := run_eq hF hI0
  refine (congrArg (fun o => Option.bind o _) e).trans ?_
  rw [Option.bind_some]
  unfold F.law10_GuardWhole.r7
  show Option.bind (F.disk_Disk_Crash x2 d') _ = _
  -- the power is off now
  obtain ⟨k, d0, n0, c0, hI, hk, hcr⟩ : ∃ k d0 n0, ∃ c0 : Int, Inv x0 x2 k done d0 n0 ∧ k ≤ min x0.length 40 ∧ F.disk_Disk_Crash x2 d' = some (c0, dropD x2 d0) := by
    rcases hend with ⟨k, hk, hI⟩ | ⟨k, d0, n0, hI, hk1, hk2, rfl⟩
    · refine ⟨k, d', n, 0, hI, hk, ?_⟩
      rw [crash_eq hF hI.ok, hI.off, if_neg (by decide)]
    · refine ⟨k, d0, n0, 8, hI, by omega, ?_⟩
      rw [crash_eq hF (drop_ok hI.ok), if_pos (show (dropD x2 d0).off_ = true from rfl)]
  rw [hcr, Option.bind_some]
  unfold F.disk_Disk_Calm
  rw [Option.bind_some]
  have hpos := (drop_ok (f := x2) hI.ok).pos
  rw [start_eq (d := ⟨(dropD x2 d0).sure_, (dropD x2 d0).wait_, (dropD x2 d0).off_, false, (dropD x2 d0).left_, (dropD x2 d0).fall_, (dropD x2 d0).acts_, (dropD x2 d0).falls_⟩) hpos, if_pos (show (dropD x2 d0).off_ = true from rfl), Option.bind_some]
  dsimp only
  rw [if_neg (by decide)]
  generalize hD : startD (⟨(dropD x2 d0).sure_, (dropD x2 d0).wait_, (dropD x2 d0).off_, false, (dropD x2 d0).left_, (dropD x2 d0).fall_, (dropD x2 d0).acts_, (dropD x2 d0).falls_⟩ : disk_Disk) = D
  have hDs : D.sure_ = (dropD x2 d0).sure_ := by rw [← hD]; rfl
  have hDl : D.sure_.length = 10 := by rw [hDs]; show (fallG _ _ _ _ _).length = 10; rw [fallG_len, hI.len]
  have hDo : D.off_ = false := by rw [← hD]; rfl
  have hDw : D.wait_ = [] := by rw [← hD]; rfl
  have hDp : 1 ≤ D.sure_.length := by omega
  have hstand : ∀ i : Nat, i < 10 → F.law10_stands x0 (i : Int) (lastT x0 i done : Int) D = some true := by
    intro i hi
    obtain ⟨R, hR, hRl, hcase⟩ := sector_eq hI (by omega) hi
    have hcD : curB D (i : Int) = ofL R := by
      unfold curB
      rw [hDw]
      show ((D.sure_[(i : Int).toNat]?).getD zS).s_ = _
      rw [Int.toNat_natCast, hDs]
      cases hx : (dropD x2 d0).sure_[i]? with
      | none => rw [hx] at hR; cases hR
      | some x =>
        rw [hx] at hR
        rw [Option.getD_some]
        exact Option.some.inj hR
    have hle2 := lastT_le x0 i done
    refine stand_eq (by omega) hDp (whyB_in hDo (by omega) (by rw [hDl]; omega)) hcD hRl ?_
    have hmono := lastT_mono x0 i hI.le
    rcases hcase with h | h | ⟨h, hlt⟩
    · rcases wit_of hi hdone (Nat.le_refl _) h with hh | hh
      · exact .inl hh
      · exact .inr (.inl hh)
    · rcases wit_of hi hk hmono h with hh | hh
      · exact .inl ⟨by omega, hh.2⟩
      · exact .inr (.inl hh)
    · refine .inr (.inr ⟨by rw [h], ?_⟩)
      rcases lastT_spec x0 i k with h0 | ⟨q, hq, h0, o, ho, ht⟩
      · omega
      · have ht2 := touch_iff.1 ht
        exact ⟨q, by omega, o, ho, ht2.1, ht2.2.1, by omega⟩
  obtain ⟨r, e2, L, hr⟩ := iter_up (f := fun x => F.law10_GuardWhole.l12 x0 (done : Int) ((0 : Int), D) x.1 x.2) 10
    (fun i s => ∃ L : List Int, s = ((i : Int), L) ∧ L.length = 10 ∧ ∀ j, i ≤ j → j < 10 → L[j]? = some 0)
    (fun r => ∃ L : List Int, r = .inl L)
    (fun i s hi hs => by
      obtain ⟨L, rfl, hL, hz⟩ := hs
      refine .inl ⟨(((i + 1 : Nat) : Int), L.set i (lastT x0 i done : Int)), ?_, L.set i (lastT x0 i done : Int), rfl, by rw [List.length_set, hL], fun j h1 h2 => ?_⟩
      · dsimp only
        unfold F.law10_GuardWhole.l12
        rw [if_pos (by simp; omega)]
        have hloop := sure_loop hi hdone hL (hz i (Nat.le_refl _) hi)
        refine (congrArg (fun o => thru (Option.bind o _) _) hloop).trans ?_
        rw [Option.bind_some]
        unfold F.law10_GuardWhole.r10
        rw [at_nat (y := (lastT x0 i done : Int)) (by rw [List.getElem?_set_self (by omega)]), Option.bind_some, hstand i hi, Option.bind_some, if_neg (by decide), thru_inl]
        unfold F.law10_GuardWhole.r11
        rw [wadd (by omega)]
      · rw [List.getElem?_set_ne (by omega)]
        exact hz j (by omega) h2)
    (fun s hs => by
      obtain ⟨L, rfl, _⟩ := hs
      refine ⟨_, ?_, L, rfl⟩
      dsimp only
      unfold F.law10_GuardWhole.l12
      rw [if_neg (by decide)])
    (s0 := (((0 : Nat) : Int), ([0, 0, 0, 0, 0, 0, 0, 0, 0, 0] : List Int))) ⟨_, rfl, rfl, fun j _ h2 => by
      match j, h2 with
      | 0, _ | 1, _ | 2, _ | 3, _ | 4, _ | 5, _ | 6, _ | 7, _ | 8, _ | 9, _ => rfl⟩ (k := FUEL) (by rw [FUEL_eq]; omega)
  subst hr
  refine (congrArg (fun o => thru o _) e2).trans ?_
  rw [thru_inl]
  unfold F.law10_GuardWhole.r13
  rw [awake]
  rfl
end Go.Proofs.YthebdiboijhjmaaDoor
