/- What was flushed lasts, whatever becomes of what was not, but that one sector that waits may be torn: the plain law. -/
import Derived.Test.YtbjilfhjclkebaaPDiskB
import Derived.Test.YtbjilfhjclkebaaPAwake09
namespace Go.Proofs.Ytbjilfhjclkebaa
set_option linter.all false
open Go Go.RowKit Go.Fw
set_option maxRecDepth 100000
attribute [local irreducible] FUEL
abbrev Tup := Int × List disk_sector × List (Int × disk_sector) × Bool × Bool × Int × Int × Int × Int × Int
abbrev Tup' := List disk_sector × List (Int × disk_sector) × Bool × Bool × Int × Int × Int × Int × Int
def tup' (d : disk_Disk) : Tup' := (d.sure_, d.wait_, d.off_, d.armed_, d.left_, d.fall_.Keep, d.fall_.Tear, d.acts_, d.falls_)
def tup (i : Nat) (d : disk_Disk) : Tup := ((i : Int), tup' d)
def wr (x : List Int) (j : Nat) : Option ByteArray := if j < 20 then (x[j]?).map fun c => fillB c 64 else none
structure WOk (x : List Int) (i : Nat) (d0 d : disk_Disk) : Prop where
  ok : DOk d
  off : d.off_ = false
  armed : d.armed_ = false
  fall : d.fall_ = d0.fall_
  sure : d.sure_ = d0.sure_
  wait : ∀ j : Nat, (mget d.wait_ (j : Int)).map (·.s_) = if j < i then wr x j else none
theorem WOk.next {x : List Int} {i : Nat} {d0 d : disk_Disk} (h : WOk x i d0 d) (hl : d0.sure_.length = 20) {c : Int} (hc : x[i]? = some c) (hi : i < 20) : WOk x (i + 1) d0 (writeD d (i : Int) (fillB c 64)) where
  ok := write_ok h.ok (by omega) (by rw [h.sure, hl]; omega) (fillB_size _ _)
  off := h.off
  armed := h.armed
  fall := h.fall
  sure := h.sure
  wait j := by
    show (mget (mset d.wait_ (i : Int) _) (j : Int)).map (·.s_) = _
    rw [mget_mset]
    by_cases e : (j : Int) = (i : Int)
    · have : j = i := by omega
      subst this
      rw [if_pos rfl, if_pos (by omega)]
      unfold wr
      rw [if_pos hi, hc]
      rfl
    · rw [if_neg e, h.wait j]
      by_cases h1 : j < i
      · rw [if_pos h1, if_pos (by omega)]
      · rw [if_neg h1, if_neg (by omega)]
theorem wloop {ρ : Type} {step : Tup → Option (Tup ⊕ (Tup' ⊕ ρ))} (x : List Int) (d0 : disk_Disk) (h0 : WOk x 0 d0 d0) (hl : d0.sure_.length = 20)
    (hs : ∀ (i : Nat) (d : disk_Disk) (c : Int), x[i]? = some c → i < 20 → WOk x i d0 d → step (tup i d) = some (.inl (tup (i + 1) (writeD d (i : Int) (fillB c 64)))))
    (he : ∀ (i : Nat) (d : disk_Disk), ¬ (i < x.length ∧ i < 20) → step (tup i d) = some (.inr (.inl (tup' d)))) :
    ∃ d, iter step FUEL (tup 0 d0) = some (.inl (tup' d)) ∧ WOk x 20 d0 d := by
  obtain ⟨r, e, d, hr, hw⟩ := iter_up (f := step) (min x.length 20) (fun i s => ∃ d, s = tup i d ∧ WOk x i d0 d) (fun r => ∃ d, r = .inl (tup' d) ∧ WOk x 20 d0 d)
    (fun i s hi hI => by
      obtain ⟨d, rfl, hw⟩ := hI
      obtain ⟨c, hc⟩ := getq (l := x) (i := i) (by omega)
      exact .inl ⟨_, hs i d c hc (by omega) hw, _, rfl, hw.next hl hc (by omega)⟩)
    (fun s hI => by
      obtain ⟨d, rfl, hw⟩ := hI
      refine ⟨_, he _ d (by omega), d, rfl, ⟨hw.ok, hw.off, hw.armed, hw.fall, hw.sure, fun j => ?_⟩⟩
      rw [hw.wait j]
      unfold wr
      by_cases h1 : j < min x.length 20
      · have hj : j < 20 := by omega
        rw [if_pos h1, if_pos hj, if_pos hj]
      · rw [if_neg h1]
        by_cases h2 : j < 20
        · rw [if_pos h2, if_pos h2, List.getElem?_eq_none (by omega)]; rfl
        · rw [if_neg h2])
    (s0 := tup 0 d0) ⟨d0, rfl, h0⟩ (k := FUEL) (by rw [FUEL_eq]; omega)
  subst hr
  exact ⟨d, e, hw⟩
theorem fill64 (c : Int) : F.law09_fill c 64 = some (fillB c 64) := fill_eq c (n := 64) (by decide)
theorem wstep {x : List Int} {d0 d : disk_Disk} {i : Nat} (hf : FOk d0.fall_) (h : WOk x i d0 d) (hl : d0.sure_.length = 20) (hi : i < 20) (c : Int) : F.disk_Disk_Write (i : Int) (fillB c 64) d = some (0, writeD d (i : Int) (fillB c 64)) := by
  have hw : whyB d (i : Int) = 0 := whyB_in h.off (by omega) (by rw [h.sure, hl]; omega)
  rw [write_eq (by rw [h.fall]; exact hf) h.ok, if_neg (fun e => e hw), if_neg (fun e => e (fillB_size _ _)), if_neg (by unfold due; rw [h.armed]; intro e; cases e.1)]
theorem loopA {x0 : List Int} {d0 : disk_Disk} (hf : FOk d0.fall_) (h0 : WOk x0 0 d0 d0) (hl : d0.sure_.length = 20) : ∃ d, iter (fun x => F.law09_DiskLasts.l3 x0 x.1 x.2.1 x.2.2.1 x.2.2.2.1 x.2.2.2.2.1 x.2.2.2.2.2.1 x.2.2.2.2.2.2.1 x.2.2.2.2.2.2.2.1 x.2.2.2.2.2.2.2.2.1 x.2.2.2.2.2.2.2.2.2) FUEL (tup 0 d0) = some (.inl (tup' d)) ∧ WOk x0 20 d0 d := by
  refine wloop x0 d0 h0 hl (fun i d c hc hi hw => ?_) (fun i d hn => ?_)
  · have hlt := lt_of_get hc
    show F.law09_DiskLasts.l3 x0 (i : Int) d.sure_ d.wait_ d.off_ d.armed_ d.left_ d.fall_.Keep d.fall_.Tear d.acts_ d.falls_ = _
    unfold F.law09_DiskLasts.l3 F.law09_DiskLasts.r2
    rw [if_pos (by simp; omega), if_pos (by simp; omega), thru_inl, at_nat hc, Option.bind_some, fill64, Option.bind_some]
    show Option.bind (F.disk_Disk_Write (i : Int) (fillB c 64) d) _ = _
    rw [wstep hf hw hl hi, Option.bind_some, if_neg (by simp), wadd (by omega)]
    rfl
  · show F.law09_DiskLasts.l3 x0 (i : Int) d.sure_ d.wait_ d.off_ d.armed_ d.left_ d.fall_.Keep d.fall_.Tear d.acts_ d.falls_ = _
    unfold F.law09_DiskLasts.l3
    by_cases h1 : i < x0.length
    · rw [if_pos (by simp; omega), if_neg (by simp; omega), thru_inr]; rfl
    · rw [if_neg (by simp; omega), thru_inr]; rfl
theorem loopB {x0 : List Int} {d0 : disk_Disk} (hf : FOk d0.fall_) (h0 : WOk x0 0 d0 d0) (hl : d0.sure_.length = 20) : ∃ d, iter (fun x => F.law09_DiskLasts.l6 x0 x.1 x.2.1 x.2.2.1 x.2.2.2.1 x.2.2.2.2.1 x.2.2.2.2.2.1 x.2.2.2.2.2.2.1 x.2.2.2.2.2.2.2.1 x.2.2.2.2.2.2.2.2.1 x.2.2.2.2.2.2.2.2.2) FUEL (tup 0 d0) = some (.inl (tup' d)) ∧ WOk x0 20 d0 d := by
  refine wloop x0 d0 h0 hl (fun i d c hc hi hw => ?_) (fun i d hn => ?_)
  · have hlt := lt_of_get hc
    show F.law09_DiskLasts.l6 x0 (i : Int) d.sure_ d.wait_ d.off_ d.armed_ d.left_ d.fall_.Keep d.fall_.Tear d.acts_ d.falls_ = _
    unfold F.law09_DiskLasts.l6 F.law09_DiskLasts.r5
    rw [if_pos (by simp; omega), if_pos (by simp; omega), thru_inl, at_nat hc, Option.bind_some, fill64, Option.bind_some]
    show Option.bind (F.disk_Disk_Write (i : Int) (fillB c 64) d) _ = _
    rw [wstep hf hw hl hi, Option.bind_some, if_neg (by simp), wadd (by omega)]
    rfl
  · show F.law09_DiskLasts.l6 x0 (i : Int) d.sure_ d.wait_ d.off_ d.armed_ d.left_ d.fall_.Keep d.fall_.Tear d.acts_ d.falls_ = _
    unfold F.law09_DiskLasts.l6
    by_cases h1 : i < x0.length
    · rw [if_pos (by simp; omega), if_neg (by simp; omega), thru_inr]; rfl
    · rw [if_neg (by simp; omega), thru_inr]; rfl
theorem wf_i64 {n : Int} (h : (Lit.int .i64 n).wf = true) : -9223372036854775808 ≤ n ∧ n ≤ 9223372036854775807 := by
  have hm : IntKind.i64.min = -9223372036854775808 := rfl
  have h : IntKind.i64.min ≤ n ∧ n ≤ 9223372036854775807 := by simpa [Lit.wf] using h
  rw [hm] at h
  exact h
def was (x : List Int) (j : Nat) : ByteArray := ((x[j]?).map fun c => fillB c 64).getD (fillB 0 64)
theorem read_in {D : disk_Disk} {i : Nat} (hoff : D.off_ = false) (hl : D.sure_.length = 20) (hi : i < 20) : F.disk_Disk_Read (i : Int) D = some (curB D (i : Int), 0) := by
  have hw : whyB D (i : Int) = 0 := whyB_in hoff (by omega) (by rw [hl]; omega)
  have h1 : 1 ≤ D.sure_.length := by rw [hl]; decide
  rw [read_eq h1, if_pos hw]
set_option maxHeartbeats 1000000 in
theorem pure_DiskLasts (a b : List Int) (f : disk_Fall) {w0 z0 w1 z1 z2 : Prop} (_ : w0) (_ : z0) (_ : w1) (_ : z1) (w2 : ((Lit.int .u64 f.Keep).wf = true) ∧ ((Lit.int .i64 f.Tear).wf = true)) (_ : z2) : F.law09_DiskLasts a b f = some true := by
  have hF : FOk f := ⟨(wf_i64 w2.2).1, (wf_i64 w2.2).2⟩
  have hF0 : FOk ⟨0, 0⟩ := ⟨by decide, by decide⟩
  unfold F.law09_DiskLasts
  have hnew := new_eq (n := 20) (by decide) (by decide)
  rw [show ((20 : Nat) : Int) = 20 from rfl] at hnew
  rw [hnew, Option.bind_some]
  dsimp only [optC]
  rw [if_neg (by decide), thru_inl]
  unfold F.law09_DiskLasts.r1
  have hok := new_ok (n := 20) (by decide) (by decide)
  have hlen : (newD 20).sure_.length = 20 := by unfold newD; rw [List.length_replicate]
  obtain ⟨d1, e1, k1⟩ := loopA (x0 := a) (d0 := newD 20) hF0 ⟨hok, rfl, rfl, rfl, rfl, fun j => rfl⟩ hlen
  refine (congrArg (fun o => thru o _) e1).trans ?_
  rw [thru_inl]
  unfold F.law09_DiskLasts.r4
  show Option.bind (F.disk_Disk_Flush d1) _ = _
  have hF1 : FOk d1.fall_ := by rw [k1.fall]; exact hF0
  have hd1 : ¬ due d1 := by unfold due; rw [k1.armed]; intro e; cases e.1
  rw [flush_eq hF1 k1.ok, k1.off, if_neg (by decide), if_neg hd1, Option.bind_some]
  dsimp only
  rw [if_neg (by decide)]
  have hok2 : DOk (flushD d1) := flush_ok k1.ok
  have hlen2 : (flushD d1).sure_.length = 20 := by
    show (setAll' d1.wait_ d1.sure_).length = 20
    rw [setAll'_len, k1.sure, hlen]
  have hs2 : ∀ j : Nat, j < 20 → ((flushD d1).sure_[j]?).map (·.s_) = some (was a j) := by
    intro j hj
    show ((setAll' d1.wait_ d1.sure_)[j]?).map (·.s_) = _
    rw [setAll'_get _ _ _ k1.ok.keys (fun p hp => (k1.ok.inr p hp).1)]
    have hsj : d1.sure_[j]? = some ⟨blankB, 0⟩ := by
      rw [k1.sure]
      unfold newD
      rw [List.getElem?_replicate, if_pos hj]
    have hw := k1.wait j
    rw [if_pos hj] at hw
    unfold wr at hw
    rw [if_pos hj] at hw
    unfold was
    cases hm : mget d1.wait_ (j : Int) with
    | none =>
      rw [hm] at hw
      rw [← hw]
      dsimp only
      rw [hsj]
      show some blankB = _
      rw [blank_fill]
      rfl
    | some y =>
      rw [hm] at hw
      rw [← hw]
      dsimp only
      rw [hsj]
      rfl
  obtain ⟨d2, e2, k2⟩ := loopB (x0 := b) (d0 := flushD d1) hF1 ⟨hok2, k1.off, k1.armed, rfl, rfl, fun j => rfl⟩ hlen2
  refine (congrArg (fun o => thru o _) e2).trans ?_
  rw [thru_inl]
  unfold F.law09_DiskLasts.r7
  show thru (Option.bind (F.disk_Disk_Crash f d2) _) _ = _
  rw [crash_eq hF k2.ok, k2.off, if_neg (by decide), Option.bind_some]
  dsimp only
  have hok3 : DOk (dropD f d2) := drop_ok k2.ok
  rw [if_neg (by decide), start_eq hok3.pos, if_pos (show (dropD f d2).off_ = true from rfl), Option.bind_some]
  dsimp only
  rw [if_neg (by decide), thru_inl]
  unfold F.law09_DiskLasts.r8
  have hlen3 : (startD (dropD f d2)).sure_.length = 20 := by
    show (fallG f d2.wait_ (sortI (keysD d2)) 0 d2.sure_).length = 20
    rw [fallG_len, k2.sure, hlen2]
  -- what each sector is
  have hsec : ∀ j : Nat, j < 20 → ∃ s, curB (startD (dropD f d2)) (j : Int) = s ∧ s.size = 64 ∧ (s ≠ was a j → s ≠ ((wr b j).getD (was a j)) → ∃ k, (sortI (keysD d2))[k]? = some (j : Int) ∧ tearB f k = true) := by
    intro j hj
    have hold := hs2 j hj
    rw [← k2.sure] at hold
    cases ho : d2.sure_[j]? with
    | none => rw [ho] at hold; cases hold
    | some old =>
      rw [ho] at hold
      have hold : old.s_ = was a j := Option.some.inj hold
      have h64 := k2.ok.sec old (List.mem_of_getElem? ho)
      have hcur : curB (startD (dropD f d2)) (j : Int) = (((dropD f d2).sure_[j]?).getD zS).s_ := rfl
      obtain ⟨g1, g2⟩ := drop_get (f := f) k2.ok j
      have hw := k2.wait j
      rw [if_pos hj] at hw
      cases hm : mget d2.wait_ (j : Int) with
      | none =>
        refine ⟨old.s_, by rw [hcur, g1 hm, ho]; rfl, h64, fun h => absurd hold h⟩
      | some y =>
        rw [hm] at hw
        have hy64 := (k2.ok.inr _ (mgetD_mem hm)).2.2
        obtain ⟨k, hk, e⟩ := g2 y hm
        refine ⟨(fallV f k old y).s_, by rw [hcur, e, ho]; rfl, fallV_size h64 hy64, fun h1 h2 => ⟨k, hk, ?_⟩⟩
        cases ht : tearB f k with
        | true => rfl
        | false =>
          exfalso
          unfold fallV at h1 h2
          rw [ht] at h1 h2
          simp only [Bool.false_eq_true, if_false] at h1 h2
          cases hkb : keepB f k with
          | true =>
            rw [hkb, if_pos rfl] at h2
            rw [← hw] at h2
            exact h2 rfl
          | false =>
            rw [hkb, if_neg (by decide)] at h1
            exact h1 hold
  have huniq : ∀ i j : Nat, (∃ k, (sortI (keysD d2))[k]? = some (i : Int) ∧ tearB f k = true) → (∃ k, (sortI (keysD d2))[k]? = some (j : Int) ∧ tearB f k = true) → i = j := by
    rintro i j ⟨k, hk, ht⟩ ⟨k', hk', ht'⟩
    unfold tearB at ht ht'
    simp only [Bool.and_eq_true, decide_eq_true_eq, beq_iff_eq] at ht ht'
    have : k = k' := by omega
    subst this
    rw [hk] at hk'
    have := Option.some.inj hk'
    omega
  generalize hD : startD (dropD f d2) = D at hsec hlen3
  have hoff : D.off_ = false := by rw [← hD]; rfl
  obtain ⟨r, e3, t, hr, ht⟩ := iter_up (f := fun x => F.law09_DiskLasts.l12 a b x.1 x.2.1 x.2.2.1 x.2.2.2.1 x.2.2.2.2.1 x.2.2.2.2.2.1 x.2.2.2.2.2.2.1 x.2.2.2.2.2.2.2.1 x.2.2.2.2.2.2.2.2.1 x.2.2.2.2.2.2.2.2.2.1 x.2.2.2.2.2.2.2.2.2.2) 20
    (fun i s => ∃ t : Int, s = (t, (i : Int), tup' D) ∧ (t = 0 ∨ t = 1 ∧ ∃ j : Nat, j < i ∧ ∃ k, (sortI (keysD d2))[k]? = some (j : Int) ∧ tearB f k = true))
    (fun r => ∃ t : Int, r = .inl (t, tup' D) ∧ (t = 0 ∨ t = 1 ∧ ∃ j : Nat, j < 20 ∧ ∃ k, (sortI (keysD d2))[k]? = some (j : Int) ∧ tearB f k = true))
    (fun i s hi hI => by
      obtain ⟨t, rfl, ht⟩ := hI
      obtain ⟨s, hs, h64, htear⟩ := hsec i hi
      have hread : F.disk_Disk_Read (i : Int) D = some (s, 0) := (read_in hoff hlen3 hi).trans (by rw [hs])
      have hwas : (if decide ((i : Int) < (a.length : Int)) = true then (Option.bind (at_ a (i : Int)) (fun (y176 : Int) => Option.bind (F.law09_fill y176 64) (fun (r180 : ByteArray) => some (r180)))) else (some (fillB 0 64))) = some (was a i) := by
        unfold was
        by_cases h : i < a.length
        · obtain ⟨c, hc⟩ := getq h
          rw [if_pos (by simp; omega), at_nat hc, Option.bind_some, fill64, hc, Option.bind_some, Option.map_some, Option.getD_some]
        · rw [if_neg (by simp; omega), List.getElem?_eq_none (by omega), Option.map_none, Option.getD_none]
      have his : (if decide ((i : Int) < (b.length : Int)) = true then (Option.bind (at_ b (i : Int)) (fun (y185 : Int) => Option.bind (F.law09_fill y185 64) (fun (r189 : ByteArray) => some (r189)))) else (some (was a i))) = some ((wr b i).getD (was a i)) := by
        unfold wr
        rw [if_pos hi]
        by_cases h : i < b.length
        · obtain ⟨c, hc⟩ := getq h
          rw [if_pos (by simp; omega), at_nat hc, Option.bind_some, fill64, hc, Option.bind_some, Option.map_some, Option.getD_some]
        · rw [if_neg (by simp; omega), List.getElem?_eq_none (by omega), Option.map_none, Option.getD_none]
      have hgo : ∀ (t' : Int), (t' = 0 ∨ t' = 1 ∧ ∃ j : Nat, j < i + 1 ∧ ∃ k, (sortI (keysD d2))[k]? = some (j : Int) ∧ tearB f k = true) → ∃ s', some (Sum.inl (t', ((i + 1 : Nat) : Int), tup' D)) = some (Sum.inl s' : (Int × Tup) ⊕ ((Int × Tup') ⊕ Bool)) ∧ ∃ t : Int, s' = (t, ((i + 1 : Nat) : Int), tup' D) ∧ (t = 0 ∨ t = 1 ∧ ∃ j : Nat, j < i + 1 ∧ ∃ k, (sortI (keysD d2))[k]? = some (j : Int) ∧ tearB f k = true) := fun t' h => ⟨_, rfl, t', rfl, h⟩
      have hsame : t = 0 ∨ t = 1 ∧ ∃ j : Nat, j < i + 1 ∧ ∃ k, (sortI (keysD d2))[k]? = some (j : Int) ∧ tearB f k = true := by
        rcases ht with h | ⟨h, j, hj, hh⟩
        · exact .inl h
        · exact .inr ⟨h, j, by omega, hh⟩
      refine .inl ?_
      show ∃ s', F.law09_DiskLasts.l12 a b t (i : Int) D.sure_ D.wait_ D.off_ D.armed_ D.left_ D.fall_.Keep D.fall_.Tear D.acts_ D.falls_ = some (.inl s') ∧ _
      unfold F.law09_DiskLasts.l12
      rw [if_pos (by simp; omega)]
      rw [show (⟨D.sure_, D.wait_, D.off_, D.armed_, D.left_, (⟨D.fall_.Keep, D.fall_.Tear⟩ : disk_Fall), D.acts_, D.falls_⟩ : disk_Disk) = D from rfl, hread, Option.bind_some, fill64, Option.bind_some, hwas, Option.bind_some]
      unfold F.law09_DiskLasts.r9
      rw [his, Option.bind_some]
      unfold F.law09_DiskLasts.r10
      dsimp only
      rw [if_neg (by decide), if_neg (by rw [h64]; decide), thru_inl]
      unfold F.law09_DiskLasts.r11
      dsimp only
      by_cases q1 : s = was a i
      · have : seqB s (was a i) = true := seqB_iff.2 q1
        rw [this, if_neg (by decide), wadd (by omega)]
        exact hgo t hsame
      · have n1 : seqB s (was a i) = false := by
          cases hc : seqB s (was a i) with
          | false => rfl
          | true => exact absurd (seqB_iff.1 hc) q1
        rw [n1, if_pos (by decide)]
        by_cases q2 : s = (wr b i).getD (was a i)
        · have : seqB s ((wr b i).getD (was a i)) = true := seqB_iff.2 q2
          rw [this, if_neg (by decide), wadd (by omega)]
          exact hgo t hsame
        · have n2 : seqB s ((wr b i).getD (was a i)) = false := by
            cases hc : seqB s ((wr b i).getD (was a i)) with
            | false => rfl
            | true => exact absurd (seqB_iff.1 hc) q2
          have hT := htear q1 q2
          have ht0 : t = 0 := by
            rcases ht with h | ⟨_, j, hj, hh⟩
            · exact h
            · have := huniq j i hh hT; omega
          subst ht0
          rw [n2, if_pos (by decide), wadd (by omega)]
          exact hgo 1 (.inr ⟨rfl, i, by omega, hT⟩))
    (fun s hI => by
      obtain ⟨t, rfl, ht⟩ := hI
      refine ⟨_, ?_, t, rfl, ht⟩
      show F.law09_DiskLasts.l12 a b t ((20 : Nat) : Int) D.sure_ D.wait_ D.off_ D.armed_ D.left_ D.fall_.Keep D.fall_.Tear D.acts_ D.falls_ = _
      unfold F.law09_DiskLasts.l12
      rw [if_neg (by decide)]
      rfl)
    (s0 := (0, ((0 : Nat) : Int), tup' D)) ⟨0, rfl, .inl rfl⟩ (k := FUEL) (by rw [FUEL_eq]; omega)
  subst hr
  subst hD
  refine (congrArg (fun o => thru o _) e3).trans ?_
  rw [thru_inl]
  unfold F.law09_DiskLasts.r13
  rcases ht with rfl | ⟨rfl, j, _, k, _, htb⟩
  · dsimp only
    rw [if_pos (by simp), if_pos (by simp), awake]
    rfl
  · unfold tearB at htb
    simp only [Bool.and_eq_true, decide_eq_true_eq] at htb
    dsimp only
    rw [if_pos (by simp), if_neg (by simp), if_pos (by simpa using htb.1), awake]
    rfl
end Go.Proofs.Ytbjilfhjclkebaa
