/- A super is saved and loaded, in plain words. -/
import Derived.Test.YtgbciaegbpkpaaaGreatDoorPSuper
import Derived.Test.YtgbciaegbpkpaaaGreatDoorPGuardF
import Derived.Test.YtgbciaegbpkpaaaGreatDoorGSuperb
import Derived.Test.YtgbciaegbpkpaaaGreatDoorGSuperb
import Derived.Test.YtgbciaegbpkpaaaGreatDoorGSuper
namespace Go.Proofs.YtgbciaegbpkpaaaGreatDoor
set_option linter.all false
open Go Go.RowKit Go.Fw
set_option maxRecDepth 100000
attribute [local irreducible] FUEL
def zSup : super_Super := ⟨0, 0, 0, 0⟩
def stepS (i : Int) (code : Int) (r : super_Super × Bool) (best : super_Super) : super_Super :=
  if code = 0 ∧ r.2 = true ∧ r.1.Gen.tmod 2 = i ∧ best.Gen < r.1.Gen then r.1 else best
theorem read_three (b : List UInt8) : (readL b).2.2 = 0 ∨ (readL b).2.2 = 7 ∨ (readL b).2.2 = 17 := by
  unfold readL
  split
  · exact .inr (.inl rfl)
  · split
    · exact .inl rfl
    · exact .inr (.inr rfl)
theorem load_step {d : disk_Disk} (hp : 1 ≤ d.sure_.length) {i : Nat} (hi : i < 2) {R : List UInt8} (hw : whyB d (i : Int) = 0) (hc : curB d (i : Int) = ofL R) (hl : R.length = 64) {r : super_Super × Bool} (hr : (readL R).2.2 = 0 → F.super_read (ofL (readL R).1) = some r) (best : super_Super) :
    F.super_Load.l1 d (i : Int) best.Gen best.Boot best.Side best.Seed = some (.inl (((i + 1 : Nat) : Int), (stepS (i : Int) (readL R).2.2 r best).Gen, (stepS (i : Int) (readL R).2.2 r best).Boot, (stepS (i : Int) (readL R).2.2 r best).Side, (stepS (i : Int) (readL R).2.2 r best).Seed)) := by
  have hw1 : IntKind.i64.wrap ((i : Int) + 1) = ((i + 1 : Nat) : Int) := by rw [w64 (by omega) (by omega)]; omega
  unfold F.super_Load.l1
  rw [if_pos (by simp; omega), gread_eq hp hw hc hl, Option.bind_some, hw1]
  dsimp only
  rcases read_three R with h | h | h
  · rw [if_pos (by simpa using h), hr h, Option.bind_some]
    unfold stepS
    cases hv : r.2 with
    | false =>
      rw [if_neg (by decide), if_neg (fun e => by cases e.2.1)]
    | true =>
      rw [if_pos rfl]
      by_cases h1 : r.1.Gen.tmod 2 = (i : Int)
      · rw [if_pos (by simpa using h1)]
        by_cases h2 : best.Gen < r.1.Gen
        · rw [if_pos (by simpa using h2), if_pos ⟨h, rfl, h1, h2⟩]
        · rw [if_neg (by simpa using h2), if_neg (fun e => h2 e.2.2.2)]
      · rw [if_neg (by simpa using h1), if_neg (fun e => h1 e.2.2.1)]
  · have hs : stepS (i : Int) (readL R).2.2 r best = best := by unfold stepS; rw [if_neg (fun e => by rw [h] at e; exact absurd e.1 (by decide))]
    rw [hs, h]
    rfl
  · have hs : stepS (i : Int) (readL R).2.2 r best = best := by unfold stepS; rw [if_neg (fun e => by rw [h] at e; exact absurd e.1 (by decide))]
    rw [hs, h]
    rfl
def outS (b : super_Super) : super_Super × Int := if b.Gen = 0 then (zSup, 7) else (b, 0)
theorem load_eq {d : disk_Disk} (hp : 1 ≤ d.sure_.length) {R0 R1 : List UInt8} (w0 : whyB d 0 = 0) (w1 : whyB d 1 = 0) (c0 : curB d 0 = ofL R0) (c1 : curB d 1 = ofL R1) (l0 : R0.length = 64) (l1 : R1.length = 64) {r0 r1 : super_Super × Bool} (h0 : (readL R0).2.2 = 0 → F.super_read (ofL (readL R0).1) = some r0) (h1 : (readL R1).2.2 = 0 → F.super_read (ofL (readL R1).1) = some r1) :
    F.super_Load d = some (outS (stepS 1 (readL R1).2.2 r1 (stepS 0 (readL R0).2.2 r0 zSup))) := by
  unfold F.super_Load
  have e := iter_count (f := fun (x : Int × Int × Int × Int × Int) => F.super_Load.l1 d x.1 x.2.1 x.2.2.1 x.2.2.2.1 x.2.2.2.2) (fun k => match k with
      | 0 => (0, 0, 0, 0, 0)
      | 1 => (1, (stepS 0 (readL R0).2.2 r0 zSup).Gen, (stepS 0 (readL R0).2.2 r0 zSup).Boot, (stepS 0 (readL R0).2.2 r0 zSup).Side, (stepS 0 (readL R0).2.2 r0 zSup).Seed)
      | k => ((k : Int), (stepS 1 (readL R1).2.2 r1 (stepS 0 (readL R0).2.2 r0 zSup)).Gen, (stepS 1 (readL R1).2.2 r1 (stepS 0 (readL R0).2.2 r0 zSup)).Boot, (stepS 1 (readL R1).2.2 r1 (stepS 0 (readL R0).2.2 r0 zSup)).Side, (stepS 1 (readL R1).2.2 r1 (stepS 0 (readL R0).2.2 r0 zSup)).Seed)) (n := 2)
      (r := .inl ((stepS 1 (readL R1).2.2 r1 (stepS 0 (readL R0).2.2 r0 zSup)).Gen, (stepS 1 (readL R1).2.2 r1 (stepS 0 (readL R0).2.2 r0 zSup)).Boot, (stepS 1 (readL R1).2.2 r1 (stepS 0 (readL R0).2.2 r0 zSup)).Side, (stepS 1 (readL R1).2.2 r1 (stepS 0 (readL R0).2.2 r0 zSup)).Seed)) (fun k hk => by
    match k, hk with
    | 0, _ => exact load_step hp (i := 0) (by decide) w0 c0 l0 h0 zSup
    | 1, _ => exact load_step hp (i := 1) (by decide) w1 c1 l1 h1 _)
    (by
      show F.super_Load.l1 d ((2 : Nat) : Int) _ _ _ _ = _
      unfold F.super_Load.l1
      rw [if_neg (by decide)]
      rfl) (k := FUEL) (by rw [FUEL_eq]; omega)
  refine (congrArg (fun o => thru o _) e).trans ?_
  rw [thru_inl]
  unfold F.super_Load.r2 outS
  dsimp only
  by_cases hg : (stepS 1 (readL R1).2.2 r1 (stepS 0 (readL R0).2.2 r0 zSup)).Gen = 0
  · rw [if_pos (by simpa using hg), if_pos hg]
    rfl
  · rw [if_neg (by simpa using hg), if_neg hg]
theorem made4 : F.law11_made = some (some (newD 4), some ⟨1, 0⟩) := by
  unfold F.law11_made
  have hn := new_eq (n := 4) (by decide) (by decide)
  rw [show ((4 : Nat) : Int) = 4 from rfl] at hn
  rw [hn, Option.bind_some]
  dsimp only [optC]
  rw [Option.bind_some]
  unfold F.law11_made.r1
  rw [gnew_eq (new_ok (n := 4) (by decide) (by decide)).pos (by decide) (by decide), Option.bind_some]
  rfl
theorem gen_mod {s : super_Super} (h : RightP s) : s.Gen.tmod 2 = 0 ∨ s.Gen.tmod 2 = 1 := by
  have h1 := Int.tmod_lt_of_pos s.Gen (show (0 : Int) < 2 by decide)
  have h2 := Int.tmod_nonneg (a := s.Gen) 2 (by have := h.1; omega)
  omega
theorem save_no {s : super_Super} (h : ¬ RightP s) (g : guard_Guard) (d : disk_Disk) : F.super_Save s g d = some (1, g, d) := by
  unfold F.super_Save
  rw [right1_eq, decide_eq_false h, Option.bind_some, if_pos (by decide)]
theorem save_eq {s : super_Super} (h : RightP s) {g : guard_Guard} (hg : GOk g) {d : disk_Disk} (hd : DOk d) (hf : FOk d.fall_) (hlen : d.sure_.length = 4) (ho : d.off_ = false) :
    F.super_Save s g d = some (if due d then (8, g, dropD d.fall_ d) else if due (writeD d (s.Gen.tmod 2) (ofL (secL (stampG g) (supL s)))) then (8, upG g, dropD d.fall_ (writeD d (s.Gen.tmod 2) (ofL (secL (stampG g) (supL s))))) else (0, upG g, flushD (writeD d (s.Gen.tmod 2) (ofL (secL (stampG g) (supL s)))))) := by
  have hsl := supL_len h
  have hm := gen_mod h
  have hw : whyB d (s.Gen.tmod 2) = 0 := whyB_in ho (by omega) (by rw [hlen]; omega)
  unfold F.super_Save
  rw [right1_eq, decide_eq_true h, Option.bind_some, if_neg (by decide), sbytes_eq h, Option.bind_some]
  dsimp only
  rw [gput_eq hg hf hd _ _ (by omega), if_neg (by omega), if_neg (c := whyB d (s.Gen.tmod 2) ≠ 0) (fun e => e hw)]
  by_cases h1 : due d
  · rw [if_pos h1, if_pos h1, Option.bind_some]
    dsimp only
    rw [if_pos (by decide)]
  · rw [if_neg h1, if_neg h1, Option.bind_some]
    dsimp only
    have hok := write_ok hd (i := s.Gen.tmod 2) (s := ofL (secL (stampG g) (supL s))) (by omega) (by rw [hlen]; omega) (by rw [ofL_size, secL_len hsl])
    generalize hE : writeD d (s.Gen.tmod 2) (ofL (secL (stampG g) (supL s))) = E at hok
    have hEf : E.fall_ = d.fall_ := by rw [← hE]; rfl
    have hEo : E.off_ = false := by rw [← hE]; exact ho
    rw [if_neg (by decide), gflush_eq (by rw [hEf]; exact hf) hok, hEo, if_neg (by decide), hEf]
    by_cases h2 : due E
    · rw [if_pos h2, if_pos h2]; rfl
    · rw [if_neg h2, if_neg h2]; rfl
/-- the disk as it is made -/
structure Ok4 (d : disk_Disk) : Prop where
  ok : DOk d
  len : d.sure_.length = 4
  off : d.off_ = false
  armed : d.armed_ = false
  fall : FOk d.fall_
theorem ok4_new : Ok4 (newD 4) := ⟨new_ok (by decide) (by decide), by unfold newD; rw [List.length_replicate], rfl, rfl, ⟨by decide, by decide⟩⟩
theorem Ok4.due {d : disk_Disk} (h : Ok4 d) : ¬ due d := by unfold Go.Proofs.YtgbciaegbpkpaaaGreatDoor.due; rw [h.armed]; intro e; cases e.1
theorem step4 {d : disk_Disk} (h : Ok4 d) {j : Int} (h0 : 0 ≤ j) (h1 : j < 4) {s : List UInt8} (hs : s.length = 64) :
    Ok4 (flushD (writeD d j (ofL s))) ∧ (¬ due (writeD d j (ofL s))) ∧ (flushD (writeD d j (ofL s))).wait_ = [] ∧ ∀ k, 0 ≤ k → k < 4 → curB (flushD (writeD d j (ofL s))) k = if k = j then ofL s else curB d k := by
  have hw := write_ok h.ok h0 (by rw [h.len]; exact h1) (s := ofL s) (by rw [ofL_size, hs])
  have hl : (writeD d j (ofL s)).sure_.length = 4 := h.len
  refine ⟨⟨flush_ok hw, by rw [flush_len, hl], h.off, h.armed, h.fall⟩, ?_, rfl, fun k k0 k1 => ?_⟩
  · unfold due
    have : (writeD d j (ofL s)).armed_ = false := h.armed
    rw [this]
    intro e
    cases e.1
  · rw [cur_flush hw k0 (by rw [hl]; exact k1), cur_write]
theorem g10 : GOk ⟨1, 0⟩ := ⟨by decide, by decide, by decide, by decide⟩
theorem g11 : GOk (upG ⟨1, 0⟩) := ⟨by decide, by decide, by decide, by decide⟩
theorem st10 : stampG ⟨1, 0⟩ = 4294967297 := stamp_eq g10
theorem st11 : stampG (upG ⟨1, 0⟩) = 4294967298 := stamp_eq g11
theorem sup_eqB (a b : super_Super) : ((a.Gen == b.Gen) && ((a.Boot == b.Boot) && ((a.Side == b.Side) && ((a.Seed == b.Seed) && (true))))) = true ↔ a = b := by
  constructor
  · intro h
    simp only [Bool.and_eq_true, beq_iff_eq] at h
    exact sup_ext h.1 h.2.1 h.2.2.1 h.2.2.2.1
  · intro h; subst h; simp
/-- one super, alone -/
theorem load_one {d : disk_Disk} (hp : 1 ≤ d.sure_.length) {s : super_Super} (h : RightP s) {j k : Int} (hj : s.Gen.tmod 2 = j) (hjk : (j = 0 ∧ k = 1) ∨ (j = 1 ∧ k = 0)) {R : List UInt8} {a : Int} (ha0 : 4294967296 ≤ a) (ha1 : a ≤ 9223372036854775807)
    (wj : whyB d j = 0) (wk : whyB d k = 0) (cj : curB d j = ofL (secL a (supL s))) (ck : curB d k = ofL R) (lk : R.length = 64) (hR : (readL R).2.2 ≠ 0) : F.super_Load d = some (s, 0) := by
  have hsl := supL_len h
  have hr := sec_read ha0 ha1 hsl
  have hg := h.1
  have hz : zSup.Gen = 0 := rfl
  rcases hjk with ⟨rfl, rfl⟩ | ⟨rfl, rfl⟩
  · rw [load_eq hp wj wk cj ck (secL_len hsl) lk (r0 := (s, true)) (r1 := (zSup, false)) (fun _ => by rw [hr]; exact sread_sup h) (fun e => absurd e hR), hr]
    have e1 : stepS 0 0 (s, true) zSup = s := by unfold stepS; rw [if_pos ⟨rfl, rfl, hj, by dsimp only; omega⟩]
    have e2 : ∀ c, stepS 1 c (zSup, false) s = s := fun c => by unfold stepS; rw [if_neg (fun e => by cases e.2.1)]
    rw [e1, e2]
    unfold outS
    rw [if_neg (by omega)]
  · rw [load_eq hp wk wj ck cj lk (secL_len hsl) (r0 := (zSup, false)) (r1 := (s, true)) (fun e => absurd e hR) (fun _ => by rw [hr]; exact sread_sup h), hr]
    have e2 : ∀ c, stepS 0 c (zSup, false) zSup = zSup := fun c => by unfold stepS; rw [if_neg (fun e => by cases e.2.1)]
    have e1 : stepS 1 0 (s, true) zSup = s := by unfold stepS; rw [if_pos ⟨rfl, rfl, hj, by dsimp only; omega⟩]
    rw [e2, e1]
    unfold outS
    rw [if_neg (by omega)]
end Go.Proofs.YtgbciaegbpkpaaaGreatDoor
