/- Whatever is put and shredded, and whenever the power goes, each slot has its key, or is free: the plain law. -/
import Derived.Test.YtilpkebkhibpeaaGreatDoorPKeep13
import Derived.Test.YtilpkebkhibpeaaGreatDoorPAwake13
import Derived.Test.YtilpkebkhibpeaaGreatDoorGPlaysb
namespace Go.Proofs.YtilpkebkhibpeaaGreatDoor
set_option linter.all false
open Go Go.RowKit Go.Fw
set_option maxRecDepth 100000
attribute [local irreducible] FUEL
/-- the first slot that is free, from one on (-1: none is) -/
def FP (ks : List Int) (m : Nat) (f : Int) : Prop := (f = -1 ∧ ∀ j, m ≤ j → j < 8 → ks[j]? ≠ some 0) ∨ ∃ q : Nat, f = (q : Int) ∧ m ≤ q ∧ q < 8 ∧ ks[q]? = some 0 ∧ ∀ j, m ≤ j → j < q → ks[j]? ≠ some 0
theorem free_at {ks : List Int} {d : disk_Disk} (h : Kd ks d) {r : keyring_Ring} {g : guard_Guard} (hb : r.base_ = 5) (hs : r.slots_ = 8) {i : Nat} (hi : i < 8) : ∃ c, ks[i]? = some c ∧ 0 ≤ c ∧ c ≤ 200 ∧ F.keyring_Ring_Free (i : Int) r g d = some (c == 0) ∧ F.keyring_Ring_Get (i : Int) r g d = some (if c = 0 then (ByteArray.mk #[], 7) else (ofL (keyL c), 0)) := by
  obtain ⟨c, b, e1, e2, e3⟩ := h.ks i hi
  have hp : 1 ≤ d.sure_.length := by rw [h.b.len]; decide
  have hA := at_of h.b hb hs hi e3 e2.len
  have hbd := e2.bd
  refine ⟨c, e1, hbd.1, hbd.2, ?_⟩
  rcases e2.rd with ⟨h0, hr⟩ | ⟨h0, a, hr⟩
  · rw [rfree_eq hp hA, hr, get_free hp hA hr, if_pos h0]
    subst h0
    exact ⟨rfl, rfl⟩
  · rw [rfree_eq hp hA, hr, get_key hp hA hr, if_neg (by omega)]
    refine ⟨?_, rfl⟩
    congr 1
    have : ¬ (c = 0) := by omega
    simp [this]
theorem find_eq {ks : List Int} {d : disk_Disk} (h : Kd ks d) {r : keyring_Ring} {g : guard_Guard} (hb : r.base_ = 5) (hs : r.slots_ = 8) {f : Int} (hf : FP ks 0 f) : F.keyring_Ring_Find r g d = some (if f = -1 then (0, 6) else (f, 0)) := by
  unfold F.keyring_Ring_Find
  rw [rwhy_eq, if_neg (by rw [hs]; omega), Option.bind_some, if_neg (by decide)]
  obtain ⟨z, e, hz⟩ := iter_up (f := fun x => F.keyring_Ring_Find.l1 r g d x) 8
    (fun m s => s = (m : Int) ∧ ∀ j, j < m → ks[j]? ≠ some 0)
    (fun z => z = if f = -1 then .inl () else .inr (f, 0))
    (fun m s hm hI => by
      obtain ⟨rfl, hn⟩ := hI
      obtain ⟨c, hc, _, _, hfr, _⟩ := free_at h (g := g) hb hs hm
      unfold F.keyring_Ring_Find.l1
      rw [if_pos (by rw [hs]; simp; omega), hfr, Option.bind_some]
      by_cases h0 : c = 0
      · subst h0
        refine .inr ⟨_, by rw [if_pos (by decide)], ?_⟩
        rcases hf with ⟨_, hall⟩ | ⟨q, rfl, _, hq8, hq0, hqn⟩
        · exact absurd hc (hall m (by omega) hm)
        · have : q = m := by
            rcases Nat.lt_trichotomy q m with hlt | he | hgt
            · exact absurd hq0 (hn q hlt)
            · exact he
            · exact absurd hc (hqn m (by omega) hgt)
          subst this
          rw [if_neg (by omega)]
      · refine .inl ⟨((m + 1 : Nat) : Int), by rw [if_neg (by simpa using h0), wadd (by omega)], rfl, fun j hj => ?_⟩
        by_cases e : j = m
        · subst e
          rw [hc]
          intro h'
          exact h0 (Option.some.inj h')
        · exact hn j (by omega))
    (fun s hI => by
      obtain ⟨rfl, hn⟩ := hI
      refine ⟨.inl (), ?_, ?_⟩
      · unfold F.keyring_Ring_Find.l1
        rw [if_neg (by rw [hs]; decide)]
      · rcases hf with ⟨e, _⟩ | ⟨q, _, _, hq8, hq0, _⟩
        · rw [if_pos e]
        · exact absurd hq0 (hn q hq8))
    (s0 := 0) ⟨rfl, fun j hj => absurd hj (by omega)⟩ (k := FUEL) (by rw [FUEL_eq]; omega)
  subst hz
  refine (congrArg (fun o => thru o _) e).trans ?_
  by_cases h1 : f = -1
  · rw [if_pos h1, if_pos h1, thru_inl]
    rfl
  · rw [if_neg h1, if_neg h1, thru_inr]
theorem stands_law {k : Nat} {d : disk_Disk} {g : guard_Guard} {r : keyring_Ring} {p : law13_plain} (h : KI k d g r p) : F.law13_stands r g d p = some true := by
  unfold F.law13_stands
  obtain ⟨z, e, f, hz, hf⟩ := iter_up (f := fun x => F.law13_stands.l1 r g d p x.1 x.2) 8
    (fun m (s : Int × Int) => ∃ f, s = (f, 7 - (m : Int)) ∧ FP (kl p) (8 - m) f)
    (fun z => ∃ f, z = .inl f ∧ FP (kl p) 0 f)
    (fun m s hm hI => by
      obtain ⟨f, rfl, hf⟩ := hI
      obtain ⟨c, hc, hc0, hc1, hfr, hgt⟩ := free_at h.kd (g := g) h.base h.slots (i := 7 - m) (by omega)
      have hi : (7 : Int) - (m : Int) = ((7 - m : Nat) : Int) := by omega
      have hat : at_ ([p.keys_.e0, p.keys_.e1, p.keys_.e2, p.keys_.e3, p.keys_.e4, p.keys_.e5, p.keys_.e6, p.keys_.e7] : List Int) ((7 - m : Nat) : Int) = some c := at_nat hc
      have hw : IntKind.i64.wrap (((7 - m : Nat) : Int) - 1) = 7 - ((m + 1 : Nat) : Int) := by rw [w64 (by omega) (by omega)]; omega
      refine .inl ?_
      dsimp only
      unfold F.law13_stands.l1
      rw [hi, if_pos (by simp), hgt, Option.bind_some, hat, Option.bind_some]
      by_cases h0 : c = 0
      · subst h0
        rw [if_pos (by decide), if_pos rfl, if_neg (by decide), if_neg (by rw [seqB_refl]; decide), hfr, Option.bind_some, if_neg (by decide), hw]
        exact ⟨_, rfl, _, rfl, .inr ⟨7 - m, rfl, by omega, by omega, hc, fun j h1 h2 => absurd h1 (by omega)⟩⟩
      · rw [if_neg (by simpa using h0), if_neg (c := c = 0) h0, if_neg (by simp), Option.bind_some, key8 hc0 hc1, Option.bind_some, if_neg (by rw [seqB_refl]; decide), hfr, Option.bind_some, if_neg (by simpa using h0), hw]
        refine ⟨_, rfl, f, rfl, ?_⟩
        have step : ∀ j, 8 - (m + 1) ≤ j → ¬ (8 - m ≤ j) → (kl p)[j]? ≠ some 0 := fun j h1 h2 => by
          have : j = 7 - m := by omega
          subst this
          rw [hc]
          intro h'
          exact h0 (Option.some.inj h')
        rcases hf with ⟨e, hall⟩ | ⟨q, e, hq1, hq2, hq3, hq4⟩
        · refine .inl ⟨e, fun j h1 h2 => ?_⟩
          by_cases h3 : 8 - m ≤ j
          · exact hall j h3 h2
          · exact step j h1 h3
        · refine .inr ⟨q, e, by omega, hq2, hq3, fun j h1 h2 => ?_⟩
          by_cases h3 : 8 - m ≤ j
          · exact hq4 j h3 h2
          · exact step j h1 h3)
    (fun s hI => by
      obtain ⟨f, rfl, hf⟩ := hI
      refine ⟨_, ?_, f, rfl, hf⟩
      dsimp only
      unfold F.law13_stands.l1
      rw [if_neg (by decide)])
    (s0 := ((-1), 7)) ⟨-1, rfl, .inl ⟨rfl, fun j h1 h2 => absurd h1 (by omega)⟩⟩ (k := FUEL) (by rw [FUEL_eq]; omega)
  subst hz
  refine (congrArg (fun o => thru o _) e).trans ?_
  rw [thru_inl]
  have hsl : F.keyring_Ring_Slots r g d = some 8 := by unfold F.keyring_Ring_Slots; rw [h.slots]
  have hsr : F.keyring_Ring_Shreds r g d = some p.shred_ := by unfold F.keyring_Ring_Shreds; rw [h.sh]
  unfold F.law13_stands.r2
  rw [find_eq h.kd h.base h.slots hf, Option.bind_some, hsl, Option.bind_some, if_pos (by decide), hsr, Option.bind_some, if_pos (by simp)]
  rcases hf with ⟨rfl, _⟩ | ⟨q, rfl, _, _, _, _⟩
  · rw [if_pos (by decide), if_pos rfl, if_pos (by decide), if_pos (by decide)]
  · rw [if_neg (by simp), if_neg (c := (q : Int) = -1) (by omega), if_pos (by simp)]
    rfl
/-! ### a step -/
abbrev ST := Int × List disk_sector × List (Int × disk_sector) × Bool × Bool × Int × Int × Int × Int × Int × Int × Int × Int × Int × Int × Int × Int × Int × Int × Int × Int × Int × Int × Int × Int
def st (k : Nat) (d : disk_Disk) (g : guard_Guard) (r : keyring_Ring) (p : law13_plain) : ST := ((k : Int), d.sure_, d.wait_, d.off_, d.armed_, d.left_, d.fall_.Keep, d.fall_.Tear, d.acts_, d.falls_, g.boot_, g.n_, r.base_, r.slots_, r.shred_, p.keys_.e0, p.keys_.e1, p.keys_.e2, p.keys_.e3, p.keys_.e4, p.keys_.e5, p.keys_.e6, p.keys_.e7, p.boot_, p.shred_)
theorem r5_law {k : Nat} (hk : k < 40) {d : disk_Disk} {g : guard_Guard} {r : keyring_Ring} {p : law13_plain} (h : KI (k + 1) d g r p) (w : Int) :
    F.law13_KeyringPlays.r5 (k : Int) w w d.sure_ d.wait_ d.off_ d.armed_ d.left_ d.fall_.Keep d.fall_.Tear d.acts_ d.falls_ p.keys_.e0 p.keys_.e1 p.keys_.e2 p.keys_.e3 p.keys_.e4 p.keys_.e5 p.keys_.e6 p.keys_.e7 p.boot_ p.shred_ g.boot_ g.n_ r.base_ r.slots_ r.shred_ = some (.inl (st (k + 1) d g r p)) := by
  unfold F.law13_KeyringPlays.r5
  have hst := stands_law h
  rw [if_neg (by simp)]
  refine (congrArg (fun o => Option.bind o _) hst).trans ?_
  rw [Option.bind_some, if_neg (by decide), wadd (by omega)]
  rfl
theorem crash_off {f : disk_Fall} (hf : FOk f) {d : disk_Disk} (h : DOk d) (ho : d.off_ = true) : F.disk_Disk_Crash f d = some (8, d) := by rw [crash_eq hf h, if_pos ho]
theorem r4_law {k : Nat} (hk : k < 40) {o : law13_Op} (hF : FOk o.F) {c f w : Int} (hc0 : 0 ≤ c) (hc1 : c ≤ 200) {d : disk_Disk} {g : guard_Guard} {r : keyring_Ring} {p : law13_plain} (h : Out k o.I c f w g r d p) :
    ∃ d' g' r' p', F.law13_KeyringPlays.r4 (k : Int) o c f w r.base_ r.slots_ r.shred_ g.boot_ g.n_ d.sure_ d.wait_ d.off_ d.armed_ d.left_ d.fall_.Keep d.fall_.Tear d.acts_ d.falls_ p.keys_.e0 p.keys_.e1 p.keys_.e2 p.keys_.e3 p.keys_.e4 p.keys_.e5 p.keys_.e6 p.keys_.e7 p.boot_ p.shred_ = some (.inl (st (k + 1) d' g' r' p')) ∧ KI (k + 1) d' g' r' p' := by
  unfold F.law13_KeyringPlays.r4 F.disk_Disk_Up F.disk_Disk_Size
  rcases h with ⟨rfl, h⟩ | ⟨rfl, rfl, ⟨i, hi, hi8, hD⟩, hb1, hb2⟩
  · refine ⟨d, g, r, p, ?_, h⟩
    rw [Option.bind_some, if_pos (by dsimp only; rw [h.kd.b.len]; decide), Option.bind_some]
    dsimp only
    rw [h.kd.b.off, if_neg (by decide), thru_inl]
    have := r5_law hk h f
    rw [h.kd.b.off] at this
    exact this
  · rw [Option.bind_some, if_pos (by dsimp only; rw [hD.len]; decide), Option.bind_some]
    dsimp only
    have hoff := hD.off
    obtain ⟨r', d', p', e, hK, hb, hs, hsh, hs0, hs1, hbo⟩ := again_eq hD hb1 (by omega) (.inl ⟨hi, hi8⟩) hc0 hc1 (crash_off hF hD.ok hD.off)
    have hKI : KI (k + 1) d' ⟨p.boot_ + 1, 0⟩ r' p' := {
      kd := hK
      base := hb
      slots := hs
      sh := hsh
      s0 := hs0
      s1 := by omega
      b1 := by omega
      b2 := by omega
      g1 := by show 1 ≤ p.boot_ + 1; omega
      g2 := by show p.boot_ + 1 ≤ _; omega
      n0 := Int.le_refl _
      n1 := by show (0 : Int) ≤ _; omega }
    refine ⟨d', ⟨p.boot_ + 1, 0⟩, r', p', ?_, hKI⟩
    rw [if_pos (by rw [hoff]; decide), if_neg (by decide)]
    refine (congrArg (fun o => thru (Option.bind o _) _) e).trans ?_
    rw [Option.bind_some]
    dsimp only [optC]
    rw [thru_inl]
    exact r5_law hk hKI 0
/-- the number that a step's key is made of -/
def keyC (o : law13_Op) : Int := IntKind.i64.wrap (1 + (IntKind.i64.wrap o.C).tmod 200)
theorem keyC_bd {o : law13_Op} (h0 : 0 ≤ o.C) (h1 : o.C ≤ 255) : 0 < keyC o ∧ keyC o ≤ 200 := by
  unfold keyC
  rw [w64 (n := o.C) (by omega) (by omega)]
  have h2 := Int.tmod_lt_of_pos o.C (show (0 : Int) < 200 by decide)
  have h3 := Int.tmod_nonneg 200 h0
  rw [w64 (by omega) (by omega)]
  omega
theorem step_law {l : List law13_Op} {k : Nat} (hk : k < 40) {o : law13_Op} (ho : l[k]? = some o) (hF : FOk o.F) (hC0 : 0 ≤ o.C) (hC1 : o.C ≤ 255) (hl : o.List.length ≤ 1000000000000000000) {d : disk_Disk} {g : guard_Guard} {r : keyring_Ring} {p : law13_plain} (h : KI k d g r p) :
    ∃ d' g' r' p', F.law13_KeyringPlays.l6 l (k : Int) d.sure_ d.wait_ d.off_ d.armed_ d.left_ d.fall_.Keep d.fall_.Tear d.acts_ d.falls_ g.boot_ g.n_ r.base_ r.slots_ r.shred_ p.keys_.e0 p.keys_.e1 p.keys_.e2 p.keys_.e3 p.keys_.e4 p.keys_.e5 p.keys_.e6 p.keys_.e7 p.boot_ p.shred_ = some (.inl (st (k + 1) d' g' r' p')) ∧ KI (k + 1) d' g' r' p' := by
  have hlt := lt_of_get ho
  obtain ⟨hc0, hc1⟩ := keyC_bd hC0 hC1
  unfold F.law13_KeyringPlays.l6
  rw [if_pos (by simp; omega), if_pos (by simp; omega), thru_inl]
  unfold F.law13_KeyringPlays.r2
  rw [at_nat ho, Option.bind_some]
  have hkk : (if (o.Kind == 0) = true then some (o.Kind == 0) else some (o.Kind == 1)) = some (decide (o.Kind = 0 ∨ o.Kind = 1)) := by
    by_cases h1 : o.Kind = 0
    · rw [if_pos (by simpa using h1)]; simp [h1]
    · rw [if_neg (by simpa using h1)]
      by_cases h2 : o.Kind = 1 <;> simp [h1, h2]
  rw [hkk, Option.bind_some]
  unfold F.law13_KeyringPlays.r3
  have hc : IntKind.i64.wrap (1 + (IntKind.i64.wrap o.C).tmod 200) = keyC o := rfl
  rw [hc]
  have idle : Out k o.I (keyC o) 0 0 g r d p := .inl ⟨rfl, h.up⟩
  by_cases h1 : o.Kind = 0 ∨ o.Kind = 1
  · rw [decide_eq_true h1, if_pos rfl, key8 (by omega) hc1, Option.bind_some]
    obtain ⟨f, w, g', d', p', e, hO⟩ := put_law hk h o.I (s := keyL (keyC o)) (c := keyC o) (.inl ⟨rfl, hc0, hc1⟩)
    obtain ⟨d2, g2, r2, p2, e2, hK2⟩ := r4_law hk hF (by omega) hc1 hO
    refine ⟨d2, g2, r2, p2, ?_, hK2⟩
    refine (congrArg (fun o => thru (Option.bind o _) _) e).trans ?_
    rw [Option.bind_some, thru_inl]
    exact e2
  rw [decide_eq_false h1, if_neg (by decide)]
  by_cases h3 : o.Kind = 3
  · rw [if_pos (by simpa using h3)]
    obtain ⟨f, w, r', d', p', e, hO⟩ := shred_law hk h o.I
    obtain ⟨d2, g2, r2, p2, e2, hK2⟩ := r4_law hk hF (Int.le_refl _) (by decide) hO
    refine ⟨d2, g2, r2, p2, ?_, hK2⟩
    refine (congrArg (fun o => thru (Option.bind o _) _) e).trans ?_
    rw [Option.bind_some, thru_inl]
    exact e2
  rw [if_neg (by simpa using h3)]
  by_cases h5 : o.Kind = 5
  · rw [if_pos (by simpa using h5)]
    unfold F.disk_Disk_Calm
    rw [Option.bind_some]
    have hcalm : KI k ⟨d.sure_, d.wait_, d.off_, false, d.left_, d.fall_, d.acts_, d.falls_⟩ g r p :=
      { h with kd := ⟨⟨⟨h.kd.b.ok.sec, h.kd.b.ok.keys, h.kd.b.ok.inr, h.kd.b.ok.pos, h.kd.b.ok.len⟩, h.kd.b.len, h.kd.b.off, h.kd.b.wait, h.kd.b.fall⟩, h.kd.kn, h.kd.ks⟩ }
    obtain ⟨r', d', p', e, hK⟩ := keep_law hk hl hcalm rfl
    obtain ⟨d2, g2, r2, p2, e2, hK2⟩ := r4_law hk hF (by omega) hc1 (.inl ⟨rfl, hK⟩)
    refine ⟨d2, g2, r2, p2, ?_, hK2⟩
    refine (congrArg (fun o => thru (Option.bind o _) _) e).trans ?_
    rw [Option.bind_some, if_neg (by simp), thru_inl]
    exact e2
  rw [if_neg (by simpa using h5)]
  by_cases h6 : o.Kind = 6
  · rw [if_pos (by simpa using h6)]
    obtain ⟨f, w, g', d', p', e, hO⟩ := put_law hk h o.I (s := [110, 111, 32, 107, 101, 121]) (c := keyC o) (.inr (by decide))
    obtain ⟨d2, g2, r2, p2, e2, hK2⟩ := r4_law hk hF (by omega) hc1 hO
    refine ⟨d2, g2, r2, p2, ?_, hK2⟩
    refine (congrArg (fun o => thru (Option.bind o _) _) e).trans ?_
    rw [Option.bind_some, thru_inl]
    exact e2
  rw [if_neg (by simpa using h6)]
  by_cases h7 : o.Kind = 7
  · rw [if_pos (by simpa using h7)]
    have hb1 := h.b1
    have hb2 := h.b2
    have hcr : F.disk_Disk_Crash o.F d = some (0, dropD o.F d) := by rw [crash_eq hF h.kd.b.ok, h.kd.b.off, if_neg (by decide)]
    obtain ⟨r', d', p', e, hK, hb, hs, hsh, hs0, hs1, hbo⟩ := again_eq (dn_idle h.kd o.F 8 0) hb1 (by omega) (.inr ⟨rfl, Nat.le_refl _⟩) (Int.le_refl _) (by decide) hcr
    have hKI : KI (k + 1) d' ⟨p.boot_ + 1, 0⟩ r' p' := {
      kd := hK
      base := hb
      slots := hs
      sh := hsh
      s0 := hs0
      s1 := by omega
      b1 := by omega
      b2 := by omega
      g1 := by show 1 ≤ p.boot_ + 1; omega
      g2 := by show p.boot_ + 1 ≤ _; omega
      n0 := Int.le_refl _
      n1 := by show (0 : Int) ≤ _; omega }
    obtain ⟨d2, g2, r2, p2, e2, hK2⟩ := r4_law hk hF (by omega) hc1 (g := ⟨p.boot_ + 1, 0⟩) (.inl ⟨rfl, hKI⟩)
    refine ⟨d2, g2, r2, p2, ?_, hK2⟩
    refine (congrArg (fun o => thru (Option.bind o _) _) e).trans ?_
    rw [Option.bind_some]
    dsimp only [optC]
    rw [thru_inl]
    exact e2
  rw [if_neg (by simpa using h7)]
  by_cases h8 : o.Kind = 8
  · rw [if_pos (by simpa using h8)]
    by_cases hi : 0 ≤ o.I
    · rw [if_pos (by simpa using hi)]
      have harm : F.disk_Disk_Arm o.I o.F d = some (0, (⟨d.sure_, d.wait_, d.off_, true, o.I, o.F, d.acts_, d.falls_⟩ : disk_Disk)) := by
        unfold F.disk_Disk_Arm
        rw [why_eq h.kd.b.ok.pos, Option.bind_some, whyB_in h.kd.b.off (Int.le_refl _) (by rw [h.kd.b.len]; decide), if_neg (by decide), if_neg (by simp; omega)]
      have hA : KI k ⟨d.sure_, d.wait_, d.off_, true, o.I, o.F, d.acts_, d.falls_⟩ g r p :=
        { h with kd := ⟨⟨⟨h.kd.b.ok.sec, h.kd.b.ok.keys, h.kd.b.ok.inr, h.kd.b.ok.pos, h.kd.b.ok.len⟩, h.kd.b.len, h.kd.b.off, h.kd.b.wait, hF⟩, h.kd.kn, h.kd.ks⟩ }
      obtain ⟨d2, g2, r2, p2, e2, hK2⟩ := r4_law hk hF (by omega) hc1 (.inl ⟨rfl, hA.up⟩)
      refine ⟨d2, g2, r2, p2, ?_, hK2⟩
      refine (congrArg (fun o => thru (Option.bind o _) _) harm).trans ?_
      rw [Option.bind_some, thru_inl]
      exact e2
    · rw [if_neg (by simpa using hi), thru_inl]
      exact r4_law hk hF (by omega) hc1 idle
  rw [if_neg (by simpa using h8), thru_inl]
  exact r4_law hk hF (by omega) hc1 idle
theorem run_law {l : List law13_Op} (hl : ∀ o ∈ l, FOk o.F ∧ 0 ≤ o.C ∧ o.C ≤ 255 ∧ o.List.length ≤ 1000000000000000000) {d : disk_Disk} {g : guard_Guard} {r : keyring_Ring} {p : law13_plain} (h : KI 0 d g r p) :
    ∃ z, iter (fun (x : ST) => F.law13_KeyringPlays.l6 l x.1 x.2.1 x.2.2.1 x.2.2.2.1 x.2.2.2.2.1 x.2.2.2.2.2.1 x.2.2.2.2.2.2.1 x.2.2.2.2.2.2.2.1 x.2.2.2.2.2.2.2.2.1 x.2.2.2.2.2.2.2.2.2.1 x.2.2.2.2.2.2.2.2.2.2.1 x.2.2.2.2.2.2.2.2.2.2.2.1 x.2.2.2.2.2.2.2.2.2.2.2.2.1 x.2.2.2.2.2.2.2.2.2.2.2.2.2.1 x.2.2.2.2.2.2.2.2.2.2.2.2.2.2.1 x.2.2.2.2.2.2.2.2.2.2.2.2.2.2.2.1 x.2.2.2.2.2.2.2.2.2.2.2.2.2.2.2.2.1 x.2.2.2.2.2.2.2.2.2.2.2.2.2.2.2.2.2.1 x.2.2.2.2.2.2.2.2.2.2.2.2.2.2.2.2.2.2.1 x.2.2.2.2.2.2.2.2.2.2.2.2.2.2.2.2.2.2.2.1 x.2.2.2.2.2.2.2.2.2.2.2.2.2.2.2.2.2.2.2.2.1 x.2.2.2.2.2.2.2.2.2.2.2.2.2.2.2.2.2.2.2.2.2.1 x.2.2.2.2.2.2.2.2.2.2.2.2.2.2.2.2.2.2.2.2.2.2.1 x.2.2.2.2.2.2.2.2.2.2.2.2.2.2.2.2.2.2.2.2.2.2.2.1 x.2.2.2.2.2.2.2.2.2.2.2.2.2.2.2.2.2.2.2.2.2.2.2.2) FUEL (st 0 d g r p) = some (.inl z) := by
  obtain ⟨z, e, q, hz⟩ := iter_up (f := fun (x : ST) => F.law13_KeyringPlays.l6 l x.1 x.2.1 x.2.2.1 x.2.2.2.1 x.2.2.2.2.1 x.2.2.2.2.2.1 x.2.2.2.2.2.2.1 x.2.2.2.2.2.2.2.1 x.2.2.2.2.2.2.2.2.1 x.2.2.2.2.2.2.2.2.2.1 x.2.2.2.2.2.2.2.2.2.2.1 x.2.2.2.2.2.2.2.2.2.2.2.1 x.2.2.2.2.2.2.2.2.2.2.2.2.1 x.2.2.2.2.2.2.2.2.2.2.2.2.2.1 x.2.2.2.2.2.2.2.2.2.2.2.2.2.2.1 x.2.2.2.2.2.2.2.2.2.2.2.2.2.2.2.1 x.2.2.2.2.2.2.2.2.2.2.2.2.2.2.2.2.1 x.2.2.2.2.2.2.2.2.2.2.2.2.2.2.2.2.2.1 x.2.2.2.2.2.2.2.2.2.2.2.2.2.2.2.2.2.2.1 x.2.2.2.2.2.2.2.2.2.2.2.2.2.2.2.2.2.2.2.1 x.2.2.2.2.2.2.2.2.2.2.2.2.2.2.2.2.2.2.2.2.1 x.2.2.2.2.2.2.2.2.2.2.2.2.2.2.2.2.2.2.2.2.2.1 x.2.2.2.2.2.2.2.2.2.2.2.2.2.2.2.2.2.2.2.2.2.2.1 x.2.2.2.2.2.2.2.2.2.2.2.2.2.2.2.2.2.2.2.2.2.2.2.1 x.2.2.2.2.2.2.2.2.2.2.2.2.2.2.2.2.2.2.2.2.2.2.2.2) (min l.length 40)
    (fun k (s : ST) => ∃ d g r p, s = st k d g r p ∧ KI k d g r p)
    (fun z => ∃ q, z = .inl q)
    (fun k s hk hI => by
      obtain ⟨d, g, r, p, rfl, hI⟩ := hI
      obtain ⟨o, ho⟩ := getq (l := l) (i := k) (by omega)
      obtain ⟨a1, a2, a3, a4⟩ := hl o (List.mem_of_getElem? ho)
      obtain ⟨d', g', r', p', e, hI'⟩ := step_law (by omega) ho a1 a2 a3 a4 hI
      exact .inl ⟨_, e, d', g', r', p', rfl, hI'⟩)
    (fun s hI => by
      obtain ⟨d, g, r, p, rfl, hI⟩ := hI
      refine ⟨.inl (st 0 d g r p).2, ?_, _, rfl⟩
      show F.law13_KeyringPlays.l6 l ((min l.length 40 : Nat) : Int) d.sure_ d.wait_ d.off_ d.armed_ d.left_ d.fall_.Keep d.fall_.Tear d.acts_ d.falls_ g.boot_ g.n_ r.base_ r.slots_ r.shred_ p.keys_.e0 p.keys_.e1 p.keys_.e2 p.keys_.e3 p.keys_.e4 p.keys_.e5 p.keys_.e6 p.keys_.e7 p.boot_ p.shred_ = some (.inr (.inl (st 0 d g r p).2))
      unfold F.law13_KeyringPlays.l6
      by_cases h1 : l.length ≤ 40
      · rw [if_neg (by simp; omega), thru_inr]; rfl
      · rw [if_pos (by simp; omega), if_neg (by simp; omega), thru_inr]; rfl)
    (s0 := st 0 d g r p) ⟨d, g, r, p, rfl, h⟩ (k := FUEL) (by rw [FUEL_eq]; omega)
  subst hz
  exact ⟨q, e⟩
theorem pure_plays (l : List law13_Op) (hl : ∀ o ∈ l, FOk o.F ∧ 0 ≤ o.C ∧ o.C ≤ 255 ∧ o.List.length ≤ 1000000000000000000) : F.law13_KeyringPlays l = some true := by
  unfold F.law13_KeyringPlays
  have hn := new_eq (n := 20) (by decide) (by decide)
  rw [show ((20 : Nat) : Int) = 20 from rfl] at hn
  rw [hn, Option.bind_some]
  dsimp only [optC]
  rw [Option.bind_some]
  unfold F.law13_KeyringPlays.r1
  have hlen : (newD 20).sure_.length = 20 := by unfold newD; rw [List.length_replicate]
  rw [made_eq hlen (by decide) (by decide), Option.bind_some]
  dsimp only [optC]
  have h0 : KI 0 (newD 20) ⟨1, 0⟩ ⟨5, 8, 0⟩ ⟨⟨0, 0, 0, 0, 0, 0, 0, 0⟩, 1, 0⟩ := {
    kd := ⟨⟨new_ok (by decide) (by decide), hlen, rfl, rfl, ⟨by decide, by decide⟩⟩, rfl, fun i hi => ⟨0, noL, by
      match i, hi with
      | 0, _ | 1, _ | 2, _ | 3, _ | 4, _ | 5, _ | 6, _ | 7, _ => rfl, .inl ⟨rfl, rfl⟩, new_cur (by omega) (by omega)⟩⟩
    base := rfl
    slots := rfl
    sh := rfl
    s0 := Int.le_refl _
    s1 := Int.le_refl _
    b1 := Int.le_refl _
    b2 := Int.le_refl _
    g1 := Int.le_refl _
    g2 := Int.le_refl _
    n0 := Int.le_refl _
    n1 := Int.le_refl _ }
  obtain ⟨z, e⟩ := run_law hl h0
  refine (congrArg (fun o => thru o _) e).trans ?_
  rw [thru_inl]
  unfold F.law13_KeyringPlays.r7
  rw [awake]
  rfl
theorem wf_u8 {n : Int} (h : (Lit.int .u8 n).wf = true) : 0 ≤ n ∧ n ≤ 255 := by
  have h1 : IntKind.u8.min = 0 := rfl
  have h2 : IntKind.u8.max = 255 := rfl
  have h : IntKind.u8.min ≤ n ∧ n ≤ IntKind.u8.max := by simpa [Lit.wf] using h
  rw [h1, h2] at h
  exact h
theorem pure_KeyringPlays (x0 : List law13_Op) {k1 k2 : Nat} (w0 : ∀ u ∈ x0, ((Lit.int .i64 u.Kind).wf = true) ∧ ((Lit.int .i64 u.I).wf = true) ∧ ((Lit.int .u8 u.C).wf = true) ∧ (∀ y ∈ u.List, (Lit.int .i64 y).wf = true) ∧ (((Lit.int .u64 u.F.Keep).wf = true) ∧ ((Lit.int .i64 u.F.Tear).wf = true)))
    (z0 : ∀ n ∈ (x0.length * k1 :: x0.flatMap fun u => (([] : List Nat) ++ ([] : List Nat) ++ ([] : List Nat) ++ (u.List.length * (k2 + 1) :: u.List.flatMap fun y => ([] : List Nat)) ++ (([] : List Nat) ++ ([] : List Nat)))), n ≤ 140737488351232) : F.law13_KeyringPlays x0 = some true := by
  refine pure_plays x0 fun o ho => ?_
  obtain ⟨_, _, h3, _, _, h5⟩ := w0 o ho
  have hC := wf_u8 h3
  refine ⟨⟨(wf_i64 h5).1, (wf_i64 h5).2⟩, hC.1, hC.2, ?_⟩
  have hz := z0 (o.List.length * (k2 + 1)) (List.mem_cons_of_mem _ (List.mem_flatMap.2 ⟨o, ho, by simp⟩))
  have : o.List.length ≤ o.List.length * (k2 + 1) := Nat.le_mul_of_pos_right _ (by omega)
  omega
end Go.Proofs.YtilpkebkhibpeaaGreatDoor
