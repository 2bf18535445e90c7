/- Which super is loaded of any two sectors that are guarded, or noughts: the plain law. -/
import Derived.Test.YtgbciaegbpkpaaaGreatDoorGLoads
import Derived.Test.YtgbciaegbpkpaaaGreatDoorPLoad
import Derived.Test.YtgbciaegbpkpaaaGreatDoorPAwake11
namespace Go.Proofs.YtgbciaegbpkpaaaGreatDoor
set_option linter.all false
open Go Go.RowKit Go.Fw
set_option maxRecDepth 100000
attribute [local irreducible] FUEL
/-! ### any reader answers -/
def WR (b : List UInt8) (r : octet_Reader) : Prop := (∃ k : Nat, k ≤ b.length ∧ r = ⟨ofL b, (k : Int), 0⟩) ∨ (∃ j e : Int, e ≠ 0 ∧ r = ⟨ofL b, j, e⟩)
theorem text_tot {b : List UInt8} (hb : b.length ≤ 1000) (max : Nat) : ∃ x r, F.octet_Reader_Text (max : Int) ⟨ofL b, 0, 0⟩ = some (x, r) ∧ WR b r := by
  have h := text_rd (s := b) (by omega) (Nat.zero_le _) max
  rw [show ((0 : Nat) : Int) = 0 from rfl] at h
  rcases h with ⟨l, k, _, _, h3, h4⟩ | ⟨j, e, he, h4, _⟩
  · exact ⟨_, _, h4, .inl ⟨k, h3, rfl⟩⟩
  · exact ⟨_, _, h4, .inr ⟨j, e, he, rfl⟩⟩
theorem num_tot {b : List UInt8} (hb : b.length ≤ 1000) (max : Nat) {r : octet_Reader} (h : WR b r) : ∃ (n : Int) (r' : octet_Reader), F.octet_Reader_Num (max : Int) r = some (n, r') ∧ WR b r' ∧ 0 ≤ n ∧ n ≤ (max : Int) := by
  rcases h with ⟨k, hk, rfl⟩ | ⟨j, e, he, rfl⟩
  · rcases num_rd (s := b) (by omega) hk max with ⟨n, k', h1, _, _, _, h5, h6⟩ | ⟨j, e, he, h6, _⟩
    · exact ⟨_, _, h6, .inl ⟨k', h5, rfl⟩, by omega, by omega⟩
    · exact ⟨_, _, h6, .inr ⟨j, e, he, rfl⟩, by omega, by omega⟩
  · exact ⟨_, _, num_bad he, .inr ⟨j, e, he, rfl⟩, by omega, by omega⟩
theorem end_tot {b : List UInt8} (hb : b.length ≤ 1000) {r : octet_Reader} (h : WR b r) : ∃ (e : Int) (r' : octet_Reader), F.octet_Reader_End r = some (e, r') := by
  rcases h with ⟨k, hk, rfl⟩ | ⟨j, e, he, rfl⟩
  · obtain ⟨r', e⟩ := end_ok (s := b) (by omega) hk
    exact ⟨_, _, e⟩
  · exact ⟨_, _, end_bad he⟩
theorem is_super {b : List UInt8} (hb : b.length ≤ 1000) (g : Int) : ∃ v, F.law11_isSuper (ofL b) g = some v ∧ (v = true → ∃ t, RightP t ∧ t.Gen = g ∧ b = supL t) := by
  unfold F.law11_isSuper F.octet_Read
  rw [Option.bind_some]
  obtain ⟨x, r, e, h⟩ := text_tot hb 100
  rw [show ((100 : Nat) : Int) = 100 from rfl] at e
  rw [e, Option.bind_some]
  dsimp only
  obtain ⟨n1, r1, e1, h1, _⟩ := num_tot hb 2147483647 h
  rw [show ((2147483647 : Nat) : Int) = 2147483647 from rfl] at e1
  rw [e1, Option.bind_some]
  dsimp only
  obtain ⟨n2, r2, e2, h2, _⟩ := num_tot hb 2147483647 h1
  rw [show ((2147483647 : Nat) : Int) = 2147483647 from rfl] at e2
  rw [e2, Option.bind_some]
  dsimp only
  obtain ⟨n3, r3, e3, h3, _⟩ := num_tot hb 1 h2
  rw [show ((1 : Nat) : Int) = 1 from rfl] at e3
  rw [e3, Option.bind_some]
  dsimp only
  obtain ⟨n4, r4, e4, h4, _⟩ := num_tot hb 2147483647 h3
  rw [show ((2147483647 : Nat) : Int) = 2147483647 from rfl] at e4
  rw [e4, Option.bind_some]
  dsimp only
  obtain ⟨er, r5, e5⟩ := end_tot hb h4
  rw [e5, Option.bind_some]
  dsimp only
  by_cases hz : er = 0
  rotate_left
  · rw [if_neg (by simpa using hz)]
    exact ⟨_, rfl, fun e => Bool.noConfusion e⟩
  rw [if_pos (by simpa using hz), right2_eq, Option.bind_some]
  by_cases hr : RightP ⟨n1, n2, n3, n4⟩
  rotate_left
  · rw [decide_eq_false hr, if_neg (by decide)]
    exact ⟨_, rfl, fun e => Bool.noConfusion e⟩
  rw [decide_eq_true hr, if_pos rfl]
  by_cases hg : n1 = g
  rotate_left
  · rw [if_neg (by simpa using hg)]
    exact ⟨_, rfl, fun e => Bool.noConfusion e⟩
  rw [if_pos (by simpa using hg), bytes_eq hr, Option.bind_some]
  exact ⟨_, rfl, fun e => ⟨_, hr, hg, (ofL_inj (seqB_iff.1 e)).symm⟩⟩
/-! ### the best of two -/
theorem best_of (rA rB : super_Super × Bool) (hA : rA.2 = true → 1 ≤ rA.1.Gen) (hB : rB.2 = true → 1 ≤ rB.1.Gen) :
    (rA.2 = true → rA.1.Gen.tmod 2 = 0 → rA.1.Gen ≤ (stepS 1 0 rB (stepS 0 0 rA zSup)).Gen) ∧ (rB.2 = true → rB.1.Gen.tmod 2 = 1 → rB.1.Gen ≤ (stepS 1 0 rB (stepS 0 0 rA zSup)).Gen) ∧
    (stepS 1 0 rB (stepS 0 0 rA zSup) = zSup ∨ (stepS 1 0 rB (stepS 0 0 rA zSup) = rA.1 ∧ rA.2 = true ∧ rA.1.Gen.tmod 2 = 0) ∨ (stepS 1 0 rB (stepS 0 0 rA zSup) = rB.1 ∧ rB.2 = true ∧ rB.1.Gen.tmod 2 = 1)) := by
  have hz : zSup.Gen = 0 := rfl
  by_cases h0 : (0 : Int) = 0 ∧ rA.2 = true ∧ rA.1.Gen.tmod 2 = 0 ∧ zSup.Gen < rA.1.Gen
  · have e0 : stepS 0 0 rA zSup = rA.1 := by unfold stepS; rw [if_pos h0]
    rw [e0]
    by_cases h1 : (0 : Int) = 0 ∧ rB.2 = true ∧ rB.1.Gen.tmod 2 = 1 ∧ rA.1.Gen < rB.1.Gen
    · have e1 : stepS 1 0 rB rA.1 = rB.1 := by unfold stepS; rw [if_pos h1]
      rw [e1]
      exact ⟨fun _ _ => by have := h1.2.2.2; omega, fun _ _ => Int.le_refl _, .inr (.inr ⟨rfl, h1.2.1, h1.2.2.1⟩)⟩
    · have e1 : stepS 1 0 rB rA.1 = rA.1 := by unfold stepS; rw [if_neg h1]
      rw [e1]
      refine ⟨fun _ _ => Int.le_refl _, fun q1 q2 => ?_, .inr (.inl ⟨rfl, h0.2.1, h0.2.2.1⟩)⟩
      rcases Int.lt_or_le rA.1.Gen rB.1.Gen with hh | hh
      · exact absurd ⟨rfl, q1, q2, hh⟩ h1
      · exact hh
  · have e0 : stepS 0 0 rA zSup = zSup := by unfold stepS; rw [if_neg h0]
    rw [e0]
    have nA : rA.2 = true → rA.1.Gen.tmod 2 = 0 → False := fun q1 q2 => h0 ⟨rfl, q1, q2, by have := hA q1; omega⟩
    by_cases h1 : (0 : Int) = 0 ∧ rB.2 = true ∧ rB.1.Gen.tmod 2 = 1 ∧ zSup.Gen < rB.1.Gen
    · have e1 : stepS 1 0 rB zSup = rB.1 := by unfold stepS; rw [if_pos h1]
      rw [e1]
      exact ⟨fun q1 q2 => (nA q1 q2).elim, fun _ _ => Int.le_refl _, .inr (.inr ⟨rfl, h1.2.1, h1.2.2.1⟩)⟩
    · have e1 : stepS 1 0 rB zSup = zSup := by unfold stepS; rw [if_neg h1]
      rw [e1]
      exact ⟨fun q1 q2 => (nA q1 q2).elim, fun q1 q2 => absurd ⟨rfl, q1, q2, by have := hB q1; omega⟩ h1, .inl rfl⟩
/-- the law's look at the other sector -/
theorem other_eq {best : super_Super} (hbest : RightP best) {here oth : List UInt8} (hh : here = supL best) (hb : oth.length ≤ 1000) (hno : ∀ t, RightP t → oth = supL t → t.Gen.tmod 2 ≠ best.Gen.tmod 2 → t.Gen ≤ best.Gen) : F.law11_SuperLoads.r5 (best, 0) (ofL here) (ofL oth) = some true := by
  have hg1 := hbest.1
  have hg2 := hbest.2.1
  unfold F.law11_SuperLoads.r5 F.octet_Read
  rw [Option.bind_some]
  obtain ⟨x, r, e, h⟩ := text_tot hb 100
  rw [show ((100 : Nat) : Int) = 100 from rfl] at e
  rw [e, Option.bind_some]
  dsimp only
  obtain ⟨g, r1, e1, h1, q1, q2⟩ := num_tot hb 2147483647 h
  rw [show ((2147483647 : Nat) : Int) = 2147483647 from rfl] at e1 q2
  rw [e1, Option.bind_some]
  dsimp only
  have hcond : (if seqB x (ByteArray.mk #[67, 72, 65, 82, 84, 49]) = true then (if decide (g > best.Gen) = true then (if ((IntKind.i64.wrap (g - best.Gen)).tmod 2 == 1) = true then (Option.bind (F.law11_isSuper (ofL oth) g) (fun (r72 : Bool) => some (r72))) else (some (false))) else (some (false))) else (some (false))) = some false := by
    by_cases c1 : seqB x (ByteArray.mk #[67, 72, 65, 82, 84, 49]) = true
    rotate_left
    · rw [if_neg c1]
    rw [if_pos c1]
    by_cases c2 : g > best.Gen
    rotate_left
    · rw [if_neg (by simpa using c2)]
    rw [if_pos (by simpa using c2), w64 (by omega) (by omega)]
    by_cases c3 : (g - best.Gen).tmod 2 = 1
    rotate_left
    · rw [if_neg (by simpa using c3)]
    rw [if_pos (by simpa using c3)]
    obtain ⟨v, ev, hv⟩ := is_super hb g
    rw [ev, Option.bind_some]
    cases v with
    | false => rfl
    | true =>
      exfalso
      obtain ⟨t, ht, htg, hto⟩ := hv rfl
      have := hno t ht hto (by
        rw [htg]
        rw [Int.tmod_eq_emod_of_nonneg (by omega)] at c3
        rw [Int.tmod_eq_emod_of_nonneg (by omega), Int.tmod_eq_emod_of_nonneg (by omega)]
        omega)
      omega
  rw [hcond, Option.bind_some]
  unfold F.law11_SuperLoads.r6
  rw [bytes_eq hbest, Option.bind_some, hh, if_pos (seqB_refl _), if_pos (by decide), awake]
  rfl
theorem pure_SuperLoads (x0 x1 : ByteArray) {w0 z0 w1 z1 : Prop} (_ : w0) (_ : z0) (_ : w1) (_ : z1) : F.law11_SuperLoads x0 x1 = some true := by
  unfold F.law11_SuperLoads
  rw [made4, Option.bind_some]
  dsimp only [optC]
  obtain ⟨a, rfl⟩ : ∃ s, x0 = ofL s := ⟨_, ofL_surj x0⟩
  obtain ⟨b, rfl⟩ : ∃ s, x1 = ofL s := ⟨_, ofL_surj x1⟩
  rw [ofL_size, ofL_size]
  have hc : (if decide ((a.length : Int) > 47) = true then some true else some (decide ((b.length : Int) > 47))) = some (decide (47 < a.length ∨ 47 < b.length)) := by
    by_cases h : 47 < a.length
    · rw [if_pos (by simp; omega)]; simp [h]
    · rw [if_neg (by simp; omega)]
      congr 1
      rw [decide_eq_decide]
      omega
  rw [hc, Option.bind_some]
  unfold F.law11_SuperLoads.r2
  by_cases h : 47 < a.length ∨ 47 < b.length
  · rw [decide_eq_true h, if_pos rfl, awake]
    rfl
  rw [decide_eq_false h, if_neg (by decide), thru_inl]
  unfold F.law11_SuperLoads.r3
  have hla : a.length ≤ 47 := by omega
  have hlb : b.length ≤ 47 := by omega
  have hw0 : whyB (newD 4) 0 = 0 := whyB_in rfl (by decide) (by rw [ok4_new.len]; decide)
  rw [gput_eq g10 ok4_new.fall ok4_new.ok 0 a (by omega), if_neg (by omega), if_neg (fun e => e hw0), if_neg ok4_new.due, Option.bind_some]
  dsimp only
  have sa : (secL (stampG ⟨1, 0⟩) a).length = 64 := secL_len hla
  have okA : Ok4 (writeD (newD 4) 0 (ofL (secL (stampG ⟨1, 0⟩) a))) := ⟨write_ok ok4_new.ok (by decide) (by rw [ok4_new.len]; decide) (by rw [ofL_size, sa]), ok4_new.len, rfl, rfl, ok4_new.fall⟩
  have cA : ∀ k, curB (writeD (newD 4) 0 (ofL (secL (stampG ⟨1, 0⟩) a))) k = if k = 0 then ofL (secL (stampG ⟨1, 0⟩) a) else curB (newD 4) k := fun k => cur_write _ _ _ _
  generalize writeD (newD 4) 0 (ofL (secL (stampG ⟨1, 0⟩) a)) = D1 at okA cA
  have hw1 : whyB D1 1 = 0 := whyB_in okA.off (by decide) (by rw [okA.len]; decide)
  rw [gput_eq g11 okA.fall okA.ok 1 b (by omega), if_neg (by omega), if_neg (fun e => e hw1), if_neg okA.due, Option.bind_some]
  dsimp only
  have sb : (secL (stampG (upG ⟨1, 0⟩)) b).length = 64 := secL_len hlb
  have okB : Ok4 (writeD D1 1 (ofL (secL (stampG (upG ⟨1, 0⟩)) b))) := ⟨write_ok okA.ok (by decide) (by rw [okA.len]; decide) (by rw [ofL_size, sb]), okA.len, okA.off, okA.armed, okA.fall⟩
  have cB : ∀ k, curB (writeD D1 1 (ofL (secL (stampG (upG ⟨1, 0⟩)) b))) k = if k = 1 then ofL (secL (stampG (upG ⟨1, 0⟩)) b) else curB D1 k := fun k => cur_write _ _ _ _
  generalize writeD D1 1 (ofL (secL (stampG (upG ⟨1, 0⟩)) b)) = D2 at okB cB
  have ra : readL (secL (stampG ⟨1, 0⟩) a) = (a, 4294967297, 0) := by rw [st10]; exact sec_read (by decide) (by decide) hla
  have rb : readL (secL (stampG (upG ⟨1, 0⟩)) b) = (b, 4294967298, 0) := by rw [st11]; exact sec_read (by decide) (by decide) hlb
  obtain ⟨sA, vA, eA, hA⟩ := sread_eq (b := a) (by omega)
  obtain ⟨sB, vB, eB, hB⟩ := sread_eq (b := b) (by omega)
  have hload := load_eq (d := D2) okB.ok.pos (whyB_in okB.off (by decide) (by rw [okB.len]; decide)) (whyB_in okB.off (by decide) (by rw [okB.len]; decide)) (R0 := secL (stampG ⟨1, 0⟩) a) (R1 := secL (stampG (upG ⟨1, 0⟩)) b)
    (by rw [cB, if_neg (by decide), cA, if_pos rfl]) (by rw [cB, if_pos rfl]) sa sb (r0 := (sA, vA)) (r1 := (sB, vB)) (fun _ => by rw [ra]; exact eA) (fun _ => by rw [rb]; exact eB)
  rw [ra, rb] at hload
  rw [hload, Option.bind_some]
  have gA : vA = true → 1 ≤ sA.Gen := fun e => by rcases hA with hh | hh; exact hh.2.1.1; rw [hh.1] at e; cases e
  have gB : vB = true → 1 ≤ sB.Gen := fun e => by rcases hB with hh | hh; exact hh.2.1.1; rw [hh.1] at e; cases e
  obtain ⟨b1, b2, b3⟩ := best_of (sA, vA) (sB, vB) gA gB
  generalize stepS 1 0 (sB, vB) (stepS 0 0 (sA, vA) zSup) = best at b1 b2 b3
  unfold outS
  have goA : ∀ t, RightP t → a = supL t → t.Gen.tmod 2 = 0 → t.Gen ≤ best.Gen := fun t ht hto hp => by
    rcases hA with ⟨q1, q2, q3⟩ | ⟨_, q⟩
    · have : sA = t := sup_inj q2 ht (by rw [← q3, hto])
      rw [← this] at hp ⊢
      exact b1 q1 hp
    · exact absurd hto (q t ht)
  have goB : ∀ t, RightP t → b = supL t → t.Gen.tmod 2 = 1 → t.Gen ≤ best.Gen := fun t ht hto hp => by
    rcases hB with ⟨q1, q2, q3⟩ | ⟨_, q⟩
    · have : sB = t := sup_inj q2 ht (by rw [← q3, hto])
      rw [← this] at hp ⊢
      exact b2 q1 hp
    · exact absurd hto (q t ht)
  rcases b3 with hbz | ⟨hbA, hv, hp⟩ | ⟨hbB, hv, hp⟩
  · rw [if_pos (c := best.Gen = 0) (by rw [hbz]; rfl)]
    dsimp only
    rw [if_pos (by decide), if_pos (by decide), if_pos (by decide), awake]
    rfl
  · dsimp only at hbA hv hp
    have hr : RightP sA ∧ a = supL sA := by rcases hA with hh | hh; exact ⟨hh.2.1, hh.2.2⟩; rw [hh.1] at hv; cases hv
    have hg := hr.1.1
    rw [if_neg (c := best.Gen = 0) (by rw [hbA]; omega)]
    dsimp only
    rw [if_neg (by decide), thru_inl]
    unfold F.law11_SuperLoads.r4
    dsimp only
    rw [hbA, right2_eq, decide_eq_true hr.1, Option.bind_some, if_neg (by decide), if_neg (by rw [hp]; decide), Option.bind_some]
    refine other_eq hr.1 hr.2 (by omega) (fun t ht hto hn => ?_)
    rw [← hbA]
    refine goB t ht hto ?_
    rcases gen_mod ht with h0 | h0
    · rw [hp] at hn; exact absurd h0 hn
    · exact h0
  · dsimp only at hbB hv hp
    have hr : RightP sB ∧ b = supL sB := by rcases hB with hh | hh; exact ⟨hh.2.1, hh.2.2⟩; rw [hh.1] at hv; cases hv
    have hg := hr.1.1
    rw [if_neg (c := best.Gen = 0) (by rw [hbB]; omega)]
    dsimp only
    rw [if_neg (by decide), thru_inl]
    unfold F.law11_SuperLoads.r4
    dsimp only
    rw [hbB, right2_eq, decide_eq_true hr.1, Option.bind_some, if_neg (by decide), if_pos (by rw [hp]; decide), Option.bind_some]
    refine other_eq hr.1 hr.2 (by omega) (fun t ht hto hn => ?_)
    rw [← hbB]
    refine goA t ht hto ?_
    rcases gen_mod ht with h0 | h0
    · exact h0
    · rw [hp] at hn; exact absurd h0 hn
end Go.Proofs.YtgbciaegbpkpaaaGreatDoor
