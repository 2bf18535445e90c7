/- What any bytes of a sector are told as: the plain law. -/
import Derived.Test.YthebdiboijhjmaaDoorGReads
import Derived.Test.YthebdiboijhjmaaDoorPGuard
import Derived.Test.YthebdiboijhjmaaDoorPAwake10
namespace Go.Proofs.YthebdiboijhjmaaDoor
set_option linter.all false
open Go Go.RowKit Go.Fw
set_option maxRecDepth 100000
attribute [local irreducible] FUEL
theorem fix_val : ∀ (k : Nat) (l : List UInt8), l.length = k → fixI k (valL l : Int) = l
  | 0, l, h => by rw [List.length_eq_zero_iff.1 h]; rfl
  | k + 1, l, h => by
    rcases List.eq_nil_or_concat l with rfl | ⟨L, b, rfl⟩
    · simp at h
    · rw [List.concat_eq_append] at h ⊢
      have hb := u8_lt b
      unfold fixI
      rw [valL_snoc]
      have e1 : (((valL L * 256 + b.toNat : Nat) : Int)) / 256 = (valL L : Int) := by omega
      have e2 : ((((valL L * 256 + b.toNat : Nat) : Int)) % 256).toNat = b.toNat := by omega
      rw [e1, e2, fix_val k L (by simpa using h)]
      simp
theorem fix_congr : ∀ (k : Nat) (x y : Int), x % ((256 ^ k : Nat) : Int) = y % ((256 ^ k : Nat) : Int) → fixI k x = fixI k y := by
  intro k x y h
  have h1 := fixI_val k x
  have h2 := fixI_val k y
  have hv : valL (fixI k x) = valL (fixI k y) := by
    rw [← h2, ] at h
    rw [h] at h1
    exact Int.ofNat.inj h1
  have e1 := fix_val k (fixI k x) (fixI_len k x)
  have e2 := fix_val k (fixI k y) (fixI_len k y)
  rw [← e1, ← e2, hv]
theorem fix_num {l : List UInt8} (h : l.length = 8) : fixI 8 (num64 l) = l := by
  rw [num64_val]
  refine (fix_congr 8 _ _ ?_).trans (fix_val 8 l h)
  have : ((256 ^ 8 : Nat) : Int) = 18446744073709551616 := by decide
  rw [this]
  exact wrap_mod _
theorem noughts_eq {n : Int} (h0 : 0 ≤ n) (h1 : n ≤ 1000000) : F.law10_noughts n = some (ofL (List.replicate n.toNat 0)) := by
  unfold F.law10_noughts
  rw [chk_pos (by refine ⟨h0, ?_⟩; unfold room; omega), bstr_ofL, List.map_replicate]
  rfl
theorem gnew_eq {d : disk_Disk} (h : 1 ≤ d.sure_.length) {b : Int} (h1 : 1 ≤ b) (h2 : b ≤ 2147483647) : F.guard_New b d = some (some ⟨b, 0⟩, 0) := by
  unfold F.guard_New F.disk_Disk_Size
  rw [Option.bind_some, if_neg (by intro e; rw [beq_iff_eq] at e; omega), if_neg (by simp; omega), if_neg (by simp; omega), thru_inl]
  rfl
theorem made_eq {b : Int} (h1 : 1 ≤ b) (h2 : b ≤ 2147483647) : F.law10_made b = some (some (newD 10), some ⟨b, 0⟩) := by
  unfold F.law10_made
  have hn := new_eq (n := 10) (by decide) (by decide)
  rw [show ((10 : Nat) : Int) = 10 from rfl] at hn
  rw [hn, Option.bind_some]
  dsimp only [optC]
  rw [if_neg (by decide), thru_inl]
  unfold F.law10_made.r1
  rw [gnew_eq (new_ok (n := 10) (by decide) (by decide)).pos h1 h2, Option.bind_some]
  dsimp only [optC]
  rw [if_neg (by decide)]
theorem gget_eq {g : guard_Guard} {d : disk_Disk} (h : 1 ≤ d.sure_.length) {i : Int} (hw : whyB d i = 0) {b : List UInt8} (hc : curB d i = ofL b) (hb : b.length = 64) : F.guard_Guard_Get i g d = some (ofL (readL b).1, (readL b).2.1, (readL b).2.2) := by
  unfold F.guard_Guard_Get F.guard_Guard_none
  rw [Option.bind_some, gread_eq h hw hc hb]
  rfl
theorem gblank_eq {g : guard_Guard} {d : disk_Disk} (h : 1 ≤ d.sure_.length) {i : Int} (hw : whyB d i = 0) {b : List UInt8} (hc : curB d i = ofL b) (hb : b.length = 64) : F.guard_Guard_Blank i g d = some ((readL b).2.2 == 7) := by
  unfold F.guard_Guard_Blank F.guard_Guard_none
  rw [Option.bind_some, gget_eq h hw hc hb]
  rfl
theorem u8_zero {a : UInt8} : a = 0 ↔ a.toNat = 0 := ⟨fun h => by rw [h]; rfl, fun h => UInt8.toNat_inj.1 (by rw [h]; rfl)⟩
theorem high_eq {l : List UInt8} (h : l.length = 8) : 4294967296 ≤ num64 l ↔ ((l[0]?).getD 0).toNat < 128 ∧ l.take 4 ≠ List.replicate 4 0 := by
  match l, h with
  | [a, b, c, d, e, f, g, k], _ =>
    rw [num64_val]
    have hv : valL [a, b, c, d, e, f, g, k] = ((((((((0 * 256 + a.toNat) * 256 + b.toNat) * 256 + c.toNat) * 256 + d.toNat) * 256 + e.toNat) * 256 + f.toNat) * 256 + g.toNat) * 256 + k.toNat) := rfl
    rw [hv]
    have h1 := u8_lt a; have h2 := u8_lt b; have h3 := u8_lt c; have h4 := u8_lt d
    have h5 := u8_lt e; have h6 := u8_lt f; have h7 := u8_lt g; have h8 := u8_lt k
    have ht : ([a, b, c, d, e, f, g, k].take 4 = List.replicate 4 0) ↔ (a.toNat = 0 ∧ b.toNat = 0 ∧ c.toNat = 0 ∧ d.toNat = 0) := by
      rw [← u8_zero, ← u8_zero, ← u8_zero, ← u8_zero]
      simp [List.replicate]
    rw [Ne, ht]
    show _ ↔ a.toNat < 128 ∧ _
    rw [i64_as]
    split <;> omega
theorem pure_GuardReads (x0 : ByteArray) {w0 z0 : Prop} (_ : w0) (_ : z0) : F.law10_GuardReads x0 = some true := by
  unfold F.law10_GuardReads
  rw [made_eq (by decide) (by decide), Option.bind_some]
  dsimp only [optC]
  rw [Option.bind_some]
  unfold F.law10_GuardReads.r1
  by_cases h64 : x0.size = 64
  rotate_left
  · rw [if_pos (by simp; omega), awake]
    rfl
  rw [if_neg (by simp; omega)]
  have hok := new_ok (n := 10) (by decide) (by decide)
  have hlen : (newD 10).sure_.length = 10 := by unfold newD; rw [List.length_replicate]
  have hw : whyB (newD 10) 2 = 0 := whyB_in rfl (by decide) (by rw [hlen]; decide)
  rw [write_eq (show FOk (newD 10).fall_ from ⟨by decide, by decide⟩) hok, if_neg (fun e => e hw), if_neg (fun e => e h64), if_neg (by unfold due; intro e; cases e.1), Option.bind_some]
  dsimp only
  rw [if_neg (by decide), thru_inl]
  unfold F.law10_GuardReads.r2
  obtain ⟨b, rfl⟩ : ∃ b, x0 = ofL b := ⟨_, ofL_surj x0⟩
  have hb : b.length = 64 := by rw [ofL_size] at h64; exact h64
  generalize hD : writeD (newD 10) 2 (ofL b) = D
  have hlenD : D.sure_.length = 10 := by rw [← hD]; exact hlen
  have hp : 1 ≤ D.sure_.length := by omega
  have hwD : whyB D 2 = 0 := whyB_in (by rw [← hD]; rfl) (by decide) (by rw [hlenD]; decide)
  have hcD : curB D 2 = ofL b := by rw [← hD, cur_write, if_pos rfl]
  show Option.bind (F.guard_Read 2 D) _ = _
  rw [gread_eq hp hwD hcD hb, Option.bind_some, noughts_eq (by decide) (by decide), Option.bind_some]
  have hBl : ∀ g, F.guard_Guard_Blank 2 g D = some ((readL b).2.2 == 7) := fun g => gblank_eq hp hwD hcD hb
  have hno : ofL (List.replicate (Int.toNat 64) 0) = ofL noL := rfl
  rw [hno]
  dsimp only
  by_cases hn : b = noL
  · rw [hn, if_pos (seqB_refl _), no_read]
    dsimp only
    rw [if_pos emp_eq, if_pos (by decide), if_pos (by decide)]
    show thru (Option.bind (F.guard_Guard_Blank 2 _ D) _) _ = _
    rw [hBl, Option.bind_some, hn, no_read, if_pos (by decide), awake]
    rfl
  rw [if_neg (fun e => hn (ofL_inj (seqB_iff.1 e))), thru_inl]
  unfold F.law10_GuardReads.r3
  have hlt := nB_lt b
  rw [ofL_size, hb, chk_pos (by decide), chk_pos (by decide), chk_pos (by decide), ofL_extract, ofL_extract, bt8]
  have e1 : (b.take (8 : Int).toNat).drop (0 : Int).toNat = b.take 8 := rfl
  have e2 : (b.take (((64 : Nat) : Int)).toNat).drop (56 : Int).toNat = b.drop 56 := by
    rw [List.take_of_length_le (by rw [hb]; decide)]; rfl
  have e3 : (b.take (4 : Int).toNat).drop (0 : Int).toNat = (b.take 8).take 4 := by rw [List.take_take]; rfl
  have e4 : bt (ofL b) 0 = ((((b.take 8)[0]?).getD 0).toNat : Int) := by
    rw [bt_ofL, List.getElem?_take_of_lt (by decide)]
    rfl
  rw [e1, e2, chk_pos (by decide), chk_pos (by decide), ofL_extract, e3, e4, noughts_eq (by decide) (by decide), Option.bind_some]
  have h8 : (b.take 8).length = 8 := by rw [List.length_take]; omega
  have hh := high_eq h8
  -- the law's 'right' so far
  have hright : (if seqB (ofL (b.take 8)) (ofL (b.drop 56)) = true then (if decide (((((b.take 8)[0]?).getD 0).toNat : Int) < 128) = true then (if (!(seqB (ofL ((b.take 8).take 4)) (ofL (List.replicate (Int.toNat 4) 0)))) = true then some (decide ((nB b : Int) ≤ 47)) else some false) else some false) else some false) = some (decide (b.take 8 = b.drop 56 ∧ 4294967296 ≤ num64 (b.take 8) ∧ nB b ≤ 47)) := by
    by_cases h1 : b.take 8 = b.drop 56
    · rw [if_pos (seqB_iff.2 (by rw [h1]))]
      by_cases h2 : (((b.take 8)[0]?).getD 0).toNat < 128
      · rw [if_pos (by simp only [decide_eq_true_eq]; omega)]
        by_cases h3 : (b.take 8).take 4 = List.replicate 4 0
        · have hnot : ¬ (4294967296 ≤ num64 (b.take 8)) := fun e => (hh.1 e).2 h3
          have : seqB (ofL ((b.take 8).take 4)) (ofL (List.replicate (Int.toNat 4) 0)) = true := seqB_iff.2 (by rw [h3]; rfl)
          rw [this, if_neg (by decide)]
          simp [hnot]
        · have hyes : 4294967296 ≤ num64 (b.take 8) := hh.2 ⟨h2, h3⟩
          have : seqB (ofL ((b.take 8).take 4)) (ofL (List.replicate (Int.toNat 4) 0)) = false := by
            cases hs : seqB (ofL ((b.take 8).take 4)) (ofL (List.replicate (Int.toNat 4) 0)) with
            | false => rfl
            | true => exact absurd (ofL_inj (seqB_iff.1 hs)) h3
          rw [this, if_pos (by decide)]
          congr 1
          rw [decide_eq_decide]
          exact ⟨fun e => ⟨h1, hyes, by omega⟩, fun e => by have := e.2.2; omega⟩
      · have hnot : ¬ (4294967296 ≤ num64 (b.take 8)) := fun e => h2 (hh.1 e).1
        rw [if_neg (by simp only [decide_eq_true_eq]; omega)]
        simp [hnot]
    · rw [if_neg (fun e => h1 (ofL_inj (seqB_iff.1 e)))]
      simp [h1]
  rw [hright, Option.bind_some]
  unfold F.law10_GuardReads.r4
  have hstep : (if decide (b.take 8 = b.drop 56 ∧ 4294967296 ≤ num64 (b.take 8) ∧ nB b ≤ 47) = true then (chk (0 ≤ (IntKind.i64.wrap (9 + (IntKind.i64.wrap (bt (ofL b) 8)))) ∧ (IntKind.i64.wrap (9 + (IntKind.i64.wrap (bt (ofL b) 8)))) ≤ (56 : Int) ∧ (56 : Int) ≤ ((ofL b).size : Int)) (Option.bind (F.law10_noughts (IntKind.i64.wrap (47 - (IntKind.i64.wrap (bt (ofL b) 8))))) (fun (r87 : ByteArray) => some ((seqB ((ofL b).extract (IntKind.i64.wrap (9 + (IntKind.i64.wrap (bt (ofL b) 8)))).toNat (56 : Int).toNat) r87))))) else (some (decide (b.take 8 = b.drop 56 ∧ 4294967296 ≤ num64 (b.take 8) ∧ nB b ≤ 47)))) = some (decide (wholeL b)) := by
    by_cases h1 : b.take 8 = b.drop 56 ∧ 4294967296 ≤ num64 (b.take 8) ∧ nB b ≤ 47
    · have h3 := h1.2.2
      rw [if_pos (by simpa using h1), bt8, ofL_size, hb, w64 (n := 9 + (nB b : Int)) (by omega) (by omega), w64 (n := 47 - (nB b : Int)) (by omega) (by omega), chk_pos (by omega), noughts_eq (by omega) (by omega), Option.bind_some, ofL_extract]
      have ea : ((9 : Int) + (nB b : Int)).toNat = 9 + nB b := by omega
      have eb : ((47 : Int) - (nB b : Int)).toNat = 47 - nB b := by omega
      rw [ea, eb]
      have er : (b.take (56 : Int).toNat).drop (9 + nB b) = restL b := rfl
      have erl : (restL b).length = 47 - nB b := by unfold restL; rw [List.length_drop, List.length_take]; omega
      rw [er]
      congr 1
      have hiff : seqB (ofL (restL b)) (ofL (List.replicate (47 - nB b) 0)) = true ↔ ∀ x ∈ restL b, x = 0 := by
        rw [seqB_iff]
        constructor
        · intro e x hx
          rw [ofL_inj e] at hx
          exact (List.mem_replicate.1 hx).2
        · intro e
          rw [List.eq_replicate_iff.2 ⟨erl, e⟩]
      cases hs : seqB (ofL (restL b)) (ofL (List.replicate (47 - nB b) 0)) with
      | true => exact (decide_eq_true (show wholeL b from ⟨h1.1, h1.2.1, h1.2.2, hiff.1 hs⟩)).symm
      | false => exact (decide_eq_false (fun e : wholeL b => by rw [hiff.2 e.2.2.2] at hs; cases hs)).symm
    · rw [if_neg (by simpa using h1)]
      congr 1
      rw [decide_eq_decide]
      exact ⟨fun e => absurd e h1, fun e => ⟨e.1, e.2.1, e.2.2.1⟩⟩
  refine (congrArg (fun o => Option.bind o _) hstep).trans ?_
  rw [Option.bind_some]
  unfold F.law10_GuardReads.r5
  by_cases hwh : wholeL b
  · have hR : readL b = ((b.take (9 + nB b)).drop 9, num64 (b.take 8), 0) := by unfold readL; rw [if_neg hn, if_pos hwh]
    have h3 := hwh.2.2.1
    rw [decide_eq_true hwh, if_neg (by decide), thru_inl]
    unfold F.law10_GuardReads.r6
    rw [hR, bt8, ofL_size, hb, w64 (n := 9 + (nB b : Int)) (by omega) (by omega), chk_pos (by omega), ofL_extract]
    have ea : ((9 : Int) + (nB b : Int)).toNat = 9 + nB b := by omega
    rw [ea]
    dsimp only
    rw [if_pos (c := seqB (ofL ((b.take (9 + nB b)).drop 9)) (ofL ((b.take (9 + nB b)).drop (9 : Int).toNat)) = true) (seqB_refl _), chk_pos (by decide), eight_eq, Option.bind_some, ofL_extract, e1, fix_num h8, if_pos (seqB_refl _), if_pos (by decide), awake]
    rfl
  · have hR : readL b = ([], 0, 17) := by unfold readL; rw [if_neg hn, if_neg hwh]
    rw [decide_eq_false hwh, if_pos (by decide), hR]
    dsimp only
    rw [if_pos emp_eq, if_pos (by decide), if_pos (by decide)]
    show thru (Option.bind (F.guard_Guard_Blank 2 _ D) _) _ = _
    rw [hBl, hR, Option.bind_some, if_pos (by decide), awake]
    rfl
end Go.Proofs.YthebdiboijhjmaaDoor
