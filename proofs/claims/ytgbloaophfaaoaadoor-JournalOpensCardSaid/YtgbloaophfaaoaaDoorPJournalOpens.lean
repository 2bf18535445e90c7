/- Which journals there are, and that one of noughts, or of any seed that nothing hangs to, is empty: the plain law. -/
import Derived.Test.YtgbloaophfaaoaaDoorGOpensb
import Derived.Test.YtgbloaophfaaoaaDoorPJournalOpen
import Derived.Test.YtgbloaophfaaoaaDoorPAwake12
namespace Go.Proofs.YtgbloaophfaaoaaDoor
set_option linter.all false
open Go Go.RowKit Go.Fw
set_option maxRecDepth 100000
attribute [local irreducible] FUEL
theorem nil_open (b s e : Int) : F.journal_Open_1 b s e = some 1 := rfl
theorem argJ (b s e : Int) : (if decide (b < 0) = true then some true else if decide (s < 1) = true then some true else if decide (e < 1) = true then some true else some (decide (e > 4294967295))) = some (decide (b < 0 ∨ s < 1 ∨ e < 1 ∨ e > 4294967295)) := by
  by_cases h1 : b < 0
  · rw [if_pos (by simpa using h1)]; simp [h1]
  rw [if_neg (by simpa using h1)]
  by_cases h2 : s < 1
  · rw [if_pos (by simpa using h2)]; simp [h2]
  rw [if_neg (by simpa using h2)]
  by_cases h3 : e < 1
  · rw [if_pos (by simpa using h3)]; simp [h3]
  rw [if_neg (by simpa using h3)]
  simp [h1, h2, h3]
theorem rngJ {b s n : Int} (h0 : 0 ≤ b) (h1 : 0 ≤ n) (h2 : n ≤ 100) (h3 : b ≤ 9223372036854775807) : (if decide (b > n) = true then some true else some (decide (s > IntKind.i64.wrap (n - b)))) = some (decide (b > n ∨ s > n - b)) := by
  by_cases h : b > n
  · rw [if_pos (by simpa using h)]; simp [h]
  · rw [if_neg (by simpa using h), w64 (by omega) (by omega)]; simp [h]
/-- a disk that was made anew has no record -/
theorem jd_new {n : Nat} (h1 : 1 ≤ n) (h2 : n ≤ 100) : Jd n [] 0 (newD n) := ⟨by unfold newD; rw [List.length_replicate], rfl, h1, by omega, .inl rfl, fun i hi => absurd hi (by omega), fun j hj _ => new_cur (by omega) (by omega)⟩
theorem open_gen {n : Nat} (h1 : 1 ≤ n) (h2 : n ≤ 100) : F.law12_open 1 (newD n) = some (if n < 63 then none else some (j0, ⟨1, 0⟩)) := by
  have hlen : (newD n).sure_.length = n := by unfold newD; rw [List.length_replicate]
  have hok := new_ok (n := n) h1 (by omega)
  unfold F.law12_open
  rw [gnew_eq hok.pos (by decide) (by decide), Option.bind_some]
  dsimp only [optC]
  rw [open_head (by decide) (by omega) (by decide), hlen]
  by_cases hn : n < 63
  · rw [if_pos (c := (3 : Int) > (n : Int) ∨ (60 : Int) > (n : Int) - 3) (by omega), if_pos hn, Option.bind_some]
    dsimp only [optC]
    rw [if_pos (by decide)]
  · rw [if_neg (c := (3 : Int) > (n : Int) ∨ (60 : Int) > (n : Int) - 3) (by omega), if_neg hn]
    have hrec : F.journal_Journal_record_1 0 7 j0 ⟨1, 0⟩ (newD n) = some (ByteArray.mk #[], 0, 0, 0) := record_none (part_blank (by decide) hok.pos (q := 3) rfl (whyB_in rfl (by decide) (by rw [hlen]; omega)) (b := noL) (new_cur (by decide) (by omega)) rfl (.inl (by rw [no_read])))
    have e := iter_count (f := fun (x : Int × Int × Int × Int × List ByteArray × Int × Bool) => F.journal_Open.l3 ⟨1, 0⟩ (newD n) x.1 x.2.1 x.2.2.1 x.2.2.2.1 x.2.2.2.2.1 x.2.2.2.2.2.1 x.2.2.2.2.2.2) (fun _ => (3, 60, 0, 7, [], 0, false)) (n := 0) (r := .inl (3, 60, 0, 7, [], 0, false)) (fun k hk => absurd hk (by omega))
      (by
        show F.journal_Open.l3 ⟨1, 0⟩ (newD n) 3 60 0 7 [] 0 false = _
        unfold F.journal_Open.l3
        show Option.bind (F.journal_Journal_record_1 0 7 j0 ⟨1, 0⟩ (newD n)) _ = _
        rw [hrec]
        rfl) (k := FUEL) (by rw [FUEL_eq]; omega)
    have hr2 : F.journal_Open.r2 3 60 7 ⟨1, 0⟩ (newD n) = some (some j0, 0) := by
      unfold F.journal_Open.r2
      refine (congrArg (fun o => thru o _) e).trans ?_
      rw [thru_inl]
      rfl
    rw [hr2, Option.bind_some]
theorem used_eq (j : journal_Journal) (g : guard_Guard) (d : disk_Disk) : F.journal_Journal_Used j g d = some j.next_ := rfl
theorem records_eq (j : journal_Journal) (g : guard_Guard) (d : disk_Disk) (h : j.list_.length ≤ 1000) : ∃ l, F.journal_Journal_Records_1 j g d = some l ∧ l.length = j.list_.length := by
  unfold F.journal_Journal_Records_1 F.journal_Journal_none
  rw [Option.bind_some, if_neg (by decide)]
  try rw [chk_pos (by unfold room; simp; omega)]
  exact ⟨_, rfl, by simp⟩
theorem left_eq (j : journal_Journal) (g : guard_Guard) (d : disk_Disk) : F.journal_Journal_Left j g d = some (IntKind.i64.wrap (j.size_ - j.next_)) := rfl
set_option maxHeartbeats 1000000 in
theorem pure_JournalOpens (x0 x1 x2 x3 : Int) (x4 : ByteArray) {z0 z1 z2 z3 w4 z4 : Prop} (_ : (Lit.int .i64 x0).wf = true) (_ : z0) (w1 : (Lit.int .i64 x1).wf = true) (_ : z1) (w2 : (Lit.int .i64 x2).wf = true) (_ : z2) (w3 : (Lit.int .i64 x3).wf = true) (_ : z3) (_ : w4) (_ : z4) : F.law12_JournalOpens x0 x1 x2 x3 x4 = some true := by
  have hx1 := wf_i64 w1
  have hx2 := wf_i64 w2
  unfold F.law12_JournalOpens
  by_cases h1 : x0 < 1
  · rw [if_pos (by simpa using h1), awake]; rfl
  rw [if_neg (by simpa using h1)]
  by_cases h2 : x0 > 100
  · rw [if_pos (by simpa using h2), awake]; rfl
  rw [if_neg (by simpa using h2), thru_inl]
  unfold F.law12_JournalOpens.r1
  obtain ⟨n, rfl⟩ : ∃ n : Nat, x0 = (n : Int) := ⟨x0.toNat, by omega⟩
  have hn1 : 1 ≤ n := by omega
  have hn2 : n ≤ 100 := by omega
  have hok := new_ok (n := n) hn1 (by omega)
  have hlen : (newD n).sure_.length = n := by unfold newD; rw [List.length_replicate]
  rw [new_eq (n := n) hn1 (by omega), Option.bind_some]
  dsimp only [optC]
  rw [gnew_eq hok.pos (by decide) (by decide), Option.bind_some]
  dsimp only [optC]
  rw [Option.bind_some]
  unfold F.law12_JournalOpens.r2
  rw [open_gen hn1 hn2, Option.bind_some]
  by_cases hn : n < 63
  · -- the law's own journal is not there
    rw [if_pos hn]
    dsimp only [optC]
    rw [Option.bind_some]
    unfold F.law12_JournalOpens.r3
    have hj := jd_new hn1 hn2
    by_cases ha : x1 < 0 ∨ x2 < 1 ∨ x3 < 1 ∨ x3 > 4294967295
    · rw [open_arg ha, Option.bind_some]
      dsimp only [optC]
      rw [nil_open, Option.bind_some, if_neg (by decide), thru_inl]
      unfold F.law12_JournalOpens.r4
      rw [argJ, decide_eq_true ha, Option.bind_some]
      unfold F.law12_JournalOpens.r5
      rw [if_pos rfl, if_pos (by decide), awake]
      rfl
    rw [open_head ha (by rw [hlen]; omega) hx1.2, hlen]
    by_cases hr : x1 > (n : Int) ∨ x2 > (n : Int) - x1
    · rw [if_pos hr, Option.bind_some]
      dsimp only [optC]
      rw [nil_open, Option.bind_some, if_neg (by decide), thru_inl]
      unfold F.law12_JournalOpens.r4
      rw [argJ, decide_eq_false ha, Option.bind_some]
      unfold F.law12_JournalOpens.r5
      rw [if_neg (by decide), thru_inl]
      unfold F.law12_JournalOpens.r6
      rw [rngJ (by omega) (by omega) (by omega) hx1.2, decide_eq_true hr, Option.bind_some]
      unfold F.law12_JournalOpens.r7
      rw [if_pos rfl, if_pos (by decide), awake]
      rfl
    obtain ⟨j, ej, js, jl⟩ := open_scan hj (g := ⟨1, 0⟩) (base := x1) (size := x2) (seed := x3) (by omega) (by omega) (by omega) (by omega) (by omega)
    rw [if_neg (c := hangsP 0 x1 x2 x3) (fun e => absurd e.1 (by decide))] at jl
    rw [if_neg hr, ej, Option.bind_some]
    dsimp only [optC]
    rw [nil_open, Option.bind_some, if_neg (by decide), thru_inl]
    unfold F.law12_JournalOpens.r10
    rw [argJ, decide_eq_false ha, Option.bind_some]
    unfold F.law12_JournalOpens.r11
    rw [if_neg (by decide), thru_inl]
    unfold F.law12_JournalOpens.r12
    rw [rngJ (by omega) (by omega) (by omega) hx1.2, decide_eq_false hr, Option.bind_some]
    unfold F.law12_JournalOpens.r13
    rw [if_neg (by decide), thru_inl]
    unfold F.law12_JournalOpens.r14
    rw [Option.bind_some]
    unfold F.law12_JournalOpens.r15
    obtain ⟨l, el, ll⟩ := records_eq j ⟨1, 0⟩ (newD n) (by omega)
    rw [el, Option.bind_some, ll, jl, if_pos (by decide), Option.bind_some, ll, jl, if_pos (by decide), left_eq, Option.bind_some, used_eq, Option.bind_some, js, if_pos (by simp), awake]
    rfl
  rw [if_neg hn]
  dsimp only [optC]
  -- a record is laid, or not
  obtain ⟨s, rfl⟩ : ∃ s, x4 = ofL s := ⟨_, ofL_surj x4⟩
  have base0 : Wr (newD n) 1 0 7 0 [] 0 (newD n) := ⟨hok, rfl, rfl, rfl, (show FOk ⟨0, 0⟩ from ⟨by decide, by decide⟩), fun i hi => absurd hi (by omega), fun _ _ => rfl⟩
  obtain ⟨e0, m, jj, g', D, hap, hjd, hnx⟩ : ∃ (e0 : Int) (m : Nat) (jj : journal_Journal) (g' : guard_Guard) (D : disk_Disk), F.journal_Journal_Append (ofL s) j0 ⟨1, 0⟩ (newD n) = some (e0, jj, g', D) ∧ Jd n s m D ∧ jj.next_ = (m : Int) := by
    by_cases hroom : s.length ≤ 6000 ∧ (nd s.length : Int) ≤ 60
    · obtain ⟨D', hw, ea⟩ := append_eq (j := j0) (boot := 1) (n0 := 0) (D := newD n) base0 (P := 3) rfl hroom.1 rfl hroom.2 (by decide) (by decide) (by rw [hlen]; omega) (by decide) (by decide) (by decide) (by decide) (by decide) (by rw [hlen]; omega)
      refine ⟨_, nd s.length, _, _, D', ea, ⟨by rw [hw.len, hlen], hw.off, hn1, by omega, .inr ⟨rfl, hroom.1, by omega⟩, hw.new, fun j hj hn => by rw [hw.old j hn]; exact new_cur (by omega) (by omega)⟩, ?_⟩
      show (0 : Int) + (nd s.length : Int) = _
      omega
    · obtain ⟨e, he, ea⟩ := append_no (j := j0) (g := ⟨1, 0⟩) (D := newD n) (s := ofL s) rfl (by decide) (by decide) (by decide) (by decide) (by rw [ofL_size]; show 6000 < s.length ∨ (nd s.length : Int) > 60 - 0; omega)
      exact ⟨e, 0, j0, _, _, ea, ⟨hlen, rfl, hn1, by omega, .inl rfl, fun i hi => absurd hi (by omega), fun j hj _ => new_cur (by omega) (by omega)⟩, rfl⟩
  show Option.bind (Option.bind (F.journal_Journal_Append (ofL s) j0 ⟨1, 0⟩ (newD n)) _) _ = _
  rw [hap, Option.bind_some, Option.bind_some]
  unfold F.law12_JournalOpens.r16
  show Option.bind (F.journal_Open x1 x2 x3 ⟨1, 0⟩ D) _ = _
  have hDl := hjd.len
  have hfew := hjd.few
  by_cases ha : x1 < 0 ∨ x2 < 1 ∨ x3 < 1 ∨ x3 > 4294967295
  · rw [open_arg ha, Option.bind_some]
    dsimp only [optC]
    rw [nil_open, Option.bind_some, if_neg (by decide), thru_inl]
    unfold F.law12_JournalOpens.r17
    rw [argJ, decide_eq_true ha, Option.bind_some]
    unfold F.law12_JournalOpens.r18
    rw [if_pos rfl, if_pos (by decide), awake]
    rfl
  rw [open_head ha (by rw [hDl]; omega) hx1.2, hDl]
  by_cases hr : x1 > (n : Int) ∨ x2 > (n : Int) - x1
  · rw [if_pos hr, Option.bind_some]
    dsimp only [optC]
    rw [nil_open, Option.bind_some, if_neg (by decide), thru_inl]
    unfold F.law12_JournalOpens.r17
    rw [argJ, decide_eq_false ha, Option.bind_some]
    unfold F.law12_JournalOpens.r18
    rw [if_neg (by decide), thru_inl]
    unfold F.law12_JournalOpens.r19
    rw [rngJ (by omega) (by omega) (by omega) hx1.2, decide_eq_true hr, Option.bind_some]
    unfold F.law12_JournalOpens.r20
    rw [if_pos rfl, if_pos (by decide), awake]
    rfl
  obtain ⟨j, ej, js, jl⟩ := open_scan hjd (g := ⟨1, 0⟩) (base := x1) (size := x2) (seed := x3) (by omega) (by omega) (by omega) (by omega) (by omega)
  rw [if_neg hr, ej, Option.bind_some]
  dsimp only [optC]
  rw [nil_open, Option.bind_some, if_neg (by decide), thru_inl]
  unfold F.law12_JournalOpens.r23
  rw [argJ, decide_eq_false ha, Option.bind_some]
  unfold F.law12_JournalOpens.r24
  rw [if_neg (by decide), thru_inl]
  unfold F.law12_JournalOpens.r25
  rw [rngJ (by omega) (by omega) (by omega) hx1.2, decide_eq_false hr, Option.bind_some]
  unfold F.law12_JournalOpens.r26
  rw [if_neg (by decide), thru_inl]
  unfold F.law12_JournalOpens.r27
  rw [used_eq, Option.bind_some]
  dsimp only
  have hhang : (if decide (jj.next_ > 0) = true then if (x1 == 3) = true then if (x3 == 7) = true then some (decide (x2 ≥ jj.next_)) else some false else some false else some false) = some (decide (hangsP m x1 x2 x3)) := by
    rw [hnx]
    by_cases q1 : 0 < m
    rotate_left
    · rw [if_neg (by simp; omega), decide_eq_false (fun e : hangsP m x1 x2 x3 => q1 e.1)]
    rw [if_pos (by simp; omega)]
    by_cases q2 : x1 = 3
    rotate_left
    · rw [if_neg (by simpa using q2), decide_eq_false (fun e : hangsP m x1 x2 x3 => q2 e.2.1)]
    rw [if_pos (by simpa using q2)]
    by_cases q3 : x3 = 7
    rotate_left
    · rw [if_neg (by simpa using q3), decide_eq_false (fun e : hangsP m x1 x2 x3 => q3 e.2.2.1)]
    rw [if_pos (by simpa using q3)]
    congr 1
    rw [decide_eq_decide]
    exact ⟨fun e => ⟨q1, q2, q3, e⟩, fun e => e.2.2.2⟩
  refine (congrArg (fun o => Option.bind o _) hhang).trans ?_
  rw [Option.bind_some]
  unfold F.law12_JournalOpens.r28
  show Option.bind (F.journal_Journal_Records_1 j ⟨1, 0⟩ D) _ = _
  obtain ⟨l, el, ll⟩ := records_eq j ⟨1, 0⟩ D (by rw [jl]; split <;> omega)
  rw [el, Option.bind_some, ll, jl]
  by_cases hh : hangsP m x1 x2 x3
  · rw [if_pos hh, decide_eq_true hh, if_pos (by decide)]
    rw [Option.bind_some, ll, jl, if_pos hh, if_pos (by decide)]
    show Option.bind (F.journal_Journal_Left j ⟨1, 0⟩ D) _ = _
    rw [left_eq, Option.bind_some, used_eq, Option.bind_some, js, if_pos (by simp), awake]
    rfl
  · rw [if_neg hh, decide_eq_false hh, if_pos (by decide)]
    rw [Option.bind_some, ll, jl, if_neg hh, if_pos (by decide)]
    show Option.bind (F.journal_Journal_Left j ⟨1, 0⟩ D) _ = _
    rw [left_eq, Option.bind_some, used_eq, Option.bind_some, js, if_pos (by simp), awake]
    rfl
end Go.Proofs.YtgbloaophfaaoaaDoor
