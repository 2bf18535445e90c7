/- AbsentChecks in plain words: what the law says of a proof is what the program tells. -/
import Derived.Test.YtileogoeoiafkaaPChk
import Derived.Test.YtileogoeoiafkaaPFew24
import Derived.Test.YtileogoeoiafkaaPAwake24
import Derived.Test.YtileogoeoiafkaaGChecks
namespace Go.Proofs.Ytileogoeoiafkaa
set_option linter.all false
open Go Go.RowKit Go.Fw
set_option maxRecDepth 100000
attribute [local irreducible] FUEL
theorem lcheck_eq {T : Tab} (hT : S32 T) (root : ByteArray) (size : Int) (id : ByteArray) {p : absent_Proof} (hp : ∀ s ∈ p.Sides, s.Path.length < 1000000000000000000) (hl : p.Sides.length < 1000000000000000000) (m : mill_Mill) (hm : m.table_ = T) :
    F.law24_check root size id p m = some ((chkA T root size id p).1, (chkA T root size id p).2.1, runM (chkA T root size id p).2.2 m) := by
  have hloop : p.Size = size → p.Sides.length ≤ 2 → ∀ m : mill_Mill, m.table_ = T → F.law24_check.r2 root size id p m.table_ m.notes_ m.twins_.e0 m.twins_.e1 m.found_ m.full_ m.sums_ = some (if (sidesA T root size p.Sides).1 ≠ 0 then (false, (sidesA T root size p.Sides).1, runM (sidesA T root size p.Sides).2 m) else if isOne p id = true then (true, 0, runM (sidesA T root size p.Sides).2 m)
      else if betw p id = true then (false, 0, runM (sidesA T root size p.Sides).2 m) else (false, 22, runM (sidesA T root size p.Sides).2 m)) := fun hsz h2 m hm => by
    have h := sides_loop (T := T) root size (sides := p.Sides) (f := fun x => F.law24_check.l3 root size p x.1 x.2.1 x.2.2.1 x.2.2.2.1 x.2.2.2.2.1 x.2.2.2.2.2.1 x.2.2.2.2.2.2.1 x.2.2.2.2.2.2.2) (fun i s m hm hs => by
        have hi := lt_of_get hs
        have hsp := hp s (List.mem_of_getElem? hs)
        unfold m7
        dsimp only
        unfold F.law24_check.l3 standA
        rw [if_pos (by simp; omega), at_nat hs, Option.bind_some, isid_eq, Option.bind_some]
        cases hi2 : idB s.ID with
        | false => rfl
        | true =>
          have h24 := (idB_small hi2).1
          have := textB_size (s := s.ID) (by omega)
          rw [if_neg (c := (!true) = true) (by decide), if_neg (c := true = false) (by decide), text_eq (by omega), Option.bind_some, chk_pos (by show 2 + _ ≤ _; omega)]
          show Option.bind (F.pledge_Leaf (wId ++ textB s.ID) m) _ = _
          rw [pleaf_eq hi2, Option.bind_some]
          dsimp only
          rw [hm, clim_eq hT _ _ hsp _ (by rw [runM_table, hm]), Option.bind_some]
          dsimp only
          generalize clim T (idL T s.ID) s.Index size s.Path = q
          obtain ⟨r, e, ts⟩ := q
          dsimp only
          by_cases he : e = 0 <;> by_cases hr : r = root <;> simp [he, hr, seqB_dec]
          · refine ⟨?_, rfl, rfl, rfl, rfl, rfl, rfl, rfl⟩
            rw [w64 (by omega) (by omega)]
          all_goals rfl) (fun m => by
        unfold m7
        dsimp only
        unfold F.law24_check.l3
        rw [if_neg (by simp)]) p.Sides 0 m FUEL hm rfl (by omega) (by rw [FUEL_eq]; omega)
    unfold F.law24_check.r2
    refine (congrArg (fun o => thru o _) h).trans ?_
    unfold endA
    by_cases h0 : (sidesA T root size p.Sides).1 = 0
    · rw [if_neg (by simpa using h0), if_neg (by simpa using h0)]
      show F.law24_check.r4 size id p _ _ _ _ _ _ _ = _
      unfold F.law24_check.r4 F.law24_check.r5 F.law24_check.r6
      rcases hs : p.Sides with _ | ⟨a, _ | ⟨b, _ | ⟨c, r⟩⟩⟩
      · have ho : isOne p id = false := by unfold isOne; rw [hs]
        have hb : betw p id = (size == 0) := by unfold betw; rw [hs, ← hsz]
        rw [ho, hb]
        cases hz : (size == 0) <;> rfl
      · have ho : isOne p id = seqB a.ID id := by unfold isOne; rw [hs]
        have hb : betw p id = (sltB a.ID id && a.Index == IntKind.i64.wrap (size - 1) || !(sltB a.ID id || seqB a.ID id) && a.Index == 0) := by unfold betw; rw [hs, ← hsz]
        rw [ho, hb, if_neg (ln0_neg (by simp)), if_pos (ln1_pos rfl), show at_ [a] 0 = some a from rfl]
        dsimp only [Option.bind_some]
        generalize (a.Index == IntKind.i64.wrap (size - 1)) = q1
        generalize (a.Index == 0) = q2
        generalize sltB a.ID id = q3
        generalize seqB a.ID id = q4
        cases q1 <;> cases q2 <;> cases q3 <;> cases q4 <;> rfl
      · have ho : isOne p id = false := by unfold isOne; rw [hs]
        have hb : betw p id = (sltB a.ID id && (sltB id b.ID && IntKind.i64.wrap (b.Index - 1) == a.Index)) := by unfold betw; rw [hs]
        have hq : (IntKind.i64.wrap (b.Index - 1) == a.Index) = (a.Index == IntKind.i64.wrap (b.Index - 1)) := by
          by_cases h : a.Index = IntKind.i64.wrap (b.Index - 1)
          · rw [h]
          · rw [beq_eq_false_iff_ne.2 h, beq_eq_false_iff_ne.2 (Ne.symm h)]
        rw [ho, hb, hq, if_neg (ln0_neg (by simp)), if_neg (ln1_neg (by simp)), show at_ [a, b] 0 = some a from rfl, show at_ [a, b] 1 = some b from rfl]
        dsimp only [Option.bind_some]
        generalize (a.Index == IntKind.i64.wrap (b.Index - 1)) = q1
        generalize sltB a.ID id = q3
        generalize sltB id b.ID = q4
        cases q1 <;> cases q3 <;> cases q4 <;> rfl
      · rw [hs] at h2; simp at h2
    · rw [if_pos h0, if_pos h0]
      rfl
  unfold F.law24_check chkA
  rw [isid_eq, Option.bind_some]
  cases hi : idB id with
  | false => rfl
  | true =>
    rw [if_neg (c := (!true) = true) (by decide), if_neg (c := true = false) (by decide)]
    have e4 : (if (p.Size != size) = true then (some (.inr (false, 21, m)) : Option (Unit ⊕ (Bool × Int × mill_Mill))) else if decide (size < 0) = true then some (.inr (false, 21, m)) else if decide (size > 65536) = true then some (.inr (false, 21, m)) else if decide ((p.Sides.length : Int) > 2) = true then some (.inr (false, 21, m)) else some (.inl ())) = if p.Size ≠ size ∨ size < 0 ∨ size > 65536 ∨ p.Sides.length > 2 then some (.inr (false, 21, m)) else some (.inl ()) := by
      have c1 : (p.Size != size) = true ↔ p.Size ≠ size := by simp
      have c4 : decide ((p.Sides.length : Int) > 2) = true ↔ p.Sides.length > 2 := by simp; omega
      simp only [c1, c4, decide_eq_true_eq]
      exact four_if _ _
    rw [e4]
    by_cases h1 : p.Size ≠ size ∨ size < 0 ∨ size > 65536 ∨ p.Sides.length > 2
    · rw [if_pos h1, if_pos h1]; rfl
    rw [if_neg h1, if_neg h1]
    have hsz : p.Size = size := Classical.byContradiction fun h => h1 (.inl h)
    have hl2 : p.Sides.length ≤ 2 := Nat.le_of_not_lt fun h => h1 (.inr (.inr (.inr h)))
    show F.law24_check.r1 root size id p m = _
    unfold F.law24_check.r1 pre0
    by_cases h2 : size = 0
    · rw [if_pos (by simpa using h2), none_eq, Option.bind_some, if_pos h2]
      dsimp only
      rw [hm]
      by_cases h3 : root = sumB T b0
      · rw [if_neg (by rw [seqB_iff.2 h3]; decide), if_neg (fun h => h.2 h3)]
        refine (hloop hsz hl2 (runM [b0] m) (by rw [runM_table, hm])).trans ?_
        repeat' split
        all_goals rfl
      · rw [if_pos (by simpa using fun h => h3 (seqB_iff.1 h)), if_pos ⟨h2, h3⟩]; rfl
    · rw [if_neg (by simpa using h2), if_neg (fun h => h2 h.1), if_neg h2]
      refine (hloop hsz hl2 m hm).trans ?_
      repeat' split
      all_goals rfl
theorem pure_AbsentChecks (root : ByteArray) (size : Int) (id : ByteArray) (p : absent_Proof) {q0 q1 q2 q3 q4 q5 q6 q7 : Prop} (_ : q0) (_ : q1) (_ : q2) (_ : q3) (_ : q4) (_ : q5) (_ : q6) (_ : q7) : F.law24_AbsentChecks root size id p = some true := by
  obtain ⟨h5, hs⟩ := fewP_sides p
  have hp : ∀ s ∈ (fewP p).Sides, s.Path.length < 1000000000000000000 := fun s h => by have := (hs s h).2.1; omega
  unfold F.law24_AbsentChecks
  rw [fewP_eq, Option.bind_some, mnew_eq, Option.bind_some, check_eq s32_new root size id hp (by omega) m00 rfl, Option.bind_some, Option.bind_some, lcheck_eq s32_new root size id hp (by omega) m00 rfl, Option.bind_some]
  dsimp only
  rw [if_pos (by simp), if_pos (by simp), awake]
  rfl
end Go.Proofs.Ytileogoeoiafkaa
