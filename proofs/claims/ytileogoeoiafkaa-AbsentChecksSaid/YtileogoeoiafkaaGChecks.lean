/- What the functions compute, and that the code computes it: printed by a program of this claim (wip/tools), for the group Checks. -/
import Derived.Test.YtileogoeoiafkaaGClimb
import Derived.Test.YtileogoeoiafkaaGFew
import Derived.Test.YtileogoeoiafkaaFw2
namespace Go.Proofs.Ytileogoeoiafkaa
set_option linter.all false
open Go Go.RowKit Go.Fw
set_option linter.unusedVariables false

def F.law24_check.l3 (x1 : ByteArray) (x2 : Int) (x4 : absent_Proof) (x53 : Int) (l54 : List (ByteArray × ByteArray)) (l57 : List (ByteArray × ByteArray)) (s60 : ByteArray) (s61 : ByteArray) (x62 : Bool) (x63 : Bool) (x64 : Int) : Option ((Int × (List (ByteArray × ByteArray)) × (List (ByteArray × ByteArray)) × ByteArray × ByteArray × Bool × Bool × Int) ⊕ (((List (ByteArray × ByteArray)) × (List (ByteArray × ByteArray)) × ByteArray × ByteArray × Bool × Bool × Int) ⊕ (Bool × Int × mill_Mill))) :=
  if decide (x53 < (x4.Sides.length : Int)) then (Option.bind (at_ x4.Sides x53) (fun (y66 : absent_Side) => Option.bind (F.paper_IsID y66.ID) (fun (r77 : Bool) => if !r77 then (some (.inr (.inr ((false, 13, (⟨l54, l57, (⟨s60, s61⟩ : A2_ByteArray), x62, x63, x64⟩ : mill_Mill)))))) else (Option.bind (F.octet_Text y66.ID) (fun (r80 : ByteArray) => chk ((ByteArray.mk #[105, 100]).size + r80.size ≤ 9223372036854775807) (Option.bind (F.pledge_Leaf ((ByteArray.mk #[105, 100]) ++ r80) (⟨l54, l57, (⟨s60, s61⟩ : A2_ByteArray), x62, x63, x64⟩ : mill_Mill)) (fun (r83 : ByteArray × mill_Mill) => Option.bind (F.merkle_Climb r83.1 y66.Index x2 y66.Path r83.2) (fun (r87 : ByteArray × Int × mill_Mill) => if r87.2.1 != 0 then (some (.inr (.inr ((false, 20, r87.2.2))))) else (if !(seqB r87.1 x1) then (some (.inr (.inr ((false, 19, r87.2.2))))) else (some (.inl (IntKind.i64.wrap (x53 + 1), r87.2.2.table_, r87.2.2.notes_, r87.2.2.twins_.e0, r87.2.2.twins_.e1, r87.2.2.found_, r87.2.2.full_, r87.2.2.sums_)))))))))))) else (some (.inr (.inl (l54, l57, s60, s61, x62, x63, x64))))
def F.law24_check.r6 (x3 : ByteArray) (x4 : absent_Proof) (l95 : List (ByteArray × ByteArray)) (l98 : List (ByteArray × ByteArray)) (s101 : ByteArray) (s102 : ByteArray) (x103 : Bool) (x104 : Bool) (x105 : Int) : Option (Bool × Int × mill_Mill) :=
  if (x4.Sides.length : Int) == 2 then (Option.bind (at_ x4.Sides 0) (fun (y131 : absent_Side) => Option.bind (at_ x4.Sides 1) (fun (y140 : absent_Side) => if sltB y131.ID x3 then (if sltB x3 y140.ID then (if y131.Index == (IntKind.i64.wrap (y140.Index - 1)) then (some ((false, 0, (⟨l95, l98, (⟨s101, s102⟩ : A2_ByteArray), x103, x104, x105⟩ : mill_Mill)))) else (some ((false, 22, (⟨l95, l98, (⟨s101, s102⟩ : A2_ByteArray), x103, x104, x105⟩ : mill_Mill))))) else (some ((false, 22, (⟨l95, l98, (⟨s101, s102⟩ : A2_ByteArray), x103, x104, x105⟩ : mill_Mill))))) else (some ((false, 22, (⟨l95, l98, (⟨s101, s102⟩ : A2_ByteArray), x103, x104, x105⟩ : mill_Mill))))))) else (some ((false, 22, (⟨l95, l98, (⟨s101, s102⟩ : A2_ByteArray), x103, x104, x105⟩ : mill_Mill))))
def F.law24_check.r5 (x2 : Int) (x3 : ByteArray) (x4 : absent_Proof) (l95 : List (ByteArray × ByteArray)) (l98 : List (ByteArray × ByteArray)) (s101 : ByteArray) (s102 : ByteArray) (x103 : Bool) (x104 : Bool) (x105 : Int) : Option (Bool × Int × mill_Mill) :=
  thru (if (x4.Sides.length : Int) == 1 then (Option.bind (at_ x4.Sides 0) (fun (y111 : absent_Side) => if seqB y111.ID x3 then (some (.inr ((true, 0, (⟨l95, l98, (⟨s101, s102⟩ : A2_ByteArray), x103, x104, x105⟩ : mill_Mill))))) else (if sltB y111.ID x3 then (if y111.Index == (IntKind.i64.wrap (x2 - 1)) then (some (.inr ((false, 0, (⟨l95, l98, (⟨s101, s102⟩ : A2_ByteArray), x103, x104, x105⟩ : mill_Mill))))) else (if !((sltB y111.ID x3) || (seqB y111.ID x3)) then (if y111.Index == 0 then (some (.inr ((false, 0, (⟨l95, l98, (⟨s101, s102⟩ : A2_ByteArray), x103, x104, x105⟩ : mill_Mill))))) else (some (.inl ()))) else (some (.inl ())))) else (if !((sltB y111.ID x3) || (seqB y111.ID x3)) then (if y111.Index == 0 then (some (.inr ((false, 0, (⟨l95, l98, (⟨s101, s102⟩ : A2_ByteArray), x103, x104, x105⟩ : mill_Mill))))) else (some (.inl ()))) else (some (.inl ())))))) else (some (.inl ()))) (fun x => F.law24_check.r6 x3 x4 l95 l98 s101 s102 x103 x104 x105)
def F.law24_check.r4 (x2 : Int) (x3 : ByteArray) (x4 : absent_Proof) (l95 : List (ByteArray × ByteArray)) (l98 : List (ByteArray × ByteArray)) (s101 : ByteArray) (s102 : ByteArray) (x103 : Bool) (x104 : Bool) (x105 : Int) : Option (Bool × Int × mill_Mill) :=
  thru (if (x4.Sides.length : Int) == 0 then (if x2 == 0 then (some (.inr ((false, 0, (⟨l95, l98, (⟨s101, s102⟩ : A2_ByteArray), x103, x104, x105⟩ : mill_Mill))))) else (some (.inl ()))) else (some (.inl ()))) (fun x => F.law24_check.r5 x2 x3 x4 l95 l98 s101 s102 x103 x104 x105)
def F.law24_check.r2 (x1 : ByteArray) (x2 : Int) (x3 : ByteArray) (x4 : absent_Proof) (l38 : List (ByteArray × ByteArray)) (l41 : List (ByteArray × ByteArray)) (s44 : ByteArray) (s45 : ByteArray) (x46 : Bool) (x47 : Bool) (x48 : Int) : Option (Bool × Int × mill_Mill) :=
  thru (iter (fun x => F.law24_check.l3 x1 x2 x4 x.1 x.2.1 x.2.2.1 x.2.2.2.1 x.2.2.2.2.1 x.2.2.2.2.2.1 x.2.2.2.2.2.2.1 x.2.2.2.2.2.2.2) FUEL (0, l38, l41, s44, s45, x46, x47, x48)) (fun x => F.law24_check.r4 x2 x3 x4 x.1 x.2.1 x.2.2.1 x.2.2.2.1 x.2.2.2.2.1 x.2.2.2.2.2.1 x.2.2.2.2.2.2)
def F.law24_check.r1 (x1 : ByteArray) (x2 : Int) (x3 : ByteArray) (x4 : absent_Proof) (m0 : mill_Mill) : Option (Bool × Int × mill_Mill) :=
  thru (if x2 == 0 then (Option.bind (F.pledge_None m0) (fun (r33 : ByteArray × mill_Mill) => if !(seqB x1 r33.1) then (some (.inr ((false, 19, r33.2)))) else (some (.inl (r33.2.table_, r33.2.notes_, r33.2.twins_.e0, r33.2.twins_.e1, r33.2.found_, r33.2.full_, r33.2.sums_))))) else (some (.inl (m0.table_, m0.notes_, m0.twins_.e0, m0.twins_.e1, m0.found_, m0.full_, m0.sums_)))) (fun x => F.law24_check.r2 x1 x2 x3 x4 x.1 x.2.1 x.2.2.1 x.2.2.2.1 x.2.2.2.2.1 x.2.2.2.2.2.1 x.2.2.2.2.2.2)
def F.law24_check (x1 : ByteArray) (x2 : Int) (x3 : ByteArray) (x4 : absent_Proof) (m0 : mill_Mill) : Option (Bool × Int × mill_Mill) :=
  Option.bind (F.paper_IsID x3) (fun (r23 : Bool) => if !r23 then (some ((false, 13, m0))) else (thru (if x4.Size != x2 then (some (.inr ((false, 21, m0)))) else (if decide (x2 < 0) then (some (.inr ((false, 21, m0)))) else (if decide (x2 > 65536) then (some (.inr ((false, 21, m0)))) else (if decide ((x4.Sides.length : Int) > 2) then (some (.inr ((false, 21, m0)))) else (some (.inl ())))))) (fun x => F.law24_check.r1 x1 x2 x3 x4 m0)))
set_option maxRecDepth 100000 in
set_option maxHeartbeats 4000000 in
theorem c_law24_check (I : Hl) (x1 : ByteArray) (x2 : Int) (x3 : ByteArray) (x4 : absent_Proof) (m0 : mill_Mill) (p0 : Option Addr) (c0 : Nat) (p1 : Nat) (p2 : Nat) (b0 : Nat) (res : Bool × Int × mill_Mill) (hF : F.law24_check x1 x2 x3 x4 m0 = some res) (hr0 : roN I n_absent_Side p0 c0 x4.Sides) : Tr Try.prog 23 [.pointer (some ⟨b0, 0, none⟩), .string x1, .int .i64 x2, .string x3, .agg #[.int .i64 x4.Size, .slice p0 x4.Sides.length c0]] [imm I, pt b0 #[.map (some p1), .map (some p2), .string m0.twins_.e0, .string m0.twins_.e1, .bool m0.found_, .bool m0.full_, .int .i64 m0.sums_] 64, mpo kStr kStr p1 m0.table_, mpo kStr kStr p2 m0.notes_] (fun r H' => ∃ (J : Hl), ∃ (bq1 : Nat), ∃ (bq3 : Nat), r = .tuple #[.bool res.1, .int .i64 res.2.1] ∧ H' = [imm J, pt b0 #[.map (some bq1), .map (some bq3), .string res.2.2.twins_.e0, .string res.2.2.twins_.e1, .bool res.2.2.found_, .bool res.2.2.full_, .int .i64 res.2.2.sums_] 64, mpo kStr kStr bq1 res.2.2.table_, mpo kStr kStr bq3 res.2.2.notes_] ∧ Hl.sub I J) := by
  unfold F.law24_check at hF
  refine tr_of_cw (fn := Try.f23) Try.func23 rfl (Nat.le_of_ble_eq_true rfl) 157 rfl fun F0 w0 => ?_
  refine cw_keep [0, 1, 2, 3, 4] (L' := [(0, .pointer (some ⟨b0, 0, none⟩)), (1, .string x1), (2, .int .i64 x2), (3, .string x3), (4, .agg #[.int .i64 x4.Size, .slice p0 x4.Sides.length c0])]) rfl ?_
  refine cw_state (S' := SAT w0 ([imm I, pt b0 #[.map (some p1), .map (some p2), .string m0.twins_.e0, .string m0.twins_.e1, .bool m0.found_, .bool m0.full_, .int .i64 m0.sums_] 64, mpo kStr kStr p1 m0.table_, mpo kStr kStr p2 m0.notes_] ++ F0)) (fun w hs => hs) ?_
  refine cw_seq ?_
  refine cw_region ?_
  refine ow_pw rfl (pw_box (cs := #[.int .i64 x4.Size, .slice p0 x4.Sides.length c0]) rfl rfl rfl rfl rfl rfl fun b21 => nw_ow ?_)
  refine ow_vals 2 (j := 3) [0, 1, 2, 3, 9] [(0, .pointer (some ⟨b0, 0, none⟩)), (1, .string x1), (2, .int .i64 x2), (3, .string x3), (9, .pointer (some ⟨b21, 0, none⟩))] rfl (by kernel_rfl) ?_
  refine ow_end rfl ?_
  refine ew_then ?_
  refine cw_seq ?_
  refine cw_seq ?_
  refine cw_region ?_
  refine ow_vals 1 (j := 1) [0, 1, 2, 3, 9, 19] [(0, .pointer (some ⟨b0, 0, none⟩)), (1, .string x1), (2, .int .i64 x2), (3, .string x3), (9, .pointer (some ⟨b21, 0, none⟩)), (19, .string x3)] rfl (by kernel_rfl) ?_
  obtain ⟨r23, h24, hF⟩ := bind_some hF
  refine ow_pw rfl (pw_call (F := [pt b21 #[.int .i64 x4.Size, .slice p0 x4.Sides.length c0] 35, pt b0 #[.map (some p1), .map (some p2), .string m0.twins_.e0, .string m0.twins_.e1, .bool m0.found_, .bool m0.full_, .int .i64 m0.sums_] 64, mpo kStr kStr p1 m0.table_, mpo kStr kStr p2 m0.notes_] ++ F0) rfl rfl rfl rfl rfl rfl rfl (by kernel_rfl) (perm_of_pulls [1] rfl) (c_paper_IsID _ x3 r23 h24) ?_)
  rintro _ _ ⟨rfl, rfl⟩
  refine nw_H (H' := [imm I, pt b21 #[.int .i64 x4.Size, .slice p0 x4.Sides.length c0] 35, pt b0 #[.map (some p1), .map (some p2), .string m0.twins_.e0, .string m0.twins_.e1, .bool m0.found_, .bool m0.full_, .int .i64 m0.sums_] 64, mpo kStr kStr p1 m0.table_, mpo kStr kStr p2 m0.notes_] ++ F0) rfl (nw_ow ?_)
  refine ow_vals 1 (j := 3) [0, 1, 2, 3, 9, 21] [(0, .pointer (some ⟨b0, 0, none⟩)), (1, .string x1), (2, .int .i64 x2), (3, .string x3), (9, .pointer (some ⟨b21, 0, none⟩)), (21, .bool (!r23))] rfl (by kernel_rfl) ?_
  refine ow_end rfl ?_
  refine ew_then ?_
  rcases if_some hF with ⟨h25, hF⟩ | ⟨h25, hF⟩
  · refine cw_cond_t rfl rfl h25 ?_
    refine cw_seq ?_
    refine cw_region ?_
    refine ow_vals 2 (j := 2) [10, 11] [(10, .bool false), (11, .int .i64 13)] rfl (by kernel_rfl) ?_
    refine ow_end rfl ?_
    refine ew_then ?_
    refine cw_ret ?_
    refine ew_then_ret ?_
    have hR := Option.some.inj hF
    subst hR
    exact fin2 (H1 := [imm I, pt b0 #[.map (some p1), .map (some p2), .string m0.twins_.e0, .string m0.twins_.e1, .bool m0.found_, .bool m0.full_, .int .i64 m0.sums_] 64, mpo kStr kStr p1 m0.table_, mpo kStr kStr p2 m0.notes_]) (fun w hs => sat_to [1, 0, 0, 0, 0] 1 rfl hs) rfl (rr_tmp rfl) (rr_tmp rfl) ⟨I, p1, p2, rfl, rfl, Hl.sub_refl _⟩
  refine cw_cond_f rfl rfl h25 ?_
  refine cw_skip ?_
  refine ew_then ?_
  obtain ⟨v26, hF, hK26⟩ := thru_some hF
  refine cw_mid (fun a w => .inl () = v26 ∧ Fr 157 [(0, .pointer (some ⟨b0, 0, none⟩)), (1, .string x1), (2, .int .i64 x2), (3, .string x3), (9, .pointer (some ⟨b21, 0, none⟩))] a ∧ SAT w0 ([imm I, pt b21 #[.int .i64 x4.Size, .slice p0 x4.Sides.length c0] 35, pt b0 #[.map (some p1), .map (some p2), .string m0.twins_.e0, .string m0.twins_.e1, .bool m0.found_, .bool m0.full_, .int .i64 m0.sums_] 64, mpo kStr kStr p1 m0.table_, mpo kStr kStr p2 m0.notes_] ++ F0) w) ?_ ?_
  · refine cw_seq ?_
    refine cw_region ?_
    refine ow_vals 1 (j := 1) [0, 1, 2, 3, 9, 22] [(0, .pointer (some ⟨b0, 0, none⟩)), (1, .string x1), (2, .int .i64 x2), (3, .string x3), (9, .pointer (some ⟨b21, 0, none⟩)), (22, .pointer (some ⟨b21, 0, none⟩))] rfl (by kernel_rfl) ?_
    refine ow_pw rfl (pw_quiet (v := .int .i64 x4.Size) rfl rfl rfl rfl (q_load 1 rfl rfl rfl (by kernel_rfl)) (nw_ow ?_))
    refine ow_vals 3 (j := 5) [0, 1, 2, 3, 9, 26] [(0, .pointer (some ⟨b0, 0, none⟩)), (1, .string x1), (2, .int .i64 x2), (3, .string x3), (9, .pointer (some ⟨b21, 0, none⟩)), (26, .bool (x4.Size != x2))] rfl (by kernel_rfl) ?_
    rcases if_some hF with ⟨h27, hF⟩ | ⟨h27, hF⟩
    · refine ow_slots (L' := [(0, .pointer (some ⟨b0, 0, none⟩)), (1, .string x1), (2, .int .i64 x2), (3, .string x3), (9, .pointer (some ⟨b21, 0, none⟩)), (26, .bool true)]) (by rw [h27]) ?_
      refine ow_vals 13 (j := 18) [0, 1, 2, 3, 9, 39] [(0, .pointer (some ⟨b0, 0, none⟩)), (1, .string x1), (2, .int .i64 x2), (3, .string x3), (9, .pointer (some ⟨b21, 0, none⟩)), (39, .bool true)] rfl (by kernel_rfl) ?_
      refine ow_end rfl ?_
      refine ew_then ?_
      refine cw_cond_t rfl rfl rfl ?_
      refine cw_seq ?_
      refine cw_region ?_
      refine ow_vals 2 (j := 2) [10, 11] [(10, .bool false), (11, .int .i64 21)] rfl (by kernel_rfl) ?_
      refine ow_end rfl ?_
      refine ew_then ?_
      refine cw_ret ?_
      refine ew_then_ret ?_
      have hR := Option.some.inj hF
      subst hR
      have hR := hK26
      try dsimp only [Thru] at hR
      subst hR
      exact fin2 (H1 := [imm I, pt b0 #[.map (some p1), .map (some p2), .string m0.twins_.e0, .string m0.twins_.e1, .bool m0.found_, .bool m0.full_, .int .i64 m0.sums_] 64, mpo kStr kStr p1 m0.table_, mpo kStr kStr p2 m0.notes_]) (fun w hs => sat_to [1, 0, 0, 0, 0] 1 rfl hs) rfl (rr_tmp rfl) (rr_tmp rfl) ⟨I, p1, p2, rfl, rfl, Hl.sub_refl _⟩
    refine ow_slots (L' := [(0, .pointer (some ⟨b0, 0, none⟩)), (1, .string x1), (2, .int .i64 x2), (3, .string x3), (9, .pointer (some ⟨b21, 0, none⟩)), (26, .bool false)]) (by rw [h27]) ?_
    refine ow_vals 4 (j := 9) [0, 1, 2, 3, 9, 30] [(0, .pointer (some ⟨b0, 0, none⟩)), (1, .string x1), (2, .int .i64 x2), (3, .string x3), (9, .pointer (some ⟨b21, 0, none⟩)), (30, .bool (decide (x2 < 0)))] rfl (by kernel_rfl) ?_
    rcases if_some hF with ⟨h28, hF⟩ | ⟨h28, hF⟩
    · refine ow_slots (L' := [(0, .pointer (some ⟨b0, 0, none⟩)), (1, .string x1), (2, .int .i64 x2), (3, .string x3), (9, .pointer (some ⟨b21, 0, none⟩)), (30, .bool true)]) (by rw [h28]) ?_
      refine ow_vals 9 (j := 18) [0, 1, 2, 3, 9, 39] [(0, .pointer (some ⟨b0, 0, none⟩)), (1, .string x1), (2, .int .i64 x2), (3, .string x3), (9, .pointer (some ⟨b21, 0, none⟩)), (39, .bool true)] rfl (by kernel_rfl) ?_
      refine ow_end rfl ?_
      refine ew_then ?_
      refine cw_cond_t rfl rfl rfl ?_
      refine cw_seq ?_
      refine cw_region ?_
      refine ow_vals 2 (j := 2) [10, 11] [(10, .bool false), (11, .int .i64 21)] rfl (by kernel_rfl) ?_
      refine ow_end rfl ?_
      refine ew_then ?_
      refine cw_ret ?_
      refine ew_then_ret ?_
      have hR := Option.some.inj hF
      subst hR
      have hR := hK26
      try dsimp only [Thru] at hR
      subst hR
      exact fin2 (H1 := [imm I, pt b0 #[.map (some p1), .map (some p2), .string m0.twins_.e0, .string m0.twins_.e1, .bool m0.found_, .bool m0.full_, .int .i64 m0.sums_] 64, mpo kStr kStr p1 m0.table_, mpo kStr kStr p2 m0.notes_]) (fun w hs => sat_to [1, 0, 0, 0, 0] 1 rfl hs) rfl (rr_tmp rfl) (rr_tmp rfl) ⟨I, p1, p2, rfl, rfl, Hl.sub_refl _⟩
    refine ow_slots (L' := [(0, .pointer (some ⟨b0, 0, none⟩)), (1, .string x1), (2, .int .i64 x2), (3, .string x3), (9, .pointer (some ⟨b21, 0, none⟩)), (30, .bool false)]) (by rw [h28]) ?_
    refine ow_vals 4 (j := 13) [0, 1, 2, 3, 9, 34] [(0, .pointer (some ⟨b0, 0, none⟩)), (1, .string x1), (2, .int .i64 x2), (3, .string x3), (9, .pointer (some ⟨b21, 0, none⟩)), (34, .bool (decide (x2 > 65536)))] rfl (by kernel_rfl) ?_
    rcases if_some hF with ⟨h29, hF⟩ | ⟨h29, hF⟩
    · refine ow_slots (L' := [(0, .pointer (some ⟨b0, 0, none⟩)), (1, .string x1), (2, .int .i64 x2), (3, .string x3), (9, .pointer (some ⟨b21, 0, none⟩)), (34, .bool true)]) (by rw [h29]) ?_
      refine ow_vals 5 (j := 18) [0, 1, 2, 3, 9, 39] [(0, .pointer (some ⟨b0, 0, none⟩)), (1, .string x1), (2, .int .i64 x2), (3, .string x3), (9, .pointer (some ⟨b21, 0, none⟩)), (39, .bool true)] rfl (by kernel_rfl) ?_
      refine ow_end rfl ?_
      refine ew_then ?_
      refine cw_cond_t rfl rfl rfl ?_
      refine cw_seq ?_
      refine cw_region ?_
      refine ow_vals 2 (j := 2) [10, 11] [(10, .bool false), (11, .int .i64 21)] rfl (by kernel_rfl) ?_
      refine ow_end rfl ?_
      refine ew_then ?_
      refine cw_ret ?_
      refine ew_then_ret ?_
      have hR := Option.some.inj hF
      subst hR
      have hR := hK26
      try dsimp only [Thru] at hR
      subst hR
      exact fin2 (H1 := [imm I, pt b0 #[.map (some p1), .map (some p2), .string m0.twins_.e0, .string m0.twins_.e1, .bool m0.found_, .bool m0.full_, .int .i64 m0.sums_] 64, mpo kStr kStr p1 m0.table_, mpo kStr kStr p2 m0.notes_]) (fun w hs => sat_to [1, 0, 0, 0, 0] 1 rfl hs) rfl (rr_tmp rfl) (rr_tmp rfl) ⟨I, p1, p2, rfl, rfl, Hl.sub_refl _⟩
    refine ow_slots (L' := [(0, .pointer (some ⟨b0, 0, none⟩)), (1, .string x1), (2, .int .i64 x2), (3, .string x3), (9, .pointer (some ⟨b21, 0, none⟩)), (34, .bool false)]) (by rw [h29]) ?_
    refine ow_vals 1 (j := 14) [0, 1, 2, 3, 9, 34, 35] [(0, .pointer (some ⟨b0, 0, none⟩)), (1, .string x1), (2, .int .i64 x2), (3, .string x3), (9, .pointer (some ⟨b21, 0, none⟩)), (34, .bool false), (35, .pointer (some ⟨b21, 1, none⟩))] rfl (by kernel_rfl) ?_
    refine ow_pw rfl (pw_quiet (v := .slice p0 x4.Sides.length c0) rfl rfl rfl rfl (q_load 1 rfl rfl rfl (by kernel_rfl)) (nw_ow ?_))
    refine ow_vals 3 (j := 18) [0, 1, 2, 3, 9, 39] [(0, .pointer (some ⟨b0, 0, none⟩)), (1, .string x1), (2, .int .i64 x2), (3, .string x3), (9, .pointer (some ⟨b21, 0, none⟩)), (39, .bool (decide ((x4.Sides.length : Int) > 2)))] rfl (by kernel_rfl) ?_
    refine ow_end rfl ?_
    refine ew_then ?_
    rcases if_some hF with ⟨h30, hF⟩ | ⟨h30, hF⟩
    · refine cw_cond_t rfl rfl h30 ?_
      refine cw_seq ?_
      refine cw_region ?_
      refine ow_vals 2 (j := 2) [10, 11] [(10, .bool false), (11, .int .i64 21)] rfl (by kernel_rfl) ?_
      refine ow_end rfl ?_
      refine ew_then ?_
      refine cw_ret ?_
      refine ew_then_ret ?_
      have hR := Option.some.inj hF
      subst hR
      have hR := hK26
      try dsimp only [Thru] at hR
      subst hR
      exact fin2 (H1 := [imm I, pt b0 #[.map (some p1), .map (some p2), .string m0.twins_.e0, .string m0.twins_.e1, .bool m0.found_, .bool m0.full_, .int .i64 m0.sums_] 64, mpo kStr kStr p1 m0.table_, mpo kStr kStr p2 m0.notes_]) (fun w hs => sat_to [1, 0, 0, 0, 0] 1 rfl hs) rfl (rr_tmp rfl) (rr_tmp rfl) ⟨I, p1, p2, rfl, rfl, Hl.sub_refl _⟩
    refine cw_cond_f rfl rfl h30 ?_
    refine cw_skip ?_
    have hR := Option.some.inj hF
    exact fun a w hf hs => ⟨hR, hf.keep [0, 1, 2, 3, 9], sat_to [0, 0, 0, 0, 0] 0 rfl hs⟩
  rintro a w ⟨hv, hf, hs⟩
  subst hv
  replace hF := hK26
  clear hK26
  try dsimp only [Thru] at hF
  revert a w
  show CW _ _ _ 157 [(0, .pointer (some ⟨b0, 0, none⟩)), (1, .string x1), (2, .int .i64 x2), (3, .string x3), (9, .pointer (some ⟨b21, 0, none⟩))] (SAT w0 ([imm I, pt b21 #[.int .i64 x4.Size, .slice p0 x4.Sides.length c0] 35, pt b0 #[.map (some p1), .map (some p2), .string m0.twins_.e0, .string m0.twins_.e1, .bool m0.found_, .bool m0.full_, .int .i64 m0.sums_] 64, mpo kStr kStr p1 m0.table_, mpo kStr kStr p2 m0.notes_] ++ F0))
  unfold F.law24_check.r1 at hF
  obtain ⟨v31, hF, hK31⟩ := thru_some hF
  refine cw_mid (fun a w => ∃ (l38 : List (ByteArray × ByteArray)), ∃ (l41 : List (ByteArray × ByteArray)), ∃ (s44 : ByteArray), ∃ (s45 : ByteArray), ∃ (x46 : Bool), ∃ (x47 : Bool), ∃ (x48 : Int), ∃ (b40 : Nat), ∃ (b43 : Nat), .inl (l38, l41, s44, s45, x46, x47, x48) = v31 ∧ Fr 157 [(0, .pointer (some ⟨b0, 0, none⟩)), (1, .string x1), (2, .int .i64 x2), (3, .string x3), (9, .pointer (some ⟨b21, 0, none⟩))] a ∧ SAT w0 ([imm I, pt b0 #[.map (some b40), .map (some b43), .string s44, .string s45, .bool x46, .bool x47, .int .i64 x48] 64, pt b21 #[.int .i64 x4.Size, .slice p0 x4.Sides.length c0] 35, mpo kStr kStr b40 l38, mpo kStr kStr b43 l41] ++ F0) w) ?_ ?_
  · refine cw_seq ?_
    refine cw_region ?_
    refine ow_vals 3 (j := 3) [0, 1, 2, 3, 9, 42] [(0, .pointer (some ⟨b0, 0, none⟩)), (1, .string x1), (2, .int .i64 x2), (3, .string x3), (9, .pointer (some ⟨b21, 0, none⟩)), (42, .bool (x2 == 0))] rfl (by kernel_rfl) ?_
    rcases if_some hF with ⟨h32, hF⟩ | ⟨h32, hF⟩
    · refine ow_slots (L' := [(0, .pointer (some ⟨b0, 0, none⟩)), (1, .string x1), (2, .int .i64 x2), (3, .string x3), (9, .pointer (some ⟨b21, 0, none⟩)), (42, .bool true)]) (by rw [h32]) ?_
      refine ow_vals 2 (j := 5) [0, 1, 2, 3, 9, 42, 43, 44] [(0, .pointer (some ⟨b0, 0, none⟩)), (1, .string x1), (2, .int .i64 x2), (3, .string x3), (9, .pointer (some ⟨b21, 0, none⟩)), (42, .bool true), (43, .string x1), (44, .pointer (some ⟨b0, 0, none⟩))] rfl (by kernel_rfl) ?_
      obtain ⟨r33, h34, hF⟩ := bind_some hF
      refine ow_pw rfl (pw_call (F := [pt b21 #[.int .i64 x4.Size, .slice p0 x4.Sides.length c0] 35] ++ F0) rfl rfl rfl rfl rfl rfl rfl (by kernel_rfl) (perm_of_pulls [0, 1, 1, 1] rfl) (c_pledge_None _ m0 p1 p2 b0 r33 h34) ?_)
      rintro _ _ ⟨r33_b1, r33_b3, rfl, rfl⟩
      refine nw_H (H' := [imm I, pt b0 #[.map (some r33_b1), .map (some r33_b3), .string r33.2.twins_.e0, .string r33.2.twins_.e1, .bool r33.2.found_, .bool r33.2.full_, .int .i64 r33.2.sums_] 64, mpo kStr kStr r33_b1 r33.2.table_, mpo kStr kStr r33_b3 r33.2.notes_, pt b21 #[.int .i64 x4.Size, .slice p0 x4.Sides.length c0] 35] ++ F0) rfl (nw_ow ?_)
      refine ow_vals 2 (j := 8) [0, 1, 2, 3, 9, 47] [(0, .pointer (some ⟨b0, 0, none⟩)), (1, .string x1), (2, .int .i64 x2), (3, .string x3), (9, .pointer (some ⟨b21, 0, none⟩)), (47, .bool (!(seqB x1 r33.1)))] rfl (by kernel_rfl) ?_
      refine ow_end rfl ?_
      refine ew_then ?_
      rcases if_some hF with ⟨h37, hF⟩ | ⟨h37, hF⟩
      · refine cw_cond_t rfl rfl h37 ?_
        refine cw_seq ?_
        refine cw_region ?_
        refine ow_vals 2 (j := 2) [10, 11] [(10, .bool false), (11, .int .i64 19)] rfl (by kernel_rfl) ?_
        refine ow_end rfl ?_
        refine ew_then ?_
        refine cw_ret ?_
        refine ew_then_ret ?_
        have hR := Option.some.inj hF
        subst hR
        have hR := hK31
        try dsimp only [Thru] at hR
        subst hR
        exact fin2 (H1 := [imm I, pt b0 #[.map (some r33_b1), .map (some r33_b3), .string r33.2.twins_.e0, .string r33.2.twins_.e1, .bool r33.2.found_, .bool r33.2.full_, .int .i64 r33.2.sums_] 64, mpo kStr kStr r33_b1 r33.2.table_, mpo kStr kStr r33_b3 r33.2.notes_]) (fun w hs => sat_to [4, 0, 0, 0, 0] 1 rfl hs) rfl (rr_tmp rfl) (rr_tmp rfl) ⟨I, r33_b1, r33_b3, rfl, rfl, Hl.sub_refl _⟩
      refine cw_cond_f rfl rfl h37 ?_
      refine cw_skip ?_
      have hR := Option.some.inj hF
      exact fun a w hf hs => ⟨r33.2.table_, r33.2.notes_, r33.2.twins_.e0, r33.2.twins_.e1, r33.2.found_, r33.2.full_, r33.2.sums_, r33_b1, r33_b3, hR, hf.keep [0, 1, 2, 3, 9], sat_to [0, 0, 2, 0, 0] 0 rfl hs⟩
    refine ow_slots (L' := [(0, .pointer (some ⟨b0, 0, none⟩)), (1, .string x1), (2, .int .i64 x2), (3, .string x3), (9, .pointer (some ⟨b21, 0, none⟩)), (42, .bool false)]) (by rw [h32]) ?_
    refine ow_vals 5 (j := 8) [0, 1, 2, 3, 9, 47] [(0, .pointer (some ⟨b0, 0, none⟩)), (1, .string x1), (2, .int .i64 x2), (3, .string x3), (9, .pointer (some ⟨b21, 0, none⟩)), (47, .bool false)] rfl (by kernel_rfl) ?_
    refine ow_end rfl ?_
    refine ew_then ?_
    refine cw_cond_f rfl rfl rfl ?_
    refine cw_skip ?_
    have hR := Option.some.inj hF
    exact fun a w hf hs => ⟨m0.table_, m0.notes_, m0.twins_.e0, m0.twins_.e1, m0.found_, m0.full_, m0.sums_, p1, p2, hR, hf.keep [0, 1, 2, 3, 9], sat_to [0, 1, 0, 0, 0] 0 rfl hs⟩
  rintro a w ⟨l38, l41, s44, s45, x46, x47, x48, b40, b43, hv, hf, hs⟩
  subst hv
  replace hF := hK31
  clear hK31
  try dsimp only [Thru] at hF
  revert a w
  show CW _ _ _ 157 [(0, .pointer (some ⟨b0, 0, none⟩)), (1, .string x1), (2, .int .i64 x2), (3, .string x3), (9, .pointer (some ⟨b21, 0, none⟩))] (SAT w0 ([imm I, pt b0 #[.map (some b40), .map (some b43), .string s44, .string s45, .bool x46, .bool x47, .int .i64 x48] 64, pt b21 #[.int .i64 x4.Size, .slice p0 x4.Sides.length c0] 35, mpo kStr kStr b40 l38, mpo kStr kStr b43 l41] ++ F0))
  unfold F.law24_check.r2 at hF
  obtain ⟨v49, hF, hK49⟩ := thru_some hF
  refine cw_mid (fun a w => ∃ (l95 : List (ByteArray × ByteArray)), ∃ (l98 : List (ByteArray × ByteArray)), ∃ (s101 : ByteArray), ∃ (s102 : ByteArray), ∃ (x103 : Bool), ∃ (x104 : Bool), ∃ (x105 : Int), ∃ (J93 : Hl), ∃ (b97 : Nat), ∃ (b100 : Nat), .inl (l95, l98, s101, s102, x103, x104, x105) = v49 ∧ Hl.sub I J93 ∧ Fr 157 [(2, .int .i64 x2), (3, .string x3), (9, .pointer (some ⟨b21, 0, none⟩))] a ∧ SAT w0 ([imm J93, pt b0 #[.map (some b97), .map (some b100), .string s101, .string s102, .bool x103, .bool x104, .int .i64 x105] 64, pt b21 #[.int .i64 x4.Size, .slice p0 x4.Sides.length c0] 35, mpo kStr kStr b97 l95, mpo kStr kStr b100 l98] ++ F0) w) ?_ ?_
  · refine cw_seq ?_
    refine cw_region ?_
    refine ow_vals 1 (j := 1) [0, 1, 2, 3, 9, 12] [(0, .pointer (some ⟨b0, 0, none⟩)), (1, .string x1), (2, .int .i64 x2), (3, .string x3), (9, .pointer (some ⟨b21, 0, none⟩)), (12, .int .i64 0)] rfl (by kernel_rfl) ?_
    refine ow_end rfl ?_
    refine ew_then ?_
    refine cw_block ?_
    refine fun a w hf hs => wp_rounds (fun k a w => ∃ (x53 : Int), ∃ (l54 : List (ByteArray × ByteArray)), ∃ (l57 : List (ByteArray × ByteArray)), ∃ (s60 : ByteArray), ∃ (s61 : ByteArray), ∃ (x62 : Bool), ∃ (x63 : Bool), ∃ (x64 : Int), ∃ (J51 : Hl), ∃ (b56 : Nat), ∃ (b59 : Nat), iter (fun x => F.law24_check.l3 x1 x2 x4 x.1 x.2.1 x.2.2.1 x.2.2.2.1 x.2.2.2.2.1 x.2.2.2.2.2.1 x.2.2.2.2.2.2.1 x.2.2.2.2.2.2.2) k (x53, l54, l57, s60, s61, x62, x63, x64) = some v49 ∧ Hl.sub I J51 ∧ Fr 157 [(0, .pointer (some ⟨b0, 0, none⟩)), (1, .string x1), (2, .int .i64 x2), (3, .string x3), (9, .pointer (some ⟨b21, 0, none⟩)), (12, .int .i64 x53)] a ∧ SAT w0 ([imm J51, pt b0 #[.map (some b56), .map (some b59), .string s60, .string s61, .bool x62, .bool x63, .int .i64 x64] 64, pt b21 #[.int .i64 x4.Size, .slice p0 x4.Sides.length c0] 35, mpo kStr kStr b56 l54, mpo kStr kStr b59 l57] ++ F0) w) ?_ FUEL a w ⟨0, l38, l41, s44, s45, x46, x47, x48, I, b40, b43, hF, Hl.sub_refl _, hf.keep [0, 1, 2, 3, 9, 12], sat_to [0, 0, 0, 0, 0] 0 rfl hs⟩
    clear hf hs
    clear a w hF
    rintro k a w ⟨x53, l54, l57, s60, s61, x62, x63, x64, J51, b56, b59, hF2, h52, hf, hs⟩
    obtain ⟨k, r50, rfl, hF, hL50⟩ := iter_some hF2
    clear hF2
    revert a w
    show CW _ _ _ 157 [(0, .pointer (some ⟨b0, 0, none⟩)), (1, .string x1), (2, .int .i64 x2), (3, .string x3), (9, .pointer (some ⟨b21, 0, none⟩)), (12, .int .i64 x53)] (SAT w0 ([imm J51, pt b0 #[.map (some b56), .map (some b59), .string s60, .string s61, .bool x62, .bool x63, .int .i64 x64] 64, pt b21 #[.int .i64 x4.Size, .slice p0 x4.Sides.length c0] 35, mpo kStr kStr b56 l54, mpo kStr kStr b59 l57] ++ F0))
    try dsimp only at hF
    unfold F.law24_check.l3 at hF
    have hr0 := roN.sub h52 hr0
    refine cw_seq ?_
    refine cw_seq ?_
    refine cw_region ?_
    refine ow_vals 2 (j := 2) [0, 1, 2, 3, 9, 12, 48, 49] [(0, .pointer (some ⟨b0, 0, none⟩)), (1, .string x1), (2, .int .i64 x2), (3, .string x3), (9, .pointer (some ⟨b21, 0, none⟩)), (12, .int .i64 x53), (48, .int .i64 x53), (49, .pointer (some ⟨b21, 1, none⟩))] rfl (by kernel_rfl) ?_
    refine ow_pw rfl (pw_quiet (v := .slice p0 x4.Sides.length c0) rfl rfl rfl rfl (q_load 2 rfl rfl rfl (by kernel_rfl)) (nw_ow ?_))
    refine ow_vals 2 (j := 5) [0, 1, 2, 3, 9, 12, 52] [(0, .pointer (some ⟨b0, 0, none⟩)), (1, .string x1), (2, .int .i64 x2), (3, .string x3), (9, .pointer (some ⟨b21, 0, none⟩)), (12, .int .i64 x53), (52, .bool (decide (x53 < (x4.Sides.length : Int))))] rfl (by kernel_rfl) ?_
    refine ow_end rfl ?_
    refine ew_then ?_
    rcases if_some hF with ⟨h65, hF⟩ | ⟨h65, hF⟩
    · refine cw_cond_t rfl rfl h65 ?_
      refine cw_skip ?_
      refine ew_then ?_
      refine cw_seq ?_
      refine cw_block ?_
      refine cw_seq ?_
      refine cw_region ?_
      refine ow_vals 1 (j := 1) [0, 1, 2, 3, 9, 12, 55] [(0, .pointer (some ⟨b0, 0, none⟩)), (1, .string x1), (2, .int .i64 x2), (3, .string x3), (9, .pointer (some ⟨b21, 0, none⟩)), (12, .int .i64 x53), (55, .pointer (some ⟨b21, 1, none⟩))] rfl (by kernel_rfl) ?_
      refine ow_pw rfl (pw_quiet (v := .slice p0 x4.Sides.length c0) rfl rfl rfl rfl (q_load 2 rfl rfl rfl (by kernel_rfl)) (nw_ow ?_))
      refine ow_vals 1 (j := 3) [0, 1, 2, 3, 9, 12, 56, 57] [(0, .pointer (some ⟨b0, 0, none⟩)), (1, .string x1), (2, .int .i64 x2), (3, .string x3), (9, .pointer (some ⟨b21, 0, none⟩)), (12, .int .i64 x53), (56, .slice p0 x4.Sides.length c0), (57, .int .i64 x53)] rfl (by kernel_rfl) ?_
      obtain ⟨y66, h67, hF⟩ := bind_some hF
      refine ow_pw rfl (pw_index_roN (E := 43) 3 hr0 rfl rfl rfl rfl rfl (by kernel_rfl) rfl rfl rfl h67 fun q68 h69 => nw_ow ?_)
      obtain ⟨r70, h71, h72, h73⟩ := (id h69)
      have h74 : ro J51 eStr r70.Path.p r70.Path.c y66.Path := by subst h72; exact h73
      refine ow_pw rfl (pw_quiet (v := .agg #[.int .i64 y66.Index, .string y66.ID, .slice r70.Path.p y66.Path.length r70.Path.c]) rfl rfl rfl rfl (q_load_el0 0 rfl h71 rfl rfl (by subst h72; kernel_rfl)) (nw_ow ?_))
      refine ow_pw rfl (pw_alloc (cs := #[.int .i64 0, .string (ByteArray.mk #[]), .slice none 0 0]) rfl rfl rfl rfl rfl (by kernel_rfl) fun b75 => nw_ow ?_)
      refine ow_pw rfl (pw_store 0 #[.int .i64 y66.Index, .string y66.ID, .slice r70.Path.p y66.Path.length r70.Path.c] rfl rfl rfl rfl rfl rfl rfl (by kernel_rfl) (nw_H (H' := [pt b75 #[.int .i64 y66.Index, .string y66.ID, .slice r70.Path.p y66.Path.length r70.Path.c] 43, imm J51, pt b0 #[.map (some b56), .map (some b59), .string s60, .string s61, .bool x62, .bool x63, .int .i64 x64] 64, pt b21 #[.int .i64 x4.Size, .slice p0 x4.Sides.length c0] 35, mpo kStr kStr b56 l54, mpo kStr kStr b59 l57] ++ F0) rfl (nw_ow ?_)))
      refine ow_end rfl ?_
      refine ew_then ?_
      refine cw_seq ?_
      refine cw_seq ?_
      refine cw_region ?_
      refine ow_vals 1 (j := 1) [0, 1, 2, 3, 9, 12, 13, 60] [(0, .pointer (some ⟨b0, 0, none⟩)), (1, .string x1), (2, .int .i64 x2), (3, .string x3), (9, .pointer (some ⟨b21, 0, none⟩)), (12, .int .i64 x53), (13, .pointer (some ⟨b75, 0, none⟩)), (60, .pointer (some ⟨b75, 1, none⟩))] rfl (by kernel_rfl) ?_
      refine ow_pw rfl (pw_quiet (v := .string y66.ID) rfl rfl rfl rfl (q_load 0 rfl rfl rfl (by kernel_rfl)) (nw_ow ?_))
      obtain ⟨r77, h78, hF⟩ := bind_some hF
      refine ow_pw rfl (pw_call (F := [pt b75 #[.int .i64 y66.Index, .string y66.ID, .slice r70.Path.p y66.Path.length r70.Path.c] 43, pt b0 #[.map (some b56), .map (some b59), .string s60, .string s61, .bool x62, .bool x63, .int .i64 x64] 64, pt b21 #[.int .i64 x4.Size, .slice p0 x4.Sides.length c0] 35, mpo kStr kStr b56 l54, mpo kStr kStr b59 l57] ++ F0) rfl rfl rfl rfl rfl rfl rfl (by kernel_rfl) (perm_of_pulls [1] rfl) (c_paper_IsID _ y66.ID r77 h78) ?_)
      rintro _ _ ⟨rfl, rfl⟩
      refine nw_H (H' := [imm J51, pt b75 #[.int .i64 y66.Index, .string y66.ID, .slice r70.Path.p y66.Path.length r70.Path.c] 43, pt b0 #[.map (some b56), .map (some b59), .string s60, .string s61, .bool x62, .bool x63, .int .i64 x64] 64, pt b21 #[.int .i64 x4.Size, .slice p0 x4.Sides.length c0] 35, mpo kStr kStr b56 l54, mpo kStr kStr b59 l57] ++ F0) rfl (nw_ow ?_)
      refine ow_vals 1 (j := 4) [0, 1, 2, 3, 9, 12, 13, 63] [(0, .pointer (some ⟨b0, 0, none⟩)), (1, .string x1), (2, .int .i64 x2), (3, .string x3), (9, .pointer (some ⟨b21, 0, none⟩)), (12, .int .i64 x53), (13, .pointer (some ⟨b75, 0, none⟩)), (63, .bool (!r77))] rfl (by kernel_rfl) ?_
      refine ow_end rfl ?_
      refine ew_then ?_
      rcases if_some hF with ⟨h79, hF⟩ | ⟨h79, hF⟩
      · refine cw_cond_t rfl rfl h79 ?_
        refine cw_seq ?_
        refine cw_region ?_
        refine ow_vals 2 (j := 2) [10, 11] [(10, .bool false), (11, .int .i64 13)] rfl (by kernel_rfl) ?_
        refine ow_end rfl ?_
        refine ew_then ?_
        refine cw_ret ?_
        refine ew_then_ret ?_
        refine ew_blk_ret ?_
        refine ew_then_ret ?_
        refine ew_then_ret ?_
        refine ew_blk_ret ?_
        refine ew_then_ret ?_
        have hR := Option.some.inj hF
        subst hR
        have hR := hL50
        try dsimp only at hR
        subst hR
        have hR := hK49
        try dsimp only [Thru] at hR
        subst hR
        exact fin2 (H1 := [imm J51, pt b0 #[.map (some b56), .map (some b59), .string (((⟨l54, l57, (⟨s60, s61⟩ : A2_ByteArray), x62, x63, x64⟩ : mill_Mill).twins_).e0), .string (((⟨l54, l57, (⟨s60, s61⟩ : A2_ByteArray), x62, x63, x64⟩ : mill_Mill).twins_).e1), .bool ((⟨l54, l57, (⟨s60, s61⟩ : A2_ByteArray), x62, x63, x64⟩ : mill_Mill).found_), .bool ((⟨l54, l57, (⟨s60, s61⟩ : A2_ByteArray), x62, x63, x64⟩ : mill_Mill).full_), .int .i64 ((⟨l54, l57, (⟨s60, s61⟩ : A2_ByteArray), x62, x63, x64⟩ : mill_Mill).sums_)] 64, mpo kStr kStr b56 ((⟨l54, l57, (⟨s60, s61⟩ : A2_ByteArray), x62, x63, x64⟩ : mill_Mill).table_), mpo kStr kStr b59 ((⟨l54, l57, (⟨s60, s61⟩ : A2_ByteArray), x62, x63, x64⟩ : mill_Mill).notes_)]) (fun w hs => sat_to [1, 2, 0, 0, 0, 0] 2 rfl hs) rfl (rr_tmp rfl) (rr_tmp rfl) ⟨J51, b56, b59, rfl, rfl, h52⟩
      refine cw_cond_f rfl rfl h79 ?_
      refine cw_skip ?_
      refine ew_then ?_
      refine cw_seq ?_
      refine cw_open 12 (SAT w0 ([imm J51, pt b75 #[.int .i64 y66.Index, .string y66.ID, .slice r70.Path.p y66.Path.length r70.Path.c] 43, pt b21 #[.int .i64 x4.Size, .slice p0 x4.Sides.length c0] 35])) (by kernel_rfl) (f := 18) rfl (fun w hs => sat_drew hs) ?_
      refine aw_vals [0, 1, 2, 7, 9, 10] (f' := 12) (m' := 1671) [0, 1, 2, 3, 9, 12, 65, 66, 67, 72, 74, 75] [(0, .pointer (some ⟨b0, 0, none⟩)), (1, .string x1), (2, .int .i64 x2), (3, .string x3), (9, .pointer (some ⟨b21, 0, none⟩)), (12, .int .i64 x53), (65, .pointer (some ⟨b0, 0, none⟩)), (66, .pointer (some ⟨b0, 0, none⟩)), (67, .pointer (some ⟨b75, 1, none⟩)), (72, .pointer (some ⟨b75, 0, none⟩)), (74, .int .i64 x2), (75, .pointer (some ⟨b75, 2, none⟩))] (fun _ _ _ _ _ h => calm_fin (P := Try.prog) (fn := Try.f23) _ _ _ _ _ h) (fun w hs => sat_pulls [0, 0, 1] (G := [pt b0 #[.map (some b56), .map (some b59), .string s60, .string s61, .bool x62, .bool x63, .int .i64 x64] 64, mpo kStr kStr b56 l54, mpo kStr kStr b59 l57] ++ F0) rfl hs) rfl (by kernel_rfl) ?_
      refine aw_quiet 3 (m' := 1679) (v := .string y66.ID) 6 [4, 3] rfl rfl rfl rfl (by kernel_rfl) (by kernel_rfl) (by kernel_rfl) (fun _ _ _ _ _ h => calm_fin (P := Try.prog) (fn := Try.f23) _ _ _ _ _ h) (fun w hs => sat_pulls [0, 0, 1] (G := [pt b0 #[.map (some b56), .map (some b59), .string s60, .string s61, .bool x62, .bool x63, .int .i64 x64] 64, mpo kStr kStr b56 l54, mpo kStr kStr b59 l57] ++ F0) rfl hs) (q_load 1 rfl rfl rfl (by kernel_rfl)) ?_
      refine aw_quiet 8 (m' := 1935) (v := .int .i64 y66.Index) 8 [] rfl rfl rfl rfl (by kernel_rfl) (by kernel_rfl) (by kernel_rfl) (fun _ _ _ _ _ h => calm_fin (P := Try.prog) (fn := Try.f23) _ _ _ _ _ h) (fun w hs => sat_pulls [0, 0, 1] (G := [pt b0 #[.map (some b56), .map (some b59), .string s60, .string s61, .bool x62, .bool x63, .int .i64 x64] 64, mpo kStr kStr b56 l54, mpo kStr kStr b59 l57] ++ F0) rfl hs) (q_load 1 rfl rfl rfl (by kernel_rfl)) ?_
      refine aw_quiet 11 (m' := 3983) (v := .slice r70.Path.p y66.Path.length r70.Path.c) 11 [] rfl rfl rfl rfl (by kernel_rfl) (by kernel_rfl) (by kernel_rfl) (fun _ _ _ _ _ h => calm_fin (P := Try.prog) (fn := Try.f23) _ _ _ _ _ h) (fun w hs => sat_pulls [0, 0, 1] (G := [pt b0 #[.map (some b56), .map (some b59), .string s60, .string s61, .bool x62, .bool x63, .int .i64 x64] 64, mpo kStr kStr b56 l54, mpo kStr kStr b59 l57] ++ F0) rfl hs) (q_load 1 rfl rfl rfl (by kernel_rfl)) ?_
      obtain ⟨r80, h81, hF⟩ := bind_some hF
      refine aw_only 4 (m' := 3999) (by kernel_rfl) (by kernel_rfl) (pw_call (F := [pt b75 #[.int .i64 y66.Index, .string y66.ID, .slice r70.Path.p y66.Path.length r70.Path.c] 43, pt b0 #[.map (some b56), .map (some b59), .string s60, .string s61, .bool x62, .bool x63, .int .i64 x64] 64, pt b21 #[.int .i64 x4.Size, .slice p0 x4.Sides.length c0] 35, mpo kStr kStr b56 l54, mpo kStr kStr b59 l57] ++ F0) rfl rfl rfl rfl rfl rfl rfl (by kernel_rfl) (perm_of_pulls [0] rfl) (c_octet_Text _ y66.ID r80 h81) ?_)
      rintro _ _ ⟨rfl, rfl⟩
      refine nw_H (H' := [imm J51, pt b75 #[.int .i64 y66.Index, .string y66.ID, .slice r70.Path.p y66.Path.length r70.Path.c] 43, pt b0 #[.map (some b56), .map (some b59), .string s60, .string s61, .bool x62, .bool x63, .int .i64 x64] 64, pt b21 #[.int .i64 x4.Size, .slice p0 x4.Sides.length c0] 35, mpo kStr kStr b56 l54, mpo kStr kStr b59 l57] ++ F0) rfl (aw_next (fun w hs => sat_pulls [0, 0, 1] (G := [pt b0 #[.map (some b56), .map (some b59), .string s60, .string s61, .bool x62, .bool x63, .int .i64 x64] 64, mpo kStr kStr b56 l54, mpo kStr kStr b59 l57] ++ F0) rfl hs) ?_)
      obtain ⟨h82, hF⟩ := chk_some hF
      refine aw_pure 5 (m' := 4031) (v := .string ((ByteArray.mk #[105, 100]) ++ r80)) rfl rfl rfl rfl (by kernel_rfl) (by kernel_rfl) (fun _ _ _ _ _ h => calm_fin (P := Try.prog) (fn := Try.f23) _ _ _ _ _ h) (fun w hs => sat_pulls [0, 0, 1] (G := [pt b0 #[.map (some b56), .map (some b59), .string s60, .string s61, .bool x62, .bool x63, .int .i64 x64] 64, mpo kStr kStr b56 l54, mpo kStr kStr b59 l57] ++ F0) rfl hs) (q_concat rfl rfl rfl h82) ?_
      obtain ⟨r83, h84, hF⟩ := bind_some hF
      refine aw_only 6 (m' := 4095) (by kernel_rfl) (by kernel_rfl) (pw_call (F := [pt b75 #[.int .i64 y66.Index, .string y66.ID, .slice r70.Path.p y66.Path.length r70.Path.c] 43, pt b21 #[.int .i64 x4.Size, .slice p0 x4.Sides.length c0] 35] ++ F0) rfl rfl rfl rfl rfl rfl rfl (by kernel_rfl) (perm_of_pulls [0, 1, 2, 2] rfl) (c_pledge_Leaf _ ((ByteArray.mk #[105, 100]) ++ r80) (⟨l54, l57, (⟨s60, s61⟩ : A2_ByteArray), x62, x63, x64⟩ : mill_Mill) b56 b59 b0 r83 h84) ?_)
      rintro _ _ ⟨r83_b1, r83_b3, rfl, rfl⟩
      refine nw_H (H' := [imm J51, pt b0 #[.map (some r83_b1), .map (some r83_b3), .string r83.2.twins_.e0, .string r83.2.twins_.e1, .bool r83.2.found_, .bool r83.2.full_, .int .i64 r83.2.sums_] 64, mpo kStr kStr r83_b1 r83.2.table_, mpo kStr kStr r83_b3 r83.2.notes_, pt b75 #[.int .i64 y66.Index, .string y66.ID, .slice r70.Path.p y66.Path.length r70.Path.c] 43, pt b21 #[.int .i64 x4.Size, .slice p0 x4.Sides.length c0] 35] ++ F0) rfl (aw_next (fun w hs => sat_pulls [0, 3, 3] (G := [pt b0 #[.map (some r83_b1), .map (some r83_b3), .string r83.2.twins_.e0, .string r83.2.twins_.e1, .bool r83.2.found_, .bool r83.2.full_, .int .i64 r83.2.sums_] 64, mpo kStr kStr r83_b1 r83.2.table_, mpo kStr kStr r83_b3 r83.2.notes_] ++ F0) rfl hs) ?_)
      obtain ⟨r87, h88, hF⟩ := bind_some hF
      refine aw_only 12 (m' := 8191) (by kernel_rfl) (by kernel_rfl) (pw_call (F := [pt b75 #[.int .i64 y66.Index, .string y66.ID, .slice r70.Path.p y66.Path.length r70.Path.c] 43, pt b21 #[.int .i64 x4.Size, .slice p0 x4.Sides.length c0] 35] ++ F0) rfl rfl rfl rfl rfl rfl rfl (by kernel_rfl) (perm_of_pulls [0, 0, 0, 0] rfl) (c_merkle_Climb _ r83.1 y66.Index x2 y66.Path r83.2 r70.Path.p r70.Path.c r83_b1 r83_b3 b0 r87 h88 h74) ?_)
      rintro _ _ ⟨r87_J, r87_b1, r87_b3, rfl, rfl, r87_hJ⟩
      refine nw_H (H' := [imm r87_J, pt b0 #[.map (some r87_b1), .map (some r87_b3), .string r87.2.2.twins_.e0, .string r87.2.2.twins_.e1, .bool r87.2.2.found_, .bool r87.2.2.full_, .int .i64 r87.2.2.sums_] 64, mpo kStr kStr r87_b1 r87.2.2.table_, mpo kStr kStr r87_b3 r87.2.2.notes_, pt b75 #[.int .i64 y66.Index, .string y66.ID, .slice r70.Path.p y66.Path.length r70.Path.c] 43, pt b21 #[.int .i64 x4.Size, .slice p0 x4.Sides.length c0] 35] ++ F0) rfl (aw_last (by kernel_rfl) ?_)
      have h74 := ro.sub r87_hJ h74
      have hr0 := roN.sub r87_hJ hr0
      refine aw_past (by kernel_rfl) ?_
      refine aw_vals [13, 14, 15, 16, 17] (f' := 0) (m' := 262143) [0, 1, 2, 3, 9, 12, 14, 15] [(0, .pointer (some ⟨b0, 0, none⟩)), (1, .string x1), (2, .int .i64 x2), (3, .string x3), (9, .pointer (some ⟨b21, 0, none⟩)), (12, .int .i64 x53), (14, .string r87.1), (15, .int .i64 r87.2.1)] (fun _ _ _ _ _ h => calm_fin (P := Try.prog) (fn := Try.f23) _ _ _ _ _ h) (fun _ _ => trivial) rfl (by kernel_rfl) ?_
      refine aw_keep [0, 1, 2, 3, 9, 12, 14, 15] (L' := [(0, .pointer (some ⟨b0, 0, none⟩)), (1, .string x1), (2, .int .i64 x2), (3, .string x3), (9, .pointer (some ⟨b21, 0, none⟩)), (12, .int .i64 x53), (14, .string r87.1), (15, .int .i64 r87.2.1)]) rfl ?_
      refine aw_end (by kernel_rfl) ?_
      refine ew_then ?_
      refine cw_seq ?_
      refine cw_seq ?_
      refine cw_region ?_
      refine ow_vals 2 (j := 2) [0, 1, 2, 3, 9, 12, 14, 81] [(0, .pointer (some ⟨b0, 0, none⟩)), (1, .string x1), (2, .int .i64 x2), (3, .string x3), (9, .pointer (some ⟨b21, 0, none⟩)), (12, .int .i64 x53), (14, .string r87.1), (81, .bool (r87.2.1 != 0))] rfl (by kernel_rfl) ?_
      refine ow_end rfl ?_
      refine ew_then ?_
      rcases if_some hF with ⟨h91, hF⟩ | ⟨h91, hF⟩
      · refine cw_cond_t rfl rfl h91 ?_
        refine cw_seq ?_
        refine cw_region ?_
        refine ow_vals 2 (j := 2) [10, 11] [(10, .bool false), (11, .int .i64 20)] rfl (by kernel_rfl) ?_
        refine ow_end rfl ?_
        refine ew_then ?_
        refine cw_ret ?_
        refine ew_then_ret ?_
        refine ew_blk_ret ?_
        refine ew_then_ret ?_
        refine ew_then_ret ?_
        refine ew_blk_ret ?_
        refine ew_then_ret ?_
        have hR := Option.some.inj hF
        subst hR
        have hR := hL50
        try dsimp only at hR
        subst hR
        have hR := hK49
        try dsimp only [Thru] at hR
        subst hR
        exact fin2 (H1 := [imm r87_J, pt b0 #[.map (some r87_b1), .map (some r87_b3), .string r87.2.2.twins_.e0, .string r87.2.2.twins_.e1, .bool r87.2.2.found_, .bool r87.2.2.full_, .int .i64 r87.2.2.sums_] 64, mpo kStr kStr r87_b1 r87.2.2.table_, mpo kStr kStr r87_b3 r87.2.2.notes_]) (fun w hs => sat_to [4, 4, 0, 0, 0, 0] 2 rfl hs) rfl (rr_tmp rfl) (rr_tmp rfl) ⟨r87_J, r87_b1, r87_b3, rfl, rfl, (Hl.sub_trans h52 r87_hJ)⟩
      refine cw_cond_f rfl rfl h91 ?_
      refine cw_skip ?_
      refine ew_then ?_
      refine cw_seq ?_
      refine cw_region ?_
      refine ow_vals 3 (j := 3) [0, 1, 2, 3, 9, 12, 84] [(0, .pointer (some ⟨b0, 0, none⟩)), (1, .string x1), (2, .int .i64 x2), (3, .string x3), (9, .pointer (some ⟨b21, 0, none⟩)), (12, .int .i64 x53), (84, .bool (!(seqB r87.1 x1)))] rfl (by kernel_rfl) ?_
      refine ow_end rfl ?_
      refine ew_then ?_
      rcases if_some hF with ⟨h92, hF⟩ | ⟨h92, hF⟩
      · refine cw_cond_t rfl rfl h92 ?_
        refine cw_seq ?_
        refine cw_region ?_
        refine ow_vals 2 (j := 2) [10, 11] [(10, .bool false), (11, .int .i64 19)] rfl (by kernel_rfl) ?_
        refine ow_end rfl ?_
        refine ew_then ?_
        refine cw_ret ?_
        refine ew_blk_ret ?_
        refine ew_then_ret ?_
        refine ew_then_ret ?_
        refine ew_blk_ret ?_
        refine ew_then_ret ?_
        have hR := Option.some.inj hF
        subst hR
        have hR := hL50
        try dsimp only at hR
        subst hR
        have hR := hK49
        try dsimp only [Thru] at hR
        subst hR
        exact fin2 (H1 := [imm r87_J, pt b0 #[.map (some r87_b1), .map (some r87_b3), .string r87.2.2.twins_.e0, .string r87.2.2.twins_.e1, .bool r87.2.2.found_, .bool r87.2.2.full_, .int .i64 r87.2.2.sums_] 64, mpo kStr kStr r87_b1 r87.2.2.table_, mpo kStr kStr r87_b3 r87.2.2.notes_]) (fun w hs => sat_to [4, 4, 0, 0, 0, 0] 2 rfl hs) rfl (rr_tmp rfl) (rr_tmp rfl) ⟨r87_J, r87_b1, r87_b3, rfl, rfl, (Hl.sub_trans h52 r87_hJ)⟩
      refine cw_cond_f rfl rfl h92 ?_
      refine cw_skip ?_
      refine ew_blk ?_
      refine ew_then ?_
      refine cw_region ?_
      refine ow_vals 3 (j := 3) [0, 1, 2, 3, 9, 12] [(0, .pointer (some ⟨b0, 0, none⟩)), (1, .string x1), (2, .int .i64 x2), (3, .string x3), (9, .pointer (some ⟨b21, 0, none⟩)), (12, .int .i64 (IntKind.i64.wrap (x53 + 1)))] rfl (by kernel_rfl) ?_
      refine ow_end rfl ?_
      have hR := Option.some.inj hF
      subst hR
      have hR := hL50
      try dsimp only at hR
      exact fun a w hf hs => ⟨k, Nat.lt_succ_self k, IntKind.i64.wrap (x53 + 1), r87.2.2.table_, r87.2.2.notes_, r87.2.2.twins_.e0, r87.2.2.twins_.e1, r87.2.2.found_, r87.2.2.full_, r87.2.2.sums_, r87_J, r87_b1, r87_b3, hR, (Hl.sub_trans h52 r87_hJ), hf.keep [0, 1, 2, 3, 9, 12], sat_to [4, 0, 0, 2, 0, 0] 1 rfl hs⟩
    refine cw_cond_f rfl rfl h65 ?_
    refine cw_exit ?_
    refine ew_then_exit ?_
    refine ew_then_exit ?_
    refine ew_blk_exit ?_
    have hR := Option.some.inj hF
    subst hR
    have hR := hL50
    try dsimp only at hR
    exact fun a w hf hs => ⟨l54, l57, s60, s61, x62, x63, x64, J51, b56, b59, hR, h52, hf.keep [2, 3, 9], sat_to [0, 0, 0, 0, 0] 0 rfl hs⟩
  rintro a w ⟨l95, l98, s101, s102, x103, x104, x105, J93, b97, b100, hv, h94, hf, hs⟩
  subst hv
  replace hF := hK49
  clear hK49
  try dsimp only [Thru] at hF
  revert a w
  show CW _ _ _ 157 [(2, .int .i64 x2), (3, .string x3), (9, .pointer (some ⟨b21, 0, none⟩))] (SAT w0 ([imm J93, pt b0 #[.map (some b97), .map (some b100), .string s101, .string s102, .bool x103, .bool x104, .int .i64 x105] 64, pt b21 #[.int .i64 x4.Size, .slice p0 x4.Sides.length c0] 35, mpo kStr kStr b97 l95, mpo kStr kStr b100 l98] ++ F0))
  unfold F.law24_check.r4 at hF
  have hr0 := roN.sub h94 hr0
  obtain ⟨v106, hF, hK106⟩ := thru_some hF
  refine cw_mid (fun a w => .inl () = v106 ∧ Fr 157 [(2, .int .i64 x2), (3, .string x3), (9, .pointer (some ⟨b21, 0, none⟩))] a ∧ SAT w0 ([imm J93, pt b0 #[.map (some b97), .map (some b100), .string s101, .string s102, .bool x103, .bool x104, .int .i64 x105] 64, pt b21 #[.int .i64 x4.Size, .slice p0 x4.Sides.length c0] 35, mpo kStr kStr b97 l95, mpo kStr kStr b100 l98] ++ F0) w) ?_ ?_
  · refine cw_seq ?_
    refine cw_region ?_
    refine ow_vals 1 (j := 1) [2, 3, 9, 85] [(2, .int .i64 x2), (3, .string x3), (9, .pointer (some ⟨b21, 0, none⟩)), (85, .pointer (some ⟨b21, 1, none⟩))] rfl (by kernel_rfl) ?_
    refine ow_pw rfl (pw_quiet (v := .slice p0 x4.Sides.length c0) rfl rfl rfl rfl (q_load 2 rfl rfl rfl (by kernel_rfl)) (nw_ow ?_))
    refine ow_vals 3 (j := 5) [2, 3, 9, 89] [(2, .int .i64 x2), (3, .string x3), (9, .pointer (some ⟨b21, 0, none⟩)), (89, .bool ((x4.Sides.length : Int) == 0))] rfl (by kernel_rfl) ?_
    rcases if_some hF with ⟨h107, hF⟩ | ⟨h107, hF⟩
    · refine ow_slots (L' := [(2, .int .i64 x2), (3, .string x3), (9, .pointer (some ⟨b21, 0, none⟩)), (89, .bool true)]) (by rw [h107]) ?_
      refine ow_vals 3 (j := 8) [2, 3, 9, 92] [(2, .int .i64 x2), (3, .string x3), (9, .pointer (some ⟨b21, 0, none⟩)), (92, .bool (x2 == 0))] rfl (by kernel_rfl) ?_
      refine ow_end rfl ?_
      refine ew_then ?_
      rcases if_some hF with ⟨h108, hF⟩ | ⟨h108, hF⟩
      · refine cw_cond_t rfl rfl h108 ?_
        refine cw_seq ?_
        refine cw_region ?_
        refine ow_vals 2 (j := 2) [10, 11] [(10, .bool false), (11, .int .i64 0)] rfl (by kernel_rfl) ?_
        refine ow_end rfl ?_
        refine ew_then ?_
        refine cw_ret ?_
        refine ew_then_ret ?_
        have hR := Option.some.inj hF
        subst hR
        have hR := hK106
        try dsimp only [Thru] at hR
        subst hR
        exact fin2 (H1 := [imm J93, pt b0 #[.map (some b97), .map (some b100), .string (((⟨l95, l98, (⟨s101, s102⟩ : A2_ByteArray), x103, x104, x105⟩ : mill_Mill).twins_).e0), .string (((⟨l95, l98, (⟨s101, s102⟩ : A2_ByteArray), x103, x104, x105⟩ : mill_Mill).twins_).e1), .bool ((⟨l95, l98, (⟨s101, s102⟩ : A2_ByteArray), x103, x104, x105⟩ : mill_Mill).found_), .bool ((⟨l95, l98, (⟨s101, s102⟩ : A2_ByteArray), x103, x104, x105⟩ : mill_Mill).full_), .int .i64 ((⟨l95, l98, (⟨s101, s102⟩ : A2_ByteArray), x103, x104, x105⟩ : mill_Mill).sums_)] 64, mpo kStr kStr b97 ((⟨l95, l98, (⟨s101, s102⟩ : A2_ByteArray), x103, x104, x105⟩ : mill_Mill).table_), mpo kStr kStr b100 ((⟨l95, l98, (⟨s101, s102⟩ : A2_ByteArray), x103, x104, x105⟩ : mill_Mill).notes_)]) (fun w hs => sat_to [2, 0, 0, 0, 0] 1 rfl hs) rfl (rr_tmp rfl) (rr_tmp rfl) ⟨J93, b97, b100, rfl, rfl, h94⟩
      refine cw_cond_f rfl rfl h108 ?_
      refine cw_skip ?_
      have hR := Option.some.inj hF
      exact fun a w hf hs => ⟨hR, hf.keep [2, 3, 9], sat_to [0, 0, 0, 0, 0] 0 rfl hs⟩
    refine ow_slots (L' := [(2, .int .i64 x2), (3, .string x3), (9, .pointer (some ⟨b21, 0, none⟩)), (89, .bool false)]) (by rw [h107]) ?_
    refine ow_vals 3 (j := 8) [2, 3, 9, 92] [(2, .int .i64 x2), (3, .string x3), (9, .pointer (some ⟨b21, 0, none⟩)), (92, .bool false)] rfl (by kernel_rfl) ?_
    refine ow_end rfl ?_
    refine ew_then ?_
    refine cw_cond_f rfl rfl rfl ?_
    refine cw_skip ?_
    have hR := Option.some.inj hF
    exact fun a w hf hs => ⟨hR, hf.keep [2, 3, 9], sat_to [0, 0, 0, 0, 0] 0 rfl hs⟩
  rintro a w ⟨hv, hf, hs⟩
  subst hv
  replace hF := hK106
  clear hK106
  try dsimp only [Thru] at hF
  revert a w
  show CW _ _ _ 157 [(2, .int .i64 x2), (3, .string x3), (9, .pointer (some ⟨b21, 0, none⟩))] (SAT w0 ([imm J93, pt b0 #[.map (some b97), .map (some b100), .string s101, .string s102, .bool x103, .bool x104, .int .i64 x105] 64, pt b21 #[.int .i64 x4.Size, .slice p0 x4.Sides.length c0] 35, mpo kStr kStr b97 l95, mpo kStr kStr b100 l98] ++ F0))
  unfold F.law24_check.r5 at hF
  obtain ⟨v109, hF, hK109⟩ := thru_some hF
  refine cw_mid (fun a w => ∃ (b129 : Nat), .inl () = v109 ∧ Fr 157 [(3, .string x3), (9, .pointer (some ⟨b21, 0, none⟩))] a ∧ SAT w0 ([imm J93, pt b0 #[.map (some b97), .map (some b100), .string s101, .string s102, .bool x103, .bool x104, .int .i64 x105] 64, pt b21 #[.int .i64 x4.Size, .slice p0 x4.Sides.length c0] 35, mpo kStr kStr b97 l95, mpo kStr kStr b100 l98] ++ F0) w) ?_ ?_
  · refine cw_seq ?_
    refine cw_region ?_
    refine ow_vals 1 (j := 1) [2, 3, 9, 93] [(2, .int .i64 x2), (3, .string x3), (9, .pointer (some ⟨b21, 0, none⟩)), (93, .pointer (some ⟨b21, 1, none⟩))] rfl (by kernel_rfl) ?_
    refine ow_pw rfl (pw_quiet (v := .slice p0 x4.Sides.length c0) rfl rfl rfl rfl (q_load 2 rfl rfl rfl (by kernel_rfl)) (nw_ow ?_))
    refine ow_vals 2 (j := 4) [2, 3, 9, 96] [(2, .int .i64 x2), (3, .string x3), (9, .pointer (some ⟨b21, 0, none⟩)), (96, .bool ((x4.Sides.length : Int) == 1))] rfl (by kernel_rfl) ?_
    refine ow_end rfl ?_
    refine ew_then ?_
    rcases if_some hF with ⟨h110, hF⟩ | ⟨h110, hF⟩
    · refine cw_cond_t rfl rfl h110 ?_
      refine cw_seq ?_
      refine cw_region ?_
      refine ow_vals 1 (j := 1) [2, 3, 9, 97] [(2, .int .i64 x2), (3, .string x3), (9, .pointer (some ⟨b21, 0, none⟩)), (97, .pointer (some ⟨b21, 1, none⟩))] rfl (by kernel_rfl) ?_
      refine ow_pw rfl (pw_quiet (v := .slice p0 x4.Sides.length c0) rfl rfl rfl rfl (q_load 2 rfl rfl rfl (by kernel_rfl)) (nw_ow ?_))
      obtain ⟨y111, h112, hF⟩ := bind_some hF
      refine ow_pw rfl (pw_index_roN (E := 43) 3 hr0 rfl rfl rfl rfl rfl (by kernel_rfl) rfl rfl rfl h112 fun q113 h114 => nw_ow ?_)
      obtain ⟨r115, h116, h117, h118⟩ := (id h114)
      have h119 : ro J93 eStr r115.Path.p r115.Path.c y111.Path := by subst h117; exact h118
      refine ow_pw rfl (pw_quiet (v := .agg #[.int .i64 y111.Index, .string y111.ID, .slice r115.Path.p y111.Path.length r115.Path.c]) rfl rfl rfl rfl (q_load_el0 0 rfl h116 rfl rfl (by subst h117; kernel_rfl)) (nw_ow ?_))
      refine ow_pw rfl (pw_alloc (cs := #[.int .i64 0, .string (ByteArray.mk #[]), .slice none 0 0]) rfl rfl rfl rfl rfl (by kernel_rfl) fun b120 => nw_ow ?_)
      refine ow_pw rfl (pw_store 0 #[.int .i64 y111.Index, .string y111.ID, .slice r115.Path.p y111.Path.length r115.Path.c] rfl rfl rfl rfl rfl rfl rfl (by kernel_rfl) (nw_H (H' := [pt b120 #[.int .i64 y111.Index, .string y111.ID, .slice r115.Path.p y111.Path.length r115.Path.c] 43, imm J93, pt b0 #[.map (some b97), .map (some b100), .string s101, .string s102, .bool x103, .bool x104, .int .i64 x105] 64, pt b21 #[.int .i64 x4.Size, .slice p0 x4.Sides.length c0] 35, mpo kStr kStr b97 l95, mpo kStr kStr b100 l98] ++ F0) rfl (nw_ow ?_)))
      refine ow_end rfl ?_
      refine ew_then ?_
      refine cw_seq ?_
      refine cw_seq ?_
      refine cw_region ?_
      refine ow_vals 1 (j := 1) [2, 3, 9, 16, 101] [(2, .int .i64 x2), (3, .string x3), (9, .pointer (some ⟨b21, 0, none⟩)), (16, .pointer (some ⟨b120, 0, none⟩)), (101, .pointer (some ⟨b120, 1, none⟩))] rfl (by kernel_rfl) ?_
      refine ow_pw rfl (pw_quiet (v := .string y111.ID) rfl rfl rfl rfl (q_load 0 rfl rfl rfl (by kernel_rfl)) (nw_ow ?_))
      refine ow_vals 2 (j := 4) [2, 3, 9, 16, 104] [(2, .int .i64 x2), (3, .string x3), (9, .pointer (some ⟨b21, 0, none⟩)), (16, .pointer (some ⟨b120, 0, none⟩)), (104, .bool (seqB y111.ID x3))] rfl (by kernel_rfl) ?_
      refine ow_end rfl ?_
      refine ew_then ?_
      rcases if_some hF with ⟨h122, hF⟩ | ⟨h122, hF⟩
      · refine cw_cond_t rfl rfl h122 ?_
        refine cw_seq ?_
        refine cw_region ?_
        refine ow_vals 2 (j := 2) [10, 11] [(10, .bool true), (11, .int .i64 0)] rfl (by kernel_rfl) ?_
        refine ow_end rfl ?_
        refine ew_then ?_
        refine cw_ret ?_
        refine ew_then_ret ?_
        refine ew_then_ret ?_
        have hR := Option.some.inj hF
        subst hR
        have hR := hK109
        try dsimp only [Thru] at hR
        subst hR
        exact fin2 (H1 := [imm J93, pt b0 #[.map (some b97), .map (some b100), .string (((⟨l95, l98, (⟨s101, s102⟩ : A2_ByteArray), x103, x104, x105⟩ : mill_Mill).twins_).e0), .string (((⟨l95, l98, (⟨s101, s102⟩ : A2_ByteArray), x103, x104, x105⟩ : mill_Mill).twins_).e1), .bool ((⟨l95, l98, (⟨s101, s102⟩ : A2_ByteArray), x103, x104, x105⟩ : mill_Mill).found_), .bool ((⟨l95, l98, (⟨s101, s102⟩ : A2_ByteArray), x103, x104, x105⟩ : mill_Mill).full_), .int .i64 ((⟨l95, l98, (⟨s101, s102⟩ : A2_ByteArray), x103, x104, x105⟩ : mill_Mill).sums_)] 64, mpo kStr kStr b97 ((⟨l95, l98, (⟨s101, s102⟩ : A2_ByteArray), x103, x104, x105⟩ : mill_Mill).table_), mpo kStr kStr b100 ((⟨l95, l98, (⟨s101, s102⟩ : A2_ByteArray), x103, x104, x105⟩ : mill_Mill).notes_)]) (fun w hs => sat_to [0, 2, 0, 0, 0, 0] 2 rfl hs) rfl (rr_tmp rfl) (rr_tmp rfl) ⟨J93, b97, b100, rfl, rfl, h94⟩
      refine cw_cond_f rfl rfl h122 ?_
      refine cw_skip ?_
      refine ew_then ?_
      refine cw_seq ?_
      refine cw_region ?_
      refine ow_vals 1 (j := 1) [2, 3, 9, 16, 105] [(2, .int .i64 x2), (3, .string x3), (9, .pointer (some ⟨b21, 0, none⟩)), (16, .pointer (some ⟨b120, 0, none⟩)), (105, .pointer (some ⟨b120, 1, none⟩))] rfl (by kernel_rfl) ?_
      refine ow_pw rfl (pw_quiet (v := .string y111.ID) rfl rfl rfl rfl (q_load 0 rfl rfl rfl (by kernel_rfl)) (nw_ow ?_))
      refine ow_vals 3 (j := 5) [2, 3, 9, 16, 109] [(2, .int .i64 x2), (3, .string x3), (9, .pointer (some ⟨b21, 0, none⟩)), (16, .pointer (some ⟨b120, 0, none⟩)), (109, .bool (sltB y111.ID x3))] rfl (by kernel_rfl) ?_
      rcases if_some hF with ⟨h123, hF⟩ | ⟨h123, hF⟩
      · refine ow_slots (L' := [(2, .int .i64 x2), (3, .string x3), (9, .pointer (some ⟨b21, 0, none⟩)), (16, .pointer (some ⟨b120, 0, none⟩)), (109, .bool true)]) (by rw [h123]) ?_
        refine ow_vals 1 (j := 6) [2, 3, 9, 16, 109, 110] [(2, .int .i64 x2), (3, .string x3), (9, .pointer (some ⟨b21, 0, none⟩)), (16, .pointer (some ⟨b120, 0, none⟩)), (109, .bool true), (110, .pointer (some ⟨b120, 0, none⟩))] rfl (by kernel_rfl) ?_
        refine ow_pw rfl (pw_quiet (v := .int .i64 y111.Index) rfl rfl rfl rfl (q_load 0 rfl rfl rfl (by kernel_rfl)) (nw_ow ?_))
        refine ow_vals 5 (j := 12) [3, 9, 16, 116] [(3, .string x3), (9, .pointer (some ⟨b21, 0, none⟩)), (16, .pointer (some ⟨b120, 0, none⟩)), (116, .bool (y111.Index == (IntKind.i64.wrap (x2 - 1))))] rfl (by kernel_rfl) ?_
        rcases if_some hF with ⟨h124, hF⟩ | ⟨h124, hF⟩
        · refine ow_slots (L' := [(3, .string x3), (9, .pointer (some ⟨b21, 0, none⟩)), (16, .pointer (some ⟨b120, 0, none⟩)), (116, .bool true)]) (by rw [h124]) ?_
          refine ow_vals 10 (j := 22) [3, 9, 126] [(3, .string x3), (9, .pointer (some ⟨b21, 0, none⟩)), (126, .bool true)] rfl (by kernel_rfl) ?_
          refine ow_end rfl ?_
          refine ew_then ?_
          refine cw_cond_t rfl rfl rfl ?_
          refine cw_seq ?_
          refine cw_region ?_
          refine ow_vals 2 (j := 2) [10, 11] [(10, .bool false), (11, .int .i64 0)] rfl (by kernel_rfl) ?_
          refine ow_end rfl ?_
          refine ew_then ?_
          refine cw_ret ?_
          refine ew_then_ret ?_
          have hR := Option.some.inj hF
          subst hR
          have hR := hK109
          try dsimp only [Thru] at hR
          subst hR
          exact fin2 (H1 := [imm J93, pt b0 #[.map (some b97), .map (some b100), .string (((⟨l95, l98, (⟨s101, s102⟩ : A2_ByteArray), x103, x104, x105⟩ : mill_Mill).twins_).e0), .string (((⟨l95, l98, (⟨s101, s102⟩ : A2_ByteArray), x103, x104, x105⟩ : mill_Mill).twins_).e1), .bool ((⟨l95, l98, (⟨s101, s102⟩ : A2_ByteArray), x103, x104, x105⟩ : mill_Mill).found_), .bool ((⟨l95, l98, (⟨s101, s102⟩ : A2_ByteArray), x103, x104, x105⟩ : mill_Mill).full_), .int .i64 ((⟨l95, l98, (⟨s101, s102⟩ : A2_ByteArray), x103, x104, x105⟩ : mill_Mill).sums_)] 64, mpo kStr kStr b97 ((⟨l95, l98, (⟨s101, s102⟩ : A2_ByteArray), x103, x104, x105⟩ : mill_Mill).table_), mpo kStr kStr b100 ((⟨l95, l98, (⟨s101, s102⟩ : A2_ByteArray), x103, x104, x105⟩ : mill_Mill).notes_)]) (fun w hs => sat_to [0, 2, 0, 0, 0, 0] 2 rfl hs) rfl (rr_tmp rfl) (rr_tmp rfl) ⟨J93, b97, b100, rfl, rfl, h94⟩
        refine ow_slots (L' := [(3, .string x3), (9, .pointer (some ⟨b21, 0, none⟩)), (16, .pointer (some ⟨b120, 0, none⟩)), (116, .bool false)]) (by rw [h124]) ?_
        refine ow_vals 1 (j := 13) [3, 9, 16, 116, 117] [(3, .string x3), (9, .pointer (some ⟨b21, 0, none⟩)), (16, .pointer (some ⟨b120, 0, none⟩)), (116, .bool false), (117, .pointer (some ⟨b120, 1, none⟩))] rfl (by kernel_rfl) ?_
        refine ow_pw rfl (pw_quiet (v := .string y111.ID) rfl rfl rfl rfl (q_load 0 rfl rfl rfl (by kernel_rfl)) (nw_ow ?_))
        refine ow_vals 3 (j := 17) [3, 9, 16, 116, 121] [(3, .string x3), (9, .pointer (some ⟨b21, 0, none⟩)), (16, .pointer (some ⟨b120, 0, none⟩)), (116, .bool false), (121, .bool (!((sltB y111.ID x3) || (seqB y111.ID x3))))] rfl (by kernel_rfl) ?_
        rcases if_some hF with ⟨h125, hF⟩ | ⟨h125, hF⟩
        · refine ow_slots (L' := [(3, .string x3), (9, .pointer (some ⟨b21, 0, none⟩)), (16, .pointer (some ⟨b120, 0, none⟩)), (116, .bool false), (121, .bool true)]) (by rw [h125]) ?_
          refine ow_vals 1 (j := 18) [3, 9, 116, 121, 122] [(3, .string x3), (9, .pointer (some ⟨b21, 0, none⟩)), (116, .bool false), (121, .bool true), (122, .pointer (some ⟨b120, 0, none⟩))] rfl (by kernel_rfl) ?_
          refine ow_pw rfl (pw_quiet (v := .int .i64 y111.Index) rfl rfl rfl rfl (q_load 0 rfl rfl rfl (by kernel_rfl)) (nw_ow ?_))
          refine ow_vals 3 (j := 22) [3, 9, 126] [(3, .string x3), (9, .pointer (some ⟨b21, 0, none⟩)), (126, .bool (y111.Index == 0))] rfl (by kernel_rfl) ?_
          refine ow_end rfl ?_
          refine ew_then ?_
          rcases if_some hF with ⟨h126, hF⟩ | ⟨h126, hF⟩
          · refine cw_cond_t rfl rfl h126 ?_
            refine cw_seq ?_
            refine cw_region ?_
            refine ow_vals 2 (j := 2) [10, 11] [(10, .bool false), (11, .int .i64 0)] rfl (by kernel_rfl) ?_
            refine ow_end rfl ?_
            refine ew_then ?_
            refine cw_ret ?_
            refine ew_then_ret ?_
            have hR := Option.some.inj hF
            subst hR
            have hR := hK109
            try dsimp only [Thru] at hR
            subst hR
            exact fin2 (H1 := [imm J93, pt b0 #[.map (some b97), .map (some b100), .string (((⟨l95, l98, (⟨s101, s102⟩ : A2_ByteArray), x103, x104, x105⟩ : mill_Mill).twins_).e0), .string (((⟨l95, l98, (⟨s101, s102⟩ : A2_ByteArray), x103, x104, x105⟩ : mill_Mill).twins_).e1), .bool ((⟨l95, l98, (⟨s101, s102⟩ : A2_ByteArray), x103, x104, x105⟩ : mill_Mill).found_), .bool ((⟨l95, l98, (⟨s101, s102⟩ : A2_ByteArray), x103, x104, x105⟩ : mill_Mill).full_), .int .i64 ((⟨l95, l98, (⟨s101, s102⟩ : A2_ByteArray), x103, x104, x105⟩ : mill_Mill).sums_)] 64, mpo kStr kStr b97 ((⟨l95, l98, (⟨s101, s102⟩ : A2_ByteArray), x103, x104, x105⟩ : mill_Mill).table_), mpo kStr kStr b100 ((⟨l95, l98, (⟨s101, s102⟩ : A2_ByteArray), x103, x104, x105⟩ : mill_Mill).notes_)]) (fun w hs => sat_to [0, 2, 0, 0, 0, 0] 2 rfl hs) rfl (rr_tmp rfl) (rr_tmp rfl) ⟨J93, b97, b100, rfl, rfl, h94⟩
          refine cw_cond_f rfl rfl h126 ?_
          refine cw_skip ?_
          have hR := Option.some.inj hF
          exact fun a w hf hs => ⟨b120, hR, hf.keep [3, 9], sat_to [0, 0, 0, 0, 0, 0] 1 rfl hs⟩
        refine ow_slots (L' := [(3, .string x3), (9, .pointer (some ⟨b21, 0, none⟩)), (16, .pointer (some ⟨b120, 0, none⟩)), (116, .bool false), (121, .bool false)]) (by rw [h125]) ?_
        refine ow_vals 5 (j := 22) [3, 9, 126] [(3, .string x3), (9, .pointer (some ⟨b21, 0, none⟩)), (126, .bool false)] rfl (by kernel_rfl) ?_
        refine ow_end rfl ?_
        refine ew_then ?_
        refine cw_cond_f rfl rfl rfl ?_
        refine cw_skip ?_
        have hR := Option.some.inj hF
        exact fun a w hf hs => ⟨b120, hR, hf.keep [3, 9], sat_to [0, 0, 0, 0, 0, 0] 1 rfl hs⟩
      refine ow_slots (L' := [(2, .int .i64 x2), (3, .string x3), (9, .pointer (some ⟨b21, 0, none⟩)), (16, .pointer (some ⟨b120, 0, none⟩)), (109, .bool false)]) (by rw [h123]) ?_
      refine ow_vals 8 (j := 13) [3, 9, 16, 116, 117] [(3, .string x3), (9, .pointer (some ⟨b21, 0, none⟩)), (16, .pointer (some ⟨b120, 0, none⟩)), (116, .bool false), (117, .pointer (some ⟨b120, 1, none⟩))] rfl (by kernel_rfl) ?_
      refine ow_pw rfl (pw_quiet (v := .string y111.ID) rfl rfl rfl rfl (q_load 0 rfl rfl rfl (by kernel_rfl)) (nw_ow ?_))
      refine ow_vals 3 (j := 17) [3, 9, 16, 116, 121] [(3, .string x3), (9, .pointer (some ⟨b21, 0, none⟩)), (16, .pointer (some ⟨b120, 0, none⟩)), (116, .bool false), (121, .bool (!((sltB y111.ID x3) || (seqB y111.ID x3))))] rfl (by kernel_rfl) ?_
      rcases if_some hF with ⟨h127, hF⟩ | ⟨h127, hF⟩
      · refine ow_slots (L' := [(3, .string x3), (9, .pointer (some ⟨b21, 0, none⟩)), (16, .pointer (some ⟨b120, 0, none⟩)), (116, .bool false), (121, .bool true)]) (by rw [h127]) ?_
        refine ow_vals 1 (j := 18) [3, 9, 116, 121, 122] [(3, .string x3), (9, .pointer (some ⟨b21, 0, none⟩)), (116, .bool false), (121, .bool true), (122, .pointer (some ⟨b120, 0, none⟩))] rfl (by kernel_rfl) ?_
        refine ow_pw rfl (pw_quiet (v := .int .i64 y111.Index) rfl rfl rfl rfl (q_load 0 rfl rfl rfl (by kernel_rfl)) (nw_ow ?_))
        refine ow_vals 3 (j := 22) [3, 9, 126] [(3, .string x3), (9, .pointer (some ⟨b21, 0, none⟩)), (126, .bool (y111.Index == 0))] rfl (by kernel_rfl) ?_
        refine ow_end rfl ?_
        refine ew_then ?_
        rcases if_some hF with ⟨h128, hF⟩ | ⟨h128, hF⟩
        · refine cw_cond_t rfl rfl h128 ?_
          refine cw_seq ?_
          refine cw_region ?_
          refine ow_vals 2 (j := 2) [10, 11] [(10, .bool false), (11, .int .i64 0)] rfl (by kernel_rfl) ?_
          refine ow_end rfl ?_
          refine ew_then ?_
          refine cw_ret ?_
          refine ew_then_ret ?_
          have hR := Option.some.inj hF
          subst hR
          have hR := hK109
          try dsimp only [Thru] at hR
          subst hR
          exact fin2 (H1 := [imm J93, pt b0 #[.map (some b97), .map (some b100), .string (((⟨l95, l98, (⟨s101, s102⟩ : A2_ByteArray), x103, x104, x105⟩ : mill_Mill).twins_).e0), .string (((⟨l95, l98, (⟨s101, s102⟩ : A2_ByteArray), x103, x104, x105⟩ : mill_Mill).twins_).e1), .bool ((⟨l95, l98, (⟨s101, s102⟩ : A2_ByteArray), x103, x104, x105⟩ : mill_Mill).found_), .bool ((⟨l95, l98, (⟨s101, s102⟩ : A2_ByteArray), x103, x104, x105⟩ : mill_Mill).full_), .int .i64 ((⟨l95, l98, (⟨s101, s102⟩ : A2_ByteArray), x103, x104, x105⟩ : mill_Mill).sums_)] 64, mpo kStr kStr b97 ((⟨l95, l98, (⟨s101, s102⟩ : A2_ByteArray), x103, x104, x105⟩ : mill_Mill).table_), mpo kStr kStr b100 ((⟨l95, l98, (⟨s101, s102⟩ : A2_ByteArray), x103, x104, x105⟩ : mill_Mill).notes_)]) (fun w hs => sat_to [0, 2, 0, 0, 0, 0] 2 rfl hs) rfl (rr_tmp rfl) (rr_tmp rfl) ⟨J93, b97, b100, rfl, rfl, h94⟩
        refine cw_cond_f rfl rfl h128 ?_
        refine cw_skip ?_
        have hR := Option.some.inj hF
        exact fun a w hf hs => ⟨b120, hR, hf.keep [3, 9], sat_to [0, 0, 0, 0, 0, 0] 1 rfl hs⟩
      refine ow_slots (L' := [(3, .string x3), (9, .pointer (some ⟨b21, 0, none⟩)), (16, .pointer (some ⟨b120, 0, none⟩)), (116, .bool false), (121, .bool false)]) (by rw [h127]) ?_
      refine ow_vals 5 (j := 22) [3, 9, 126] [(3, .string x3), (9, .pointer (some ⟨b21, 0, none⟩)), (126, .bool false)] rfl (by kernel_rfl) ?_
      refine ow_end rfl ?_
      refine ew_then ?_
      refine cw_cond_f rfl rfl rfl ?_
      refine cw_skip ?_
      have hR := Option.some.inj hF
      exact fun a w hf hs => ⟨b120, hR, hf.keep [3, 9], sat_to [0, 0, 0, 0, 0, 0] 1 rfl hs⟩
    refine cw_cond_f rfl rfl h110 ?_
    refine cw_skip ?_
    have hR := Option.some.inj hF
    exact fun a w hf hs => ⟨0, hR, hf.keep [3, 9], sat_to [0, 0, 0, 0, 0] 0 rfl hs⟩
  rintro a w ⟨b129, hv, hf, hs⟩
  subst hv
  replace hF := hK109
  clear hK109
  try dsimp only [Thru] at hF
  revert a w
  show CW _ _ _ 157 [(3, .string x3), (9, .pointer (some ⟨b21, 0, none⟩))] (SAT w0 ([imm J93, pt b0 #[.map (some b97), .map (some b100), .string s101, .string s102, .bool x103, .bool x104, .int .i64 x105] 64, pt b21 #[.int .i64 x4.Size, .slice p0 x4.Sides.length c0] 35, mpo kStr kStr b97 l95, mpo kStr kStr b100 l98] ++ F0))
  unfold F.law24_check.r6 at hF
  refine cw_seq ?_
  refine cw_seq ?_
  refine cw_region ?_
  refine ow_vals 1 (j := 1) [3, 9, 127] [(3, .string x3), (9, .pointer (some ⟨b21, 0, none⟩)), (127, .pointer (some ⟨b21, 1, none⟩))] rfl (by kernel_rfl) ?_
  refine ow_pw rfl (pw_quiet (v := .slice p0 x4.Sides.length c0) rfl rfl rfl rfl (q_load 2 rfl rfl rfl (by kernel_rfl)) (nw_ow ?_))
  refine ow_vals 2 (j := 4) [3, 9, 130] [(3, .string x3), (9, .pointer (some ⟨b21, 0, none⟩)), (130, .bool ((x4.Sides.length : Int) == 2))] rfl (by kernel_rfl) ?_
  refine ow_end rfl ?_
  refine ew_then ?_
  rcases if_some hF with ⟨h130, hF⟩ | ⟨h130, hF⟩
  · refine cw_cond_t rfl rfl h130 ?_
    refine cw_seq ?_
    refine cw_open 11 (SAT w0 ([imm J93, pt b0 #[.map (some b97), .map (some b100), .string s101, .string s102, .bool x103, .bool x104, .int .i64 x105] 64, pt b21 #[.int .i64 x4.Size, .slice p0 x4.Sides.length c0] 35, mpo kStr kStr b97 l95, mpo kStr kStr b100 l98])) (by kernel_rfl) (f := 12) rfl (fun w hs => sat_drew hs) ?_
    refine aw_vals [0, 4] (f' := 10) (m' := 17) [3, 131, 135] [(3, .string x3), (131, .pointer (some ⟨b21, 1, none⟩)), (135, .pointer (some ⟨b21, 1, none⟩))] (fun _ _ _ _ _ h => calm_fin (P := Try.prog) (fn := Try.f23) _ _ _ _ _ h) (fun w hs => sat_pulls [0, 0, 0, 0, 0] (G := [] ++ F0) rfl hs) rfl (by kernel_rfl) ?_
    refine aw_quiet 1 (m' := 19) (v := .slice p0 x4.Sides.length c0) 1 [] rfl rfl rfl rfl (by kernel_rfl) (by kernel_rfl) (by kernel_rfl) (fun _ _ _ _ _ h => calm_fin (P := Try.prog) (fn := Try.f23) _ _ _ _ _ h) (fun w hs => sat_pulls [0, 0, 0, 0, 0] (G := [] ++ F0) rfl hs) (q_load 2 rfl rfl rfl (by kernel_rfl)) ?_
    obtain ⟨y131, h132, hF⟩ := bind_some hF
    refine aw_index_roN (E := 43) 2 (m' := 23) 3 hr0 rfl rfl rfl rfl rfl (by kernel_rfl) (by kernel_rfl) (fun _ _ _ _ _ h => calm_fin (P := Try.prog) (fn := Try.f23) _ _ _ _ _ h) (fun w hs => sat_pulls [0, 0, 0, 0, 0] (G := [] ++ F0) rfl hs) (by kernel_rfl) rfl rfl rfl h132 fun q133 h134 => ?_
    obtain ⟨r135, h136, h137, h138⟩ := (id h134)
    have h139 : ro J93 eStr r135.Path.p r135.Path.c y131.Path := by subst h137; exact h138
    refine aw_quiet 3 (m' := 31) (v := .agg #[.int .i64 y131.Index, .string y131.ID, .slice r135.Path.p y131.Path.length r135.Path.c]) 3 [] rfl rfl rfl rfl (by kernel_rfl) (by kernel_rfl) (by kernel_rfl) (fun _ _ _ _ _ h => calm_fin (P := Try.prog) (fn := Try.f23) _ _ _ _ _ h) (fun w hs => sat_pulls [0, 0, 0, 0, 0] (G := [] ++ F0) rfl hs) (q_load_el0 0 rfl h136 rfl rfl (by subst h137; kernel_rfl)) ?_
    refine aw_quiet 5 (m' := 63) (v := .slice p0 x4.Sides.length c0) 5 [] rfl rfl rfl rfl (by kernel_rfl) (by kernel_rfl) (by kernel_rfl) (fun _ _ _ _ _ h => calm_fin (P := Try.prog) (fn := Try.f23) _ _ _ _ _ h) (fun w hs => sat_pulls [0, 0, 0, 0, 0] (G := [] ++ F0) rfl hs) (q_load 2 rfl rfl rfl (by kernel_rfl)) ?_
    obtain ⟨y140, h141, hF⟩ := bind_some hF
    refine aw_index_roN (E := 43) 6 (m' := 127) 3 hr0 rfl rfl rfl rfl rfl (by kernel_rfl) (by kernel_rfl) (fun _ _ _ _ _ h => calm_fin (P := Try.prog) (fn := Try.f23) _ _ _ _ _ h) (fun w hs => sat_pulls [0, 0, 0, 0, 0] (G := [] ++ F0) rfl hs) (by kernel_rfl) rfl rfl rfl h141 fun q142 h143 => ?_
    obtain ⟨r144, h145, h146, h147⟩ := (id h143)
    have h148 : ro J93 eStr r144.Path.p r144.Path.c y140.Path := by subst h146; exact h147
    refine aw_quiet 7 (m' := 255) (v := .agg #[.int .i64 y140.Index, .string y140.ID, .slice r144.Path.p y140.Path.length r144.Path.c]) 7 [] rfl rfl rfl rfl (by kernel_rfl) (by kernel_rfl) (by kernel_rfl) (fun _ _ _ _ _ h => calm_fin (P := Try.prog) (fn := Try.f23) _ _ _ _ _ h) (fun w hs => sat_pulls [0, 0, 0, 0, 0] (G := [] ++ F0) rfl hs) (q_load_el0 0 rfl h145 rfl rfl (by subst h146; kernel_rfl)) ?_
    refine aw_two 8 9 (mi := 511) (mj := 767) (by kernel_rfl) (by kernel_rfl) (by kernel_rfl) ?_ ?_
    · refine pw_alloc (cs := #[.int .i64 0, .string (ByteArray.mk #[]), .slice none 0 0]) rfl rfl rfl rfl rfl (by kernel_rfl) fun b153 => aw_next (fun w hs => sat_pulls [1, 1, 1, 1, 1] (G := [pt b153 #[.int .i64 0, .string (ByteArray.mk #[]), .slice none 0 0] 43] ++ F0) rfl hs) ?_
      refine aw_only 9 (m' := 1023) (by kernel_rfl) (by kernel_rfl) (pw_alloc (cs := #[.int .i64 0, .string (ByteArray.mk #[]), .slice none 0 0]) rfl rfl rfl rfl rfl (by kernel_rfl) fun b155 => aw_next (fun w hs => sat_pulls [2, 2, 2, 2, 2] (G := [pt b155 #[.int .i64 0, .string (ByteArray.mk #[]), .slice none 0 0] 43, pt b153 #[.int .i64 0, .string (ByteArray.mk #[]), .slice none 0 0] 43] ++ F0) rfl hs) ?_)
      refine aw_only 10 (m' := 2047) (by kernel_rfl) (by kernel_rfl) (pw_store 1 #[.int .i64 y131.Index, .string y131.ID, .slice r135.Path.p y131.Path.length r135.Path.c] rfl rfl rfl rfl rfl rfl rfl (by kernel_rfl) (nw_H (H' := [pt b155 #[.int .i64 0, .string (ByteArray.mk #[]), .slice none 0 0] 43, pt b153 #[.int .i64 y131.Index, .string y131.ID, .slice r135.Path.p y131.Path.length r135.Path.c] 43, imm J93, pt b0 #[.map (some b97), .map (some b100), .string s101, .string s102, .bool x103, .bool x104, .int .i64 x105] 64, pt b21 #[.int .i64 x4.Size, .slice p0 x4.Sides.length c0] 35, mpo kStr kStr b97 l95, mpo kStr kStr b100 l98] ++ F0) rfl (aw_next (fun w hs => sat_pulls [2, 2, 2, 2, 2] (G := [pt b155 #[.int .i64 0, .string (ByteArray.mk #[]), .slice none 0 0] 43, pt b153 #[.int .i64 y131.Index, .string y131.ID, .slice r135.Path.p y131.Path.length r135.Path.c] 43] ++ F0) rfl hs) ?_)))
      refine aw_only 11 (m' := 4095) (by kernel_rfl) (by kernel_rfl) (pw_store 0 #[.int .i64 y140.Index, .string y140.ID, .slice r144.Path.p y140.Path.length r144.Path.c] rfl rfl rfl rfl rfl rfl rfl (by kernel_rfl) (nw_H (H' := [pt b155 #[.int .i64 y140.Index, .string y140.ID, .slice r144.Path.p y140.Path.length r144.Path.c] 43, pt b153 #[.int .i64 y131.Index, .string y131.ID, .slice r135.Path.p y131.Path.length r135.Path.c] 43, imm J93, pt b0 #[.map (some b97), .map (some b100), .string s101, .string s102, .bool x103, .bool x104, .int .i64 x105] 64, pt b21 #[.int .i64 x4.Size, .slice p0 x4.Sides.length c0] 35, mpo kStr kStr b97 l95, mpo kStr kStr b100 l98] ++ F0) rfl (aw_last (by kernel_rfl) ?_)))
      refine aw_keep [3, 17, 18] (L' := [(3, .string x3), (17, .pointer (some ⟨b153, 0, none⟩)), (18, .pointer (some ⟨b155, 0, none⟩))]) rfl ?_
      refine aw_end (by kernel_rfl) ?_
      refine ew_then ?_
      refine cw_seq ?_
      refine cw_region ?_
      refine ow_vals 1 (j := 1) [3, 17, 18, 139] [(3, .string x3), (17, .pointer (some ⟨b153, 0, none⟩)), (18, .pointer (some ⟨b155, 0, none⟩)), (139, .pointer (some ⟨b153, 1, none⟩))] rfl (by kernel_rfl) ?_
      refine ow_pw rfl (pw_quiet (v := .string y131.ID) rfl rfl rfl rfl (q_load 1 rfl rfl rfl (by kernel_rfl)) (nw_ow ?_))
      refine ow_vals 3 (j := 5) [3, 17, 18, 143] [(3, .string x3), (17, .pointer (some ⟨b153, 0, none⟩)), (18, .pointer (some ⟨b155, 0, none⟩)), (143, .bool (sltB y131.ID x3))] rfl (by kernel_rfl) ?_
      rcases if_some hF with ⟨h157, hF⟩ | ⟨h157, hF⟩
      · refine ow_slots (L' := [(3, .string x3), (17, .pointer (some ⟨b153, 0, none⟩)), (18, .pointer (some ⟨b155, 0, none⟩)), (143, .bool true)]) (by rw [h157]) ?_
        refine ow_vals 2 (j := 7) [17, 18, 143, 144, 145] [(17, .pointer (some ⟨b153, 0, none⟩)), (18, .pointer (some ⟨b155, 0, none⟩)), (143, .bool true), (144, .string x3), (145, .pointer (some ⟨b155, 1, none⟩))] rfl (by kernel_rfl) ?_
        refine ow_pw rfl (pw_quiet (v := .string y140.ID) rfl rfl rfl rfl (q_load 0 rfl rfl rfl (by kernel_rfl)) (nw_ow ?_))
        refine ow_vals 3 (j := 11) [17, 18, 149] [(17, .pointer (some ⟨b153, 0, none⟩)), (18, .pointer (some ⟨b155, 0, none⟩)), (149, .bool (sltB x3 y140.ID))] rfl (by kernel_rfl) ?_
        rcases if_some hF with ⟨h158, hF⟩ | ⟨h158, hF⟩
        · refine ow_slots (L' := [(17, .pointer (some ⟨b153, 0, none⟩)), (18, .pointer (some ⟨b155, 0, none⟩)), (149, .bool true)]) (by rw [h158]) ?_
          refine ow_vals 1 (j := 12) [18, 149, 150] [(18, .pointer (some ⟨b155, 0, none⟩)), (149, .bool true), (150, .pointer (some ⟨b153, 0, none⟩))] rfl (by kernel_rfl) ?_
          refine ow_pw rfl (pw_quiet (v := .int .i64 y131.Index) rfl rfl rfl rfl (q_load 1 rfl rfl rfl (by kernel_rfl)) (nw_ow ?_))
          refine ow_vals 1 (j := 14) [149, 151, 152] [(149, .bool true), (151, .int .i64 y131.Index), (152, .pointer (some ⟨b155, 0, none⟩))] rfl (by kernel_rfl) ?_
          refine ow_pw rfl (pw_quiet (v := .int .i64 y140.Index) rfl rfl rfl rfl (q_load 0 rfl rfl rfl (by kernel_rfl)) (nw_ow ?_))
          refine ow_vals 3 (j := 18) [156] [(156, .bool (y131.Index == (IntKind.i64.wrap (y140.Index - 1))))] rfl (by kernel_rfl) ?_
          refine ow_end rfl ?_
          refine ew_then ?_
          rcases if_some hF with ⟨h159, hF⟩ | ⟨h159, hF⟩
          · refine cw_cond_t rfl rfl h159 ?_
            refine cw_seq ?_
            refine cw_region ?_
            refine ow_vals 2 (j := 2) [10, 11] [(10, .bool false), (11, .int .i64 0)] rfl (by kernel_rfl) ?_
            refine ow_end rfl ?_
            refine ew_then ?_
            refine cw_ret ?_
            refine ew_then_ret ?_
            have hR := Option.some.inj hF
            subst hR
            exact fin2 (H1 := [imm J93, pt b0 #[.map (some b97), .map (some b100), .string (((⟨l95, l98, (⟨s101, s102⟩ : A2_ByteArray), x103, x104, x105⟩ : mill_Mill).twins_).e0), .string (((⟨l95, l98, (⟨s101, s102⟩ : A2_ByteArray), x103, x104, x105⟩ : mill_Mill).twins_).e1), .bool ((⟨l95, l98, (⟨s101, s102⟩ : A2_ByteArray), x103, x104, x105⟩ : mill_Mill).found_), .bool ((⟨l95, l98, (⟨s101, s102⟩ : A2_ByteArray), x103, x104, x105⟩ : mill_Mill).full_), .int .i64 ((⟨l95, l98, (⟨s101, s102⟩ : A2_ByteArray), x103, x104, x105⟩ : mill_Mill).sums_)] 64, mpo kStr kStr b97 ((⟨l95, l98, (⟨s101, s102⟩ : A2_ByteArray), x103, x104, x105⟩ : mill_Mill).table_), mpo kStr kStr b100 ((⟨l95, l98, (⟨s101, s102⟩ : A2_ByteArray), x103, x104, x105⟩ : mill_Mill).notes_)]) (fun w hs => sat_to [0, 0, 2, 0, 0, 0, 0] 3 rfl hs) rfl (rr_tmp rfl) (rr_tmp rfl) ⟨J93, b97, b100, rfl, rfl, h94⟩
          refine cw_cond_f rfl rfl h159 ?_
          refine cw_skip ?_
          refine ew_then ?_
          refine cw_seq ?_
          refine cw_region ?_
          refine ow_vals 2 (j := 2) [10, 11] [(10, .bool false), (11, .int .i64 22)] rfl (by kernel_rfl) ?_
          refine ow_end rfl ?_
          refine ew_then ?_
          refine cw_ret ?_
          have hR := Option.some.inj hF
          subst hR
          exact fin2 (H1 := [imm J93, pt b0 #[.map (some b97), .map (some b100), .string (((⟨l95, l98, (⟨s101, s102⟩ : A2_ByteArray), x103, x104, x105⟩ : mill_Mill).twins_).e0), .string (((⟨l95, l98, (⟨s101, s102⟩ : A2_ByteArray), x103, x104, x105⟩ : mill_Mill).twins_).e1), .bool ((⟨l95, l98, (⟨s101, s102⟩ : A2_ByteArray), x103, x104, x105⟩ : mill_Mill).found_), .bool ((⟨l95, l98, (⟨s101, s102⟩ : A2_ByteArray), x103, x104, x105⟩ : mill_Mill).full_), .int .i64 ((⟨l95, l98, (⟨s101, s102⟩ : A2_ByteArray), x103, x104, x105⟩ : mill_Mill).sums_)] 64, mpo kStr kStr b97 ((⟨l95, l98, (⟨s101, s102⟩ : A2_ByteArray), x103, x104, x105⟩ : mill_Mill).table_), mpo kStr kStr b100 ((⟨l95, l98, (⟨s101, s102⟩ : A2_ByteArray), x103, x104, x105⟩ : mill_Mill).notes_)]) (fun w hs => sat_to [0, 0, 2, 0, 0, 0, 0] 3 rfl hs) rfl (rr_tmp rfl) (rr_tmp rfl) ⟨J93, b97, b100, rfl, rfl, h94⟩
        refine ow_slots (L' := [(17, .pointer (some ⟨b153, 0, none⟩)), (18, .pointer (some ⟨b155, 0, none⟩)), (149, .bool false)]) (by rw [h158]) ?_
        refine ow_vals 7 (j := 18) [156] [(156, .bool false)] rfl (by kernel_rfl) ?_
        refine ow_end rfl ?_
        refine ew_then ?_
        refine cw_cond_f rfl rfl rfl ?_
        refine cw_skip ?_
        refine ew_then ?_
        refine cw_seq ?_
        refine cw_region ?_
        refine ow_vals 2 (j := 2) [10, 11] [(10, .bool false), (11, .int .i64 22)] rfl (by kernel_rfl) ?_
        refine ow_end rfl ?_
        refine ew_then ?_
        refine cw_ret ?_
        have hR := Option.some.inj hF
        subst hR
        exact fin2 (H1 := [imm J93, pt b0 #[.map (some b97), .map (some b100), .string (((⟨l95, l98, (⟨s101, s102⟩ : A2_ByteArray), x103, x104, x105⟩ : mill_Mill).twins_).e0), .string (((⟨l95, l98, (⟨s101, s102⟩ : A2_ByteArray), x103, x104, x105⟩ : mill_Mill).twins_).e1), .bool ((⟨l95, l98, (⟨s101, s102⟩ : A2_ByteArray), x103, x104, x105⟩ : mill_Mill).found_), .bool ((⟨l95, l98, (⟨s101, s102⟩ : A2_ByteArray), x103, x104, x105⟩ : mill_Mill).full_), .int .i64 ((⟨l95, l98, (⟨s101, s102⟩ : A2_ByteArray), x103, x104, x105⟩ : mill_Mill).sums_)] 64, mpo kStr kStr b97 ((⟨l95, l98, (⟨s101, s102⟩ : A2_ByteArray), x103, x104, x105⟩ : mill_Mill).table_), mpo kStr kStr b100 ((⟨l95, l98, (⟨s101, s102⟩ : A2_ByteArray), x103, x104, x105⟩ : mill_Mill).notes_)]) (fun w hs => sat_to [0, 0, 2, 0, 0, 0, 0] 3 rfl hs) rfl (rr_tmp rfl) (rr_tmp rfl) ⟨J93, b97, b100, rfl, rfl, h94⟩
      refine ow_slots (L' := [(3, .string x3), (17, .pointer (some ⟨b153, 0, none⟩)), (18, .pointer (some ⟨b155, 0, none⟩)), (143, .bool false)]) (by rw [h157]) ?_
      refine ow_vals 13 (j := 18) [156] [(156, .bool false)] rfl (by kernel_rfl) ?_
      refine ow_end rfl ?_
      refine ew_then ?_
      refine cw_cond_f rfl rfl rfl ?_
      refine cw_skip ?_
      refine ew_then ?_
      refine cw_seq ?_
      refine cw_region ?_
      refine ow_vals 2 (j := 2) [10, 11] [(10, .bool false), (11, .int .i64 22)] rfl (by kernel_rfl) ?_
      refine ow_end rfl ?_
      refine ew_then ?_
      refine cw_ret ?_
      have hR := Option.some.inj hF
      subst hR
      exact fin2 (H1 := [imm J93, pt b0 #[.map (some b97), .map (some b100), .string (((⟨l95, l98, (⟨s101, s102⟩ : A2_ByteArray), x103, x104, x105⟩ : mill_Mill).twins_).e0), .string (((⟨l95, l98, (⟨s101, s102⟩ : A2_ByteArray), x103, x104, x105⟩ : mill_Mill).twins_).e1), .bool ((⟨l95, l98, (⟨s101, s102⟩ : A2_ByteArray), x103, x104, x105⟩ : mill_Mill).found_), .bool ((⟨l95, l98, (⟨s101, s102⟩ : A2_ByteArray), x103, x104, x105⟩ : mill_Mill).full_), .int .i64 ((⟨l95, l98, (⟨s101, s102⟩ : A2_ByteArray), x103, x104, x105⟩ : mill_Mill).sums_)] 64, mpo kStr kStr b97 ((⟨l95, l98, (⟨s101, s102⟩ : A2_ByteArray), x103, x104, x105⟩ : mill_Mill).table_), mpo kStr kStr b100 ((⟨l95, l98, (⟨s101, s102⟩ : A2_ByteArray), x103, x104, x105⟩ : mill_Mill).notes_)]) (fun w hs => sat_to [0, 0, 2, 0, 0, 0, 0] 3 rfl hs) rfl (rr_tmp rfl) (rr_tmp rfl) ⟨J93, b97, b100, rfl, rfl, h94⟩
    refine pw_alloc (cs := #[.int .i64 0, .string (ByteArray.mk #[]), .slice none 0 0]) rfl rfl rfl rfl rfl (by kernel_rfl) fun b153 => aw_next (fun w hs => sat_pulls [1, 1, 1, 1, 1] (G := [pt b153 #[.int .i64 0, .string (ByteArray.mk #[]), .slice none 0 0] 43] ++ F0) rfl hs) ?_
    refine aw_only 8 (m' := 1023) (by kernel_rfl) (by kernel_rfl) (pw_alloc (cs := #[.int .i64 0, .string (ByteArray.mk #[]), .slice none 0 0]) rfl rfl rfl rfl rfl (by kernel_rfl) fun b155 => aw_next (fun w hs => sat_pulls [2, 2, 2, 2, 2] (G := [pt b155 #[.int .i64 0, .string (ByteArray.mk #[]), .slice none 0 0] 43, pt b153 #[.int .i64 0, .string (ByteArray.mk #[]), .slice none 0 0] 43] ++ F0) rfl hs) ?_)
    refine aw_only 10 (m' := 2047) (by kernel_rfl) (by kernel_rfl) (pw_store 0 #[.int .i64 y131.Index, .string y131.ID, .slice r135.Path.p y131.Path.length r135.Path.c] rfl rfl rfl rfl rfl rfl rfl (by kernel_rfl) (nw_H (H' := [pt b155 #[.int .i64 y131.Index, .string y131.ID, .slice r135.Path.p y131.Path.length r135.Path.c] 43, pt b153 #[.int .i64 0, .string (ByteArray.mk #[]), .slice none 0 0] 43, imm J93, pt b0 #[.map (some b97), .map (some b100), .string s101, .string s102, .bool x103, .bool x104, .int .i64 x105] 64, pt b21 #[.int .i64 x4.Size, .slice p0 x4.Sides.length c0] 35, mpo kStr kStr b97 l95, mpo kStr kStr b100 l98] ++ F0) rfl (aw_next (fun w hs => sat_pulls [2, 2, 2, 2, 2] (G := [pt b155 #[.int .i64 y131.Index, .string y131.ID, .slice r135.Path.p y131.Path.length r135.Path.c] 43, pt b153 #[.int .i64 0, .string (ByteArray.mk #[]), .slice none 0 0] 43] ++ F0) rfl hs) ?_)))
    refine aw_only 11 (m' := 4095) (by kernel_rfl) (by kernel_rfl) (pw_store 1 #[.int .i64 y140.Index, .string y140.ID, .slice r144.Path.p y140.Path.length r144.Path.c] rfl rfl rfl rfl rfl rfl rfl (by kernel_rfl) (nw_H (H' := [pt b155 #[.int .i64 y131.Index, .string y131.ID, .slice r135.Path.p y131.Path.length r135.Path.c] 43, pt b153 #[.int .i64 y140.Index, .string y140.ID, .slice r144.Path.p y140.Path.length r144.Path.c] 43, imm J93, pt b0 #[.map (some b97), .map (some b100), .string s101, .string s102, .bool x103, .bool x104, .int .i64 x105] 64, pt b21 #[.int .i64 x4.Size, .slice p0 x4.Sides.length c0] 35, mpo kStr kStr b97 l95, mpo kStr kStr b100 l98] ++ F0) rfl (aw_last (by kernel_rfl) ?_)))
    refine aw_keep [3, 17, 18] (L' := [(3, .string x3), (17, .pointer (some ⟨b155, 0, none⟩)), (18, .pointer (some ⟨b153, 0, none⟩))]) rfl ?_
    refine aw_end (by kernel_rfl) ?_
    refine ew_then ?_
    refine cw_seq ?_
    refine cw_region ?_
    refine ow_vals 1 (j := 1) [3, 17, 18, 139] [(3, .string x3), (17, .pointer (some ⟨b155, 0, none⟩)), (18, .pointer (some ⟨b153, 0, none⟩)), (139, .pointer (some ⟨b155, 1, none⟩))] rfl (by kernel_rfl) ?_
    refine ow_pw rfl (pw_quiet (v := .string y131.ID) rfl rfl rfl rfl (q_load 0 rfl rfl rfl (by kernel_rfl)) (nw_ow ?_))
    refine ow_vals 3 (j := 5) [3, 17, 18, 143] [(3, .string x3), (17, .pointer (some ⟨b155, 0, none⟩)), (18, .pointer (some ⟨b153, 0, none⟩)), (143, .bool (sltB y131.ID x3))] rfl (by kernel_rfl) ?_
    rcases if_some hF with ⟨h157, hF⟩ | ⟨h157, hF⟩
    · refine ow_slots (L' := [(3, .string x3), (17, .pointer (some ⟨b155, 0, none⟩)), (18, .pointer (some ⟨b153, 0, none⟩)), (143, .bool true)]) (by rw [h157]) ?_
      refine ow_vals 2 (j := 7) [17, 18, 143, 144, 145] [(17, .pointer (some ⟨b155, 0, none⟩)), (18, .pointer (some ⟨b153, 0, none⟩)), (143, .bool true), (144, .string x3), (145, .pointer (some ⟨b153, 1, none⟩))] rfl (by kernel_rfl) ?_
      refine ow_pw rfl (pw_quiet (v := .string y140.ID) rfl rfl rfl rfl (q_load 1 rfl rfl rfl (by kernel_rfl)) (nw_ow ?_))
      refine ow_vals 3 (j := 11) [17, 18, 149] [(17, .pointer (some ⟨b155, 0, none⟩)), (18, .pointer (some ⟨b153, 0, none⟩)), (149, .bool (sltB x3 y140.ID))] rfl (by kernel_rfl) ?_
      rcases if_some hF with ⟨h158, hF⟩ | ⟨h158, hF⟩
      · refine ow_slots (L' := [(17, .pointer (some ⟨b155, 0, none⟩)), (18, .pointer (some ⟨b153, 0, none⟩)), (149, .bool true)]) (by rw [h158]) ?_
        refine ow_vals 1 (j := 12) [18, 149, 150] [(18, .pointer (some ⟨b153, 0, none⟩)), (149, .bool true), (150, .pointer (some ⟨b155, 0, none⟩))] rfl (by kernel_rfl) ?_
        refine ow_pw rfl (pw_quiet (v := .int .i64 y131.Index) rfl rfl rfl rfl (q_load 0 rfl rfl rfl (by kernel_rfl)) (nw_ow ?_))
        refine ow_vals 1 (j := 14) [149, 151, 152] [(149, .bool true), (151, .int .i64 y131.Index), (152, .pointer (some ⟨b153, 0, none⟩))] rfl (by kernel_rfl) ?_
        refine ow_pw rfl (pw_quiet (v := .int .i64 y140.Index) rfl rfl rfl rfl (q_load 1 rfl rfl rfl (by kernel_rfl)) (nw_ow ?_))
        refine ow_vals 3 (j := 18) [156] [(156, .bool (y131.Index == (IntKind.i64.wrap (y140.Index - 1))))] rfl (by kernel_rfl) ?_
        refine ow_end rfl ?_
        refine ew_then ?_
        rcases if_some hF with ⟨h159, hF⟩ | ⟨h159, hF⟩
        · refine cw_cond_t rfl rfl h159 ?_
          refine cw_seq ?_
          refine cw_region ?_
          refine ow_vals 2 (j := 2) [10, 11] [(10, .bool false), (11, .int .i64 0)] rfl (by kernel_rfl) ?_
          refine ow_end rfl ?_
          refine ew_then ?_
          refine cw_ret ?_
          refine ew_then_ret ?_
          have hR := Option.some.inj hF
          subst hR
          exact fin2 (H1 := [imm J93, pt b0 #[.map (some b97), .map (some b100), .string (((⟨l95, l98, (⟨s101, s102⟩ : A2_ByteArray), x103, x104, x105⟩ : mill_Mill).twins_).e0), .string (((⟨l95, l98, (⟨s101, s102⟩ : A2_ByteArray), x103, x104, x105⟩ : mill_Mill).twins_).e1), .bool ((⟨l95, l98, (⟨s101, s102⟩ : A2_ByteArray), x103, x104, x105⟩ : mill_Mill).found_), .bool ((⟨l95, l98, (⟨s101, s102⟩ : A2_ByteArray), x103, x104, x105⟩ : mill_Mill).full_), .int .i64 ((⟨l95, l98, (⟨s101, s102⟩ : A2_ByteArray), x103, x104, x105⟩ : mill_Mill).sums_)] 64, mpo kStr kStr b97 ((⟨l95, l98, (⟨s101, s102⟩ : A2_ByteArray), x103, x104, x105⟩ : mill_Mill).table_), mpo kStr kStr b100 ((⟨l95, l98, (⟨s101, s102⟩ : A2_ByteArray), x103, x104, x105⟩ : mill_Mill).notes_)]) (fun w hs => sat_to [0, 0, 2, 0, 0, 0, 0] 3 rfl hs) rfl (rr_tmp rfl) (rr_tmp rfl) ⟨J93, b97, b100, rfl, rfl, h94⟩
        refine cw_cond_f rfl rfl h159 ?_
        refine cw_skip ?_
        refine ew_then ?_
        refine cw_seq ?_
        refine cw_region ?_
        refine ow_vals 2 (j := 2) [10, 11] [(10, .bool false), (11, .int .i64 22)] rfl (by kernel_rfl) ?_
        refine ow_end rfl ?_
        refine ew_then ?_
        refine cw_ret ?_
        have hR := Option.some.inj hF
        subst hR
        exact fin2 (H1 := [imm J93, pt b0 #[.map (some b97), .map (some b100), .string (((⟨l95, l98, (⟨s101, s102⟩ : A2_ByteArray), x103, x104, x105⟩ : mill_Mill).twins_).e0), .string (((⟨l95, l98, (⟨s101, s102⟩ : A2_ByteArray), x103, x104, x105⟩ : mill_Mill).twins_).e1), .bool ((⟨l95, l98, (⟨s101, s102⟩ : A2_ByteArray), x103, x104, x105⟩ : mill_Mill).found_), .bool ((⟨l95, l98, (⟨s101, s102⟩ : A2_ByteArray), x103, x104, x105⟩ : mill_Mill).full_), .int .i64 ((⟨l95, l98, (⟨s101, s102⟩ : A2_ByteArray), x103, x104, x105⟩ : mill_Mill).sums_)] 64, mpo kStr kStr b97 ((⟨l95, l98, (⟨s101, s102⟩ : A2_ByteArray), x103, x104, x105⟩ : mill_Mill).table_), mpo kStr kStr b100 ((⟨l95, l98, (⟨s101, s102⟩ : A2_ByteArray), x103, x104, x105⟩ : mill_Mill).notes_)]) (fun w hs => sat_to [0, 0, 2, 0, 0, 0, 0] 3 rfl hs) rfl (rr_tmp rfl) (rr_tmp rfl) ⟨J93, b97, b100, rfl, rfl, h94⟩
      refine ow_slots (L' := [(17, .pointer (some ⟨b155, 0, none⟩)), (18, .pointer (some ⟨b153, 0, none⟩)), (149, .bool false)]) (by rw [h158]) ?_
      refine ow_vals 7 (j := 18) [156] [(156, .bool false)] rfl (by kernel_rfl) ?_
      refine ow_end rfl ?_
      refine ew_then ?_
      refine cw_cond_f rfl rfl rfl ?_
      refine cw_skip ?_
      refine ew_then ?_
      refine cw_seq ?_
      refine cw_region ?_
      refine ow_vals 2 (j := 2) [10, 11] [(10, .bool false), (11, .int .i64 22)] rfl (by kernel_rfl) ?_
      refine ow_end rfl ?_
      refine ew_then ?_
      refine cw_ret ?_
      have hR := Option.some.inj hF
      subst hR
      exact fin2 (H1 := [imm J93, pt b0 #[.map (some b97), .map (some b100), .string (((⟨l95, l98, (⟨s101, s102⟩ : A2_ByteArray), x103, x104, x105⟩ : mill_Mill).twins_).e0), .string (((⟨l95, l98, (⟨s101, s102⟩ : A2_ByteArray), x103, x104, x105⟩ : mill_Mill).twins_).e1), .bool ((⟨l95, l98, (⟨s101, s102⟩ : A2_ByteArray), x103, x104, x105⟩ : mill_Mill).found_), .bool ((⟨l95, l98, (⟨s101, s102⟩ : A2_ByteArray), x103, x104, x105⟩ : mill_Mill).full_), .int .i64 ((⟨l95, l98, (⟨s101, s102⟩ : A2_ByteArray), x103, x104, x105⟩ : mill_Mill).sums_)] 64, mpo kStr kStr b97 ((⟨l95, l98, (⟨s101, s102⟩ : A2_ByteArray), x103, x104, x105⟩ : mill_Mill).table_), mpo kStr kStr b100 ((⟨l95, l98, (⟨s101, s102⟩ : A2_ByteArray), x103, x104, x105⟩ : mill_Mill).notes_)]) (fun w hs => sat_to [0, 0, 2, 0, 0, 0, 0] 3 rfl hs) rfl (rr_tmp rfl) (rr_tmp rfl) ⟨J93, b97, b100, rfl, rfl, h94⟩
    refine ow_slots (L' := [(3, .string x3), (17, .pointer (some ⟨b155, 0, none⟩)), (18, .pointer (some ⟨b153, 0, none⟩)), (143, .bool false)]) (by rw [h157]) ?_
    refine ow_vals 13 (j := 18) [156] [(156, .bool false)] rfl (by kernel_rfl) ?_
    refine ow_end rfl ?_
    refine ew_then ?_
    refine cw_cond_f rfl rfl rfl ?_
    refine cw_skip ?_
    refine ew_then ?_
    refine cw_seq ?_
    refine cw_region ?_
    refine ow_vals 2 (j := 2) [10, 11] [(10, .bool false), (11, .int .i64 22)] rfl (by kernel_rfl) ?_
    refine ow_end rfl ?_
    refine ew_then ?_
    refine cw_ret ?_
    have hR := Option.some.inj hF
    subst hR
    exact fin2 (H1 := [imm J93, pt b0 #[.map (some b97), .map (some b100), .string (((⟨l95, l98, (⟨s101, s102⟩ : A2_ByteArray), x103, x104, x105⟩ : mill_Mill).twins_).e0), .string (((⟨l95, l98, (⟨s101, s102⟩ : A2_ByteArray), x103, x104, x105⟩ : mill_Mill).twins_).e1), .bool ((⟨l95, l98, (⟨s101, s102⟩ : A2_ByteArray), x103, x104, x105⟩ : mill_Mill).found_), .bool ((⟨l95, l98, (⟨s101, s102⟩ : A2_ByteArray), x103, x104, x105⟩ : mill_Mill).full_), .int .i64 ((⟨l95, l98, (⟨s101, s102⟩ : A2_ByteArray), x103, x104, x105⟩ : mill_Mill).sums_)] 64, mpo kStr kStr b97 ((⟨l95, l98, (⟨s101, s102⟩ : A2_ByteArray), x103, x104, x105⟩ : mill_Mill).table_), mpo kStr kStr b100 ((⟨l95, l98, (⟨s101, s102⟩ : A2_ByteArray), x103, x104, x105⟩ : mill_Mill).notes_)]) (fun w hs => sat_to [0, 0, 2, 0, 0, 0, 0] 3 rfl hs) rfl (rr_tmp rfl) (rr_tmp rfl) ⟨J93, b97, b100, rfl, rfl, h94⟩
  refine cw_cond_f rfl rfl h130 ?_
  refine cw_skip ?_
  refine ew_then ?_
  refine cw_seq ?_
  refine cw_region ?_
  refine ow_vals 2 (j := 2) [10, 11] [(10, .bool false), (11, .int .i64 22)] rfl (by kernel_rfl) ?_
  refine ow_end rfl ?_
  refine ew_then ?_
  refine cw_ret ?_
  have hR := Option.some.inj hF
  subst hR
  exact fin2 (H1 := [imm J93, pt b0 #[.map (some b97), .map (some b100), .string (((⟨l95, l98, (⟨s101, s102⟩ : A2_ByteArray), x103, x104, x105⟩ : mill_Mill).twins_).e0), .string (((⟨l95, l98, (⟨s101, s102⟩ : A2_ByteArray), x103, x104, x105⟩ : mill_Mill).twins_).e1), .bool ((⟨l95, l98, (⟨s101, s102⟩ : A2_ByteArray), x103, x104, x105⟩ : mill_Mill).found_), .bool ((⟨l95, l98, (⟨s101, s102⟩ : A2_ByteArray), x103, x104, x105⟩ : mill_Mill).full_), .int .i64 ((⟨l95, l98, (⟨s101, s102⟩ : A2_ByteArray), x103, x104, x105⟩ : mill_Mill).sums_)] 64, mpo kStr kStr b97 ((⟨l95, l98, (⟨s101, s102⟩ : A2_ByteArray), x103, x104, x105⟩ : mill_Mill).table_), mpo kStr kStr b100 ((⟨l95, l98, (⟨s101, s102⟩ : A2_ByteArray), x103, x104, x105⟩ : mill_Mill).notes_)]) (fun w hs => sat_to [2, 0, 0, 0, 0] 1 rfl hs) rfl (rr_tmp rfl) (rr_tmp rfl) ⟨J93, b97, b100, rfl, rfl, h94⟩


def F.law24_AbsentChecks (x0 : ByteArray) (x1 : Int) (x2 : ByteArray) (x3 : absent_Proof) : Option Bool :=
  Option.bind (F.law24_Few x3) (fun (r23 : absent_Proof) => Option.bind (F.mill_New) (fun (r26 : mill_Mill) => Option.bind (F.absent_Check x0 x1 x2 r23 r26) (fun (r39 : Bool × Int × mill_Mill) => Option.bind (F.mill_New) (fun (r43 : mill_Mill) => Option.bind (F.law24_check x0 x1 x2 r23 r43) (fun (r48 : Bool × Int × mill_Mill) => if r39.1 == r48.1 then (if r39.2.1 == r48.2.1 then (Option.bind (F.law24_awake) (fun (r54 : Bool) => some (r54))) else (some (false))) else (some (false)))))))
set_option maxRecDepth 100000 in
set_option maxHeartbeats 4000000 in
theorem c_law24_AbsentChecks (I : Hl) (x0 : ByteArray) (x1 : Int) (x2 : ByteArray) (x3 : absent_Proof) (p0 : Option Addr) (c0 : Nat) (res : Bool) (hF : F.law24_AbsentChecks x0 x1 x2 x3 = some res) (hr0 : roN I n_absent_Side p0 c0 x3.Sides) : Tr Try.prog 5 [.string x0, .int .i64 x1, .string x2, .agg #[.int .i64 x3.Size, .slice p0 x3.Sides.length c0]] [imm I] (fun r H' => ∃ (J : Hl), r = .bool res ∧ H' = [imm J] ∧ Hl.sub I J) := by
  unfold F.law24_AbsentChecks at hF
  refine tr_of_cw (fn := Try.f5) Try.func5 rfl (Nat.le_of_ble_eq_true rfl) 44 rfl fun F0 w0 => ?_
  refine cw_keep [0, 1, 2, 3] (L' := [(0, .string x0), (1, .int .i64 x1), (2, .string x2), (3, .agg #[.int .i64 x3.Size, .slice p0 x3.Sides.length c0])]) rfl ?_
  refine cw_state (S' := SAT w0 ([imm I] ++ F0)) (fun w hs => hs) ?_
  refine cw_seq ?_
  refine cw_region ?_
  refine ow_pw rfl (pw_box (cs := #[.int .i64 x3.Size, .slice p0 x3.Sides.length c0]) rfl rfl rfl rfl rfl rfl fun b21 => nw_ow ?_)
  refine ow_vals 1 (j := 2) [0, 1, 2, 7] [(0, .string x0), (1, .int .i64 x1), (2, .string x2), (7, .pointer (some ⟨b21, 0, none⟩))] rfl (by kernel_rfl) ?_
  refine ow_end rfl ?_
  refine ew_then ?_
  refine cw_seq ?_
  refine cw_region ?_
  refine ow_pw rfl (pw_quiet (v := .agg #[.int .i64 x3.Size, .slice p0 x3.Sides.length c0]) rfl rfl rfl rfl (q_load 0 rfl rfl rfl (by kernel_rfl)) (nw_ow ?_))
  obtain ⟨r23, h24, hF⟩ := bind_some hF
  refine ow_pw rfl (pw_call (F := [pt b21 #[.int .i64 x3.Size, .slice p0 x3.Sides.length c0] 35] ++ F0) rfl rfl rfl rfl rfl rfl rfl (by kernel_rfl) (perm_of_pulls [1] rfl) (c_law24_Few _ x3 p0 c0 r23 h24 hr0) ?_)
  rintro _ _ ⟨r23_J, r23_p1, r23_c2, rfl, rfl, r23_hJ⟩
  refine nw_H (H' := [imm r23_J, ownN r23_J n_absent_Side 43 r23_p1 r23_c2 r23.Sides, pt b21 #[.int .i64 x3.Size, .slice p0 x3.Sides.length c0] 35] ++ F0) rfl (nw_ow ?_)
  have hr0 := roN.sub r23_hJ hr0
  refine ow_pw rfl (pw_store 2 #[.int .i64 r23.Size, .slice r23_p1 r23.Sides.length r23_c2] rfl rfl rfl rfl rfl rfl rfl (by kernel_rfl) (nw_H (H' := [imm r23_J, ownN r23_J n_absent_Side 43 r23_p1 r23_c2 r23.Sides, pt b21 #[.int .i64 r23.Size, .slice r23_p1 r23.Sides.length r23_c2] 35] ++ F0) rfl (nw_ow ?_)))
  refine ow_end rfl ?_
  refine ew_then ?_
  refine cw_seq ?_
  refine cw_open 5 (SAT w0 ([imm r23_J, ownN r23_J n_absent_Side 43 r23_p1 r23_c2 r23.Sides, pt b21 #[.int .i64 r23.Size, .slice r23_p1 r23.Sides.length r23_c2] 35])) (by kernel_rfl) (f := 11) rfl (fun w hs => sat_drew hs) ?_
  refine aw_vals [1, 2, 3] (f' := 8) (m' := 14) [0, 1, 2, 7, 17, 18, 19] [(0, .string x0), (1, .int .i64 x1), (2, .string x2), (7, .pointer (some ⟨b21, 0, none⟩)), (17, .string x0), (18, .int .i64 x1), (19, .string x2)] (fun _ _ _ _ _ h => calm_fin (P := Try.prog) (fn := Try.f5) _ _ _ _ _ h) (fun w hs => sat_pulls [0, 0, 0] (G := [] ++ F0) rfl hs) rfl (by kernel_rfl) ?_
  refine aw_quiet 4 (m' := 30) (v := .agg #[.int .i64 r23.Size, .slice r23_p1 r23.Sides.length r23_c2]) 4 [] rfl rfl rfl rfl (by kernel_rfl) (by kernel_rfl) (by kernel_rfl) (fun _ _ _ _ _ h => calm_fin (P := Try.prog) (fn := Try.f5) _ _ _ _ _ h) (fun w hs => sat_pulls [0, 0, 0] (G := [] ++ F0) rfl hs) (q_load 2 rfl rfl rfl (by kernel_rfl)) ?_
  obtain ⟨r26, h27, hF⟩ := bind_some hF
  refine aw_only 0 (m' := 31) (by kernel_rfl) (by kernel_rfl) (pw_call (F := [ownN r23_J n_absent_Side 43 r23_p1 r23_c2 r23.Sides, pt b21 #[.int .i64 r23.Size, .slice r23_p1 r23.Sides.length r23_c2] 35] ++ F0) rfl rfl rfl rfl rfl rfl rfl (by kernel_rfl) (perm_of_pulls [0] rfl) (c_mill_New _ r26 h27) ?_)
  rintro _ _ ⟨r26_b1, r26_b3, r26_b5, rfl, rfl⟩
  refine nw_H (H' := [imm r23_J, pt r26_b1 #[.map (some r26_b3), .map (some r26_b5), .string r26.twins_.e0, .string r26.twins_.e1, .bool r26.found_, .bool r26.full_, .int .i64 r26.sums_] 64, mpo kStr kStr r26_b3 r26.table_, mpo kStr kStr r26_b5 r26.notes_, ownN r23_J n_absent_Side 43 r23_p1 r23_c2 r23.Sides, pt b21 #[.int .i64 r23.Size, .slice r23_p1 r23.Sides.length r23_c2] 35] ++ F0) rfl (aw_next (fun w hs => sat_pulls [0, 3, 3] (G := [pt r26_b1 #[.map (some r26_b3), .map (some r26_b5), .string r26.twins_.e0, .string r26.twins_.e1, .bool r26.found_, .bool r26.full_, .int .i64 r26.sums_] 64, mpo kStr kStr r26_b3 r26.table_, mpo kStr kStr r26_b5 r26.notes_] ++ F0) rfl hs) ?_)
  refine aw_openN 4 rfl fun R34 h35 h36 => ?_
  have h37 : R34.length = r23.Sides.length := by rw [← h35, List.length_map]
  refine aw_freeze (fun w hs => sat_to [0, 3] 0 (F := [imm r23_J, own n_absent_Side.e 43 r23_p1 r23_c2 R34, pt r26_b1 #[.map (some r26_b3), .map (some r26_b5), .string r26.twins_.e0, .string r26.twins_.e1, .bool r26.found_, .bool r26.full_, .int .i64 r26.sums_] 64, mpo kStr kStr r26_b3 r26.table_, mpo kStr kStr r26_b5 r26.notes_, pt b21 #[.int .i64 r23.Size, .slice r23_p1 r23.Sides.length r23_c2] 35] ++ F0) rfl hs) fun J31 h32 h38 => ?_
  have h33 : roN J31 n_absent_Side r23_p1 r23_c2 r23.Sides := ⟨R34, h38, h35, fun r hr => n_absent_Side.sub h32 r (h36 r hr)⟩
  refine aw_H (H' := [imm J31, pt r26_b1 #[.map (some r26_b3), .map (some r26_b5), .string r26.twins_.e0, .string r26.twins_.e1, .bool r26.found_, .bool r26.full_, .int .i64 r26.sums_] 64, mpo kStr kStr r26_b3 r26.table_, mpo kStr kStr r26_b5 r26.notes_, pt b21 #[.int .i64 r23.Size, .slice r23_p1 r23.Sides.length r23_c2] 35] ++ F0) rfl ?_
  obtain ⟨r39, h40, hF⟩ := bind_some hF
  refine aw_only 5 (m' := 63) (by kernel_rfl) (by kernel_rfl) (pw_call (F := [pt b21 #[.int .i64 r23.Size, .slice r23_p1 r23.Sides.length r23_c2] 35] ++ F0) rfl rfl rfl rfl rfl rfl rfl (by kernel_rfl) (perm_of_pulls [0, 0, 0, 0] rfl) (c_absent_Check _ x0 x1 x2 r23 r26 r23_p1 r23_c2 r26_b3 r26_b5 r26_b1 r39 h40 h33) ?_)
  rintro _ _ ⟨r39_J, r39_b1, r39_b3, rfl, rfl, r39_hJ⟩
  refine nw_H (H' := [imm r39_J, pt r26_b1 #[.map (some r39_b1), .map (some r39_b3), .string r39.2.2.twins_.e0, .string r39.2.2.twins_.e1, .bool r39.2.2.found_, .bool r39.2.2.full_, .int .i64 r39.2.2.sums_] 64, mpo kStr kStr r39_b1 r39.2.2.table_, mpo kStr kStr r39_b3 r39.2.2.notes_, pt b21 #[.int .i64 r23.Size, .slice r23_p1 r23.Sides.length r23_c2] 35] ++ F0) rfl (aw_last (by kernel_rfl) ?_)
  have h33 := roN.sub r39_hJ h33
  refine aw_past (by kernel_rfl) ?_
  refine aw_vals [6, 7, 8, 9, 10] (f' := 0) (m' := 2047) [0, 1, 2, 7, 9, 10] [(0, .string x0), (1, .int .i64 x1), (2, .string x2), (7, .pointer (some ⟨b21, 0, none⟩)), (9, .bool r39.1), (10, .int .i64 r39.2.1)] (fun _ _ _ _ _ h => calm_fin (P := Try.prog) (fn := Try.f5) _ _ _ _ _ h) (fun _ _ => trivial) rfl (by kernel_rfl) ?_
  refine aw_keep [0, 1, 2, 7, 9, 10] (L' := [(0, .string x0), (1, .int .i64 x1), (2, .string x2), (7, .pointer (some ⟨b21, 0, none⟩)), (9, .bool r39.1), (10, .int .i64 r39.2.1)]) rfl ?_
  refine aw_end (by kernel_rfl) ?_
  refine ew_then ?_
  refine cw_seq ?_
  refine cw_open 5 (SAT w0 ([imm r39_J, pt r26_b1 #[.map (some r39_b1), .map (some r39_b3), .string r39.2.2.twins_.e0, .string r39.2.2.twins_.e1, .bool r39.2.2.found_, .bool r39.2.2.full_, .int .i64 r39.2.2.sums_] 64, mpo kStr kStr r39_b1 r39.2.2.table_, mpo kStr kStr r39_b3 r39.2.2.notes_, pt b21 #[.int .i64 r23.Size, .slice r23_p1 r23.Sides.length r23_c2] 35])) (by kernel_rfl) (f := 11) rfl (fun w hs => sat_drew hs) ?_
  refine aw_vals [1, 2, 3] (f' := 8) (m' := 14) [7, 9, 10, 26, 27, 28] [(7, .pointer (some ⟨b21, 0, none⟩)), (9, .bool r39.1), (10, .int .i64 r39.2.1), (26, .string x0), (27, .int .i64 x1), (28, .string x2)] (fun _ _ _ _ _ h => calm_fin (P := Try.prog) (fn := Try.f5) _ _ _ _ _ h) (fun w hs => sat_pulls [0, 0, 0, 0, 0] (G := [] ++ F0) rfl hs) rfl (by kernel_rfl) ?_
  refine aw_quiet 4 (m' := 30) (v := .agg #[.int .i64 r23.Size, .slice r23_p1 r23.Sides.length r23_c2]) 4 [] rfl rfl rfl rfl (by kernel_rfl) (by kernel_rfl) (by kernel_rfl) (fun _ _ _ _ _ h => calm_fin (P := Try.prog) (fn := Try.f5) _ _ _ _ _ h) (fun w hs => sat_pulls [0, 0, 0, 0, 0] (G := [] ++ F0) rfl hs) (q_load 4 rfl rfl rfl (by kernel_rfl)) ?_
  obtain ⟨r43, h44, hF⟩ := bind_some hF
  refine aw_only 0 (m' := 31) (by kernel_rfl) (by kernel_rfl) (pw_call (F := [pt r26_b1 #[.map (some r39_b1), .map (some r39_b3), .string r39.2.2.twins_.e0, .string r39.2.2.twins_.e1, .bool r39.2.2.found_, .bool r39.2.2.full_, .int .i64 r39.2.2.sums_] 64, mpo kStr kStr r39_b1 r39.2.2.table_, mpo kStr kStr r39_b3 r39.2.2.notes_, pt b21 #[.int .i64 r23.Size, .slice r23_p1 r23.Sides.length r23_c2] 35] ++ F0) rfl rfl rfl rfl rfl rfl rfl (by kernel_rfl) (perm_of_pulls [0] rfl) (c_mill_New _ r43 h44) ?_)
  rintro _ _ ⟨r43_b1, r43_b3, r43_b5, rfl, rfl⟩
  refine nw_H (H' := [imm r39_J, pt r43_b1 #[.map (some r43_b3), .map (some r43_b5), .string r43.twins_.e0, .string r43.twins_.e1, .bool r43.found_, .bool r43.full_, .int .i64 r43.sums_] 64, mpo kStr kStr r43_b3 r43.table_, mpo kStr kStr r43_b5 r43.notes_, pt r26_b1 #[.map (some r39_b1), .map (some r39_b3), .string r39.2.2.twins_.e0, .string r39.2.2.twins_.e1, .bool r39.2.2.found_, .bool r39.2.2.full_, .int .i64 r39.2.2.sums_] 64, mpo kStr kStr r39_b1 r39.2.2.table_, mpo kStr kStr r39_b3 r39.2.2.notes_, pt b21 #[.int .i64 r23.Size, .slice r23_p1 r23.Sides.length r23_c2] 35] ++ F0) rfl (aw_next (fun w hs => sat_pulls [0, 3, 3, 3, 3] (G := [pt r43_b1 #[.map (some r43_b3), .map (some r43_b5), .string r43.twins_.e0, .string r43.twins_.e1, .bool r43.found_, .bool r43.full_, .int .i64 r43.sums_] 64, mpo kStr kStr r43_b3 r43.table_, mpo kStr kStr r43_b5 r43.notes_] ++ F0) rfl hs) ?_)
  obtain ⟨r48, h49, hF⟩ := bind_some hF
  refine aw_only 5 (m' := 63) (by kernel_rfl) (by kernel_rfl) (pw_call (F := [pt r26_b1 #[.map (some r39_b1), .map (some r39_b3), .string r39.2.2.twins_.e0, .string r39.2.2.twins_.e1, .bool r39.2.2.found_, .bool r39.2.2.full_, .int .i64 r39.2.2.sums_] 64, mpo kStr kStr r39_b1 r39.2.2.table_, mpo kStr kStr r39_b3 r39.2.2.notes_, pt b21 #[.int .i64 r23.Size, .slice r23_p1 r23.Sides.length r23_c2] 35] ++ F0) rfl rfl rfl rfl rfl rfl rfl (by kernel_rfl) (perm_of_pulls [0, 0, 0, 0] rfl) (c_law24_check _ x0 x1 x2 r23 r43 r23_p1 r23_c2 r43_b3 r43_b5 r43_b1 r48 h49 h33) ?_)
  rintro _ _ ⟨r48_J, r48_b1, r48_b3, rfl, rfl, r48_hJ⟩
  refine nw_H (H' := [imm r48_J, pt r43_b1 #[.map (some r48_b1), .map (some r48_b3), .string r48.2.2.twins_.e0, .string r48.2.2.twins_.e1, .bool r48.2.2.found_, .bool r48.2.2.full_, .int .i64 r48.2.2.sums_] 64, mpo kStr kStr r48_b1 r48.2.2.table_, mpo kStr kStr r48_b3 r48.2.2.notes_, pt r26_b1 #[.map (some r39_b1), .map (some r39_b3), .string r39.2.2.twins_.e0, .string r39.2.2.twins_.e1, .bool r39.2.2.found_, .bool r39.2.2.full_, .int .i64 r39.2.2.sums_] 64, mpo kStr kStr r39_b1 r39.2.2.table_, mpo kStr kStr r39_b3 r39.2.2.notes_, pt b21 #[.int .i64 r23.Size, .slice r23_p1 r23.Sides.length r23_c2] 35] ++ F0) rfl (aw_last (by kernel_rfl) ?_)
  have h33 := roN.sub r48_hJ h33
  refine aw_past (by kernel_rfl) ?_
  refine aw_vals [6, 7, 8, 9, 10] (f' := 0) (m' := 2047) [9, 10, 11, 12] [(9, .bool r39.1), (10, .int .i64 r39.2.1), (11, .bool r48.1), (12, .int .i64 r48.2.1)] (fun _ _ _ _ _ h => calm_fin (P := Try.prog) (fn := Try.f5) _ _ _ _ _ h) (fun _ _ => trivial) rfl (by kernel_rfl) ?_
  refine aw_keep [9, 10, 11, 12] (L' := [(9, .bool r39.1), (10, .int .i64 r39.2.1), (11, .bool r48.1), (12, .int .i64 r48.2.1)]) rfl ?_
  refine aw_end (by kernel_rfl) ?_
  refine ew_then ?_
  refine cw_seq ?_
  refine cw_region ?_
  refine ow_vals 4 (j := 4) [10, 12, 36] [(10, .int .i64 r39.2.1), (12, .int .i64 r48.2.1), (36, .bool (r39.1 == r48.1))] rfl (by kernel_rfl) ?_
  rcases if_some hF with ⟨h52, hF⟩ | ⟨h52, hF⟩
  · refine ow_slots (L' := [(10, .int .i64 r39.2.1), (12, .int .i64 r48.2.1), (36, .bool true)]) (by rw [h52]) ?_
    refine ow_vals 5 (j := 9) [41] [(41, .bool (r39.2.1 == r48.2.1))] rfl (by kernel_rfl) ?_
    rcases if_some hF with ⟨h53, hF⟩ | ⟨h53, hF⟩
    · refine ow_slots (L' := [(41, .bool true)]) (by rw [h53]) ?_
      obtain ⟨r54, h55, hF⟩ := bind_some hF
      refine ow_pw rfl (pw_call (F := [pt r43_b1 #[.map (some r48_b1), .map (some r48_b3), .string r48.2.2.twins_.e0, .string r48.2.2.twins_.e1, .bool r48.2.2.found_, .bool r48.2.2.full_, .int .i64 r48.2.2.sums_] 64, mpo kStr kStr r48_b1 r48.2.2.table_, mpo kStr kStr r48_b3 r48.2.2.notes_, pt r26_b1 #[.map (some r39_b1), .map (some r39_b3), .string r39.2.2.twins_.e0, .string r39.2.2.twins_.e1, .bool r39.2.2.found_, .bool r39.2.2.full_, .int .i64 r39.2.2.sums_] 64, mpo kStr kStr r39_b1 r39.2.2.table_, mpo kStr kStr r39_b3 r39.2.2.notes_, pt b21 #[.int .i64 r23.Size, .slice r23_p1 r23.Sides.length r23_c2] 35] ++ F0) rfl rfl rfl rfl rfl rfl rfl (by kernel_rfl) (perm_of_pulls [0] rfl) (c_law24_awake _ r54 h55) ?_)
      rintro _ _ ⟨r54_J, rfl, rfl, r54_hJ⟩
      refine nw_H (H' := [imm r54_J, pt r43_b1 #[.map (some r48_b1), .map (some r48_b3), .string r48.2.2.twins_.e0, .string r48.2.2.twins_.e1, .bool r48.2.2.found_, .bool r48.2.2.full_, .int .i64 r48.2.2.sums_] 64, mpo kStr kStr r48_b1 r48.2.2.table_, mpo kStr kStr r48_b3 r48.2.2.notes_, pt r26_b1 #[.map (some r39_b1), .map (some r39_b3), .string r39.2.2.twins_.e0, .string r39.2.2.twins_.e1, .bool r39.2.2.found_, .bool r39.2.2.full_, .int .i64 r39.2.2.sums_] 64, mpo kStr kStr r39_b1 r39.2.2.table_, mpo kStr kStr r39_b3 r39.2.2.notes_, pt b21 #[.int .i64 r23.Size, .slice r23_p1 r23.Sides.length r23_c2] 35] ++ F0) rfl (nw_ow ?_)
      have h33 := roN.sub r54_hJ h33
      refine ow_vals 2 (j := 12) [8] [(8, .bool r54)] rfl (by kernel_rfl) ?_
      refine ow_end rfl ?_
      refine ew_then ?_
      refine cw_ret ?_
      have hR := Option.some.inj hF
      subst hR
      exact fin1 (H1 := [imm r54_J]) (fun w hs => sat_to [1, 1, 1, 1, 1, 1, 1, 0] 7 rfl hs) rfl (rr_tmp rfl) ⟨r54_J, rfl, rfl, (Hl.sub_trans (Hl.sub_trans (Hl.sub_trans (Hl.sub_trans r23_hJ h32) r39_hJ) r48_hJ) r54_hJ)⟩
    refine ow_slots (L' := [(41, .bool false)]) (by rw [h53]) ?_
    refine ow_vals 3 (j := 12) [8] [(8, .bool false)] rfl (by kernel_rfl) ?_
    refine ow_end rfl ?_
    refine ew_then ?_
    refine cw_ret ?_
    have hR := Option.some.inj hF
    subst hR
    exact fin1 (H1 := [imm r48_J]) (fun w hs => sat_to [1, 1, 1, 1, 1, 1, 1, 0] 7 rfl hs) rfl (rr_tmp rfl) ⟨r48_J, rfl, rfl, (Hl.sub_trans (Hl.sub_trans (Hl.sub_trans r23_hJ h32) r39_hJ) r48_hJ)⟩
  refine ow_slots (L' := [(10, .int .i64 r39.2.1), (12, .int .i64 r48.2.1), (36, .bool false)]) (by rw [h52]) ?_
  refine ow_vals 8 (j := 12) [8] [(8, .bool false)] rfl (by kernel_rfl) ?_
  refine ow_end rfl ?_
  refine ew_then ?_
  refine cw_ret ?_
  have hR := Option.some.inj hF
  subst hR
  exact fin1 (H1 := [imm r48_J]) (fun w hs => sat_to [1, 1, 1, 1, 1, 1, 1, 0] 7 rfl hs) rfl (rr_tmp rfl) ⟨r48_J, rfl, rfl, (Hl.sub_trans (Hl.sub_trans (Hl.sub_trans r23_hJ h32) r39_hJ) r48_hJ)⟩

end Go.Proofs.Ytileogoeoiafkaa
