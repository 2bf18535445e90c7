/- What the functions compute, and that the code computes it: printed by a program of this claim (wip/tools), for the group Honest. -/
import Derived.Test.YtileogoeoiafkaaGClimb
import Derived.Test.YtileogoeoiafkaaGFew
import Derived.Test.YtileogoeoiafkaaGTid
import Derived.Test.YtileogoeoiafkaaFw2
namespace Go.Proofs.Ytileogoeoiafkaa
set_option linter.all false
open Go Go.RowKit Go.Fw
set_option linter.unusedVariables false

def F.law24_AbsentHonest.l2 (x2 : ByteArray) (r40 : (List ByteArray)) (x67 : Bool) (x68 : Int) : Option ((Bool × Int) ⊕ (Bool)) :=
  if decide (x68 < (r40.length : Int)) then (if x67 then (some (.inl (true, IntKind.i64.wrap (x68 + 1)))) else (Option.bind (at_ r40 x68) (fun (y71 : ByteArray) => some (.inl (seqB y71 x2, IntKind.i64.wrap (x68 + 1)))))) else (some (.inr (x67)))
def F.law24_AbsentHonest.r3 (r61 : Bool × Int × mill_Mill) (x75 : Bool) : Option (Bool) :=
  Option.bind (F.mill_Mill_Twins r61.2.2) (fun (r76 : ByteArray × ByteArray × Bool) => if r61.2.1 != 0 then (Option.bind (F.law24_awake) (fun (r79 : Bool) => some (r79))) else (if r61.1 == x75 then (Option.bind (F.law24_awake) (fun (r82 : Bool) => some (r82))) else (if r76.2.2 then (if !(seqB r76.1 r76.2.1) then (Option.bind (F.law24_awake) (fun (r86 : Bool) => some (r86))) else (some (false))) else (some (false)))))
def F.law24_AbsentHonest.r1 (x1 : List ByteArray) (x2 : ByteArray) (x3 : absent_Proof) (l29 : List mill_Entry) : Option (Bool) :=
  Option.bind (F.mill_With l29) (fun (r33 : (Option mill_Mill) × Int) => optC r33.1 (Option.bind (F.law24_awake) (fun (r38 : Bool) => some (r38))) (fun (r33_s1 : mill_Mill) => Option.bind (F.law24_few x1) (fun (r40 : (List ByteArray)) => Option.bind (F.absent_Root r40 r33_s1) (fun (r46 : ByteArray × Int × mill_Mill) => Option.bind (F.law24_Few x3) (fun (r50 : absent_Proof) => Option.bind (F.absent_Check r46.1 r46.2.1 x2 r50 r46.2.2) (fun (r61 : Bool × Int × mill_Mill) => Option.bind (iter (fun x => F.law24_AbsentHonest.l2 x2 r40 x.1 x.2) FUEL (false, 0)) (fun x => F.law24_AbsentHonest.r3 r61 x)))))))
def F.law24_AbsentHonest (x0 : List mill_Entry) (x1 : List ByteArray) (x2 : ByteArray) (x3 : absent_Proof) : Option Bool :=
  Option.bind (if decide ((x0.length : Int) > 10) then (chk (0 ≤ (0 : Int) ∧ (0 : Int) ≤ (10 : Int) ∧ (10 : Int) ≤ (x0.length : Int)) (some (((x0.drop (0 : Int).toNat).take ((10 : Int).toNat - (0 : Int).toNat))))) else (some (x0))) (fun x => F.law24_AbsentHonest.r1 x1 x2 x3 x)
set_option maxRecDepth 100000 in
set_option maxHeartbeats 4000000 in
theorem c_law24_AbsentHonest (I : Hl) (x0 : List mill_Entry) (x1 : List ByteArray) (x2 : ByteArray) (x3 : absent_Proof) (p0 : Option Addr) (c0 : Nat) (p1 : Option Addr) (c1 : Nat) (p2 : Option Addr) (c2 : Nat) (res : Bool) (hF : F.law24_AbsentHonest x0 x1 x2 x3 = some res) (hr0 : ro I e_mill_Entry p0 c0 x0) (hr1 : ro I eStr p1 c1 x1) (hr2 : roN I n_absent_Side p2 c2 x3.Sides) : Tr Try.prog 6 [.slice p0 x0.length c0, .slice p1 x1.length c1, .string x2, .agg #[.int .i64 x3.Size, .slice p2 x3.Sides.length c2]] [imm I] (fun r H' => ∃ (J : Hl), r = .bool res ∧ H' = [imm J] ∧ Hl.sub I J) := by
  unfold F.law24_AbsentHonest at hF
  refine tr_of_cw (fn := Try.f6) Try.func6 rfl (Nat.le_of_ble_eq_true rfl) 90 rfl fun F0 w0 => ?_
  refine cw_keep [0, 1, 2, 3] (L' := [(0, .slice p0 x0.length c0), (1, .slice p1 x1.length c1), (2, .string x2), (3, .agg #[.int .i64 x3.Size, .slice p2 x3.Sides.length c2])]) rfl ?_
  refine cw_state (S' := SAT w0 ([imm I] ++ F0)) (fun w hs => hs) ?_
  refine cw_seq ?_
  refine cw_region ?_
  refine ow_pw rfl (pw_box (cs := #[.int .i64 x3.Size, .slice p2 x3.Sides.length c2]) rfl rfl rfl rfl rfl rfl fun b21 => nw_ow ?_)
  refine ow_vals 1 (j := 2) [0, 1, 2, 7] [(0, .slice p0 x0.length c0), (1, .slice p1 x1.length c1), (2, .string x2), (7, .pointer (some ⟨b21, 0, none⟩))] rfl (by kernel_rfl) ?_
  refine ow_end rfl ?_
  refine ew_then ?_
  obtain ⟨v23, hF, hK23⟩ := bind_some hF
  refine cw_mid (fun a w => ∃ (l29 : List mill_Entry), ∃ (p30 : Option Addr), ∃ (c31 : Nat), l29 = v23 ∧ ro I e_mill_Entry p30 c31 l29 ∧ Fr 90 [(0, .slice p30 l29.length c31), (1, .slice p1 x1.length c1), (2, .string x2), (7, .pointer (some ⟨b21, 0, none⟩))] a ∧ SAT w0 ([imm I, pt b21 #[.int .i64 x3.Size, .slice p2 x3.Sides.length c2] 35] ++ F0) w) ?_ ?_
  · refine cw_seq ?_
    refine cw_region ?_
    refine ow_vals 3 (j := 3) [0, 1, 2, 7, 22] [(0, .slice p0 x0.length c0), (1, .slice p1 x1.length c1), (2, .string x2), (7, .pointer (some ⟨b21, 0, none⟩)), (22, .bool (decide ((x0.length : Int) > 10)))] rfl (by kernel_rfl) ?_
    refine ow_end rfl ?_
    refine ew_then ?_
    rcases if_some hF with ⟨h24, hF⟩ | ⟨h24, hF⟩
    · refine cw_cond_t rfl rfl h24 ?_
      refine cw_region ?_
      refine ow_vals 1 (j := 1) [1, 2, 7, 23] [(1, .slice p1 x1.length c1), (2, .string x2), (7, .pointer (some ⟨b21, 0, none⟩)), (23, .slice p0 x0.length c0)] rfl (by kernel_rfl) ?_
      obtain ⟨h25, hF⟩ := chk_some hF
      refine ow_pw rfl (pw_slice_ro (E := 80) 4 hr0 rfl rfl rfl rfl rfl (by kernel_rfl) rfl rfl rfl rfl h25 fun p26 c27 h28 => nw_ow ?_)
      refine ow_vals 1 (j := 3) [0, 1, 2, 7] [(0, .slice p26 ((x0.drop (0 : Int).toNat).take ((10 : Int).toNat - (0 : Int).toNat)).length c27), (1, .slice p1 x1.length c1), (2, .string x2), (7, .pointer (some ⟨b21, 0, none⟩))] rfl (by kernel_rfl) ?_
      refine ow_end rfl ?_
      have hR := Option.some.inj hF
      exact fun a w hf hs => ⟨(x0.drop (0 : Int).toNat).take ((10 : Int).toNat - (0 : Int).toNat), p26, c27, hR, h28, hf.keep [0, 1, 2, 7], sat_to [1, 0] 0 rfl hs⟩
    refine cw_cond_f rfl rfl h24 ?_
    refine cw_skip ?_
    have hR := Option.some.inj hF
    exact fun a w hf hs => ⟨x0, p0, c0, hR, hr0, hf.keep [0, 1, 2, 7], sat_to [1, 0] 0 rfl hs⟩
  rintro a w ⟨l29, p30, c31, hv, h32, hf, hs⟩
  subst hv
  replace hF := hK23
  clear hK23
  try dsimp only at hF
  revert a w
  show CW _ _ _ 90 [(0, .slice p30 l29.length c31), (1, .slice p1 x1.length c1), (2, .string x2), (7, .pointer (some ⟨b21, 0, none⟩))] (SAT w0 ([imm I, pt b21 #[.int .i64 x3.Size, .slice p2 x3.Sides.length c2] 35] ++ F0))
  unfold F.law24_AbsentHonest.r1 at hF
  refine cw_seq ?_
  refine cw_region ?_
  refine ow_vals 1 (j := 1) [1, 2, 7, 26] [(1, .slice p1 x1.length c1), (2, .string x2), (7, .pointer (some ⟨b21, 0, none⟩)), (26, .slice p30 l29.length c31)] rfl (by kernel_rfl) ?_
  obtain ⟨r33, h34, hF⟩ := bind_some hF
  refine ow_pw rfl (pw_call (F := [pt b21 #[.int .i64 x3.Size, .slice p2 x3.Sides.length c2] 35] ++ F0) rfl rfl rfl rfl rfl rfl rfl (by kernel_rfl) (perm_of_pulls [0] rfl) (c_mill_With _ l29 p30 c31 r33 h34 h32) ?_)
  rintro _ _ (⟨hO, rfl, rfl⟩ | ⟨r33_s1, r33_b2, r33_b4, r33_b6, hO, rfl, rfl⟩)
  · rw [hO] at hF
    try dsimp only [optC] at hF
    refine nw_H (H' := [imm I, pt b21 #[.int .i64 x3.Size, .slice p2 x3.Sides.length c2] 35] ++ F0) rfl (nw_ow ?_)
    refine ow_vals 5 (j := 7) [1, 2, 7, 9, 10] [(1, .slice p1 x1.length c1), (2, .string x2), (7, .pointer (some ⟨b21, 0, none⟩)), (9, .pointer none), (10, .int .i64 1)] rfl (by kernel_rfl) ?_
    refine ow_end rfl ?_
    refine ew_then ?_
    refine cw_seq ?_
    refine cw_seq ?_
    refine cw_region ?_
    refine ow_vals 2 (j := 2) [1, 2, 7, 9, 31] [(1, .slice p1 x1.length c1), (2, .string x2), (7, .pointer (some ⟨b21, 0, none⟩)), (9, .pointer none), (31, .bool true)] rfl (by kernel_rfl) ?_
    refine ow_end rfl ?_
    refine ew_then ?_
    refine cw_cond_t rfl rfl rfl ?_
    refine cw_seq ?_
    refine cw_region ?_
    obtain ⟨r38, h39, hF⟩ := bind_some hF
    refine ow_pw rfl (pw_call (F := [pt b21 #[.int .i64 x3.Size, .slice p2 x3.Sides.length c2] 35] ++ F0) rfl rfl rfl rfl rfl rfl rfl (by kernel_rfl) (perm_of_pulls [0] rfl) (c_law24_awake _ r38 h39) ?_)
    rintro _ _ ⟨r38_J, rfl, rfl, r38_hJ⟩
    refine nw_H (H' := [imm r38_J, pt b21 #[.int .i64 x3.Size, .slice p2 x3.Sides.length c2] 35] ++ F0) rfl (nw_ow ?_)
    have hr1 := ro.sub r38_hJ hr1
    have hr2 := roN.sub r38_hJ hr2
    refine ow_vals 1 (j := 2) [8] [(8, .bool r38)] rfl (by kernel_rfl) ?_
    refine ow_end rfl ?_
    refine ew_then ?_
    refine cw_ret ?_
    refine ew_then_ret ?_
    have hR := Option.some.inj hF
    subst hR
    exact fin1 (H1 := [imm r38_J]) (fun w hs => sat_to [1, 0] 1 rfl hs) rfl (rr_tmp rfl) ⟨r38_J, rfl, rfl, r38_hJ⟩
  rw [hO] at hF
  try dsimp only [optC] at hF
  refine nw_H (H' := [imm I, pt r33_b2 #[.map (some r33_b4), .map (some r33_b6), .string r33_s1.twins_.e0, .string r33_s1.twins_.e1, .bool r33_s1.found_, .bool r33_s1.full_, .int .i64 r33_s1.sums_] 64, mpo kStr kStr r33_b4 r33_s1.table_, mpo kStr kStr r33_b6 r33_s1.notes_, pt b21 #[.int .i64 x3.Size, .slice p2 x3.Sides.length c2] 35] ++ F0) rfl (nw_ow ?_)
  refine ow_vals 5 (j := 7) [1, 2, 7, 9, 10] [(1, .slice p1 x1.length c1), (2, .string x2), (7, .pointer (some ⟨b21, 0, none⟩)), (9, .pointer (some ⟨r33_b2, 0, none⟩)), (10, .int .i64 0)] rfl (by kernel_rfl) ?_
  refine ow_end rfl ?_
  refine ew_then ?_
  refine cw_seq ?_
  refine cw_seq ?_
  refine cw_region ?_
  refine ow_vals 2 (j := 2) [1, 2, 7, 9, 31] [(1, .slice p1 x1.length c1), (2, .string x2), (7, .pointer (some ⟨b21, 0, none⟩)), (9, .pointer (some ⟨r33_b2, 0, none⟩)), (31, .bool false)] rfl (by kernel_rfl) ?_
  refine ow_end rfl ?_
  refine ew_then ?_
  refine cw_cond_f rfl rfl rfl ?_
  refine cw_skip ?_
  refine ew_then ?_
  refine cw_seq ?_
  refine cw_region ?_
  refine ow_vals 1 (j := 1) [2, 7, 9, 33] [(2, .string x2), (7, .pointer (some ⟨b21, 0, none⟩)), (9, .pointer (some ⟨r33_b2, 0, none⟩)), (33, .slice p1 x1.length c1)] rfl (by kernel_rfl) ?_
  obtain ⟨r40, h41, hF⟩ := bind_some hF
  refine ow_pw rfl (pw_call (F := [pt r33_b2 #[.map (some r33_b4), .map (some r33_b6), .string r33_s1.twins_.e0, .string r33_s1.twins_.e1, .bool r33_s1.found_, .bool r33_s1.full_, .int .i64 r33_s1.sums_] 64, mpo kStr kStr r33_b4 r33_s1.table_, mpo kStr kStr r33_b6 r33_s1.notes_, pt b21 #[.int .i64 x3.Size, .slice p2 x3.Sides.length c2] 35] ++ F0) rfl rfl rfl rfl rfl rfl rfl (by kernel_rfl) (perm_of_pulls [0] rfl) (c_law24_few _ x1 p1 c1 r40 h41 hr1) ?_)
  rintro _ _ ⟨r40_p1, r40_c2, rfl, rfl⟩
  refine nw_H (H' := [imm I, own eStr 9 r40_p1 r40_c2 r40, pt r33_b2 #[.map (some r33_b4), .map (some r33_b6), .string r33_s1.twins_.e0, .string r33_s1.twins_.e1, .bool r33_s1.found_, .bool r33_s1.full_, .int .i64 r33_s1.sums_] 64, mpo kStr kStr r33_b4 r33_s1.table_, mpo kStr kStr r33_b6 r33_s1.notes_, pt b21 #[.int .i64 x3.Size, .slice p2 x3.Sides.length c2] 35] ++ F0) rfl (nw_ow ?_)
  refine ow_vals 1 (j := 3) [1, 2, 7, 9] [(1, .slice r40_p1 r40.length r40_c2), (2, .string x2), (7, .pointer (some ⟨b21, 0, none⟩)), (9, .pointer (some ⟨r33_b2, 0, none⟩))] rfl (by kernel_rfl) ?_
  refine ow_end rfl ?_
  refine ew_then ?_
  refine cw_seq ?_
  refine cw_region ?_
  refine ow_vals 2 (j := 2) [1, 2, 7, 9, 36, 37] [(1, .slice r40_p1 r40.length r40_c2), (2, .string x2), (7, .pointer (some ⟨b21, 0, none⟩)), (9, .pointer (some ⟨r33_b2, 0, none⟩)), (36, .pointer (some ⟨r33_b2, 0, none⟩)), (37, .slice r40_p1 r40.length r40_c2)] rfl (by kernel_rfl) ?_
  refine ow_freeze (fun w hs => sat_to [0, 0] 0 (F := [imm I, own eStr 9 r40_p1 r40_c2 r40, pt r33_b2 #[.map (some r33_b4), .map (some r33_b6), .string r33_s1.twins_.e0, .string r33_s1.twins_.e1, .bool r33_s1.found_, .bool r33_s1.full_, .int .i64 r33_s1.sums_] 64, mpo kStr kStr r33_b4 r33_s1.table_, mpo kStr kStr r33_b6 r33_s1.notes_, pt b21 #[.int .i64 x3.Size, .slice p2 x3.Sides.length c2] 35] ++ F0) rfl hs) fun J43 h44 h45 => ?_
  have hr2 := roN.sub h44 hr2
  refine ow_H (H' := [imm J43, pt r33_b2 #[.map (some r33_b4), .map (some r33_b6), .string r33_s1.twins_.e0, .string r33_s1.twins_.e1, .bool r33_s1.found_, .bool r33_s1.full_, .int .i64 r33_s1.sums_] 64, mpo kStr kStr r33_b4 r33_s1.table_, mpo kStr kStr r33_b6 r33_s1.notes_, pt b21 #[.int .i64 x3.Size, .slice p2 x3.Sides.length c2] 35] ++ F0) rfl ?_
  obtain ⟨r46, h47, hF⟩ := bind_some hF
  refine ow_pw rfl (pw_call (F := [pt b21 #[.int .i64 x3.Size, .slice p2 x3.Sides.length c2] 35] ++ F0) rfl rfl rfl rfl rfl rfl rfl (by kernel_rfl) (perm_of_pulls [0, 0, 0, 0] rfl) (c_absent_Root _ r40 r33_s1 r40_p1 r40_c2 r33_b4 r33_b6 r33_b2 r46 h47 h45) ?_)
  rintro _ _ ⟨r46_J, r46_b1, r46_b3, rfl, rfl, r46_hJ⟩
  refine nw_H (H' := [imm r46_J, pt r33_b2 #[.map (some r46_b1), .map (some r46_b3), .string r46.2.2.twins_.e0, .string r46.2.2.twins_.e1, .bool r46.2.2.found_, .bool r46.2.2.full_, .int .i64 r46.2.2.sums_] 64, mpo kStr kStr r46_b1 r46.2.2.table_, mpo kStr kStr r46_b3 r46.2.2.notes_, pt b21 #[.int .i64 x3.Size, .slice p2 x3.Sides.length c2] 35] ++ F0) rfl (nw_ow ?_)
  have h45 := ro.sub r46_hJ h45
  have hr2 := roN.sub r46_hJ hr2
  refine ow_vals 5 (j := 8) [1, 2, 7, 9, 11, 12] [(1, .slice r40_p1 r40.length r40_c2), (2, .string x2), (7, .pointer (some ⟨b21, 0, none⟩)), (9, .pointer (some ⟨r33_b2, 0, none⟩)), (11, .string r46.1), (12, .int .i64 r46.2.1)] rfl (by kernel_rfl) ?_
  refine ow_end rfl ?_
  refine ew_then ?_
  refine cw_seq ?_
  refine cw_region ?_
  refine ow_vals 4 (j := 4) [1, 2, 7, 9, 42, 43, 44, 45] [(1, .slice r40_p1 r40.length r40_c2), (2, .string x2), (7, .pointer (some ⟨b21, 0, none⟩)), (9, .pointer (some ⟨r33_b2, 0, none⟩)), (42, .pointer (some ⟨r33_b2, 0, none⟩)), (43, .string r46.1), (44, .int .i64 r46.2.1), (45, .string x2)] rfl (by kernel_rfl) ?_
  refine ow_pw rfl (pw_quiet (v := .agg #[.int .i64 x3.Size, .slice p2 x3.Sides.length c2]) rfl rfl rfl rfl (q_load 4 rfl rfl rfl (by kernel_rfl)) (nw_ow ?_))
  obtain ⟨r50, h51, hF⟩ := bind_some hF
  refine ow_pw rfl (pw_call (F := [pt r33_b2 #[.map (some r46_b1), .map (some r46_b3), .string r46.2.2.twins_.e0, .string r46.2.2.twins_.e1, .bool r46.2.2.found_, .bool r46.2.2.full_, .int .i64 r46.2.2.sums_] 64, mpo kStr kStr r46_b1 r46.2.2.table_, mpo kStr kStr r46_b3 r46.2.2.notes_, pt b21 #[.int .i64 x3.Size, .slice p2 x3.Sides.length c2] 35] ++ F0) rfl rfl rfl rfl rfl rfl rfl (by kernel_rfl) (perm_of_pulls [0] rfl) (c_law24_Few _ x3 p2 c2 r50 h51 hr2) ?_)
  rintro _ _ ⟨r50_J, r50_p1, r50_c2, rfl, rfl, r50_hJ⟩
  refine nw_H (H' := [imm r50_J, ownN r50_J n_absent_Side 43 r50_p1 r50_c2 r50.Sides, pt r33_b2 #[.map (some r46_b1), .map (some r46_b3), .string r46.2.2.twins_.e0, .string r46.2.2.twins_.e1, .bool r46.2.2.found_, .bool r46.2.2.full_, .int .i64 r46.2.2.sums_] 64, mpo kStr kStr r46_b1 r46.2.2.table_, mpo kStr kStr r46_b3 r46.2.2.notes_, pt b21 #[.int .i64 x3.Size, .slice p2 x3.Sides.length c2] 35] ++ F0) rfl (nw_ow ?_)
  have h45 := ro.sub r50_hJ h45
  have hr2 := roN.sub r50_hJ hr2
  refine ow_openN 1 rfl fun R56 h57 h58 => ?_
  have h59 : R56.length = r50.Sides.length := by rw [← h57, List.length_map]
  refine ow_freeze (fun w hs => sat_to [0, 0] 0 (F := [imm r50_J, own n_absent_Side.e 43 r50_p1 r50_c2 R56, pt r33_b2 #[.map (some r46_b1), .map (some r46_b3), .string r46.2.2.twins_.e0, .string r46.2.2.twins_.e1, .bool r46.2.2.found_, .bool r46.2.2.full_, .int .i64 r46.2.2.sums_] 64, mpo kStr kStr r46_b1 r46.2.2.table_, mpo kStr kStr r46_b3 r46.2.2.notes_, pt b21 #[.int .i64 x3.Size, .slice p2 x3.Sides.length c2] 35] ++ F0) rfl hs) fun J53 h54 h60 => ?_
  have h45 := ro.sub h54 h45
  have hr2 := roN.sub h54 hr2
  have h55 : roN J53 n_absent_Side r50_p1 r50_c2 r50.Sides := ⟨R56, h60, h57, fun r hr => n_absent_Side.sub h54 r (h58 r hr)⟩
  refine ow_H (H' := [imm J53, pt r33_b2 #[.map (some r46_b1), .map (some r46_b3), .string r46.2.2.twins_.e0, .string r46.2.2.twins_.e1, .bool r46.2.2.found_, .bool r46.2.2.full_, .int .i64 r46.2.2.sums_] 64, mpo kStr kStr r46_b1 r46.2.2.table_, mpo kStr kStr r46_b3 r46.2.2.notes_, pt b21 #[.int .i64 x3.Size, .slice p2 x3.Sides.length c2] 35] ++ F0) rfl ?_
  obtain ⟨r61, h62, hF⟩ := bind_some hF
  refine ow_pw rfl (pw_call (F := [pt b21 #[.int .i64 x3.Size, .slice p2 x3.Sides.length c2] 35] ++ F0) rfl rfl rfl rfl rfl rfl rfl (by kernel_rfl) (perm_of_pulls [0, 0, 0, 0] rfl) (c_absent_Check _ r46.1 r46.2.1 x2 r50 r46.2.2 r50_p1 r50_c2 r46_b1 r46_b3 r33_b2 r61 h62 h55) ?_)
  rintro _ _ ⟨r61_J, r61_b1, r61_b3, rfl, rfl, r61_hJ⟩
  refine nw_H (H' := [imm r61_J, pt r33_b2 #[.map (some r61_b1), .map (some r61_b3), .string r61.2.2.twins_.e0, .string r61.2.2.twins_.e1, .bool r61.2.2.found_, .bool r61.2.2.full_, .int .i64 r61.2.2.sums_] 64, mpo kStr kStr r61_b1 r61.2.2.table_, mpo kStr kStr r61_b3 r61.2.2.notes_, pt b21 #[.int .i64 x3.Size, .slice p2 x3.Sides.length c2] 35] ++ F0) rfl (nw_ow ?_)
  have h45 := ro.sub r61_hJ h45
  have hr2 := roN.sub r61_hJ hr2
  have h55 := roN.sub r61_hJ h55
  refine ow_vals 5 (j := 12) [1, 2, 9, 13, 14] [(1, .slice r40_p1 r40.length r40_c2), (2, .string x2), (9, .pointer (some ⟨r33_b2, 0, none⟩)), (13, .bool r61.1), (14, .int .i64 r61.2.1)] rfl (by kernel_rfl) ?_
  refine ow_end rfl ?_
  refine ew_then ?_
  refine cw_seq ?_
  refine cw_region ?_
  refine ow_vals 1 (j := 1) [1, 2, 9, 13, 14, 15] [(1, .slice r40_p1 r40.length r40_c2), (2, .string x2), (9, .pointer (some ⟨r33_b2, 0, none⟩)), (13, .bool r61.1), (14, .int .i64 r61.2.1), (15, .bool false)] rfl (by kernel_rfl) ?_
  refine ow_end rfl ?_
  refine ew_then ?_
  obtain ⟨v65, hF, hK65⟩ := bind_some hF
  refine cw_mid (fun a w => ∃ (x75 : Bool), x75 = v65 ∧ Fr 90 [(9, .pointer (some ⟨r33_b2, 0, none⟩)), (13, .bool r61.1), (14, .int .i64 r61.2.1), (15, .bool x75)] a ∧ SAT w0 ([imm r61_J, pt r33_b2 #[.map (some r61_b1), .map (some r61_b3), .string r61.2.2.twins_.e0, .string r61.2.2.twins_.e1, .bool r61.2.2.found_, .bool r61.2.2.full_, .int .i64 r61.2.2.sums_] 64, pt b21 #[.int .i64 x3.Size, .slice p2 x3.Sides.length c2] 35, mpo kStr kStr r61_b1 r61.2.2.table_, mpo kStr kStr r61_b3 r61.2.2.notes_] ++ F0) w) ?_ ?_
  · refine cw_seq ?_
    refine cw_region ?_
    refine ow_vals 1 (j := 1) [1, 2, 9, 13, 14, 15, 16] [(1, .slice r40_p1 r40.length r40_c2), (2, .string x2), (9, .pointer (some ⟨r33_b2, 0, none⟩)), (13, .bool r61.1), (14, .int .i64 r61.2.1), (15, .bool false), (16, .int .i64 0)] rfl (by kernel_rfl) ?_
    refine ow_end rfl ?_
    refine ew_then ?_
    refine cw_block ?_
    refine fun a w hf hs => wp_rounds (fun k a w => ∃ (x67 : Bool), ∃ (x68 : Int), iter (fun x => F.law24_AbsentHonest.l2 x2 r40 x.1 x.2) k (x67, x68) = some v65 ∧ Fr 90 [(1, .slice r40_p1 r40.length r40_c2), (2, .string x2), (9, .pointer (some ⟨r33_b2, 0, none⟩)), (13, .bool r61.1), (14, .int .i64 r61.2.1), (15, .bool x67), (16, .int .i64 x68)] a ∧ SAT w0 ([imm r61_J, pt r33_b2 #[.map (some r61_b1), .map (some r61_b3), .string r61.2.2.twins_.e0, .string r61.2.2.twins_.e1, .bool r61.2.2.found_, .bool r61.2.2.full_, .int .i64 r61.2.2.sums_] 64, pt b21 #[.int .i64 x3.Size, .slice p2 x3.Sides.length c2] 35, mpo kStr kStr r61_b1 r61.2.2.table_, mpo kStr kStr r61_b3 r61.2.2.notes_] ++ F0) w) ?_ FUEL a w ⟨false, 0, hF, hf.keep [1, 2, 9, 13, 14, 15, 16], sat_to [0, 0, 2, 0, 0] 0 rfl hs⟩
    clear hf hs
    clear a w hF
    rintro k a w ⟨x67, x68, hF2, hf, hs⟩
    obtain ⟨k, r66, rfl, hF, hL66⟩ := iter_some hF2
    clear hF2
    revert a w
    show CW _ _ _ 90 [(1, .slice r40_p1 r40.length r40_c2), (2, .string x2), (9, .pointer (some ⟨r33_b2, 0, none⟩)), (13, .bool r61.1), (14, .int .i64 r61.2.1), (15, .bool x67), (16, .int .i64 x68)] (SAT w0 ([imm r61_J, pt r33_b2 #[.map (some r61_b1), .map (some r61_b3), .string r61.2.2.twins_.e0, .string r61.2.2.twins_.e1, .bool r61.2.2.found_, .bool r61.2.2.full_, .int .i64 r61.2.2.sums_] 64, pt b21 #[.int .i64 x3.Size, .slice p2 x3.Sides.length c2] 35, mpo kStr kStr r61_b1 r61.2.2.table_, mpo kStr kStr r61_b3 r61.2.2.notes_] ++ F0))
    try dsimp only at hF
    unfold F.law24_AbsentHonest.l2 at hF
    refine cw_seq ?_
    refine cw_seq ?_
    refine cw_region ?_
    refine ow_vals 4 (j := 4) [1, 2, 9, 13, 14, 15, 16, 54] [(1, .slice r40_p1 r40.length r40_c2), (2, .string x2), (9, .pointer (some ⟨r33_b2, 0, none⟩)), (13, .bool r61.1), (14, .int .i64 r61.2.1), (15, .bool x67), (16, .int .i64 x68), (54, .bool (decide (x68 < (r40.length : Int))))] rfl (by kernel_rfl) ?_
    refine ow_end rfl ?_
    refine ew_then ?_
    rcases if_some hF with ⟨h69, hF⟩ | ⟨h69, hF⟩
    · refine cw_cond_t rfl rfl h69 ?_
      refine cw_skip ?_
      refine ew_then ?_
      refine cw_seq ?_
      refine cw_block ?_
      refine cw_region ?_
      refine ow_vals 2 (j := 2) [1, 2, 9, 13, 14, 16, 58] [(1, .slice r40_p1 r40.length r40_c2), (2, .string x2), (9, .pointer (some ⟨r33_b2, 0, none⟩)), (13, .bool r61.1), (14, .int .i64 r61.2.1), (16, .int .i64 x68), (58, .bool x67)] rfl (by kernel_rfl) ?_
      rcases if_some hF with ⟨h70, hF⟩ | ⟨h70, hF⟩
      · refine ow_slots (L' := [(1, .slice r40_p1 r40.length r40_c2), (2, .string x2), (9, .pointer (some ⟨r33_b2, 0, none⟩)), (13, .bool r61.1), (14, .int .i64 r61.2.1), (16, .int .i64 x68), (58, .bool true)]) (by rw [h70]) ?_
        refine ow_vals 8 (j := 10) [1, 2, 9, 13, 14, 15, 16] [(1, .slice r40_p1 r40.length r40_c2), (2, .string x2), (9, .pointer (some ⟨r33_b2, 0, none⟩)), (13, .bool r61.1), (14, .int .i64 r61.2.1), (15, .bool true), (16, .int .i64 x68)] rfl (by kernel_rfl) ?_
        refine ow_end rfl ?_
        refine ew_blk ?_
        refine ew_then ?_
        refine cw_region ?_
        refine ow_vals 3 (j := 3) [1, 2, 9, 13, 14, 15, 16] [(1, .slice r40_p1 r40.length r40_c2), (2, .string x2), (9, .pointer (some ⟨r33_b2, 0, none⟩)), (13, .bool r61.1), (14, .int .i64 r61.2.1), (15, .bool true), (16, .int .i64 (IntKind.i64.wrap (x68 + 1)))] rfl (by kernel_rfl) ?_
        refine ow_end rfl ?_
        have hR := Option.some.inj hF
        subst hR
        have hR := hL66
        try dsimp only at hR
        exact fun a w hf hs => ⟨k, Nat.lt_succ_self k, true, IntKind.i64.wrap (x68 + 1), hR, hf.keep [1, 2, 9, 13, 14, 15, 16], sat_to [0, 0, 0, 0, 0] 0 rfl hs⟩
      refine ow_slots (L' := [(1, .slice r40_p1 r40.length r40_c2), (2, .string x2), (9, .pointer (some ⟨r33_b2, 0, none⟩)), (13, .bool r61.1), (14, .int .i64 r61.2.1), (16, .int .i64 x68), (58, .bool false)]) (by rw [h70]) ?_
      refine ow_vals 2 (j := 4) [1, 2, 9, 13, 14, 16, 58, 59, 60] [(1, .slice r40_p1 r40.length r40_c2), (2, .string x2), (9, .pointer (some ⟨r33_b2, 0, none⟩)), (13, .bool r61.1), (14, .int .i64 r61.2.1), (16, .int .i64 x68), (58, .bool false), (59, .slice r40_p1 r40.length r40_c2), (60, .int .i64 x68)] rfl (by kernel_rfl) ?_
      obtain ⟨y71, h72, hF⟩ := bind_some hF
      refine ow_pw rfl (pw_index_ro (E := 9) 1 h45 rfl rfl rfl rfl rfl (by kernel_rfl) rfl rfl rfl h72 fun q73 h74 => nw_ow ?_)
      refine ow_pw rfl (pw_quiet (v := .string y71) rfl rfl rfl rfl (q_load_el0 0 rfl h74 rfl rfl (by kernel_rfl)) (nw_ow ?_))
      refine ow_vals 4 (j := 10) [1, 2, 9, 13, 14, 15, 16] [(1, .slice r40_p1 r40.length r40_c2), (2, .string x2), (9, .pointer (some ⟨r33_b2, 0, none⟩)), (13, .bool r61.1), (14, .int .i64 r61.2.1), (15, .bool (seqB y71 x2)), (16, .int .i64 x68)] rfl (by kernel_rfl) ?_
      refine ow_end rfl ?_
      refine ew_blk ?_
      refine ew_then ?_
      refine cw_region ?_
      refine ow_vals 3 (j := 3) [1, 2, 9, 13, 14, 15, 16] [(1, .slice r40_p1 r40.length r40_c2), (2, .string x2), (9, .pointer (some ⟨r33_b2, 0, none⟩)), (13, .bool r61.1), (14, .int .i64 r61.2.1), (15, .bool (seqB y71 x2)), (16, .int .i64 (IntKind.i64.wrap (x68 + 1)))] rfl (by kernel_rfl) ?_
      refine ow_end rfl ?_
      have hR := Option.some.inj hF
      subst hR
      have hR := hL66
      try dsimp only at hR
      exact fun a w hf hs => ⟨k, Nat.lt_succ_self k, seqB y71 x2, IntKind.i64.wrap (x68 + 1), hR, hf.keep [1, 2, 9, 13, 14, 15, 16], sat_to [0, 0, 0, 0, 0] 0 rfl hs⟩
    refine cw_cond_f rfl rfl h69 ?_
    refine cw_exit ?_
    refine ew_then_exit ?_
    refine ew_then_exit ?_
    refine ew_blk_exit ?_
    have hR := Option.some.inj hF
    subst hR
    have hR := hL66
    try dsimp only at hR
    exact fun a w hf hs => ⟨x67, hR, hf.keep [9, 13, 14, 15], sat_to [0, 0, 0, 0, 0] 0 rfl hs⟩
  rintro a w ⟨x75, hv, hf, hs⟩
  subst hv
  replace hF := hK65
  clear hK65
  try dsimp only at hF
  revert a w
  show CW _ _ _ 90 [(9, .pointer (some ⟨r33_b2, 0, none⟩)), (13, .bool r61.1), (14, .int .i64 r61.2.1), (15, .bool x75)] (SAT w0 ([imm r61_J, pt r33_b2 #[.map (some r61_b1), .map (some r61_b3), .string r61.2.2.twins_.e0, .string r61.2.2.twins_.e1, .bool r61.2.2.found_, .bool r61.2.2.full_, .int .i64 r61.2.2.sums_] 64, pt b21 #[.int .i64 x3.Size, .slice p2 x3.Sides.length c2] 35, mpo kStr kStr r61_b1 r61.2.2.table_, mpo kStr kStr r61_b3 r61.2.2.notes_] ++ F0))
  unfold F.law24_AbsentHonest.r3 at hF
  refine cw_seq ?_
  refine cw_region ?_
  refine ow_vals 1 (j := 1) [13, 14, 15, 67] [(13, .bool r61.1), (14, .int .i64 r61.2.1), (15, .bool x75), (67, .pointer (some ⟨r33_b2, 0, none⟩))] rfl (by kernel_rfl) ?_
  obtain ⟨r76, h77, hF⟩ := bind_some hF
  refine ow_pw rfl (pw_call (F := [pt b21 #[.int .i64 x3.Size, .slice p2 x3.Sides.length c2] 35] ++ F0) rfl rfl rfl rfl rfl rfl rfl (by kernel_rfl) (perm_of_pulls [0, 0, 1, 1] rfl) (c_mill_Mill_Twins _ r61.2.2 r61_b1 r61_b3 r33_b2 r76 h77) ?_)
  rintro _ _ ⟨rfl, rfl⟩
  refine nw_H (H' := [imm r61_J, pt r33_b2 #[.map (some r61_b1), .map (some r61_b3), .string r61.2.2.twins_.e0, .string r61.2.2.twins_.e1, .bool r61.2.2.found_, .bool r61.2.2.full_, .int .i64 r61.2.2.sums_] 64, mpo kStr kStr r61_b1 r61.2.2.table_, mpo kStr kStr r61_b3 r61.2.2.notes_, pt b21 #[.int .i64 x3.Size, .slice p2 x3.Sides.length c2] 35] ++ F0) rfl (nw_ow ?_)
  refine ow_vals 7 (j := 9) [13, 14, 15, 17, 18, 19] [(13, .bool r61.1), (14, .int .i64 r61.2.1), (15, .bool x75), (17, .string r76.1), (18, .string r76.2.1), (19, .bool r76.2.2)] rfl (by kernel_rfl) ?_
  refine ow_end rfl ?_
  refine ew_then ?_
  refine cw_seq ?_
  refine cw_region ?_
  refine ow_vals 3 (j := 3) [13, 15, 17, 18, 19, 74] [(13, .bool r61.1), (15, .bool x75), (17, .string r76.1), (18, .string r76.2.1), (19, .bool r76.2.2), (74, .bool (r61.2.1 != 0))] rfl (by kernel_rfl) ?_
  rcases if_some hF with ⟨h78, hF⟩ | ⟨h78, hF⟩
  · refine ow_slots (L' := [(13, .bool r61.1), (15, .bool x75), (17, .string r76.1), (18, .string r76.2.1), (19, .bool r76.2.2), (74, .bool true)]) (by rw [h78]) ?_
    refine ow_vals 13 (j := 16) [87] [(87, .bool true)] rfl (by kernel_rfl) ?_
    obtain ⟨r79, h80, hF⟩ := bind_some hF
    refine ow_pw rfl (pw_call (F := [pt r33_b2 #[.map (some r61_b1), .map (some r61_b3), .string r61.2.2.twins_.e0, .string r61.2.2.twins_.e1, .bool r61.2.2.found_, .bool r61.2.2.full_, .int .i64 r61.2.2.sums_] 64, mpo kStr kStr r61_b1 r61.2.2.table_, mpo kStr kStr r61_b3 r61.2.2.notes_, pt b21 #[.int .i64 x3.Size, .slice p2 x3.Sides.length c2] 35] ++ F0) rfl rfl rfl rfl rfl rfl rfl (by kernel_rfl) (perm_of_pulls [0] rfl) (c_law24_awake _ r79 h80) ?_)
    rintro _ _ ⟨r79_J, rfl, rfl, r79_hJ⟩
    refine nw_H (H' := [imm r79_J, pt r33_b2 #[.map (some r61_b1), .map (some r61_b3), .string r61.2.2.twins_.e0, .string r61.2.2.twins_.e1, .bool r61.2.2.found_, .bool r61.2.2.full_, .int .i64 r61.2.2.sums_] 64, mpo kStr kStr r61_b1 r61.2.2.table_, mpo kStr kStr r61_b3 r61.2.2.notes_, pt b21 #[.int .i64 x3.Size, .slice p2 x3.Sides.length c2] 35] ++ F0) rfl (nw_ow ?_)
    have hr2 := roN.sub r79_hJ hr2
    refine ow_vals 2 (j := 19) [8] [(8, .bool r79)] rfl (by kernel_rfl) ?_
    refine ow_end rfl ?_
    refine ew_then ?_
    refine cw_ret ?_
    have hR := Option.some.inj hF
    subst hR
    exact fin1 (H1 := [imm r79_J]) (fun w hs => sat_to [1, 1, 1, 1, 0] 4 rfl hs) rfl (rr_tmp rfl) ⟨r79_J, rfl, rfl, (Hl.sub_trans (Hl.sub_trans (Hl.sub_trans (Hl.sub_trans (Hl.sub_trans h44 r46_hJ) r50_hJ) h54) r61_hJ) r79_hJ)⟩
  refine ow_slots (L' := [(13, .bool r61.1), (15, .bool x75), (17, .string r76.1), (18, .string r76.2.1), (19, .bool r76.2.2), (74, .bool false)]) (by rw [h78]) ?_
  refine ow_vals 5 (j := 8) [17, 18, 19, 79] [(17, .string r76.1), (18, .string r76.2.1), (19, .bool r76.2.2), (79, .bool (r61.1 == x75))] rfl (by kernel_rfl) ?_
  rcases if_some hF with ⟨h81, hF⟩ | ⟨h81, hF⟩
  · refine ow_slots (L' := [(17, .string r76.1), (18, .string r76.2.1), (19, .bool r76.2.2), (79, .bool true)]) (by rw [h81]) ?_
    refine ow_vals 8 (j := 16) [87] [(87, .bool true)] rfl (by kernel_rfl) ?_
    obtain ⟨r82, h83, hF⟩ := bind_some hF
    refine ow_pw rfl (pw_call (F := [pt r33_b2 #[.map (some r61_b1), .map (some r61_b3), .string r61.2.2.twins_.e0, .string r61.2.2.twins_.e1, .bool r61.2.2.found_, .bool r61.2.2.full_, .int .i64 r61.2.2.sums_] 64, mpo kStr kStr r61_b1 r61.2.2.table_, mpo kStr kStr r61_b3 r61.2.2.notes_, pt b21 #[.int .i64 x3.Size, .slice p2 x3.Sides.length c2] 35] ++ F0) rfl rfl rfl rfl rfl rfl rfl (by kernel_rfl) (perm_of_pulls [0] rfl) (c_law24_awake _ r82 h83) ?_)
    rintro _ _ ⟨r82_J, rfl, rfl, r82_hJ⟩
    refine nw_H (H' := [imm r82_J, pt r33_b2 #[.map (some r61_b1), .map (some r61_b3), .string r61.2.2.twins_.e0, .string r61.2.2.twins_.e1, .bool r61.2.2.found_, .bool r61.2.2.full_, .int .i64 r61.2.2.sums_] 64, mpo kStr kStr r61_b1 r61.2.2.table_, mpo kStr kStr r61_b3 r61.2.2.notes_, pt b21 #[.int .i64 x3.Size, .slice p2 x3.Sides.length c2] 35] ++ F0) rfl (nw_ow ?_)
    have hr2 := roN.sub r82_hJ hr2
    refine ow_vals 2 (j := 19) [8] [(8, .bool r82)] rfl (by kernel_rfl) ?_
    refine ow_end rfl ?_
    refine ew_then ?_
    refine cw_ret ?_
    have hR := Option.some.inj hF
    subst hR
    exact fin1 (H1 := [imm r82_J]) (fun w hs => sat_to [1, 1, 1, 1, 0] 4 rfl hs) rfl (rr_tmp rfl) ⟨r82_J, rfl, rfl, (Hl.sub_trans (Hl.sub_trans (Hl.sub_trans (Hl.sub_trans (Hl.sub_trans h44 r46_hJ) r50_hJ) h54) r61_hJ) r82_hJ)⟩
  refine ow_slots (L' := [(17, .string r76.1), (18, .string r76.2.1), (19, .bool r76.2.2), (79, .bool false)]) (by rw [h81]) ?_
  refine ow_vals 2 (j := 10) [17, 18, 79, 81] [(17, .string r76.1), (18, .string r76.2.1), (79, .bool false), (81, .bool r76.2.2)] rfl (by kernel_rfl) ?_
  rcases if_some hF with ⟨h84, hF⟩ | ⟨h84, hF⟩
  · refine ow_slots (L' := [(17, .string r76.1), (18, .string r76.2.1), (79, .bool false), (81, .bool true)]) (by rw [h84]) ?_
    refine ow_vals 6 (j := 16) [87] [(87, .bool (!(seqB r76.1 r76.2.1)))] rfl (by kernel_rfl) ?_
    rcases if_some hF with ⟨h85, hF⟩ | ⟨h85, hF⟩
    · refine ow_slots (L' := [(87, .bool true)]) (by rw [h85]) ?_
      obtain ⟨r86, h87, hF⟩ := bind_some hF
      refine ow_pw rfl (pw_call (F := [pt r33_b2 #[.map (some r61_b1), .map (some r61_b3), .string r61.2.2.twins_.e0, .string r61.2.2.twins_.e1, .bool r61.2.2.found_, .bool r61.2.2.full_, .int .i64 r61.2.2.sums_] 64, mpo kStr kStr r61_b1 r61.2.2.table_, mpo kStr kStr r61_b3 r61.2.2.notes_, pt b21 #[.int .i64 x3.Size, .slice p2 x3.Sides.length c2] 35] ++ F0) rfl rfl rfl rfl rfl rfl rfl (by kernel_rfl) (perm_of_pulls [0] rfl) (c_law24_awake _ r86 h87) ?_)
      rintro _ _ ⟨r86_J, rfl, rfl, r86_hJ⟩
      refine nw_H (H' := [imm r86_J, pt r33_b2 #[.map (some r61_b1), .map (some r61_b3), .string r61.2.2.twins_.e0, .string r61.2.2.twins_.e1, .bool r61.2.2.found_, .bool r61.2.2.full_, .int .i64 r61.2.2.sums_] 64, mpo kStr kStr r61_b1 r61.2.2.table_, mpo kStr kStr r61_b3 r61.2.2.notes_, pt b21 #[.int .i64 x3.Size, .slice p2 x3.Sides.length c2] 35] ++ F0) rfl (nw_ow ?_)
      have hr2 := roN.sub r86_hJ hr2
      refine ow_vals 2 (j := 19) [8] [(8, .bool r86)] rfl (by kernel_rfl) ?_
      refine ow_end rfl ?_
      refine ew_then ?_
      refine cw_ret ?_
      have hR := Option.some.inj hF
      subst hR
      exact fin1 (H1 := [imm r86_J]) (fun w hs => sat_to [1, 1, 1, 1, 0] 4 rfl hs) rfl (rr_tmp rfl) ⟨r86_J, rfl, rfl, (Hl.sub_trans (Hl.sub_trans (Hl.sub_trans (Hl.sub_trans (Hl.sub_trans h44 r46_hJ) r50_hJ) h54) r61_hJ) r86_hJ)⟩
    refine ow_slots (L' := [(87, .bool false)]) (by rw [h85]) ?_
    refine ow_vals 3 (j := 19) [8] [(8, .bool false)] rfl (by kernel_rfl) ?_
    refine ow_end rfl ?_
    refine ew_then ?_
    refine cw_ret ?_
    have hR := Option.some.inj hF
    subst hR
    exact fin1 (H1 := [imm r61_J]) (fun w hs => sat_to [1, 1, 1, 1, 0] 4 rfl hs) rfl (rr_tmp rfl) ⟨r61_J, rfl, rfl, (Hl.sub_trans (Hl.sub_trans (Hl.sub_trans (Hl.sub_trans h44 r46_hJ) r50_hJ) h54) r61_hJ)⟩
  refine ow_slots (L' := [(17, .string r76.1), (18, .string r76.2.1), (79, .bool false), (81, .bool false)]) (by rw [h84]) ?_
  refine ow_vals 9 (j := 19) [8] [(8, .bool false)] rfl (by kernel_rfl) ?_
  refine ow_end rfl ?_
  refine ew_then ?_
  refine cw_ret ?_
  have hR := Option.some.inj hF
  subst hR
  exact fin1 (H1 := [imm r61_J]) (fun w hs => sat_to [1, 1, 1, 1, 0] 4 rfl hs) rfl (rr_tmp rfl) ⟨r61_J, rfl, rfl, (Hl.sub_trans (Hl.sub_trans (Hl.sub_trans (Hl.sub_trans h44 r46_hJ) r50_hJ) h54) r61_hJ)⟩

end Go.Proofs.Ytileogoeoiafkaa
