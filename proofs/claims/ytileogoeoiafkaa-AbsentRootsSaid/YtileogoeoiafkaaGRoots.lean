/- What the functions compute, and that the code computes it: printed by a program of this claim (wip/tools), for the group Roots. -/
import Derived.Test.YtileogoeoiafkaaGTid
namespace Go.Proofs.Ytileogoeoiafkaa
set_option linter.all false
open Go Go.RowKit Go.Fw
set_option linter.unusedVariables false

def F.law24_AbsentRoots (x0 : List ByteArray) : Option Bool :=
  Option.bind (F.law24_few x0) (fun (r21 : (List ByteArray)) => Option.bind (F.mill_New) (fun (r24 : mill_Mill) => Option.bind (F.law24_tidy r21) (fun (r32 : (List ByteArray)) => Option.bind (F.absent_Root r21 r24) (fun (r35 : ByteArray × Int × mill_Mill) => Option.bind (F.absent_Tidy r21) (fun (r39 : (List ByteArray)) => Option.bind (F.law24_sameList r39 r32) (fun (r48 : Bool) => if r48 then (if r35.2.1 == (r32.length : Int) then (Option.bind (F.law24_leaves r32 r35.2.2) (fun (r52 : (List ByteArray) × mill_Mill) => Option.bind (F.law07_Root FUEL r52.1 r52.2) (fun (r60 : ByteArray × mill_Mill) => if seqB r35.1 r60.1 then (Option.bind (F.law24_awake) (fun (r65 : Bool) => some (r65))) else (some (false))))) else (some (false))) else (some (false))))))))
set_option maxRecDepth 100000 in
set_option maxHeartbeats 4000000 in
theorem c_law24_AbsentRoots (I : Hl) (x0 : List ByteArray) (p0 : Option Addr) (c0 : Nat) (res : Bool) (hF : F.law24_AbsentRoots x0 = some res) (hr0 : ro I eStr p0 c0 x0) : Tr Try.prog 3 [.slice p0 x0.length c0] [imm I] (fun r H' => ∃ (J : Hl), r = .bool res ∧ H' = [imm J] ∧ Hl.sub I J) := by
  unfold F.law24_AbsentRoots at hF
  refine tr_of_cw (fn := Try.f3) Try.func3 rfl (Nat.le_of_ble_eq_true rfl) 40 rfl fun F0 w0 => ?_
  refine cw_keep [0] (L' := [(0, .slice p0 x0.length c0)]) rfl ?_
  refine cw_state (S' := SAT w0 ([imm I] ++ F0)) (fun w hs => hs) ?_
  refine cw_seq ?_
  refine cw_region ?_
  refine ow_vals 1 (j := 1) [0] [(0, .slice p0 x0.length c0)] rfl (by kernel_rfl) ?_
  refine ow_end rfl ?_
  refine ew_then ?_
  refine cw_seq ?_
  refine cw_region ?_
  refine ow_vals 1 (j := 1) [7] [(7, .slice p0 x0.length c0)] rfl (by kernel_rfl) ?_
  obtain ⟨r21, h22, hF⟩ := bind_some hF
  refine ow_pw rfl (pw_call (F := [] ++ F0) rfl rfl rfl rfl rfl rfl rfl (by kernel_rfl) (perm_of_pulls [0] rfl) (c_law24_few _ x0 p0 c0 r21 h22 hr0) ?_)
  rintro _ _ ⟨r21_p1, r21_c2, rfl, rfl⟩
  refine nw_H (H' := [imm I, own eStr 9 r21_p1 r21_c2 r21] ++ F0) rfl (nw_ow ?_)
  refine ow_vals 1 (j := 3) [0] [(0, .slice r21_p1 r21.length r21_c2)] rfl (by kernel_rfl) ?_
  refine ow_end rfl ?_
  refine ew_then ?_
  refine cw_seq ?_
  refine cw_region ?_
  obtain ⟨r24, h25, hF⟩ := bind_some hF
  refine ow_pw rfl (pw_call (F := [own eStr 9 r21_p1 r21_c2 r21] ++ F0) rfl rfl rfl rfl rfl rfl rfl (by kernel_rfl) (perm_of_pulls [0] rfl) (c_mill_New _ r24 h25) ?_)
  rintro _ _ ⟨r24_b1, r24_b3, r24_b5, rfl, rfl⟩
  refine nw_H (H' := [imm I, pt r24_b1 #[.map (some r24_b3), .map (some r24_b5), .string r24.twins_.e0, .string r24.twins_.e1, .bool r24.found_, .bool r24.full_, .int .i64 r24.sums_] 64, mpo kStr kStr r24_b3 r24.table_, mpo kStr kStr r24_b5 r24.notes_, own eStr 9 r21_p1 r21_c2 r21] ++ F0) rfl (nw_ow ?_)
  refine ow_vals 1 (j := 2) [0, 3] [(0, .slice r21_p1 r21.length r21_c2), (3, .pointer (some ⟨r24_b1, 0, none⟩))] rfl (by kernel_rfl) ?_
  refine ow_end rfl ?_
  refine ew_then ?_
  refine cw_seq ?_
  refine cw_region ?_
  refine ow_vals 1 (j := 1) [0, 3, 10] [(0, .slice r21_p1 r21.length r21_c2), (3, .pointer (some ⟨r24_b1, 0, none⟩)), (10, .slice r21_p1 r21.length r21_c2)] rfl (by kernel_rfl) ?_
  refine ow_freeze (fun w hs => sat_to [0, 3] 0 (F := [imm I, own eStr 9 r21_p1 r21_c2 r21, pt r24_b1 #[.map (some r24_b3), .map (some r24_b5), .string r24.twins_.e0, .string r24.twins_.e1, .bool r24.found_, .bool r24.full_, .int .i64 r24.sums_] 64, mpo kStr kStr r24_b3 r24.table_, mpo kStr kStr r24_b5 r24.notes_] ++ F0) rfl hs) fun J29 h30 h31 => ?_
  refine ow_H (H' := [imm J29, pt r24_b1 #[.map (some r24_b3), .map (some r24_b5), .string r24.twins_.e0, .string r24.twins_.e1, .bool r24.found_, .bool r24.full_, .int .i64 r24.sums_] 64, mpo kStr kStr r24_b3 r24.table_, mpo kStr kStr r24_b5 r24.notes_] ++ F0) rfl ?_
  obtain ⟨r32, h33, hF⟩ := bind_some hF
  refine ow_pw rfl (pw_call (F := [pt r24_b1 #[.map (some r24_b3), .map (some r24_b5), .string r24.twins_.e0, .string r24.twins_.e1, .bool r24.found_, .bool r24.full_, .int .i64 r24.sums_] 64, mpo kStr kStr r24_b3 r24.table_, mpo kStr kStr r24_b5 r24.notes_] ++ F0) rfl rfl rfl rfl rfl rfl rfl (by kernel_rfl) (perm_of_pulls [0] rfl) (c_law24_tidy _ r21 r21_p1 r21_c2 r32 h33 h31) ?_)
  rintro _ _ ⟨r32_J, r32_p1, r32_c2, rfl, rfl, r32_hJ⟩
  refine nw_H (H' := [imm r32_J, own eStr 9 r32_p1 r32_c2 r32, pt r24_b1 #[.map (some r24_b3), .map (some r24_b5), .string r24.twins_.e0, .string r24.twins_.e1, .bool r24.found_, .bool r24.full_, .int .i64 r24.sums_] 64, mpo kStr kStr r24_b3 r24.table_, mpo kStr kStr r24_b5 r24.notes_] ++ F0) rfl (nw_ow ?_)
  have h31 := ro.sub r32_hJ h31
  refine ow_vals 1 (j := 3) [0, 3, 4] [(0, .slice r21_p1 r21.length r21_c2), (3, .pointer (some ⟨r24_b1, 0, none⟩)), (4, .slice r32_p1 r32.length r32_c2)] rfl (by kernel_rfl) ?_
  refine ow_end rfl ?_
  refine ew_then ?_
  refine cw_seq ?_
  refine cw_region ?_
  refine ow_vals 2 (j := 2) [0, 3, 4, 13, 14] [(0, .slice r21_p1 r21.length r21_c2), (3, .pointer (some ⟨r24_b1, 0, none⟩)), (4, .slice r32_p1 r32.length r32_c2), (13, .pointer (some ⟨r24_b1, 0, none⟩)), (14, .slice r21_p1 r21.length r21_c2)] rfl (by kernel_rfl) ?_
  obtain ⟨r35, h36, hF⟩ := bind_some hF
  refine ow_pw rfl (pw_call (F := [own eStr 9 r32_p1 r32_c2 r32] ++ F0) rfl rfl rfl rfl rfl rfl rfl (by kernel_rfl) (perm_of_pulls [0, 1, 1, 1] rfl) (c_absent_Root _ r21 r24 r21_p1 r21_c2 r24_b3 r24_b5 r24_b1 r35 h36 h31) ?_)
  rintro _ _ ⟨r35_J, r35_b1, r35_b3, rfl, rfl, r35_hJ⟩
  refine nw_H (H' := [imm r35_J, pt r24_b1 #[.map (some r35_b1), .map (some r35_b3), .string r35.2.2.twins_.e0, .string r35.2.2.twins_.e1, .bool r35.2.2.found_, .bool r35.2.2.full_, .int .i64 r35.2.2.sums_] 64, mpo kStr kStr r35_b1 r35.2.2.table_, mpo kStr kStr r35_b3 r35.2.2.notes_, own eStr 9 r32_p1 r32_c2 r32] ++ F0) rfl (nw_ow ?_)
  have h31 := ro.sub r35_hJ h31
  refine ow_vals 5 (j := 8) [0, 3, 4, 5, 6] [(0, .slice r21_p1 r21.length r21_c2), (3, .pointer (some ⟨r24_b1, 0, none⟩)), (4, .slice r32_p1 r32.length r32_c2), (5, .string r35.1), (6, .int .i64 r35.2.1)] rfl (by kernel_rfl) ?_
  refine ow_end rfl ?_
  refine ew_then ?_
  refine cw_seq ?_
  refine cw_region ?_
  refine ow_vals 1 (j := 1) [3, 4, 5, 6, 18] [(3, .pointer (some ⟨r24_b1, 0, none⟩)), (4, .slice r32_p1 r32.length r32_c2), (5, .string r35.1), (6, .int .i64 r35.2.1), (18, .slice r21_p1 r21.length r21_c2)] rfl (by kernel_rfl) ?_
  obtain ⟨r39, h40, hF⟩ := bind_some hF
  refine ow_pw rfl (pw_call (F := [pt r24_b1 #[.map (some r35_b1), .map (some r35_b3), .string r35.2.2.twins_.e0, .string r35.2.2.twins_.e1, .bool r35.2.2.found_, .bool r35.2.2.full_, .int .i64 r35.2.2.sums_] 64, mpo kStr kStr r35_b1 r35.2.2.table_, mpo kStr kStr r35_b3 r35.2.2.notes_, own eStr 9 r32_p1 r32_c2 r32] ++ F0) rfl rfl rfl rfl rfl rfl rfl (by kernel_rfl) (perm_of_pulls [0] rfl) (c_absent_Tidy _ r21 r21_p1 r21_c2 r39 h40 h31) ?_)
  rintro _ _ ⟨r39_p1, r39_c2, rfl, rfl⟩
  refine nw_H (H' := [imm r35_J, own eStr 9 r39_p1 r39_c2 r39, pt r24_b1 #[.map (some r35_b1), .map (some r35_b3), .string r35.2.2.twins_.e0, .string r35.2.2.twins_.e1, .bool r35.2.2.found_, .bool r35.2.2.full_, .int .i64 r35.2.2.sums_] 64, mpo kStr kStr r35_b1 r35.2.2.table_, mpo kStr kStr r35_b3 r35.2.2.notes_, own eStr 9 r32_p1 r32_c2 r32] ++ F0) rfl (nw_ow ?_)
  refine ow_vals 1 (j := 3) [3, 4, 5, 6, 19, 20] [(3, .pointer (some ⟨r24_b1, 0, none⟩)), (4, .slice r32_p1 r32.length r32_c2), (5, .string r35.1), (6, .int .i64 r35.2.1), (19, .slice r39_p1 r39.length r39_c2), (20, .slice r32_p1 r32.length r32_c2)] rfl (by kernel_rfl) ?_
  refine ow_freeze (fun w hs => sat_to [0, 4] 0 (F := [imm r35_J, own eStr 9 r32_p1 r32_c2 r32, own eStr 9 r39_p1 r39_c2 r39, pt r24_b1 #[.map (some r35_b1), .map (some r35_b3), .string r35.2.2.twins_.e0, .string r35.2.2.twins_.e1, .bool r35.2.2.found_, .bool r35.2.2.full_, .int .i64 r35.2.2.sums_] 64, mpo kStr kStr r35_b1 r35.2.2.table_, mpo kStr kStr r35_b3 r35.2.2.notes_] ++ F0) rfl hs) fun J42 h43 h44 => ?_
  refine ow_H (H' := [imm J42, own eStr 9 r39_p1 r39_c2 r39, pt r24_b1 #[.map (some r35_b1), .map (some r35_b3), .string r35.2.2.twins_.e0, .string r35.2.2.twins_.e1, .bool r35.2.2.found_, .bool r35.2.2.full_, .int .i64 r35.2.2.sums_] 64, mpo kStr kStr r35_b1 r35.2.2.table_, mpo kStr kStr r35_b3 r35.2.2.notes_] ++ F0) rfl ?_
  refine ow_freeze (fun w hs => sat_to [0, 0] 0 (F := [imm J42, own eStr 9 r39_p1 r39_c2 r39, pt r24_b1 #[.map (some r35_b1), .map (some r35_b3), .string r35.2.2.twins_.e0, .string r35.2.2.twins_.e1, .bool r35.2.2.found_, .bool r35.2.2.full_, .int .i64 r35.2.2.sums_] 64, mpo kStr kStr r35_b1 r35.2.2.table_, mpo kStr kStr r35_b3 r35.2.2.notes_] ++ F0) rfl hs) fun J45 h46 h47 => ?_
  have h44 := ro.sub h46 h44
  refine ow_H (H' := [imm J45, pt r24_b1 #[.map (some r35_b1), .map (some r35_b3), .string r35.2.2.twins_.e0, .string r35.2.2.twins_.e1, .bool r35.2.2.found_, .bool r35.2.2.full_, .int .i64 r35.2.2.sums_] 64, mpo kStr kStr r35_b1 r35.2.2.table_, mpo kStr kStr r35_b3 r35.2.2.notes_] ++ F0) rfl ?_
  obtain ⟨r48, h49, hF⟩ := bind_some hF
  refine ow_pw rfl (pw_call (F := [pt r24_b1 #[.map (some r35_b1), .map (some r35_b3), .string r35.2.2.twins_.e0, .string r35.2.2.twins_.e1, .bool r35.2.2.found_, .bool r35.2.2.full_, .int .i64 r35.2.2.sums_] 64, mpo kStr kStr r35_b1 r35.2.2.table_, mpo kStr kStr r35_b3 r35.2.2.notes_] ++ F0) rfl rfl rfl rfl rfl rfl rfl (by kernel_rfl) (perm_of_pulls [0] rfl) (c_law24_sameList _ r39 r32 r39_p1 r39_c2 r32_p1 r32_c2 r48 h49 h47 h44) ?_)
  rintro _ _ ⟨rfl, rfl⟩
  refine nw_H (H' := [imm J45, pt r24_b1 #[.map (some r35_b1), .map (some r35_b3), .string r35.2.2.twins_.e0, .string r35.2.2.twins_.e1, .bool r35.2.2.found_, .bool r35.2.2.full_, .int .i64 r35.2.2.sums_] 64, mpo kStr kStr r35_b1 r35.2.2.table_, mpo kStr kStr r35_b3 r35.2.2.notes_] ++ F0) rfl (nw_ow ?_)
  refine ow_vals 1 (j := 5) [3, 4, 5, 6, 22] [(3, .pointer (some ⟨r24_b1, 0, none⟩)), (4, .slice r32_p1 r32.length r32_c2), (5, .string r35.1), (6, .int .i64 r35.2.1), (22, .bool r48)] rfl (by kernel_rfl) ?_
  rcases if_some hF with ⟨h50, hF⟩ | ⟨h50, hF⟩
  · refine ow_slots (L' := [(3, .pointer (some ⟨r24_b1, 0, none⟩)), (4, .slice r32_p1 r32.length r32_c2), (5, .string r35.1), (6, .int .i64 r35.2.1), (22, .bool true)]) (by rw [h50]) ?_
    refine ow_vals 6 (j := 11) [3, 4, 5, 28] [(3, .pointer (some ⟨r24_b1, 0, none⟩)), (4, .slice r32_p1 r32.length r32_c2), (5, .string r35.1), (28, .bool (r35.2.1 == (r32.length : Int)))] rfl (by kernel_rfl) ?_
    rcases if_some hF with ⟨h51, hF⟩ | ⟨h51, hF⟩
    · refine ow_slots (L' := [(3, .pointer (some ⟨r24_b1, 0, none⟩)), (4, .slice r32_p1 r32.length r32_c2), (5, .string r35.1), (28, .bool true)]) (by rw [h51]) ?_
      refine ow_vals 4 (j := 15) [28, 29, 30, 31, 32] [(28, .bool true), (29, .string r35.1), (30, .pointer (some ⟨r24_b1, 0, none⟩)), (31, .pointer (some ⟨r24_b1, 0, none⟩)), (32, .slice r32_p1 r32.length r32_c2)] rfl (by kernel_rfl) ?_
      obtain ⟨r52, h53, hF⟩ := bind_some hF
      refine ow_pw rfl (pw_call (F := [] ++ F0) rfl rfl rfl rfl rfl rfl rfl (by kernel_rfl) (perm_of_pulls [0, 0, 0, 0] rfl) (c_law24_leaves _ r32 r35.2.2 r32_p1 r32_c2 r35_b1 r35_b3 r24_b1 r52 h53 h44) ?_)
      rintro _ _ ⟨r52_p1, r52_c2, r52_b4, r52_b6, rfl, rfl⟩
      refine nw_H (H' := [imm J45, pt r24_b1 #[.map (some r52_b4), .map (some r52_b6), .string r52.2.twins_.e0, .string r52.2.twins_.e1, .bool r52.2.found_, .bool r52.2.full_, .int .i64 r52.2.sums_] 64, own eStr 9 r52_p1 r52_c2 r52.1, mpo kStr kStr r52_b4 r52.2.table_, mpo kStr kStr r52_b6 r52.2.notes_] ++ F0) rfl (nw_ow ?_)
      refine ow_freeze (fun w hs => sat_to [0, 1] 0 (F := [imm J45, own eStr 9 r52_p1 r52_c2 r52.1, pt r24_b1 #[.map (some r52_b4), .map (some r52_b6), .string r52.2.twins_.e0, .string r52.2.twins_.e1, .bool r52.2.found_, .bool r52.2.full_, .int .i64 r52.2.sums_] 64, mpo kStr kStr r52_b4 r52.2.table_, mpo kStr kStr r52_b6 r52.2.notes_] ++ F0) rfl hs) fun J57 h58 h59 => ?_
      have h44 := ro.sub h58 h44
      refine ow_H (H' := [imm J57, pt r24_b1 #[.map (some r52_b4), .map (some r52_b6), .string r52.2.twins_.e0, .string r52.2.twins_.e1, .bool r52.2.found_, .bool r52.2.full_, .int .i64 r52.2.sums_] 64, mpo kStr kStr r52_b4 r52.2.table_, mpo kStr kStr r52_b6 r52.2.notes_] ++ F0) rfl ?_
      obtain ⟨r60, h61, hF⟩ := bind_some hF
      refine ow_pw rfl (pw_call (F := [] ++ F0) rfl rfl rfl rfl rfl rfl rfl (by kernel_rfl) (perm_of_pulls [0, 0, 0, 0] rfl) (c_law07_Root FUEL _ r52.1 r52.2 r52_p1 r52_c2 r52_b4 r52_b6 r24_b1 r60 h61 h59) ?_)
      rintro _ _ ⟨r60_b1, r60_b3, rfl, rfl⟩
      refine nw_H (H' := [imm J57, pt r24_b1 #[.map (some r60_b1), .map (some r60_b3), .string r60.2.twins_.e0, .string r60.2.twins_.e1, .bool r60.2.found_, .bool r60.2.full_, .int .i64 r60.2.sums_] 64, mpo kStr kStr r60_b1 r60.2.table_, mpo kStr kStr r60_b3 r60.2.notes_] ++ F0) rfl (nw_ow ?_)
      refine ow_vals 3 (j := 20) [37] [(37, .bool (seqB r35.1 r60.1))] rfl (by kernel_rfl) ?_
      rcases if_some hF with ⟨h64, hF⟩ | ⟨h64, hF⟩
      · refine ow_slots (L' := [(37, .bool true)]) (by rw [h64]) ?_
        obtain ⟨r65, h66, hF⟩ := bind_some hF
        refine ow_pw rfl (pw_call (F := [pt r24_b1 #[.map (some r60_b1), .map (some r60_b3), .string r60.2.twins_.e0, .string r60.2.twins_.e1, .bool r60.2.found_, .bool r60.2.full_, .int .i64 r60.2.sums_] 64, mpo kStr kStr r60_b1 r60.2.table_, mpo kStr kStr r60_b3 r60.2.notes_] ++ F0) rfl rfl rfl rfl rfl rfl rfl (by kernel_rfl) (perm_of_pulls [0] rfl) (c_law24_awake _ r65 h66) ?_)
        rintro _ _ ⟨r65_J, rfl, rfl, r65_hJ⟩
        refine nw_H (H' := [imm r65_J, pt r24_b1 #[.map (some r60_b1), .map (some r60_b3), .string r60.2.twins_.e0, .string r60.2.twins_.e1, .bool r60.2.found_, .bool r60.2.full_, .int .i64 r60.2.sums_] 64, mpo kStr kStr r60_b1 r60.2.table_, mpo kStr kStr r60_b3 r60.2.notes_] ++ F0) rfl (nw_ow ?_)
        refine ow_vals 2 (j := 23) [2] [(2, .bool r65)] rfl (by kernel_rfl) ?_
        refine ow_end rfl ?_
        refine ew_then ?_
        refine cw_ret ?_
        have hR := Option.some.inj hF
        subst hR
        exact fin1 (H1 := [imm r65_J]) (fun w hs => sat_to [1, 1, 1, 0] 3 rfl hs) rfl (rr_tmp rfl) ⟨r65_J, rfl, rfl, (Hl.sub_trans (Hl.sub_trans (Hl.sub_trans (Hl.sub_trans (Hl.sub_trans (Hl.sub_trans h30 r32_hJ) r35_hJ) h43) h46) h58) r65_hJ)⟩
      refine ow_slots (L' := [(37, .bool false)]) (by rw [h64]) ?_
      refine ow_vals 3 (j := 23) [2] [(2, .bool false)] rfl (by kernel_rfl) ?_
      refine ow_end rfl ?_
      refine ew_then ?_
      refine cw_ret ?_
      have hR := Option.some.inj hF
      subst hR
      exact fin1 (H1 := [imm J57]) (fun w hs => sat_to [1, 1, 1, 0] 3 rfl hs) rfl (rr_tmp rfl) ⟨J57, rfl, rfl, (Hl.sub_trans (Hl.sub_trans (Hl.sub_trans (Hl.sub_trans (Hl.sub_trans h30 r32_hJ) r35_hJ) h43) h46) h58)⟩
    refine ow_slots (L' := [(3, .pointer (some ⟨r24_b1, 0, none⟩)), (4, .slice r32_p1 r32.length r32_c2), (5, .string r35.1), (28, .bool false)]) (by rw [h51]) ?_
    refine ow_vals 12 (j := 23) [2] [(2, .bool false)] rfl (by kernel_rfl) ?_
    refine ow_end rfl ?_
    refine ew_then ?_
    refine cw_ret ?_
    have hR := Option.some.inj hF
    subst hR
    exact fin1 (H1 := [imm J45]) (fun w hs => sat_to [1, 1, 1, 0] 3 rfl hs) rfl (rr_tmp rfl) ⟨J45, rfl, rfl, (Hl.sub_trans (Hl.sub_trans (Hl.sub_trans (Hl.sub_trans h30 r32_hJ) r35_hJ) h43) h46)⟩
  refine ow_slots (L' := [(3, .pointer (some ⟨r24_b1, 0, none⟩)), (4, .slice r32_p1 r32.length r32_c2), (5, .string r35.1), (6, .int .i64 r35.2.1), (22, .bool false)]) (by rw [h50]) ?_
  refine ow_vals 18 (j := 23) [2] [(2, .bool false)] rfl (by kernel_rfl) ?_
  refine ow_end rfl ?_
  refine ew_then ?_
  refine cw_ret ?_
  have hR := Option.some.inj hF
  subst hR
  exact fin1 (H1 := [imm J45]) (fun w hs => sat_to [1, 1, 1, 0] 3 rfl hs) rfl (rr_tmp rfl) ⟨J45, rfl, rfl, (Hl.sub_trans (Hl.sub_trans (Hl.sub_trans (Hl.sub_trans h30 r32_hJ) r35_hJ) h43) h46)⟩

end Go.Proofs.Ytileogoeoiafkaa
