/- What the functions compute, and that the code computes it: printed by a program of this claim (wip/tools), for the group Sums. -/
import Derived.Test.YtfjnafgigfapbaaGPledge
namespace Go.Proofs.Ytfjnafgigfapbaa
set_option linter.all false
open Go Go.RowKit Go.Fw
set_option linter.unusedVariables false

def F.law06_of (x0 : ByteArray) (x1 : ByteArray) (x2 : ByteArray) (x3 : ByteArray) : Option ByteArray :=
  Option.bind (F.octet_Text x0) (fun (r21 : ByteArray) => chk ((ByteArray.mk #[2]).size + r21.size ≤ 9223372036854775807) (Option.bind (F.octet_Text x1) (fun (r24 : ByteArray) => chk (((ByteArray.mk #[2]) ++ r21).size + r24.size ≤ 9223372036854775807) (Option.bind (F.octet_Text x2) (fun (r27 : ByteArray) => chk ((((ByteArray.mk #[2]) ++ r21) ++ r24).size + r27.size ≤ 9223372036854775807) (Option.bind (F.octet_Text x3) (fun (r30 : ByteArray) => chk (((((ByteArray.mk #[2]) ++ r21) ++ r24) ++ r27).size + r30.size ≤ 9223372036854775807) (some ((((((ByteArray.mk #[2]) ++ r21) ++ r24) ++ r27) ++ r30))))))))))
set_option maxRecDepth 100000 in
set_option maxHeartbeats 4000000 in
theorem c_law06_of (I : Hl) (x0 : ByteArray) (x1 : ByteArray) (x2 : ByteArray) (x3 : ByteArray) (res : ByteArray) (hF : F.law06_of x0 x1 x2 x3 = some res) : Tr Try.prog 24 [.string x0, .string x1, .string x2, .string x3] [imm I] (fun r H' => r = .string res ∧ H' = [imm I]) := by
  unfold F.law06_of at hF
  refine tr_of_cw (fn := Try.f24) Try.func24 rfl (Nat.le_of_ble_eq_true rfl) 21 rfl fun F0 w0 => ?_
  refine cw_keep [0, 1, 2, 3] (L' := [(0, .string x0), (1, .string x1), (2, .string x2), (3, .string x3)]) rfl ?_
  refine cw_state (S' := SAT w0 ([imm I] ++ F0)) (fun w hs => hs) ?_
  refine cw_seq ?_
  refine cw_region ?_
  refine ow_vals 1 (j := 1) [0, 1, 2, 3] [(0, .string x0), (1, .string x1), (2, .string x2), (3, .string x3)] rfl (by kernel_rfl) ?_
  refine ow_end rfl ?_
  refine ew_then ?_
  refine cw_seq ?_
  refine cw_region ?_
  refine ow_vals 1 (j := 1) [1, 2, 3, 9] [(1, .string x1), (2, .string x2), (3, .string x3), (9, .string x0)] rfl (by kernel_rfl) ?_
  obtain ⟨r21, h22, hF⟩ := bind_some hF
  refine ow_pw rfl (pw_call (F := [] ++ F0) rfl rfl rfl rfl rfl rfl rfl (by kernel_rfl) (perm_of_pulls [0] rfl) (c_octet_Text _ x0 r21 h22) ?_)
  rintro _ _ ⟨rfl, rfl⟩
  refine nw_H (H' := [imm I] ++ F0) rfl (nw_ow ?_)
  obtain ⟨h23, hF⟩ := chk_some hF
  refine ow_pw rfl (pw_quiet (v := .string ((ByteArray.mk #[2]) ++ r21)) rfl rfl rfl rfl (q_concat rfl rfl rfl h23) (nw_ow ?_))
  refine ow_vals 1 (j := 4) [2, 3, 11, 12] [(2, .string x2), (3, .string x3), (11, .string ((ByteArray.mk #[2]) ++ r21)), (12, .string x1)] rfl (by kernel_rfl) ?_
  obtain ⟨r24, h25, hF⟩ := bind_some hF
  refine ow_pw rfl (pw_call (F := [] ++ F0) rfl rfl rfl rfl rfl rfl rfl (by kernel_rfl) (perm_of_pulls [0] rfl) (c_octet_Text _ x1 r24 h25) ?_)
  rintro _ _ ⟨rfl, rfl⟩
  refine nw_H (H' := [imm I] ++ F0) rfl (nw_ow ?_)
  obtain ⟨h26, hF⟩ := chk_some hF
  refine ow_pw rfl (pw_quiet (v := .string (((ByteArray.mk #[2]) ++ r21) ++ r24)) rfl rfl rfl rfl (q_concat rfl rfl rfl h26) (nw_ow ?_))
  refine ow_vals 1 (j := 7) [3, 14, 15] [(3, .string x3), (14, .string (((ByteArray.mk #[2]) ++ r21) ++ r24)), (15, .string x2)] rfl (by kernel_rfl) ?_
  obtain ⟨r27, h28, hF⟩ := bind_some hF
  refine ow_pw rfl (pw_call (F := [] ++ F0) rfl rfl rfl rfl rfl rfl rfl (by kernel_rfl) (perm_of_pulls [0] rfl) (c_octet_Text _ x2 r27 h28) ?_)
  rintro _ _ ⟨rfl, rfl⟩
  refine nw_H (H' := [imm I] ++ F0) rfl (nw_ow ?_)
  obtain ⟨h29, hF⟩ := chk_some hF
  refine ow_pw rfl (pw_quiet (v := .string ((((ByteArray.mk #[2]) ++ r21) ++ r24) ++ r27)) rfl rfl rfl rfl (q_concat rfl rfl rfl h29) (nw_ow ?_))
  refine ow_vals 1 (j := 10) [17, 18] [(17, .string ((((ByteArray.mk #[2]) ++ r21) ++ r24) ++ r27)), (18, .string x3)] rfl (by kernel_rfl) ?_
  obtain ⟨r30, h31, hF⟩ := bind_some hF
  refine ow_pw rfl (pw_call (F := [] ++ F0) rfl rfl rfl rfl rfl rfl rfl (by kernel_rfl) (perm_of_pulls [0] rfl) (c_octet_Text _ x3 r30 h31) ?_)
  rintro _ _ ⟨rfl, rfl⟩
  refine nw_H (H' := [imm I] ++ F0) rfl (nw_ow ?_)
  obtain ⟨h32, hF⟩ := chk_some hF
  refine ow_pw rfl (pw_quiet (v := .string (((((ByteArray.mk #[2]) ++ r21) ++ r24) ++ r27) ++ r30)) rfl rfl rfl rfl (q_concat rfl rfl rfl h32) (nw_ow ?_))
  refine ow_vals 1 (j := 13) [8] [(8, .string (((((ByteArray.mk #[2]) ++ r21) ++ r24) ++ r27) ++ r30))] rfl (by kernel_rfl) ?_
  refine ow_end rfl ?_
  refine ew_then ?_
  refine cw_ret ?_
  have hR := Option.some.inj hF
  subst hR
  exact fin1 (H1 := [imm I]) (fun w hs => sat_to [0] 0 rfl hs) rfl (rr_tmp rfl) ⟨rfl, rfl⟩


def F.law06_PledgeSums (x0 : ByteArray) (x1 : ByteArray) (x2 : ByteArray) (x3 : ByteArray) : Option Bool :=
  Option.bind (F.mill_New) (fun (r21 : mill_Mill) => Option.bind (F.mill_New) (fun (r26 : mill_Mill) => Option.bind (F.law06_cut x0) (fun (r31 : ByteArray) => Option.bind (F.law06_cut x1) (fun (r33 : ByteArray) => Option.bind (F.law06_cut x2) (fun (r35 : ByteArray) => Option.bind (F.law06_cut x3) (fun (r37 : ByteArray) => Option.bind (F.pledge_Of r31 r33 r35 r37 r21) (fun (r39 : ByteArray × mill_Mill) => Option.bind (F.law06_of r31 r33 r35 r37) (fun (r43 : ByteArray) => Option.bind (F.mill_Mill_Sum r43 r26) (fun (r45 : ByteArray × mill_Mill) => if seqB r39.1 r45.1 then (Option.bind (F.pledge_Leaf r37 r39.2) (fun (r50 : ByteArray × mill_Mill) => chk ((ByteArray.mk #[0]).size + r37.size ≤ 9223372036854775807) (Option.bind (F.mill_Mill_Sum ((ByteArray.mk #[0]) ++ r37) r45.2) (fun (r55 : ByteArray × mill_Mill) => if seqB r50.1 r55.1 then (Option.bind (F.pledge_Node r31 r33 r50.2) (fun (r60 : ByteArray × mill_Mill) => chk ((ByteArray.mk #[1]).size + r31.size ≤ 9223372036854775807) (chk (((ByteArray.mk #[1]) ++ r31).size + r33.size ≤ 9223372036854775807) (Option.bind (F.mill_Mill_Sum (((ByteArray.mk #[1]) ++ r31) ++ r33) r55.2) (fun (r66 : ByteArray × mill_Mill) => if seqB r60.1 r66.1 then (Option.bind (F.pledge_None r60.2) (fun (r71 : ByteArray × mill_Mill) => Option.bind (F.mill_Mill_Sum (ByteArray.mk #[]) r66.2) (fun (r75 : ByteArray × mill_Mill) => if seqB r71.1 r75.1 then (Option.bind (F.law06_awake) (fun (r80 : Bool) => some (r80))) else (some (false))))) else (some (false))))))) else (some (false)))))) else (some (false)))))))))))
set_option maxRecDepth 100000 in
set_option maxHeartbeats 4000000 in
theorem c_law06_PledgeSums (I : Hl) (x0 : ByteArray) (x1 : ByteArray) (x2 : ByteArray) (x3 : ByteArray) (res : Bool) (hF : F.law06_PledgeSums x0 x1 x2 x3 = some res) : Tr Try.prog 7 [.string x0, .string x1, .string x2, .string x3] [imm I] (fun r H' => r = .bool res ∧ H' = [imm I]) := by
  unfold F.law06_PledgeSums at hF
  refine tr_of_cw (fn := Try.f7) Try.func7 rfl (Nat.le_of_ble_eq_true rfl) 68 rfl fun F0 w0 => ?_
  refine cw_keep [0, 1, 2, 3] (L' := [(0, .string x0), (1, .string x1), (2, .string x2), (3, .string x3)]) rfl ?_
  refine cw_state (S' := SAT w0 ([imm I] ++ F0)) (fun w hs => hs) ?_
  refine cw_seq ?_
  refine cw_region ?_
  refine ow_vals 1 (j := 1) [0, 1, 2, 3] [(0, .string x0), (1, .string x1), (2, .string x2), (3, .string x3)] rfl (by kernel_rfl) ?_
  refine ow_end rfl ?_
  refine ew_then ?_
  refine cw_seq ?_
  refine cw_region ?_
  obtain ⟨r21, h22, hF⟩ := bind_some hF
  refine ow_pw rfl (pw_call (F := [] ++ F0) rfl rfl rfl rfl rfl rfl rfl (by kernel_rfl) (perm_of_pulls [0] rfl) (c_mill_New _ r21 h22) ?_)
  rintro _ _ ⟨r21_b1, r21_b3, r21_b5, rfl, rfl⟩
  refine nw_H (H' := [imm I, pt r21_b1 #[.map (some r21_b3), .map (some r21_b5), .string r21.twins_.e0, .string r21.twins_.e1, .bool r21.found_, .bool r21.full_, .int .i64 r21.sums_] 54, mpo kStr kStr r21_b3 r21.table_, mpo kStr kStr r21_b5 r21.notes_] ++ F0) rfl (nw_ow ?_)
  obtain ⟨r26, h27, hF⟩ := bind_some hF
  refine ow_pw rfl (pw_call (F := [pt r21_b1 #[.map (some r21_b3), .map (some r21_b5), .string r21.twins_.e0, .string r21.twins_.e1, .bool r21.found_, .bool r21.full_, .int .i64 r21.sums_] 54, mpo kStr kStr r21_b3 r21.table_, mpo kStr kStr r21_b5 r21.notes_] ++ F0) rfl rfl rfl rfl rfl rfl rfl (by kernel_rfl) (perm_of_pulls [0] rfl) (c_mill_New _ r26 h27) ?_)
  rintro _ _ ⟨r26_b1, r26_b3, r26_b5, rfl, rfl⟩
  refine nw_H (H' := [imm I, pt r26_b1 #[.map (some r26_b3), .map (some r26_b5), .string r26.twins_.e0, .string r26.twins_.e1, .bool r26.found_, .bool r26.full_, .int .i64 r26.sums_] 54, mpo kStr kStr r26_b3 r26.table_, mpo kStr kStr r26_b5 r26.notes_, pt r21_b1 #[.map (some r21_b3), .map (some r21_b5), .string r21.twins_.e0, .string r21.twins_.e1, .bool r21.found_, .bool r21.full_, .int .i64 r21.sums_] 54, mpo kStr kStr r21_b3 r21.table_, mpo kStr kStr r21_b5 r21.notes_] ++ F0) rfl (nw_ow ?_)
  refine ow_vals 2 (j := 4) [0, 1, 2, 3, 9, 10] [(0, .string x0), (1, .string x1), (2, .string x2), (3, .string x3), (9, .pointer (some ⟨r21_b1, 0, none⟩)), (10, .pointer (some ⟨r26_b1, 0, none⟩))] rfl (by kernel_rfl) ?_
  refine ow_end rfl ?_
  refine ew_then ?_
  refine cw_seq ?_
  refine cw_region ?_
  refine ow_vals 1 (j := 1) [1, 2, 3, 9, 10, 13] [(1, .string x1), (2, .string x2), (3, .string x3), (9, .pointer (some ⟨r21_b1, 0, none⟩)), (10, .pointer (some ⟨r26_b1, 0, none⟩)), (13, .string x0)] rfl (by kernel_rfl) ?_
  obtain ⟨r31, h32, hF⟩ := bind_some hF
  refine ow_pw rfl (pw_call (F := [pt r26_b1 #[.map (some r26_b3), .map (some r26_b5), .string r26.twins_.e0, .string r26.twins_.e1, .bool r26.found_, .bool r26.full_, .int .i64 r26.sums_] 54, mpo kStr kStr r26_b3 r26.table_, mpo kStr kStr r26_b5 r26.notes_, pt r21_b1 #[.map (some r21_b3), .map (some r21_b5), .string r21.twins_.e0, .string r21.twins_.e1, .bool r21.found_, .bool r21.full_, .int .i64 r21.sums_] 54, mpo kStr kStr r21_b3 r21.table_, mpo kStr kStr r21_b5 r21.notes_] ++ F0) rfl rfl rfl rfl rfl rfl rfl (by kernel_rfl) (perm_of_pulls [0] rfl) (c_law06_cut _ x0 r31 h32) ?_)
  rintro _ _ ⟨rfl, rfl⟩
  refine nw_H (H' := [imm I, pt r26_b1 #[.map (some r26_b3), .map (some r26_b5), .string r26.twins_.e0, .string r26.twins_.e1, .bool r26.found_, .bool r26.full_, .int .i64 r26.sums_] 54, mpo kStr kStr r26_b3 r26.table_, mpo kStr kStr r26_b5 r26.notes_, pt r21_b1 #[.map (some r21_b3), .map (some r21_b5), .string r21.twins_.e0, .string r21.twins_.e1, .bool r21.found_, .bool r21.full_, .int .i64 r21.sums_] 54, mpo kStr kStr r21_b3 r21.table_, mpo kStr kStr r21_b5 r21.notes_] ++ F0) rfl (nw_ow ?_)
  refine ow_vals 1 (j := 3) [0, 1, 2, 3, 9, 10] [(0, .string r31), (1, .string x1), (2, .string x2), (3, .string x3), (9, .pointer (some ⟨r21_b1, 0, none⟩)), (10, .pointer (some ⟨r26_b1, 0, none⟩))] rfl (by kernel_rfl) ?_
  refine ow_end rfl ?_
  refine ew_then ?_
  refine cw_seq ?_
  refine cw_region ?_
  refine ow_vals 1 (j := 1) [0, 2, 3, 9, 10, 15] [(0, .string r31), (2, .string x2), (3, .string x3), (9, .pointer (some ⟨r21_b1, 0, none⟩)), (10, .pointer (some ⟨r26_b1, 0, none⟩)), (15, .string x1)] rfl (by kernel_rfl) ?_
  obtain ⟨r33, h34, hF⟩ := bind_some hF
  refine ow_pw rfl (pw_call (F := [pt r26_b1 #[.map (some r26_b3), .map (some r26_b5), .string r26.twins_.e0, .string r26.twins_.e1, .bool r26.found_, .bool r26.full_, .int .i64 r26.sums_] 54, mpo kStr kStr r26_b3 r26.table_, mpo kStr kStr r26_b5 r26.notes_, pt r21_b1 #[.map (some r21_b3), .map (some r21_b5), .string r21.twins_.e0, .string r21.twins_.e1, .bool r21.found_, .bool r21.full_, .int .i64 r21.sums_] 54, mpo kStr kStr r21_b3 r21.table_, mpo kStr kStr r21_b5 r21.notes_] ++ F0) rfl rfl rfl rfl rfl rfl rfl (by kernel_rfl) (perm_of_pulls [0] rfl) (c_law06_cut _ x1 r33 h34) ?_)
  rintro _ _ ⟨rfl, rfl⟩
  refine nw_H (H' := [imm I, pt r26_b1 #[.map (some r26_b3), .map (some r26_b5), .string r26.twins_.e0, .string r26.twins_.e1, .bool r26.found_, .bool r26.full_, .int .i64 r26.sums_] 54, mpo kStr kStr r26_b3 r26.table_, mpo kStr kStr r26_b5 r26.notes_, pt r21_b1 #[.map (some r21_b3), .map (some r21_b5), .string r21.twins_.e0, .string r21.twins_.e1, .bool r21.found_, .bool r21.full_, .int .i64 r21.sums_] 54, mpo kStr kStr r21_b3 r21.table_, mpo kStr kStr r21_b5 r21.notes_] ++ F0) rfl (nw_ow ?_)
  refine ow_vals 1 (j := 3) [0, 1, 2, 3, 9, 10] [(0, .string r31), (1, .string r33), (2, .string x2), (3, .string x3), (9, .pointer (some ⟨r21_b1, 0, none⟩)), (10, .pointer (some ⟨r26_b1, 0, none⟩))] rfl (by kernel_rfl) ?_
  refine ow_end rfl ?_
  refine ew_then ?_
  refine cw_seq ?_
  refine cw_region ?_
  refine ow_vals 1 (j := 1) [0, 1, 3, 9, 10, 17] [(0, .string r31), (1, .string r33), (3, .string x3), (9, .pointer (some ⟨r21_b1, 0, none⟩)), (10, .pointer (some ⟨r26_b1, 0, none⟩)), (17, .string x2)] rfl (by kernel_rfl) ?_
  obtain ⟨r35, h36, hF⟩ := bind_some hF
  refine ow_pw rfl (pw_call (F := [pt r26_b1 #[.map (some r26_b3), .map (some r26_b5), .string r26.twins_.e0, .string r26.twins_.e1, .bool r26.found_, .bool r26.full_, .int .i64 r26.sums_] 54, mpo kStr kStr r26_b3 r26.table_, mpo kStr kStr r26_b5 r26.notes_, pt r21_b1 #[.map (some r21_b3), .map (some r21_b5), .string r21.twins_.e0, .string r21.twins_.e1, .bool r21.found_, .bool r21.full_, .int .i64 r21.sums_] 54, mpo kStr kStr r21_b3 r21.table_, mpo kStr kStr r21_b5 r21.notes_] ++ F0) rfl rfl rfl rfl rfl rfl rfl (by kernel_rfl) (perm_of_pulls [0] rfl) (c_law06_cut _ x2 r35 h36) ?_)
  rintro _ _ ⟨rfl, rfl⟩
  refine nw_H (H' := [imm I, pt r26_b1 #[.map (some r26_b3), .map (some r26_b5), .string r26.twins_.e0, .string r26.twins_.e1, .bool r26.found_, .bool r26.full_, .int .i64 r26.sums_] 54, mpo kStr kStr r26_b3 r26.table_, mpo kStr kStr r26_b5 r26.notes_, pt r21_b1 #[.map (some r21_b3), .map (some r21_b5), .string r21.twins_.e0, .string r21.twins_.e1, .bool r21.found_, .bool r21.full_, .int .i64 r21.sums_] 54, mpo kStr kStr r21_b3 r21.table_, mpo kStr kStr r21_b5 r21.notes_] ++ F0) rfl (nw_ow ?_)
  refine ow_vals 1 (j := 3) [0, 1, 2, 3, 9, 10] [(0, .string r31), (1, .string r33), (2, .string r35), (3, .string x3), (9, .pointer (some ⟨r21_b1, 0, none⟩)), (10, .pointer (some ⟨r26_b1, 0, none⟩))] rfl (by kernel_rfl) ?_
  refine ow_end rfl ?_
  refine ew_then ?_
  refine cw_seq ?_
  refine cw_region ?_
  refine ow_vals 1 (j := 1) [0, 1, 2, 9, 10, 19] [(0, .string r31), (1, .string r33), (2, .string r35), (9, .pointer (some ⟨r21_b1, 0, none⟩)), (10, .pointer (some ⟨r26_b1, 0, none⟩)), (19, .string x3)] rfl (by kernel_rfl) ?_
  obtain ⟨r37, h38, hF⟩ := bind_some hF
  refine ow_pw rfl (pw_call (F := [pt r26_b1 #[.map (some r26_b3), .map (some r26_b5), .string r26.twins_.e0, .string r26.twins_.e1, .bool r26.found_, .bool r26.full_, .int .i64 r26.sums_] 54, mpo kStr kStr r26_b3 r26.table_, mpo kStr kStr r26_b5 r26.notes_, pt r21_b1 #[.map (some r21_b3), .map (some r21_b5), .string r21.twins_.e0, .string r21.twins_.e1, .bool r21.found_, .bool r21.full_, .int .i64 r21.sums_] 54, mpo kStr kStr r21_b3 r21.table_, mpo kStr kStr r21_b5 r21.notes_] ++ F0) rfl rfl rfl rfl rfl rfl rfl (by kernel_rfl) (perm_of_pulls [0] rfl) (c_law06_cut _ x3 r37 h38) ?_)
  rintro _ _ ⟨rfl, rfl⟩
  refine nw_H (H' := [imm I, pt r26_b1 #[.map (some r26_b3), .map (some r26_b5), .string r26.twins_.e0, .string r26.twins_.e1, .bool r26.found_, .bool r26.full_, .int .i64 r26.sums_] 54, mpo kStr kStr r26_b3 r26.table_, mpo kStr kStr r26_b5 r26.notes_, pt r21_b1 #[.map (some r21_b3), .map (some r21_b5), .string r21.twins_.e0, .string r21.twins_.e1, .bool r21.found_, .bool r21.full_, .int .i64 r21.sums_] 54, mpo kStr kStr r21_b3 r21.table_, mpo kStr kStr r21_b5 r21.notes_] ++ F0) rfl (nw_ow ?_)
  refine ow_vals 1 (j := 3) [0, 1, 2, 3, 9, 10] [(0, .string r31), (1, .string r33), (2, .string r35), (3, .string r37), (9, .pointer (some ⟨r21_b1, 0, none⟩)), (10, .pointer (some ⟨r26_b1, 0, none⟩))] rfl (by kernel_rfl) ?_
  refine ow_end rfl ?_
  refine ew_then ?_
  refine cw_seq ?_
  refine cw_region ?_
  refine ow_vals 5 (j := 5) [0, 1, 2, 3, 9, 10, 21, 22, 23, 24, 25] [(0, .string r31), (1, .string r33), (2, .string r35), (3, .string r37), (9, .pointer (some ⟨r21_b1, 0, none⟩)), (10, .pointer (some ⟨r26_b1, 0, none⟩)), (21, .pointer (some ⟨r21_b1, 0, none⟩)), (22, .string r31), (23, .string r33), (24, .string r35), (25, .string r37)] rfl (by kernel_rfl) ?_
  obtain ⟨r39, h40, hF⟩ := bind_some hF
  refine ow_pw rfl (pw_call (F := [pt r26_b1 #[.map (some r26_b3), .map (some r26_b5), .string r26.twins_.e0, .string r26.twins_.e1, .bool r26.found_, .bool r26.full_, .int .i64 r26.sums_] 54, mpo kStr kStr r26_b3 r26.table_, mpo kStr kStr r26_b5 r26.notes_] ++ F0) rfl rfl rfl rfl rfl rfl rfl (by kernel_rfl) (perm_of_pulls [0, 3, 3, 3] rfl) (c_pledge_Of _ r31 r33 r35 r37 r21 r21_b3 r21_b5 r21_b1 r39 h40) ?_)
  rintro _ _ ⟨r39_b1, r39_b3, rfl, rfl⟩
  refine nw_H (H' := [imm I, pt r21_b1 #[.map (some r39_b1), .map (some r39_b3), .string r39.2.twins_.e0, .string r39.2.twins_.e1, .bool r39.2.found_, .bool r39.2.full_, .int .i64 r39.2.sums_] 54, mpo kStr kStr r39_b1 r39.2.table_, mpo kStr kStr r39_b3 r39.2.notes_, pt r26_b1 #[.map (some r26_b3), .map (some r26_b5), .string r26.twins_.e0, .string r26.twins_.e1, .bool r26.found_, .bool r26.full_, .int .i64 r26.sums_] 54, mpo kStr kStr r26_b3 r26.table_, mpo kStr kStr r26_b5 r26.notes_] ++ F0) rfl (nw_ow ?_)
  refine ow_vals 5 (j := 11) [0, 1, 3, 9, 10, 26, 27, 28, 29, 30, 31] [(0, .string r31), (1, .string r33), (3, .string r37), (9, .pointer (some ⟨r21_b1, 0, none⟩)), (10, .pointer (some ⟨r26_b1, 0, none⟩)), (26, .string r39.1), (27, .pointer (some ⟨r26_b1, 0, none⟩)), (28, .string r31), (29, .string r33), (30, .string r35), (31, .string r37)] rfl (by kernel_rfl) ?_
  obtain ⟨r43, h44, hF⟩ := bind_some hF
  refine ow_pw rfl (pw_call (F := [pt r21_b1 #[.map (some r39_b1), .map (some r39_b3), .string r39.2.twins_.e0, .string r39.2.twins_.e1, .bool r39.2.found_, .bool r39.2.full_, .int .i64 r39.2.sums_] 54, mpo kStr kStr r39_b1 r39.2.table_, mpo kStr kStr r39_b3 r39.2.notes_, pt r26_b1 #[.map (some r26_b3), .map (some r26_b5), .string r26.twins_.e0, .string r26.twins_.e1, .bool r26.found_, .bool r26.full_, .int .i64 r26.sums_] 54, mpo kStr kStr r26_b3 r26.table_, mpo kStr kStr r26_b5 r26.notes_] ++ F0) rfl rfl rfl rfl rfl rfl rfl (by kernel_rfl) (perm_of_pulls [0] rfl) (c_law06_of _ r31 r33 r35 r37 r43 h44) ?_)
  rintro _ _ ⟨rfl, rfl⟩
  refine nw_H (H' := [imm I, pt r21_b1 #[.map (some r39_b1), .map (some r39_b3), .string r39.2.twins_.e0, .string r39.2.twins_.e1, .bool r39.2.found_, .bool r39.2.full_, .int .i64 r39.2.sums_] 54, mpo kStr kStr r39_b1 r39.2.table_, mpo kStr kStr r39_b3 r39.2.notes_, pt r26_b1 #[.map (some r26_b3), .map (some r26_b5), .string r26.twins_.e0, .string r26.twins_.e1, .bool r26.found_, .bool r26.full_, .int .i64 r26.sums_] 54, mpo kStr kStr r26_b3 r26.table_, mpo kStr kStr r26_b5 r26.notes_] ++ F0) rfl (nw_ow ?_)
  obtain ⟨r45, h46, hF⟩ := bind_some hF
  refine ow_pw rfl (pw_call (F := [pt r21_b1 #[.map (some r39_b1), .map (some r39_b3), .string r39.2.twins_.e0, .string r39.2.twins_.e1, .bool r39.2.found_, .bool r39.2.full_, .int .i64 r39.2.sums_] 54, mpo kStr kStr r39_b1 r39.2.table_, mpo kStr kStr r39_b3 r39.2.notes_] ++ F0) rfl rfl rfl rfl rfl rfl rfl (by kernel_rfl) (perm_of_pulls [0, 3, 3, 3] rfl) (c_mill_Mill_Sum _ r43 r26 r26_b3 r26_b5 r26_b1 r45 h46) ?_)
  rintro _ _ ⟨r45_b1, r45_b3, rfl, rfl⟩
  refine nw_H (H' := [imm I, pt r26_b1 #[.map (some r45_b1), .map (some r45_b3), .string r45.2.twins_.e0, .string r45.2.twins_.e1, .bool r45.2.found_, .bool r45.2.full_, .int .i64 r45.2.sums_] 54, mpo kStr kStr r45_b1 r45.2.table_, mpo kStr kStr r45_b3 r45.2.notes_, pt r21_b1 #[.map (some r39_b1), .map (some r39_b3), .string r39.2.twins_.e0, .string r39.2.twins_.e1, .bool r39.2.found_, .bool r39.2.full_, .int .i64 r39.2.sums_] 54, mpo kStr kStr r39_b1 r39.2.table_, mpo kStr kStr r39_b3 r39.2.notes_] ++ F0) rfl (nw_ow ?_)
  refine ow_vals 2 (j := 15) [0, 1, 3, 9, 10, 35] [(0, .string r31), (1, .string r33), (3, .string r37), (9, .pointer (some ⟨r21_b1, 0, none⟩)), (10, .pointer (some ⟨r26_b1, 0, none⟩)), (35, .bool (seqB r39.1 r45.1))] rfl (by kernel_rfl) ?_
  rcases if_some hF with ⟨h49, hF⟩ | ⟨h49, hF⟩
  · refine ow_slots (L' := [(0, .string r31), (1, .string r33), (3, .string r37), (9, .pointer (some ⟨r21_b1, 0, none⟩)), (10, .pointer (some ⟨r26_b1, 0, none⟩)), (35, .bool true)]) (by rw [h49]) ?_
    refine ow_vals 2 (j := 17) [0, 1, 3, 9, 10, 35, 36, 37] [(0, .string r31), (1, .string r33), (3, .string r37), (9, .pointer (some ⟨r21_b1, 0, none⟩)), (10, .pointer (some ⟨r26_b1, 0, none⟩)), (35, .bool true), (36, .pointer (some ⟨r21_b1, 0, none⟩)), (37, .string r37)] rfl (by kernel_rfl) ?_
    obtain ⟨r50, h51, hF⟩ := bind_some hF
    refine ow_pw rfl (pw_call (F := [pt r26_b1 #[.map (some r45_b1), .map (some r45_b3), .string r45.2.twins_.e0, .string r45.2.twins_.e1, .bool r45.2.found_, .bool r45.2.full_, .int .i64 r45.2.sums_] 54, mpo kStr kStr r45_b1 r45.2.table_, mpo kStr kStr r45_b3 r45.2.notes_] ++ F0) rfl rfl rfl rfl rfl rfl rfl (by kernel_rfl) (perm_of_pulls [0, 3, 3, 3] rfl) (c_pledge_Leaf _ r37 r39.2 r39_b1 r39_b3 r21_b1 r50 h51) ?_)
    rintro _ _ ⟨r50_b1, r50_b3, rfl, rfl⟩
    refine nw_H (H' := [imm I, pt r21_b1 #[.map (some r50_b1), .map (some r50_b3), .string r50.2.twins_.e0, .string r50.2.twins_.e1, .bool r50.2.found_, .bool r50.2.full_, .int .i64 r50.2.sums_] 54, mpo kStr kStr r50_b1 r50.2.table_, mpo kStr kStr r50_b3 r50.2.notes_, pt r26_b1 #[.map (some r45_b1), .map (some r45_b3), .string r45.2.twins_.e0, .string r45.2.twins_.e1, .bool r45.2.found_, .bool r45.2.full_, .int .i64 r45.2.sums_] 54, mpo kStr kStr r45_b1 r45.2.table_, mpo kStr kStr r45_b3 r45.2.notes_] ++ F0) rfl (nw_ow ?_)
    refine ow_vals 2 (j := 20) [0, 1, 9, 10, 35, 38, 39, 40] [(0, .string r31), (1, .string r33), (9, .pointer (some ⟨r21_b1, 0, none⟩)), (10, .pointer (some ⟨r26_b1, 0, none⟩)), (35, .bool true), (38, .string r50.1), (39, .pointer (some ⟨r26_b1, 0, none⟩)), (40, .string r37)] rfl (by kernel_rfl) ?_
    obtain ⟨h54, hF⟩ := chk_some hF
    refine ow_pw rfl (pw_quiet (v := .string ((ByteArray.mk #[0]) ++ r37)) rfl rfl rfl rfl (q_concat rfl rfl rfl h54) (nw_ow ?_))
    obtain ⟨r55, h56, hF⟩ := bind_some hF
    refine ow_pw rfl (pw_call (F := [pt r21_b1 #[.map (some r50_b1), .map (some r50_b3), .string r50.2.twins_.e0, .string r50.2.twins_.e1, .bool r50.2.found_, .bool r50.2.full_, .int .i64 r50.2.sums_] 54, mpo kStr kStr r50_b1 r50.2.table_, mpo kStr kStr r50_b3 r50.2.notes_] ++ F0) rfl rfl rfl rfl rfl rfl rfl (by kernel_rfl) (perm_of_pulls [0, 3, 3, 3] rfl) (c_mill_Mill_Sum _ ((ByteArray.mk #[0]) ++ r37) r45.2 r45_b1 r45_b3 r26_b1 r55 h56) ?_)
    rintro _ _ ⟨r55_b1, r55_b3, rfl, rfl⟩
    refine nw_H (H' := [imm I, pt r26_b1 #[.map (some r55_b1), .map (some r55_b3), .string r55.2.twins_.e0, .string r55.2.twins_.e1, .bool r55.2.found_, .bool r55.2.full_, .int .i64 r55.2.sums_] 54, mpo kStr kStr r55_b1 r55.2.table_, mpo kStr kStr r55_b3 r55.2.notes_, pt r21_b1 #[.map (some r50_b1), .map (some r50_b3), .string r50.2.twins_.e0, .string r50.2.twins_.e1, .bool r50.2.found_, .bool r50.2.full_, .int .i64 r50.2.sums_] 54, mpo kStr kStr r50_b1 r50.2.table_, mpo kStr kStr r50_b3 r50.2.notes_] ++ F0) rfl (nw_ow ?_)
    refine ow_vals 3 (j := 25) [0, 1, 9, 10, 45] [(0, .string r31), (1, .string r33), (9, .pointer (some ⟨r21_b1, 0, none⟩)), (10, .pointer (some ⟨r26_b1, 0, none⟩)), (45, .bool (seqB r50.1 r55.1))] rfl (by kernel_rfl) ?_
    rcases if_some hF with ⟨h59, hF⟩ | ⟨h59, hF⟩
    · refine ow_slots (L' := [(0, .string r31), (1, .string r33), (9, .pointer (some ⟨r21_b1, 0, none⟩)), (10, .pointer (some ⟨r26_b1, 0, none⟩)), (45, .bool true)]) (by rw [h59]) ?_
      refine ow_vals 3 (j := 28) [0, 1, 9, 10, 45, 46, 47, 48] [(0, .string r31), (1, .string r33), (9, .pointer (some ⟨r21_b1, 0, none⟩)), (10, .pointer (some ⟨r26_b1, 0, none⟩)), (45, .bool true), (46, .pointer (some ⟨r21_b1, 0, none⟩)), (47, .string r31), (48, .string r33)] rfl (by kernel_rfl) ?_
      obtain ⟨r60, h61, hF⟩ := bind_some hF
      refine ow_pw rfl (pw_call (F := [pt r26_b1 #[.map (some r55_b1), .map (some r55_b3), .string r55.2.twins_.e0, .string r55.2.twins_.e1, .bool r55.2.found_, .bool r55.2.full_, .int .i64 r55.2.sums_] 54, mpo kStr kStr r55_b1 r55.2.table_, mpo kStr kStr r55_b3 r55.2.notes_] ++ F0) rfl rfl rfl rfl rfl rfl rfl (by kernel_rfl) (perm_of_pulls [0, 3, 3, 3] rfl) (c_pledge_Node _ r31 r33 r50.2 r50_b1 r50_b3 r21_b1 r60 h61) ?_)
      rintro _ _ ⟨r60_b1, r60_b3, rfl, rfl⟩
      refine nw_H (H' := [imm I, pt r21_b1 #[.map (some r60_b1), .map (some r60_b3), .string r60.2.twins_.e0, .string r60.2.twins_.e1, .bool r60.2.found_, .bool r60.2.full_, .int .i64 r60.2.sums_] 54, mpo kStr kStr r60_b1 r60.2.table_, mpo kStr kStr r60_b3 r60.2.notes_, pt r26_b1 #[.map (some r55_b1), .map (some r55_b3), .string r55.2.twins_.e0, .string r55.2.twins_.e1, .bool r55.2.found_, .bool r55.2.full_, .int .i64 r55.2.sums_] 54, mpo kStr kStr r55_b1 r55.2.table_, mpo kStr kStr r55_b3 r55.2.notes_] ++ F0) rfl (nw_ow ?_)
      refine ow_vals 2 (j := 31) [1, 9, 10, 45, 49, 50, 51] [(1, .string r33), (9, .pointer (some ⟨r21_b1, 0, none⟩)), (10, .pointer (some ⟨r26_b1, 0, none⟩)), (45, .bool true), (49, .string r60.1), (50, .pointer (some ⟨r26_b1, 0, none⟩)), (51, .string r31)] rfl (by kernel_rfl) ?_
      obtain ⟨h64, hF⟩ := chk_some hF
      refine ow_pw rfl (pw_quiet (v := .string ((ByteArray.mk #[1]) ++ r31)) rfl rfl rfl rfl (q_concat rfl rfl rfl h64) (nw_ow ?_))
      refine ow_vals 1 (j := 33) [9, 10, 45, 49, 50, 52, 53] [(9, .pointer (some ⟨r21_b1, 0, none⟩)), (10, .pointer (some ⟨r26_b1, 0, none⟩)), (45, .bool true), (49, .string r60.1), (50, .pointer (some ⟨r26_b1, 0, none⟩)), (52, .string ((ByteArray.mk #[1]) ++ r31)), (53, .string r33)] rfl (by kernel_rfl) ?_
      obtain ⟨h65, hF⟩ := chk_some hF
      refine ow_pw rfl (pw_quiet (v := .string (((ByteArray.mk #[1]) ++ r31) ++ r33)) rfl rfl rfl rfl (q_concat rfl rfl rfl h65) (nw_ow ?_))
      obtain ⟨r66, h67, hF⟩ := bind_some hF
      refine ow_pw rfl (pw_call (F := [pt r21_b1 #[.map (some r60_b1), .map (some r60_b3), .string r60.2.twins_.e0, .string r60.2.twins_.e1, .bool r60.2.found_, .bool r60.2.full_, .int .i64 r60.2.sums_] 54, mpo kStr kStr r60_b1 r60.2.table_, mpo kStr kStr r60_b3 r60.2.notes_] ++ F0) rfl rfl rfl rfl rfl rfl rfl (by kernel_rfl) (perm_of_pulls [0, 3, 3, 3] rfl) (c_mill_Mill_Sum _ (((ByteArray.mk #[1]) ++ r31) ++ r33) r55.2 r55_b1 r55_b3 r26_b1 r66 h67) ?_)
      rintro _ _ ⟨r66_b1, r66_b3, rfl, rfl⟩
      refine nw_H (H' := [imm I, pt r26_b1 #[.map (some r66_b1), .map (some r66_b3), .string r66.2.twins_.e0, .string r66.2.twins_.e1, .bool r66.2.found_, .bool r66.2.full_, .int .i64 r66.2.sums_] 54, mpo kStr kStr r66_b1 r66.2.table_, mpo kStr kStr r66_b3 r66.2.notes_, pt r21_b1 #[.map (some r60_b1), .map (some r60_b3), .string r60.2.twins_.e0, .string r60.2.twins_.e1, .bool r60.2.found_, .bool r60.2.full_, .int .i64 r60.2.sums_] 54, mpo kStr kStr r60_b1 r60.2.table_, mpo kStr kStr r60_b3 r60.2.notes_] ++ F0) rfl (nw_ow ?_)
      refine ow_vals 3 (j := 38) [9, 10, 58] [(9, .pointer (some ⟨r21_b1, 0, none⟩)), (10, .pointer (some ⟨r26_b1, 0, none⟩)), (58, .bool (seqB r60.1 r66.1))] rfl (by kernel_rfl) ?_
      rcases if_some hF with ⟨h70, hF⟩ | ⟨h70, hF⟩
      · refine ow_slots (L' := [(9, .pointer (some ⟨r21_b1, 0, none⟩)), (10, .pointer (some ⟨r26_b1, 0, none⟩)), (58, .bool true)]) (by rw [h70]) ?_
        refine ow_vals 1 (j := 39) [10, 58, 59] [(10, .pointer (some ⟨r26_b1, 0, none⟩)), (58, .bool true), (59, .pointer (some ⟨r21_b1, 0, none⟩))] rfl (by kernel_rfl) ?_
        obtain ⟨r71, h72, hF⟩ := bind_some hF
        refine ow_pw rfl (pw_call (F := [pt r26_b1 #[.map (some r66_b1), .map (some r66_b3), .string r66.2.twins_.e0, .string r66.2.twins_.e1, .bool r66.2.found_, .bool r66.2.full_, .int .i64 r66.2.sums_] 54, mpo kStr kStr r66_b1 r66.2.table_, mpo kStr kStr r66_b3 r66.2.notes_] ++ F0) rfl rfl rfl rfl rfl rfl rfl (by kernel_rfl) (perm_of_pulls [0, 3, 3, 3] rfl) (c_pledge_None _ r60.2 r60_b1 r60_b3 r21_b1 r71 h72) ?_)
        rintro _ _ ⟨r71_b1, r71_b3, rfl, rfl⟩
        refine nw_H (H' := [imm I, pt r21_b1 #[.map (some r71_b1), .map (some r71_b3), .string r71.2.twins_.e0, .string r71.2.twins_.e1, .bool r71.2.found_, .bool r71.2.full_, .int .i64 r71.2.sums_] 54, mpo kStr kStr r71_b1 r71.2.table_, mpo kStr kStr r71_b3 r71.2.notes_, pt r26_b1 #[.map (some r66_b1), .map (some r66_b3), .string r66.2.twins_.e0, .string r66.2.twins_.e1, .bool r66.2.found_, .bool r66.2.full_, .int .i64 r66.2.sums_] 54, mpo kStr kStr r66_b1 r66.2.table_, mpo kStr kStr r66_b3 r66.2.notes_] ++ F0) rfl (nw_ow ?_)
        refine ow_vals 1 (j := 41) [58, 60, 61] [(58, .bool true), (60, .string r71.1), (61, .pointer (some ⟨r26_b1, 0, none⟩))] rfl (by kernel_rfl) ?_
        obtain ⟨r75, h76, hF⟩ := bind_some hF
        refine ow_pw rfl (pw_call (F := [pt r21_b1 #[.map (some r71_b1), .map (some r71_b3), .string r71.2.twins_.e0, .string r71.2.twins_.e1, .bool r71.2.found_, .bool r71.2.full_, .int .i64 r71.2.sums_] 54, mpo kStr kStr r71_b1 r71.2.table_, mpo kStr kStr r71_b3 r71.2.notes_] ++ F0) rfl rfl rfl rfl rfl rfl rfl (by kernel_rfl) (perm_of_pulls [0, 3, 3, 3] rfl) (c_mill_Mill_Sum _ (ByteArray.mk #[]) r66.2 r66_b1 r66_b3 r26_b1 r75 h76) ?_)
        rintro _ _ ⟨r75_b1, r75_b3, rfl, rfl⟩
        refine nw_H (H' := [imm I, pt r26_b1 #[.map (some r75_b1), .map (some r75_b3), .string r75.2.twins_.e0, .string r75.2.twins_.e1, .bool r75.2.found_, .bool r75.2.full_, .int .i64 r75.2.sums_] 54, mpo kStr kStr r75_b1 r75.2.table_, mpo kStr kStr r75_b3 r75.2.notes_, pt r21_b1 #[.map (some r71_b1), .map (some r71_b3), .string r71.2.twins_.e0, .string r71.2.twins_.e1, .bool r71.2.found_, .bool r71.2.full_, .int .i64 r71.2.sums_] 54, mpo kStr kStr r71_b1 r71.2.table_, mpo kStr kStr r71_b3 r71.2.notes_] ++ F0) rfl (nw_ow ?_)
        refine ow_vals 3 (j := 45) [65] [(65, .bool (seqB r71.1 r75.1))] rfl (by kernel_rfl) ?_
        rcases if_some hF with ⟨h79, hF⟩ | ⟨h79, hF⟩
        · refine ow_slots (L' := [(65, .bool true)]) (by rw [h79]) ?_
          obtain ⟨r80, h81, hF⟩ := bind_some hF
          refine ow_pw rfl (pw_call (F := [pt r26_b1 #[.map (some r75_b1), .map (some r75_b3), .string r75.2.twins_.e0, .string r75.2.twins_.e1, .bool r75.2.found_, .bool r75.2.full_, .int .i64 r75.2.sums_] 54, mpo kStr kStr r75_b1 r75.2.table_, mpo kStr kStr r75_b3 r75.2.notes_, pt r21_b1 #[.map (some r71_b1), .map (some r71_b3), .string r71.2.twins_.e0, .string r71.2.twins_.e1, .bool r71.2.found_, .bool r71.2.full_, .int .i64 r71.2.sums_] 54, mpo kStr kStr r71_b1 r71.2.table_, mpo kStr kStr r71_b3 r71.2.notes_] ++ F0) rfl rfl rfl rfl rfl rfl rfl (by kernel_rfl) (perm_of_pulls [0] rfl) (c_law06_awake _ r80 h81) ?_)
          rintro _ _ ⟨rfl, rfl⟩
          refine nw_H (H' := [imm I, pt r26_b1 #[.map (some r75_b1), .map (some r75_b3), .string r75.2.twins_.e0, .string r75.2.twins_.e1, .bool r75.2.found_, .bool r75.2.full_, .int .i64 r75.2.sums_] 54, mpo kStr kStr r75_b1 r75.2.table_, mpo kStr kStr r75_b3 r75.2.notes_, pt r21_b1 #[.map (some r71_b1), .map (some r71_b3), .string r71.2.twins_.e0, .string r71.2.twins_.e1, .bool r71.2.found_, .bool r71.2.full_, .int .i64 r71.2.sums_] 54, mpo kStr kStr r71_b1 r71.2.table_, mpo kStr kStr r71_b3 r71.2.notes_] ++ F0) rfl (nw_ow ?_)
          refine ow_vals 2 (j := 48) [8] [(8, .bool r80)] rfl (by kernel_rfl) ?_
          refine ow_end rfl ?_
          refine ew_then ?_
          refine cw_ret ?_
          have hR := Option.some.inj hF
          subst hR
          exact fin1 (H1 := [imm I]) (fun w hs => sat_to [1, 1, 1, 1, 1, 1, 0] 6 rfl hs) rfl (rr_tmp rfl) ⟨rfl, rfl⟩
        · refine ow_slots (L' := [(65, .bool false)]) (by rw [h79]) ?_
          refine ow_vals 3 (j := 48) [8] [(8, .bool false)] rfl (by kernel_rfl) ?_
          refine ow_end rfl ?_
          refine ew_then ?_
          refine cw_ret ?_
          have hR := Option.some.inj hF
          subst hR
          exact fin1 (H1 := [imm I]) (fun w hs => sat_to [1, 1, 1, 1, 1, 1, 0] 6 rfl hs) rfl (rr_tmp rfl) ⟨rfl, rfl⟩
      · refine ow_slots (L' := [(9, .pointer (some ⟨r21_b1, 0, none⟩)), (10, .pointer (some ⟨r26_b1, 0, none⟩)), (58, .bool false)]) (by rw [h70]) ?_
        refine ow_vals 10 (j := 48) [8] [(8, .bool false)] rfl (by kernel_rfl) ?_
        refine ow_end rfl ?_
        refine ew_then ?_
        refine cw_ret ?_
        have hR := Option.some.inj hF
        subst hR
        exact fin1 (H1 := [imm I]) (fun w hs => sat_to [1, 1, 1, 1, 1, 1, 0] 6 rfl hs) rfl (rr_tmp rfl) ⟨rfl, rfl⟩
    · refine ow_slots (L' := [(0, .string r31), (1, .string r33), (9, .pointer (some ⟨r21_b1, 0, none⟩)), (10, .pointer (some ⟨r26_b1, 0, none⟩)), (45, .bool false)]) (by rw [h59]) ?_
      refine ow_vals 23 (j := 48) [8] [(8, .bool false)] rfl (by kernel_rfl) ?_
      refine ow_end rfl ?_
      refine ew_then ?_
      refine cw_ret ?_
      have hR := Option.some.inj hF
      subst hR
      exact fin1 (H1 := [imm I]) (fun w hs => sat_to [1, 1, 1, 1, 1, 1, 0] 6 rfl hs) rfl (rr_tmp rfl) ⟨rfl, rfl⟩
  · refine ow_slots (L' := [(0, .string r31), (1, .string r33), (3, .string r37), (9, .pointer (some ⟨r21_b1, 0, none⟩)), (10, .pointer (some ⟨r26_b1, 0, none⟩)), (35, .bool false)]) (by rw [h49]) ?_
    refine ow_vals 33 (j := 48) [8] [(8, .bool false)] rfl (by kernel_rfl) ?_
    refine ow_end rfl ?_
    refine ew_then ?_
    refine cw_ret ?_
    have hR := Option.some.inj hF
    subst hR
    exact fin1 (H1 := [imm I]) (fun w hs => sat_to [1, 1, 1, 1, 1, 1, 0] 6 rfl hs) rfl (rr_tmp rfl) ⟨rfl, rfl⟩

end Go.Proofs.Ytfjnafgigfapbaa
