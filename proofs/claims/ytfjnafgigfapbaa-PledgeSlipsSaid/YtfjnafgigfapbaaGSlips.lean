/- What the functions compute, and that the code computes it: printed by a program of this claim (wip/tools), for the group Slips. -/
import Derived.Test.YtfjnafgigfapbaaGPledge
namespace Go.Proofs.Ytfjnafgigfapbaa
set_option linter.all false
open Go Go.RowKit Go.Fw
set_option linter.unusedVariables false

def F.law06_PledgeSlips (x0 : ByteArray) (x1 : ByteArray) (x2 : ByteArray) (x3 : ByteArray) : Option Bool :=
  Option.bind (F.mill_New) (fun (r21 : mill_Mill) => Option.bind (F.law06_cut x0) (fun (r26 : ByteArray) => Option.bind (F.law06_cut x1) (fun (r28 : ByteArray) => Option.bind (F.law06_cut x2) (fun (r30 : ByteArray) => Option.bind (F.law06_cut x3) (fun (r32 : ByteArray) => Option.bind (F.pledge_Slip r26 r28 r30 r32 r21) (fun (r34 : api_Slip × mill_Mill) => Option.bind (F.pledge_Salt r26 r30 r34.2) (fun (r40 : ByteArray) => Option.bind (F.pledge_Key r26 r34.2) (fun (r42 : ByteArray) => Option.bind (F.pledge_Kept r42 r28 r34.1 r34.2) (fun (r44 : ByteArray × ByteArray × Bool × mill_Mill) => Option.bind (F.pledge_Of r28 r30 r40 r32 r44.2.2.2) (fun (r48 : ByteArray × mill_Mill) => Option.bind (F.pledge_Shut r42 r30 r40 r32 r48.2) (fun (r52 : ByteArray) => Option.bind (F.pledge_Kept r42 r28 (⟨r34.1.Name, r34.1.Pledge, r34.1.Cipher, true⟩ : api_Slip) r48.2) (fun (r58 : ByteArray × ByteArray × Bool × mill_Mill) => if ((seqB r34.1.Name r30) && ((seqB r34.1.Pledge r48.1) && ((seqB r34.1.Cipher r52) && ((r34.1.Erased == false) && (true))))) then (if r44.2.2.1 then (if seqB r44.1 r40 then (if seqB r44.2.1 r32 then (if !r58.2.2.1 then (Option.bind (F.law06_awake) (fun (r67 : Bool) => some (r67))) else (some (false))) else (some (false))) else (some (false))) else (some (false))) else (some (false))))))))))))))
set_option maxRecDepth 100000 in
set_option maxHeartbeats 4000000 in
theorem c_law06_PledgeSlips (I : Hl) (x0 : ByteArray) (x1 : ByteArray) (x2 : ByteArray) (x3 : ByteArray) (res : Bool) (hF : F.law06_PledgeSlips x0 x1 x2 x3 = some res) : Tr Try.prog 5 [.string x0, .string x1, .string x2, .string x3] [imm I] (fun r H' => r = .bool res ∧ H' = [imm I]) := by
  unfold F.law06_PledgeSlips at hF
  refine tr_of_cw (fn := Try.f5) Try.func5 rfl (Nat.le_of_ble_eq_true rfl) 100 rfl fun F0 w0 => ?_
  refine cw_keep [0, 1, 2, 3] (L' := [(0, .string x0), (1, .string x1), (2, .string x2), (3, .string x3)]) rfl ?_
  refine cw_state (S' := SAT w0 ([imm I] ++ F0)) (fun w hs => hs) ?_
  refine cw_seq ?_
  refine cw_region ?_
  refine ow_vals 1 (j := 1) [0, 1, 2, 3] [(0, .string x0), (1, .string x1), (2, .string x2), (3, .string x3)] rfl (by kernel_rfl) ?_
  refine ow_end rfl ?_
  refine ew_then ?_
  refine cw_seq ?_
  refine cw_region ?_
  obtain ⟨r21, h22, hF⟩ := bind_some hF
  refine ow_pw rfl (pw_call (F := [] ++ F0) rfl rfl rfl rfl rfl rfl rfl (by kernel_rfl) (perm_of_pulls [0] rfl) (c_mill_New _ r21 h22) ?_)
  rintro _ _ ⟨r21_b1, r21_b3, r21_b5, rfl, rfl⟩
  refine nw_H (H' := [imm I, pt r21_b1 #[.map (some r21_b3), .map (some r21_b5), .string r21.twins_.e0, .string r21.twins_.e1, .bool r21.found_, .bool r21.full_, .int .i64 r21.sums_] 54, mpo kStr kStr r21_b3 r21.table_, mpo kStr kStr r21_b5 r21.notes_] ++ F0) rfl (nw_ow ?_)
  refine ow_vals 1 (j := 2) [0, 1, 2, 3, 9] [(0, .string x0), (1, .string x1), (2, .string x2), (3, .string x3), (9, .pointer (some ⟨r21_b1, 0, none⟩))] rfl (by kernel_rfl) ?_
  refine ow_end rfl ?_
  refine ew_then ?_
  refine cw_seq ?_
  refine cw_region ?_
  refine ow_vals 1 (j := 1) [1, 2, 3, 9, 22] [(1, .string x1), (2, .string x2), (3, .string x3), (9, .pointer (some ⟨r21_b1, 0, none⟩)), (22, .string x0)] rfl (by kernel_rfl) ?_
  obtain ⟨r26, h27, hF⟩ := bind_some hF
  refine ow_pw rfl (pw_call (F := [pt r21_b1 #[.map (some r21_b3), .map (some r21_b5), .string r21.twins_.e0, .string r21.twins_.e1, .bool r21.found_, .bool r21.full_, .int .i64 r21.sums_] 54, mpo kStr kStr r21_b3 r21.table_, mpo kStr kStr r21_b5 r21.notes_] ++ F0) rfl rfl rfl rfl rfl rfl rfl (by kernel_rfl) (perm_of_pulls [0] rfl) (c_law06_cut _ x0 r26 h27) ?_)
  rintro _ _ ⟨rfl, rfl⟩
  refine nw_H (H' := [imm I, pt r21_b1 #[.map (some r21_b3), .map (some r21_b5), .string r21.twins_.e0, .string r21.twins_.e1, .bool r21.found_, .bool r21.full_, .int .i64 r21.sums_] 54, mpo kStr kStr r21_b3 r21.table_, mpo kStr kStr r21_b5 r21.notes_] ++ F0) rfl (nw_ow ?_)
  refine ow_vals 1 (j := 3) [0, 1, 2, 3, 9] [(0, .string r26), (1, .string x1), (2, .string x2), (3, .string x3), (9, .pointer (some ⟨r21_b1, 0, none⟩))] rfl (by kernel_rfl) ?_
  refine ow_end rfl ?_
  refine ew_then ?_
  refine cw_seq ?_
  refine cw_region ?_
  refine ow_vals 1 (j := 1) [0, 2, 3, 9, 24] [(0, .string r26), (2, .string x2), (3, .string x3), (9, .pointer (some ⟨r21_b1, 0, none⟩)), (24, .string x1)] rfl (by kernel_rfl) ?_
  obtain ⟨r28, h29, hF⟩ := bind_some hF
  refine ow_pw rfl (pw_call (F := [pt r21_b1 #[.map (some r21_b3), .map (some r21_b5), .string r21.twins_.e0, .string r21.twins_.e1, .bool r21.found_, .bool r21.full_, .int .i64 r21.sums_] 54, mpo kStr kStr r21_b3 r21.table_, mpo kStr kStr r21_b5 r21.notes_] ++ F0) rfl rfl rfl rfl rfl rfl rfl (by kernel_rfl) (perm_of_pulls [0] rfl) (c_law06_cut _ x1 r28 h29) ?_)
  rintro _ _ ⟨rfl, rfl⟩
  refine nw_H (H' := [imm I, pt r21_b1 #[.map (some r21_b3), .map (some r21_b5), .string r21.twins_.e0, .string r21.twins_.e1, .bool r21.found_, .bool r21.full_, .int .i64 r21.sums_] 54, mpo kStr kStr r21_b3 r21.table_, mpo kStr kStr r21_b5 r21.notes_] ++ F0) rfl (nw_ow ?_)
  refine ow_vals 1 (j := 3) [0, 1, 2, 3, 9] [(0, .string r26), (1, .string r28), (2, .string x2), (3, .string x3), (9, .pointer (some ⟨r21_b1, 0, none⟩))] rfl (by kernel_rfl) ?_
  refine ow_end rfl ?_
  refine ew_then ?_
  refine cw_seq ?_
  refine cw_region ?_
  refine ow_vals 1 (j := 1) [0, 1, 3, 9, 26] [(0, .string r26), (1, .string r28), (3, .string x3), (9, .pointer (some ⟨r21_b1, 0, none⟩)), (26, .string x2)] rfl (by kernel_rfl) ?_
  obtain ⟨r30, h31, hF⟩ := bind_some hF
  refine ow_pw rfl (pw_call (F := [pt r21_b1 #[.map (some r21_b3), .map (some r21_b5), .string r21.twins_.e0, .string r21.twins_.e1, .bool r21.found_, .bool r21.full_, .int .i64 r21.sums_] 54, mpo kStr kStr r21_b3 r21.table_, mpo kStr kStr r21_b5 r21.notes_] ++ F0) rfl rfl rfl rfl rfl rfl rfl (by kernel_rfl) (perm_of_pulls [0] rfl) (c_law06_cut _ x2 r30 h31) ?_)
  rintro _ _ ⟨rfl, rfl⟩
  refine nw_H (H' := [imm I, pt r21_b1 #[.map (some r21_b3), .map (some r21_b5), .string r21.twins_.e0, .string r21.twins_.e1, .bool r21.found_, .bool r21.full_, .int .i64 r21.sums_] 54, mpo kStr kStr r21_b3 r21.table_, mpo kStr kStr r21_b5 r21.notes_] ++ F0) rfl (nw_ow ?_)
  refine ow_vals 1 (j := 3) [0, 1, 2, 3, 9] [(0, .string r26), (1, .string r28), (2, .string r30), (3, .string x3), (9, .pointer (some ⟨r21_b1, 0, none⟩))] rfl (by kernel_rfl) ?_
  refine ow_end rfl ?_
  refine ew_then ?_
  refine cw_seq ?_
  refine cw_region ?_
  refine ow_vals 1 (j := 1) [0, 1, 2, 9, 28] [(0, .string r26), (1, .string r28), (2, .string r30), (9, .pointer (some ⟨r21_b1, 0, none⟩)), (28, .string x3)] rfl (by kernel_rfl) ?_
  obtain ⟨r32, h33, hF⟩ := bind_some hF
  refine ow_pw rfl (pw_call (F := [pt r21_b1 #[.map (some r21_b3), .map (some r21_b5), .string r21.twins_.e0, .string r21.twins_.e1, .bool r21.found_, .bool r21.full_, .int .i64 r21.sums_] 54, mpo kStr kStr r21_b3 r21.table_, mpo kStr kStr r21_b5 r21.notes_] ++ F0) rfl rfl rfl rfl rfl rfl rfl (by kernel_rfl) (perm_of_pulls [0] rfl) (c_law06_cut _ x3 r32 h33) ?_)
  rintro _ _ ⟨rfl, rfl⟩
  refine nw_H (H' := [imm I, pt r21_b1 #[.map (some r21_b3), .map (some r21_b5), .string r21.twins_.e0, .string r21.twins_.e1, .bool r21.found_, .bool r21.full_, .int .i64 r21.sums_] 54, mpo kStr kStr r21_b3 r21.table_, mpo kStr kStr r21_b5 r21.notes_] ++ F0) rfl (nw_ow ?_)
  refine ow_vals 1 (j := 3) [0, 1, 2, 3, 9] [(0, .string r26), (1, .string r28), (2, .string r30), (3, .string r32), (9, .pointer (some ⟨r21_b1, 0, none⟩))] rfl (by kernel_rfl) ?_
  refine ow_end rfl ?_
  refine ew_then ?_
  refine cw_seq ?_
  refine cw_region ?_
  refine ow_vals 5 (j := 5) [0, 1, 2, 3, 9, 30, 31, 32, 33, 34] [(0, .string r26), (1, .string r28), (2, .string r30), (3, .string r32), (9, .pointer (some ⟨r21_b1, 0, none⟩)), (30, .pointer (some ⟨r21_b1, 0, none⟩)), (31, .string r26), (32, .string r28), (33, .string r30), (34, .string r32)] rfl (by kernel_rfl) ?_
  obtain ⟨r34, h35, hF⟩ := bind_some hF
  refine ow_pw rfl (pw_call (F := [] ++ F0) rfl rfl rfl rfl rfl rfl rfl (by kernel_rfl) (perm_of_pulls [0, 0, 0, 0] rfl) (c_pledge_Slip _ r26 r28 r30 r32 r21 r21_b3 r21_b5 r21_b1 r34 h35) ?_)
  rintro _ _ ⟨r34_b1, r34_b3, rfl, rfl⟩
  refine nw_H (H' := [imm I, pt r21_b1 #[.map (some r34_b1), .map (some r34_b3), .string r34.2.twins_.e0, .string r34.2.twins_.e1, .bool r34.2.found_, .bool r34.2.full_, .int .i64 r34.2.sums_] 54, mpo kStr kStr r34_b1 r34.2.table_, mpo kStr kStr r34_b3 r34.2.notes_] ++ F0) rfl (nw_ow ?_)
  refine ow_pw rfl (pw_alloc (cs := #[.string (ByteArray.mk #[]), .string (ByteArray.mk #[]), .string (ByteArray.mk #[]), .bool false]) rfl rfl rfl rfl rfl (by kernel_rfl) fun b38 => nw_ow ?_)
  refine ow_pw rfl (pw_store 0 #[.string r34.1.Name, .string r34.1.Pledge, .string r34.1.Cipher, .bool r34.1.Erased] rfl rfl rfl rfl rfl rfl rfl (by kernel_rfl) (nw_H (H' := [pt b38 #[.string r34.1.Name, .string r34.1.Pledge, .string r34.1.Cipher, .bool r34.1.Erased] 36, imm I, pt r21_b1 #[.map (some r34_b1), .map (some r34_b3), .string r34.2.twins_.e0, .string r34.2.twins_.e1, .bool r34.2.found_, .bool r34.2.full_, .int .i64 r34.2.sums_] 54, mpo kStr kStr r34_b1 r34.2.table_, mpo kStr kStr r34_b3 r34.2.notes_] ++ F0) rfl (nw_ow ?_)))
  refine ow_end rfl ?_
  refine ew_then ?_
  refine cw_seq ?_
  refine cw_region ?_
  refine ow_vals 3 (j := 3) [0, 1, 2, 3, 9, 10, 36, 37, 38] [(0, .string r26), (1, .string r28), (2, .string r30), (3, .string r32), (9, .pointer (some ⟨r21_b1, 0, none⟩)), (10, .pointer (some ⟨b38, 0, none⟩)), (36, .pointer (some ⟨r21_b1, 0, none⟩)), (37, .string r26), (38, .string r30)] rfl (by kernel_rfl) ?_
  obtain ⟨r40, h41, hF⟩ := bind_some hF
  refine ow_pw rfl (pw_call (F := [pt b38 #[.string r34.1.Name, .string r34.1.Pledge, .string r34.1.Cipher, .bool r34.1.Erased] 36] ++ F0) rfl rfl rfl rfl rfl rfl rfl (by kernel_rfl) (perm_of_pulls [1, 1, 1, 1] rfl) (c_pledge_Salt _ r26 r30 r34.2 r34_b1 r34_b3 r21_b1 r40 h41) ?_)
  rintro _ _ ⟨rfl, rfl⟩
  refine nw_H (H' := [imm I, pt r21_b1 #[.map (some r34_b1), .map (some r34_b3), .string r34.2.twins_.e0, .string r34.2.twins_.e1, .bool r34.2.found_, .bool r34.2.full_, .int .i64 r34.2.sums_] 54, mpo kStr kStr r34_b1 r34.2.table_, mpo kStr kStr r34_b3 r34.2.notes_, pt b38 #[.string r34.1.Name, .string r34.1.Pledge, .string r34.1.Cipher, .bool r34.1.Erased] 36] ++ F0) rfl (nw_ow ?_)
  refine ow_vals 1 (j := 5) [0, 1, 2, 3, 9, 10, 11] [(0, .string r26), (1, .string r28), (2, .string r30), (3, .string r32), (9, .pointer (some ⟨r21_b1, 0, none⟩)), (10, .pointer (some ⟨b38, 0, none⟩)), (11, .string r40)] rfl (by kernel_rfl) ?_
  refine ow_end rfl ?_
  refine ew_then ?_
  refine cw_seq ?_
  refine cw_region ?_
  refine ow_vals 2 (j := 2) [1, 2, 3, 9, 10, 11, 40, 41] [(1, .string r28), (2, .string r30), (3, .string r32), (9, .pointer (some ⟨r21_b1, 0, none⟩)), (10, .pointer (some ⟨b38, 0, none⟩)), (11, .string r40), (40, .pointer (some ⟨r21_b1, 0, none⟩)), (41, .string r26)] rfl (by kernel_rfl) ?_
  obtain ⟨r42, h43, hF⟩ := bind_some hF
  refine ow_pw rfl (pw_call (F := [pt b38 #[.string r34.1.Name, .string r34.1.Pledge, .string r34.1.Cipher, .bool r34.1.Erased] 36] ++ F0) rfl rfl rfl rfl rfl rfl rfl (by kernel_rfl) (perm_of_pulls [0, 0, 0, 0] rfl) (c_pledge_Key _ r26 r34.2 r34_b1 r34_b3 r21_b1 r42 h43) ?_)
  rintro _ _ ⟨rfl, rfl⟩
  refine nw_H (H' := [imm I, pt r21_b1 #[.map (some r34_b1), .map (some r34_b3), .string r34.2.twins_.e0, .string r34.2.twins_.e1, .bool r34.2.found_, .bool r34.2.full_, .int .i64 r34.2.sums_] 54, mpo kStr kStr r34_b1 r34.2.table_, mpo kStr kStr r34_b3 r34.2.notes_, pt b38 #[.string r34.1.Name, .string r34.1.Pledge, .string r34.1.Cipher, .bool r34.1.Erased] 36] ++ F0) rfl (nw_ow ?_)
  refine ow_vals 1 (j := 4) [1, 2, 3, 9, 10, 11, 12] [(1, .string r28), (2, .string r30), (3, .string r32), (9, .pointer (some ⟨r21_b1, 0, none⟩)), (10, .pointer (some ⟨b38, 0, none⟩)), (11, .string r40), (12, .string r42)] rfl (by kernel_rfl) ?_
  refine ow_end rfl ?_
  refine ew_then ?_
  refine cw_seq ?_
  refine cw_region ?_
  refine ow_vals 3 (j := 3) [1, 2, 3, 9, 10, 11, 12, 44, 45, 46] [(1, .string r28), (2, .string r30), (3, .string r32), (9, .pointer (some ⟨r21_b1, 0, none⟩)), (10, .pointer (some ⟨b38, 0, none⟩)), (11, .string r40), (12, .string r42), (44, .pointer (some ⟨r21_b1, 0, none⟩)), (45, .string r42), (46, .string r28)] rfl (by kernel_rfl) ?_
  refine ow_pw rfl (pw_quiet (v := .agg #[.string r34.1.Name, .string r34.1.Pledge, .string r34.1.Cipher, .bool r34.1.Erased]) rfl rfl rfl rfl (q_load 4 rfl rfl rfl (by kernel_rfl)) (nw_ow ?_))
  obtain ⟨r44, h45, hF⟩ := bind_some hF
  refine ow_pw rfl (pw_call (F := [pt b38 #[.string r34.1.Name, .string r34.1.Pledge, .string r34.1.Cipher, .bool r34.1.Erased] 36] ++ F0) rfl rfl rfl rfl rfl rfl rfl (by kernel_rfl) (perm_of_pulls [0, 0, 0, 0] rfl) (c_pledge_Kept _ r42 r28 r34.1 r34.2 r34_b1 r34_b3 r21_b1 r44 h45) ?_)
  rintro _ _ ⟨r44_b1, r44_b3, rfl, rfl⟩
  refine nw_H (H' := [imm I, pt r21_b1 #[.map (some r44_b1), .map (some r44_b3), .string r44.2.2.2.twins_.e0, .string r44.2.2.2.twins_.e1, .bool r44.2.2.2.found_, .bool r44.2.2.2.full_, .int .i64 r44.2.2.2.sums_] 54, mpo kStr kStr r44_b1 r44.2.2.2.table_, mpo kStr kStr r44_b3 r44.2.2.2.notes_, pt b38 #[.string r34.1.Name, .string r34.1.Pledge, .string r34.1.Cipher, .bool r34.1.Erased] 36] ++ F0) rfl (nw_ow ?_)
  refine ow_vals 7 (j := 12) [1, 2, 3, 9, 10, 11, 12, 13, 14, 15] [(1, .string r28), (2, .string r30), (3, .string r32), (9, .pointer (some ⟨r21_b1, 0, none⟩)), (10, .pointer (some ⟨b38, 0, none⟩)), (11, .string r40), (12, .string r42), (13, .string r44.1), (14, .string r44.2.1), (15, .bool r44.2.2.1)] rfl (by kernel_rfl) ?_
  refine ow_end rfl ?_
  refine ew_then ?_
  refine cw_seq ?_
  refine cw_region ?_
  refine ow_vals 6 (j := 6) [1, 2, 3, 9, 10, 11, 12, 13, 14, 15, 52, 53, 54, 55, 56, 57] [(1, .string r28), (2, .string r30), (3, .string r32), (9, .pointer (some ⟨r21_b1, 0, none⟩)), (10, .pointer (some ⟨b38, 0, none⟩)), (11, .string r40), (12, .string r42), (13, .string r44.1), (14, .string r44.2.1), (15, .bool r44.2.2.1), (52, .string r30), (53, .pointer (some ⟨r21_b1, 0, none⟩)), (54, .string r28), (55, .string r30), (56, .string r40), (57, .string r32)] rfl (by kernel_rfl) ?_
  obtain ⟨r48, h49, hF⟩ := bind_some hF
  refine ow_pw rfl (pw_call (F := [pt b38 #[.string r34.1.Name, .string r34.1.Pledge, .string r34.1.Cipher, .bool r34.1.Erased] 36] ++ F0) rfl rfl rfl rfl rfl rfl rfl (by kernel_rfl) (perm_of_pulls [0, 0, 0, 0] rfl) (c_pledge_Of _ r28 r30 r40 r32 r44.2.2.2 r44_b1 r44_b3 r21_b1 r48 h49) ?_)
  rintro _ _ ⟨r48_b1, r48_b3, rfl, rfl⟩
  refine nw_H (H' := [imm I, pt r21_b1 #[.map (some r48_b1), .map (some r48_b3), .string r48.2.twins_.e0, .string r48.2.twins_.e1, .bool r48.2.found_, .bool r48.2.full_, .int .i64 r48.2.sums_] 54, mpo kStr kStr r48_b1 r48.2.table_, mpo kStr kStr r48_b3 r48.2.notes_, pt b38 #[.string r34.1.Name, .string r34.1.Pledge, .string r34.1.Cipher, .bool r34.1.Erased] 36] ++ F0) rfl (nw_ow ?_)
  refine ow_vals 5 (j := 12) [1, 3, 9, 10, 11, 12, 13, 14, 15, 52, 58, 59, 60, 61, 62, 63] [(1, .string r28), (3, .string r32), (9, .pointer (some ⟨r21_b1, 0, none⟩)), (10, .pointer (some ⟨b38, 0, none⟩)), (11, .string r40), (12, .string r42), (13, .string r44.1), (14, .string r44.2.1), (15, .bool r44.2.2.1), (52, .string r30), (58, .string r48.1), (59, .pointer (some ⟨r21_b1, 0, none⟩)), (60, .string r42), (61, .string r30), (62, .string r40), (63, .string r32)] rfl (by kernel_rfl) ?_
  obtain ⟨r52, h53, hF⟩ := bind_some hF
  refine ow_pw rfl (pw_call (F := [pt b38 #[.string r34.1.Name, .string r34.1.Pledge, .string r34.1.Cipher, .bool r34.1.Erased] 36] ++ F0) rfl rfl rfl rfl rfl rfl rfl (by kernel_rfl) (perm_of_pulls [0, 0, 0, 0] rfl) (c_pledge_Shut _ r42 r30 r40 r32 r48.2 r48_b1 r48_b3 r21_b1 r52 h53) ?_)
  rintro _ _ ⟨rfl, rfl⟩
  refine nw_H (H' := [imm I, pt r21_b1 #[.map (some r48_b1), .map (some r48_b3), .string r48.2.twins_.e0, .string r48.2.twins_.e1, .bool r48.2.found_, .bool r48.2.full_, .int .i64 r48.2.sums_] 54, mpo kStr kStr r48_b1 r48.2.table_, mpo kStr kStr r48_b3 r48.2.notes_, pt b38 #[.string r34.1.Name, .string r34.1.Pledge, .string r34.1.Cipher, .bool r34.1.Erased] 36] ++ F0) rfl (nw_ow ?_)
  refine ow_vals 1 (j := 14) [1, 3, 9, 10, 11, 12, 13, 14, 15, 65] [(1, .string r28), (3, .string r32), (9, .pointer (some ⟨r21_b1, 0, none⟩)), (10, .pointer (some ⟨b38, 0, none⟩)), (11, .string r40), (12, .string r42), (13, .string r44.1), (14, .string r44.2.1), (15, .bool r44.2.2.1), (65, .agg #[.string r30, .string r48.1, .string r52, .bool false])] rfl (by kernel_rfl) ?_
  refine ow_pw rfl (pw_alloc (cs := #[.string (ByteArray.mk #[]), .string (ByteArray.mk #[]), .string (ByteArray.mk #[]), .bool false]) rfl rfl rfl rfl rfl (by kernel_rfl) fun b54 => nw_ow ?_)
  refine ow_pw rfl (pw_store 0 #[.string r30, .string r48.1, .string r52, .bool false] rfl rfl rfl rfl rfl rfl rfl (by kernel_rfl) (nw_H (H' := [pt b54 #[.string r30, .string r48.1, .string r52, .bool false] 36, imm I, pt r21_b1 #[.map (some r48_b1), .map (some r48_b3), .string r48.2.twins_.e0, .string r48.2.twins_.e1, .bool r48.2.found_, .bool r48.2.full_, .int .i64 r48.2.sums_] 54, mpo kStr kStr r48_b1 r48.2.table_, mpo kStr kStr r48_b3 r48.2.notes_, pt b38 #[.string r34.1.Name, .string r34.1.Pledge, .string r34.1.Cipher, .bool r34.1.Erased] 36] ++ F0) rfl (nw_ow ?_)))
  refine ow_end rfl ?_
  refine ew_then ?_
  refine cw_seq ?_
  refine cw_region ?_
  refine ow_pw rfl (pw_quiet (v := .agg #[.string r34.1.Name, .string r34.1.Pledge, .string r34.1.Cipher, .bool r34.1.Erased]) rfl rfl rfl rfl (q_load 5 rfl rfl rfl (by kernel_rfl)) (nw_ow ?_))
  refine ow_pw rfl (pw_alloc (cs := #[.string (ByteArray.mk #[]), .string (ByteArray.mk #[]), .string (ByteArray.mk #[]), .bool false]) rfl rfl rfl rfl rfl (by kernel_rfl) fun b56 => nw_ow ?_)
  refine ow_pw rfl (pw_store 0 #[.string r34.1.Name, .string r34.1.Pledge, .string r34.1.Cipher, .bool r34.1.Erased] rfl rfl rfl rfl rfl rfl rfl (by kernel_rfl) (nw_H (H' := [pt b56 #[.string r34.1.Name, .string r34.1.Pledge, .string r34.1.Cipher, .bool r34.1.Erased] 36, pt b54 #[.string r30, .string r48.1, .string r52, .bool false] 36, imm I, pt r21_b1 #[.map (some r48_b1), .map (some r48_b3), .string r48.2.twins_.e0, .string r48.2.twins_.e1, .bool r48.2.found_, .bool r48.2.full_, .int .i64 r48.2.sums_] 54, mpo kStr kStr r48_b1 r48.2.table_, mpo kStr kStr r48_b3 r48.2.notes_, pt b38 #[.string r34.1.Name, .string r34.1.Pledge, .string r34.1.Cipher, .bool r34.1.Erased] 36] ++ F0) rfl (nw_ow ?_)))
  refine ow_end rfl ?_
  refine ew_then ?_
  refine cw_seq ?_
  refine cw_region ?_
  refine ow_vals 1 (j := 1) [1, 3, 9, 10, 11, 12, 13, 14, 15, 16, 17, 67] [(1, .string r28), (3, .string r32), (9, .pointer (some ⟨r21_b1, 0, none⟩)), (10, .pointer (some ⟨b38, 0, none⟩)), (11, .string r40), (12, .string r42), (13, .string r44.1), (14, .string r44.2.1), (15, .bool r44.2.2.1), (16, .pointer (some ⟨b54, 0, none⟩)), (17, .pointer (some ⟨b56, 0, none⟩)), (67, .pointer (some ⟨b56, 3, none⟩))] rfl (by kernel_rfl) ?_
  refine ow_pw rfl (pw_store 0 #[.string r34.1.Name, .string r34.1.Pledge, .string r34.1.Cipher, .bool true] rfl rfl rfl rfl rfl rfl rfl (by kernel_rfl) (nw_H (H' := [pt b56 #[.string r34.1.Name, .string r34.1.Pledge, .string r34.1.Cipher, .bool true] 36, pt b54 #[.string r30, .string r48.1, .string r52, .bool false] 36, imm I, pt r21_b1 #[.map (some r48_b1), .map (some r48_b3), .string r48.2.twins_.e0, .string r48.2.twins_.e1, .bool r48.2.found_, .bool r48.2.full_, .int .i64 r48.2.sums_] 54, mpo kStr kStr r48_b1 r48.2.table_, mpo kStr kStr r48_b3 r48.2.notes_, pt b38 #[.string r34.1.Name, .string r34.1.Pledge, .string r34.1.Cipher, .bool r34.1.Erased] 36] ++ F0) rfl (nw_ow ?_)))
  refine ow_end rfl ?_
  refine ew_then ?_
  refine cw_seq ?_
  refine cw_region ?_
  refine ow_vals 3 (j := 3) [3, 10, 11, 13, 14, 15, 16, 17, 69, 70, 71] [(3, .string r32), (10, .pointer (some ⟨b38, 0, none⟩)), (11, .string r40), (13, .string r44.1), (14, .string r44.2.1), (15, .bool r44.2.2.1), (16, .pointer (some ⟨b54, 0, none⟩)), (17, .pointer (some ⟨b56, 0, none⟩)), (69, .pointer (some ⟨r21_b1, 0, none⟩)), (70, .string r42), (71, .string r28)] rfl (by kernel_rfl) ?_
  refine ow_pw rfl (pw_quiet (v := .agg #[.string r34.1.Name, .string r34.1.Pledge, .string r34.1.Cipher, .bool true]) rfl rfl rfl rfl (q_load 0 rfl rfl rfl (by kernel_rfl)) (nw_ow ?_))
  obtain ⟨r58, h59, hF⟩ := bind_some hF
  refine ow_pw rfl (pw_call (F := [pt b56 #[.string r34.1.Name, .string r34.1.Pledge, .string r34.1.Cipher, .bool true] 36, pt b54 #[.string r30, .string r48.1, .string r52, .bool false] 36, pt b38 #[.string r34.1.Name, .string r34.1.Pledge, .string r34.1.Cipher, .bool r34.1.Erased] 36] ++ F0) rfl rfl rfl rfl rfl rfl rfl (by kernel_rfl) (perm_of_pulls [2, 2, 2, 2] rfl) (c_pledge_Kept _ r42 r28 (⟨r34.1.Name, r34.1.Pledge, r34.1.Cipher, true⟩ : api_Slip) r48.2 r48_b1 r48_b3 r21_b1 r58 h59) ?_)
  rintro _ _ ⟨r58_b1, r58_b3, rfl, rfl⟩
  refine nw_H (H' := [imm I, pt r21_b1 #[.map (some r58_b1), .map (some r58_b3), .string r58.2.2.2.twins_.e0, .string r58.2.2.2.twins_.e1, .bool r58.2.2.2.found_, .bool r58.2.2.2.full_, .int .i64 r58.2.2.2.sums_] 54, mpo kStr kStr r58_b1 r58.2.2.2.table_, mpo kStr kStr r58_b3 r58.2.2.2.notes_, pt b56 #[.string r34.1.Name, .string r34.1.Pledge, .string r34.1.Cipher, .bool true] 36, pt b54 #[.string r30, .string r48.1, .string r52, .bool false] 36, pt b38 #[.string r34.1.Name, .string r34.1.Pledge, .string r34.1.Cipher, .bool r34.1.Erased] 36] ++ F0) rfl (nw_ow ?_)
  refine ow_vals 7 (j := 12) [3, 10, 11, 13, 14, 15, 16, 20] [(3, .string r32), (10, .pointer (some ⟨b38, 0, none⟩)), (11, .string r40), (13, .string r44.1), (14, .string r44.2.1), (15, .bool r44.2.2.1), (16, .pointer (some ⟨b54, 0, none⟩)), (20, .bool r58.2.2.1)] rfl (by kernel_rfl) ?_
  refine ow_end rfl ?_
  refine ew_then ?_
  refine cw_seq ?_
  refine cw_region ?_
  refine ow_pw rfl (pw_quiet (v := .agg #[.string r34.1.Name, .string r34.1.Pledge, .string r34.1.Cipher, .bool r34.1.Erased]) rfl rfl rfl rfl (q_load 6 rfl rfl rfl (by kernel_rfl)) (nw_ow ?_))
  refine ow_pw rfl (pw_quiet (v := .agg #[.string r30, .string r48.1, .string r52, .bool false]) rfl rfl rfl rfl (q_load 5 rfl rfl rfl (by kernel_rfl)) (nw_ow ?_))
  refine ow_pw rfl (pw_quiet (v := .bool ((seqB r34.1.Name r30) && ((seqB r34.1.Pledge r48.1) && ((seqB r34.1.Cipher r52) && ((r34.1.Erased == false) && (true)))))) rfl rfl rfl rfl (q_eql_struct (b := ((seqB r34.1.Name r30) && ((seqB r34.1.Pledge r48.1) && ((seqB r34.1.Cipher r52) && ((r34.1.Erased == false) && (true)))))) rfl rfl rfl (by kernel_rfl) (by kernel_rfl) (by kernel_rfl) (by kernel_rfl)) (nw_ow ?_))
  refine ow_vals 1 (j := 4) [3, 11, 13, 14, 15, 20, 80] [(3, .string r32), (11, .string r40), (13, .string r44.1), (14, .string r44.2.1), (15, .bool r44.2.2.1), (20, .bool r58.2.2.1), (80, .bool ((seqB r34.1.Name r30) && ((seqB r34.1.Pledge r48.1) && ((seqB r34.1.Cipher r52) && ((r34.1.Erased == false) && (true))))))] rfl (by kernel_rfl) ?_
  rcases if_some hF with ⟨h62, hF⟩ | ⟨h62, hF⟩
  · refine ow_slots (L' := [(3, .string r32), (11, .string r40), (13, .string r44.1), (14, .string r44.2.1), (15, .bool r44.2.2.1), (20, .bool r58.2.2.1), (80, .bool true)]) (by rw [h62]) ?_
    refine ow_vals 3 (j := 7) [3, 11, 13, 14, 20, 83] [(3, .string r32), (11, .string r40), (13, .string r44.1), (14, .string r44.2.1), (20, .bool r58.2.2.1), (83, .bool r44.2.2.1)] rfl (by kernel_rfl) ?_
    rcases if_some hF with ⟨h63, hF⟩ | ⟨h63, hF⟩
    · refine ow_slots (L' := [(3, .string r32), (11, .string r40), (13, .string r44.1), (14, .string r44.2.1), (20, .bool r58.2.2.1), (83, .bool true)]) (by rw [h63]) ?_
      refine ow_vals 5 (j := 12) [3, 14, 20, 88] [(3, .string r32), (14, .string r44.2.1), (20, .bool r58.2.2.1), (88, .bool (seqB r44.1 r40))] rfl (by kernel_rfl) ?_
      rcases if_some hF with ⟨h64, hF⟩ | ⟨h64, hF⟩
      · refine ow_slots (L' := [(3, .string r32), (14, .string r44.2.1), (20, .bool r58.2.2.1), (88, .bool true)]) (by rw [h64]) ?_
        refine ow_vals 5 (j := 17) [20, 93] [(20, .bool r58.2.2.1), (93, .bool (seqB r44.2.1 r32))] rfl (by kernel_rfl) ?_
        rcases if_some hF with ⟨h65, hF⟩ | ⟨h65, hF⟩
        · refine ow_slots (L' := [(20, .bool r58.2.2.1), (93, .bool true)]) (by rw [h65]) ?_
          refine ow_vals 4 (j := 21) [97] [(97, .bool (!r58.2.2.1))] rfl (by kernel_rfl) ?_
          rcases if_some hF with ⟨h66, hF⟩ | ⟨h66, hF⟩
          · refine ow_slots (L' := [(97, .bool true)]) (by rw [h66]) ?_
            obtain ⟨r67, h68, hF⟩ := bind_some hF
            refine ow_pw rfl (pw_call (F := [pt r21_b1 #[.map (some r58_b1), .map (some r58_b3), .string r58.2.2.2.twins_.e0, .string r58.2.2.2.twins_.e1, .bool r58.2.2.2.found_, .bool r58.2.2.2.full_, .int .i64 r58.2.2.2.sums_] 54, mpo kStr kStr r58_b1 r58.2.2.2.table_, mpo kStr kStr r58_b3 r58.2.2.2.notes_, pt b56 #[.string r34.1.Name, .string r34.1.Pledge, .string r34.1.Cipher, .bool true] 36, pt b54 #[.string r30, .string r48.1, .string r52, .bool false] 36, pt b38 #[.string r34.1.Name, .string r34.1.Pledge, .string r34.1.Cipher, .bool r34.1.Erased] 36] ++ F0) rfl rfl rfl rfl rfl rfl rfl (by kernel_rfl) (perm_of_pulls [0] rfl) (c_law06_awake _ r67 h68) ?_)
            rintro _ _ ⟨rfl, rfl⟩
            refine nw_H (H' := [imm I, pt r21_b1 #[.map (some r58_b1), .map (some r58_b3), .string r58.2.2.2.twins_.e0, .string r58.2.2.2.twins_.e1, .bool r58.2.2.2.found_, .bool r58.2.2.2.full_, .int .i64 r58.2.2.2.sums_] 54, mpo kStr kStr r58_b1 r58.2.2.2.table_, mpo kStr kStr r58_b3 r58.2.2.2.notes_, pt b56 #[.string r34.1.Name, .string r34.1.Pledge, .string r34.1.Cipher, .bool true] 36, pt b54 #[.string r30, .string r48.1, .string r52, .bool false] 36, pt b38 #[.string r34.1.Name, .string r34.1.Pledge, .string r34.1.Cipher, .bool r34.1.Erased] 36] ++ F0) rfl (nw_ow ?_)
            refine ow_vals 2 (j := 24) [8] [(8, .bool r67)] rfl (by kernel_rfl) ?_
            refine ow_end rfl ?_
            refine ew_then ?_
            refine cw_ret ?_
            have hR := Option.some.inj hF
            subst hR
            exact fin1 (H1 := [imm I]) (fun w hs => sat_to [1, 1, 1, 1, 1, 1, 0] 6 rfl hs) rfl (rr_tmp rfl) ⟨rfl, rfl⟩
          · refine ow_slots (L' := [(97, .bool false)]) (by rw [h66]) ?_
            refine ow_vals 3 (j := 24) [8] [(8, .bool false)] rfl (by kernel_rfl) ?_
            refine ow_end rfl ?_
            refine ew_then ?_
            refine cw_ret ?_
            have hR := Option.some.inj hF
            subst hR
            exact fin1 (H1 := [imm I]) (fun w hs => sat_to [1, 1, 1, 1, 1, 1, 0] 6 rfl hs) rfl (rr_tmp rfl) ⟨rfl, rfl⟩
        · refine ow_slots (L' := [(20, .bool r58.2.2.1), (93, .bool false)]) (by rw [h65]) ?_
          refine ow_vals 7 (j := 24) [8] [(8, .bool false)] rfl (by kernel_rfl) ?_
          refine ow_end rfl ?_
          refine ew_then ?_
          refine cw_ret ?_
          have hR := Option.some.inj hF
          subst hR
          exact fin1 (H1 := [imm I]) (fun w hs => sat_to [1, 1, 1, 1, 1, 1, 0] 6 rfl hs) rfl (rr_tmp rfl) ⟨rfl, rfl⟩
      · refine ow_slots (L' := [(3, .string r32), (14, .string r44.2.1), (20, .bool r58.2.2.1), (88, .bool false)]) (by rw [h64]) ?_
        refine ow_vals 12 (j := 24) [8] [(8, .bool false)] rfl (by kernel_rfl) ?_
        refine ow_end rfl ?_
        refine ew_then ?_
        refine cw_ret ?_
        have hR := Option.some.inj hF
        subst hR
        exact fin1 (H1 := [imm I]) (fun w hs => sat_to [1, 1, 1, 1, 1, 1, 0] 6 rfl hs) rfl (rr_tmp rfl) ⟨rfl, rfl⟩
    · refine ow_slots (L' := [(3, .string r32), (11, .string r40), (13, .string r44.1), (14, .string r44.2.1), (20, .bool r58.2.2.1), (83, .bool false)]) (by rw [h63]) ?_
      refine ow_vals 17 (j := 24) [8] [(8, .bool false)] rfl (by kernel_rfl) ?_
      refine ow_end rfl ?_
      refine ew_then ?_
      refine cw_ret ?_
      have hR := Option.some.inj hF
      subst hR
      exact fin1 (H1 := [imm I]) (fun w hs => sat_to [1, 1, 1, 1, 1, 1, 0] 6 rfl hs) rfl (rr_tmp rfl) ⟨rfl, rfl⟩
  · refine ow_slots (L' := [(3, .string r32), (11, .string r40), (13, .string r44.1), (14, .string r44.2.1), (15, .bool r44.2.2.1), (20, .bool r58.2.2.1), (80, .bool false)]) (by rw [h62]) ?_
    refine ow_vals 20 (j := 24) [8] [(8, .bool false)] rfl (by kernel_rfl) ?_
    refine ow_end rfl ?_
    refine ew_then ?_
    refine cw_ret ?_
    have hR := Option.some.inj hF
    subst hR
    exact fin1 (H1 := [imm I]) (fun w hs => sat_to [1, 1, 1, 1, 1, 1, 0] 6 rfl hs) rfl (rr_tmp rfl) ⟨rfl, rfl⟩

end Go.Proofs.Ytfjnafgigfapbaa
