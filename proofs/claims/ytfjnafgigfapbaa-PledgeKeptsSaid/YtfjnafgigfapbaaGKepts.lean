/- What the functions compute, and that the code computes it: printed by a program of this claim (wip/tools), for the group Kepts. -/
import Derived.Test.YtfjnafgigfapbaaGPledge
namespace Go.Proofs.Ytfjnafgigfapbaa
set_option linter.all false
open Go Go.RowKit Go.Fw
set_option linter.unusedVariables false

def F.law06_PledgeKepts.r2 (r38 : ByteArray × ByteArray × Bool × mill_Mill) (r42 : ByteArray × ByteArray × Bool) : Option (Bool) :=
  if r38.2.2.1 then (if seqB r38.1 r42.1 then (if seqB r38.2.1 r42.2.1 then (Option.bind (F.law06_awake) (fun (r73 : Bool) => some (r73))) else (some (false))) else (some (false))) else (some (false))
def F.law06_PledgeKepts.r1 (r38 : ByteArray × ByteArray × Bool × mill_Mill) (r42 : ByteArray × ByteArray × Bool) (x51 : Bool) (l52 : List (ByteArray × ByteArray)) (l55 : List (ByteArray × ByteArray)) (s58 : ByteArray) (s59 : ByteArray) (x60 : Bool) (x61 : Bool) (x62 : Int) : Option (Bool) :=
  thru (if !x51 then (if !r38.2.2.1 then (if seqB r38.1 (ByteArray.mk #[]) then (if seqB r38.2.1 (ByteArray.mk #[]) then (Option.bind (F.law06_awake) (fun (r68 : Bool) => some (.inr (r68)))) else (some (.inr (false)))) else (some (.inr (false)))) else (some (.inr (false)))) else (some (.inl ()))) (fun x => F.law06_PledgeKepts.r2 r38 r42)
def F.law06_PledgeKepts (x0 : ByteArray) (x1 : ByteArray) (x2 : api_Slip) : Option Bool :=
  Option.bind (F.mill_New) (fun (r23 : mill_Mill) => Option.bind (F.law06_cut x0) (fun (r28 : ByteArray) => Option.bind (F.law06_cut x1) (fun (r30 : ByteArray) => Option.bind (F.law06_cut x2.Name) (fun (r32 : ByteArray) => Option.bind (F.law06_cut x2.Cipher) (fun (r34 : ByteArray) => Option.bind (F.law06_cut x2.Pledge) (fun (r36 : ByteArray) => Option.bind (F.pledge_Kept r28 r30 (⟨r32, r36, r34, x2.Erased⟩ : api_Slip) r23) (fun (r38 : ByteArray × ByteArray × Bool × mill_Mill) => Option.bind (F.pledge_Open r28 r32 r34 r38.2.2.2) (fun (r42 : ByteArray × ByteArray × Bool) => Option.bind (if !x2.Erased then (if r42.2.2 then (Option.bind (F.pledge_Of r30 r32 r42.1 r42.2.1 r38.2.2.2) (fun (r47 : ByteArray × mill_Mill) => some ((seqB r47.1 r36, r47.2.table_, r47.2.notes_, r47.2.twins_.e0, r47.2.twins_.e1, r47.2.found_, r47.2.full_, r47.2.sums_)))) else (some ((false, r38.2.2.2.table_, r38.2.2.2.notes_, r38.2.2.2.twins_.e0, r38.2.2.2.twins_.e1, r38.2.2.2.found_, r38.2.2.2.full_, r38.2.2.2.sums_)))) else (some ((false, r38.2.2.2.table_, r38.2.2.2.notes_, r38.2.2.2.twins_.e0, r38.2.2.2.twins_.e1, r38.2.2.2.found_, r38.2.2.2.full_, r38.2.2.2.sums_)))) (fun x => F.law06_PledgeKepts.r1 r38 r42 x.1 x.2.1 x.2.2.1 x.2.2.2.1 x.2.2.2.2.1 x.2.2.2.2.2.1 x.2.2.2.2.2.2.1 x.2.2.2.2.2.2.2)))))))))
set_option maxRecDepth 100000 in
set_option maxHeartbeats 4000000 in
theorem c_law06_PledgeKepts (I : Hl) (x0 : ByteArray) (x1 : ByteArray) (x2 : api_Slip) (res : Bool) (hF : F.law06_PledgeKepts x0 x1 x2 = some res) : Tr Try.prog 6 [.string x0, .string x1, .agg #[.string x2.Name, .string x2.Pledge, .string x2.Cipher, .bool x2.Erased]] [imm I] (fun r H' => r = .bool res ∧ H' = [imm I]) := by
  unfold F.law06_PledgeKepts at hF
  refine tr_of_cw (fn := Try.f6) Try.func6 rfl (Nat.le_of_ble_eq_true rfl) 99 rfl fun F0 w0 => ?_
  refine cw_keep [0, 1, 2] (L' := [(0, .string x0), (1, .string x1), (2, .agg #[.string x2.Name, .string x2.Pledge, .string x2.Cipher, .bool x2.Erased])]) rfl ?_
  refine cw_state (S' := SAT w0 ([imm I] ++ F0)) (fun w hs => hs) ?_
  refine cw_seq ?_
  refine cw_region ?_
  refine ow_pw rfl (pw_box (cs := #[.string x2.Name, .string x2.Pledge, .string x2.Cipher, .bool x2.Erased]) rfl rfl rfl rfl rfl rfl fun b21 => nw_ow ?_)
  refine ow_vals 1 (j := 2) [0, 1, 5] [(0, .string x0), (1, .string x1), (5, .pointer (some ⟨b21, 0, none⟩))] rfl (by kernel_rfl) ?_
  refine ow_end rfl ?_
  refine ew_then ?_
  refine cw_seq ?_
  refine cw_region ?_
  obtain ⟨r23, h24, hF⟩ := bind_some hF
  refine ow_pw rfl (pw_call (F := [pt b21 #[.string x2.Name, .string x2.Pledge, .string x2.Cipher, .bool x2.Erased] 36] ++ F0) rfl rfl rfl rfl rfl rfl rfl (by kernel_rfl) (perm_of_pulls [1] rfl) (c_mill_New _ r23 h24) ?_)
  rintro _ _ ⟨r23_b1, r23_b3, r23_b5, rfl, rfl⟩
  refine nw_H (H' := [imm I, pt r23_b1 #[.map (some r23_b3), .map (some r23_b5), .string r23.twins_.e0, .string r23.twins_.e1, .bool r23.found_, .bool r23.full_, .int .i64 r23.sums_] 54, mpo kStr kStr r23_b3 r23.table_, mpo kStr kStr r23_b5 r23.notes_, pt b21 #[.string x2.Name, .string x2.Pledge, .string x2.Cipher, .bool x2.Erased] 36] ++ F0) rfl (nw_ow ?_)
  refine ow_vals 1 (j := 2) [0, 1, 5, 7] [(0, .string x0), (1, .string x1), (5, .pointer (some ⟨b21, 0, none⟩)), (7, .pointer (some ⟨r23_b1, 0, none⟩))] rfl (by kernel_rfl) ?_
  refine ow_end rfl ?_
  refine ew_then ?_
  refine cw_seq ?_
  refine cw_region ?_
  refine ow_vals 1 (j := 1) [1, 5, 7, 16] [(1, .string x1), (5, .pointer (some ⟨b21, 0, none⟩)), (7, .pointer (some ⟨r23_b1, 0, none⟩)), (16, .string x0)] rfl (by kernel_rfl) ?_
  obtain ⟨r28, h29, hF⟩ := bind_some hF
  refine ow_pw rfl (pw_call (F := [pt r23_b1 #[.map (some r23_b3), .map (some r23_b5), .string r23.twins_.e0, .string r23.twins_.e1, .bool r23.found_, .bool r23.full_, .int .i64 r23.sums_] 54, mpo kStr kStr r23_b3 r23.table_, mpo kStr kStr r23_b5 r23.notes_, pt b21 #[.string x2.Name, .string x2.Pledge, .string x2.Cipher, .bool x2.Erased] 36] ++ F0) rfl rfl rfl rfl rfl rfl rfl (by kernel_rfl) (perm_of_pulls [0] rfl) (c_law06_cut _ x0 r28 h29) ?_)
  rintro _ _ ⟨rfl, rfl⟩
  refine nw_H (H' := [imm I, pt r23_b1 #[.map (some r23_b3), .map (some r23_b5), .string r23.twins_.e0, .string r23.twins_.e1, .bool r23.found_, .bool r23.full_, .int .i64 r23.sums_] 54, mpo kStr kStr r23_b3 r23.table_, mpo kStr kStr r23_b5 r23.notes_, pt b21 #[.string x2.Name, .string x2.Pledge, .string x2.Cipher, .bool x2.Erased] 36] ++ F0) rfl (nw_ow ?_)
  refine ow_vals 1 (j := 3) [0, 1, 5, 7] [(0, .string r28), (1, .string x1), (5, .pointer (some ⟨b21, 0, none⟩)), (7, .pointer (some ⟨r23_b1, 0, none⟩))] rfl (by kernel_rfl) ?_
  refine ow_end rfl ?_
  refine ew_then ?_
  refine cw_seq ?_
  refine cw_region ?_
  refine ow_vals 1 (j := 1) [0, 5, 7, 18] [(0, .string r28), (5, .pointer (some ⟨b21, 0, none⟩)), (7, .pointer (some ⟨r23_b1, 0, none⟩)), (18, .string x1)] rfl (by kernel_rfl) ?_
  obtain ⟨r30, h31, hF⟩ := bind_some hF
  refine ow_pw rfl (pw_call (F := [pt r23_b1 #[.map (some r23_b3), .map (some r23_b5), .string r23.twins_.e0, .string r23.twins_.e1, .bool r23.found_, .bool r23.full_, .int .i64 r23.sums_] 54, mpo kStr kStr r23_b3 r23.table_, mpo kStr kStr r23_b5 r23.notes_, pt b21 #[.string x2.Name, .string x2.Pledge, .string x2.Cipher, .bool x2.Erased] 36] ++ F0) rfl rfl rfl rfl rfl rfl rfl (by kernel_rfl) (perm_of_pulls [0] rfl) (c_law06_cut _ x1 r30 h31) ?_)
  rintro _ _ ⟨rfl, rfl⟩
  refine nw_H (H' := [imm I, pt r23_b1 #[.map (some r23_b3), .map (some r23_b5), .string r23.twins_.e0, .string r23.twins_.e1, .bool r23.found_, .bool r23.full_, .int .i64 r23.sums_] 54, mpo kStr kStr r23_b3 r23.table_, mpo kStr kStr r23_b5 r23.notes_, pt b21 #[.string x2.Name, .string x2.Pledge, .string x2.Cipher, .bool x2.Erased] 36] ++ F0) rfl (nw_ow ?_)
  refine ow_vals 1 (j := 3) [0, 1, 5, 7] [(0, .string r28), (1, .string r30), (5, .pointer (some ⟨b21, 0, none⟩)), (7, .pointer (some ⟨r23_b1, 0, none⟩))] rfl (by kernel_rfl) ?_
  refine ow_end rfl ?_
  refine ew_then ?_
  refine cw_seq ?_
  refine cw_region ?_
  refine ow_vals 1 (j := 1) [0, 1, 5, 7, 20] [(0, .string r28), (1, .string r30), (5, .pointer (some ⟨b21, 0, none⟩)), (7, .pointer (some ⟨r23_b1, 0, none⟩)), (20, .pointer (some ⟨b21, 0, none⟩))] rfl (by kernel_rfl) ?_
  refine ow_pw rfl (pw_quiet (v := .string x2.Name) rfl rfl rfl rfl (q_load 4 rfl rfl rfl (by kernel_rfl)) (nw_ow ?_))
  obtain ⟨r32, h33, hF⟩ := bind_some hF
  refine ow_pw rfl (pw_call (F := [pt r23_b1 #[.map (some r23_b3), .map (some r23_b5), .string r23.twins_.e0, .string r23.twins_.e1, .bool r23.found_, .bool r23.full_, .int .i64 r23.sums_] 54, mpo kStr kStr r23_b3 r23.table_, mpo kStr kStr r23_b5 r23.notes_, pt b21 #[.string x2.Name, .string x2.Pledge, .string x2.Cipher, .bool x2.Erased] 36] ++ F0) rfl rfl rfl rfl rfl rfl rfl (by kernel_rfl) (perm_of_pulls [0] rfl) (c_law06_cut _ x2.Name r32 h33) ?_)
  rintro _ _ ⟨rfl, rfl⟩
  refine nw_H (H' := [imm I, pt r23_b1 #[.map (some r23_b3), .map (some r23_b5), .string r23.twins_.e0, .string r23.twins_.e1, .bool r23.found_, .bool r23.full_, .int .i64 r23.sums_] 54, mpo kStr kStr r23_b3 r23.table_, mpo kStr kStr r23_b5 r23.notes_, pt b21 #[.string x2.Name, .string x2.Pledge, .string x2.Cipher, .bool x2.Erased] 36] ++ F0) rfl (nw_ow ?_)
  refine ow_vals 1 (j := 4) [0, 1, 5, 7, 22, 23] [(0, .string r28), (1, .string r30), (5, .pointer (some ⟨b21, 0, none⟩)), (7, .pointer (some ⟨r23_b1, 0, none⟩)), (22, .string r32), (23, .pointer (some ⟨b21, 0, none⟩))] rfl (by kernel_rfl) ?_
  refine ow_pw rfl (pw_store 4 #[.string r32, .string x2.Pledge, .string x2.Cipher, .bool x2.Erased] rfl rfl rfl rfl rfl rfl rfl (by kernel_rfl) (nw_H (H' := [imm I, pt r23_b1 #[.map (some r23_b3), .map (some r23_b5), .string r23.twins_.e0, .string r23.twins_.e1, .bool r23.found_, .bool r23.full_, .int .i64 r23.sums_] 54, mpo kStr kStr r23_b3 r23.table_, mpo kStr kStr r23_b5 r23.notes_, pt b21 #[.string r32, .string x2.Pledge, .string x2.Cipher, .bool x2.Erased] 36] ++ F0) rfl (nw_ow ?_)))
  refine ow_end rfl ?_
  refine ew_then ?_
  refine cw_seq ?_
  refine cw_region ?_
  refine ow_vals 1 (j := 1) [0, 1, 5, 7, 24] [(0, .string r28), (1, .string r30), (5, .pointer (some ⟨b21, 0, none⟩)), (7, .pointer (some ⟨r23_b1, 0, none⟩)), (24, .pointer (some ⟨b21, 2, none⟩))] rfl (by kernel_rfl) ?_
  refine ow_pw rfl (pw_quiet (v := .string x2.Cipher) rfl rfl rfl rfl (q_load 4 rfl rfl rfl (by kernel_rfl)) (nw_ow ?_))
  obtain ⟨r34, h35, hF⟩ := bind_some hF
  refine ow_pw rfl (pw_call (F := [pt r23_b1 #[.map (some r23_b3), .map (some r23_b5), .string r23.twins_.e0, .string r23.twins_.e1, .bool r23.found_, .bool r23.full_, .int .i64 r23.sums_] 54, mpo kStr kStr r23_b3 r23.table_, mpo kStr kStr r23_b5 r23.notes_, pt b21 #[.string r32, .string x2.Pledge, .string x2.Cipher, .bool x2.Erased] 36] ++ F0) rfl rfl rfl rfl rfl rfl rfl (by kernel_rfl) (perm_of_pulls [0] rfl) (c_law06_cut _ x2.Cipher r34 h35) ?_)
  rintro _ _ ⟨rfl, rfl⟩
  refine nw_H (H' := [imm I, pt r23_b1 #[.map (some r23_b3), .map (some r23_b5), .string r23.twins_.e0, .string r23.twins_.e1, .bool r23.found_, .bool r23.full_, .int .i64 r23.sums_] 54, mpo kStr kStr r23_b3 r23.table_, mpo kStr kStr r23_b5 r23.notes_, pt b21 #[.string r32, .string x2.Pledge, .string x2.Cipher, .bool x2.Erased] 36] ++ F0) rfl (nw_ow ?_)
  refine ow_vals 1 (j := 4) [0, 1, 5, 7, 26, 27] [(0, .string r28), (1, .string r30), (5, .pointer (some ⟨b21, 0, none⟩)), (7, .pointer (some ⟨r23_b1, 0, none⟩)), (26, .string r34), (27, .pointer (some ⟨b21, 2, none⟩))] rfl (by kernel_rfl) ?_
  refine ow_pw rfl (pw_store 4 #[.string r32, .string x2.Pledge, .string r34, .bool x2.Erased] rfl rfl rfl rfl rfl rfl rfl (by kernel_rfl) (nw_H (H' := [imm I, pt r23_b1 #[.map (some r23_b3), .map (some r23_b5), .string r23.twins_.e0, .string r23.twins_.e1, .bool r23.found_, .bool r23.full_, .int .i64 r23.sums_] 54, mpo kStr kStr r23_b3 r23.table_, mpo kStr kStr r23_b5 r23.notes_, pt b21 #[.string r32, .string x2.Pledge, .string r34, .bool x2.Erased] 36] ++ F0) rfl (nw_ow ?_)))
  refine ow_end rfl ?_
  refine ew_then ?_
  refine cw_seq ?_
  refine cw_region ?_
  refine ow_vals 1 (j := 1) [0, 1, 5, 7, 28] [(0, .string r28), (1, .string r30), (5, .pointer (some ⟨b21, 0, none⟩)), (7, .pointer (some ⟨r23_b1, 0, none⟩)), (28, .pointer (some ⟨b21, 1, none⟩))] rfl (by kernel_rfl) ?_
  refine ow_pw rfl (pw_quiet (v := .string x2.Pledge) rfl rfl rfl rfl (q_load 4 rfl rfl rfl (by kernel_rfl)) (nw_ow ?_))
  obtain ⟨r36, h37, hF⟩ := bind_some hF
  refine ow_pw rfl (pw_call (F := [pt r23_b1 #[.map (some r23_b3), .map (some r23_b5), .string r23.twins_.e0, .string r23.twins_.e1, .bool r23.found_, .bool r23.full_, .int .i64 r23.sums_] 54, mpo kStr kStr r23_b3 r23.table_, mpo kStr kStr r23_b5 r23.notes_, pt b21 #[.string r32, .string x2.Pledge, .string r34, .bool x2.Erased] 36] ++ F0) rfl rfl rfl rfl rfl rfl rfl (by kernel_rfl) (perm_of_pulls [0] rfl) (c_law06_cut _ x2.Pledge r36 h37) ?_)
  rintro _ _ ⟨rfl, rfl⟩
  refine nw_H (H' := [imm I, pt r23_b1 #[.map (some r23_b3), .map (some r23_b5), .string r23.twins_.e0, .string r23.twins_.e1, .bool r23.found_, .bool r23.full_, .int .i64 r23.sums_] 54, mpo kStr kStr r23_b3 r23.table_, mpo kStr kStr r23_b5 r23.notes_, pt b21 #[.string r32, .string x2.Pledge, .string r34, .bool x2.Erased] 36] ++ F0) rfl (nw_ow ?_)
  refine ow_vals 1 (j := 4) [0, 1, 5, 7, 30, 31] [(0, .string r28), (1, .string r30), (5, .pointer (some ⟨b21, 0, none⟩)), (7, .pointer (some ⟨r23_b1, 0, none⟩)), (30, .string r36), (31, .pointer (some ⟨b21, 1, none⟩))] rfl (by kernel_rfl) ?_
  refine ow_pw rfl (pw_store 4 #[.string r32, .string r36, .string r34, .bool x2.Erased] rfl rfl rfl rfl rfl rfl rfl (by kernel_rfl) (nw_H (H' := [imm I, pt r23_b1 #[.map (some r23_b3), .map (some r23_b5), .string r23.twins_.e0, .string r23.twins_.e1, .bool r23.found_, .bool r23.full_, .int .i64 r23.sums_] 54, mpo kStr kStr r23_b3 r23.table_, mpo kStr kStr r23_b5 r23.notes_, pt b21 #[.string r32, .string r36, .string r34, .bool x2.Erased] 36] ++ F0) rfl (nw_ow ?_)))
  refine ow_end rfl ?_
  refine ew_then ?_
  refine cw_seq ?_
  refine cw_region ?_
  refine ow_vals 3 (j := 3) [0, 1, 5, 7, 33, 34, 35] [(0, .string r28), (1, .string r30), (5, .pointer (some ⟨b21, 0, none⟩)), (7, .pointer (some ⟨r23_b1, 0, none⟩)), (33, .pointer (some ⟨r23_b1, 0, none⟩)), (34, .string r28), (35, .string r30)] rfl (by kernel_rfl) ?_
  refine ow_pw rfl (pw_quiet (v := .agg #[.string r32, .string r36, .string r34, .bool x2.Erased]) rfl rfl rfl rfl (q_load 4 rfl rfl rfl (by kernel_rfl)) (nw_ow ?_))
  obtain ⟨r38, h39, hF⟩ := bind_some hF
  refine ow_pw rfl (pw_call (F := [pt b21 #[.string r32, .string r36, .string r34, .bool x2.Erased] 36] ++ F0) rfl rfl rfl rfl rfl rfl rfl (by kernel_rfl) (perm_of_pulls [0, 0, 0, 0] rfl) (c_pledge_Kept _ r28 r30 (⟨r32, r36, r34, x2.Erased⟩ : api_Slip) r23 r23_b3 r23_b5 r23_b1 r38 h39) ?_)
  rintro _ _ ⟨r38_b1, r38_b3, rfl, rfl⟩
  refine nw_H (H' := [imm I, pt r23_b1 #[.map (some r38_b1), .map (some r38_b3), .string r38.2.2.2.twins_.e0, .string r38.2.2.2.twins_.e1, .bool r38.2.2.2.found_, .bool r38.2.2.2.full_, .int .i64 r38.2.2.2.sums_] 54, mpo kStr kStr r38_b1 r38.2.2.2.table_, mpo kStr kStr r38_b3 r38.2.2.2.notes_, pt b21 #[.string r32, .string r36, .string r34, .bool x2.Erased] 36] ++ F0) rfl (nw_ow ?_)
  refine ow_vals 7 (j := 12) [0, 1, 5, 7, 8, 9, 10] [(0, .string r28), (1, .string r30), (5, .pointer (some ⟨b21, 0, none⟩)), (7, .pointer (some ⟨r23_b1, 0, none⟩)), (8, .string r38.1), (9, .string r38.2.1), (10, .bool r38.2.2.1)] rfl (by kernel_rfl) ?_
  refine ow_end rfl ?_
  refine ew_then ?_
  refine cw_seq ?_
  refine cw_region ?_
  refine ow_vals 3 (j := 3) [1, 5, 7, 8, 9, 10, 42, 43, 44] [(1, .string r30), (5, .pointer (some ⟨b21, 0, none⟩)), (7, .pointer (some ⟨r23_b1, 0, none⟩)), (8, .string r38.1), (9, .string r38.2.1), (10, .bool r38.2.2.1), (42, .pointer (some ⟨r23_b1, 0, none⟩)), (43, .string r28), (44, .pointer (some ⟨b21, 0, none⟩))] rfl (by kernel_rfl) ?_
  refine ow_pw rfl (pw_quiet (v := .string r32) rfl rfl rfl rfl (q_load 4 rfl rfl rfl (by kernel_rfl)) (nw_ow ?_))
  refine ow_vals 1 (j := 5) [1, 5, 7, 8, 9, 10, 42, 43, 45, 46] [(1, .string r30), (5, .pointer (some ⟨b21, 0, none⟩)), (7, .pointer (some ⟨r23_b1, 0, none⟩)), (8, .string r38.1), (9, .string r38.2.1), (10, .bool r38.2.2.1), (42, .pointer (some ⟨r23_b1, 0, none⟩)), (43, .string r28), (45, .string r32), (46, .pointer (some ⟨b21, 2, none⟩))] rfl (by kernel_rfl) ?_
  refine ow_pw rfl (pw_quiet (v := .string r34) rfl rfl rfl rfl (q_load 4 rfl rfl rfl (by kernel_rfl)) (nw_ow ?_))
  obtain ⟨r42, h43, hF⟩ := bind_some hF
  refine ow_pw rfl (pw_call (F := [pt b21 #[.string r32, .string r36, .string r34, .bool x2.Erased] 36] ++ F0) rfl rfl rfl rfl rfl rfl rfl (by kernel_rfl) (perm_of_pulls [0, 0, 0, 0] rfl) (c_pledge_Open _ r28 r32 r34 r38.2.2.2 r38_b1 r38_b3 r23_b1 r42 h43) ?_)
  rintro _ _ ⟨rfl, rfl⟩
  refine nw_H (H' := [imm I, pt r23_b1 #[.map (some r38_b1), .map (some r38_b3), .string r38.2.2.2.twins_.e0, .string r38.2.2.2.twins_.e1, .bool r38.2.2.2.found_, .bool r38.2.2.2.full_, .int .i64 r38.2.2.2.sums_] 54, mpo kStr kStr r38_b1 r38.2.2.2.table_, mpo kStr kStr r38_b3 r38.2.2.2.notes_, pt b21 #[.string r32, .string r36, .string r34, .bool x2.Erased] 36] ++ F0) rfl (nw_ow ?_)
  refine ow_vals 7 (j := 14) [1, 5, 7, 8, 9, 10, 11, 12, 13] [(1, .string r30), (5, .pointer (some ⟨b21, 0, none⟩)), (7, .pointer (some ⟨r23_b1, 0, none⟩)), (8, .string r38.1), (9, .string r38.2.1), (10, .bool r38.2.2.1), (11, .string r42.1), (12, .string r42.2.1), (13, .bool r42.2.2)] rfl (by kernel_rfl) ?_
  refine ow_end rfl ?_
  refine ew_then ?_
  obtain ⟨v44, hF, hK44⟩ := bind_some hF
  refine cw_mid (fun a w => ∃ (x51 : Bool), ∃ (l52 : List (ByteArray × ByteArray)), ∃ (l55 : List (ByteArray × ByteArray)), ∃ (s58 : ByteArray), ∃ (s59 : ByteArray), ∃ (x60 : Bool), ∃ (x61 : Bool), ∃ (x62 : Int), ∃ (b54 : Nat), ∃ (b57 : Nat), (x51, l52, l55, s58, s59, x60, x61, x62) = v44 ∧ Fr 99 [(8, .string r38.1), (9, .string r38.2.1), (10, .bool r38.2.2.1), (11, .string r42.1), (12, .string r42.2.1), (14, .bool x51)] a ∧ SAT w0 ([imm I, pt r23_b1 #[.map (some b54), .map (some b57), .string s58, .string s59, .bool x60, .bool x61, .int .i64 x62] 54, pt b21 #[.string r32, .string r36, .string r34, .bool x2.Erased] 36, mpo kStr kStr b54 l52, mpo kStr kStr b57 l55] ++ F0) w) ?_ ?_
  · refine cw_open 19 (SAT w0 ([imm I, pt b21 #[.string r32, .string r36, .string r34, .bool x2.Erased] 36])) (by kernel_rfl) (f := 19) rfl (fun w hs => sat_drew hs) ?_
    refine aw_vals [0] (f' := 18) (m' := 1) [1, 5, 7, 8, 9, 10, 11, 12, 13, 52] [(1, .string r30), (5, .pointer (some ⟨b21, 0, none⟩)), (7, .pointer (some ⟨r23_b1, 0, none⟩)), (8, .string r38.1), (9, .string r38.2.1), (10, .bool r38.2.2.1), (11, .string r42.1), (12, .string r42.2.1), (13, .bool r42.2.2), (52, .pointer (some ⟨b21, 3, none⟩))] (fun _ _ _ _ _ h => calm_fin (P := Try.prog) (fn := Try.f6) _ _ _ _ _ h) (fun w hs => sat_pulls [0, 3] (G := [pt r23_b1 #[.map (some r38_b1), .map (some r38_b3), .string r38.2.2.2.twins_.e0, .string r38.2.2.2.twins_.e1, .bool r38.2.2.2.found_, .bool r38.2.2.2.full_, .int .i64 r38.2.2.2.sums_] 54, mpo kStr kStr r38_b1 r38.2.2.2.table_, mpo kStr kStr r38_b3 r38.2.2.2.notes_] ++ F0) rfl hs) rfl (by kernel_rfl) ?_
    refine aw_quiet 1 (m' := 3) (v := .bool x2.Erased) 0 [] rfl rfl rfl rfl (by kernel_rfl) (by kernel_rfl) (by kernel_rfl) (fun _ _ _ _ _ h => calm_fin (P := Try.prog) (fn := Try.f6) _ _ _ _ _ h) (fun w hs => sat_pulls [0, 3] (G := [pt r23_b1 #[.map (some r38_b1), .map (some r38_b3), .string r38.2.2.2.twins_.e0, .string r38.2.2.2.twins_.e1, .bool r38.2.2.2.found_, .bool r38.2.2.2.full_, .int .i64 r38.2.2.2.sums_] 54, mpo kStr kStr r38_b1 r38.2.2.2.table_, mpo kStr kStr r38_b3 r38.2.2.2.notes_] ++ F0) rfl hs) (q_load 1 rfl rfl rfl (by kernel_rfl)) ?_
    refine aw_vals [2, 3] (f' := 15) (m' := 15) [1, 5, 7, 8, 9, 10, 11, 12, 13, 55] [(1, .string r30), (5, .pointer (some ⟨b21, 0, none⟩)), (7, .pointer (some ⟨r23_b1, 0, none⟩)), (8, .string r38.1), (9, .string r38.2.1), (10, .bool r38.2.2.1), (11, .string r42.1), (12, .string r42.2.1), (13, .bool r42.2.2), (55, .bool (!x2.Erased))] (fun _ _ _ _ _ h => calm_fin (P := Try.prog) (fn := Try.f6) _ _ _ _ _ h) (fun w hs => sat_pulls [0, 3] (G := [pt r23_b1 #[.map (some r38_b1), .map (some r38_b3), .string r38.2.2.2.twins_.e0, .string r38.2.2.2.twins_.e1, .bool r38.2.2.2.found_, .bool r38.2.2.2.full_, .int .i64 r38.2.2.2.sums_] 54, mpo kStr kStr r38_b1 r38.2.2.2.table_, mpo kStr kStr r38_b3 r38.2.2.2.notes_] ++ F0) rfl hs) rfl (by kernel_rfl) ?_
    rcases if_some hF with ⟨h45, hF⟩ | ⟨h45, hF⟩
    · refine aw_slots (L' := [(1, .string r30), (5, .pointer (some ⟨b21, 0, none⟩)), (7, .pointer (some ⟨r23_b1, 0, none⟩)), (8, .string r38.1), (9, .string r38.2.1), (10, .bool r38.2.2.1), (11, .string r42.1), (12, .string r42.2.1), (13, .bool r42.2.2), (55, .bool true)]) (by rw [h45]) ?_
      refine aw_vals [4, 5, 6] (f' := 12) (m' := 127) [1, 5, 7, 8, 9, 10, 11, 12, 58] [(1, .string r30), (5, .pointer (some ⟨b21, 0, none⟩)), (7, .pointer (some ⟨r23_b1, 0, none⟩)), (8, .string r38.1), (9, .string r38.2.1), (10, .bool r38.2.2.1), (11, .string r42.1), (12, .string r42.2.1), (58, .bool r42.2.2)] (fun _ _ _ _ _ h => calm_fin (P := Try.prog) (fn := Try.f6) _ _ _ _ _ h) (fun w hs => sat_pulls [0, 3] (G := [pt r23_b1 #[.map (some r38_b1), .map (some r38_b3), .string r38.2.2.2.twins_.e0, .string r38.2.2.2.twins_.e1, .bool r38.2.2.2.found_, .bool r38.2.2.2.full_, .int .i64 r38.2.2.2.sums_] 54, mpo kStr kStr r38_b1 r38.2.2.2.table_, mpo kStr kStr r38_b3 r38.2.2.2.notes_] ++ F0) rfl hs) rfl (by kernel_rfl) ?_
      rcases if_some hF with ⟨h46, hF⟩ | ⟨h46, hF⟩
      · refine aw_slots (L' := [(1, .string r30), (5, .pointer (some ⟨b21, 0, none⟩)), (7, .pointer (some ⟨r23_b1, 0, none⟩)), (8, .string r38.1), (9, .string r38.2.1), (10, .bool r38.2.2.1), (11, .string r42.1), (12, .string r42.2.1), (58, .bool true)]) (by rw [h46]) ?_
        refine aw_vals [7, 8, 9, 11, 12, 14] (f' := 6) (m' := 23551) [8, 9, 10, 11, 12, 58, 59, 60, 61, 63, 64, 66] [(8, .string r38.1), (9, .string r38.2.1), (10, .bool r38.2.2.1), (11, .string r42.1), (12, .string r42.2.1), (58, .bool true), (59, .pointer (some ⟨r23_b1, 0, none⟩)), (60, .string r30), (61, .pointer (some ⟨b21, 0, none⟩)), (63, .string r42.1), (64, .string r42.2.1), (66, .pointer (some ⟨b21, 1, none⟩))] (fun _ _ _ _ _ h => calm_fin (P := Try.prog) (fn := Try.f6) _ _ _ _ _ h) (fun w hs => sat_pulls [0, 3] (G := [pt r23_b1 #[.map (some r38_b1), .map (some r38_b3), .string r38.2.2.2.twins_.e0, .string r38.2.2.2.twins_.e1, .bool r38.2.2.2.found_, .bool r38.2.2.2.full_, .int .i64 r38.2.2.2.sums_] 54, mpo kStr kStr r38_b1 r38.2.2.2.table_, mpo kStr kStr r38_b3 r38.2.2.2.notes_] ++ F0) rfl hs) rfl (by kernel_rfl) ?_
        refine aw_quiet 10 (m' := 24575) (v := .string r32) 0 [] rfl rfl rfl rfl (by kernel_rfl) (by kernel_rfl) (by kernel_rfl) (fun _ _ _ _ _ h => calm_fin (P := Try.prog) (fn := Try.f6) _ _ _ _ _ h) (fun w hs => sat_pulls [0, 3] (G := [pt r23_b1 #[.map (some r38_b1), .map (some r38_b3), .string r38.2.2.2.twins_.e0, .string r38.2.2.2.twins_.e1, .bool r38.2.2.2.found_, .bool r38.2.2.2.full_, .int .i64 r38.2.2.2.sums_] 54, mpo kStr kStr r38_b1 r38.2.2.2.table_, mpo kStr kStr r38_b3 r38.2.2.2.notes_] ++ F0) rfl hs) (q_load 1 rfl rfl rfl (by kernel_rfl)) ?_
        refine aw_quiet 15 (m' := 57343) (v := .string r36) 0 [] rfl rfl rfl rfl (by kernel_rfl) (by kernel_rfl) (by kernel_rfl) (fun _ _ _ _ _ h => calm_fin (P := Try.prog) (fn := Try.f6) _ _ _ _ _ h) (fun w hs => sat_pulls [0, 3] (G := [pt r23_b1 #[.map (some r38_b1), .map (some r38_b3), .string r38.2.2.2.twins_.e0, .string r38.2.2.2.twins_.e1, .bool r38.2.2.2.found_, .bool r38.2.2.2.full_, .int .i64 r38.2.2.2.sums_] 54, mpo kStr kStr r38_b1 r38.2.2.2.table_, mpo kStr kStr r38_b3 r38.2.2.2.notes_] ++ F0) rfl hs) (q_load 1 rfl rfl rfl (by kernel_rfl)) ?_
        obtain ⟨r47, h48, hF⟩ := bind_some hF
        refine aw_only 13 (m' := 65535) (by kernel_rfl) (by kernel_rfl) (pw_call (F := [pt b21 #[.string r32, .string r36, .string r34, .bool x2.Erased] 36] ++ F0) rfl rfl rfl rfl rfl rfl rfl (by kernel_rfl) (perm_of_pulls [0, 0, 0, 0] rfl) (c_pledge_Of _ r30 r32 r42.1 r42.2.1 r38.2.2.2 r38_b1 r38_b3 r23_b1 r47 h48) ?_)
        rintro _ _ ⟨r47_b1, r47_b3, rfl, rfl⟩
        refine nw_H (H' := [imm I, pt r23_b1 #[.map (some r47_b1), .map (some r47_b3), .string r47.2.twins_.e0, .string r47.2.twins_.e1, .bool r47.2.found_, .bool r47.2.full_, .int .i64 r47.2.sums_] 54, mpo kStr kStr r47_b1 r47.2.table_, mpo kStr kStr r47_b3 r47.2.notes_, pt b21 #[.string r32, .string r36, .string r34, .bool x2.Erased] 36] ++ F0) rfl (aw_next (fun w hs => sat_pulls [0, 3] (G := [pt r23_b1 #[.map (some r47_b1), .map (some r47_b3), .string r47.2.twins_.e0, .string r47.2.twins_.e1, .bool r47.2.found_, .bool r47.2.full_, .int .i64 r47.2.sums_] 54, mpo kStr kStr r47_b1 r47.2.table_, mpo kStr kStr r47_b3 r47.2.notes_] ++ F0) rfl hs) ?_)
        refine aw_vals [16, 17, 18] (f' := 0) (m' := 524287) [8, 9, 10, 11, 12, 14] [(8, .string r38.1), (9, .string r38.2.1), (10, .bool r38.2.2.1), (11, .string r42.1), (12, .string r42.2.1), (14, .bool (seqB r47.1 r36))] (fun _ _ _ _ _ h => calm_fin (P := Try.prog) (fn := Try.f6) _ _ _ _ _ h) (fun w hs => sat_pulls [0, 3] (G := [pt r23_b1 #[.map (some r47_b1), .map (some r47_b3), .string r47.2.twins_.e0, .string r47.2.twins_.e1, .bool r47.2.found_, .bool r47.2.full_, .int .i64 r47.2.sums_] 54, mpo kStr kStr r47_b1 r47.2.table_, mpo kStr kStr r47_b3 r47.2.notes_] ++ F0) rfl hs) rfl (by kernel_rfl) ?_
        refine aw_keep [8, 9, 10, 11, 12, 14] (L' := [(8, .string r38.1), (9, .string r38.2.1), (10, .bool r38.2.2.1), (11, .string r42.1), (12, .string r42.2.1), (14, .bool (seqB r47.1 r36))]) rfl ?_
        refine aw_end (by kernel_rfl) ?_
        have hR := Option.some.inj hF
        exact fun a w hf hs => ⟨seqB r47.1 r36, r47.2.table_, r47.2.notes_, r47.2.twins_.e0, r47.2.twins_.e1, r47.2.found_, r47.2.full_, r47.2.sums_, r47_b1, r47_b3, hR, hf.keep [8, 9, 10, 11, 12, 14], sat_to [0, 0, 2, 0, 0] 0 rfl hs⟩
      · refine aw_slots (L' := [(1, .string r30), (5, .pointer (some ⟨b21, 0, none⟩)), (7, .pointer (some ⟨r23_b1, 0, none⟩)), (8, .string r38.1), (9, .string r38.2.1), (10, .bool r38.2.2.1), (11, .string r42.1), (12, .string r42.2.1), (58, .bool false)]) (by rw [h46]) ?_
        refine aw_vals [7, 8, 9, 10, 11, 12, 13, 14, 15, 16, 17, 18] (f' := 0) (m' := 524287) [8, 9, 10, 11, 12, 14] [(8, .string r38.1), (9, .string r38.2.1), (10, .bool r38.2.2.1), (11, .string r42.1), (12, .string r42.2.1), (14, .bool false)] (fun _ _ _ _ _ h => calm_fin (P := Try.prog) (fn := Try.f6) _ _ _ _ _ h) (fun w hs => sat_pulls [0, 3] (G := [pt r23_b1 #[.map (some r38_b1), .map (some r38_b3), .string r38.2.2.2.twins_.e0, .string r38.2.2.2.twins_.e1, .bool r38.2.2.2.found_, .bool r38.2.2.2.full_, .int .i64 r38.2.2.2.sums_] 54, mpo kStr kStr r38_b1 r38.2.2.2.table_, mpo kStr kStr r38_b3 r38.2.2.2.notes_] ++ F0) rfl hs) rfl (by kernel_rfl) ?_
        refine aw_keep [8, 9, 10, 11, 12, 14] (L' := [(8, .string r38.1), (9, .string r38.2.1), (10, .bool r38.2.2.1), (11, .string r42.1), (12, .string r42.2.1), (14, .bool false)]) rfl ?_
        refine aw_end (by kernel_rfl) ?_
        have hR := Option.some.inj hF
        exact fun a w hf hs => ⟨false, r38.2.2.2.table_, r38.2.2.2.notes_, r38.2.2.2.twins_.e0, r38.2.2.2.twins_.e1, r38.2.2.2.found_, r38.2.2.2.full_, r38.2.2.2.sums_, r38_b1, r38_b3, hR, hf.keep [8, 9, 10, 11, 12, 14], sat_to [0, 0, 2, 0, 0] 0 rfl hs⟩
    · refine aw_slots (L' := [(1, .string r30), (5, .pointer (some ⟨b21, 0, none⟩)), (7, .pointer (some ⟨r23_b1, 0, none⟩)), (8, .string r38.1), (9, .string r38.2.1), (10, .bool r38.2.2.1), (11, .string r42.1), (12, .string r42.2.1), (13, .bool r42.2.2), (55, .bool false)]) (by rw [h45]) ?_
      refine aw_vals [4, 5, 6, 7, 8, 9, 10, 11, 12, 13, 14, 15, 16, 17, 18] (f' := 0) (m' := 524287) [8, 9, 10, 11, 12, 14] [(8, .string r38.1), (9, .string r38.2.1), (10, .bool r38.2.2.1), (11, .string r42.1), (12, .string r42.2.1), (14, .bool false)] (fun _ _ _ _ _ h => calm_fin (P := Try.prog) (fn := Try.f6) _ _ _ _ _ h) (fun w hs => sat_pulls [0, 3] (G := [pt r23_b1 #[.map (some r38_b1), .map (some r38_b3), .string r38.2.2.2.twins_.e0, .string r38.2.2.2.twins_.e1, .bool r38.2.2.2.found_, .bool r38.2.2.2.full_, .int .i64 r38.2.2.2.sums_] 54, mpo kStr kStr r38_b1 r38.2.2.2.table_, mpo kStr kStr r38_b3 r38.2.2.2.notes_] ++ F0) rfl hs) rfl (by kernel_rfl) ?_
      refine aw_keep [8, 9, 10, 11, 12, 14] (L' := [(8, .string r38.1), (9, .string r38.2.1), (10, .bool r38.2.2.1), (11, .string r42.1), (12, .string r42.2.1), (14, .bool false)]) rfl ?_
      refine aw_end (by kernel_rfl) ?_
      have hR := Option.some.inj hF
      exact fun a w hf hs => ⟨false, r38.2.2.2.table_, r38.2.2.2.notes_, r38.2.2.2.twins_.e0, r38.2.2.2.twins_.e1, r38.2.2.2.found_, r38.2.2.2.full_, r38.2.2.2.sums_, r38_b1, r38_b3, hR, hf.keep [8, 9, 10, 11, 12, 14], sat_to [0, 0, 2, 0, 0] 0 rfl hs⟩
  · rintro a w ⟨x51, l52, l55, s58, s59, x60, x61, x62, b54, b57, hv, hf, hs⟩
    subst hv
    replace hF := hK44
    clear hK44
    try dsimp only at hF
    revert a w
    show CW _ _ _ 99 [(8, .string r38.1), (9, .string r38.2.1), (10, .bool r38.2.2.1), (11, .string r42.1), (12, .string r42.2.1), (14, .bool x51)] (SAT w0 ([imm I, pt r23_b1 #[.map (some b54), .map (some b57), .string s58, .string s59, .bool x60, .bool x61, .int .i64 x62] 54, pt b21 #[.string r32, .string r36, .string r34, .bool x2.Erased] 36, mpo kStr kStr b54 l52, mpo kStr kStr b57 l55] ++ F0))
    unfold F.law06_PledgeKepts.r1 at hF
    obtain ⟨v63, hF, hK63⟩ := thru_some hF
    refine cw_mid (fun a w => .inl () = v63 ∧ Fr 99 [(8, .string r38.1), (9, .string r38.2.1), (10, .bool r38.2.2.1), (11, .string r42.1), (12, .string r42.2.1)] a ∧ SAT w0 ([imm I, pt r23_b1 #[.map (some b54), .map (some b57), .string s58, .string s59, .bool x60, .bool x61, .int .i64 x62] 54, pt b21 #[.string r32, .string r36, .string r34, .bool x2.Erased] 36, mpo kStr kStr b54 l52, mpo kStr kStr b57 l55] ++ F0) w) ?_ ?_
    · refine cw_seq ?_
      refine cw_region ?_
      refine ow_vals 2 (j := 2) [8, 9, 10, 11, 12, 71] [(8, .string r38.1), (9, .string r38.2.1), (10, .bool r38.2.2.1), (11, .string r42.1), (12, .string r42.2.1), (71, .bool (!x51))] rfl (by kernel_rfl) ?_
      refine ow_end rfl ?_
      refine ew_then ?_
      rcases if_some hF with ⟨h64, hF⟩ | ⟨h64, hF⟩
      · refine cw_cond_t rfl rfl h64 ?_
        refine cw_seq ?_
        refine cw_region ?_
        refine ow_vals 3 (j := 3) [8, 9, 74] [(8, .string r38.1), (9, .string r38.2.1), (74, .bool (!r38.2.2.1))] rfl (by kernel_rfl) ?_
        rcases if_some hF with ⟨h65, hF⟩ | ⟨h65, hF⟩
        · refine ow_slots (L' := [(8, .string r38.1), (9, .string r38.2.1), (74, .bool true)]) (by rw [h65]) ?_
          refine ow_vals 4 (j := 7) [9, 78] [(9, .string r38.2.1), (78, .bool (seqB r38.1 (ByteArray.mk #[])))] rfl (by kernel_rfl) ?_
          rcases if_some hF with ⟨h66, hF⟩ | ⟨h66, hF⟩
          · refine ow_slots (L' := [(9, .string r38.2.1), (78, .bool true)]) (by rw [h66]) ?_
            refine ow_vals 4 (j := 11) [82] [(82, .bool (seqB r38.2.1 (ByteArray.mk #[])))] rfl (by kernel_rfl) ?_
            rcases if_some hF with ⟨h67, hF⟩ | ⟨h67, hF⟩
            · refine ow_slots (L' := [(82, .bool true)]) (by rw [h67]) ?_
              obtain ⟨r68, h69, hF⟩ := bind_some hF
              refine ow_pw rfl (pw_call (F := [pt r23_b1 #[.map (some b54), .map (some b57), .string s58, .string s59, .bool x60, .bool x61, .int .i64 x62] 54, pt b21 #[.string r32, .string r36, .string r34, .bool x2.Erased] 36, mpo kStr kStr b54 l52, mpo kStr kStr b57 l55] ++ F0) rfl rfl rfl rfl rfl rfl rfl (by kernel_rfl) (perm_of_pulls [0] rfl) (c_law06_awake _ r68 h69) ?_)
              rintro _ _ ⟨rfl, rfl⟩
              refine nw_H (H' := [imm I, pt r23_b1 #[.map (some b54), .map (some b57), .string s58, .string s59, .bool x60, .bool x61, .int .i64 x62] 54, pt b21 #[.string r32, .string r36, .string r34, .bool x2.Erased] 36, mpo kStr kStr b54 l52, mpo kStr kStr b57 l55] ++ F0) rfl (nw_ow ?_)
              refine ow_vals 2 (j := 14) [6] [(6, .bool r68)] rfl (by kernel_rfl) ?_
              refine ow_end rfl ?_
              refine ew_then ?_
              refine cw_ret ?_
              refine ew_then_ret ?_
              have hR := Option.some.inj hF
              subst hR
              have hR := hK63
              try dsimp only [Thru] at hR
              subst hR
              exact fin1 (H1 := [imm I]) (fun w hs => sat_to [1, 1, 1, 1, 0] 4 rfl hs) rfl (rr_tmp rfl) ⟨rfl, rfl⟩
            · refine ow_slots (L' := [(82, .bool false)]) (by rw [h67]) ?_
              refine ow_vals 3 (j := 14) [6] [(6, .bool false)] rfl (by kernel_rfl) ?_
              refine ow_end rfl ?_
              refine ew_then ?_
              refine cw_ret ?_
              refine ew_then_ret ?_
              have hR := Option.some.inj hF
              subst hR
              have hR := hK63
              try dsimp only [Thru] at hR
              subst hR
              exact fin1 (H1 := [imm I]) (fun w hs => sat_to [1, 1, 1, 1, 0] 4 rfl hs) rfl (rr_tmp rfl) ⟨rfl, rfl⟩
          · refine ow_slots (L' := [(9, .string r38.2.1), (78, .bool false)]) (by rw [h66]) ?_
            refine ow_vals 7 (j := 14) [6] [(6, .bool false)] rfl (by kernel_rfl) ?_
            refine ow_end rfl ?_
            refine ew_then ?_
            refine cw_ret ?_
            refine ew_then_ret ?_
            have hR := Option.some.inj hF
            subst hR
            have hR := hK63
            try dsimp only [Thru] at hR
            subst hR
            exact fin1 (H1 := [imm I]) (fun w hs => sat_to [1, 1, 1, 1, 0] 4 rfl hs) rfl (rr_tmp rfl) ⟨rfl, rfl⟩
        · refine ow_slots (L' := [(8, .string r38.1), (9, .string r38.2.1), (74, .bool false)]) (by rw [h65]) ?_
          refine ow_vals 11 (j := 14) [6] [(6, .bool false)] rfl (by kernel_rfl) ?_
          refine ow_end rfl ?_
          refine ew_then ?_
          refine cw_ret ?_
          refine ew_then_ret ?_
          have hR := Option.some.inj hF
          subst hR
          have hR := hK63
          try dsimp only [Thru] at hR
          subst hR
          exact fin1 (H1 := [imm I]) (fun w hs => sat_to [1, 1, 1, 1, 0] 4 rfl hs) rfl (rr_tmp rfl) ⟨rfl, rfl⟩
      · refine cw_cond_f rfl rfl h64 ?_
        refine cw_skip ?_
        have hR := Option.some.inj hF
        exact fun a w hf hs => ⟨hR, hf.keep [8, 9, 10, 11, 12], sat_to [0, 0, 0, 0, 0] 0 rfl hs⟩
    · rintro a w ⟨hv, hf, hs⟩
      subst hv
      replace hF := hK63
      clear hK63
      try dsimp only [Thru] at hF
      revert a w
      show CW _ _ _ 99 [(8, .string r38.1), (9, .string r38.2.1), (10, .bool r38.2.2.1), (11, .string r42.1), (12, .string r42.2.1)] (SAT w0 ([imm I, pt r23_b1 #[.map (some b54), .map (some b57), .string s58, .string s59, .bool x60, .bool x61, .int .i64 x62] 54, pt b21 #[.string r32, .string r36, .string r34, .bool x2.Erased] 36, mpo kStr kStr b54 l52, mpo kStr kStr b57 l55] ++ F0))
      unfold F.law06_PledgeKepts.r2 at hF
      refine cw_seq ?_
      refine cw_region ?_
      refine ow_vals 2 (j := 2) [8, 9, 11, 12, 86] [(8, .string r38.1), (9, .string r38.2.1), (11, .string r42.1), (12, .string r42.2.1), (86, .bool r38.2.2.1)] rfl (by kernel_rfl) ?_
      rcases if_some hF with ⟨h70, hF⟩ | ⟨h70, hF⟩
      · refine ow_slots (L' := [(8, .string r38.1), (9, .string r38.2.1), (11, .string r42.1), (12, .string r42.2.1), (86, .bool true)]) (by rw [h70]) ?_
        refine ow_vals 5 (j := 7) [9, 12, 91] [(9, .string r38.2.1), (12, .string r42.2.1), (91, .bool (seqB r38.1 r42.1))] rfl (by kernel_rfl) ?_
        rcases if_some hF with ⟨h71, hF⟩ | ⟨h71, hF⟩
        · refine ow_slots (L' := [(9, .string r38.2.1), (12, .string r42.2.1), (91, .bool true)]) (by rw [h71]) ?_
          refine ow_vals 5 (j := 12) [96] [(96, .bool (seqB r38.2.1 r42.2.1))] rfl (by kernel_rfl) ?_
          rcases if_some hF with ⟨h72, hF⟩ | ⟨h72, hF⟩
          · refine ow_slots (L' := [(96, .bool true)]) (by rw [h72]) ?_
            obtain ⟨r73, h74, hF⟩ := bind_some hF
            refine ow_pw rfl (pw_call (F := [pt r23_b1 #[.map (some b54), .map (some b57), .string s58, .string s59, .bool x60, .bool x61, .int .i64 x62] 54, pt b21 #[.string r32, .string r36, .string r34, .bool x2.Erased] 36, mpo kStr kStr b54 l52, mpo kStr kStr b57 l55] ++ F0) rfl rfl rfl rfl rfl rfl rfl (by kernel_rfl) (perm_of_pulls [0] rfl) (c_law06_awake _ r73 h74) ?_)
            rintro _ _ ⟨rfl, rfl⟩
            refine nw_H (H' := [imm I, pt r23_b1 #[.map (some b54), .map (some b57), .string s58, .string s59, .bool x60, .bool x61, .int .i64 x62] 54, pt b21 #[.string r32, .string r36, .string r34, .bool x2.Erased] 36, mpo kStr kStr b54 l52, mpo kStr kStr b57 l55] ++ F0) rfl (nw_ow ?_)
            refine ow_vals 2 (j := 15) [6] [(6, .bool r73)] rfl (by kernel_rfl) ?_
            refine ow_end rfl ?_
            refine ew_then ?_
            refine cw_ret ?_
            have hR := Option.some.inj hF
            subst hR
            exact fin1 (H1 := [imm I]) (fun w hs => sat_to [1, 1, 1, 1, 0] 4 rfl hs) rfl (rr_tmp rfl) ⟨rfl, rfl⟩
          · refine ow_slots (L' := [(96, .bool false)]) (by rw [h72]) ?_
            refine ow_vals 3 (j := 15) [6] [(6, .bool false)] rfl (by kernel_rfl) ?_
            refine ow_end rfl ?_
            refine ew_then ?_
            refine cw_ret ?_
            have hR := Option.some.inj hF
            subst hR
            exact fin1 (H1 := [imm I]) (fun w hs => sat_to [1, 1, 1, 1, 0] 4 rfl hs) rfl (rr_tmp rfl) ⟨rfl, rfl⟩
        · refine ow_slots (L' := [(9, .string r38.2.1), (12, .string r42.2.1), (91, .bool false)]) (by rw [h71]) ?_
          refine ow_vals 8 (j := 15) [6] [(6, .bool false)] rfl (by kernel_rfl) ?_
          refine ow_end rfl ?_
          refine ew_then ?_
          refine cw_ret ?_
          have hR := Option.some.inj hF
          subst hR
          exact fin1 (H1 := [imm I]) (fun w hs => sat_to [1, 1, 1, 1, 0] 4 rfl hs) rfl (rr_tmp rfl) ⟨rfl, rfl⟩
      · refine ow_slots (L' := [(8, .string r38.1), (9, .string r38.2.1), (11, .string r42.1), (12, .string r42.2.1), (86, .bool false)]) (by rw [h70]) ?_
        refine ow_vals 13 (j := 15) [6] [(6, .bool false)] rfl (by kernel_rfl) ?_
        refine ow_end rfl ?_
        refine ew_then ?_
        refine cw_ret ?_
        have hR := Option.some.inj hF
        subst hR
        exact fin1 (H1 := [imm I]) (fun w hs => sat_to [1, 1, 1, 1, 0] 4 rfl hs) rfl (rr_tmp rfl) ⟨rfl, rfl⟩

end Go.Proofs.Ytfjnafgigfapbaa
