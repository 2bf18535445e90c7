/- What the functions compute, and that the code computes it: printed by a program of this claim (wip/tools), for the group Shuts. -/
import Derived.Test.YtfjnafgigfapbaaGPledge
namespace Go.Proofs.Ytfjnafgigfapbaa
set_option linter.all false
open Go Go.RowKit Go.Fw
set_option linter.unusedVariables false

def F.law06_PledgeShuts.r2 (r26 : mill_Mill) (r31 : ByteArray) (r37 : ByteArray) (r39 : ByteArray) (r54 : ByteArray × ByteArray × Bool) : Option (Bool) :=
  if r54.2.2 then (if (r54.1.size : Int) == 16 then (chk (r54.1.size + r54.2.1.size ≤ 9223372036854775807) (Option.bind (F.mill_Mill_Veil r31 ((ByteArray.mk #[102, 105, 101, 108, 100]) ++ r39) r37 r26) (fun (r66 : ByteArray) => if seqB (r54.1 ++ r54.2.1) r66 then (Option.bind (F.law06_awake) (fun (r69 : Bool) => some (r69))) else (some (false))))) else (some (false))) else (some (false))
def F.law06_PledgeShuts.r1 (r21 : mill_Mill) (r26 : mill_Mill) (r31 : ByteArray) (r33 : ByteArray) (r37 : ByteArray) (r39 : ByteArray) : Option (Bool) :=
  Option.bind (F.pledge_Open r31 r33 r37 r21) (fun (r54 : ByteArray × ByteArray × Bool) => thru (if decide ((r37.size : Int) < 16) then (if seqB r54.1 (ByteArray.mk #[]) then (if seqB r54.2.1 (ByteArray.mk #[]) then (if !r54.2.2 then (Option.bind (F.law06_awake) (fun (r61 : Bool) => some (.inr (r61)))) else (some (.inr (false)))) else (some (.inr (false)))) else (some (.inr (false)))) else (some (.inl ()))) (fun x => F.law06_PledgeShuts.r2 r26 r31 r37 r39 r54))
def F.law06_PledgeShuts (x0 : ByteArray) (x1 : ByteArray) (x2 : ByteArray) (x3 : ByteArray) : Option Bool :=
  Option.bind (F.mill_New) (fun (r21 : mill_Mill) => Option.bind (F.mill_New) (fun (r26 : mill_Mill) => Option.bind (F.law06_cut x0) (fun (r31 : ByteArray) => Option.bind (F.law06_cut x1) (fun (r33 : ByteArray) => Option.bind (F.law06_cut x2) (fun (r35 : ByteArray) => Option.bind (F.law06_cut x3) (fun (r37 : ByteArray) => Option.bind (F.octet_Text r33) (fun (r39 : ByteArray) => chk ((ByteArray.mk #[102, 105, 101, 108, 100]).size + r39.size ≤ 9223372036854775807) (Option.bind (F.pledge_Shut r31 r33 (ByteArray.mk #[48, 49, 50, 51, 52, 53, 54, 55, 56, 57, 97, 98, 99, 100, 101, 102]) r35 r21) (fun (r42 : ByteArray) => Option.bind (F.pledge_Open r31 r33 r42 r21) (fun (r44 : ByteArray × ByteArray × Bool) => thru (chk ((ByteArray.mk #[48, 49, 50, 51, 52, 53, 54, 55, 56, 57, 97, 98, 99, 100, 101, 102]).size + r35.size ≤ 9223372036854775807) (Option.bind (F.mill_Mill_Veil r31 ((ByteArray.mk #[102, 105, 101, 108, 100]) ++ r39) ((ByteArray.mk #[48, 49, 50, 51, 52, 53, 54, 55, 56, 57, 97, 98, 99, 100, 101, 102]) ++ r35) r26) (fun (r48 : ByteArray) => if !(seqB r42 r48) then (some (.inr (false))) else (if !(seqB r44.1 (ByteArray.mk #[48, 49, 50, 51, 52, 53, 54, 55, 56, 57, 97, 98, 99, 100, 101, 102])) then (some (.inr (false))) else (if !(seqB r44.2.1 r35) then (some (.inr (false))) else (if !r44.2.2 then (some (.inr (false))) else (some (.inl ())))))))) (fun x => F.law06_PledgeShuts.r1 r21 r26 r31 r33 r37 r39)))))))))))
set_option maxRecDepth 100000 in
set_option maxHeartbeats 4000000 in
theorem c_law06_PledgeShuts (I : Hl) (x0 : ByteArray) (x1 : ByteArray) (x2 : ByteArray) (x3 : ByteArray) (res : Bool) (hF : F.law06_PledgeShuts x0 x1 x2 x3 = some res) : Tr Try.prog 4 [.string x0, .string x1, .string x2, .string x3] [imm I] (fun r H' => r = .bool res ∧ H' = [imm I]) := by
  unfold F.law06_PledgeShuts at hF
  refine tr_of_cw (fn := Try.f4) Try.func4 rfl (Nat.le_of_ble_eq_true rfl) 116 rfl fun F0 w0 => ?_
  refine cw_keep [0, 1, 2, 3] (L' := [(0, .string x0), (1, .string x1), (2, .string x2), (3, .string x3)]) rfl ?_
  refine cw_state (S' := SAT w0 ([imm I] ++ F0)) (fun w hs => hs) ?_
  refine cw_seq ?_
  refine cw_region ?_
  refine ow_vals 1 (j := 1) [0, 1, 2, 3] [(0, .string x0), (1, .string x1), (2, .string x2), (3, .string x3)] rfl (by kernel_rfl) ?_
  refine ow_end rfl ?_
  refine ew_then ?_
  refine cw_seq ?_
  refine cw_region ?_
  obtain ⟨r21, h22, hF⟩ := bind_some hF
  refine ow_pw rfl (pw_call (F := [] ++ F0) rfl rfl rfl rfl rfl rfl rfl (by kernel_rfl) (perm_of_pulls [0] rfl) (c_mill_New _ r21 h22) ?_)
  rintro _ _ ⟨r21_b1, r21_b3, r21_b5, rfl, rfl⟩
  refine nw_H (H' := [imm I, pt r21_b1 #[.map (some r21_b3), .map (some r21_b5), .string r21.twins_.e0, .string r21.twins_.e1, .bool r21.found_, .bool r21.full_, .int .i64 r21.sums_] 54, mpo kStr kStr r21_b3 r21.table_, mpo kStr kStr r21_b5 r21.notes_] ++ F0) rfl (nw_ow ?_)
  obtain ⟨r26, h27, hF⟩ := bind_some hF
  refine ow_pw rfl (pw_call (F := [pt r21_b1 #[.map (some r21_b3), .map (some r21_b5), .string r21.twins_.e0, .string r21.twins_.e1, .bool r21.found_, .bool r21.full_, .int .i64 r21.sums_] 54, mpo kStr kStr r21_b3 r21.table_, mpo kStr kStr r21_b5 r21.notes_] ++ F0) rfl rfl rfl rfl rfl rfl rfl (by kernel_rfl) (perm_of_pulls [0] rfl) (c_mill_New _ r26 h27) ?_)
  rintro _ _ ⟨r26_b1, r26_b3, r26_b5, rfl, rfl⟩
  refine nw_H (H' := [imm I, pt r26_b1 #[.map (some r26_b3), .map (some r26_b5), .string r26.twins_.e0, .string r26.twins_.e1, .bool r26.found_, .bool r26.full_, .int .i64 r26.sums_] 54, mpo kStr kStr r26_b3 r26.table_, mpo kStr kStr r26_b5 r26.notes_, pt r21_b1 #[.map (some r21_b3), .map (some r21_b5), .string r21.twins_.e0, .string r21.twins_.e1, .bool r21.found_, .bool r21.full_, .int .i64 r21.sums_] 54, mpo kStr kStr r21_b3 r21.table_, mpo kStr kStr r21_b5 r21.notes_] ++ F0) rfl (nw_ow ?_)
  refine ow_vals 2 (j := 4) [0, 1, 2, 3, 9, 10] [(0, .string x0), (1, .string x1), (2, .string x2), (3, .string x3), (9, .pointer (some ⟨r21_b1, 0, none⟩)), (10, .pointer (some ⟨r26_b1, 0, none⟩))] rfl (by kernel_rfl) ?_
  refine ow_end rfl ?_
  refine ew_then ?_
  refine cw_seq ?_
  refine cw_region ?_
  refine ow_vals 1 (j := 1) [1, 2, 3, 9, 10, 22] [(1, .string x1), (2, .string x2), (3, .string x3), (9, .pointer (some ⟨r21_b1, 0, none⟩)), (10, .pointer (some ⟨r26_b1, 0, none⟩)), (22, .string x0)] rfl (by kernel_rfl) ?_
  obtain ⟨r31, h32, hF⟩ := bind_some hF
  refine ow_pw rfl (pw_call (F := [pt r26_b1 #[.map (some r26_b3), .map (some r26_b5), .string r26.twins_.e0, .string r26.twins_.e1, .bool r26.found_, .bool r26.full_, .int .i64 r26.sums_] 54, mpo kStr kStr r26_b3 r26.table_, mpo kStr kStr r26_b5 r26.notes_, pt r21_b1 #[.map (some r21_b3), .map (some r21_b5), .string r21.twins_.e0, .string r21.twins_.e1, .bool r21.found_, .bool r21.full_, .int .i64 r21.sums_] 54, mpo kStr kStr r21_b3 r21.table_, mpo kStr kStr r21_b5 r21.notes_] ++ F0) rfl rfl rfl rfl rfl rfl rfl (by kernel_rfl) (perm_of_pulls [0] rfl) (c_law06_cut _ x0 r31 h32) ?_)
  rintro _ _ ⟨rfl, rfl⟩
  refine nw_H (H' := [imm I, pt r26_b1 #[.map (some r26_b3), .map (some r26_b5), .string r26.twins_.e0, .string r26.twins_.e1, .bool r26.found_, .bool r26.full_, .int .i64 r26.sums_] 54, mpo kStr kStr r26_b3 r26.table_, mpo kStr kStr r26_b5 r26.notes_, pt r21_b1 #[.map (some r21_b3), .map (some r21_b5), .string r21.twins_.e0, .string r21.twins_.e1, .bool r21.found_, .bool r21.full_, .int .i64 r21.sums_] 54, mpo kStr kStr r21_b3 r21.table_, mpo kStr kStr r21_b5 r21.notes_] ++ F0) rfl (nw_ow ?_)
  refine ow_vals 1 (j := 3) [0, 1, 2, 3, 9, 10] [(0, .string r31), (1, .string x1), (2, .string x2), (3, .string x3), (9, .pointer (some ⟨r21_b1, 0, none⟩)), (10, .pointer (some ⟨r26_b1, 0, none⟩))] rfl (by kernel_rfl) ?_
  refine ow_end rfl ?_
  refine ew_then ?_
  refine cw_seq ?_
  refine cw_region ?_
  refine ow_vals 1 (j := 1) [0, 2, 3, 9, 10, 24] [(0, .string r31), (2, .string x2), (3, .string x3), (9, .pointer (some ⟨r21_b1, 0, none⟩)), (10, .pointer (some ⟨r26_b1, 0, none⟩)), (24, .string x1)] rfl (by kernel_rfl) ?_
  obtain ⟨r33, h34, hF⟩ := bind_some hF
  refine ow_pw rfl (pw_call (F := [pt r26_b1 #[.map (some r26_b3), .map (some r26_b5), .string r26.twins_.e0, .string r26.twins_.e1, .bool r26.found_, .bool r26.full_, .int .i64 r26.sums_] 54, mpo kStr kStr r26_b3 r26.table_, mpo kStr kStr r26_b5 r26.notes_, pt r21_b1 #[.map (some r21_b3), .map (some r21_b5), .string r21.twins_.e0, .string r21.twins_.e1, .bool r21.found_, .bool r21.full_, .int .i64 r21.sums_] 54, mpo kStr kStr r21_b3 r21.table_, mpo kStr kStr r21_b5 r21.notes_] ++ F0) rfl rfl rfl rfl rfl rfl rfl (by kernel_rfl) (perm_of_pulls [0] rfl) (c_law06_cut _ x1 r33 h34) ?_)
  rintro _ _ ⟨rfl, rfl⟩
  refine nw_H (H' := [imm I, pt r26_b1 #[.map (some r26_b3), .map (some r26_b5), .string r26.twins_.e0, .string r26.twins_.e1, .bool r26.found_, .bool r26.full_, .int .i64 r26.sums_] 54, mpo kStr kStr r26_b3 r26.table_, mpo kStr kStr r26_b5 r26.notes_, pt r21_b1 #[.map (some r21_b3), .map (some r21_b5), .string r21.twins_.e0, .string r21.twins_.e1, .bool r21.found_, .bool r21.full_, .int .i64 r21.sums_] 54, mpo kStr kStr r21_b3 r21.table_, mpo kStr kStr r21_b5 r21.notes_] ++ F0) rfl (nw_ow ?_)
  refine ow_vals 1 (j := 3) [0, 1, 2, 3, 9, 10] [(0, .string r31), (1, .string r33), (2, .string x2), (3, .string x3), (9, .pointer (some ⟨r21_b1, 0, none⟩)), (10, .pointer (some ⟨r26_b1, 0, none⟩))] rfl (by kernel_rfl) ?_
  refine ow_end rfl ?_
  refine ew_then ?_
  refine cw_seq ?_
  refine cw_region ?_
  refine ow_vals 1 (j := 1) [0, 1, 3, 9, 10, 26] [(0, .string r31), (1, .string r33), (3, .string x3), (9, .pointer (some ⟨r21_b1, 0, none⟩)), (10, .pointer (some ⟨r26_b1, 0, none⟩)), (26, .string x2)] rfl (by kernel_rfl) ?_
  obtain ⟨r35, h36, hF⟩ := bind_some hF
  refine ow_pw rfl (pw_call (F := [pt r26_b1 #[.map (some r26_b3), .map (some r26_b5), .string r26.twins_.e0, .string r26.twins_.e1, .bool r26.found_, .bool r26.full_, .int .i64 r26.sums_] 54, mpo kStr kStr r26_b3 r26.table_, mpo kStr kStr r26_b5 r26.notes_, pt r21_b1 #[.map (some r21_b3), .map (some r21_b5), .string r21.twins_.e0, .string r21.twins_.e1, .bool r21.found_, .bool r21.full_, .int .i64 r21.sums_] 54, mpo kStr kStr r21_b3 r21.table_, mpo kStr kStr r21_b5 r21.notes_] ++ F0) rfl rfl rfl rfl rfl rfl rfl (by kernel_rfl) (perm_of_pulls [0] rfl) (c_law06_cut _ x2 r35 h36) ?_)
  rintro _ _ ⟨rfl, rfl⟩
  refine nw_H (H' := [imm I, pt r26_b1 #[.map (some r26_b3), .map (some r26_b5), .string r26.twins_.e0, .string r26.twins_.e1, .bool r26.found_, .bool r26.full_, .int .i64 r26.sums_] 54, mpo kStr kStr r26_b3 r26.table_, mpo kStr kStr r26_b5 r26.notes_, pt r21_b1 #[.map (some r21_b3), .map (some r21_b5), .string r21.twins_.e0, .string r21.twins_.e1, .bool r21.found_, .bool r21.full_, .int .i64 r21.sums_] 54, mpo kStr kStr r21_b3 r21.table_, mpo kStr kStr r21_b5 r21.notes_] ++ F0) rfl (nw_ow ?_)
  refine ow_vals 1 (j := 3) [0, 1, 2, 3, 9, 10] [(0, .string r31), (1, .string r33), (2, .string r35), (3, .string x3), (9, .pointer (some ⟨r21_b1, 0, none⟩)), (10, .pointer (some ⟨r26_b1, 0, none⟩))] rfl (by kernel_rfl) ?_
  refine ow_end rfl ?_
  refine ew_then ?_
  refine cw_seq ?_
  refine cw_region ?_
  refine ow_vals 1 (j := 1) [0, 1, 2, 9, 10, 28] [(0, .string r31), (1, .string r33), (2, .string r35), (9, .pointer (some ⟨r21_b1, 0, none⟩)), (10, .pointer (some ⟨r26_b1, 0, none⟩)), (28, .string x3)] rfl (by kernel_rfl) ?_
  obtain ⟨r37, h38, hF⟩ := bind_some hF
  refine ow_pw rfl (pw_call (F := [pt r26_b1 #[.map (some r26_b3), .map (some r26_b5), .string r26.twins_.e0, .string r26.twins_.e1, .bool r26.found_, .bool r26.full_, .int .i64 r26.sums_] 54, mpo kStr kStr r26_b3 r26.table_, mpo kStr kStr r26_b5 r26.notes_, pt r21_b1 #[.map (some r21_b3), .map (some r21_b5), .string r21.twins_.e0, .string r21.twins_.e1, .bool r21.found_, .bool r21.full_, .int .i64 r21.sums_] 54, mpo kStr kStr r21_b3 r21.table_, mpo kStr kStr r21_b5 r21.notes_] ++ F0) rfl rfl rfl rfl rfl rfl rfl (by kernel_rfl) (perm_of_pulls [0] rfl) (c_law06_cut _ x3 r37 h38) ?_)
  rintro _ _ ⟨rfl, rfl⟩
  refine nw_H (H' := [imm I, pt r26_b1 #[.map (some r26_b3), .map (some r26_b5), .string r26.twins_.e0, .string r26.twins_.e1, .bool r26.found_, .bool r26.full_, .int .i64 r26.sums_] 54, mpo kStr kStr r26_b3 r26.table_, mpo kStr kStr r26_b5 r26.notes_, pt r21_b1 #[.map (some r21_b3), .map (some r21_b5), .string r21.twins_.e0, .string r21.twins_.e1, .bool r21.found_, .bool r21.full_, .int .i64 r21.sums_] 54, mpo kStr kStr r21_b3 r21.table_, mpo kStr kStr r21_b5 r21.notes_] ++ F0) rfl (nw_ow ?_)
  refine ow_vals 1 (j := 3) [0, 1, 2, 3, 9, 10] [(0, .string r31), (1, .string r33), (2, .string r35), (3, .string r37), (9, .pointer (some ⟨r21_b1, 0, none⟩)), (10, .pointer (some ⟨r26_b1, 0, none⟩))] rfl (by kernel_rfl) ?_
  refine ow_end rfl ?_
  refine ew_then ?_
  refine cw_seq ?_
  refine cw_region ?_
  refine ow_vals 1 (j := 1) [0, 1, 2, 3, 9, 10, 11] [(0, .string r31), (1, .string r33), (2, .string r35), (3, .string r37), (9, .pointer (some ⟨r21_b1, 0, none⟩)), (10, .pointer (some ⟨r26_b1, 0, none⟩)), (11, .string (ByteArray.mk #[48, 49, 50, 51, 52, 53, 54, 55, 56, 57, 97, 98, 99, 100, 101, 102]))] rfl (by kernel_rfl) ?_
  refine ow_end rfl ?_
  refine ew_then ?_
  refine cw_seq ?_
  refine cw_region ?_
  refine ow_vals 1 (j := 1) [0, 1, 2, 3, 9, 10, 11, 30] [(0, .string r31), (1, .string r33), (2, .string r35), (3, .string r37), (9, .pointer (some ⟨r21_b1, 0, none⟩)), (10, .pointer (some ⟨r26_b1, 0, none⟩)), (11, .string (ByteArray.mk #[48, 49, 50, 51, 52, 53, 54, 55, 56, 57, 97, 98, 99, 100, 101, 102])), (30, .string r33)] rfl (by kernel_rfl) ?_
  obtain ⟨r39, h40, hF⟩ := bind_some hF
  refine ow_pw rfl (pw_call (F := [pt r26_b1 #[.map (some r26_b3), .map (some r26_b5), .string r26.twins_.e0, .string r26.twins_.e1, .bool r26.found_, .bool r26.full_, .int .i64 r26.sums_] 54, mpo kStr kStr r26_b3 r26.table_, mpo kStr kStr r26_b5 r26.notes_, pt r21_b1 #[.map (some r21_b3), .map (some r21_b5), .string r21.twins_.e0, .string r21.twins_.e1, .bool r21.found_, .bool r21.full_, .int .i64 r21.sums_] 54, mpo kStr kStr r21_b3 r21.table_, mpo kStr kStr r21_b5 r21.notes_] ++ F0) rfl rfl rfl rfl rfl rfl rfl (by kernel_rfl) (perm_of_pulls [0] rfl) (c_octet_Text _ r33 r39 h40) ?_)
  rintro _ _ ⟨rfl, rfl⟩
  refine nw_H (H' := [imm I, pt r26_b1 #[.map (some r26_b3), .map (some r26_b5), .string r26.twins_.e0, .string r26.twins_.e1, .bool r26.found_, .bool r26.full_, .int .i64 r26.sums_] 54, mpo kStr kStr r26_b3 r26.table_, mpo kStr kStr r26_b5 r26.notes_, pt r21_b1 #[.map (some r21_b3), .map (some r21_b5), .string r21.twins_.e0, .string r21.twins_.e1, .bool r21.found_, .bool r21.full_, .int .i64 r21.sums_] 54, mpo kStr kStr r21_b3 r21.table_, mpo kStr kStr r21_b5 r21.notes_] ++ F0) rfl (nw_ow ?_)
  obtain ⟨h41, hF⟩ := chk_some hF
  refine ow_pw rfl (pw_quiet (v := .string ((ByteArray.mk #[102, 105, 101, 108, 100]) ++ r39)) rfl rfl rfl rfl (q_concat rfl rfl rfl h41) (nw_ow ?_))
  refine ow_vals 1 (j := 4) [0, 1, 2, 3, 9, 10, 11, 12] [(0, .string r31), (1, .string r33), (2, .string r35), (3, .string r37), (9, .pointer (some ⟨r21_b1, 0, none⟩)), (10, .pointer (some ⟨r26_b1, 0, none⟩)), (11, .string (ByteArray.mk #[48, 49, 50, 51, 52, 53, 54, 55, 56, 57, 97, 98, 99, 100, 101, 102])), (12, .string ((ByteArray.mk #[102, 105, 101, 108, 100]) ++ r39))] rfl (by kernel_rfl) ?_
  refine ow_end rfl ?_
  refine ew_then ?_
  refine cw_seq ?_
  refine cw_region ?_
  refine ow_vals 5 (j := 5) [0, 1, 2, 3, 9, 10, 11, 12, 33, 34, 35, 36, 37] [(0, .string r31), (1, .string r33), (2, .string r35), (3, .string r37), (9, .pointer (some ⟨r21_b1, 0, none⟩)), (10, .pointer (some ⟨r26_b1, 0, none⟩)), (11, .string (ByteArray.mk #[48, 49, 50, 51, 52, 53, 54, 55, 56, 57, 97, 98, 99, 100, 101, 102])), (12, .string ((ByteArray.mk #[102, 105, 101, 108, 100]) ++ r39)), (33, .pointer (some ⟨r21_b1, 0, none⟩)), (34, .string r31), (35, .string r33), (36, .string (ByteArray.mk #[48, 49, 50, 51, 52, 53, 54, 55, 56, 57, 97, 98, 99, 100, 101, 102])), (37, .string r35)] rfl (by kernel_rfl) ?_
  obtain ⟨r42, h43, hF⟩ := bind_some hF
  refine ow_pw rfl (pw_call (F := [pt r26_b1 #[.map (some r26_b3), .map (some r26_b5), .string r26.twins_.e0, .string r26.twins_.e1, .bool r26.found_, .bool r26.full_, .int .i64 r26.sums_] 54, mpo kStr kStr r26_b3 r26.table_, mpo kStr kStr r26_b5 r26.notes_] ++ F0) rfl rfl rfl rfl rfl rfl rfl (by kernel_rfl) (perm_of_pulls [0, 3, 3, 3] rfl) (c_pledge_Shut _ r31 r33 (ByteArray.mk #[48, 49, 50, 51, 52, 53, 54, 55, 56, 57, 97, 98, 99, 100, 101, 102]) r35 r21 r21_b3 r21_b5 r21_b1 r42 h43) ?_)
  rintro _ _ ⟨rfl, rfl⟩
  refine nw_H (H' := [imm I, pt r21_b1 #[.map (some r21_b3), .map (some r21_b5), .string r21.twins_.e0, .string r21.twins_.e1, .bool r21.found_, .bool r21.full_, .int .i64 r21.sums_] 54, mpo kStr kStr r21_b3 r21.table_, mpo kStr kStr r21_b5 r21.notes_, pt r26_b1 #[.map (some r26_b3), .map (some r26_b5), .string r26.twins_.e0, .string r26.twins_.e1, .bool r26.found_, .bool r26.full_, .int .i64 r26.sums_] 54, mpo kStr kStr r26_b3 r26.table_, mpo kStr kStr r26_b5 r26.notes_] ++ F0) rfl (nw_ow ?_)
  refine ow_vals 1 (j := 7) [0, 1, 2, 3, 9, 10, 11, 12, 13] [(0, .string r31), (1, .string r33), (2, .string r35), (3, .string r37), (9, .pointer (some ⟨r21_b1, 0, none⟩)), (10, .pointer (some ⟨r26_b1, 0, none⟩)), (11, .string (ByteArray.mk #[48, 49, 50, 51, 52, 53, 54, 55, 56, 57, 97, 98, 99, 100, 101, 102])), (12, .string ((ByteArray.mk #[102, 105, 101, 108, 100]) ++ r39)), (13, .string r42)] rfl (by kernel_rfl) ?_
  refine ow_end rfl ?_
  refine ew_then ?_
  refine cw_seq ?_
  refine cw_region ?_
  refine ow_vals 4 (j := 4) [0, 1, 2, 3, 9, 10, 11, 12, 13, 40, 41, 42, 43] [(0, .string r31), (1, .string r33), (2, .string r35), (3, .string r37), (9, .pointer (some ⟨r21_b1, 0, none⟩)), (10, .pointer (some ⟨r26_b1, 0, none⟩)), (11, .string (ByteArray.mk #[48, 49, 50, 51, 52, 53, 54, 55, 56, 57, 97, 98, 99, 100, 101, 102])), (12, .string ((ByteArray.mk #[102, 105, 101, 108, 100]) ++ r39)), (13, .string r42), (40, .pointer (some ⟨r21_b1, 0, none⟩)), (41, .string r31), (42, .string r33), (43, .string r42)] rfl (by kernel_rfl) ?_
  obtain ⟨r44, h45, hF⟩ := bind_some hF
  refine ow_pw rfl (pw_call (F := [pt r26_b1 #[.map (some r26_b3), .map (some r26_b5), .string r26.twins_.e0, .string r26.twins_.e1, .bool r26.found_, .bool r26.full_, .int .i64 r26.sums_] 54, mpo kStr kStr r26_b3 r26.table_, mpo kStr kStr r26_b5 r26.notes_] ++ F0) rfl rfl rfl rfl rfl rfl rfl (by kernel_rfl) (perm_of_pulls [0, 0, 0, 0] rfl) (c_pledge_Open _ r31 r33 r42 r21 r21_b3 r21_b5 r21_b1 r44 h45) ?_)
  rintro _ _ ⟨rfl, rfl⟩
  refine nw_H (H' := [imm I, pt r21_b1 #[.map (some r21_b3), .map (some r21_b5), .string r21.twins_.e0, .string r21.twins_.e1, .bool r21.found_, .bool r21.full_, .int .i64 r21.sums_] 54, mpo kStr kStr r21_b3 r21.table_, mpo kStr kStr r21_b5 r21.notes_, pt r26_b1 #[.map (some r26_b3), .map (some r26_b5), .string r26.twins_.e0, .string r26.twins_.e1, .bool r26.found_, .bool r26.full_, .int .i64 r26.sums_] 54, mpo kStr kStr r26_b3 r26.table_, mpo kStr kStr r26_b5 r26.notes_] ++ F0) rfl (nw_ow ?_)
  refine ow_vals 7 (j := 12) [0, 1, 2, 3, 9, 10, 11, 12, 13, 14, 15, 16] [(0, .string r31), (1, .string r33), (2, .string r35), (3, .string r37), (9, .pointer (some ⟨r21_b1, 0, none⟩)), (10, .pointer (some ⟨r26_b1, 0, none⟩)), (11, .string (ByteArray.mk #[48, 49, 50, 51, 52, 53, 54, 55, 56, 57, 97, 98, 99, 100, 101, 102])), (12, .string ((ByteArray.mk #[102, 105, 101, 108, 100]) ++ r39)), (13, .string r42), (14, .string r44.1), (15, .string r44.2.1), (16, .bool r44.2.2)] rfl (by kernel_rfl) ?_
  refine ow_end rfl ?_
  refine ew_then ?_
  obtain ⟨v46, hF, hK46⟩ := thru_some hF
  refine cw_mid (fun a w => .inl () = v46 ∧ Fr 116 [(0, .string r31), (1, .string r33), (3, .string r37), (9, .pointer (some ⟨r21_b1, 0, none⟩)), (10, .pointer (some ⟨r26_b1, 0, none⟩)), (12, .string ((ByteArray.mk #[102, 105, 101, 108, 100]) ++ r39))] a ∧ SAT w0 ([imm I, pt r26_b1 #[.map (some r26_b3), .map (some r26_b5), .string r26.twins_.e0, .string r26.twins_.e1, .bool r26.found_, .bool r26.full_, .int .i64 r26.sums_] 54, pt r21_b1 #[.map (some r21_b3), .map (some r21_b5), .string r21.twins_.e0, .string r21.twins_.e1, .bool r21.found_, .bool r21.full_, .int .i64 r21.sums_] 54, mpo kStr kStr r26_b3 r26.table_, mpo kStr kStr r26_b5 r26.notes_, mpo kStr kStr r21_b3 r21.table_, mpo kStr kStr r21_b5 r21.notes_] ++ F0) w) ?_ ?_
  · refine cw_seq ?_
    refine cw_region ?_
    refine ow_vals 6 (j := 6) [0, 1, 2, 3, 9, 10, 11, 12, 14, 15, 16, 48, 49, 50, 51, 52, 53] [(0, .string r31), (1, .string r33), (2, .string r35), (3, .string r37), (9, .pointer (some ⟨r21_b1, 0, none⟩)), (10, .pointer (some ⟨r26_b1, 0, none⟩)), (11, .string (ByteArray.mk #[48, 49, 50, 51, 52, 53, 54, 55, 56, 57, 97, 98, 99, 100, 101, 102])), (12, .string ((ByteArray.mk #[102, 105, 101, 108, 100]) ++ r39)), (14, .string r44.1), (15, .string r44.2.1), (16, .bool r44.2.2), (48, .string r42), (49, .pointer (some ⟨r26_b1, 0, none⟩)), (50, .string r31), (51, .string ((ByteArray.mk #[102, 105, 101, 108, 100]) ++ r39)), (52, .string (ByteArray.mk #[48, 49, 50, 51, 52, 53, 54, 55, 56, 57, 97, 98, 99, 100, 101, 102])), (53, .string r35)] rfl (by kernel_rfl) ?_
    obtain ⟨h47, hF⟩ := chk_some hF
    refine ow_pw rfl (pw_quiet (v := .string ((ByteArray.mk #[48, 49, 50, 51, 52, 53, 54, 55, 56, 57, 97, 98, 99, 100, 101, 102]) ++ r35)) rfl rfl rfl rfl (q_concat rfl rfl rfl h47) (nw_ow ?_))
    obtain ⟨r48, h49, hF⟩ := bind_some hF
    refine ow_pw rfl (pw_call (F := [pt r21_b1 #[.map (some r21_b3), .map (some r21_b5), .string r21.twins_.e0, .string r21.twins_.e1, .bool r21.found_, .bool r21.full_, .int .i64 r21.sums_] 54, mpo kStr kStr r21_b3 r21.table_, mpo kStr kStr r21_b5 r21.notes_] ++ F0) rfl rfl rfl rfl rfl rfl rfl (by kernel_rfl) (perm_of_pulls [0, 3, 3, 3] rfl) (c_mill_Mill_Veil _ r31 ((ByteArray.mk #[102, 105, 101, 108, 100]) ++ r39) ((ByteArray.mk #[48, 49, 50, 51, 52, 53, 54, 55, 56, 57, 97, 98, 99, 100, 101, 102]) ++ r35) r26 r26_b3 r26_b5 r26_b1 r48 h49) ?_)
    rintro _ _ ⟨rfl, rfl⟩
    refine nw_H (H' := [imm I, pt r26_b1 #[.map (some r26_b3), .map (some r26_b5), .string r26.twins_.e0, .string r26.twins_.e1, .bool r26.found_, .bool r26.full_, .int .i64 r26.sums_] 54, mpo kStr kStr r26_b3 r26.table_, mpo kStr kStr r26_b5 r26.notes_, pt r21_b1 #[.map (some r21_b3), .map (some r21_b5), .string r21.twins_.e0, .string r21.twins_.e1, .bool r21.found_, .bool r21.full_, .int .i64 r21.sums_] 54, mpo kStr kStr r21_b3 r21.table_, mpo kStr kStr r21_b5 r21.notes_] ++ F0) rfl (nw_ow ?_)
    refine ow_vals 2 (j := 10) [0, 1, 2, 3, 9, 10, 11, 12, 14, 15, 16, 57] [(0, .string r31), (1, .string r33), (2, .string r35), (3, .string r37), (9, .pointer (some ⟨r21_b1, 0, none⟩)), (10, .pointer (some ⟨r26_b1, 0, none⟩)), (11, .string (ByteArray.mk #[48, 49, 50, 51, 52, 53, 54, 55, 56, 57, 97, 98, 99, 100, 101, 102])), (12, .string ((ByteArray.mk #[102, 105, 101, 108, 100]) ++ r39)), (14, .string r44.1), (15, .string r44.2.1), (16, .bool r44.2.2), (57, .bool (!(seqB r42 r48)))] rfl (by kernel_rfl) ?_
    rcases if_some hF with ⟨h50, hF⟩ | ⟨h50, hF⟩
    · refine ow_slots (L' := [(0, .string r31), (1, .string r33), (2, .string r35), (3, .string r37), (9, .pointer (some ⟨r21_b1, 0, none⟩)), (10, .pointer (some ⟨r26_b1, 0, none⟩)), (11, .string (ByteArray.mk #[48, 49, 50, 51, 52, 53, 54, 55, 56, 57, 97, 98, 99, 100, 101, 102])), (12, .string ((ByteArray.mk #[102, 105, 101, 108, 100]) ++ r39)), (14, .string r44.1), (15, .string r44.2.1), (16, .bool r44.2.2), (57, .bool true)]) (by rw [h50]) ?_
      refine ow_vals 13 (j := 23) [0, 1, 3, 9, 10, 12, 70] [(0, .string r31), (1, .string r33), (3, .string r37), (9, .pointer (some ⟨r21_b1, 0, none⟩)), (10, .pointer (some ⟨r26_b1, 0, none⟩)), (12, .string ((ByteArray.mk #[102, 105, 101, 108, 100]) ++ r39)), (70, .bool true)] rfl (by kernel_rfl) ?_
      refine ow_end rfl ?_
      refine ew_then ?_
      refine cw_cond_t rfl rfl rfl ?_
      refine cw_seq ?_
      refine cw_region ?_
      refine ow_vals 1 (j := 1) [8] [(8, .bool false)] rfl (by kernel_rfl) ?_
      refine ow_end rfl ?_
      refine ew_then ?_
      refine cw_ret ?_
      refine ew_then_ret ?_
      have hR := Option.some.inj hF
      subst hR
      have hR := hK46
      try dsimp only [Thru] at hR
      subst hR
      exact fin1 (H1 := [imm I]) (fun w hs => sat_to [1, 1, 1, 1, 1, 1, 0] 6 rfl hs) rfl (rr_tmp rfl) ⟨rfl, rfl⟩
    · refine ow_slots (L' := [(0, .string r31), (1, .string r33), (2, .string r35), (3, .string r37), (9, .pointer (some ⟨r21_b1, 0, none⟩)), (10, .pointer (some ⟨r26_b1, 0, none⟩)), (11, .string (ByteArray.mk #[48, 49, 50, 51, 52, 53, 54, 55, 56, 57, 97, 98, 99, 100, 101, 102])), (12, .string ((ByteArray.mk #[102, 105, 101, 108, 100]) ++ r39)), (14, .string r44.1), (15, .string r44.2.1), (16, .bool r44.2.2), (57, .bool false)]) (by rw [h50]) ?_
      refine ow_vals 5 (j := 15) [0, 1, 2, 3, 9, 10, 12, 15, 16, 62] [(0, .string r31), (1, .string r33), (2, .string r35), (3, .string r37), (9, .pointer (some ⟨r21_b1, 0, none⟩)), (10, .pointer (some ⟨r26_b1, 0, none⟩)), (12, .string ((ByteArray.mk #[102, 105, 101, 108, 100]) ++ r39)), (15, .string r44.2.1), (16, .bool r44.2.2), (62, .bool (!(seqB r44.1 (ByteArray.mk #[48, 49, 50, 51, 52, 53, 54, 55, 56, 57, 97, 98, 99, 100, 101, 102]))))] rfl (by kernel_rfl) ?_
      rcases if_some hF with ⟨h51, hF⟩ | ⟨h51, hF⟩
      · refine ow_slots (L' := [(0, .string r31), (1, .string r33), (2, .string r35), (3, .string r37), (9, .pointer (some ⟨r21_b1, 0, none⟩)), (10, .pointer (some ⟨r26_b1, 0, none⟩)), (12, .string ((ByteArray.mk #[102, 105, 101, 108, 100]) ++ r39)), (15, .string r44.2.1), (16, .bool r44.2.2), (62, .bool true)]) (by rw [h51]) ?_
        refine ow_vals 8 (j := 23) [0, 1, 3, 9, 10, 12, 70] [(0, .string r31), (1, .string r33), (3, .string r37), (9, .pointer (some ⟨r21_b1, 0, none⟩)), (10, .pointer (some ⟨r26_b1, 0, none⟩)), (12, .string ((ByteArray.mk #[102, 105, 101, 108, 100]) ++ r39)), (70, .bool true)] rfl (by kernel_rfl) ?_
        refine ow_end rfl ?_
        refine ew_then ?_
        refine cw_cond_t rfl rfl rfl ?_
        refine cw_seq ?_
        refine cw_region ?_
        refine ow_vals 1 (j := 1) [8] [(8, .bool false)] rfl (by kernel_rfl) ?_
        refine ow_end rfl ?_
        refine ew_then ?_
        refine cw_ret ?_
        refine ew_then_ret ?_
        have hR := Option.some.inj hF
        subst hR
        have hR := hK46
        try dsimp only [Thru] at hR
        subst hR
        exact fin1 (H1 := [imm I]) (fun w hs => sat_to [1, 1, 1, 1, 1, 1, 0] 6 rfl hs) rfl (rr_tmp rfl) ⟨rfl, rfl⟩
      · refine ow_slots (L' := [(0, .string r31), (1, .string r33), (2, .string r35), (3, .string r37), (9, .pointer (some ⟨r21_b1, 0, none⟩)), (10, .pointer (some ⟨r26_b1, 0, none⟩)), (12, .string ((ByteArray.mk #[102, 105, 101, 108, 100]) ++ r39)), (15, .string r44.2.1), (16, .bool r44.2.2), (62, .bool false)]) (by rw [h51]) ?_
        refine ow_vals 5 (j := 20) [0, 1, 3, 9, 10, 12, 16, 67] [(0, .string r31), (1, .string r33), (3, .string r37), (9, .pointer (some ⟨r21_b1, 0, none⟩)), (10, .pointer (some ⟨r26_b1, 0, none⟩)), (12, .string ((ByteArray.mk #[102, 105, 101, 108, 100]) ++ r39)), (16, .bool r44.2.2), (67, .bool (!(seqB r44.2.1 r35)))] rfl (by kernel_rfl) ?_
        rcases if_some hF with ⟨h52, hF⟩ | ⟨h52, hF⟩
        · refine ow_slots (L' := [(0, .string r31), (1, .string r33), (3, .string r37), (9, .pointer (some ⟨r21_b1, 0, none⟩)), (10, .pointer (some ⟨r26_b1, 0, none⟩)), (12, .string ((ByteArray.mk #[102, 105, 101, 108, 100]) ++ r39)), (16, .bool r44.2.2), (67, .bool true)]) (by rw [h52]) ?_
          refine ow_vals 3 (j := 23) [0, 1, 3, 9, 10, 12, 70] [(0, .string r31), (1, .string r33), (3, .string r37), (9, .pointer (some ⟨r21_b1, 0, none⟩)), (10, .pointer (some ⟨r26_b1, 0, none⟩)), (12, .string ((ByteArray.mk #[102, 105, 101, 108, 100]) ++ r39)), (70, .bool true)] rfl (by kernel_rfl) ?_
          refine ow_end rfl ?_
          refine ew_then ?_
          refine cw_cond_t rfl rfl rfl ?_
          refine cw_seq ?_
          refine cw_region ?_
          refine ow_vals 1 (j := 1) [8] [(8, .bool false)] rfl (by kernel_rfl) ?_
          refine ow_end rfl ?_
          refine ew_then ?_
          refine cw_ret ?_
          refine ew_then_ret ?_
          have hR := Option.some.inj hF
          subst hR
          have hR := hK46
          try dsimp only [Thru] at hR
          subst hR
          exact fin1 (H1 := [imm I]) (fun w hs => sat_to [1, 1, 1, 1, 1, 1, 0] 6 rfl hs) rfl (rr_tmp rfl) ⟨rfl, rfl⟩
        · refine ow_slots (L' := [(0, .string r31), (1, .string r33), (3, .string r37), (9, .pointer (some ⟨r21_b1, 0, none⟩)), (10, .pointer (some ⟨r26_b1, 0, none⟩)), (12, .string ((ByteArray.mk #[102, 105, 101, 108, 100]) ++ r39)), (16, .bool r44.2.2), (67, .bool false)]) (by rw [h52]) ?_
          refine ow_vals 3 (j := 23) [0, 1, 3, 9, 10, 12, 70] [(0, .string r31), (1, .string r33), (3, .string r37), (9, .pointer (some ⟨r21_b1, 0, none⟩)), (10, .pointer (some ⟨r26_b1, 0, none⟩)), (12, .string ((ByteArray.mk #[102, 105, 101, 108, 100]) ++ r39)), (70, .bool (!r44.2.2))] rfl (by kernel_rfl) ?_
          refine ow_end rfl ?_
          refine ew_then ?_
          rcases if_some hF with ⟨h53, hF⟩ | ⟨h53, hF⟩
          · refine cw_cond_t rfl rfl h53 ?_
            refine cw_seq ?_
            refine cw_region ?_
            refine ow_vals 1 (j := 1) [8] [(8, .bool false)] rfl (by kernel_rfl) ?_
            refine ow_end rfl ?_
            refine ew_then ?_
            refine cw_ret ?_
            refine ew_then_ret ?_
            have hR := Option.some.inj hF
            subst hR
            have hR := hK46
            try dsimp only [Thru] at hR
            subst hR
            exact fin1 (H1 := [imm I]) (fun w hs => sat_to [1, 1, 1, 1, 1, 1, 0] 6 rfl hs) rfl (rr_tmp rfl) ⟨rfl, rfl⟩
          · refine cw_cond_f rfl rfl h53 ?_
            refine cw_skip ?_
            have hR := Option.some.inj hF
            exact fun a w hf hs => ⟨hR, hf.keep [0, 1, 3, 9, 10, 12], sat_to [0, 0, 2, 0, 0, 0, 0] 0 rfl hs⟩
  · rintro a w ⟨hv, hf, hs⟩
    subst hv
    replace hF := hK46
    clear hK46
    try dsimp only [Thru] at hF
    revert a w
    show CW _ _ _ 116 [(0, .string r31), (1, .string r33), (3, .string r37), (9, .pointer (some ⟨r21_b1, 0, none⟩)), (10, .pointer (some ⟨r26_b1, 0, none⟩)), (12, .string ((ByteArray.mk #[102, 105, 101, 108, 100]) ++ r39))] (SAT w0 ([imm I, pt r26_b1 #[.map (some r26_b3), .map (some r26_b5), .string r26.twins_.e0, .string r26.twins_.e1, .bool r26.found_, .bool r26.full_, .int .i64 r26.sums_] 54, pt r21_b1 #[.map (some r21_b3), .map (some r21_b5), .string r21.twins_.e0, .string r21.twins_.e1, .bool r21.found_, .bool r21.full_, .int .i64 r21.sums_] 54, mpo kStr kStr r26_b3 r26.table_, mpo kStr kStr r26_b5 r26.notes_, mpo kStr kStr r21_b3 r21.table_, mpo kStr kStr r21_b5 r21.notes_] ++ F0))
    unfold F.law06_PledgeShuts.r1 at hF
    refine cw_seq ?_
    refine cw_region ?_
    refine ow_vals 4 (j := 4) [0, 3, 10, 12, 72, 73, 74, 75] [(0, .string r31), (3, .string r37), (10, .pointer (some ⟨r26_b1, 0, none⟩)), (12, .string ((ByteArray.mk #[102, 105, 101, 108, 100]) ++ r39)), (72, .pointer (some ⟨r21_b1, 0, none⟩)), (73, .string r31), (74, .string r33), (75, .string r37)] rfl (by kernel_rfl) ?_
    obtain ⟨r54, h55, hF⟩ := bind_some hF
    refine ow_pw rfl (pw_call (F := [pt r26_b1 #[.map (some r26_b3), .map (some r26_b5), .string r26.twins_.e0, .string r26.twins_.e1, .bool r26.found_, .bool r26.full_, .int .i64 r26.sums_] 54, mpo kStr kStr r26_b3 r26.table_, mpo kStr kStr r26_b5 r26.notes_] ++ F0) rfl rfl rfl rfl rfl rfl rfl (by kernel_rfl) (perm_of_pulls [0, 1, 3, 3] rfl) (c_pledge_Open _ r31 r33 r37 r21 r21_b3 r21_b5 r21_b1 r54 h55) ?_)
    rintro _ _ ⟨rfl, rfl⟩
    refine nw_H (H' := [imm I, pt r21_b1 #[.map (some r21_b3), .map (some r21_b5), .string r21.twins_.e0, .string r21.twins_.e1, .bool r21.found_, .bool r21.full_, .int .i64 r21.sums_] 54, mpo kStr kStr r21_b3 r21.table_, mpo kStr kStr r21_b5 r21.notes_, pt r26_b1 #[.map (some r26_b3), .map (some r26_b5), .string r26.twins_.e0, .string r26.twins_.e1, .bool r26.found_, .bool r26.full_, .int .i64 r26.sums_] 54, mpo kStr kStr r26_b3 r26.table_, mpo kStr kStr r26_b5 r26.notes_] ++ F0) rfl (nw_ow ?_)
    refine ow_vals 7 (j := 12) [0, 3, 10, 12, 17, 18, 19] [(0, .string r31), (3, .string r37), (10, .pointer (some ⟨r26_b1, 0, none⟩)), (12, .string ((ByteArray.mk #[102, 105, 101, 108, 100]) ++ r39)), (17, .string r54.1), (18, .string r54.2.1), (19, .bool r54.2.2)] rfl (by kernel_rfl) ?_
    refine ow_end rfl ?_
    refine ew_then ?_
    obtain ⟨v56, hF, hK56⟩ := thru_some hF
    refine cw_mid (fun a w => .inl () = v56 ∧ Fr 116 [(0, .string r31), (3, .string r37), (10, .pointer (some ⟨r26_b1, 0, none⟩)), (12, .string ((ByteArray.mk #[102, 105, 101, 108, 100]) ++ r39)), (17, .string r54.1), (18, .string r54.2.1), (19, .bool r54.2.2)] a ∧ SAT w0 ([imm I, pt r21_b1 #[.map (some r21_b3), .map (some r21_b5), .string r21.twins_.e0, .string r21.twins_.e1, .bool r21.found_, .bool r21.full_, .int .i64 r21.sums_] 54, pt r26_b1 #[.map (some r26_b3), .map (some r26_b5), .string r26.twins_.e0, .string r26.twins_.e1, .bool r26.found_, .bool r26.full_, .int .i64 r26.sums_] 54, mpo kStr kStr r21_b3 r21.table_, mpo kStr kStr r21_b5 r21.notes_, mpo kStr kStr r26_b3 r26.table_, mpo kStr kStr r26_b5 r26.notes_] ++ F0) w) ?_ ?_
    · refine cw_seq ?_
      refine cw_region ?_
      refine ow_vals 3 (j := 3) [0, 3, 10, 12, 17, 18, 19, 82] [(0, .string r31), (3, .string r37), (10, .pointer (some ⟨r26_b1, 0, none⟩)), (12, .string ((ByteArray.mk #[102, 105, 101, 108, 100]) ++ r39)), (17, .string r54.1), (18, .string r54.2.1), (19, .bool r54.2.2), (82, .bool (decide ((r37.size : Int) < 16)))] rfl (by kernel_rfl) ?_
      refine ow_end rfl ?_
      refine ew_then ?_
      rcases if_some hF with ⟨h57, hF⟩ | ⟨h57, hF⟩
      · refine cw_cond_t rfl rfl h57 ?_
        refine cw_seq ?_
        refine cw_region ?_
        refine ow_vals 3 (j := 3) [18, 19, 85] [(18, .string r54.2.1), (19, .bool r54.2.2), (85, .bool (seqB r54.1 (ByteArray.mk #[])))] rfl (by kernel_rfl) ?_
        rcases if_some hF with ⟨h58, hF⟩ | ⟨h58, hF⟩
        · refine ow_slots (L' := [(18, .string r54.2.1), (19, .bool r54.2.2), (85, .bool true)]) (by rw [h58]) ?_
          refine ow_vals 4 (j := 7) [19, 89] [(19, .bool r54.2.2), (89, .bool (seqB r54.2.1 (ByteArray.mk #[])))] rfl (by kernel_rfl) ?_
          rcases if_some hF with ⟨h59, hF⟩ | ⟨h59, hF⟩
          · refine ow_slots (L' := [(19, .bool r54.2.2), (89, .bool true)]) (by rw [h59]) ?_
            refine ow_vals 4 (j := 11) [93] [(93, .bool (!r54.2.2))] rfl (by kernel_rfl) ?_
            rcases if_some hF with ⟨h60, hF⟩ | ⟨h60, hF⟩
            · refine ow_slots (L' := [(93, .bool true)]) (by rw [h60]) ?_
              obtain ⟨r61, h62, hF⟩ := bind_some hF
              refine ow_pw rfl (pw_call (F := [pt r21_b1 #[.map (some r21_b3), .map (some r21_b5), .string r21.twins_.e0, .string r21.twins_.e1, .bool r21.found_, .bool r21.full_, .int .i64 r21.sums_] 54, mpo kStr kStr r21_b3 r21.table_, mpo kStr kStr r21_b5 r21.notes_, pt r26_b1 #[.map (some r26_b3), .map (some r26_b5), .string r26.twins_.e0, .string r26.twins_.e1, .bool r26.found_, .bool r26.full_, .int .i64 r26.sums_] 54, mpo kStr kStr r26_b3 r26.table_, mpo kStr kStr r26_b5 r26.notes_] ++ F0) rfl rfl rfl rfl rfl rfl rfl (by kernel_rfl) (perm_of_pulls [0] rfl) (c_law06_awake _ r61 h62) ?_)
              rintro _ _ ⟨rfl, rfl⟩
              refine nw_H (H' := [imm I, pt r21_b1 #[.map (some r21_b3), .map (some r21_b5), .string r21.twins_.e0, .string r21.twins_.e1, .bool r21.found_, .bool r21.full_, .int .i64 r21.sums_] 54, mpo kStr kStr r21_b3 r21.table_, mpo kStr kStr r21_b5 r21.notes_, pt r26_b1 #[.map (some r26_b3), .map (some r26_b5), .string r26.twins_.e0, .string r26.twins_.e1, .bool r26.found_, .bool r26.full_, .int .i64 r26.sums_] 54, mpo kStr kStr r26_b3 r26.table_, mpo kStr kStr r26_b5 r26.notes_] ++ F0) rfl (nw_ow ?_)
              refine ow_vals 2 (j := 14) [8] [(8, .bool r61)] rfl (by kernel_rfl) ?_
              refine ow_end rfl ?_
              refine ew_then ?_
              refine cw_ret ?_
              refine ew_then_ret ?_
              have hR := Option.some.inj hF
              subst hR
              have hR := hK56
              try dsimp only [Thru] at hR
              subst hR
              exact fin1 (H1 := [imm I]) (fun w hs => sat_to [1, 1, 1, 1, 1, 1, 0] 6 rfl hs) rfl (rr_tmp rfl) ⟨rfl, rfl⟩
            · refine ow_slots (L' := [(93, .bool false)]) (by rw [h60]) ?_
              refine ow_vals 3 (j := 14) [8] [(8, .bool false)] rfl (by kernel_rfl) ?_
              refine ow_end rfl ?_
              refine ew_then ?_
              refine cw_ret ?_
              refine ew_then_ret ?_
              have hR := Option.some.inj hF
              subst hR
              have hR := hK56
              try dsimp only [Thru] at hR
              subst hR
              exact fin1 (H1 := [imm I]) (fun w hs => sat_to [1, 1, 1, 1, 1, 1, 0] 6 rfl hs) rfl (rr_tmp rfl) ⟨rfl, rfl⟩
          · refine ow_slots (L' := [(19, .bool r54.2.2), (89, .bool false)]) (by rw [h59]) ?_
            refine ow_vals 7 (j := 14) [8] [(8, .bool false)] rfl (by kernel_rfl) ?_
            refine ow_end rfl ?_
            refine ew_then ?_
            refine cw_ret ?_
            refine ew_then_ret ?_
            have hR := Option.some.inj hF
            subst hR
            have hR := hK56
            try dsimp only [Thru] at hR
            subst hR
            exact fin1 (H1 := [imm I]) (fun w hs => sat_to [1, 1, 1, 1, 1, 1, 0] 6 rfl hs) rfl (rr_tmp rfl) ⟨rfl, rfl⟩
        · refine ow_slots (L' := [(18, .string r54.2.1), (19, .bool r54.2.2), (85, .bool false)]) (by rw [h58]) ?_
          refine ow_vals 11 (j := 14) [8] [(8, .bool false)] rfl (by kernel_rfl) ?_
          refine ow_end rfl ?_
          refine ew_then ?_
          refine cw_ret ?_
          refine ew_then_ret ?_
          have hR := Option.some.inj hF
          subst hR
          have hR := hK56
          try dsimp only [Thru] at hR
          subst hR
          exact fin1 (H1 := [imm I]) (fun w hs => sat_to [1, 1, 1, 1, 1, 1, 0] 6 rfl hs) rfl (rr_tmp rfl) ⟨rfl, rfl⟩
      · refine cw_cond_f rfl rfl h57 ?_
        refine cw_skip ?_
        have hR := Option.some.inj hF
        exact fun a w hf hs => ⟨hR, hf.keep [0, 3, 10, 12, 17, 18, 19], sat_to [0, 0, 2, 0, 0, 0, 0] 0 rfl hs⟩
    · rintro a w ⟨hv, hf, hs⟩
      subst hv
      replace hF := hK56
      clear hK56
      try dsimp only [Thru] at hF
      revert a w
      show CW _ _ _ 116 [(0, .string r31), (3, .string r37), (10, .pointer (some ⟨r26_b1, 0, none⟩)), (12, .string ((ByteArray.mk #[102, 105, 101, 108, 100]) ++ r39)), (17, .string r54.1), (18, .string r54.2.1), (19, .bool r54.2.2)] (SAT w0 ([imm I, pt r21_b1 #[.map (some r21_b3), .map (some r21_b5), .string r21.twins_.e0, .string r21.twins_.e1, .bool r21.found_, .bool r21.full_, .int .i64 r21.sums_] 54, pt r26_b1 #[.map (some r26_b3), .map (some r26_b5), .string r26.twins_.e0, .string r26.twins_.e1, .bool r26.found_, .bool r26.full_, .int .i64 r26.sums_] 54, mpo kStr kStr r21_b3 r21.table_, mpo kStr kStr r21_b5 r21.notes_, mpo kStr kStr r26_b3 r26.table_, mpo kStr kStr r26_b5 r26.notes_] ++ F0))
      unfold F.law06_PledgeShuts.r2 at hF
      refine cw_seq ?_
      refine cw_region ?_
      refine ow_vals 2 (j := 2) [0, 3, 10, 12, 17, 18, 97] [(0, .string r31), (3, .string r37), (10, .pointer (some ⟨r26_b1, 0, none⟩)), (12, .string ((ByteArray.mk #[102, 105, 101, 108, 100]) ++ r39)), (17, .string r54.1), (18, .string r54.2.1), (97, .bool r54.2.2)] rfl (by kernel_rfl) ?_
      rcases if_some hF with ⟨h63, hF⟩ | ⟨h63, hF⟩
      · refine ow_slots (L' := [(0, .string r31), (3, .string r37), (10, .pointer (some ⟨r26_b1, 0, none⟩)), (12, .string ((ByteArray.mk #[102, 105, 101, 108, 100]) ++ r39)), (17, .string r54.1), (18, .string r54.2.1), (97, .bool true)]) (by rw [h63]) ?_
        refine ow_vals 5 (j := 7) [0, 3, 10, 12, 17, 18, 102] [(0, .string r31), (3, .string r37), (10, .pointer (some ⟨r26_b1, 0, none⟩)), (12, .string ((ByteArray.mk #[102, 105, 101, 108, 100]) ++ r39)), (17, .string r54.1), (18, .string r54.2.1), (102, .bool ((r54.1.size : Int) == 16))] rfl (by kernel_rfl) ?_
        rcases if_some hF with ⟨h64, hF⟩ | ⟨h64, hF⟩
        · refine ow_slots (L' := [(0, .string r31), (3, .string r37), (10, .pointer (some ⟨r26_b1, 0, none⟩)), (12, .string ((ByteArray.mk #[102, 105, 101, 108, 100]) ++ r39)), (17, .string r54.1), (18, .string r54.2.1), (102, .bool true)]) (by rw [h64]) ?_
          refine ow_vals 2 (j := 9) [0, 3, 10, 12, 102, 103, 104] [(0, .string r31), (3, .string r37), (10, .pointer (some ⟨r26_b1, 0, none⟩)), (12, .string ((ByteArray.mk #[102, 105, 101, 108, 100]) ++ r39)), (102, .bool true), (103, .string r54.1), (104, .string r54.2.1)] rfl (by kernel_rfl) ?_
          obtain ⟨h65, hF⟩ := chk_some hF
          refine ow_pw rfl (pw_quiet (v := .string (r54.1 ++ r54.2.1)) rfl rfl rfl rfl (q_concat rfl rfl rfl h65) (nw_ow ?_))
          refine ow_vals 4 (j := 14) [102, 105, 106, 107, 108, 109] [(102, .bool true), (105, .string (r54.1 ++ r54.2.1)), (106, .pointer (some ⟨r26_b1, 0, none⟩)), (107, .string r31), (108, .string ((ByteArray.mk #[102, 105, 101, 108, 100]) ++ r39)), (109, .string r37)] rfl (by kernel_rfl) ?_
          obtain ⟨r66, h67, hF⟩ := bind_some hF
          refine ow_pw rfl (pw_call (F := [pt r21_b1 #[.map (some r21_b3), .map (some r21_b5), .string r21.twins_.e0, .string r21.twins_.e1, .bool r21.found_, .bool r21.full_, .int .i64 r21.sums_] 54, mpo kStr kStr r21_b3 r21.table_, mpo kStr kStr r21_b5 r21.notes_] ++ F0) rfl rfl rfl rfl rfl rfl rfl (by kernel_rfl) (perm_of_pulls [0, 1, 3, 3] rfl) (c_mill_Mill_Veil _ r31 ((ByteArray.mk #[102, 105, 101, 108, 100]) ++ r39) r37 r26 r26_b3 r26_b5 r26_b1 r66 h67) ?_)
          rintro _ _ ⟨rfl, rfl⟩
          refine nw_H (H' := [imm I, pt r26_b1 #[.map (some r26_b3), .map (some r26_b5), .string r26.twins_.e0, .string r26.twins_.e1, .bool r26.found_, .bool r26.full_, .int .i64 r26.sums_] 54, mpo kStr kStr r26_b3 r26.table_, mpo kStr kStr r26_b5 r26.notes_, pt r21_b1 #[.map (some r21_b3), .map (some r21_b5), .string r21.twins_.e0, .string r21.twins_.e1, .bool r21.found_, .bool r21.full_, .int .i64 r21.sums_] 54, mpo kStr kStr r21_b3 r21.table_, mpo kStr kStr r21_b5 r21.notes_] ++ F0) rfl (nw_ow ?_)
          refine ow_vals 3 (j := 18) [113] [(113, .bool (seqB (r54.1 ++ r54.2.1) r66))] rfl (by kernel_rfl) ?_
          rcases if_some hF with ⟨h68, hF⟩ | ⟨h68, hF⟩
          · refine ow_slots (L' := [(113, .bool true)]) (by rw [h68]) ?_
            obtain ⟨r69, h70, hF⟩ := bind_some hF
            refine ow_pw rfl (pw_call (F := [pt r26_b1 #[.map (some r26_b3), .map (some r26_b5), .string r26.twins_.e0, .string r26.twins_.e1, .bool r26.found_, .bool r26.full_, .int .i64 r26.sums_] 54, mpo kStr kStr r26_b3 r26.table_, mpo kStr kStr r26_b5 r26.notes_, pt r21_b1 #[.map (some r21_b3), .map (some r21_b5), .string r21.twins_.e0, .string r21.twins_.e1, .bool r21.found_, .bool r21.full_, .int .i64 r21.sums_] 54, mpo kStr kStr r21_b3 r21.table_, mpo kStr kStr r21_b5 r21.notes_] ++ F0) rfl rfl rfl rfl rfl rfl rfl (by kernel_rfl) (perm_of_pulls [0] rfl) (c_law06_awake _ r69 h70) ?_)
            rintro _ _ ⟨rfl, rfl⟩
            refine nw_H (H' := [imm I, pt r26_b1 #[.map (some r26_b3), .map (some r26_b5), .string r26.twins_.e0, .string r26.twins_.e1, .bool r26.found_, .bool r26.full_, .int .i64 r26.sums_] 54, mpo kStr kStr r26_b3 r26.table_, mpo kStr kStr r26_b5 r26.notes_, pt r21_b1 #[.map (some r21_b3), .map (some r21_b5), .string r21.twins_.e0, .string r21.twins_.e1, .bool r21.found_, .bool r21.full_, .int .i64 r21.sums_] 54, mpo kStr kStr r21_b3 r21.table_, mpo kStr kStr r21_b5 r21.notes_] ++ F0) rfl (nw_ow ?_)
            refine ow_vals 2 (j := 21) [8] [(8, .bool r69)] rfl (by kernel_rfl) ?_
            refine ow_end rfl ?_
            refine ew_then ?_
            refine cw_ret ?_
            have hR := Option.some.inj hF
            subst hR
            exact fin1 (H1 := [imm I]) (fun w hs => sat_to [1, 1, 1, 1, 1, 1, 0] 6 rfl hs) rfl (rr_tmp rfl) ⟨rfl, rfl⟩
          · refine ow_slots (L' := [(113, .bool false)]) (by rw [h68]) ?_
            refine ow_vals 3 (j := 21) [8] [(8, .bool false)] rfl (by kernel_rfl) ?_
            refine ow_end rfl ?_
            refine ew_then ?_
            refine cw_ret ?_
            have hR := Option.some.inj hF
            subst hR
            exact fin1 (H1 := [imm I]) (fun w hs => sat_to [1, 1, 1, 1, 1, 1, 0] 6 rfl hs) rfl (rr_tmp rfl) ⟨rfl, rfl⟩
        · refine ow_slots (L' := [(0, .string r31), (3, .string r37), (10, .pointer (some ⟨r26_b1, 0, none⟩)), (12, .string ((ByteArray.mk #[102, 105, 101, 108, 100]) ++ r39)), (17, .string r54.1), (18, .string r54.2.1), (102, .bool false)]) (by rw [h64]) ?_
          refine ow_vals 14 (j := 21) [8] [(8, .bool false)] rfl (by kernel_rfl) ?_
          refine ow_end rfl ?_
          refine ew_then ?_
          refine cw_ret ?_
          have hR := Option.some.inj hF
          subst hR
          exact fin1 (H1 := [imm I]) (fun w hs => sat_to [1, 1, 1, 1, 1, 1, 0] 6 rfl hs) rfl (rr_tmp rfl) ⟨rfl, rfl⟩
      · refine ow_slots (L' := [(0, .string r31), (3, .string r37), (10, .pointer (some ⟨r26_b1, 0, none⟩)), (12, .string ((ByteArray.mk #[102, 105, 101, 108, 100]) ++ r39)), (17, .string r54.1), (18, .string r54.2.1), (97, .bool false)]) (by rw [h63]) ?_
        refine ow_vals 19 (j := 21) [8] [(8, .bool false)] rfl (by kernel_rfl) ?_
        refine ow_end rfl ?_
        refine ew_then ?_
        refine cw_ret ?_
        have hR := Option.some.inj hF
        subst hR
        exact fin1 (H1 := [imm I]) (fun w hs => sat_to [1, 1, 1, 1, 1, 1, 0] 6 rfl hs) rfl (rr_tmp rfl) ⟨rfl, rfl⟩

end Go.Proofs.Ytfjnafgigfapbaa
