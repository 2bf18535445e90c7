/- What the functions compute, and that the code computes it: printed by a program of this claim (wip/tools), for the group Keys. -/
import Derived.Test.YtfjnafgigfapbaaGPledge
namespace Go.Proofs.Ytfjnafgigfapbaa
set_option linter.all false
open Go Go.RowKit Go.Fw
set_option linter.unusedVariables false

def F.law06_PledgeKeys (x0 : ByteArray) (x1 : ByteArray) : Option Bool :=
  Option.bind (F.mill_New) (fun (r21 : mill_Mill) => Option.bind (F.mill_New) (fun (r26 : mill_Mill) => Option.bind (F.law06_cut x0) (fun (r31 : ByteArray) => Option.bind (F.law06_cut x1) (fun (r33 : ByteArray) => Option.bind (F.octet_Text r33) (fun (r35 : ByteArray) => chk ((ByteArray.mk #[115, 97, 108, 116]).size + r35.size ≤ 9223372036854775807) (Option.bind (F.mill_Mill_Tag r31 ((ByteArray.mk #[115, 97, 108, 116]) ++ r35) r26) (fun (r38 : ByteArray) => if (r38.size : Int) != 32 then (some (false)) else (Option.bind (F.pledge_Key r31 r21) (fun (r41 : ByteArray) => Option.bind (F.mill_Mill_Tag r31 (ByteArray.mk #[107, 101, 121]) r26) (fun (r43 : ByteArray) => if seqB r41 r43 then (chk (0 ≤ (0 : Int) ∧ (0 : Int) ≤ (16 : Int) ∧ (16 : Int) ≤ (r38.size : Int)) (Option.bind (F.pledge_Salt r31 r33 r21) (fun (r47 : ByteArray) => if seqB r47 (r38.extract (0 : Int).toNat (16 : Int).toNat) then (Option.bind (F.law06_awake) (fun (r50 : Bool) => some (r50))) else (some (false))))) else (some (false))))))))))))
set_option maxRecDepth 100000 in
set_option maxHeartbeats 4000000 in
theorem c_law06_PledgeKeys (I : Hl) (x0 : ByteArray) (x1 : ByteArray) (res : Bool) (hF : F.law06_PledgeKeys x0 x1 = some res) : Tr Try.prog 3 [.string x0, .string x1] [imm I] (fun r H' => r = .bool res ∧ H' = [imm I]) := by
  unfold F.law06_PledgeKeys at hF
  refine tr_of_cw (fn := Try.f3) Try.func3 rfl (Nat.le_of_ble_eq_true rfl) 42 rfl fun F0 w0 => ?_
  refine cw_keep [0, 1] (L' := [(0, .string x0), (1, .string x1)]) rfl ?_
  refine cw_state (S' := SAT w0 ([imm I] ++ F0)) (fun w hs => hs) ?_
  refine cw_seq ?_
  refine cw_region ?_
  refine ow_vals 1 (j := 1) [0, 1] [(0, .string x0), (1, .string x1)] rfl (by kernel_rfl) ?_
  refine ow_end rfl ?_
  refine ew_then ?_
  refine cw_seq ?_
  refine cw_region ?_
  obtain ⟨r21, h22, hF⟩ := bind_some hF
  refine ow_pw rfl (pw_call (F := [] ++ F0) rfl rfl rfl rfl rfl rfl rfl (by kernel_rfl) (perm_of_pulls [0] rfl) (c_mill_New _ r21 h22) ?_)
  rintro _ _ ⟨r21_b1, r21_b3, r21_b5, rfl, rfl⟩
  refine nw_H (H' := [imm I, pt r21_b1 #[.map (some r21_b3), .map (some r21_b5), .string r21.twins_.e0, .string r21.twins_.e1, .bool r21.found_, .bool r21.full_, .int .i64 r21.sums_] 54, mpo kStr kStr r21_b3 r21.table_, mpo kStr kStr r21_b5 r21.notes_] ++ F0) rfl (nw_ow ?_)
  obtain ⟨r26, h27, hF⟩ := bind_some hF
  refine ow_pw rfl (pw_call (F := [pt r21_b1 #[.map (some r21_b3), .map (some r21_b5), .string r21.twins_.e0, .string r21.twins_.e1, .bool r21.found_, .bool r21.full_, .int .i64 r21.sums_] 54, mpo kStr kStr r21_b3 r21.table_, mpo kStr kStr r21_b5 r21.notes_] ++ F0) rfl rfl rfl rfl rfl rfl rfl (by kernel_rfl) (perm_of_pulls [0] rfl) (c_mill_New _ r26 h27) ?_)
  rintro _ _ ⟨r26_b1, r26_b3, r26_b5, rfl, rfl⟩
  refine nw_H (H' := [imm I, pt r26_b1 #[.map (some r26_b3), .map (some r26_b5), .string r26.twins_.e0, .string r26.twins_.e1, .bool r26.found_, .bool r26.full_, .int .i64 r26.sums_] 54, mpo kStr kStr r26_b3 r26.table_, mpo kStr kStr r26_b5 r26.notes_, pt r21_b1 #[.map (some r21_b3), .map (some r21_b5), .string r21.twins_.e0, .string r21.twins_.e1, .bool r21.found_, .bool r21.full_, .int .i64 r21.sums_] 54, mpo kStr kStr r21_b3 r21.table_, mpo kStr kStr r21_b5 r21.notes_] ++ F0) rfl (nw_ow ?_)
  refine ow_vals 2 (j := 4) [0, 1, 5, 6] [(0, .string x0), (1, .string x1), (5, .pointer (some ⟨r21_b1, 0, none⟩)), (6, .pointer (some ⟨r26_b1, 0, none⟩))] rfl (by kernel_rfl) ?_
  refine ow_end rfl ?_
  refine ew_then ?_
  refine cw_seq ?_
  refine cw_region ?_
  refine ow_vals 1 (j := 1) [1, 5, 6, 10] [(1, .string x1), (5, .pointer (some ⟨r21_b1, 0, none⟩)), (6, .pointer (some ⟨r26_b1, 0, none⟩)), (10, .string x0)] rfl (by kernel_rfl) ?_
  obtain ⟨r31, h32, hF⟩ := bind_some hF
  refine ow_pw rfl (pw_call (F := [pt r26_b1 #[.map (some r26_b3), .map (some r26_b5), .string r26.twins_.e0, .string r26.twins_.e1, .bool r26.found_, .bool r26.full_, .int .i64 r26.sums_] 54, mpo kStr kStr r26_b3 r26.table_, mpo kStr kStr r26_b5 r26.notes_, pt r21_b1 #[.map (some r21_b3), .map (some r21_b5), .string r21.twins_.e0, .string r21.twins_.e1, .bool r21.found_, .bool r21.full_, .int .i64 r21.sums_] 54, mpo kStr kStr r21_b3 r21.table_, mpo kStr kStr r21_b5 r21.notes_] ++ F0) rfl rfl rfl rfl rfl rfl rfl (by kernel_rfl) (perm_of_pulls [0] rfl) (c_law06_cut _ x0 r31 h32) ?_)
  rintro _ _ ⟨rfl, rfl⟩
  refine nw_H (H' := [imm I, pt r26_b1 #[.map (some r26_b3), .map (some r26_b5), .string r26.twins_.e0, .string r26.twins_.e1, .bool r26.found_, .bool r26.full_, .int .i64 r26.sums_] 54, mpo kStr kStr r26_b3 r26.table_, mpo kStr kStr r26_b5 r26.notes_, pt r21_b1 #[.map (some r21_b3), .map (some r21_b5), .string r21.twins_.e0, .string r21.twins_.e1, .bool r21.found_, .bool r21.full_, .int .i64 r21.sums_] 54, mpo kStr kStr r21_b3 r21.table_, mpo kStr kStr r21_b5 r21.notes_] ++ F0) rfl (nw_ow ?_)
  refine ow_vals 1 (j := 3) [0, 1, 5, 6] [(0, .string r31), (1, .string x1), (5, .pointer (some ⟨r21_b1, 0, none⟩)), (6, .pointer (some ⟨r26_b1, 0, none⟩))] rfl (by kernel_rfl) ?_
  refine ow_end rfl ?_
  refine ew_then ?_
  refine cw_seq ?_
  refine cw_region ?_
  refine ow_vals 1 (j := 1) [0, 5, 6, 12] [(0, .string r31), (5, .pointer (some ⟨r21_b1, 0, none⟩)), (6, .pointer (some ⟨r26_b1, 0, none⟩)), (12, .string x1)] rfl (by kernel_rfl) ?_
  obtain ⟨r33, h34, hF⟩ := bind_some hF
  refine ow_pw rfl (pw_call (F := [pt r26_b1 #[.map (some r26_b3), .map (some r26_b5), .string r26.twins_.e0, .string r26.twins_.e1, .bool r26.found_, .bool r26.full_, .int .i64 r26.sums_] 54, mpo kStr kStr r26_b3 r26.table_, mpo kStr kStr r26_b5 r26.notes_, pt r21_b1 #[.map (some r21_b3), .map (some r21_b5), .string r21.twins_.e0, .string r21.twins_.e1, .bool r21.found_, .bool r21.full_, .int .i64 r21.sums_] 54, mpo kStr kStr r21_b3 r21.table_, mpo kStr kStr r21_b5 r21.notes_] ++ F0) rfl rfl rfl rfl rfl rfl rfl (by kernel_rfl) (perm_of_pulls [0] rfl) (c_law06_cut _ x1 r33 h34) ?_)
  rintro _ _ ⟨rfl, rfl⟩
  refine nw_H (H' := [imm I, pt r26_b1 #[.map (some r26_b3), .map (some r26_b5), .string r26.twins_.e0, .string r26.twins_.e1, .bool r26.found_, .bool r26.full_, .int .i64 r26.sums_] 54, mpo kStr kStr r26_b3 r26.table_, mpo kStr kStr r26_b5 r26.notes_, pt r21_b1 #[.map (some r21_b3), .map (some r21_b5), .string r21.twins_.e0, .string r21.twins_.e1, .bool r21.found_, .bool r21.full_, .int .i64 r21.sums_] 54, mpo kStr kStr r21_b3 r21.table_, mpo kStr kStr r21_b5 r21.notes_] ++ F0) rfl (nw_ow ?_)
  refine ow_vals 1 (j := 3) [0, 1, 5, 6] [(0, .string r31), (1, .string r33), (5, .pointer (some ⟨r21_b1, 0, none⟩)), (6, .pointer (some ⟨r26_b1, 0, none⟩))] rfl (by kernel_rfl) ?_
  refine ow_end rfl ?_
  refine ew_then ?_
  refine cw_seq ?_
  refine cw_region ?_
  refine ow_vals 3 (j := 3) [0, 1, 5, 6, 14, 15, 16] [(0, .string r31), (1, .string r33), (5, .pointer (some ⟨r21_b1, 0, none⟩)), (6, .pointer (some ⟨r26_b1, 0, none⟩)), (14, .pointer (some ⟨r26_b1, 0, none⟩)), (15, .string r31), (16, .string r33)] rfl (by kernel_rfl) ?_
  obtain ⟨r35, h36, hF⟩ := bind_some hF
  refine ow_pw rfl (pw_call (F := [pt r26_b1 #[.map (some r26_b3), .map (some r26_b5), .string r26.twins_.e0, .string r26.twins_.e1, .bool r26.found_, .bool r26.full_, .int .i64 r26.sums_] 54, mpo kStr kStr r26_b3 r26.table_, mpo kStr kStr r26_b5 r26.notes_, pt r21_b1 #[.map (some r21_b3), .map (some r21_b5), .string r21.twins_.e0, .string r21.twins_.e1, .bool r21.found_, .bool r21.full_, .int .i64 r21.sums_] 54, mpo kStr kStr r21_b3 r21.table_, mpo kStr kStr r21_b5 r21.notes_] ++ F0) rfl rfl rfl rfl rfl rfl rfl (by kernel_rfl) (perm_of_pulls [0] rfl) (c_octet_Text _ r33 r35 h36) ?_)
  rintro _ _ ⟨rfl, rfl⟩
  refine nw_H (H' := [imm I, pt r26_b1 #[.map (some r26_b3), .map (some r26_b5), .string r26.twins_.e0, .string r26.twins_.e1, .bool r26.found_, .bool r26.full_, .int .i64 r26.sums_] 54, mpo kStr kStr r26_b3 r26.table_, mpo kStr kStr r26_b5 r26.notes_, pt r21_b1 #[.map (some r21_b3), .map (some r21_b5), .string r21.twins_.e0, .string r21.twins_.e1, .bool r21.found_, .bool r21.full_, .int .i64 r21.sums_] 54, mpo kStr kStr r21_b3 r21.table_, mpo kStr kStr r21_b5 r21.notes_] ++ F0) rfl (nw_ow ?_)
  obtain ⟨h37, hF⟩ := chk_some hF
  refine ow_pw rfl (pw_quiet (v := .string ((ByteArray.mk #[115, 97, 108, 116]) ++ r35)) rfl rfl rfl rfl (q_concat rfl rfl rfl h37) (nw_ow ?_))
  obtain ⟨r38, h39, hF⟩ := bind_some hF
  refine ow_pw rfl (pw_call (F := [pt r21_b1 #[.map (some r21_b3), .map (some r21_b5), .string r21.twins_.e0, .string r21.twins_.e1, .bool r21.found_, .bool r21.full_, .int .i64 r21.sums_] 54, mpo kStr kStr r21_b3 r21.table_, mpo kStr kStr r21_b5 r21.notes_] ++ F0) rfl rfl rfl rfl rfl rfl rfl (by kernel_rfl) (perm_of_pulls [0, 0, 0, 0] rfl) (c_mill_Mill_Tag _ r31 ((ByteArray.mk #[115, 97, 108, 116]) ++ r35) r26 r26_b3 r26_b5 r26_b1 r38 h39) ?_)
  rintro _ _ ⟨rfl, rfl⟩
  refine nw_H (H' := [imm I, pt r26_b1 #[.map (some r26_b3), .map (some r26_b5), .string r26.twins_.e0, .string r26.twins_.e1, .bool r26.found_, .bool r26.full_, .int .i64 r26.sums_] 54, mpo kStr kStr r26_b3 r26.table_, mpo kStr kStr r26_b5 r26.notes_, pt r21_b1 #[.map (some r21_b3), .map (some r21_b5), .string r21.twins_.e0, .string r21.twins_.e1, .bool r21.found_, .bool r21.full_, .int .i64 r21.sums_] 54, mpo kStr kStr r21_b3 r21.table_, mpo kStr kStr r21_b5 r21.notes_] ++ F0) rfl (nw_ow ?_)
  refine ow_vals 1 (j := 7) [0, 1, 5, 6, 7] [(0, .string r31), (1, .string r33), (5, .pointer (some ⟨r21_b1, 0, none⟩)), (6, .pointer (some ⟨r26_b1, 0, none⟩)), (7, .string r38)] rfl (by kernel_rfl) ?_
  refine ow_end rfl ?_
  refine ew_then ?_
  refine cw_seq ?_
  refine cw_seq ?_
  refine cw_region ?_
  refine ow_vals 3 (j := 3) [0, 1, 5, 6, 7, 22] [(0, .string r31), (1, .string r33), (5, .pointer (some ⟨r21_b1, 0, none⟩)), (6, .pointer (some ⟨r26_b1, 0, none⟩)), (7, .string r38), (22, .bool ((r38.size : Int) != 32))] rfl (by kernel_rfl) ?_
  refine ow_end rfl ?_
  refine ew_then ?_
  rcases if_some hF with ⟨h40, hF⟩ | ⟨h40, hF⟩
  · refine cw_cond_t rfl rfl h40 ?_
    refine cw_seq ?_
    refine cw_region ?_
    refine ow_vals 1 (j := 1) [4] [(4, .bool false)] rfl (by kernel_rfl) ?_
    refine ow_end rfl ?_
    refine ew_then ?_
    refine cw_ret ?_
    refine ew_then_ret ?_
    have hR := Option.some.inj hF
    subst hR
    exact fin1 (H1 := [imm I]) (fun w hs => sat_to [1, 1, 1, 1, 1, 1, 0] 6 rfl hs) rfl (rr_tmp rfl) ⟨rfl, rfl⟩
  · refine cw_cond_f rfl rfl h40 ?_
    refine cw_skip ?_
    refine ew_then ?_
    refine cw_seq ?_
    refine cw_open 20 (SAT w0 ([imm I, pt r26_b1 #[.map (some r26_b3), .map (some r26_b5), .string r26.twins_.e0, .string r26.twins_.e1, .bool r26.found_, .bool r26.full_, .int .i64 r26.sums_] 54, mpo kStr kStr r26_b3 r26.table_, mpo kStr kStr r26_b5 r26.notes_, pt r21_b1 #[.map (some r21_b3), .map (some r21_b5), .string r21.twins_.e0, .string r21.twins_.e1, .bool r21.found_, .bool r21.full_, .int .i64 r21.sums_] 54, mpo kStr kStr r21_b3 r21.table_, mpo kStr kStr r21_b5 r21.notes_])) (by kernel_rfl) (f := 20) rfl (fun w hs => sat_drew hs) ?_
    refine aw_vals [0, 1, 3, 4] (f' := 16) (m' := 27) [0, 1, 5, 7, 23, 24, 26, 27] [(0, .string r31), (1, .string r33), (5, .pointer (some ⟨r21_b1, 0, none⟩)), (7, .string r38), (23, .pointer (some ⟨r21_b1, 0, none⟩)), (24, .string r31), (26, .pointer (some ⟨r26_b1, 0, none⟩)), (27, .string r31)] (fun _ _ _ _ _ h => calm_fin (P := Try.prog) (fn := Try.f3) _ _ _ _ _ h) (fun w hs => sat_pulls [0, 0, 0, 0, 0, 0, 0] (G := [] ++ F0) rfl hs) rfl (by kernel_rfl) ?_
    obtain ⟨r41, h42, hF⟩ := bind_some hF
    refine aw_only 2 (m' := 31) (by kernel_rfl) (by kernel_rfl) (pw_call (F := [pt r26_b1 #[.map (some r26_b3), .map (some r26_b5), .string r26.twins_.e0, .string r26.twins_.e1, .bool r26.found_, .bool r26.full_, .int .i64 r26.sums_] 54, mpo kStr kStr r26_b3 r26.table_, mpo kStr kStr r26_b5 r26.notes_] ++ F0) rfl rfl rfl rfl rfl rfl rfl (by kernel_rfl) (perm_of_pulls [0, 3, 3, 3] rfl) (c_pledge_Key _ r31 r21 r21_b3 r21_b5 r21_b1 r41 h42) ?_)
    rintro _ _ ⟨rfl, rfl⟩
    refine nw_H (H' := [imm I, pt r21_b1 #[.map (some r21_b3), .map (some r21_b5), .string r21.twins_.e0, .string r21.twins_.e1, .bool r21.found_, .bool r21.full_, .int .i64 r21.sums_] 54, mpo kStr kStr r21_b3 r21.table_, mpo kStr kStr r21_b5 r21.notes_, pt r26_b1 #[.map (some r26_b3), .map (some r26_b5), .string r26.twins_.e0, .string r26.twins_.e1, .bool r26.found_, .bool r26.full_, .int .i64 r26.sums_] 54, mpo kStr kStr r26_b3 r26.table_, mpo kStr kStr r26_b5 r26.notes_] ++ F0) rfl (aw_next (fun w hs => sat_pulls [0, 3, 3, 3, 0, 0, 0] (G := [] ++ F0) rfl hs) ?_)
    obtain ⟨r43, h44, hF⟩ := bind_some hF
    refine aw_only 5 (m' := 63) (by kernel_rfl) (by kernel_rfl) (pw_call (F := [pt r21_b1 #[.map (some r21_b3), .map (some r21_b5), .string r21.twins_.e0, .string r21.twins_.e1, .bool r21.found_, .bool r21.full_, .int .i64 r21.sums_] 54, mpo kStr kStr r21_b3 r21.table_, mpo kStr kStr r21_b5 r21.notes_] ++ F0) rfl rfl rfl rfl rfl rfl rfl (by kernel_rfl) (perm_of_pulls [0, 3, 3, 3] rfl) (c_mill_Mill_Tag _ r31 (ByteArray.mk #[107, 101, 121]) r26 r26_b3 r26_b5 r26_b1 r43 h44) ?_)
    rintro _ _ ⟨rfl, rfl⟩
    refine nw_H (H' := [imm I, pt r26_b1 #[.map (some r26_b3), .map (some r26_b5), .string r26.twins_.e0, .string r26.twins_.e1, .bool r26.found_, .bool r26.full_, .int .i64 r26.sums_] 54, mpo kStr kStr r26_b3 r26.table_, mpo kStr kStr r26_b5 r26.notes_, pt r21_b1 #[.map (some r21_b3), .map (some r21_b5), .string r21.twins_.e0, .string r21.twins_.e1, .bool r21.found_, .bool r21.full_, .int .i64 r21.sums_] 54, mpo kStr kStr r21_b3 r21.table_, mpo kStr kStr r21_b5 r21.notes_] ++ F0) rfl (aw_next (fun w hs => sat_pulls [0, 0, 0, 0, 0, 0, 0] (G := [] ++ F0) rfl hs) ?_)
    refine aw_vals [6, 7] (f' := 12) (m' := 255) [0, 1, 5, 7, 30] [(0, .string r31), (1, .string r33), (5, .pointer (some ⟨r21_b1, 0, none⟩)), (7, .string r38), (30, .bool (seqB r41 r43))] (fun _ _ _ _ _ h => calm_fin (P := Try.prog) (fn := Try.f3) _ _ _ _ _ h) (fun w hs => sat_pulls [0, 0, 0, 0, 0, 0, 0] (G := [] ++ F0) rfl hs) rfl (by kernel_rfl) ?_
    rcases if_some hF with ⟨h45, hF⟩ | ⟨h45, hF⟩
    · refine aw_slots (L' := [(0, .string r31), (1, .string r33), (5, .pointer (some ⟨r21_b1, 0, none⟩)), (7, .string r38), (30, .bool true)]) (by rw [h45]) ?_
      refine aw_vals [8, 9, 10, 12] (f' := 8) (m' := 6143) [30, 31, 32, 33, 35] [(30, .bool true), (31, .pointer (some ⟨r21_b1, 0, none⟩)), (32, .string r31), (33, .string r33), (35, .string r38)] (fun _ _ _ _ _ h => calm_fin (P := Try.prog) (fn := Try.f3) _ _ _ _ _ h) (fun w hs => sat_pulls [0, 0, 0, 0, 0, 0, 0] (G := [] ++ F0) rfl hs) rfl (by kernel_rfl) ?_
      obtain ⟨h46, hF⟩ := chk_some hF
      refine aw_pure 13 (m' := 14335) (v := .string (r38.extract (0 : Int).toNat (16 : Int).toNat)) rfl rfl rfl rfl (by kernel_rfl) (by kernel_rfl) (fun _ _ _ _ _ h => calm_fin (P := Try.prog) (fn := Try.f3) _ _ _ _ _ h) (fun w hs => sat_pulls [0, 0, 0, 0, 0, 0, 0] (G := [] ++ F0) rfl hs) (q_slice_str rfl (by kernel_rfl) rfl rfl rfl h46.1 h46.2.1 h46.2.2) ?_
      obtain ⟨r47, h48, hF⟩ := bind_some hF
      refine aw_only 11 (m' := 16383) (by kernel_rfl) (by kernel_rfl) (pw_call (F := [pt r26_b1 #[.map (some r26_b3), .map (some r26_b5), .string r26.twins_.e0, .string r26.twins_.e1, .bool r26.found_, .bool r26.full_, .int .i64 r26.sums_] 54, mpo kStr kStr r26_b3 r26.table_, mpo kStr kStr r26_b5 r26.notes_] ++ F0) rfl rfl rfl rfl rfl rfl rfl (by kernel_rfl) (perm_of_pulls [0, 3, 3, 3] rfl) (c_pledge_Salt _ r31 r33 r21 r21_b3 r21_b5 r21_b1 r47 h48) ?_)
      rintro _ _ ⟨rfl, rfl⟩
      refine nw_H (H' := [imm I, pt r21_b1 #[.map (some r21_b3), .map (some r21_b5), .string r21.twins_.e0, .string r21.twins_.e1, .bool r21.found_, .bool r21.full_, .int .i64 r21.sums_] 54, mpo kStr kStr r21_b3 r21.table_, mpo kStr kStr r21_b5 r21.notes_, pt r26_b1 #[.map (some r26_b3), .map (some r26_b5), .string r26.twins_.e0, .string r26.twins_.e1, .bool r26.found_, .bool r26.full_, .int .i64 r26.sums_] 54, mpo kStr kStr r26_b3 r26.table_, mpo kStr kStr r26_b5 r26.notes_] ++ F0) rfl (aw_next (fun w hs => sat_pulls [0, 3, 3, 3, 0, 0, 0] (G := [] ++ F0) rfl hs) ?_)
      refine aw_vals [14, 15, 16] (f' := 3) (m' := 131071) [39] [(39, .bool (seqB r47 (r38.extract (0 : Int).toNat (16 : Int).toNat)))] (fun _ _ _ _ _ h => calm_fin (P := Try.prog) (fn := Try.f3) _ _ _ _ _ h) (fun w hs => sat_pulls [0, 3, 3, 3, 0, 0, 0] (G := [] ++ F0) rfl hs) rfl (by kernel_rfl) ?_
      rcases if_some hF with ⟨h49, hF⟩ | ⟨h49, hF⟩
      · refine aw_slots (L' := [(39, .bool true)]) (by rw [h49]) ?_
        obtain ⟨r50, h51, hF⟩ := bind_some hF
        refine aw_only 17 (m' := 262143) (by kernel_rfl) (by kernel_rfl) (pw_call (F := [pt r21_b1 #[.map (some r21_b3), .map (some r21_b5), .string r21.twins_.e0, .string r21.twins_.e1, .bool r21.found_, .bool r21.full_, .int .i64 r21.sums_] 54, mpo kStr kStr r21_b3 r21.table_, mpo kStr kStr r21_b5 r21.notes_, pt r26_b1 #[.map (some r26_b3), .map (some r26_b5), .string r26.twins_.e0, .string r26.twins_.e1, .bool r26.found_, .bool r26.full_, .int .i64 r26.sums_] 54, mpo kStr kStr r26_b3 r26.table_, mpo kStr kStr r26_b5 r26.notes_] ++ F0) rfl rfl rfl rfl rfl rfl rfl (by kernel_rfl) (perm_of_pulls [0] rfl) (c_law06_awake _ r50 h51) ?_)
        rintro _ _ ⟨rfl, rfl⟩
        refine nw_H (H' := [imm I, pt r21_b1 #[.map (some r21_b3), .map (some r21_b5), .string r21.twins_.e0, .string r21.twins_.e1, .bool r21.found_, .bool r21.full_, .int .i64 r21.sums_] 54, mpo kStr kStr r21_b3 r21.table_, mpo kStr kStr r21_b5 r21.notes_, pt r26_b1 #[.map (some r26_b3), .map (some r26_b5), .string r26.twins_.e0, .string r26.twins_.e1, .bool r26.found_, .bool r26.full_, .int .i64 r26.sums_] 54, mpo kStr kStr r26_b3 r26.table_, mpo kStr kStr r26_b5 r26.notes_] ++ F0) rfl (aw_next (fun w hs => sat_pulls [0, 3, 3, 3, 0, 0, 0] (G := [] ++ F0) rfl hs) ?_)
        refine aw_vals [18, 19] (f' := 0) (m' := 1048575) [4] [(4, .bool r50)] (fun _ _ _ _ _ h => calm_fin (P := Try.prog) (fn := Try.f3) _ _ _ _ _ h) (fun w hs => sat_pulls [0, 3, 3, 3, 0, 0, 0] (G := [] ++ F0) rfl hs) rfl (by kernel_rfl) ?_
        refine aw_keep [4] (L' := [(4, .bool r50)]) rfl ?_
        refine aw_end (by kernel_rfl) ?_
        refine ew_then ?_
        refine cw_ret ?_
        have hR := Option.some.inj hF
        subst hR
        exact fin1 (H1 := [imm I]) (fun w hs => sat_to [1, 1, 1, 1, 1, 1, 0] 6 rfl hs) rfl (rr_tmp rfl) ⟨rfl, rfl⟩
      · refine aw_slots (L' := [(39, .bool false)]) (by rw [h49]) ?_
        refine aw_vals [17, 18, 19] (f' := 0) (m' := 1048575) [4] [(4, .bool false)] (fun _ _ _ _ _ h => calm_fin (P := Try.prog) (fn := Try.f3) _ _ _ _ _ h) (fun w hs => sat_pulls [0, 3, 3, 3, 0, 0, 0] (G := [] ++ F0) rfl hs) rfl (by kernel_rfl) ?_
        refine aw_keep [4] (L' := [(4, .bool false)]) rfl ?_
        refine aw_end (by kernel_rfl) ?_
        refine ew_then ?_
        refine cw_ret ?_
        have hR := Option.some.inj hF
        subst hR
        exact fin1 (H1 := [imm I]) (fun w hs => sat_to [1, 1, 1, 1, 1, 1, 0] 6 rfl hs) rfl (rr_tmp rfl) ⟨rfl, rfl⟩
    · refine aw_slots (L' := [(0, .string r31), (1, .string r33), (5, .pointer (some ⟨r21_b1, 0, none⟩)), (7, .string r38), (30, .bool false)]) (by rw [h45]) ?_
      refine aw_vals [8, 9, 10, 11, 12, 13, 14, 15, 16, 17, 18, 19] (f' := 0) (m' := 1048575) [4] [(4, .bool false)] (fun _ _ _ _ _ h => calm_fin (P := Try.prog) (fn := Try.f3) _ _ _ _ _ h) (fun w hs => sat_pulls [0, 0, 0, 0, 0, 0, 0] (G := [] ++ F0) rfl hs) rfl (by kernel_rfl) ?_
      refine aw_keep [4] (L' := [(4, .bool false)]) rfl ?_
      refine aw_end (by kernel_rfl) ?_
      refine ew_then ?_
      refine cw_ret ?_
      have hR := Option.some.inj hF
      subst hR
      exact fin1 (H1 := [imm I]) (fun w hs => sat_to [1, 1, 1, 1, 1, 1, 0] 6 rfl hs) rfl (rr_tmp rfl) ⟨rfl, rfl⟩

end Go.Proofs.Ytfjnafgigfapbaa
