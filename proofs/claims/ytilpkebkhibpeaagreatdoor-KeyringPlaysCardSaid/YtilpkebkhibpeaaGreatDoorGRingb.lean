/- What the functions compute, and that the code computes it: printed by a program of this claim (wip/tools), for the group Ring. -/
import Derived.Test.YtilpkebkhibpeaaGreatDoorGRing
namespace Go.Proofs.YtilpkebkhibpeaaGreatDoor
set_option linter.all false
open Go Go.RowKit Go.Fw
set_option linter.unusedVariables false

def F.guard_Guard_Put (x1 : Int) (x2 : ByteArray) (m0 : guard_Guard) (m1 : disk_Disk) : Option (Int × Int × guard_Guard × disk_Disk) :=
  Option.bind (F.guard_Guard_none m0 m1) (fun (r21 : Unit) => if decide ((x2.size : Int) > 47) then (some ((0, 3, m0, m1))) else (if decide (m0.n_ ≥ 4294967295) then (some ((0, 6, m0, m1))) else (Option.bind (F.guard_Eight (ior .i64 (IntKind.i64.wrap (m0.boot_ * 2 ^ 32)) (IntKind.i64.wrap (m0.n_ + 1)))) (fun (r25 : ByteArray) => chk (r25.size + (bstr ([IntKind.u8.wrap ((x2.size : Int))] : List Int)).size ≤ 9223372036854775807) (chk ((r25 ++ (bstr ([IntKind.u8.wrap ((x2.size : Int))] : List Int))).size + x2.size ≤ 9223372036854775807) (Option.bind (F.strings_Repeat (ByteArray.mk #[0]) (IntKind.i64.wrap (47 - (x2.size : Int)))) (fun (r31 : ByteArray) => chk (((r25 ++ (bstr ([IntKind.u8.wrap ((x2.size : Int))] : List Int))) ++ x2).size + r31.size ≤ 9223372036854775807) (chk ((((r25 ++ (bstr ([IntKind.u8.wrap ((x2.size : Int))] : List Int))) ++ x2) ++ r31).size + r25.size ≤ 9223372036854775807) (Option.bind (F.disk_Disk_Write x1 ((((r25 ++ (bstr ([IntKind.u8.wrap ((x2.size : Int))] : List Int))) ++ x2) ++ r31) ++ r25) m1) (fun (r35 : Int × disk_Disk) => if r35.1 != 0 then (some ((0, r35.1, m0, r35.2))) else (some ((ior .i64 (IntKind.i64.wrap (m0.boot_ * 2 ^ 32)) (IntKind.i64.wrap (m0.n_ + 1)), 0, (⟨m0.boot_, IntKind.i64.wrap (m0.n_ + 1)⟩ : guard_Guard), r35.2)))))))))))))
set_option maxRecDepth 100000 in
set_option maxHeartbeats 4000000 in
theorem c_guard_Guard_Put (I : Hl) (x1 : Int) (x2 : ByteArray) (m0 : guard_Guard) (m1 : disk_Disk) (b0 : Nat) (p0 : Option Addr) (c0 : Nat) (p1 : Nat) (b1 : Nat) (res : Int × Int × guard_Guard × disk_Disk) (hF : F.guard_Guard_Put x1 x2 m0 m1 = some res) : Tr Tryz.prog 36 [.pointer (some ⟨b0, 0, none⟩), .int .i64 x1, .string x2] [imm I, pt b0 #[.pointer (some ⟨b1, 0, none⟩), .int .i64 m0.boot_, .int .i64 m0.n_] 75, pt b1 #[.slice p0 m1.sure_.length c0, .map (some p1), .bool m1.off_, .bool m1.armed_, .int .i64 m1.left_, .int .u64 m1.fall_.Keep, .int .i64 m1.fall_.Tear, .int .i64 m1.acts_, .int .i64 m1.falls_] 52, own e_disk_sector 55 p0 c0 m1.sure_, mpo (kInt .i64) (fun x : disk_sector => Value.agg #[.string x.s_, .int .i64 x.at_]) p1 m1.wait_] (fun r H' => ∃ (pq1 : Option Addr), ∃ (cq2 : Nat), ∃ (bq4 : Nat), r = .tuple #[.int .i64 res.1, .int .i64 res.2.1] ∧ H' = [imm I, pt b0 #[.pointer (some ⟨b1, 0, none⟩), .int .i64 res.2.2.1.boot_, .int .i64 res.2.2.1.n_] 75, pt b1 #[.slice pq1 res.2.2.2.sure_.length cq2, .map (some bq4), .bool res.2.2.2.off_, .bool res.2.2.2.armed_, .int .i64 res.2.2.2.left_, .int .u64 res.2.2.2.fall_.Keep, .int .i64 res.2.2.2.fall_.Tear, .int .i64 res.2.2.2.acts_, .int .i64 res.2.2.2.falls_] 52, own e_disk_sector 55 pq1 cq2 res.2.2.2.sure_, mpo (kInt .i64) (fun x : disk_sector => Value.agg #[.string x.s_, .int .i64 x.at_]) bq4 res.2.2.2.wait_]) := by
  unfold F.guard_Guard_Put at hF
  refine tr_of_cw (fn := Tryz.f36) Tryz.func36 rfl (Nat.le_of_ble_eq_true rfl) 70 rfl fun F0 w0 => ?_
  refine cw_keep [0, 1, 2] (L' := [(0, .pointer (some ⟨b0, 0, none⟩)), (1, .int .i64 x1), (2, .string x2)]) rfl ?_
  refine cw_state (S' := SAT w0 ([imm I, pt b0 #[.pointer (some ⟨b1, 0, none⟩), .int .i64 m0.boot_, .int .i64 m0.n_] 75, pt b1 #[.slice p0 m1.sure_.length c0, .map (some p1), .bool m1.off_, .bool m1.armed_, .int .i64 m1.left_, .int .u64 m1.fall_.Keep, .int .i64 m1.fall_.Tear, .int .i64 m1.acts_, .int .i64 m1.falls_] 52, own e_disk_sector 55 p0 c0 m1.sure_, mpo (kInt .i64) (fun x : disk_sector => Value.agg #[.string x.s_, .int .i64 x.at_]) p1 m1.wait_] ++ F0)) (fun w hs => hs) ?_
  refine cw_seq ?_
  refine cw_region ?_
  refine ow_vals 2 (j := 2) [0, 1, 2] [(0, .pointer (some ⟨b0, 0, none⟩)), (1, .int .i64 x1), (2, .string x2)] rfl (by kernel_rfl) ?_
  refine ow_end rfl ?_
  refine ew_then ?_
  refine cw_seq ?_
  refine cw_block ?_
  refine cw_seq ?_
  refine cw_region ?_
  refine ow_vals 1 (j := 1) [0, 1, 2, 12] [(0, .pointer (some ⟨b0, 0, none⟩)), (1, .int .i64 x1), (2, .string x2), (12, .pointer (some ⟨b0, 0, none⟩))] rfl (by kernel_rfl) ?_
  obtain ⟨r21, h22, hF⟩ := bind_some hF
  refine ow_pw rfl (pw_call (F := [] ++ F0) rfl rfl rfl rfl rfl rfl rfl (by kernel_rfl) (perm_of_pulls [0, 0, 0, 0, 0] rfl) (c_guard_Guard_none _ m0 m1 b0 p0 c0 p1 b1 r21 h22) ?_)
  rintro _ _ ⟨rfl, rfl⟩
  refine nw_H (H' := [imm I, pt b0 #[.pointer (some ⟨b1, 0, none⟩), .int .i64 m0.boot_, .int .i64 m0.n_] 75, pt b1 #[.slice p0 m1.sure_.length c0, .map (some p1), .bool m1.off_, .bool m1.armed_, .int .i64 m1.left_, .int .u64 m1.fall_.Keep, .int .i64 m1.fall_.Tear, .int .i64 m1.acts_, .int .i64 m1.falls_] 52, own e_disk_sector 55 p0 c0 m1.sure_, mpo (kInt .i64) (fun x : disk_sector => Value.agg #[.string x.s_, .int .i64 x.at_]) p1 m1.wait_] ++ F0) rfl (nw_ow ?_)
  refine ow_vals 1 (j := 3) [0, 1, 2, 11] [(0, .pointer (some ⟨b0, 0, none⟩)), (1, .int .i64 x1), (2, .string x2), (11, .bool false)] rfl (by kernel_rfl) ?_
  refine ow_end rfl ?_
  refine ew_then ?_
  refine cw_cond_f rfl rfl rfl ?_
  refine cw_seq ?_
  refine cw_region ?_
  refine ow_vals 4 (j := 4) [0, 1, 2, 14] [(0, .pointer (some ⟨b0, 0, none⟩)), (1, .int .i64 x1), (2, .string x2), (14, .bool (decide ((x2.size : Int) > 47)))] rfl (by kernel_rfl) ?_
  refine ow_end rfl ?_
  refine ew_then ?_
  rcases if_some hF with ⟨h23, hF⟩ | ⟨h23, hF⟩
  · refine cw_cond_t rfl rfl h23 ?_
    refine cw_seq ?_
    refine cw_region ?_
    refine ow_vals 2 (j := 2) [6, 7] [(6, .int .i64 0), (7, .int .i64 3)] rfl (by kernel_rfl) ?_
    refine ow_end rfl ?_
    refine ew_then ?_
    refine cw_ret ?_
    refine ew_blk_ret ?_
    refine ew_then_ret ?_
    have hR := Option.some.inj hF
    subst hR
    exact fin2 (H1 := [imm I, pt b0 #[.pointer (some ⟨b1, 0, none⟩), .int .i64 m0.boot_, .int .i64 m0.n_] 75, pt b1 #[.slice p0 m1.sure_.length c0, .map (some p1), .bool m1.off_, .bool m1.armed_, .int .i64 m1.left_, .int .u64 m1.fall_.Keep, .int .i64 m1.fall_.Tear, .int .i64 m1.acts_, .int .i64 m1.falls_] 52, own e_disk_sector 55 p0 c0 m1.sure_, mpo (kInt .i64) (fun x : disk_sector => Value.agg #[.string x.s_, .int .i64 x.at_]) p1 m1.wait_]) (fun w hs => sat_to [0, 0, 0, 0, 0] 0 rfl hs) rfl (rr_tmp rfl) (rr_tmp rfl) ⟨p0, c0, p1, rfl, rfl⟩
  refine cw_cond_f rfl rfl h23 ?_
  refine cw_seq ?_
  refine cw_region ?_
  refine ow_vals 3 (j := 3) [0, 1, 2, 21] [(0, .pointer (some ⟨b0, 0, none⟩)), (1, .int .i64 x1), (2, .string x2), (21, .pointer (some ⟨b0, 2, none⟩))] rfl (by kernel_rfl) ?_
  refine ow_pw rfl (pw_quiet (v := .int .i64 m0.n_) rfl rfl rfl rfl (q_load 1 rfl rfl rfl (by kernel_rfl)) (nw_ow ?_))
  refine ow_vals 2 (j := 6) [0, 1, 2, 18] [(0, .pointer (some ⟨b0, 0, none⟩)), (1, .int .i64 x1), (2, .string x2), (18, .bool (decide (m0.n_ ≥ 4294967295)))] rfl (by kernel_rfl) ?_
  refine ow_end rfl ?_
  refine ew_then ?_
  rcases if_some hF with ⟨h24, hF⟩ | ⟨h24, hF⟩
  · refine cw_cond_t rfl rfl h24 ?_
    refine cw_seq ?_
    refine cw_region ?_
    refine ow_vals 2 (j := 2) [6, 7] [(6, .int .i64 0), (7, .int .i64 6)] rfl (by kernel_rfl) ?_
    refine ow_end rfl ?_
    refine ew_then ?_
    refine cw_ret ?_
    refine ew_blk_ret ?_
    refine ew_then_ret ?_
    have hR := Option.some.inj hF
    subst hR
    exact fin2 (H1 := [imm I, pt b0 #[.pointer (some ⟨b1, 0, none⟩), .int .i64 m0.boot_, .int .i64 m0.n_] 75, pt b1 #[.slice p0 m1.sure_.length c0, .map (some p1), .bool m1.off_, .bool m1.armed_, .int .i64 m1.left_, .int .u64 m1.fall_.Keep, .int .i64 m1.fall_.Tear, .int .i64 m1.acts_, .int .i64 m1.falls_] 52, own e_disk_sector 55 p0 c0 m1.sure_, mpo (kInt .i64) (fun x : disk_sector => Value.agg #[.string x.s_, .int .i64 x.at_]) p1 m1.wait_]) (fun w hs => sat_to [0, 0, 0, 0, 0] 0 rfl hs) rfl (rr_tmp rfl) (rr_tmp rfl) ⟨p0, c0, p1, rfl, rfl⟩
  refine cw_cond_f rfl rfl h24 ?_
  refine cw_skip ?_
  refine ew_blk ?_
  refine ew_then ?_
  refine cw_seq ?_
  refine cw_open 12 (SAT w0 ([imm I, pt b0 #[.pointer (some ⟨b1, 0, none⟩), .int .i64 m0.boot_, .int .i64 m0.n_] 75, pt b1 #[.slice p0 m1.sure_.length c0, .map (some p1), .bool m1.off_, .bool m1.armed_, .int .i64 m1.left_, .int .u64 m1.fall_.Keep, .int .i64 m1.fall_.Tear, .int .i64 m1.acts_, .int .i64 m1.falls_] 52, own e_disk_sector 55 p0 c0 m1.sure_, mpo (kInt .i64) (fun x : disk_sector => Value.agg #[.string x.s_, .int .i64 x.at_]) p1 m1.wait_])) (by kernel_rfl) (f := 12) rfl (fun w hs => sat_drew hs) ?_
  refine aw_vals [0, 1, 2, 5, 6, 7] (f' := 6) (m' := 231) [0, 1, 2, 26, 31] [(0, .pointer (some ⟨b0, 0, none⟩)), (1, .int .i64 x1), (2, .string x2), (26, .pointer (some ⟨b0, 1, none⟩)), (31, .pointer (some ⟨b0, 2, none⟩))] (fun _ _ _ _ _ h => calm_fin (P := Tryz.prog) (fn := Tryz.f36) _ _ _ _ _ h) (fun w hs => sat_pulls [0, 0, 0, 0, 0] (G := [] ++ F0) rfl hs) rfl (by kernel_rfl) ?_
  refine aw_quiet 3 (m' := 239) (v := .int .i64 m0.boot_) 0 [] rfl rfl rfl rfl (by kernel_rfl) (by kernel_rfl) (by kernel_rfl) (fun _ _ _ _ _ h => calm_fin (P := Tryz.prog) (fn := Tryz.f36) _ _ _ _ _ h) (fun w hs => sat_pulls [0, 0, 0, 0, 0] (G := [] ++ F0) rfl hs) (q_load 1 rfl rfl rfl (by kernel_rfl)) ?_
  refine aw_vals [4] (f' := 4) (m' := 255) [0, 1, 2, 28, 31] [(0, .pointer (some ⟨b0, 0, none⟩)), (1, .int .i64 x1), (2, .string x2), (28, .int .i64 (IntKind.i64.wrap (m0.boot_ * 2 ^ 32))), (31, .pointer (some ⟨b0, 2, none⟩))] (fun _ _ _ _ _ h => calm_fin (P := Tryz.prog) (fn := Tryz.f36) _ _ _ _ _ h) (fun w hs => sat_pulls [0, 0, 0, 0, 0] (G := [] ++ F0) rfl hs) rfl (by kernel_rfl) ?_
  refine aw_quiet 8 (m' := 511) (v := .int .i64 m0.n_) 0 [] rfl rfl rfl rfl (by kernel_rfl) (by kernel_rfl) (by kernel_rfl) (fun _ _ _ _ _ h => calm_fin (P := Tryz.prog) (fn := Tryz.f36) _ _ _ _ _ h) (fun w hs => sat_pulls [0, 0, 0, 0, 0] (G := [] ++ F0) rfl hs) (q_load 1 rfl rfl rfl (by kernel_rfl)) ?_
  refine aw_vals [9, 10, 11] (f' := 0) (m' := 4095) [0, 1, 2, 8] [(0, .pointer (some ⟨b0, 0, none⟩)), (1, .int .i64 x1), (2, .string x2), (8, .int .i64 (ior .i64 (IntKind.i64.wrap (m0.boot_ * 2 ^ 32)) (IntKind.i64.wrap (m0.n_ + 1))))] (fun _ _ _ _ _ h => calm_fin (P := Tryz.prog) (fn := Tryz.f36) _ _ _ _ _ h) (fun w hs => sat_pulls [0, 0, 0, 0, 0] (G := [] ++ F0) rfl hs) rfl (by kernel_rfl) ?_
  refine aw_keep [0, 1, 2, 8] (L' := [(0, .pointer (some ⟨b0, 0, none⟩)), (1, .int .i64 x1), (2, .string x2), (8, .int .i64 (ior .i64 (IntKind.i64.wrap (m0.boot_ * 2 ^ 32)) (IntKind.i64.wrap (m0.n_ + 1))))]) rfl ?_
  refine aw_end (by kernel_rfl) ?_
  refine ew_then ?_
  refine cw_seq ?_
  refine cw_region ?_
  refine ow_vals 1 (j := 1) [0, 1, 2, 8, 35] [(0, .pointer (some ⟨b0, 0, none⟩)), (1, .int .i64 x1), (2, .string x2), (8, .int .i64 (ior .i64 (IntKind.i64.wrap (m0.boot_ * 2 ^ 32)) (IntKind.i64.wrap (m0.n_ + 1)))), (35, .int .i64 (ior .i64 (IntKind.i64.wrap (m0.boot_ * 2 ^ 32)) (IntKind.i64.wrap (m0.n_ + 1))))] rfl (by kernel_rfl) ?_
  obtain ⟨r25, h26, hF⟩ := bind_some hF
  refine ow_pw rfl (pw_call (F := [pt b0 #[.pointer (some ⟨b1, 0, none⟩), .int .i64 m0.boot_, .int .i64 m0.n_] 75, pt b1 #[.slice p0 m1.sure_.length c0, .map (some p1), .bool m1.off_, .bool m1.armed_, .int .i64 m1.left_, .int .u64 m1.fall_.Keep, .int .i64 m1.fall_.Tear, .int .i64 m1.acts_, .int .i64 m1.falls_] 52, own e_disk_sector 55 p0 c0 m1.sure_, mpo (kInt .i64) (fun x : disk_sector => Value.agg #[.string x.s_, .int .i64 x.at_]) p1 m1.wait_] ++ F0) rfl rfl rfl rfl rfl rfl rfl (by kernel_rfl) (perm_of_pulls [0] rfl) (c_guard_Eight _ (ior .i64 (IntKind.i64.wrap (m0.boot_ * 2 ^ 32)) (IntKind.i64.wrap (m0.n_ + 1))) r25 h26) ?_)
  rintro _ _ ⟨rfl, rfl⟩
  refine nw_H (H' := [imm I, pt b0 #[.pointer (some ⟨b1, 0, none⟩), .int .i64 m0.boot_, .int .i64 m0.n_] 75, pt b1 #[.slice p0 m1.sure_.length c0, .map (some p1), .bool m1.off_, .bool m1.armed_, .int .i64 m1.left_, .int .u64 m1.fall_.Keep, .int .i64 m1.fall_.Tear, .int .i64 m1.acts_, .int .i64 m1.falls_] 52, own e_disk_sector 55 p0 c0 m1.sure_, mpo (kInt .i64) (fun x : disk_sector => Value.agg #[.string x.s_, .int .i64 x.at_]) p1 m1.wait_] ++ F0) rfl (nw_ow ?_)
  refine ow_vals 1 (j := 3) [0, 1, 2, 8, 9] [(0, .pointer (some ⟨b0, 0, none⟩)), (1, .int .i64 x1), (2, .string x2), (8, .int .i64 (ior .i64 (IntKind.i64.wrap (m0.boot_ * 2 ^ 32)) (IntKind.i64.wrap (m0.n_ + 1)))), (9, .string r25)] rfl (by kernel_rfl) ?_
  refine ow_end rfl ?_
  refine ew_then ?_
  refine cw_seq ?_
  refine cw_seq ?_
  refine cw_open 21 (SAT w0 ([imm I, pt b0 #[.pointer (some ⟨b1, 0, none⟩), .int .i64 m0.boot_, .int .i64 m0.n_] 75, pt b1 #[.slice p0 m1.sure_.length c0, .map (some p1), .bool m1.off_, .bool m1.armed_, .int .i64 m1.left_, .int .u64 m1.fall_.Keep, .int .i64 m1.fall_.Tear, .int .i64 m1.acts_, .int .i64 m1.falls_] 52, own e_disk_sector 55 p0 c0 m1.sure_, mpo (kInt .i64) (fun x : disk_sector => Value.agg #[.string x.s_, .int .i64 x.at_]) p1 m1.wait_])) (by kernel_rfl) (f := 23) rfl (fun w hs => sat_drew hs) ?_
  refine aw_vals [0, 1, 2, 4, 5, 6, 7, 8, 12, 14, 15, 16, 19] (f' := 10) (m' := 643575) [0, 8, 39, 41, 42, 45, 49, 53, 56] [(0, .pointer (some ⟨b0, 0, none⟩)), (8, .int .i64 (ior .i64 (IntKind.i64.wrap (m0.boot_ * 2 ^ 32)) (IntKind.i64.wrap (m0.n_ + 1)))), (39, .pointer (some ⟨b0, 0, none⟩)), (41, .int .i64 x1), (42, .string r25), (45, .int .u8 (IntKind.u8.wrap ((x2.size : Int)))), (49, .string x2), (53, .int .i64 (IntKind.i64.wrap (47 - (x2.size : Int)))), (56, .string r25)] (fun _ _ _ _ _ h => calm_fin (P := Tryz.prog) (fn := Tryz.f36) _ _ _ _ _ h) (fun w hs => sat_pulls [0, 0, 0, 0, 0] (G := [] ++ F0) rfl hs) rfl (by kernel_rfl) ?_
  refine aw_quiet 3 (m' := 643583) (v := .pointer (some ⟨b1, 0, none⟩)) 3 [] rfl rfl rfl rfl (by kernel_rfl) (by kernel_rfl) (by kernel_rfl) (fun _ _ _ _ _ h => calm_fin (P := Tryz.prog) (fn := Tryz.f36) _ _ _ _ _ h) (fun w hs => sat_pulls [0, 0, 0, 0, 0] (G := [] ++ F0) rfl hs) (q_load 1 rfl rfl rfl (by kernel_rfl)) ?_
  obtain ⟨h29, hF⟩ := chk_some hF
  obtain ⟨h30, hF⟩ := chk_some hF
  obtain ⟨r31, h32, hF⟩ := bind_some hF
  obtain ⟨h33, hF⟩ := chk_some hF
  obtain ⟨h34, hF⟩ := chk_some hF
  obtain ⟨r35, h36, hF⟩ := bind_some hF
  refine aw_two 9 17 (mi := 644095) (mj := 774655) (by kernel_rfl) (by kernel_rfl) (by kernel_rfl) ?_ ?_
  · refine pw_buildSlice (E := 5) (eInt .u8) ([IntKind.u8.wrap ((x2.size : Int))] : List Int) rfl rfl rfl rfl rfl (by kernel_rfl) rfl (by kernel_rfl) rfl (by decide) rfl fun p39 => aw_next (fun w hs => sat_pulls [1, 1, 1, 1, 1] (G := [own (eInt .u8) 5 p39 1 ([IntKind.u8.wrap ((x2.size : Int))] : List Int)] ++ F0) rfl hs) ?_
    refine aw_two 10 17 (mi := 645119) (mj := 775167) (by kernel_rfl) (by kernel_rfl) (by kernel_rfl) ?_ ?_
    · refine pw_quiet (v := .string (bstr ([IntKind.u8.wrap ((x2.size : Int))] : List Int))) rfl rfl rfl rfl (q_bytes_str_own 0 rfl rfl (by kernel_rfl) (by kernel_rfl) rfl) (aw_next (fun w hs => sat_pulls [1, 1, 1, 1, 1] (G := [own (eInt .u8) 5 p39 1 ([IntKind.u8.wrap ((x2.size : Int))] : List Int)] ++ F0) rfl hs) ?_)
      refine aw_pure 11 (m' := 647167) (v := .string (r25 ++ (bstr ([IntKind.u8.wrap ((x2.size : Int))] : List Int)))) rfl rfl rfl rfl (by kernel_rfl) (by kernel_rfl) (fun _ _ _ _ _ h => calm_fin (P := Tryz.prog) (fn := Tryz.f36) _ _ _ _ _ h) (fun w hs => sat_pulls [1, 1, 1, 1, 1] (G := [own (eInt .u8) 5 p39 1 ([IntKind.u8.wrap ((x2.size : Int))] : List Int)] ++ F0) rfl hs) (q_concat rfl rfl rfl h29) ?_
      refine aw_pure 13 (m' := 655359) (v := .string ((r25 ++ (bstr ([IntKind.u8.wrap ((x2.size : Int))] : List Int))) ++ x2)) rfl rfl rfl rfl (by kernel_rfl) (by kernel_rfl) (fun _ _ _ _ _ h => calm_fin (P := Tryz.prog) (fn := Tryz.f36) _ _ _ _ _ h) (fun w hs => sat_pulls [1, 1, 1, 1, 1] (G := [own (eInt .u8) 5 p39 1 ([IntKind.u8.wrap ((x2.size : Int))] : List Int)] ++ F0) rfl hs) (q_concat rfl rfl rfl h30) ?_
      refine aw_only 17 (m' := 786431) (by kernel_rfl) (by kernel_rfl) (pw_call (F := [own (eInt .u8) 5 p39 1 ([IntKind.u8.wrap ((x2.size : Int))] : List Int), pt b0 #[.pointer (some ⟨b1, 0, none⟩), .int .i64 m0.boot_, .int .i64 m0.n_] 75, pt b1 #[.slice p0 m1.sure_.length c0, .map (some p1), .bool m1.off_, .bool m1.armed_, .int .i64 m1.left_, .int .u64 m1.fall_.Keep, .int .i64 m1.fall_.Tear, .int .i64 m1.acts_, .int .i64 m1.falls_] 52, own e_disk_sector 55 p0 c0 m1.sure_, mpo (kInt .i64) (fun x : disk_sector => Value.agg #[.string x.s_, .int .i64 x.at_]) p1 m1.wait_] ++ F0) rfl rfl rfl rfl rfl rfl rfl (by kernel_rfl) (perm_of_pulls [1] rfl) (c_strings_Repeat _ (ByteArray.mk #[0]) (IntKind.i64.wrap (47 - (x2.size : Int))) r31 h32) ?_)
      rintro _ _ ⟨rfl, rfl⟩
      refine nw_H (H' := [imm I, own (eInt .u8) 5 p39 1 ([IntKind.u8.wrap ((x2.size : Int))] : List Int), pt b0 #[.pointer (some ⟨b1, 0, none⟩), .int .i64 m0.boot_, .int .i64 m0.n_] 75, pt b1 #[.slice p0 m1.sure_.length c0, .map (some p1), .bool m1.off_, .bool m1.armed_, .int .i64 m1.left_, .int .u64 m1.fall_.Keep, .int .i64 m1.fall_.Tear, .int .i64 m1.acts_, .int .i64 m1.falls_] 52, own e_disk_sector 55 p0 c0 m1.sure_, mpo (kInt .i64) (fun x : disk_sector => Value.agg #[.string x.s_, .int .i64 x.at_]) p1 m1.wait_] ++ F0) rfl (aw_next (fun w hs => sat_pulls [0, 1, 1, 1, 1] (G := [own (eInt .u8) 5 p39 1 ([IntKind.u8.wrap ((x2.size : Int))] : List Int)] ++ F0) rfl hs) ?_)
      refine aw_pure 18 (m' := 1048575) (v := .string (((r25 ++ (bstr ([IntKind.u8.wrap ((x2.size : Int))] : List Int))) ++ x2) ++ r31)) rfl rfl rfl rfl (by kernel_rfl) (by kernel_rfl) (fun _ _ _ _ _ h => calm_fin (P := Tryz.prog) (fn := Tryz.f36) _ _ _ _ _ h) (fun w hs => sat_pulls [0, 1, 1, 1, 1] (G := [own (eInt .u8) 5 p39 1 ([IntKind.u8.wrap ((x2.size : Int))] : List Int)] ++ F0) rfl hs) (q_concat rfl rfl rfl h33) ?_
      refine aw_pure 20 (m' := 2097151) (v := .string ((((r25 ++ (bstr ([IntKind.u8.wrap ((x2.size : Int))] : List Int))) ++ x2) ++ r31) ++ r25)) rfl rfl rfl rfl (by kernel_rfl) (by kernel_rfl) (fun _ _ _ _ _ h => calm_fin (P := Tryz.prog) (fn := Tryz.f36) _ _ _ _ _ h) (fun w hs => sat_pulls [0, 1, 1, 1, 1] (G := [own (eInt .u8) 5 p39 1 ([IntKind.u8.wrap ((x2.size : Int))] : List Int)] ++ F0) rfl hs) (q_concat rfl rfl rfl h34) ?_
      refine aw_only 21 (m' := 4194303) (by kernel_rfl) (by kernel_rfl) (pw_call (F := [own (eInt .u8) 5 p39 1 ([IntKind.u8.wrap ((x2.size : Int))] : List Int), pt b0 #[.pointer (some ⟨b1, 0, none⟩), .int .i64 m0.boot_, .int .i64 m0.n_] 75] ++ F0) rfl rfl rfl rfl rfl rfl rfl (by kernel_rfl) (perm_of_pulls [0, 2, 2, 2] rfl) (c_disk_Disk_Write _ x1 ((((r25 ++ (bstr ([IntKind.u8.wrap ((x2.size : Int))] : List Int))) ++ x2) ++ r31) ++ r25) m1 p0 c0 p1 b1 r35 h36) ?_)
      rintro _ _ ⟨r35_p1, r35_c2, r35_b4, rfl, rfl⟩
      refine nw_H (H' := [imm I, pt b1 #[.slice r35_p1 r35.2.sure_.length r35_c2, .map (some r35_b4), .bool r35.2.off_, .bool r35.2.armed_, .int .i64 r35.2.left_, .int .u64 r35.2.fall_.Keep, .int .i64 r35.2.fall_.Tear, .int .i64 r35.2.acts_, .int .i64 r35.2.falls_] 52, own e_disk_sector 55 r35_p1 r35_c2 r35.2.sure_, mpo (kInt .i64) (fun x : disk_sector => Value.agg #[.string x.s_, .int .i64 x.at_]) r35_b4 r35.2.wait_, own (eInt .u8) 5 p39 1 ([IntKind.u8.wrap ((x2.size : Int))] : List Int), pt b0 #[.pointer (some ⟨b1, 0, none⟩), .int .i64 m0.boot_, .int .i64 m0.n_] 75] ++ F0) rfl (aw_last (by kernel_rfl) ?_)
      refine aw_past (by kernel_rfl) ?_
      refine aw_vals [22] (f' := 0) (m' := 8388607) [0, 8, 10] [(0, .pointer (some ⟨b0, 0, none⟩)), (8, .int .i64 (ior .i64 (IntKind.i64.wrap (m0.boot_ * 2 ^ 32)) (IntKind.i64.wrap (m0.n_ + 1)))), (10, .int .i64 r35.1)] (fun _ _ _ _ _ h => calm_fin (P := Tryz.prog) (fn := Tryz.f36) _ _ _ _ _ h) (fun _ _ => trivial) rfl (by kernel_rfl) ?_
      refine aw_keep [0, 8, 10] (L' := [(0, .pointer (some ⟨b0, 0, none⟩)), (8, .int .i64 (ior .i64 (IntKind.i64.wrap (m0.boot_ * 2 ^ 32)) (IntKind.i64.wrap (m0.n_ + 1)))), (10, .int .i64 r35.1)]) rfl ?_
      refine aw_end (by kernel_rfl) ?_
      refine ew_then ?_
      refine cw_seq ?_
      refine cw_region ?_
      refine ow_vals 2 (j := 2) [0, 8, 10, 60] [(0, .pointer (some ⟨b0, 0, none⟩)), (8, .int .i64 (ior .i64 (IntKind.i64.wrap (m0.boot_ * 2 ^ 32)) (IntKind.i64.wrap (m0.n_ + 1)))), (10, .int .i64 r35.1), (60, .bool (r35.1 != 0))] rfl (by kernel_rfl) ?_
      refine ow_end rfl ?_
      refine ew_then ?_
      rcases if_some hF with ⟨h43, hF⟩ | ⟨h43, hF⟩
      · refine cw_cond_t rfl rfl h43 ?_
        refine cw_seq ?_
        refine cw_region ?_
        refine ow_vals 3 (j := 3) [6, 7] [(6, .int .i64 0), (7, .int .i64 r35.1)] rfl (by kernel_rfl) ?_
        refine ow_end rfl ?_
        refine ew_then ?_
        refine cw_ret ?_
        refine ew_then_ret ?_
        have hR := Option.some.inj hF
        subst hR
        exact fin2 (H1 := [imm I, pt b0 #[.pointer (some ⟨b1, 0, none⟩), .int .i64 m0.boot_, .int .i64 m0.n_] 75, pt b1 #[.slice r35_p1 r35.2.sure_.length r35_c2, .map (some r35_b4), .bool r35.2.off_, .bool r35.2.armed_, .int .i64 r35.2.left_, .int .u64 r35.2.fall_.Keep, .int .i64 r35.2.fall_.Tear, .int .i64 r35.2.acts_, .int .i64 r35.2.falls_] 52, own e_disk_sector 55 r35_p1 r35_c2 r35.2.sure_, mpo (kInt .i64) (fun x : disk_sector => Value.agg #[.string x.s_, .int .i64 x.at_]) r35_b4 r35.2.wait_]) (fun w hs => sat_to [4, 0, 3, 0, 0, 0] 1 rfl hs) rfl (rr_tmp rfl) (rr_tmp rfl) ⟨r35_p1, r35_c2, r35_b4, rfl, rfl⟩
      refine cw_cond_f rfl rfl h43 ?_
      refine cw_skip ?_
      refine ew_then ?_
      refine cw_seq ?_
      refine cw_region ?_
      refine ow_vals 3 (j := 3) [8, 62, 64] [(8, .int .i64 (ior .i64 (IntKind.i64.wrap (m0.boot_ * 2 ^ 32)) (IntKind.i64.wrap (m0.n_ + 1)))), (62, .pointer (some ⟨b0, 0, none⟩)), (64, .pointer (some ⟨b0, 2, none⟩))] rfl (by kernel_rfl) ?_
      refine ow_pw rfl (pw_quiet (v := .int .i64 m0.n_) rfl rfl rfl rfl (q_load 5 rfl rfl rfl (by kernel_rfl)) (nw_ow ?_))
      refine ow_vals 3 (j := 7) [8, 66, 68] [(8, .int .i64 (ior .i64 (IntKind.i64.wrap (m0.boot_ * 2 ^ 32)) (IntKind.i64.wrap (m0.n_ + 1)))), (66, .int .i64 (IntKind.i64.wrap (m0.n_ + 1))), (68, .pointer (some ⟨b0, 2, none⟩))] rfl (by kernel_rfl) ?_
      refine ow_pw rfl (pw_store 5 #[.pointer (some ⟨b1, 0, none⟩), .int .i64 m0.boot_, .int .i64 (IntKind.i64.wrap (m0.n_ + 1))] rfl rfl rfl rfl rfl rfl rfl (by kernel_rfl) (nw_H (H' := [imm I, pt b1 #[.slice r35_p1 r35.2.sure_.length r35_c2, .map (some r35_b4), .bool r35.2.off_, .bool r35.2.armed_, .int .i64 r35.2.left_, .int .u64 r35.2.fall_.Keep, .int .i64 r35.2.fall_.Tear, .int .i64 r35.2.acts_, .int .i64 r35.2.falls_] 52, own e_disk_sector 55 r35_p1 r35_c2 r35.2.sure_, mpo (kInt .i64) (fun x : disk_sector => Value.agg #[.string x.s_, .int .i64 x.at_]) r35_b4 r35.2.wait_, own (eInt .u8) 5 p39 1 ([IntKind.u8.wrap ((x2.size : Int))] : List Int), pt b0 #[.pointer (some ⟨b1, 0, none⟩), .int .i64 m0.boot_, .int .i64 (IntKind.i64.wrap (m0.n_ + 1))] 75] ++ F0) rfl (nw_ow ?_)))
      refine ow_end rfl ?_
      refine ew_then ?_
      refine cw_seq ?_
      refine cw_region ?_
      refine ow_vals 3 (j := 3) [6, 7] [(6, .int .i64 (ior .i64 (IntKind.i64.wrap (m0.boot_ * 2 ^ 32)) (IntKind.i64.wrap (m0.n_ + 1)))), (7, .int .i64 0)] rfl (by kernel_rfl) ?_
      refine ow_end rfl ?_
      refine ew_then ?_
      refine cw_ret ?_
      have hR := Option.some.inj hF
      subst hR
      exact fin2 (H1 := [imm I, pt b0 #[.pointer (some ⟨b1, 0, none⟩), .int .i64 ((⟨m0.boot_, IntKind.i64.wrap (m0.n_ + 1)⟩ : guard_Guard).boot_), .int .i64 ((⟨m0.boot_, IntKind.i64.wrap (m0.n_ + 1)⟩ : guard_Guard).n_)] 75, pt b1 #[.slice r35_p1 r35.2.sure_.length r35_c2, .map (some r35_b4), .bool r35.2.off_, .bool r35.2.armed_, .int .i64 r35.2.left_, .int .u64 r35.2.fall_.Keep, .int .i64 r35.2.fall_.Tear, .int .i64 r35.2.acts_, .int .i64 r35.2.falls_] 52, own e_disk_sector 55 r35_p1 r35_c2 r35.2.sure_, mpo (kInt .i64) (fun x : disk_sector => Value.agg #[.string x.s_, .int .i64 x.at_]) r35_b4 r35.2.wait_]) (fun w hs => sat_to [4, 0, 3, 0, 0, 0] 1 rfl hs) rfl (rr_tmp rfl) (rr_tmp rfl) ⟨r35_p1, r35_c2, r35_b4, rfl, rfl⟩
    refine pw_call (F := [own (eInt .u8) 5 p39 1 ([IntKind.u8.wrap ((x2.size : Int))] : List Int), pt b0 #[.pointer (some ⟨b1, 0, none⟩), .int .i64 m0.boot_, .int .i64 m0.n_] 75, pt b1 #[.slice p0 m1.sure_.length c0, .map (some p1), .bool m1.off_, .bool m1.armed_, .int .i64 m1.left_, .int .u64 m1.fall_.Keep, .int .i64 m1.fall_.Tear, .int .i64 m1.acts_, .int .i64 m1.falls_] 52, own e_disk_sector 55 p0 c0 m1.sure_, mpo (kInt .i64) (fun x : disk_sector => Value.agg #[.string x.s_, .int .i64 x.at_]) p1 m1.wait_] ++ F0) rfl rfl rfl rfl rfl rfl rfl (by kernel_rfl) (perm_of_pulls [1] rfl) (c_strings_Repeat _ (ByteArray.mk #[0]) (IntKind.i64.wrap (47 - (x2.size : Int))) r31 h32) ?_
    rintro _ _ ⟨rfl, rfl⟩
    refine nw_H (H' := [imm I, own (eInt .u8) 5 p39 1 ([IntKind.u8.wrap ((x2.size : Int))] : List Int), pt b0 #[.pointer (some ⟨b1, 0, none⟩), .int .i64 m0.boot_, .int .i64 m0.n_] 75, pt b1 #[.slice p0 m1.sure_.length c0, .map (some p1), .bool m1.off_, .bool m1.armed_, .int .i64 m1.left_, .int .u64 m1.fall_.Keep, .int .i64 m1.fall_.Tear, .int .i64 m1.acts_, .int .i64 m1.falls_] 52, own e_disk_sector 55 p0 c0 m1.sure_, mpo (kInt .i64) (fun x : disk_sector => Value.agg #[.string x.s_, .int .i64 x.at_]) p1 m1.wait_] ++ F0) rfl (aw_next (fun w hs => sat_pulls [0, 1, 1, 1, 1] (G := [own (eInt .u8) 5 p39 1 ([IntKind.u8.wrap ((x2.size : Int))] : List Int)] ++ F0) rfl hs) ?_)
    refine aw_only 10 (m' := 776191) (by kernel_rfl) (by kernel_rfl) (pw_quiet (v := .string (bstr ([IntKind.u8.wrap ((x2.size : Int))] : List Int))) rfl rfl rfl rfl (q_bytes_str_own 1 rfl rfl (by kernel_rfl) (by kernel_rfl) rfl) (aw_next (fun w hs => sat_pulls [0, 1, 1, 1, 1] (G := [own (eInt .u8) 5 p39 1 ([IntKind.u8.wrap ((x2.size : Int))] : List Int)] ++ F0) rfl hs) ?_))
    refine aw_pure 11 (m' := 778239) (v := .string (r25 ++ (bstr ([IntKind.u8.wrap ((x2.size : Int))] : List Int)))) rfl rfl rfl rfl (by kernel_rfl) (by kernel_rfl) (fun _ _ _ _ _ h => calm_fin (P := Tryz.prog) (fn := Tryz.f36) _ _ _ _ _ h) (fun w hs => sat_pulls [0, 1, 1, 1, 1] (G := [own (eInt .u8) 5 p39 1 ([IntKind.u8.wrap ((x2.size : Int))] : List Int)] ++ F0) rfl hs) (q_concat rfl rfl rfl h29) ?_
    refine aw_pure 13 (m' := 786431) (v := .string ((r25 ++ (bstr ([IntKind.u8.wrap ((x2.size : Int))] : List Int))) ++ x2)) rfl rfl rfl rfl (by kernel_rfl) (by kernel_rfl) (fun _ _ _ _ _ h => calm_fin (P := Tryz.prog) (fn := Tryz.f36) _ _ _ _ _ h) (fun w hs => sat_pulls [0, 1, 1, 1, 1] (G := [own (eInt .u8) 5 p39 1 ([IntKind.u8.wrap ((x2.size : Int))] : List Int)] ++ F0) rfl hs) (q_concat rfl rfl rfl h30) ?_
    refine aw_pure 18 (m' := 1048575) (v := .string (((r25 ++ (bstr ([IntKind.u8.wrap ((x2.size : Int))] : List Int))) ++ x2) ++ r31)) rfl rfl rfl rfl (by kernel_rfl) (by kernel_rfl) (fun _ _ _ _ _ h => calm_fin (P := Tryz.prog) (fn := Tryz.f36) _ _ _ _ _ h) (fun w hs => sat_pulls [0, 1, 1, 1, 1] (G := [own (eInt .u8) 5 p39 1 ([IntKind.u8.wrap ((x2.size : Int))] : List Int)] ++ F0) rfl hs) (q_concat rfl rfl rfl h33) ?_
    refine aw_pure 20 (m' := 2097151) (v := .string ((((r25 ++ (bstr ([IntKind.u8.wrap ((x2.size : Int))] : List Int))) ++ x2) ++ r31) ++ r25)) rfl rfl rfl rfl (by kernel_rfl) (by kernel_rfl) (fun _ _ _ _ _ h => calm_fin (P := Tryz.prog) (fn := Tryz.f36) _ _ _ _ _ h) (fun w hs => sat_pulls [0, 1, 1, 1, 1] (G := [own (eInt .u8) 5 p39 1 ([IntKind.u8.wrap ((x2.size : Int))] : List Int)] ++ F0) rfl hs) (q_concat rfl rfl rfl h34) ?_
    refine aw_only 21 (m' := 4194303) (by kernel_rfl) (by kernel_rfl) (pw_call (F := [own (eInt .u8) 5 p39 1 ([IntKind.u8.wrap ((x2.size : Int))] : List Int), pt b0 #[.pointer (some ⟨b1, 0, none⟩), .int .i64 m0.boot_, .int .i64 m0.n_] 75] ++ F0) rfl rfl rfl rfl rfl rfl rfl (by kernel_rfl) (perm_of_pulls [0, 2, 2, 2] rfl) (c_disk_Disk_Write _ x1 ((((r25 ++ (bstr ([IntKind.u8.wrap ((x2.size : Int))] : List Int))) ++ x2) ++ r31) ++ r25) m1 p0 c0 p1 b1 r35 h36) ?_)
    rintro _ _ ⟨r35_p1, r35_c2, r35_b4, rfl, rfl⟩
    refine nw_H (H' := [imm I, pt b1 #[.slice r35_p1 r35.2.sure_.length r35_c2, .map (some r35_b4), .bool r35.2.off_, .bool r35.2.armed_, .int .i64 r35.2.left_, .int .u64 r35.2.fall_.Keep, .int .i64 r35.2.fall_.Tear, .int .i64 r35.2.acts_, .int .i64 r35.2.falls_] 52, own e_disk_sector 55 r35_p1 r35_c2 r35.2.sure_, mpo (kInt .i64) (fun x : disk_sector => Value.agg #[.string x.s_, .int .i64 x.at_]) r35_b4 r35.2.wait_, own (eInt .u8) 5 p39 1 ([IntKind.u8.wrap ((x2.size : Int))] : List Int), pt b0 #[.pointer (some ⟨b1, 0, none⟩), .int .i64 m0.boot_, .int .i64 m0.n_] 75] ++ F0) rfl (aw_last (by kernel_rfl) ?_)
    refine aw_past (by kernel_rfl) ?_
    refine aw_vals [22] (f' := 0) (m' := 8388607) [0, 8, 10] [(0, .pointer (some ⟨b0, 0, none⟩)), (8, .int .i64 (ior .i64 (IntKind.i64.wrap (m0.boot_ * 2 ^ 32)) (IntKind.i64.wrap (m0.n_ + 1)))), (10, .int .i64 r35.1)] (fun _ _ _ _ _ h => calm_fin (P := Tryz.prog) (fn := Tryz.f36) _ _ _ _ _ h) (fun _ _ => trivial) rfl (by kernel_rfl) ?_
    refine aw_keep [0, 8, 10] (L' := [(0, .pointer (some ⟨b0, 0, none⟩)), (8, .int .i64 (ior .i64 (IntKind.i64.wrap (m0.boot_ * 2 ^ 32)) (IntKind.i64.wrap (m0.n_ + 1)))), (10, .int .i64 r35.1)]) rfl ?_
    refine aw_end (by kernel_rfl) ?_
    refine ew_then ?_
    refine cw_seq ?_
    refine cw_region ?_
    refine ow_vals 2 (j := 2) [0, 8, 10, 60] [(0, .pointer (some ⟨b0, 0, none⟩)), (8, .int .i64 (ior .i64 (IntKind.i64.wrap (m0.boot_ * 2 ^ 32)) (IntKind.i64.wrap (m0.n_ + 1)))), (10, .int .i64 r35.1), (60, .bool (r35.1 != 0))] rfl (by kernel_rfl) ?_
    refine ow_end rfl ?_
    refine ew_then ?_
    rcases if_some hF with ⟨h43, hF⟩ | ⟨h43, hF⟩
    · refine cw_cond_t rfl rfl h43 ?_
      refine cw_seq ?_
      refine cw_region ?_
      refine ow_vals 3 (j := 3) [6, 7] [(6, .int .i64 0), (7, .int .i64 r35.1)] rfl (by kernel_rfl) ?_
      refine ow_end rfl ?_
      refine ew_then ?_
      refine cw_ret ?_
      refine ew_then_ret ?_
      have hR := Option.some.inj hF
      subst hR
      exact fin2 (H1 := [imm I, pt b0 #[.pointer (some ⟨b1, 0, none⟩), .int .i64 m0.boot_, .int .i64 m0.n_] 75, pt b1 #[.slice r35_p1 r35.2.sure_.length r35_c2, .map (some r35_b4), .bool r35.2.off_, .bool r35.2.armed_, .int .i64 r35.2.left_, .int .u64 r35.2.fall_.Keep, .int .i64 r35.2.fall_.Tear, .int .i64 r35.2.acts_, .int .i64 r35.2.falls_] 52, own e_disk_sector 55 r35_p1 r35_c2 r35.2.sure_, mpo (kInt .i64) (fun x : disk_sector => Value.agg #[.string x.s_, .int .i64 x.at_]) r35_b4 r35.2.wait_]) (fun w hs => sat_to [4, 0, 3, 0, 0, 0] 1 rfl hs) rfl (rr_tmp rfl) (rr_tmp rfl) ⟨r35_p1, r35_c2, r35_b4, rfl, rfl⟩
    refine cw_cond_f rfl rfl h43 ?_
    refine cw_skip ?_
    refine ew_then ?_
    refine cw_seq ?_
    refine cw_region ?_
    refine ow_vals 3 (j := 3) [8, 62, 64] [(8, .int .i64 (ior .i64 (IntKind.i64.wrap (m0.boot_ * 2 ^ 32)) (IntKind.i64.wrap (m0.n_ + 1)))), (62, .pointer (some ⟨b0, 0, none⟩)), (64, .pointer (some ⟨b0, 2, none⟩))] rfl (by kernel_rfl) ?_
    refine ow_pw rfl (pw_quiet (v := .int .i64 m0.n_) rfl rfl rfl rfl (q_load 5 rfl rfl rfl (by kernel_rfl)) (nw_ow ?_))
    refine ow_vals 3 (j := 7) [8, 66, 68] [(8, .int .i64 (ior .i64 (IntKind.i64.wrap (m0.boot_ * 2 ^ 32)) (IntKind.i64.wrap (m0.n_ + 1)))), (66, .int .i64 (IntKind.i64.wrap (m0.n_ + 1))), (68, .pointer (some ⟨b0, 2, none⟩))] rfl (by kernel_rfl) ?_
    refine ow_pw rfl (pw_store 5 #[.pointer (some ⟨b1, 0, none⟩), .int .i64 m0.boot_, .int .i64 (IntKind.i64.wrap (m0.n_ + 1))] rfl rfl rfl rfl rfl rfl rfl (by kernel_rfl) (nw_H (H' := [imm I, pt b1 #[.slice r35_p1 r35.2.sure_.length r35_c2, .map (some r35_b4), .bool r35.2.off_, .bool r35.2.armed_, .int .i64 r35.2.left_, .int .u64 r35.2.fall_.Keep, .int .i64 r35.2.fall_.Tear, .int .i64 r35.2.acts_, .int .i64 r35.2.falls_] 52, own e_disk_sector 55 r35_p1 r35_c2 r35.2.sure_, mpo (kInt .i64) (fun x : disk_sector => Value.agg #[.string x.s_, .int .i64 x.at_]) r35_b4 r35.2.wait_, own (eInt .u8) 5 p39 1 ([IntKind.u8.wrap ((x2.size : Int))] : List Int), pt b0 #[.pointer (some ⟨b1, 0, none⟩), .int .i64 m0.boot_, .int .i64 (IntKind.i64.wrap (m0.n_ + 1))] 75] ++ F0) rfl (nw_ow ?_)))
    refine ow_end rfl ?_
    refine ew_then ?_
    refine cw_seq ?_
    refine cw_region ?_
    refine ow_vals 3 (j := 3) [6, 7] [(6, .int .i64 (ior .i64 (IntKind.i64.wrap (m0.boot_ * 2 ^ 32)) (IntKind.i64.wrap (m0.n_ + 1)))), (7, .int .i64 0)] rfl (by kernel_rfl) ?_
    refine ow_end rfl ?_
    refine ew_then ?_
    refine cw_ret ?_
    have hR := Option.some.inj hF
    subst hR
    exact fin2 (H1 := [imm I, pt b0 #[.pointer (some ⟨b1, 0, none⟩), .int .i64 ((⟨m0.boot_, IntKind.i64.wrap (m0.n_ + 1)⟩ : guard_Guard).boot_), .int .i64 ((⟨m0.boot_, IntKind.i64.wrap (m0.n_ + 1)⟩ : guard_Guard).n_)] 75, pt b1 #[.slice r35_p1 r35.2.sure_.length r35_c2, .map (some r35_b4), .bool r35.2.off_, .bool r35.2.armed_, .int .i64 r35.2.left_, .int .u64 r35.2.fall_.Keep, .int .i64 r35.2.fall_.Tear, .int .i64 r35.2.acts_, .int .i64 r35.2.falls_] 52, own e_disk_sector 55 r35_p1 r35_c2 r35.2.sure_, mpo (kInt .i64) (fun x : disk_sector => Value.agg #[.string x.s_, .int .i64 x.at_]) r35_b4 r35.2.wait_]) (fun w hs => sat_to [4, 0, 3, 0, 0, 0] 1 rfl hs) rfl (rr_tmp rfl) (rr_tmp rfl) ⟨r35_p1, r35_c2, r35_b4, rfl, rfl⟩
  refine pw_call (F := [pt b0 #[.pointer (some ⟨b1, 0, none⟩), .int .i64 m0.boot_, .int .i64 m0.n_] 75, pt b1 #[.slice p0 m1.sure_.length c0, .map (some p1), .bool m1.off_, .bool m1.armed_, .int .i64 m1.left_, .int .u64 m1.fall_.Keep, .int .i64 m1.fall_.Tear, .int .i64 m1.acts_, .int .i64 m1.falls_] 52, own e_disk_sector 55 p0 c0 m1.sure_, mpo (kInt .i64) (fun x : disk_sector => Value.agg #[.string x.s_, .int .i64 x.at_]) p1 m1.wait_] ++ F0) rfl rfl rfl rfl rfl rfl rfl (by kernel_rfl) (perm_of_pulls [0] rfl) (c_strings_Repeat _ (ByteArray.mk #[0]) (IntKind.i64.wrap (47 - (x2.size : Int))) r31 h32) ?_
  rintro _ _ ⟨rfl, rfl⟩
  refine nw_H (H' := [imm I, pt b0 #[.pointer (some ⟨b1, 0, none⟩), .int .i64 m0.boot_, .int .i64 m0.n_] 75, pt b1 #[.slice p0 m1.sure_.length c0, .map (some p1), .bool m1.off_, .bool m1.armed_, .int .i64 m1.left_, .int .u64 m1.fall_.Keep, .int .i64 m1.fall_.Tear, .int .i64 m1.acts_, .int .i64 m1.falls_] 52, own e_disk_sector 55 p0 c0 m1.sure_, mpo (kInt .i64) (fun x : disk_sector => Value.agg #[.string x.s_, .int .i64 x.at_]) p1 m1.wait_] ++ F0) rfl (aw_next (fun w hs => sat_pulls [0, 0, 0, 0, 0] (G := [] ++ F0) rfl hs) ?_)
  refine aw_only 9 (m' := 775167) (by kernel_rfl) (by kernel_rfl) (pw_buildSlice (E := 5) (eInt .u8) ([IntKind.u8.wrap ((x2.size : Int))] : List Int) rfl rfl rfl rfl rfl (by kernel_rfl) rfl (by kernel_rfl) rfl (by decide) rfl fun p39 => aw_next (fun w hs => sat_pulls [1, 1, 1, 1, 1] (G := [own (eInt .u8) 5 p39 1 ([IntKind.u8.wrap ((x2.size : Int))] : List Int)] ++ F0) rfl hs) ?_)
  refine aw_only 10 (m' := 776191) (by kernel_rfl) (by kernel_rfl) (pw_quiet (v := .string (bstr ([IntKind.u8.wrap ((x2.size : Int))] : List Int))) rfl rfl rfl rfl (q_bytes_str_own 0 rfl rfl (by kernel_rfl) (by kernel_rfl) rfl) (aw_next (fun w hs => sat_pulls [1, 1, 1, 1, 1] (G := [own (eInt .u8) 5 p39 1 ([IntKind.u8.wrap ((x2.size : Int))] : List Int)] ++ F0) rfl hs) ?_))
  refine aw_pure 11 (m' := 778239) (v := .string (r25 ++ (bstr ([IntKind.u8.wrap ((x2.size : Int))] : List Int)))) rfl rfl rfl rfl (by kernel_rfl) (by kernel_rfl) (fun _ _ _ _ _ h => calm_fin (P := Tryz.prog) (fn := Tryz.f36) _ _ _ _ _ h) (fun w hs => sat_pulls [1, 1, 1, 1, 1] (G := [own (eInt .u8) 5 p39 1 ([IntKind.u8.wrap ((x2.size : Int))] : List Int)] ++ F0) rfl hs) (q_concat rfl rfl rfl h29) ?_
  refine aw_pure 13 (m' := 786431) (v := .string ((r25 ++ (bstr ([IntKind.u8.wrap ((x2.size : Int))] : List Int))) ++ x2)) rfl rfl rfl rfl (by kernel_rfl) (by kernel_rfl) (fun _ _ _ _ _ h => calm_fin (P := Tryz.prog) (fn := Tryz.f36) _ _ _ _ _ h) (fun w hs => sat_pulls [1, 1, 1, 1, 1] (G := [own (eInt .u8) 5 p39 1 ([IntKind.u8.wrap ((x2.size : Int))] : List Int)] ++ F0) rfl hs) (q_concat rfl rfl rfl h30) ?_
  refine aw_pure 18 (m' := 1048575) (v := .string (((r25 ++ (bstr ([IntKind.u8.wrap ((x2.size : Int))] : List Int))) ++ x2) ++ r31)) rfl rfl rfl rfl (by kernel_rfl) (by kernel_rfl) (fun _ _ _ _ _ h => calm_fin (P := Tryz.prog) (fn := Tryz.f36) _ _ _ _ _ h) (fun w hs => sat_pulls [1, 1, 1, 1, 1] (G := [own (eInt .u8) 5 p39 1 ([IntKind.u8.wrap ((x2.size : Int))] : List Int)] ++ F0) rfl hs) (q_concat rfl rfl rfl h33) ?_
  refine aw_pure 20 (m' := 2097151) (v := .string ((((r25 ++ (bstr ([IntKind.u8.wrap ((x2.size : Int))] : List Int))) ++ x2) ++ r31) ++ r25)) rfl rfl rfl rfl (by kernel_rfl) (by kernel_rfl) (fun _ _ _ _ _ h => calm_fin (P := Tryz.prog) (fn := Tryz.f36) _ _ _ _ _ h) (fun w hs => sat_pulls [1, 1, 1, 1, 1] (G := [own (eInt .u8) 5 p39 1 ([IntKind.u8.wrap ((x2.size : Int))] : List Int)] ++ F0) rfl hs) (q_concat rfl rfl rfl h34) ?_
  refine aw_only 21 (m' := 4194303) (by kernel_rfl) (by kernel_rfl) (pw_call (F := [own (eInt .u8) 5 p39 1 ([IntKind.u8.wrap ((x2.size : Int))] : List Int), pt b0 #[.pointer (some ⟨b1, 0, none⟩), .int .i64 m0.boot_, .int .i64 m0.n_] 75] ++ F0) rfl rfl rfl rfl rfl rfl rfl (by kernel_rfl) (perm_of_pulls [1, 2, 2, 2] rfl) (c_disk_Disk_Write _ x1 ((((r25 ++ (bstr ([IntKind.u8.wrap ((x2.size : Int))] : List Int))) ++ x2) ++ r31) ++ r25) m1 p0 c0 p1 b1 r35 h36) ?_)
  rintro _ _ ⟨r35_p1, r35_c2, r35_b4, rfl, rfl⟩
  refine nw_H (H' := [imm I, pt b1 #[.slice r35_p1 r35.2.sure_.length r35_c2, .map (some r35_b4), .bool r35.2.off_, .bool r35.2.armed_, .int .i64 r35.2.left_, .int .u64 r35.2.fall_.Keep, .int .i64 r35.2.fall_.Tear, .int .i64 r35.2.acts_, .int .i64 r35.2.falls_] 52, own e_disk_sector 55 r35_p1 r35_c2 r35.2.sure_, mpo (kInt .i64) (fun x : disk_sector => Value.agg #[.string x.s_, .int .i64 x.at_]) r35_b4 r35.2.wait_, own (eInt .u8) 5 p39 1 ([IntKind.u8.wrap ((x2.size : Int))] : List Int), pt b0 #[.pointer (some ⟨b1, 0, none⟩), .int .i64 m0.boot_, .int .i64 m0.n_] 75] ++ F0) rfl (aw_last (by kernel_rfl) ?_)
  refine aw_past (by kernel_rfl) ?_
  refine aw_vals [22] (f' := 0) (m' := 8388607) [0, 8, 10] [(0, .pointer (some ⟨b0, 0, none⟩)), (8, .int .i64 (ior .i64 (IntKind.i64.wrap (m0.boot_ * 2 ^ 32)) (IntKind.i64.wrap (m0.n_ + 1)))), (10, .int .i64 r35.1)] (fun _ _ _ _ _ h => calm_fin (P := Tryz.prog) (fn := Tryz.f36) _ _ _ _ _ h) (fun _ _ => trivial) rfl (by kernel_rfl) ?_
  refine aw_keep [0, 8, 10] (L' := [(0, .pointer (some ⟨b0, 0, none⟩)), (8, .int .i64 (ior .i64 (IntKind.i64.wrap (m0.boot_ * 2 ^ 32)) (IntKind.i64.wrap (m0.n_ + 1)))), (10, .int .i64 r35.1)]) rfl ?_
  refine aw_end (by kernel_rfl) ?_
  refine ew_then ?_
  refine cw_seq ?_
  refine cw_region ?_
  refine ow_vals 2 (j := 2) [0, 8, 10, 60] [(0, .pointer (some ⟨b0, 0, none⟩)), (8, .int .i64 (ior .i64 (IntKind.i64.wrap (m0.boot_ * 2 ^ 32)) (IntKind.i64.wrap (m0.n_ + 1)))), (10, .int .i64 r35.1), (60, .bool (r35.1 != 0))] rfl (by kernel_rfl) ?_
  refine ow_end rfl ?_
  refine ew_then ?_
  rcases if_some hF with ⟨h43, hF⟩ | ⟨h43, hF⟩
  · refine cw_cond_t rfl rfl h43 ?_
    refine cw_seq ?_
    refine cw_region ?_
    refine ow_vals 3 (j := 3) [6, 7] [(6, .int .i64 0), (7, .int .i64 r35.1)] rfl (by kernel_rfl) ?_
    refine ow_end rfl ?_
    refine ew_then ?_
    refine cw_ret ?_
    refine ew_then_ret ?_
    have hR := Option.some.inj hF
    subst hR
    exact fin2 (H1 := [imm I, pt b0 #[.pointer (some ⟨b1, 0, none⟩), .int .i64 m0.boot_, .int .i64 m0.n_] 75, pt b1 #[.slice r35_p1 r35.2.sure_.length r35_c2, .map (some r35_b4), .bool r35.2.off_, .bool r35.2.armed_, .int .i64 r35.2.left_, .int .u64 r35.2.fall_.Keep, .int .i64 r35.2.fall_.Tear, .int .i64 r35.2.acts_, .int .i64 r35.2.falls_] 52, own e_disk_sector 55 r35_p1 r35_c2 r35.2.sure_, mpo (kInt .i64) (fun x : disk_sector => Value.agg #[.string x.s_, .int .i64 x.at_]) r35_b4 r35.2.wait_]) (fun w hs => sat_to [4, 0, 3, 0, 0, 0] 1 rfl hs) rfl (rr_tmp rfl) (rr_tmp rfl) ⟨r35_p1, r35_c2, r35_b4, rfl, rfl⟩
  refine cw_cond_f rfl rfl h43 ?_
  refine cw_skip ?_
  refine ew_then ?_
  refine cw_seq ?_
  refine cw_region ?_
  refine ow_vals 3 (j := 3) [8, 62, 64] [(8, .int .i64 (ior .i64 (IntKind.i64.wrap (m0.boot_ * 2 ^ 32)) (IntKind.i64.wrap (m0.n_ + 1)))), (62, .pointer (some ⟨b0, 0, none⟩)), (64, .pointer (some ⟨b0, 2, none⟩))] rfl (by kernel_rfl) ?_
  refine ow_pw rfl (pw_quiet (v := .int .i64 m0.n_) rfl rfl rfl rfl (q_load 5 rfl rfl rfl (by kernel_rfl)) (nw_ow ?_))
  refine ow_vals 3 (j := 7) [8, 66, 68] [(8, .int .i64 (ior .i64 (IntKind.i64.wrap (m0.boot_ * 2 ^ 32)) (IntKind.i64.wrap (m0.n_ + 1)))), (66, .int .i64 (IntKind.i64.wrap (m0.n_ + 1))), (68, .pointer (some ⟨b0, 2, none⟩))] rfl (by kernel_rfl) ?_
  refine ow_pw rfl (pw_store 5 #[.pointer (some ⟨b1, 0, none⟩), .int .i64 m0.boot_, .int .i64 (IntKind.i64.wrap (m0.n_ + 1))] rfl rfl rfl rfl rfl rfl rfl (by kernel_rfl) (nw_H (H' := [imm I, pt b1 #[.slice r35_p1 r35.2.sure_.length r35_c2, .map (some r35_b4), .bool r35.2.off_, .bool r35.2.armed_, .int .i64 r35.2.left_, .int .u64 r35.2.fall_.Keep, .int .i64 r35.2.fall_.Tear, .int .i64 r35.2.acts_, .int .i64 r35.2.falls_] 52, own e_disk_sector 55 r35_p1 r35_c2 r35.2.sure_, mpo (kInt .i64) (fun x : disk_sector => Value.agg #[.string x.s_, .int .i64 x.at_]) r35_b4 r35.2.wait_, own (eInt .u8) 5 p39 1 ([IntKind.u8.wrap ((x2.size : Int))] : List Int), pt b0 #[.pointer (some ⟨b1, 0, none⟩), .int .i64 m0.boot_, .int .i64 (IntKind.i64.wrap (m0.n_ + 1))] 75] ++ F0) rfl (nw_ow ?_)))
  refine ow_end rfl ?_
  refine ew_then ?_
  refine cw_seq ?_
  refine cw_region ?_
  refine ow_vals 3 (j := 3) [6, 7] [(6, .int .i64 (ior .i64 (IntKind.i64.wrap (m0.boot_ * 2 ^ 32)) (IntKind.i64.wrap (m0.n_ + 1)))), (7, .int .i64 0)] rfl (by kernel_rfl) ?_
  refine ow_end rfl ?_
  refine ew_then ?_
  refine cw_ret ?_
  have hR := Option.some.inj hF
  subst hR
  exact fin2 (H1 := [imm I, pt b0 #[.pointer (some ⟨b1, 0, none⟩), .int .i64 ((⟨m0.boot_, IntKind.i64.wrap (m0.n_ + 1)⟩ : guard_Guard).boot_), .int .i64 ((⟨m0.boot_, IntKind.i64.wrap (m0.n_ + 1)⟩ : guard_Guard).n_)] 75, pt b1 #[.slice r35_p1 r35.2.sure_.length r35_c2, .map (some r35_b4), .bool r35.2.off_, .bool r35.2.armed_, .int .i64 r35.2.left_, .int .u64 r35.2.fall_.Keep, .int .i64 r35.2.fall_.Tear, .int .i64 r35.2.acts_, .int .i64 r35.2.falls_] 52, own e_disk_sector 55 r35_p1 r35_c2 r35.2.sure_, mpo (kInt .i64) (fun x : disk_sector => Value.agg #[.string x.s_, .int .i64 x.at_]) r35_b4 r35.2.wait_]) (fun w hs => sat_to [4, 0, 3, 0, 0, 0] 1 rfl hs) rfl (rr_tmp rfl) (rr_tmp rfl) ⟨r35_p1, r35_c2, r35_b4, rfl, rfl⟩


def F.disk_Disk_Flush.l1 (q32 : Int × disk_sector) (l33 : List disk_sector) (l37 : List (Int × disk_sector)) : Option ((List disk_sector) × (List (Int × disk_sector))) :=
  Option.bind (at_ l33 q32.1) (fun (y41 : disk_sector) => some ((l33.set q32.1.toNat q32.2, mdel l37 q32.1)))
def F.disk_Disk_Flush.x2 (l33 : List disk_sector) (l37 : List (Int × disk_sector)) : Option ((List disk_sector) × (List (Int × disk_sector))) :=
  some ((l33, l37))
theorem ord_F_disk_Disk_Flush_l1 (L : List (Int × disk_sector)) (s v : (List disk_sector) × (List (Int × disk_sector))) (hn : (L.map Prod.fst).Nodup) (h : mloop (fun q x => F.disk_Disk_Flush.l1 q x.1 x.2) L s = some v) : ∀ l, l.Perm L → ∃ w, mloop (fun q x => F.disk_Disk_Flush.l1 q x.1 x.2) l s = some w ∧ w = v := by
  refine fun l hl => ⟨v, ?_, rfl⟩
  rw [← h]
  refine (mloop_perm (D := fun a b => a.1 ≠ b.1) (fun _ _ h => h.symm) (fun a b s hab => ?_) hl.symm (map_fst_pair hn) s).symm
  obtain ⟨s, t⟩ := s
  dsimp only
  unfold F.disk_Disk_Flush.l1
  cases ha : at_ s a.1 with
  | none =>
    cases hb : at_ s b.1 with
    | none => rfl
    | some y => simp only [Option.bind_some, Option.bind_none, at_set_none ha]
  | some x =>
    cases hb : at_ s b.1 with
    | none => simp only [Option.bind_some, Option.bind_none, at_set_none hb]
    | some y =>
      obtain ⟨y2, hb2⟩ := at_set_some (i := a.1.toNat) (v := a.2) hb
      obtain ⟨x2, ha2⟩ := at_set_some (i := b.1.toNat) (v := b.2) ha
      simp only [Option.bind_some, ha2, hb2]
      have h1 := (at_some ha).1
      have h2 := (at_some hb).1
      rw [mdel_comm, List.set_comm _ _ (by omega)]
def F.disk_Disk_Flush.r3 (r24 : Int × disk_Disk) (l43 : List disk_sector) (l47 : List (Int × disk_sector)) : Option (Int × disk_Disk) :=
  some ((0, (⟨l43, l47, r24.2.off_, r24.2.armed_, r24.2.left_, r24.2.fall_, r24.2.acts_, r24.2.falls_⟩ : disk_Disk)))
def F.disk_Disk_Flush (m0 : disk_Disk) : Option (Int × disk_Disk) :=
  Option.bind (F.disk_Disk_why 0 m0) (fun (r21 : Int) => if r21 != 0 then (some ((r21, m0))) else (Option.bind (F.disk_Disk_act m0) (fun (r24 : Int × disk_Disk) => if r24.1 != 0 then (some ((r24.1, r24.2))) else (Option.bind (chk (r24.2.wait_.length ≤ 1000000) (Option.bind (mloop (fun q x => F.disk_Disk_Flush.l1 q x.1 x.2) r24.2.wait_ (r24.2.sure_, r24.2.wait_)) (fun x => F.disk_Disk_Flush.x2 x.1 x.2))) (fun x => F.disk_Disk_Flush.r3 r24 x.1 x.2)))))
set_option maxRecDepth 100000 in
set_option maxHeartbeats 4000000 in
theorem c_disk_Disk_Flush (I : Hl) (m0 : disk_Disk) (p0 : Option Addr) (c0 : Nat) (p1 : Nat) (b0 : Nat) (res : Int × disk_Disk) (hF : F.disk_Disk_Flush m0 = some res) : Tr Tryz.prog 51 [.pointer (some ⟨b0, 0, none⟩)] [imm I, pt b0 #[.slice p0 m0.sure_.length c0, .map (some p1), .bool m0.off_, .bool m0.armed_, .int .i64 m0.left_, .int .u64 m0.fall_.Keep, .int .i64 m0.fall_.Tear, .int .i64 m0.acts_, .int .i64 m0.falls_] 52, own e_disk_sector 55 p0 c0 m0.sure_, mpo (kInt .i64) (fun x : disk_sector => Value.agg #[.string x.s_, .int .i64 x.at_]) p1 m0.wait_] (fun r H' => ∃ (pq1 : Option Addr), ∃ (cq2 : Nat), ∃ (bq4 : Nat), r = .int .i64 res.1 ∧ H' = [imm I, pt b0 #[.slice pq1 res.2.sure_.length cq2, .map (some bq4), .bool res.2.off_, .bool res.2.armed_, .int .i64 res.2.left_, .int .u64 res.2.fall_.Keep, .int .i64 res.2.fall_.Tear, .int .i64 res.2.acts_, .int .i64 res.2.falls_] 52, own e_disk_sector 55 pq1 cq2 res.2.sure_, mpo (kInt .i64) (fun x : disk_sector => Value.agg #[.string x.s_, .int .i64 x.at_]) bq4 res.2.wait_]) := by
  unfold F.disk_Disk_Flush at hF
  refine tr_of_cw (fn := Tryz.f51) Tryz.func51 rfl (Nat.le_of_ble_eq_true rfl) 39 rfl fun F0 w0 => ?_
  refine cw_keep [0] (L' := [(0, .pointer (some ⟨b0, 0, none⟩))]) rfl ?_
  refine cw_state (S' := SAT w0 ([imm I, pt b0 #[.slice p0 m0.sure_.length c0, .map (some p1), .bool m0.off_, .bool m0.armed_, .int .i64 m0.left_, .int .u64 m0.fall_.Keep, .int .i64 m0.fall_.Tear, .int .i64 m0.acts_, .int .i64 m0.falls_] 52, own e_disk_sector 55 p0 c0 m0.sure_, mpo (kInt .i64) (fun x : disk_sector => Value.agg #[.string x.s_, .int .i64 x.at_]) p1 m0.wait_] ++ F0)) (fun w hs => hs) ?_
  refine cw_seq ?_
  refine cw_region ?_
  refine ow_vals 1 (j := 1) [0] [(0, .pointer (some ⟨b0, 0, none⟩))] rfl (by kernel_rfl) ?_
  refine ow_end rfl ?_
  refine ew_then ?_
  refine cw_seq ?_
  refine cw_seq ?_
  refine cw_region ?_
  refine ow_vals 1 (j := 1) [0, 7] [(0, .pointer (some ⟨b0, 0, none⟩)), (7, .pointer (some ⟨b0, 0, none⟩))] rfl (by kernel_rfl) ?_
  obtain ⟨r21, h22, hF⟩ := bind_some hF
  refine ow_pw rfl (pw_call (F := [] ++ F0) rfl rfl rfl rfl rfl rfl rfl (by kernel_rfl) (perm_of_pulls [0, 0, 0, 0] rfl) (c_disk_Disk_why _ 0 m0 p0 c0 p1 b0 r21 h22) ?_)
  rintro _ _ ⟨rfl, rfl⟩
  refine nw_H (H' := [imm I, pt b0 #[.slice p0 m0.sure_.length c0, .map (some p1), .bool m0.off_, .bool m0.armed_, .int .i64 m0.left_, .int .u64 m0.fall_.Keep, .int .i64 m0.fall_.Tear, .int .i64 m0.acts_, .int .i64 m0.falls_] 52, own e_disk_sector 55 p0 c0 m0.sure_, mpo (kInt .i64) (fun x : disk_sector => Value.agg #[.string x.s_, .int .i64 x.at_]) p1 m0.wait_] ++ F0) rfl (nw_ow ?_)
  refine ow_vals 1 (j := 3) [0, 3] [(0, .pointer (some ⟨b0, 0, none⟩)), (3, .int .i64 r21)] rfl (by kernel_rfl) ?_
  refine ow_end rfl ?_
  refine ew_then ?_
  refine cw_seq ?_
  refine cw_region ?_
  refine ow_vals 2 (j := 2) [0, 3, 10] [(0, .pointer (some ⟨b0, 0, none⟩)), (3, .int .i64 r21), (10, .bool (r21 != 0))] rfl (by kernel_rfl) ?_
  refine ow_end rfl ?_
  refine ew_then ?_
  rcases if_some hF with ⟨h23, hF⟩ | ⟨h23, hF⟩
  · refine cw_cond_t rfl rfl h23 ?_
    refine cw_seq ?_
    refine cw_region ?_
    refine ow_vals 2 (j := 2) [2] [(2, .int .i64 r21)] rfl (by kernel_rfl) ?_
    refine ow_end rfl ?_
    refine ew_then ?_
    refine cw_ret ?_
    refine ew_then_ret ?_
    have hR := Option.some.inj hF
    subst hR
    exact fin1 (H1 := [imm I, pt b0 #[.slice p0 m0.sure_.length c0, .map (some p1), .bool m0.off_, .bool m0.armed_, .int .i64 m0.left_, .int .u64 m0.fall_.Keep, .int .i64 m0.fall_.Tear, .int .i64 m0.acts_, .int .i64 m0.falls_] 52, own e_disk_sector 55 p0 c0 m0.sure_, mpo (kInt .i64) (fun x : disk_sector => Value.agg #[.string x.s_, .int .i64 x.at_]) p1 m0.wait_]) (fun w hs => sat_to [0, 0, 0, 0] 0 rfl hs) rfl (rr_tmp rfl) ⟨p0, c0, p1, rfl, rfl⟩
  refine cw_cond_f rfl rfl h23 ?_
  refine cw_skip ?_
  refine ew_then ?_
  refine cw_seq ?_
  refine cw_seq ?_
  refine cw_region ?_
  refine ow_vals 1 (j := 1) [0, 12] [(0, .pointer (some ⟨b0, 0, none⟩)), (12, .pointer (some ⟨b0, 0, none⟩))] rfl (by kernel_rfl) ?_
  obtain ⟨r24, h25, hF⟩ := bind_some hF
  refine ow_pw rfl (pw_call (F := [] ++ F0) rfl rfl rfl rfl rfl rfl rfl (by kernel_rfl) (perm_of_pulls [0, 0, 0, 0] rfl) (c_disk_Disk_act _ m0 p0 c0 p1 b0 r24 h25) ?_)
  rintro _ _ ⟨r24_p1, r24_c2, r24_b4, rfl, rfl⟩
  refine nw_H (H' := [imm I, pt b0 #[.slice r24_p1 r24.2.sure_.length r24_c2, .map (some r24_b4), .bool r24.2.off_, .bool r24.2.armed_, .int .i64 r24.2.left_, .int .u64 r24.2.fall_.Keep, .int .i64 r24.2.fall_.Tear, .int .i64 r24.2.acts_, .int .i64 r24.2.falls_] 52, own e_disk_sector 55 r24_p1 r24_c2 r24.2.sure_, mpo (kInt .i64) (fun x : disk_sector => Value.agg #[.string x.s_, .int .i64 x.at_]) r24_b4 r24.2.wait_] ++ F0) rfl (nw_ow ?_)
  refine ow_vals 1 (j := 3) [0, 4] [(0, .pointer (some ⟨b0, 0, none⟩)), (4, .int .i64 r24.1)] rfl (by kernel_rfl) ?_
  refine ow_end rfl ?_
  refine ew_then ?_
  refine cw_seq ?_
  refine cw_region ?_
  refine ow_vals 2 (j := 2) [0, 4, 15] [(0, .pointer (some ⟨b0, 0, none⟩)), (4, .int .i64 r24.1), (15, .bool (r24.1 != 0))] rfl (by kernel_rfl) ?_
  refine ow_end rfl ?_
  refine ew_then ?_
  rcases if_some hF with ⟨h28, hF⟩ | ⟨h28, hF⟩
  · refine cw_cond_t rfl rfl h28 ?_
    refine cw_seq ?_
    refine cw_region ?_
    refine ow_vals 2 (j := 2) [2] [(2, .int .i64 r24.1)] rfl (by kernel_rfl) ?_
    refine ow_end rfl ?_
    refine ew_then ?_
    refine cw_ret ?_
    refine ew_then_ret ?_
    have hR := Option.some.inj hF
    subst hR
    exact fin1 (H1 := [imm I, pt b0 #[.slice r24_p1 r24.2.sure_.length r24_c2, .map (some r24_b4), .bool r24.2.off_, .bool r24.2.armed_, .int .i64 r24.2.left_, .int .u64 r24.2.fall_.Keep, .int .i64 r24.2.fall_.Tear, .int .i64 r24.2.acts_, .int .i64 r24.2.falls_] 52, own e_disk_sector 55 r24_p1 r24_c2 r24.2.sure_, mpo (kInt .i64) (fun x : disk_sector => Value.agg #[.string x.s_, .int .i64 x.at_]) r24_b4 r24.2.wait_]) (fun w hs => sat_to [0, 0, 0, 0] 0 rfl hs) rfl (rr_tmp rfl) ⟨r24_p1, r24_c2, r24_b4, rfl, rfl⟩
  refine cw_cond_f rfl rfl h28 ?_
  refine cw_skip ?_
  refine ew_then ?_
  obtain ⟨v29, hF, hK29⟩ := bind_some hF
  refine cw_mid (fun a w => ∃ (l43 : List disk_sector), ∃ (l47 : List (Int × disk_sector)), ∃ (p44 : Option Addr), ∃ (c45 : Nat), (l43, l47) = v29 ∧ Fr 39 [] a ∧ SAT w0 ([imm I, pt b0 #[.slice p44 l43.length c45, .map (some r24_b4), .bool r24.2.off_, .bool r24.2.armed_, .int .i64 r24.2.left_, .int .u64 r24.2.fall_.Keep, .int .i64 r24.2.fall_.Tear, .int .i64 r24.2.acts_, .int .i64 r24.2.falls_] 52, own e_disk_sector 55 p44 c45 l43, mpo (kInt .i64) (fun x : disk_sector => Value.agg #[.string x.s_, .int .i64 x.at_]) r24_b4 l47] ++ F0) w) ?_ ?_
  · refine cw_seq ?_
    refine cw_region ?_
    refine ow_vals 3 (j := 3) [0, 19] [(0, .pointer (some ⟨b0, 0, none⟩)), (19, .pointer (some ⟨b0, 1, none⟩))] rfl (by kernel_rfl) ?_
    refine ow_pw rfl (pw_quiet (v := .map (some r24_b4)) rfl rfl rfl rfl (q_load 1 rfl rfl rfl (by kernel_rfl)) (nw_ow ?_))
    refine ow_pw rfl (pw_range 3 rfl rfl rfl rfl rfl rfl rfl rfl fun b30 => nw_H (H' := [imm I, pt b0 #[.slice r24_p1 r24.2.sure_.length r24_c2, .map (some r24_b4), .bool r24.2.off_, .bool r24.2.armed_, .int .i64 r24.2.left_, .int .u64 r24.2.fall_.Keep, .int .i64 r24.2.fall_.Tear, .int .i64 r24.2.acts_, .int .i64 r24.2.falls_] 52, own e_disk_sector 55 r24_p1 r24_c2 r24.2.sure_, mrg (kInt .i64) (fun x : disk_sector => Value.agg #[.string x.s_, .int .i64 x.at_]) r24_b4 b30 r24.2.wait_ r24.2.wait_ none] ++ F0) rfl (nw_ow ?_))
    refine ow_end rfl ?_
    refine ew_then ?_
    refine cw_block ?_
    obtain ⟨h31, hF⟩ := chk_some hF
    obtain ⟨v32, hv32, hX32⟩ := bind_some hF
    clear hF
    refine fun a w hf hs => ?_
    have hn32 := mrg_keys (k := 3) rfl hs
    have ho32 := ord_F_disk_Disk_Flush_l1 r24.2.wait_ (r24.2.sure_, r24.2.wait_) _ hn32 hv32
    refine wp_rounds (fun k a w => ∃ (l33 : List disk_sector), ∃ (l37 : List (Int × disk_sector)), ∃ (p34 : Option Addr), ∃ (c35 : Nat), ∃ (dn32 : List (Int × disk_sector)), ∃ (lt32 : List (Int × disk_sector)), (dn32 ++ lt32).Perm r24.2.wait_ ∧ mloop (fun q x => F.disk_Disk_Flush.l1 q x.1 x.2) dn32 (r24.2.sure_, r24.2.wait_) = some (l33, l37) ∧ lt32.length < k ∧ Fr 39 [(0, .pointer (some ⟨b0, 0, none⟩)), (21, .pointer (some ⟨b30, 0, none⟩))] a ∧ SAT w0 ([imm I, pt b0 #[.slice p34 l33.length c35, .map (some r24_b4), .bool r24.2.off_, .bool r24.2.armed_, .int .i64 r24.2.left_, .int .u64 r24.2.fall_.Keep, .int .i64 r24.2.fall_.Tear, .int .i64 r24.2.acts_, .int .i64 r24.2.falls_] 52, own e_disk_sector 55 p34 c35 l33, mrg (kInt .i64) (fun x : disk_sector => Value.agg #[.string x.s_, .int .i64 x.at_]) r24_b4 b30 l37 lt32 none] ++ F0) w) ?_ FUEL a w ⟨r24.2.sure_, r24.2.wait_, r24_p1, r24_c2, [], r24.2.wait_, List.Perm.refl _, rfl, (by rw [FUEL_eq]; omega), hf.keep [0, 21], sat_to [0, 0, 0, 0] 0 rfl hs⟩
    clear hf hs
    clear a w
    rintro k a w ⟨l33, l37, p34, c35, dn32, lt32, hP32, hD32, hk32, hf, hs⟩
    revert a w
    show CW _ _ _ 39 [(0, .pointer (some ⟨b0, 0, none⟩)), (21, .pointer (some ⟨b30, 0, none⟩))] (SAT w0 ([imm I, pt b0 #[.slice p34 l33.length c35, .map (some r24_b4), .bool r24.2.off_, .bool r24.2.armed_, .int .i64 r24.2.left_, .int .u64 r24.2.fall_.Keep, .int .i64 r24.2.fall_.Tear, .int .i64 r24.2.acts_, .int .i64 r24.2.falls_] 52, own e_disk_sector 55 p34 c35 l33, mrg (kInt .i64) (fun x : disk_sector => Value.agg #[.string x.s_, .int .i64 x.at_]) r24_b4 b30 l37 lt32 none] ++ F0))
    refine cw_seq ?_
    refine cw_region ?_
    refine ow_pw rfl (pw_next 3 rfl rfl rfl rfl rfl rfl rfl (fun h032 => nw_ow ?_) (fun q32 lf32 hq32 => nw_H (H' := [imm I, pt b0 #[.slice p34 l33.length c35, .map (some r24_b4), .bool r24.2.off_, .bool r24.2.armed_, .int .i64 r24.2.left_, .int .u64 r24.2.fall_.Keep, .int .i64 r24.2.fall_.Tear, .int .i64 r24.2.acts_, .int .i64 r24.2.falls_] 52, own e_disk_sector 55 p34 c35 l33, mrg (kInt .i64) (fun x : disk_sector => Value.agg #[.string x.s_, .int .i64 x.at_]) r24_b4 b30 l37 lf32 (some q32)] ++ F0) rfl (nw_ow ?_)))
    · obtain ⟨w32, hv32, hR32⟩ := ho32 dn32 (by rw [h032, List.append_nil] at hP32; exact hP32)
      rw [hD32] at hv32
      obtain rfl := Option.some.inj hv32
      subst hR32
      have hF := hX32
      try dsimp only at hF
      unfold F.disk_Disk_Flush.x2 at hF
      refine ow_state (S' := SAT w0 ([imm I, pt b0 #[.slice p34 l33.length c35, .map (some r24_b4), .bool r24.2.off_, .bool r24.2.armed_, .int .i64 r24.2.left_, .int .u64 r24.2.fall_.Keep, .int .i64 r24.2.fall_.Tear, .int .i64 r24.2.acts_, .int .i64 r24.2.falls_] 52, own e_disk_sector 55 p34 c35 l33, mpo (kInt .i64) (fun x : disk_sector => Value.agg #[.string x.s_, .int .i64 x.at_]) r24_b4 l37] ++ F0)) (fun w hs => sat_mrg_end (k := 3) rfl hs) ?_
      refine ow_vals 1 (j := 2) [0, 21, 23] [(0, .pointer (some ⟨b0, 0, none⟩)), (21, .pointer (some ⟨b30, 0, none⟩)), (23, .bool false)] rfl (by kernel_rfl) ?_
      refine ow_end rfl ?_
      refine ew_then ?_
      refine cw_seq ?_
      refine cw_cond_f rfl rfl rfl ?_
      refine cw_exit ?_
      refine ew_then_exit ?_
      refine ew_then_exit ?_
      refine ew_blk_exit ?_
      have hR := Option.some.inj hF
      exact fun a w hf hs => ⟨l33, l37, p34, c35, hR, hf.keep [], sat_to [0, 0, 0, 0] 0 rfl hs⟩
    obtain ⟨u32, hu32⟩ := mloop_step (fun l' h => (ho32 l' h).imp fun _ h => h.1) hD32 ((hq32.append_left dn32).symm.trans hP32)
    have hF := hu32
    try dsimp only at hF
    unfold F.disk_Disk_Flush.l1 at hF
    refine ow_vals 1 (j := 2) [0, 21, 23] [(0, .pointer (some ⟨b0, 0, none⟩)), (21, .pointer (some ⟨b30, 0, none⟩)), (23, .bool true)] rfl (by kernel_rfl) ?_
    refine ow_end rfl ?_
    refine ew_then ?_
    refine cw_seq ?_
    refine cw_cond_t rfl rfl rfl ?_
    refine cw_skip ?_
    refine ew_then ?_
    refine cw_block ?_
    refine cw_seq ?_
    refine cw_region ?_
    refine ow_pw rfl (pw_quiet (v := .tuple #[.int .i64 q32.1, .agg #[.string q32.2.s_, .int .i64 q32.2.at_]]) rfl rfl rfl rfl (q_entry (kf := (kInt .i64)) (vf := (fun x : disk_sector => Value.agg #[.string x.s_, .int .i64 x.at_])) (p := q32) 3 rfl rfl rfl) (nw_ow ?_))
    refine ow_vals 2 (j := 3) [0, 21, 25, 26] [(0, .pointer (some ⟨b0, 0, none⟩)), (21, .pointer (some ⟨b30, 0, none⟩)), (25, .int .i64 q32.1), (26, .agg #[.string q32.2.s_, .int .i64 q32.2.at_])] rfl (by kernel_rfl) ?_
    refine ow_pw rfl (pw_alloc (cs := #[.string (ByteArray.mk #[]), .int .i64 0]) rfl rfl rfl rfl rfl (by kernel_rfl) fun b39 => nw_ow ?_)
    refine ow_vals 1 (j := 5) [0, 5, 6, 21, 26] [(0, .pointer (some ⟨b0, 0, none⟩)), (5, .int .i64 q32.1), (6, .pointer (some ⟨b39, 0, none⟩)), (21, .pointer (some ⟨b30, 0, none⟩)), (26, .agg #[.string q32.2.s_, .int .i64 q32.2.at_])] rfl (by kernel_rfl) ?_
    refine ow_pw rfl (pw_store 0 #[.string q32.2.s_, .int .i64 q32.2.at_] rfl rfl rfl rfl rfl rfl rfl (by kernel_rfl) (nw_H (H' := [pt b39 #[.string q32.2.s_, .int .i64 q32.2.at_] 55, imm I, pt b0 #[.slice p34 l33.length c35, .map (some r24_b4), .bool r24.2.off_, .bool r24.2.armed_, .int .i64 r24.2.left_, .int .u64 r24.2.fall_.Keep, .int .i64 r24.2.fall_.Tear, .int .i64 r24.2.acts_, .int .i64 r24.2.falls_] 52, own e_disk_sector 55 p34 c35 l33, mrg (kInt .i64) (fun x : disk_sector => Value.agg #[.string x.s_, .int .i64 x.at_]) r24_b4 b30 l37 lf32 (some q32)] ++ F0) rfl (nw_ow ?_)))
    refine ow_end rfl ?_
    refine ew_then ?_
    refine cw_seq ?_
    refine cw_open 7 (SAT w0 ([pt b39 #[.string q32.2.s_, .int .i64 q32.2.at_] 55, imm I, pt b0 #[.slice p34 l33.length c35, .map (some r24_b4), .bool r24.2.off_, .bool r24.2.armed_, .int .i64 r24.2.left_, .int .u64 r24.2.fall_.Keep, .int .i64 r24.2.fall_.Tear, .int .i64 r24.2.acts_, .int .i64 r24.2.falls_] 52, own e_disk_sector 55 p34 c35 l33, mrg (kInt .i64) (fun x : disk_sector => Value.agg #[.string x.s_, .int .i64 x.at_]) r24_b4 b30 l37 lf32 (some q32)])) (by kernel_rfl) (f := 8) rfl (fun w hs => sat_drew hs) ?_
    refine aw_vals [0, 1, 2, 4] (f' := 4) (m' := 23) [0, 5, 6, 21, 29, 31] [(0, .pointer (some ⟨b0, 0, none⟩)), (5, .int .i64 q32.1), (6, .pointer (some ⟨b39, 0, none⟩)), (21, .pointer (some ⟨b30, 0, none⟩)), (29, .pointer (some ⟨b0, 0, none⟩)), (31, .int .i64 q32.1)] (fun _ _ _ _ _ h => calm_fin (P := Tryz.prog) (fn := Tryz.f51) _ _ _ _ _ h) (fun w hs => sat_pulls [0, 0, 0, 0, 0] (G := [] ++ F0) rfl hs) rfl (by kernel_rfl) ?_
    refine aw_quiet 3 (m' := 31) (v := .slice p34 l33.length c35) 3 [] rfl rfl rfl rfl (by kernel_rfl) (by kernel_rfl) (by kernel_rfl) (fun _ _ _ _ _ h => calm_fin (P := Tryz.prog) (fn := Tryz.f51) _ _ _ _ _ h) (fun w hs => sat_pulls [0, 0, 0, 0, 0] (G := [] ++ F0) rfl hs) (q_load 2 rfl rfl rfl (by kernel_rfl)) ?_
    refine aw_quiet 5 (m' := 63) (v := .agg #[.string q32.2.s_, .int .i64 q32.2.at_]) 5 [] rfl rfl rfl rfl (by kernel_rfl) (by kernel_rfl) (by kernel_rfl) (fun _ _ _ _ _ h => calm_fin (P := Tryz.prog) (fn := Tryz.f51) _ _ _ _ _ h) (fun w hs => sat_pulls [0, 0, 0, 0, 0] (G := [] ++ F0) rfl hs) (q_load 0 rfl rfl rfl (by kernel_rfl)) ?_
    obtain ⟨y41, h42, hF⟩ := bind_some hF
    refine aw_quiet 6 (m' := 127) (v := .pointer (some ((base p34).add (q32.1.toNat * 2)))) 6 [] rfl rfl rfl rfl (by kernel_rfl) (by kernel_rfl) (by kernel_rfl) (fun _ _ _ _ _ h => calm_fin (P := Tryz.prog) (fn := Tryz.f51) _ _ _ _ _ h) (fun w hs => sat_pulls [0, 0, 0, 0, 0] (G := [] ++ F0) rfl hs) (q_index_own 3 2 rfl rfl (by kernel_rfl) rfl rfl (at_some h42).1 (at_lt h42)) ?_
    refine aw_only 7 (m' := 255) (by kernel_rfl) (by kernel_rfl) (pw_store_own 3 2 (z' := q32.2) (off := 0) rfl rfl rfl rfl rfl rfl rfl rfl (at_some h42).2 (by kernel_rfl) (nw_H (H' := [pt b39 #[.string q32.2.s_, .int .i64 q32.2.at_] 55, imm I, pt b0 #[.slice p34 (l33.set q32.1.toNat q32.2).length c35, .map (some r24_b4), .bool r24.2.off_, .bool r24.2.armed_, .int .i64 r24.2.left_, .int .u64 r24.2.fall_.Keep, .int .i64 r24.2.fall_.Tear, .int .i64 r24.2.acts_, .int .i64 r24.2.falls_] 52, own e_disk_sector 55 p34 c35 (l33.set q32.1.toNat q32.2), mrg (kInt .i64) (fun x : disk_sector => Value.agg #[.string x.s_, .int .i64 x.at_]) r24_b4 b30 l37 lf32 (some q32)] ++ F0) (by first | rfl | (simp only [List.length_set]; rfl)) (aw_last (by kernel_rfl) ?_)))
    refine aw_slots (L' := [(33, .pointer (some ((base p34).add (q32.1.toNat * 2)))), (32, .agg #[.string q32.2.s_, .int .i64 q32.2.at_]), (30, .slice p34 (l33.set q32.1.toNat q32.2).length c35), (0, .pointer (some ⟨b0, 0, none⟩)), (5, .int .i64 q32.1), (6, .pointer (some ⟨b39, 0, none⟩)), (21, .pointer (some ⟨b30, 0, none⟩)), (29, .pointer (some ⟨b0, 0, none⟩)), (31, .int .i64 q32.1)]) (by first | rfl | (simp only [List.length_set]; rfl)) ?_
    refine aw_keep [0, 5, 21] (L' := [(0, .pointer (some ⟨b0, 0, none⟩)), (5, .int .i64 q32.1), (21, .pointer (some ⟨b30, 0, none⟩))]) rfl ?_
    refine aw_end (by kernel_rfl) ?_
    refine ew_then ?_
    refine cw_region ?_
    refine ow_vals 3 (j := 3) [0, 5, 21, 36] [(0, .pointer (some ⟨b0, 0, none⟩)), (5, .int .i64 q32.1), (21, .pointer (some ⟨b30, 0, none⟩)), (36, .pointer (some ⟨b0, 1, none⟩))] rfl (by kernel_rfl) ?_
    refine ow_pw rfl (pw_quiet (v := .map (some r24_b4)) rfl rfl rfl rfl (q_load 2 rfl rfl rfl (by kernel_rfl)) (nw_ow ?_))
    refine ow_vals 1 (j := 5) [0, 21, 37, 38] [(0, .pointer (some ⟨b0, 0, none⟩)), (21, .pointer (some ⟨b30, 0, none⟩)), (37, .map (some r24_b4)), (38, .int .i64 q32.1)] rfl (by kernel_rfl) ?_
    refine ow_pw rfl (pw_mapDel_cur 4 (p := q32) (mkey_int (by kernel_rfl)) rfl rfl rfl rfl rfl rfl rfl rfl rfl (nw_H (H' := [pt b39 #[.string q32.2.s_, .int .i64 q32.2.at_] 55, imm I, pt b0 #[.slice p34 (l33.set q32.1.toNat q32.2).length c35, .map (some r24_b4), .bool r24.2.off_, .bool r24.2.armed_, .int .i64 r24.2.left_, .int .u64 r24.2.fall_.Keep, .int .i64 r24.2.fall_.Tear, .int .i64 r24.2.acts_, .int .i64 r24.2.falls_] 52, own e_disk_sector 55 p34 c35 (l33.set q32.1.toNat q32.2), mrg (kInt .i64) (fun x : disk_sector => Value.agg #[.string x.s_, .int .i64 x.at_]) r24_b4 b30 (mdel l37 q32.1) lf32 none] ++ F0) rfl (nw_ow ?_)))
    refine ow_end rfl ?_
    refine ew_blk ?_
    have hR := Option.some.inj hF
    subst hR
    exact fun a w hf hs => ⟨lt32.length, hk32, l33.set q32.1.toNat q32.2, mdel l37 q32.1, p34, c35, dn32 ++ [q32], lf32, (by rw [List.append_assoc]; exact (hq32.append_left dn32).symm.trans hP32), mloop_snoc hD32 hu32, (by rw [hq32.length_eq]; exact Nat.lt_succ_self _), hf.keep [0, 21], sat_to [0, 0, 0, 0, 0] 1 rfl (sat_mrg_none (k := 4) rfl hs)⟩
  rintro a w ⟨l43, l47, p44, c45, hv, hf, hs⟩
  subst hv
  replace hF := hK29
  clear hK29
  try dsimp only at hF
  revert a w
  show CW _ _ _ 39 [] (SAT w0 ([imm I, pt b0 #[.slice p44 l43.length c45, .map (some r24_b4), .bool r24.2.off_, .bool r24.2.armed_, .int .i64 r24.2.left_, .int .u64 r24.2.fall_.Keep, .int .i64 r24.2.fall_.Tear, .int .i64 r24.2.acts_, .int .i64 r24.2.falls_] 52, own e_disk_sector 55 p44 c45 l43, mpo (kInt .i64) (fun x : disk_sector => Value.agg #[.string x.s_, .int .i64 x.at_]) r24_b4 l47] ++ F0))
  unfold F.disk_Disk_Flush.r3 at hF
  refine cw_seq ?_
  refine cw_region ?_
  refine ow_vals 1 (j := 1) [2] [(2, .int .i64 0)] rfl (by kernel_rfl) ?_
  refine ow_end rfl ?_
  refine ew_then ?_
  refine cw_ret ?_
  have hR := Option.some.inj hF
  subst hR
  exact fin1 (H1 := [imm I, pt b0 #[.slice p44 ((⟨l43, l47, r24.2.off_, r24.2.armed_, r24.2.left_, r24.2.fall_, r24.2.acts_, r24.2.falls_⟩ : disk_Disk).sure_).length c45, .map (some r24_b4), .bool ((⟨l43, l47, r24.2.off_, r24.2.armed_, r24.2.left_, r24.2.fall_, r24.2.acts_, r24.2.falls_⟩ : disk_Disk).off_), .bool ((⟨l43, l47, r24.2.off_, r24.2.armed_, r24.2.left_, r24.2.fall_, r24.2.acts_, r24.2.falls_⟩ : disk_Disk).armed_), .int .i64 ((⟨l43, l47, r24.2.off_, r24.2.armed_, r24.2.left_, r24.2.fall_, r24.2.acts_, r24.2.falls_⟩ : disk_Disk).left_), .int .u64 (((⟨l43, l47, r24.2.off_, r24.2.armed_, r24.2.left_, r24.2.fall_, r24.2.acts_, r24.2.falls_⟩ : disk_Disk).fall_).Keep), .int .i64 (((⟨l43, l47, r24.2.off_, r24.2.armed_, r24.2.left_, r24.2.fall_, r24.2.acts_, r24.2.falls_⟩ : disk_Disk).fall_).Tear), .int .i64 ((⟨l43, l47, r24.2.off_, r24.2.armed_, r24.2.left_, r24.2.fall_, r24.2.acts_, r24.2.falls_⟩ : disk_Disk).acts_), .int .i64 ((⟨l43, l47, r24.2.off_, r24.2.armed_, r24.2.left_, r24.2.fall_, r24.2.acts_, r24.2.falls_⟩ : disk_Disk).falls_)] 52, own e_disk_sector 55 p44 c45 ((⟨l43, l47, r24.2.off_, r24.2.armed_, r24.2.left_, r24.2.fall_, r24.2.acts_, r24.2.falls_⟩ : disk_Disk).sure_), mpo (kInt .i64) (fun x : disk_sector => Value.agg #[.string x.s_, .int .i64 x.at_]) r24_b4 ((⟨l43, l47, r24.2.off_, r24.2.armed_, r24.2.left_, r24.2.fall_, r24.2.acts_, r24.2.falls_⟩ : disk_Disk).wait_)]) (fun w hs => sat_to [0, 0, 0, 0] 0 rfl hs) rfl (rr_tmp rfl) ⟨p44, c45, r24_b4, rfl, rfl⟩


def F.guard_Guard_Flush (m0 : guard_Guard) (m1 : disk_Disk) : Option (Int × disk_Disk) :=
  Option.bind (F.guard_Guard_none m0 m1) (fun (r21 : Unit) => Option.bind (F.disk_Disk_Flush m1) (fun (r23 : Int × disk_Disk) => some ((r23.1, r23.2))))
set_option maxRecDepth 100000 in
set_option maxHeartbeats 4000000 in
theorem c_guard_Guard_Flush (I : Hl) (m0 : guard_Guard) (m1 : disk_Disk) (b0 : Nat) (p0 : Option Addr) (c0 : Nat) (p1 : Nat) (b1 : Nat) (res : Int × disk_Disk) (hF : F.guard_Guard_Flush m0 m1 = some res) : Tr Tryz.prog 37 [.pointer (some ⟨b0, 0, none⟩)] [imm I, pt b0 #[.pointer (some ⟨b1, 0, none⟩), .int .i64 m0.boot_, .int .i64 m0.n_] 75, pt b1 #[.slice p0 m1.sure_.length c0, .map (some p1), .bool m1.off_, .bool m1.armed_, .int .i64 m1.left_, .int .u64 m1.fall_.Keep, .int .i64 m1.fall_.Tear, .int .i64 m1.acts_, .int .i64 m1.falls_] 52, own e_disk_sector 55 p0 c0 m1.sure_, mpo (kInt .i64) (fun x : disk_sector => Value.agg #[.string x.s_, .int .i64 x.at_]) p1 m1.wait_] (fun r H' => ∃ (pq1 : Option Addr), ∃ (cq2 : Nat), ∃ (bq4 : Nat), r = .int .i64 res.1 ∧ H' = [imm I, pt b0 #[.pointer (some ⟨b1, 0, none⟩), .int .i64 m0.boot_, .int .i64 m0.n_] 75, pt b1 #[.slice pq1 res.2.sure_.length cq2, .map (some bq4), .bool res.2.off_, .bool res.2.armed_, .int .i64 res.2.left_, .int .u64 res.2.fall_.Keep, .int .i64 res.2.fall_.Tear, .int .i64 res.2.acts_, .int .i64 res.2.falls_] 52, own e_disk_sector 55 pq1 cq2 res.2.sure_, mpo (kInt .i64) (fun x : disk_sector => Value.agg #[.string x.s_, .int .i64 x.at_]) bq4 res.2.wait_]) := by
  unfold F.guard_Guard_Flush at hF
  refine tr_of_cw (fn := Tryz.f37) Tryz.func37 rfl (Nat.le_of_ble_eq_true rfl) 10 rfl fun F0 w0 => ?_
  refine cw_keep [0] (L' := [(0, .pointer (some ⟨b0, 0, none⟩))]) rfl ?_
  refine cw_state (S' := SAT w0 ([imm I, pt b0 #[.pointer (some ⟨b1, 0, none⟩), .int .i64 m0.boot_, .int .i64 m0.n_] 75, pt b1 #[.slice p0 m1.sure_.length c0, .map (some p1), .bool m1.off_, .bool m1.armed_, .int .i64 m1.left_, .int .u64 m1.fall_.Keep, .int .i64 m1.fall_.Tear, .int .i64 m1.acts_, .int .i64 m1.falls_] 52, own e_disk_sector 55 p0 c0 m1.sure_, mpo (kInt .i64) (fun x : disk_sector => Value.agg #[.string x.s_, .int .i64 x.at_]) p1 m1.wait_] ++ F0)) (fun w hs => hs) ?_
  refine cw_seq ?_
  refine cw_region ?_
  refine ow_vals 1 (j := 1) [0] [(0, .pointer (some ⟨b0, 0, none⟩))] rfl (by kernel_rfl) ?_
  refine ow_end rfl ?_
  refine ew_then ?_
  refine cw_seq ?_
  refine cw_seq ?_
  refine cw_region ?_
  refine ow_vals 1 (j := 1) [0, 3] [(0, .pointer (some ⟨b0, 0, none⟩)), (3, .pointer (some ⟨b0, 0, none⟩))] rfl (by kernel_rfl) ?_
  obtain ⟨r21, h22, hF⟩ := bind_some hF
  refine ow_pw rfl (pw_call (F := [] ++ F0) rfl rfl rfl rfl rfl rfl rfl (by kernel_rfl) (perm_of_pulls [0, 0, 0, 0, 0] rfl) (c_guard_Guard_none _ m0 m1 b0 p0 c0 p1 b1 r21 h22) ?_)
  rintro _ _ ⟨rfl, rfl⟩
  refine nw_H (H' := [imm I, pt b0 #[.pointer (some ⟨b1, 0, none⟩), .int .i64 m0.boot_, .int .i64 m0.n_] 75, pt b1 #[.slice p0 m1.sure_.length c0, .map (some p1), .bool m1.off_, .bool m1.armed_, .int .i64 m1.left_, .int .u64 m1.fall_.Keep, .int .i64 m1.fall_.Tear, .int .i64 m1.acts_, .int .i64 m1.falls_] 52, own e_disk_sector 55 p0 c0 m1.sure_, mpo (kInt .i64) (fun x : disk_sector => Value.agg #[.string x.s_, .int .i64 x.at_]) p1 m1.wait_] ++ F0) rfl (nw_ow ?_)
  refine ow_end rfl ?_
  refine ew_then ?_
  refine cw_cond_f rfl rfl rfl ?_
  refine cw_skip ?_
  refine ew_then ?_
  refine cw_seq ?_
  refine cw_region ?_
  refine ow_vals 3 (j := 3) [7] [(7, .pointer (some ⟨b0, 0, none⟩))] rfl (by kernel_rfl) ?_
  refine ow_pw rfl (pw_quiet (v := .pointer (some ⟨b1, 0, none⟩)) rfl rfl rfl rfl (q_load 1 rfl rfl rfl (by kernel_rfl)) (nw_ow ?_))
  obtain ⟨r23, h24, hF⟩ := bind_some hF
  refine ow_pw rfl (pw_call (F := [pt b0 #[.pointer (some ⟨b1, 0, none⟩), .int .i64 m0.boot_, .int .i64 m0.n_] 75] ++ F0) rfl rfl rfl rfl rfl rfl rfl (by kernel_rfl) (perm_of_pulls [0, 1, 1, 1] rfl) (c_disk_Disk_Flush _ m1 p0 c0 p1 b1 r23 h24) ?_)
  rintro _ _ ⟨r23_p1, r23_c2, r23_b4, rfl, rfl⟩
  refine nw_H (H' := [imm I, pt b1 #[.slice r23_p1 r23.2.sure_.length r23_c2, .map (some r23_b4), .bool r23.2.off_, .bool r23.2.armed_, .int .i64 r23.2.left_, .int .u64 r23.2.fall_.Keep, .int .i64 r23.2.fall_.Tear, .int .i64 r23.2.acts_, .int .i64 r23.2.falls_] 52, own e_disk_sector 55 r23_p1 r23_c2 r23.2.sure_, mpo (kInt .i64) (fun x : disk_sector => Value.agg #[.string x.s_, .int .i64 x.at_]) r23_b4 r23.2.wait_, pt b0 #[.pointer (some ⟨b1, 0, none⟩), .int .i64 m0.boot_, .int .i64 m0.n_] 75] ++ F0) rfl (nw_ow ?_)
  refine ow_vals 1 (j := 6) [2] [(2, .int .i64 r23.1)] rfl (by kernel_rfl) ?_
  refine ow_end rfl ?_
  refine ew_then ?_
  refine cw_ret ?_
  have hR := Option.some.inj hF
  subst hR
  exact fin1 (H1 := [imm I, pt b0 #[.pointer (some ⟨b1, 0, none⟩), .int .i64 m0.boot_, .int .i64 m0.n_] 75, pt b1 #[.slice r23_p1 r23.2.sure_.length r23_c2, .map (some r23_b4), .bool r23.2.off_, .bool r23.2.armed_, .int .i64 r23.2.left_, .int .u64 r23.2.fall_.Keep, .int .i64 r23.2.fall_.Tear, .int .i64 r23.2.acts_, .int .i64 r23.2.falls_] 52, own e_disk_sector 55 r23_p1 r23_c2 r23.2.sure_, mpo (kInt .i64) (fun x : disk_sector => Value.agg #[.string x.s_, .int .i64 x.at_]) r23_b4 r23.2.wait_]) (fun w hs => sat_to [0, 3, 0, 0, 0] 0 rfl hs) rfl (rr_tmp rfl) ⟨r23_p1, r23_c2, r23_b4, rfl, rfl⟩


def F.keyring_Ring_Put (x1 : Int) (x2 : ByteArray) (m0 : keyring_Ring) (m1 : guard_Guard) (m2 : disk_Disk) : Option (Int × guard_Guard × disk_Disk) :=
  Option.bind (F.keyring_Ring_why x1 m0 m1 m2) (fun (r21 : Int) => if r21 != 0 then (some ((r21, m1, m2))) else (if (x2.size : Int) != 32 then (some ((1, m1, m2))) else (Option.bind (F.keyring_Ring_Free x1 m0 m1 m2) (fun (r25 : Bool) => if !r25 then (Option.bind (F.guard_Guard_Get (IntKind.i64.wrap (m0.base_ + x1)) m1 m2) (fun (r28 : ByteArray × Int × Int) => if r28.2.2 == 8 then (some ((r28.2.2, m1, m2))) else (some ((25, m1, m2))))) else (Option.bind (F.guard_Guard_Put (IntKind.i64.wrap (m0.base_ + x1)) x2 m1 m2) (fun (r31 : Int × Int × guard_Guard × disk_Disk) => if r31.2.1 != 0 then (some ((r31.2.1, r31.2.2.1, r31.2.2.2))) else (Option.bind (F.guard_Guard_Flush r31.2.2.1 r31.2.2.2) (fun (r36 : Int × disk_Disk) => some ((r36.1, r31.2.2.1, r36.2))))))))))
set_option maxRecDepth 100000 in
set_option maxHeartbeats 4000000 in
theorem c_keyring_Ring_Put (I : Hl) (x1 : Int) (x2 : ByteArray) (m0 : keyring_Ring) (m1 : guard_Guard) (m2 : disk_Disk) (b0 : Nat) (b1 : Nat) (p0 : Option Addr) (c0 : Nat) (p1 : Nat) (b2 : Nat) (res : Int × guard_Guard × disk_Disk) (hF : F.keyring_Ring_Put x1 x2 m0 m1 m2 = some res) : Tr Tryz.prog 19 [.pointer (some ⟨b0, 0, none⟩), .int .i64 x1, .string x2] [imm I, pt b0 #[.pointer (some ⟨b1, 0, none⟩), .int .i64 m0.base_, .int .i64 m0.slots_, .int .i64 m0.shred_] 78, pt b1 #[.pointer (some ⟨b2, 0, none⟩), .int .i64 m1.boot_, .int .i64 m1.n_] 75, pt b2 #[.slice p0 m2.sure_.length c0, .map (some p1), .bool m2.off_, .bool m2.armed_, .int .i64 m2.left_, .int .u64 m2.fall_.Keep, .int .i64 m2.fall_.Tear, .int .i64 m2.acts_, .int .i64 m2.falls_] 52, own e_disk_sector 55 p0 c0 m2.sure_, mpo (kInt .i64) (fun x : disk_sector => Value.agg #[.string x.s_, .int .i64 x.at_]) p1 m2.wait_] (fun r H' => ∃ (pq1 : Option Addr), ∃ (cq2 : Nat), ∃ (bq4 : Nat), r = .int .i64 res.1 ∧ H' = [imm I, pt b0 #[.pointer (some ⟨b1, 0, none⟩), .int .i64 m0.base_, .int .i64 m0.slots_, .int .i64 m0.shred_] 78, pt b1 #[.pointer (some ⟨b2, 0, none⟩), .int .i64 res.2.1.boot_, .int .i64 res.2.1.n_] 75, pt b2 #[.slice pq1 res.2.2.sure_.length cq2, .map (some bq4), .bool res.2.2.off_, .bool res.2.2.armed_, .int .i64 res.2.2.left_, .int .u64 res.2.2.fall_.Keep, .int .i64 res.2.2.fall_.Tear, .int .i64 res.2.2.acts_, .int .i64 res.2.2.falls_] 52, own e_disk_sector 55 pq1 cq2 res.2.2.sure_, mpo (kInt .i64) (fun x : disk_sector => Value.agg #[.string x.s_, .int .i64 x.at_]) bq4 res.2.2.wait_]) := by
  unfold F.keyring_Ring_Put at hF
  refine tr_of_cw (fn := Tryz.f19) Tryz.func19 rfl (Nat.le_of_ble_eq_true rfl) 69 rfl fun F0 w0 => ?_
  refine cw_keep [0, 1, 2] (L' := [(0, .pointer (some ⟨b0, 0, none⟩)), (1, .int .i64 x1), (2, .string x2)]) rfl ?_
  refine cw_state (S' := SAT w0 ([imm I, pt b0 #[.pointer (some ⟨b1, 0, none⟩), .int .i64 m0.base_, .int .i64 m0.slots_, .int .i64 m0.shred_] 78, pt b1 #[.pointer (some ⟨b2, 0, none⟩), .int .i64 m1.boot_, .int .i64 m1.n_] 75, pt b2 #[.slice p0 m2.sure_.length c0, .map (some p1), .bool m2.off_, .bool m2.armed_, .int .i64 m2.left_, .int .u64 m2.fall_.Keep, .int .i64 m2.fall_.Tear, .int .i64 m2.acts_, .int .i64 m2.falls_] 52, own e_disk_sector 55 p0 c0 m2.sure_, mpo (kInt .i64) (fun x : disk_sector => Value.agg #[.string x.s_, .int .i64 x.at_]) p1 m2.wait_] ++ F0)) (fun w hs => hs) ?_
  refine cw_seq ?_
  refine cw_region ?_
  refine ow_vals 1 (j := 1) [0, 1, 2] [(0, .pointer (some ⟨b0, 0, none⟩)), (1, .int .i64 x1), (2, .string x2)] rfl (by kernel_rfl) ?_
  refine ow_end rfl ?_
  refine ew_then ?_
  refine cw_seq ?_
  refine cw_seq ?_
  refine cw_region ?_
  refine ow_vals 2 (j := 2) [0, 1, 2, 13, 14] [(0, .pointer (some ⟨b0, 0, none⟩)), (1, .int .i64 x1), (2, .string x2), (13, .pointer (some ⟨b0, 0, none⟩)), (14, .int .i64 x1)] rfl (by kernel_rfl) ?_
  obtain ⟨r21, h22, hF⟩ := bind_some hF
  refine ow_pw rfl (pw_call (F := [] ++ F0) rfl rfl rfl rfl rfl rfl rfl (by kernel_rfl) (perm_of_pulls [0, 0, 0, 0, 0, 0] rfl) (c_keyring_Ring_why _ x1 m0 m1 m2 b0 b1 p0 c0 p1 b2 r21 h22) ?_)
  rintro _ _ ⟨rfl, rfl⟩
  refine nw_H (H' := [imm I, pt b0 #[.pointer (some ⟨b1, 0, none⟩), .int .i64 m0.base_, .int .i64 m0.slots_, .int .i64 m0.shred_] 78, pt b1 #[.pointer (some ⟨b2, 0, none⟩), .int .i64 m1.boot_, .int .i64 m1.n_] 75, pt b2 #[.slice p0 m2.sure_.length c0, .map (some p1), .bool m2.off_, .bool m2.armed_, .int .i64 m2.left_, .int .u64 m2.fall_.Keep, .int .i64 m2.fall_.Tear, .int .i64 m2.acts_, .int .i64 m2.falls_] 52, own e_disk_sector 55 p0 c0 m2.sure_, mpo (kInt .i64) (fun x : disk_sector => Value.agg #[.string x.s_, .int .i64 x.at_]) p1 m2.wait_] ++ F0) rfl (nw_ow ?_)
  refine ow_vals 1 (j := 4) [0, 1, 2, 7] [(0, .pointer (some ⟨b0, 0, none⟩)), (1, .int .i64 x1), (2, .string x2), (7, .int .i64 r21)] rfl (by kernel_rfl) ?_
  refine ow_end rfl ?_
  refine ew_then ?_
  refine cw_seq ?_
  refine cw_region ?_
  refine ow_vals 2 (j := 2) [0, 1, 2, 7, 17] [(0, .pointer (some ⟨b0, 0, none⟩)), (1, .int .i64 x1), (2, .string x2), (7, .int .i64 r21), (17, .bool (r21 != 0))] rfl (by kernel_rfl) ?_
  refine ow_end rfl ?_
  refine ew_then ?_
  rcases if_some hF with ⟨h23, hF⟩ | ⟨h23, hF⟩
  · refine cw_cond_t rfl rfl h23 ?_
    refine cw_seq ?_
    refine cw_region ?_
    refine ow_vals 2 (j := 2) [6] [(6, .int .i64 r21)] rfl (by kernel_rfl) ?_
    refine ow_end rfl ?_
    refine ew_then ?_
    refine cw_ret ?_
    refine ew_then_ret ?_
    have hR := Option.some.inj hF
    subst hR
    exact fin1 (H1 := [imm I, pt b0 #[.pointer (some ⟨b1, 0, none⟩), .int .i64 m0.base_, .int .i64 m0.slots_, .int .i64 m0.shred_] 78, pt b1 #[.pointer (some ⟨b2, 0, none⟩), .int .i64 m1.boot_, .int .i64 m1.n_] 75, pt b2 #[.slice p0 m2.sure_.length c0, .map (some p1), .bool m2.off_, .bool m2.armed_, .int .i64 m2.left_, .int .u64 m2.fall_.Keep, .int .i64 m2.fall_.Tear, .int .i64 m2.acts_, .int .i64 m2.falls_] 52, own e_disk_sector 55 p0 c0 m2.sure_, mpo (kInt .i64) (fun x : disk_sector => Value.agg #[.string x.s_, .int .i64 x.at_]) p1 m2.wait_]) (fun w hs => sat_to [0, 0, 0, 0, 0, 0] 0 rfl hs) rfl (rr_tmp rfl) ⟨p0, c0, p1, rfl, rfl⟩
  refine cw_cond_f rfl rfl h23 ?_
  refine cw_skip ?_
  refine ew_then ?_
  refine cw_seq ?_
  refine cw_block ?_
  refine cw_seq ?_
  refine cw_region ?_
  refine ow_vals 4 (j := 4) [0, 1, 2, 19] [(0, .pointer (some ⟨b0, 0, none⟩)), (1, .int .i64 x1), (2, .string x2), (19, .bool ((x2.size : Int) != 32))] rfl (by kernel_rfl) ?_
  refine ow_end rfl ?_
  refine ew_then ?_
  rcases if_some hF with ⟨h24, hF⟩ | ⟨h24, hF⟩
  · refine cw_cond_t rfl rfl h24 ?_
    refine cw_seq ?_
    refine cw_region ?_
    refine ow_vals 1 (j := 1) [6] [(6, .int .i64 1)] rfl (by kernel_rfl) ?_
    refine ow_end rfl ?_
    refine ew_then ?_
    refine cw_ret ?_
    refine ew_blk_ret ?_
    refine ew_then_ret ?_
    have hR := Option.some.inj hF
    subst hR
    exact fin1 (H1 := [imm I, pt b0 #[.pointer (some ⟨b1, 0, none⟩), .int .i64 m0.base_, .int .i64 m0.slots_, .int .i64 m0.shred_] 78, pt b1 #[.pointer (some ⟨b2, 0, none⟩), .int .i64 m1.boot_, .int .i64 m1.n_] 75, pt b2 #[.slice p0 m2.sure_.length c0, .map (some p1), .bool m2.off_, .bool m2.armed_, .int .i64 m2.left_, .int .u64 m2.fall_.Keep, .int .i64 m2.fall_.Tear, .int .i64 m2.acts_, .int .i64 m2.falls_] 52, own e_disk_sector 55 p0 c0 m2.sure_, mpo (kInt .i64) (fun x : disk_sector => Value.agg #[.string x.s_, .int .i64 x.at_]) p1 m2.wait_]) (fun w hs => sat_to [0, 0, 0, 0, 0, 0] 0 rfl hs) rfl (rr_tmp rfl) ⟨p0, c0, p1, rfl, rfl⟩
  refine cw_cond_f rfl rfl h24 ?_
  refine cw_seq ?_
  refine cw_region ?_
  refine ow_vals 2 (j := 2) [0, 1, 2, 24, 25] [(0, .pointer (some ⟨b0, 0, none⟩)), (1, .int .i64 x1), (2, .string x2), (24, .pointer (some ⟨b0, 0, none⟩)), (25, .int .i64 x1)] rfl (by kernel_rfl) ?_
  obtain ⟨r25, h26, hF⟩ := bind_some hF
  refine ow_pw rfl (pw_call (F := [] ++ F0) rfl rfl rfl rfl rfl rfl rfl (by kernel_rfl) (perm_of_pulls [0, 0, 0, 0, 0, 0] rfl) (c_keyring_Ring_Free _ x1 m0 m1 m2 b0 b1 p0 c0 p1 b2 r25 h26) ?_)
  rintro _ _ ⟨rfl, rfl⟩
  refine nw_H (H' := [imm I, pt b0 #[.pointer (some ⟨b1, 0, none⟩), .int .i64 m0.base_, .int .i64 m0.slots_, .int .i64 m0.shred_] 78, pt b1 #[.pointer (some ⟨b2, 0, none⟩), .int .i64 m1.boot_, .int .i64 m1.n_] 75, pt b2 #[.slice p0 m2.sure_.length c0, .map (some p1), .bool m2.off_, .bool m2.armed_, .int .i64 m2.left_, .int .u64 m2.fall_.Keep, .int .i64 m2.fall_.Tear, .int .i64 m2.acts_, .int .i64 m2.falls_] 52, own e_disk_sector 55 p0 c0 m2.sure_, mpo (kInt .i64) (fun x : disk_sector => Value.agg #[.string x.s_, .int .i64 x.at_]) p1 m2.wait_] ++ F0) rfl (nw_ow ?_)
  refine ow_vals 2 (j := 5) [0, 1, 2, 23] [(0, .pointer (some ⟨b0, 0, none⟩)), (1, .int .i64 x1), (2, .string x2), (23, .bool (!r25))] rfl (by kernel_rfl) ?_
  refine ow_end rfl ?_
  refine ew_then ?_
  rcases if_some hF with ⟨h27, hF⟩ | ⟨h27, hF⟩
  · refine cw_cond_t rfl rfl h27 ?_
    refine cw_seq ?_
    refine cw_seq ?_
    refine cw_open 18 (SAT w0 ([imm I, pt b0 #[.pointer (some ⟨b1, 0, none⟩), .int .i64 m0.base_, .int .i64 m0.slots_, .int .i64 m0.shred_] 78, pt b1 #[.pointer (some ⟨b2, 0, none⟩), .int .i64 m1.boot_, .int .i64 m1.n_] 75, pt b2 #[.slice p0 m2.sure_.length c0, .map (some p1), .bool m2.off_, .bool m2.armed_, .int .i64 m2.left_, .int .u64 m2.fall_.Keep, .int .i64 m2.fall_.Tear, .int .i64 m2.acts_, .int .i64 m2.falls_] 52, own e_disk_sector 55 p0 c0 m2.sure_, mpo (kInt .i64) (fun x : disk_sector => Value.agg #[.string x.s_, .int .i64 x.at_]) p1 m2.wait_])) (by kernel_rfl) (f := 18) rfl (fun w hs => sat_drew hs) ?_
    refine aw_vals [0, 1, 2, 4, 5, 6, 8] (f' := 11) (m' := 375) [31, 35, 37] [(31, .pointer (some ⟨b0, 0, none⟩)), (35, .pointer (some ⟨b0, 1, none⟩)), (37, .int .i64 x1)] (fun _ _ _ _ _ h => calm_fin (P := Tryz.prog) (fn := Tryz.f19) _ _ _ _ _ h) (fun w hs => sat_pulls [0, 0, 0, 0, 0, 0] (G := [] ++ F0) rfl hs) rfl (by kernel_rfl) ?_
    refine aw_quiet 3 (m' := 383) (v := .pointer (some ⟨b1, 0, none⟩)) 0 [] rfl rfl rfl rfl (by kernel_rfl) (by kernel_rfl) (by kernel_rfl) (fun _ _ _ _ _ h => calm_fin (P := Tryz.prog) (fn := Tryz.f19) _ _ _ _ _ h) (fun w hs => sat_pulls [0, 0, 0, 0, 0, 0] (G := [] ++ F0) rfl hs) (q_load 1 rfl rfl rfl (by kernel_rfl)) ?_
    refine aw_quiet 7 (m' := 511) (v := .int .i64 m0.base_) 0 [] rfl rfl rfl rfl (by kernel_rfl) (by kernel_rfl) (by kernel_rfl) (fun _ _ _ _ _ h => calm_fin (P := Tryz.prog) (fn := Tryz.f19) _ _ _ _ _ h) (fun w hs => sat_pulls [0, 0, 0, 0, 0, 0] (G := [] ++ F0) rfl hs) (q_load 1 rfl rfl rfl (by kernel_rfl)) ?_
    refine aw_vals [9] (f' := 8) (m' := 1023) [32, 38] [(32, .pointer (some ⟨b1, 0, none⟩)), (38, .int .i64 (IntKind.i64.wrap (m0.base_ + x1)))] (fun _ _ _ _ _ h => calm_fin (P := Tryz.prog) (fn := Tryz.f19) _ _ _ _ _ h) (fun w hs => sat_pulls [0, 0, 0, 0, 0, 0] (G := [] ++ F0) rfl hs) rfl (by kernel_rfl) ?_
    obtain ⟨r28, h29, hF⟩ := bind_some hF
    refine aw_only 10 (m' := 2047) (by kernel_rfl) (by kernel_rfl) (pw_call (F := [pt b0 #[.pointer (some ⟨b1, 0, none⟩), .int .i64 m0.base_, .int .i64 m0.slots_, .int .i64 m0.shred_] 78] ++ F0) rfl rfl rfl rfl rfl rfl rfl (by kernel_rfl) (perm_of_pulls [0, 1, 1, 1, 1] rfl) (c_guard_Guard_Get _ (IntKind.i64.wrap (m0.base_ + x1)) m1 m2 b1 p0 c0 p1 b2 r28 h29) ?_)
    rintro _ _ ⟨rfl, rfl⟩
    refine nw_H (H' := [imm I, pt b1 #[.pointer (some ⟨b2, 0, none⟩), .int .i64 m1.boot_, .int .i64 m1.n_] 75, pt b2 #[.slice p0 m2.sure_.length c0, .map (some p1), .bool m2.off_, .bool m2.armed_, .int .i64 m2.left_, .int .u64 m2.fall_.Keep, .int .i64 m2.fall_.Tear, .int .i64 m2.acts_, .int .i64 m2.falls_] 52, own e_disk_sector 55 p0 c0 m2.sure_, mpo (kInt .i64) (fun x : disk_sector => Value.agg #[.string x.s_, .int .i64 x.at_]) p1 m2.wait_, pt b0 #[.pointer (some ⟨b1, 0, none⟩), .int .i64 m0.base_, .int .i64 m0.slots_, .int .i64 m0.shred_] 78] ++ F0) rfl (aw_next (fun w hs => sat_pulls [0, 4, 0, 0, 0, 0] (G := [] ++ F0) rfl hs) ?_)
    refine aw_vals [11, 12, 13, 14, 15, 16, 17] (f' := 0) (m' := 262143) [10] [(10, .int .i64 r28.2.2)] (fun _ _ _ _ _ h => calm_fin (P := Tryz.prog) (fn := Tryz.f19) _ _ _ _ _ h) (fun w hs => sat_pulls [0, 4, 0, 0, 0, 0] (G := [] ++ F0) rfl hs) rfl (by kernel_rfl) ?_
    refine aw_keep [10] (L' := [(10, .int .i64 r28.2.2)]) rfl ?_
    refine aw_end (by kernel_rfl) ?_
    refine ew_then ?_
    refine cw_seq ?_
    refine cw_region ?_
    refine ow_vals 2 (j := 2) [10, 44] [(10, .int .i64 r28.2.2), (44, .bool (r28.2.2 == 8))] rfl (by kernel_rfl) ?_
    refine ow_end rfl ?_
    refine ew_then ?_
    rcases if_some hF with ⟨h30, hF⟩ | ⟨h30, hF⟩
    · refine cw_cond_t rfl rfl h30 ?_
      refine cw_seq ?_
      refine cw_region ?_
      refine ow_vals 2 (j := 2) [6] [(6, .int .i64 r28.2.2)] rfl (by kernel_rfl) ?_
      refine ow_end rfl ?_
      refine ew_then ?_
      refine cw_ret ?_
      refine ew_then_ret ?_
      refine ew_blk_ret ?_
      refine ew_then_ret ?_
      have hR := Option.some.inj hF
      subst hR
      exact fin1 (H1 := [imm I, pt b0 #[.pointer (some ⟨b1, 0, none⟩), .int .i64 m0.base_, .int .i64 m0.slots_, .int .i64 m0.shred_] 78, pt b1 #[.pointer (some ⟨b2, 0, none⟩), .int .i64 m1.boot_, .int .i64 m1.n_] 75, pt b2 #[.slice p0 m2.sure_.length c0, .map (some p1), .bool m2.off_, .bool m2.armed_, .int .i64 m2.left_, .int .u64 m2.fall_.Keep, .int .i64 m2.fall_.Tear, .int .i64 m2.acts_, .int .i64 m2.falls_] 52, own e_disk_sector 55 p0 c0 m2.sure_, mpo (kInt .i64) (fun x : disk_sector => Value.agg #[.string x.s_, .int .i64 x.at_]) p1 m2.wait_]) (fun w hs => sat_to [0, 4, 0, 0, 0, 0] 0 rfl hs) rfl (rr_tmp rfl) ⟨p0, c0, p1, rfl, rfl⟩
    refine cw_cond_f rfl rfl h30 ?_
    refine cw_skip ?_
    refine ew_then ?_
    refine cw_seq ?_
    refine cw_region ?_
    refine ow_vals 1 (j := 1) [6] [(6, .int .i64 25)] rfl (by kernel_rfl) ?_
    refine ow_end rfl ?_
    refine ew_then ?_
    refine cw_ret ?_
    refine ew_blk_ret ?_
    refine ew_then_ret ?_
    have hR := Option.some.inj hF
    subst hR
    exact fin1 (H1 := [imm I, pt b0 #[.pointer (some ⟨b1, 0, none⟩), .int .i64 m0.base_, .int .i64 m0.slots_, .int .i64 m0.shred_] 78, pt b1 #[.pointer (some ⟨b2, 0, none⟩), .int .i64 m1.boot_, .int .i64 m1.n_] 75, pt b2 #[.slice p0 m2.sure_.length c0, .map (some p1), .bool m2.off_, .bool m2.armed_, .int .i64 m2.left_, .int .u64 m2.fall_.Keep, .int .i64 m2.fall_.Tear, .int .i64 m2.acts_, .int .i64 m2.falls_] 52, own e_disk_sector 55 p0 c0 m2.sure_, mpo (kInt .i64) (fun x : disk_sector => Value.agg #[.string x.s_, .int .i64 x.at_]) p1 m2.wait_]) (fun w hs => sat_to [0, 4, 0, 0, 0, 0] 0 rfl hs) rfl (rr_tmp rfl) ⟨p0, c0, p1, rfl, rfl⟩
  refine cw_cond_f rfl rfl h27 ?_
  refine cw_skip ?_
  refine ew_blk ?_
  refine ew_then ?_
  refine cw_seq ?_
  refine cw_seq ?_
  refine cw_open 11 (SAT w0 ([imm I, pt b0 #[.pointer (some ⟨b1, 0, none⟩), .int .i64 m0.base_, .int .i64 m0.slots_, .int .i64 m0.shred_] 78, pt b1 #[.pointer (some ⟨b2, 0, none⟩), .int .i64 m1.boot_, .int .i64 m1.n_] 75, pt b2 #[.slice p0 m2.sure_.length c0, .map (some p1), .bool m2.off_, .bool m2.armed_, .int .i64 m2.left_, .int .u64 m2.fall_.Keep, .int .i64 m2.fall_.Tear, .int .i64 m2.acts_, .int .i64 m2.falls_] 52, own e_disk_sector 55 p0 c0 m2.sure_, mpo (kInt .i64) (fun x : disk_sector => Value.agg #[.string x.s_, .int .i64 x.at_]) p1 m2.wait_])) (by kernel_rfl) (f := 17) rfl (fun w hs => sat_drew hs) ?_
  refine aw_vals [0, 1, 2, 4, 5, 6, 8, 10] (f' := 9) (m' := 1399) [0, 49, 53, 55, 57] [(0, .pointer (some ⟨b0, 0, none⟩)), (49, .pointer (some ⟨b0, 0, none⟩)), (53, .pointer (some ⟨b0, 1, none⟩)), (55, .int .i64 x1), (57, .string x2)] (fun _ _ _ _ _ h => calm_fin (P := Tryz.prog) (fn := Tryz.f19) _ _ _ _ _ h) (fun w hs => sat_pulls [0, 0, 0, 0, 0, 0] (G := [] ++ F0) rfl hs) rfl (by kernel_rfl) ?_
  refine aw_quiet 3 (m' := 1407) (v := .pointer (some ⟨b1, 0, none⟩)) 3 [] rfl rfl rfl rfl (by kernel_rfl) (by kernel_rfl) (by kernel_rfl) (fun _ _ _ _ _ h => calm_fin (P := Tryz.prog) (fn := Tryz.f19) _ _ _ _ _ h) (fun w hs => sat_pulls [0, 0, 0, 0, 0, 0] (G := [] ++ F0) rfl hs) (q_load 1 rfl rfl rfl (by kernel_rfl)) ?_
  refine aw_quiet 7 (m' := 1535) (v := .int .i64 m0.base_) 9 [7] rfl rfl rfl rfl (by kernel_rfl) (by kernel_rfl) (by kernel_rfl) (fun _ _ _ _ _ h => calm_fin (P := Tryz.prog) (fn := Tryz.f19) _ _ _ _ _ h) (fun w hs => sat_pulls [0, 0, 0, 0, 0, 0] (G := [] ++ F0) rfl hs) (q_load 1 rfl rfl rfl (by kernel_rfl)) ?_
  refine aw_vals [9] (f' := 6) (m' := 2047) [0, 50, 56, 57] [(0, .pointer (some ⟨b0, 0, none⟩)), (50, .pointer (some ⟨b1, 0, none⟩)), (56, .int .i64 (IntKind.i64.wrap (m0.base_ + x1))), (57, .string x2)] (fun _ _ _ _ _ h => calm_fin (P := Tryz.prog) (fn := Tryz.f19) _ _ _ _ _ h) (fun w hs => sat_pulls [0, 0, 0, 0, 0, 0] (G := [] ++ F0) rfl hs) rfl (by kernel_rfl) ?_
  obtain ⟨r31, h32, hF⟩ := bind_some hF
  refine aw_only 11 (m' := 4095) (by kernel_rfl) (by kernel_rfl) (pw_call (F := [pt b0 #[.pointer (some ⟨b1, 0, none⟩), .int .i64 m0.base_, .int .i64 m0.slots_, .int .i64 m0.shred_] 78] ++ F0) rfl rfl rfl rfl rfl rfl rfl (by kernel_rfl) (perm_of_pulls [0, 1, 1, 1, 1] rfl) (c_guard_Guard_Put _ (IntKind.i64.wrap (m0.base_ + x1)) x2 m1 m2 b1 p0 c0 p1 b2 r31 h32) ?_)
  rintro _ _ ⟨r31_p1, r31_c2, r31_b4, rfl, rfl⟩
  refine nw_H (H' := [imm I, pt b1 #[.pointer (some ⟨b2, 0, none⟩), .int .i64 r31.2.2.1.boot_, .int .i64 r31.2.2.1.n_] 75, pt b2 #[.slice r31_p1 r31.2.2.2.sure_.length r31_c2, .map (some r31_b4), .bool r31.2.2.2.off_, .bool r31.2.2.2.armed_, .int .i64 r31.2.2.2.left_, .int .u64 r31.2.2.2.fall_.Keep, .int .i64 r31.2.2.2.fall_.Tear, .int .i64 r31.2.2.2.acts_, .int .i64 r31.2.2.2.falls_] 52, own e_disk_sector 55 r31_p1 r31_c2 r31.2.2.2.sure_, mpo (kInt .i64) (fun x : disk_sector => Value.agg #[.string x.s_, .int .i64 x.at_]) r31_b4 r31.2.2.2.wait_, pt b0 #[.pointer (some ⟨b1, 0, none⟩), .int .i64 m0.base_, .int .i64 m0.slots_, .int .i64 m0.shred_] 78] ++ F0) rfl (aw_last (by kernel_rfl) ?_)
  refine aw_past (by kernel_rfl) ?_
  refine aw_vals [12, 13, 14, 15, 16] (f' := 0) (m' := 131071) [0, 12] [(0, .pointer (some ⟨b0, 0, none⟩)), (12, .int .i64 r31.2.1)] (fun _ _ _ _ _ h => calm_fin (P := Tryz.prog) (fn := Tryz.f19) _ _ _ _ _ h) (fun _ _ => trivial) rfl (by kernel_rfl) ?_
  refine aw_keep [0, 12] (L' := [(0, .pointer (some ⟨b0, 0, none⟩)), (12, .int .i64 r31.2.1)]) rfl ?_
  refine aw_end (by kernel_rfl) ?_
  refine ew_then ?_
  refine cw_seq ?_
  refine cw_region ?_
  refine ow_vals 2 (j := 2) [0, 12, 62] [(0, .pointer (some ⟨b0, 0, none⟩)), (12, .int .i64 r31.2.1), (62, .bool (r31.2.1 != 0))] rfl (by kernel_rfl) ?_
  refine ow_end rfl ?_
  refine ew_then ?_
  rcases if_some hF with ⟨h35, hF⟩ | ⟨h35, hF⟩
  · refine cw_cond_t rfl rfl h35 ?_
    refine cw_seq ?_
    refine cw_region ?_
    refine ow_vals 2 (j := 2) [6] [(6, .int .i64 r31.2.1)] rfl (by kernel_rfl) ?_
    refine ow_end rfl ?_
    refine ew_then ?_
    refine cw_ret ?_
    refine ew_then_ret ?_
    have hR := Option.some.inj hF
    subst hR
    exact fin1 (H1 := [imm I, pt b0 #[.pointer (some ⟨b1, 0, none⟩), .int .i64 m0.base_, .int .i64 m0.slots_, .int .i64 m0.shred_] 78, pt b1 #[.pointer (some ⟨b2, 0, none⟩), .int .i64 r31.2.2.1.boot_, .int .i64 r31.2.2.1.n_] 75, pt b2 #[.slice r31_p1 r31.2.2.2.sure_.length r31_c2, .map (some r31_b4), .bool r31.2.2.2.off_, .bool r31.2.2.2.armed_, .int .i64 r31.2.2.2.left_, .int .u64 r31.2.2.2.fall_.Keep, .int .i64 r31.2.2.2.fall_.Tear, .int .i64 r31.2.2.2.acts_, .int .i64 r31.2.2.2.falls_] 52, own e_disk_sector 55 r31_p1 r31_c2 r31.2.2.2.sure_, mpo (kInt .i64) (fun x : disk_sector => Value.agg #[.string x.s_, .int .i64 x.at_]) r31_b4 r31.2.2.2.wait_]) (fun w hs => sat_to [0, 4, 0, 0, 0, 0] 0 rfl hs) rfl (rr_tmp rfl) ⟨r31_p1, r31_c2, r31_b4, rfl, rfl⟩
  refine cw_cond_f rfl rfl h35 ?_
  refine cw_skip ?_
  refine ew_then ?_
  refine cw_seq ?_
  refine cw_region ?_
  refine ow_vals 3 (j := 3) [66] [(66, .pointer (some ⟨b0, 0, none⟩))] rfl (by kernel_rfl) ?_
  refine ow_pw rfl (pw_quiet (v := .pointer (some ⟨b1, 0, none⟩)) rfl rfl rfl rfl (q_load 5 rfl rfl rfl (by kernel_rfl)) (nw_ow ?_))
  obtain ⟨r36, h37, hF⟩ := bind_some hF
  refine ow_pw rfl (pw_call (F := [pt b0 #[.pointer (some ⟨b1, 0, none⟩), .int .i64 m0.base_, .int .i64 m0.slots_, .int .i64 m0.shred_] 78] ++ F0) rfl rfl rfl rfl rfl rfl rfl (by kernel_rfl) (perm_of_pulls [0, 0, 0, 0, 0] rfl) (c_guard_Guard_Flush _ r31.2.2.1 r31.2.2.2 b1 r31_p1 r31_c2 r31_b4 b2 r36 h37) ?_)
  rintro _ _ ⟨r36_p1, r36_c2, r36_b4, rfl, rfl⟩
  refine nw_H (H' := [imm I, pt b1 #[.pointer (some ⟨b2, 0, none⟩), .int .i64 r31.2.2.1.boot_, .int .i64 r31.2.2.1.n_] 75, pt b2 #[.slice r36_p1 r36.2.sure_.length r36_c2, .map (some r36_b4), .bool r36.2.off_, .bool r36.2.armed_, .int .i64 r36.2.left_, .int .u64 r36.2.fall_.Keep, .int .i64 r36.2.fall_.Tear, .int .i64 r36.2.acts_, .int .i64 r36.2.falls_] 52, own e_disk_sector 55 r36_p1 r36_c2 r36.2.sure_, mpo (kInt .i64) (fun x : disk_sector => Value.agg #[.string x.s_, .int .i64 x.at_]) r36_b4 r36.2.wait_, pt b0 #[.pointer (some ⟨b1, 0, none⟩), .int .i64 m0.base_, .int .i64 m0.slots_, .int .i64 m0.shred_] 78] ++ F0) rfl (nw_ow ?_)
  refine ow_vals 1 (j := 6) [6] [(6, .int .i64 r36.1)] rfl (by kernel_rfl) ?_
  refine ow_end rfl ?_
  refine ew_then ?_
  refine cw_ret ?_
  have hR := Option.some.inj hF
  subst hR
  exact fin1 (H1 := [imm I, pt b0 #[.pointer (some ⟨b1, 0, none⟩), .int .i64 m0.base_, .int .i64 m0.slots_, .int .i64 m0.shred_] 78, pt b1 #[.pointer (some ⟨b2, 0, none⟩), .int .i64 r31.2.2.1.boot_, .int .i64 r31.2.2.1.n_] 75, pt b2 #[.slice r36_p1 r36.2.sure_.length r36_c2, .map (some r36_b4), .bool r36.2.off_, .bool r36.2.armed_, .int .i64 r36.2.left_, .int .u64 r36.2.fall_.Keep, .int .i64 r36.2.fall_.Tear, .int .i64 r36.2.acts_, .int .i64 r36.2.falls_] 52, own e_disk_sector 55 r36_p1 r36_c2 r36.2.sure_, mpo (kInt .i64) (fun x : disk_sector => Value.agg #[.string x.s_, .int .i64 x.at_]) r36_b4 r36.2.wait_]) (fun w hs => sat_to [0, 4, 0, 0, 0, 0] 0 rfl hs) rfl (rr_tmp rfl) ⟨r36_p1, r36_c2, r36_b4, rfl, rfl⟩


def F.guard_Guard_Erase (x1 : Int) (m0 : guard_Guard) (m1 : disk_Disk) : Option (Int × disk_Disk) :=
  Option.bind (F.guard_Guard_none m0 m1) (fun (r21 : Unit) => Option.bind (F.strings_Repeat (ByteArray.mk #[0]) 64) (fun (r23 : ByteArray) => Option.bind (F.disk_Disk_Write x1 r23 m1) (fun (r25 : Int × disk_Disk) => some ((r25.1, r25.2)))))
set_option maxRecDepth 100000 in
set_option maxHeartbeats 4000000 in
theorem c_guard_Guard_Erase (I : Hl) (x1 : Int) (m0 : guard_Guard) (m1 : disk_Disk) (b0 : Nat) (p0 : Option Addr) (c0 : Nat) (p1 : Nat) (b1 : Nat) (res : Int × disk_Disk) (hF : F.guard_Guard_Erase x1 m0 m1 = some res) : Tr Tryz.prog 38 [.pointer (some ⟨b0, 0, none⟩), .int .i64 x1] [imm I, pt b0 #[.pointer (some ⟨b1, 0, none⟩), .int .i64 m0.boot_, .int .i64 m0.n_] 75, pt b1 #[.slice p0 m1.sure_.length c0, .map (some p1), .bool m1.off_, .bool m1.armed_, .int .i64 m1.left_, .int .u64 m1.fall_.Keep, .int .i64 m1.fall_.Tear, .int .i64 m1.acts_, .int .i64 m1.falls_] 52, own e_disk_sector 55 p0 c0 m1.sure_, mpo (kInt .i64) (fun x : disk_sector => Value.agg #[.string x.s_, .int .i64 x.at_]) p1 m1.wait_] (fun r H' => ∃ (pq1 : Option Addr), ∃ (cq2 : Nat), ∃ (bq4 : Nat), r = .int .i64 res.1 ∧ H' = [imm I, pt b0 #[.pointer (some ⟨b1, 0, none⟩), .int .i64 m0.boot_, .int .i64 m0.n_] 75, pt b1 #[.slice pq1 res.2.sure_.length cq2, .map (some bq4), .bool res.2.off_, .bool res.2.armed_, .int .i64 res.2.left_, .int .u64 res.2.fall_.Keep, .int .i64 res.2.fall_.Tear, .int .i64 res.2.acts_, .int .i64 res.2.falls_] 52, own e_disk_sector 55 pq1 cq2 res.2.sure_, mpo (kInt .i64) (fun x : disk_sector => Value.agg #[.string x.s_, .int .i64 x.at_]) bq4 res.2.wait_]) := by
  unfold F.guard_Guard_Erase at hF
  refine tr_of_cw (fn := Tryz.f38) Tryz.func38 rfl (Nat.le_of_ble_eq_true rfl) 14 rfl fun F0 w0 => ?_
  refine cw_keep [0, 1] (L' := [(0, .pointer (some ⟨b0, 0, none⟩)), (1, .int .i64 x1)]) rfl ?_
  refine cw_state (S' := SAT w0 ([imm I, pt b0 #[.pointer (some ⟨b1, 0, none⟩), .int .i64 m0.boot_, .int .i64 m0.n_] 75, pt b1 #[.slice p0 m1.sure_.length c0, .map (some p1), .bool m1.off_, .bool m1.armed_, .int .i64 m1.left_, .int .u64 m1.fall_.Keep, .int .i64 m1.fall_.Tear, .int .i64 m1.acts_, .int .i64 m1.falls_] 52, own e_disk_sector 55 p0 c0 m1.sure_, mpo (kInt .i64) (fun x : disk_sector => Value.agg #[.string x.s_, .int .i64 x.at_]) p1 m1.wait_] ++ F0)) (fun w hs => hs) ?_
  refine cw_seq ?_
  refine cw_region ?_
  refine ow_vals 1 (j := 1) [0, 1] [(0, .pointer (some ⟨b0, 0, none⟩)), (1, .int .i64 x1)] rfl (by kernel_rfl) ?_
  refine ow_end rfl ?_
  refine ew_then ?_
  refine cw_seq ?_
  refine cw_seq ?_
  refine cw_region ?_
  refine ow_vals 1 (j := 1) [0, 1, 5] [(0, .pointer (some ⟨b0, 0, none⟩)), (1, .int .i64 x1), (5, .pointer (some ⟨b0, 0, none⟩))] rfl (by kernel_rfl) ?_
  obtain ⟨r21, h22, hF⟩ := bind_some hF
  refine ow_pw rfl (pw_call (F := [] ++ F0) rfl rfl rfl rfl rfl rfl rfl (by kernel_rfl) (perm_of_pulls [0, 0, 0, 0, 0] rfl) (c_guard_Guard_none _ m0 m1 b0 p0 c0 p1 b1 r21 h22) ?_)
  rintro _ _ ⟨rfl, rfl⟩
  refine nw_H (H' := [imm I, pt b0 #[.pointer (some ⟨b1, 0, none⟩), .int .i64 m0.boot_, .int .i64 m0.n_] 75, pt b1 #[.slice p0 m1.sure_.length c0, .map (some p1), .bool m1.off_, .bool m1.armed_, .int .i64 m1.left_, .int .u64 m1.fall_.Keep, .int .i64 m1.fall_.Tear, .int .i64 m1.acts_, .int .i64 m1.falls_] 52, own e_disk_sector 55 p0 c0 m1.sure_, mpo (kInt .i64) (fun x : disk_sector => Value.agg #[.string x.s_, .int .i64 x.at_]) p1 m1.wait_] ++ F0) rfl (nw_ow ?_)
  refine ow_end rfl ?_
  refine ew_then ?_
  refine cw_cond_f rfl rfl rfl ?_
  refine cw_skip ?_
  refine ew_then ?_
  refine cw_seq ?_
  refine cw_open 6 (SAT w0 ([imm I, pt b0 #[.pointer (some ⟨b1, 0, none⟩), .int .i64 m0.boot_, .int .i64 m0.n_] 75, pt b1 #[.slice p0 m1.sure_.length c0, .map (some p1), .bool m1.off_, .bool m1.armed_, .int .i64 m1.left_, .int .u64 m1.fall_.Keep, .int .i64 m1.fall_.Tear, .int .i64 m1.acts_, .int .i64 m1.falls_] 52, own e_disk_sector 55 p0 c0 m1.sure_, mpo (kInt .i64) (fun x : disk_sector => Value.agg #[.string x.s_, .int .i64 x.at_]) p1 m1.wait_])) (by kernel_rfl) (f := 8) rfl (fun w hs => sat_drew hs) ?_
  refine aw_vals [0, 1, 2, 4] (f' := 4) (m' := 23) [9, 11] [(9, .pointer (some ⟨b0, 0, none⟩)), (11, .int .i64 x1)] (fun _ _ _ _ _ h => calm_fin (P := Tryz.prog) (fn := Tryz.f38) _ _ _ _ _ h) (fun w hs => sat_pulls [0, 0, 0, 0, 0] (G := [] ++ F0) rfl hs) rfl (by kernel_rfl) ?_
  refine aw_quiet 3 (m' := 31) (v := .pointer (some ⟨b1, 0, none⟩)) 3 [] rfl rfl rfl rfl (by kernel_rfl) (by kernel_rfl) (by kernel_rfl) (fun _ _ _ _ _ h => calm_fin (P := Tryz.prog) (fn := Tryz.f38) _ _ _ _ _ h) (fun w hs => sat_pulls [0, 0, 0, 0, 0] (G := [] ++ F0) rfl hs) (q_load 1 rfl rfl rfl (by kernel_rfl)) ?_
  obtain ⟨r23, h24, hF⟩ := bind_some hF
  refine aw_only 5 (m' := 63) (by kernel_rfl) (by kernel_rfl) (pw_call (F := [pt b0 #[.pointer (some ⟨b1, 0, none⟩), .int .i64 m0.boot_, .int .i64 m0.n_] 75, pt b1 #[.slice p0 m1.sure_.length c0, .map (some p1), .bool m1.off_, .bool m1.armed_, .int .i64 m1.left_, .int .u64 m1.fall_.Keep, .int .i64 m1.fall_.Tear, .int .i64 m1.acts_, .int .i64 m1.falls_] 52, own e_disk_sector 55 p0 c0 m1.sure_, mpo (kInt .i64) (fun x : disk_sector => Value.agg #[.string x.s_, .int .i64 x.at_]) p1 m1.wait_] ++ F0) rfl rfl rfl rfl rfl rfl rfl (by kernel_rfl) (perm_of_pulls [0] rfl) (c_strings_Repeat _ (ByteArray.mk #[0]) 64 r23 h24) ?_)
  rintro _ _ ⟨rfl, rfl⟩
  refine nw_H (H' := [imm I, pt b0 #[.pointer (some ⟨b1, 0, none⟩), .int .i64 m0.boot_, .int .i64 m0.n_] 75, pt b1 #[.slice p0 m1.sure_.length c0, .map (some p1), .bool m1.off_, .bool m1.armed_, .int .i64 m1.left_, .int .u64 m1.fall_.Keep, .int .i64 m1.fall_.Tear, .int .i64 m1.acts_, .int .i64 m1.falls_] 52, own e_disk_sector 55 p0 c0 m1.sure_, mpo (kInt .i64) (fun x : disk_sector => Value.agg #[.string x.s_, .int .i64 x.at_]) p1 m1.wait_] ++ F0) rfl (aw_next (fun w hs => sat_pulls [0, 0, 0, 0, 0] (G := [] ++ F0) rfl hs) ?_)
  obtain ⟨r25, h26, hF⟩ := bind_some hF
  refine aw_only 6 (m' := 127) (by kernel_rfl) (by kernel_rfl) (pw_call (F := [pt b0 #[.pointer (some ⟨b1, 0, none⟩), .int .i64 m0.boot_, .int .i64 m0.n_] 75] ++ F0) rfl rfl rfl rfl rfl rfl rfl (by kernel_rfl) (perm_of_pulls [0, 1, 1, 1] rfl) (c_disk_Disk_Write _ x1 r23 m1 p0 c0 p1 b1 r25 h26) ?_)
  rintro _ _ ⟨r25_p1, r25_c2, r25_b4, rfl, rfl⟩
  refine nw_H (H' := [imm I, pt b1 #[.slice r25_p1 r25.2.sure_.length r25_c2, .map (some r25_b4), .bool r25.2.off_, .bool r25.2.armed_, .int .i64 r25.2.left_, .int .u64 r25.2.fall_.Keep, .int .i64 r25.2.fall_.Tear, .int .i64 r25.2.acts_, .int .i64 r25.2.falls_] 52, own e_disk_sector 55 r25_p1 r25_c2 r25.2.sure_, mpo (kInt .i64) (fun x : disk_sector => Value.agg #[.string x.s_, .int .i64 x.at_]) r25_b4 r25.2.wait_, pt b0 #[.pointer (some ⟨b1, 0, none⟩), .int .i64 m0.boot_, .int .i64 m0.n_] 75] ++ F0) rfl (aw_last (by kernel_rfl) ?_)
  refine aw_past (by kernel_rfl) ?_
  refine aw_vals [7] (f' := 0) (m' := 255) [4] [(4, .int .i64 r25.1)] (fun _ _ _ _ _ h => calm_fin (P := Tryz.prog) (fn := Tryz.f38) _ _ _ _ _ h) (fun _ _ => trivial) rfl (by kernel_rfl) ?_
  refine aw_keep [4] (L' := [(4, .int .i64 r25.1)]) rfl ?_
  refine aw_end (by kernel_rfl) ?_
  refine ew_then ?_
  refine cw_ret ?_
  have hR := Option.some.inj hF
  subst hR
  exact fin1 (H1 := [imm I, pt b0 #[.pointer (some ⟨b1, 0, none⟩), .int .i64 m0.boot_, .int .i64 m0.n_] 75, pt b1 #[.slice r25_p1 r25.2.sure_.length r25_c2, .map (some r25_b4), .bool r25.2.off_, .bool r25.2.armed_, .int .i64 r25.2.left_, .int .u64 r25.2.fall_.Keep, .int .i64 r25.2.fall_.Tear, .int .i64 r25.2.acts_, .int .i64 r25.2.falls_] 52, own e_disk_sector 55 r25_p1 r25_c2 r25.2.sure_, mpo (kInt .i64) (fun x : disk_sector => Value.agg #[.string x.s_, .int .i64 x.at_]) r25_b4 r25.2.wait_]) (fun w hs => sat_to [0, 3, 0, 0, 0] 0 rfl hs) rfl (rr_tmp rfl) ⟨r25_p1, r25_c2, r25_b4, rfl, rfl⟩


def F.keyring_Ring_Shred (x1 : Int) (m0 : keyring_Ring) (m1 : guard_Guard) (m2 : disk_Disk) : Option (Int × keyring_Ring × disk_Disk) :=
  Option.bind (F.keyring_Ring_why x1 m0 m1 m2) (fun (r21 : Int) => if r21 != 0 then (some ((r21, m0, m2))) else (Option.bind (F.guard_Guard_Get (IntKind.i64.wrap (m0.base_ + x1)) m1 m2) (fun (r24 : ByteArray × Int × Int) => if r24.2.2 == 7 then (some ((0, m0, m2))) else (if r24.2.2 == 8 then (some ((r24.2.2, m0, m2))) else (Option.bind (F.guard_Guard_Erase (IntKind.i64.wrap (m0.base_ + x1)) m1 m2) (fun (r28 : Int × disk_Disk) => if r28.1 != 0 then (some ((r28.1, m0, r28.2))) else (Option.bind (F.guard_Guard_Flush m1 r28.2) (fun (r33 : Int × disk_Disk) => if r33.1 != 0 then (some ((r33.1, m0, r33.2))) else (some ((0, (⟨m0.base_, m0.slots_, IntKind.i64.wrap (m0.shred_ + 1)⟩ : keyring_Ring), r33.2)))))))))))
set_option maxRecDepth 100000 in
set_option maxHeartbeats 4000000 in
theorem c_keyring_Ring_Shred (I : Hl) (x1 : Int) (m0 : keyring_Ring) (m1 : guard_Guard) (m2 : disk_Disk) (b0 : Nat) (b1 : Nat) (p0 : Option Addr) (c0 : Nat) (p1 : Nat) (b2 : Nat) (res : Int × keyring_Ring × disk_Disk) (hF : F.keyring_Ring_Shred x1 m0 m1 m2 = some res) : Tr Tryz.prog 21 [.pointer (some ⟨b0, 0, none⟩), .int .i64 x1] [imm I, pt b0 #[.pointer (some ⟨b1, 0, none⟩), .int .i64 m0.base_, .int .i64 m0.slots_, .int .i64 m0.shred_] 78, pt b1 #[.pointer (some ⟨b2, 0, none⟩), .int .i64 m1.boot_, .int .i64 m1.n_] 75, pt b2 #[.slice p0 m2.sure_.length c0, .map (some p1), .bool m2.off_, .bool m2.armed_, .int .i64 m2.left_, .int .u64 m2.fall_.Keep, .int .i64 m2.fall_.Tear, .int .i64 m2.acts_, .int .i64 m2.falls_] 52, own e_disk_sector 55 p0 c0 m2.sure_, mpo (kInt .i64) (fun x : disk_sector => Value.agg #[.string x.s_, .int .i64 x.at_]) p1 m2.wait_] (fun r H' => ∃ (pq1 : Option Addr), ∃ (cq2 : Nat), ∃ (bq4 : Nat), r = .int .i64 res.1 ∧ H' = [imm I, pt b0 #[.pointer (some ⟨b1, 0, none⟩), .int .i64 res.2.1.base_, .int .i64 res.2.1.slots_, .int .i64 res.2.1.shred_] 78, pt b1 #[.pointer (some ⟨b2, 0, none⟩), .int .i64 m1.boot_, .int .i64 m1.n_] 75, pt b2 #[.slice pq1 res.2.2.sure_.length cq2, .map (some bq4), .bool res.2.2.off_, .bool res.2.2.armed_, .int .i64 res.2.2.left_, .int .u64 res.2.2.fall_.Keep, .int .i64 res.2.2.fall_.Tear, .int .i64 res.2.2.acts_, .int .i64 res.2.2.falls_] 52, own e_disk_sector 55 pq1 cq2 res.2.2.sure_, mpo (kInt .i64) (fun x : disk_sector => Value.agg #[.string x.s_, .int .i64 x.at_]) bq4 res.2.2.wait_]) := by
  unfold F.keyring_Ring_Shred at hF
  refine tr_of_cw (fn := Tryz.f21) Tryz.func21 rfl (Nat.le_of_ble_eq_true rfl) 67 rfl fun F0 w0 => ?_
  refine cw_keep [0, 1] (L' := [(0, .pointer (some ⟨b0, 0, none⟩)), (1, .int .i64 x1)]) rfl ?_
  refine cw_state (S' := SAT w0 ([imm I, pt b0 #[.pointer (some ⟨b1, 0, none⟩), .int .i64 m0.base_, .int .i64 m0.slots_, .int .i64 m0.shred_] 78, pt b1 #[.pointer (some ⟨b2, 0, none⟩), .int .i64 m1.boot_, .int .i64 m1.n_] 75, pt b2 #[.slice p0 m2.sure_.length c0, .map (some p1), .bool m2.off_, .bool m2.armed_, .int .i64 m2.left_, .int .u64 m2.fall_.Keep, .int .i64 m2.fall_.Tear, .int .i64 m2.acts_, .int .i64 m2.falls_] 52, own e_disk_sector 55 p0 c0 m2.sure_, mpo (kInt .i64) (fun x : disk_sector => Value.agg #[.string x.s_, .int .i64 x.at_]) p1 m2.wait_] ++ F0)) (fun w hs => hs) ?_
  refine cw_seq ?_
  refine cw_region ?_
  refine ow_vals 1 (j := 1) [0, 1] [(0, .pointer (some ⟨b0, 0, none⟩)), (1, .int .i64 x1)] rfl (by kernel_rfl) ?_
  refine ow_end rfl ?_
  refine ew_then ?_
  refine cw_seq ?_
  refine cw_seq ?_
  refine cw_region ?_
  refine ow_vals 2 (j := 2) [0, 1, 11, 12] [(0, .pointer (some ⟨b0, 0, none⟩)), (1, .int .i64 x1), (11, .pointer (some ⟨b0, 0, none⟩)), (12, .int .i64 x1)] rfl (by kernel_rfl) ?_
  obtain ⟨r21, h22, hF⟩ := bind_some hF
  refine ow_pw rfl (pw_call (F := [] ++ F0) rfl rfl rfl rfl rfl rfl rfl (by kernel_rfl) (perm_of_pulls [0, 0, 0, 0, 0, 0] rfl) (c_keyring_Ring_why _ x1 m0 m1 m2 b0 b1 p0 c0 p1 b2 r21 h22) ?_)
  rintro _ _ ⟨rfl, rfl⟩
  refine nw_H (H' := [imm I, pt b0 #[.pointer (some ⟨b1, 0, none⟩), .int .i64 m0.base_, .int .i64 m0.slots_, .int .i64 m0.shred_] 78, pt b1 #[.pointer (some ⟨b2, 0, none⟩), .int .i64 m1.boot_, .int .i64 m1.n_] 75, pt b2 #[.slice p0 m2.sure_.length c0, .map (some p1), .bool m2.off_, .bool m2.armed_, .int .i64 m2.left_, .int .u64 m2.fall_.Keep, .int .i64 m2.fall_.Tear, .int .i64 m2.acts_, .int .i64 m2.falls_] 52, own e_disk_sector 55 p0 c0 m2.sure_, mpo (kInt .i64) (fun x : disk_sector => Value.agg #[.string x.s_, .int .i64 x.at_]) p1 m2.wait_] ++ F0) rfl (nw_ow ?_)
  refine ow_vals 1 (j := 4) [0, 1, 5] [(0, .pointer (some ⟨b0, 0, none⟩)), (1, .int .i64 x1), (5, .int .i64 r21)] rfl (by kernel_rfl) ?_
  refine ow_end rfl ?_
  refine ew_then ?_
  refine cw_seq ?_
  refine cw_region ?_
  refine ow_vals 2 (j := 2) [0, 1, 5, 15] [(0, .pointer (some ⟨b0, 0, none⟩)), (1, .int .i64 x1), (5, .int .i64 r21), (15, .bool (r21 != 0))] rfl (by kernel_rfl) ?_
  refine ow_end rfl ?_
  refine ew_then ?_
  rcases if_some hF with ⟨h23, hF⟩ | ⟨h23, hF⟩
  · refine cw_cond_t rfl rfl h23 ?_
    refine cw_seq ?_
    refine cw_region ?_
    refine ow_vals 2 (j := 2) [4] [(4, .int .i64 r21)] rfl (by kernel_rfl) ?_
    refine ow_end rfl ?_
    refine ew_then ?_
    refine cw_ret ?_
    refine ew_then_ret ?_
    have hR := Option.some.inj hF
    subst hR
    exact fin1 (H1 := [imm I, pt b0 #[.pointer (some ⟨b1, 0, none⟩), .int .i64 m0.base_, .int .i64 m0.slots_, .int .i64 m0.shred_] 78, pt b1 #[.pointer (some ⟨b2, 0, none⟩), .int .i64 m1.boot_, .int .i64 m1.n_] 75, pt b2 #[.slice p0 m2.sure_.length c0, .map (some p1), .bool m2.off_, .bool m2.armed_, .int .i64 m2.left_, .int .u64 m2.fall_.Keep, .int .i64 m2.fall_.Tear, .int .i64 m2.acts_, .int .i64 m2.falls_] 52, own e_disk_sector 55 p0 c0 m2.sure_, mpo (kInt .i64) (fun x : disk_sector => Value.agg #[.string x.s_, .int .i64 x.at_]) p1 m2.wait_]) (fun w hs => sat_to [0, 0, 0, 0, 0, 0] 0 rfl hs) rfl (rr_tmp rfl) ⟨p0, c0, p1, rfl, rfl⟩
  refine cw_cond_f rfl rfl h23 ?_
  refine cw_skip ?_
  refine ew_then ?_
  refine cw_seq ?_
  refine cw_open 18 (SAT w0 ([imm I, pt b0 #[.pointer (some ⟨b1, 0, none⟩), .int .i64 m0.base_, .int .i64 m0.slots_, .int .i64 m0.shred_] 78, pt b1 #[.pointer (some ⟨b2, 0, none⟩), .int .i64 m1.boot_, .int .i64 m1.n_] 75, pt b2 #[.slice p0 m2.sure_.length c0, .map (some p1), .bool m2.off_, .bool m2.armed_, .int .i64 m2.left_, .int .u64 m2.fall_.Keep, .int .i64 m2.fall_.Tear, .int .i64 m2.acts_, .int .i64 m2.falls_] 52, own e_disk_sector 55 p0 c0 m2.sure_, mpo (kInt .i64) (fun x : disk_sector => Value.agg #[.string x.s_, .int .i64 x.at_]) p1 m2.wait_])) (by kernel_rfl) (f := 18) rfl (fun w hs => sat_drew hs) ?_
  refine aw_vals [0, 1, 2, 4, 5, 6, 8] (f' := 11) (m' := 375) [0, 1, 20, 24, 26] [(0, .pointer (some ⟨b0, 0, none⟩)), (1, .int .i64 x1), (20, .pointer (some ⟨b0, 0, none⟩)), (24, .pointer (some ⟨b0, 1, none⟩)), (26, .int .i64 x1)] (fun _ _ _ _ _ h => calm_fin (P := Tryz.prog) (fn := Tryz.f21) _ _ _ _ _ h) (fun w hs => sat_pulls [0, 0, 0, 0, 0, 0] (G := [] ++ F0) rfl hs) rfl (by kernel_rfl) ?_
  refine aw_quiet 3 (m' := 383) (v := .pointer (some ⟨b1, 0, none⟩)) 0 [] rfl rfl rfl rfl (by kernel_rfl) (by kernel_rfl) (by kernel_rfl) (fun _ _ _ _ _ h => calm_fin (P := Tryz.prog) (fn := Tryz.f21) _ _ _ _ _ h) (fun w hs => sat_pulls [0, 0, 0, 0, 0, 0] (G := [] ++ F0) rfl hs) (q_load 1 rfl rfl rfl (by kernel_rfl)) ?_
  refine aw_quiet 7 (m' := 511) (v := .int .i64 m0.base_) 0 [] rfl rfl rfl rfl (by kernel_rfl) (by kernel_rfl) (by kernel_rfl) (fun _ _ _ _ _ h => calm_fin (P := Tryz.prog) (fn := Tryz.f21) _ _ _ _ _ h) (fun w hs => sat_pulls [0, 0, 0, 0, 0, 0] (G := [] ++ F0) rfl hs) (q_load 1 rfl rfl rfl (by kernel_rfl)) ?_
  refine aw_vals [9] (f' := 8) (m' := 1023) [0, 1, 21, 27] [(0, .pointer (some ⟨b0, 0, none⟩)), (1, .int .i64 x1), (21, .pointer (some ⟨b1, 0, none⟩)), (27, .int .i64 (IntKind.i64.wrap (m0.base_ + x1)))] (fun _ _ _ _ _ h => calm_fin (P := Tryz.prog) (fn := Tryz.f21) _ _ _ _ _ h) (fun w hs => sat_pulls [0, 0, 0, 0, 0, 0] (G := [] ++ F0) rfl hs) rfl (by kernel_rfl) ?_
  obtain ⟨r24, h25, hF⟩ := bind_some hF
  refine aw_only 10 (m' := 2047) (by kernel_rfl) (by kernel_rfl) (pw_call (F := [pt b0 #[.pointer (some ⟨b1, 0, none⟩), .int .i64 m0.base_, .int .i64 m0.slots_, .int .i64 m0.shred_] 78] ++ F0) rfl rfl rfl rfl rfl rfl rfl (by kernel_rfl) (perm_of_pulls [0, 1, 1, 1, 1] rfl) (c_guard_Guard_Get _ (IntKind.i64.wrap (m0.base_ + x1)) m1 m2 b1 p0 c0 p1 b2 r24 h25) ?_)
  rintro _ _ ⟨rfl, rfl⟩
  refine nw_H (H' := [imm I, pt b1 #[.pointer (some ⟨b2, 0, none⟩), .int .i64 m1.boot_, .int .i64 m1.n_] 75, pt b2 #[.slice p0 m2.sure_.length c0, .map (some p1), .bool m2.off_, .bool m2.armed_, .int .i64 m2.left_, .int .u64 m2.fall_.Keep, .int .i64 m2.fall_.Tear, .int .i64 m2.acts_, .int .i64 m2.falls_] 52, own e_disk_sector 55 p0 c0 m2.sure_, mpo (kInt .i64) (fun x : disk_sector => Value.agg #[.string x.s_, .int .i64 x.at_]) p1 m2.wait_, pt b0 #[.pointer (some ⟨b1, 0, none⟩), .int .i64 m0.base_, .int .i64 m0.slots_, .int .i64 m0.shred_] 78] ++ F0) rfl (aw_next (fun w hs => sat_pulls [0, 4, 0, 0, 0, 0] (G := [] ++ F0) rfl hs) ?_)
  refine aw_vals [11, 12, 13, 14, 15, 16, 17] (f' := 0) (m' := 262143) [0, 1, 8] [(0, .pointer (some ⟨b0, 0, none⟩)), (1, .int .i64 x1), (8, .int .i64 r24.2.2)] (fun _ _ _ _ _ h => calm_fin (P := Tryz.prog) (fn := Tryz.f21) _ _ _ _ _ h) (fun w hs => sat_pulls [0, 4, 0, 0, 0, 0] (G := [] ++ F0) rfl hs) rfl (by kernel_rfl) ?_
  refine aw_keep [0, 1, 8] (L' := [(0, .pointer (some ⟨b0, 0, none⟩)), (1, .int .i64 x1), (8, .int .i64 r24.2.2)]) rfl ?_
  refine aw_end (by kernel_rfl) ?_
  refine ew_then ?_
  refine cw_seq ?_
  refine cw_seq ?_
  refine cw_region ?_
  refine ow_vals 1 (j := 1) [0, 1, 8, 32] [(0, .pointer (some ⟨b0, 0, none⟩)), (1, .int .i64 x1), (8, .int .i64 r24.2.2), (32, .int .i64 r24.2.2)] rfl (by kernel_rfl) ?_
  refine ow_end rfl ?_
  refine ew_then ?_
  refine cw_block ?_
  refine cw_seq ?_
  refine cw_region ?_
  refine ow_vals 2 (j := 2) [0, 1, 8, 32, 33] [(0, .pointer (some ⟨b0, 0, none⟩)), (1, .int .i64 x1), (8, .int .i64 r24.2.2), (32, .int .i64 r24.2.2), (33, .bool (r24.2.2 == 7))] rfl (by kernel_rfl) ?_
  refine ow_end rfl ?_
  refine ew_then ?_
  rcases if_some hF with ⟨h26, hF⟩ | ⟨h26, hF⟩
  · refine cw_cond_t rfl rfl h26 ?_
    refine cw_seq ?_
    refine cw_region ?_
    refine ow_vals 1 (j := 1) [4] [(4, .int .i64 0)] rfl (by kernel_rfl) ?_
    refine ow_end rfl ?_
    refine ew_then ?_
    refine cw_ret ?_
    refine ew_blk_ret ?_
    refine ew_then_ret ?_
    have hR := Option.some.inj hF
    subst hR
    exact fin1 (H1 := [imm I, pt b0 #[.pointer (some ⟨b1, 0, none⟩), .int .i64 m0.base_, .int .i64 m0.slots_, .int .i64 m0.shred_] 78, pt b1 #[.pointer (some ⟨b2, 0, none⟩), .int .i64 m1.boot_, .int .i64 m1.n_] 75, pt b2 #[.slice p0 m2.sure_.length c0, .map (some p1), .bool m2.off_, .bool m2.armed_, .int .i64 m2.left_, .int .u64 m2.fall_.Keep, .int .i64 m2.fall_.Tear, .int .i64 m2.acts_, .int .i64 m2.falls_] 52, own e_disk_sector 55 p0 c0 m2.sure_, mpo (kInt .i64) (fun x : disk_sector => Value.agg #[.string x.s_, .int .i64 x.at_]) p1 m2.wait_]) (fun w hs => sat_to [0, 4, 0, 0, 0, 0] 0 rfl hs) rfl (rr_tmp rfl) ⟨p0, c0, p1, rfl, rfl⟩
  refine cw_cond_f rfl rfl h26 ?_
  refine cw_seq ?_
  refine cw_region ?_
  refine ow_vals 2 (j := 2) [0, 1, 8, 35] [(0, .pointer (some ⟨b0, 0, none⟩)), (1, .int .i64 x1), (8, .int .i64 r24.2.2), (35, .bool (r24.2.2 == 8))] rfl (by kernel_rfl) ?_
  refine ow_end rfl ?_
  refine ew_then ?_
  rcases if_some hF with ⟨h27, hF⟩ | ⟨h27, hF⟩
  · refine cw_cond_t rfl rfl h27 ?_
    refine cw_seq ?_
    refine cw_region ?_
    refine ow_vals 2 (j := 2) [4] [(4, .int .i64 r24.2.2)] rfl (by kernel_rfl) ?_
    refine ow_end rfl ?_
    refine ew_then ?_
    refine cw_ret ?_
    refine ew_blk_ret ?_
    refine ew_then_ret ?_
    have hR := Option.some.inj hF
    subst hR
    exact fin1 (H1 := [imm I, pt b0 #[.pointer (some ⟨b1, 0, none⟩), .int .i64 m0.base_, .int .i64 m0.slots_, .int .i64 m0.shred_] 78, pt b1 #[.pointer (some ⟨b2, 0, none⟩), .int .i64 m1.boot_, .int .i64 m1.n_] 75, pt b2 #[.slice p0 m2.sure_.length c0, .map (some p1), .bool m2.off_, .bool m2.armed_, .int .i64 m2.left_, .int .u64 m2.fall_.Keep, .int .i64 m2.fall_.Tear, .int .i64 m2.acts_, .int .i64 m2.falls_] 52, own e_disk_sector 55 p0 c0 m2.sure_, mpo (kInt .i64) (fun x : disk_sector => Value.agg #[.string x.s_, .int .i64 x.at_]) p1 m2.wait_]) (fun w hs => sat_to [0, 4, 0, 0, 0, 0] 0 rfl hs) rfl (rr_tmp rfl) ⟨p0, c0, p1, rfl, rfl⟩
  refine cw_cond_f rfl rfl h27 ?_
  refine cw_skip ?_
  refine ew_blk ?_
  refine ew_then ?_
  refine cw_seq ?_
  refine cw_seq ?_
  refine cw_open 10 (SAT w0 ([imm I, pt b1 #[.pointer (some ⟨b2, 0, none⟩), .int .i64 m1.boot_, .int .i64 m1.n_] 75, pt b2 #[.slice p0 m2.sure_.length c0, .map (some p1), .bool m2.off_, .bool m2.armed_, .int .i64 m2.left_, .int .u64 m2.fall_.Keep, .int .i64 m2.fall_.Tear, .int .i64 m2.acts_, .int .i64 m2.falls_] 52, own e_disk_sector 55 p0 c0 m2.sure_, mpo (kInt .i64) (fun x : disk_sector => Value.agg #[.string x.s_, .int .i64 x.at_]) p1 m2.wait_, pt b0 #[.pointer (some ⟨b1, 0, none⟩), .int .i64 m0.base_, .int .i64 m0.slots_, .int .i64 m0.shred_] 78])) (by kernel_rfl) (f := 12) rfl (fun w hs => sat_drew hs) ?_
  refine aw_vals [0, 1, 2, 4, 5, 6, 8] (f' := 5) (m' := 375) [0, 40, 44, 46] [(0, .pointer (some ⟨b0, 0, none⟩)), (40, .pointer (some ⟨b0, 0, none⟩)), (44, .pointer (some ⟨b0, 1, none⟩)), (46, .int .i64 x1)] (fun _ _ _ _ _ h => calm_fin (P := Tryz.prog) (fn := Tryz.f21) _ _ _ _ _ h) (fun w hs => sat_pulls [0, 0, 0, 0, 0, 0] (G := [] ++ F0) rfl hs) rfl (by kernel_rfl) ?_
  refine aw_quiet 3 (m' := 383) (v := .pointer (some ⟨b1, 0, none⟩)) 3 [] rfl rfl rfl rfl (by kernel_rfl) (by kernel_rfl) (by kernel_rfl) (fun _ _ _ _ _ h => calm_fin (P := Tryz.prog) (fn := Tryz.f21) _ _ _ _ _ h) (fun w hs => sat_pulls [0, 0, 0, 0, 0, 0] (G := [] ++ F0) rfl hs) (q_load 5 rfl rfl rfl (by kernel_rfl)) ?_
  refine aw_quiet 7 (m' := 511) (v := .int .i64 m0.base_) 9 [7] rfl rfl rfl rfl (by kernel_rfl) (by kernel_rfl) (by kernel_rfl) (fun _ _ _ _ _ h => calm_fin (P := Tryz.prog) (fn := Tryz.f21) _ _ _ _ _ h) (fun w hs => sat_pulls [0, 0, 0, 0, 0, 0] (G := [] ++ F0) rfl hs) (q_load 5 rfl rfl rfl (by kernel_rfl)) ?_
  refine aw_vals [9] (f' := 2) (m' := 1023) [0, 41, 47] [(0, .pointer (some ⟨b0, 0, none⟩)), (41, .pointer (some ⟨b1, 0, none⟩)), (47, .int .i64 (IntKind.i64.wrap (m0.base_ + x1)))] (fun _ _ _ _ _ h => calm_fin (P := Tryz.prog) (fn := Tryz.f21) _ _ _ _ _ h) (fun w hs => sat_pulls [0, 0, 0, 0, 0, 0] (G := [] ++ F0) rfl hs) rfl (by kernel_rfl) ?_
  obtain ⟨r28, h29, hF⟩ := bind_some hF
  refine aw_only 10 (m' := 2047) (by kernel_rfl) (by kernel_rfl) (pw_call (F := [pt b0 #[.pointer (some ⟨b1, 0, none⟩), .int .i64 m0.base_, .int .i64 m0.slots_, .int .i64 m0.shred_] 78] ++ F0) rfl rfl rfl rfl rfl rfl rfl (by kernel_rfl) (perm_of_pulls [0, 0, 0, 0, 0] rfl) (c_guard_Guard_Erase _ (IntKind.i64.wrap (m0.base_ + x1)) m1 m2 b1 p0 c0 p1 b2 r28 h29) ?_)
  rintro _ _ ⟨r28_p1, r28_c2, r28_b4, rfl, rfl⟩
  refine nw_H (H' := [imm I, pt b1 #[.pointer (some ⟨b2, 0, none⟩), .int .i64 m1.boot_, .int .i64 m1.n_] 75, pt b2 #[.slice r28_p1 r28.2.sure_.length r28_c2, .map (some r28_b4), .bool r28.2.off_, .bool r28.2.armed_, .int .i64 r28.2.left_, .int .u64 r28.2.fall_.Keep, .int .i64 r28.2.fall_.Tear, .int .i64 r28.2.acts_, .int .i64 r28.2.falls_] 52, own e_disk_sector 55 r28_p1 r28_c2 r28.2.sure_, mpo (kInt .i64) (fun x : disk_sector => Value.agg #[.string x.s_, .int .i64 x.at_]) r28_b4 r28.2.wait_, pt b0 #[.pointer (some ⟨b1, 0, none⟩), .int .i64 m0.base_, .int .i64 m0.slots_, .int .i64 m0.shred_] 78] ++ F0) rfl (aw_last (by kernel_rfl) ?_)
  refine aw_past (by kernel_rfl) ?_
  refine aw_vals [11] (f' := 0) (m' := 4095) [0, 9] [(0, .pointer (some ⟨b0, 0, none⟩)), (9, .int .i64 r28.1)] (fun _ _ _ _ _ h => calm_fin (P := Tryz.prog) (fn := Tryz.f21) _ _ _ _ _ h) (fun _ _ => trivial) rfl (by kernel_rfl) ?_
  refine aw_keep [0, 9] (L' := [(0, .pointer (some ⟨b0, 0, none⟩)), (9, .int .i64 r28.1)]) rfl ?_
  refine aw_end (by kernel_rfl) ?_
  refine ew_then ?_
  refine cw_seq ?_
  refine cw_region ?_
  refine ow_vals 2 (j := 2) [0, 9, 50] [(0, .pointer (some ⟨b0, 0, none⟩)), (9, .int .i64 r28.1), (50, .bool (r28.1 != 0))] rfl (by kernel_rfl) ?_
  refine ow_end rfl ?_
  refine ew_then ?_
  rcases if_some hF with ⟨h32, hF⟩ | ⟨h32, hF⟩
  · refine cw_cond_t rfl rfl h32 ?_
    refine cw_seq ?_
    refine cw_region ?_
    refine ow_vals 2 (j := 2) [4] [(4, .int .i64 r28.1)] rfl (by kernel_rfl) ?_
    refine ow_end rfl ?_
    refine ew_then ?_
    refine cw_ret ?_
    refine ew_then_ret ?_
    have hR := Option.some.inj hF
    subst hR
    exact fin1 (H1 := [imm I, pt b0 #[.pointer (some ⟨b1, 0, none⟩), .int .i64 m0.base_, .int .i64 m0.slots_, .int .i64 m0.shred_] 78, pt b1 #[.pointer (some ⟨b2, 0, none⟩), .int .i64 m1.boot_, .int .i64 m1.n_] 75, pt b2 #[.slice r28_p1 r28.2.sure_.length r28_c2, .map (some r28_b4), .bool r28.2.off_, .bool r28.2.armed_, .int .i64 r28.2.left_, .int .u64 r28.2.fall_.Keep, .int .i64 r28.2.fall_.Tear, .int .i64 r28.2.acts_, .int .i64 r28.2.falls_] 52, own e_disk_sector 55 r28_p1 r28_c2 r28.2.sure_, mpo (kInt .i64) (fun x : disk_sector => Value.agg #[.string x.s_, .int .i64 x.at_]) r28_b4 r28.2.wait_]) (fun w hs => sat_to [0, 4, 0, 0, 0, 0] 0 rfl hs) rfl (rr_tmp rfl) ⟨r28_p1, r28_c2, r28_b4, rfl, rfl⟩
  refine cw_cond_f rfl rfl h32 ?_
  refine cw_skip ?_
  refine ew_then ?_
  refine cw_seq ?_
  refine cw_seq ?_
  refine cw_region ?_
  refine ow_vals 3 (j := 3) [0, 54] [(0, .pointer (some ⟨b0, 0, none⟩)), (54, .pointer (some ⟨b0, 0, none⟩))] rfl (by kernel_rfl) ?_
  refine ow_pw rfl (pw_quiet (v := .pointer (some ⟨b1, 0, none⟩)) rfl rfl rfl rfl (q_load 5 rfl rfl rfl (by kernel_rfl)) (nw_ow ?_))
  obtain ⟨r33, h34, hF⟩ := bind_some hF
  refine ow_pw rfl (pw_call (F := [pt b0 #[.pointer (some ⟨b1, 0, none⟩), .int .i64 m0.base_, .int .i64 m0.slots_, .int .i64 m0.shred_] 78] ++ F0) rfl rfl rfl rfl rfl rfl rfl (by kernel_rfl) (perm_of_pulls [0, 0, 0, 0, 0] rfl) (c_guard_Guard_Flush _ m1 r28.2 b1 r28_p1 r28_c2 r28_b4 b2 r33 h34) ?_)
  rintro _ _ ⟨r33_p1, r33_c2, r33_b4, rfl, rfl⟩
  refine nw_H (H' := [imm I, pt b1 #[.pointer (some ⟨b2, 0, none⟩), .int .i64 m1.boot_, .int .i64 m1.n_] 75, pt b2 #[.slice r33_p1 r33.2.sure_.length r33_c2, .map (some r33_b4), .bool r33.2.off_, .bool r33.2.armed_, .int .i64 r33.2.left_, .int .u64 r33.2.fall_.Keep, .int .i64 r33.2.fall_.Tear, .int .i64 r33.2.acts_, .int .i64 r33.2.falls_] 52, own e_disk_sector 55 r33_p1 r33_c2 r33.2.sure_, mpo (kInt .i64) (fun x : disk_sector => Value.agg #[.string x.s_, .int .i64 x.at_]) r33_b4 r33.2.wait_, pt b0 #[.pointer (some ⟨b1, 0, none⟩), .int .i64 m0.base_, .int .i64 m0.slots_, .int .i64 m0.shred_] 78] ++ F0) rfl (nw_ow ?_)
  refine ow_vals 1 (j := 6) [0, 10] [(0, .pointer (some ⟨b0, 0, none⟩)), (10, .int .i64 r33.1)] rfl (by kernel_rfl) ?_
  refine ow_end rfl ?_
  refine ew_then ?_
  refine cw_seq ?_
  refine cw_region ?_
  refine ow_vals 2 (j := 2) [0, 10, 58] [(0, .pointer (some ⟨b0, 0, none⟩)), (10, .int .i64 r33.1), (58, .bool (r33.1 != 0))] rfl (by kernel_rfl) ?_
  refine ow_end rfl ?_
  refine ew_then ?_
  rcases if_some hF with ⟨h37, hF⟩ | ⟨h37, hF⟩
  · refine cw_cond_t rfl rfl h37 ?_
    refine cw_seq ?_
    refine cw_region ?_
    refine ow_vals 2 (j := 2) [4] [(4, .int .i64 r33.1)] rfl (by kernel_rfl) ?_
    refine ow_end rfl ?_
    refine ew_then ?_
    refine cw_ret ?_
    refine ew_then_ret ?_
    have hR := Option.some.inj hF
    subst hR
    exact fin1 (H1 := [imm I, pt b0 #[.pointer (some ⟨b1, 0, none⟩), .int .i64 m0.base_, .int .i64 m0.slots_, .int .i64 m0.shred_] 78, pt b1 #[.pointer (some ⟨b2, 0, none⟩), .int .i64 m1.boot_, .int .i64 m1.n_] 75, pt b2 #[.slice r33_p1 r33.2.sure_.length r33_c2, .map (some r33_b4), .bool r33.2.off_, .bool r33.2.armed_, .int .i64 r33.2.left_, .int .u64 r33.2.fall_.Keep, .int .i64 r33.2.fall_.Tear, .int .i64 r33.2.acts_, .int .i64 r33.2.falls_] 52, own e_disk_sector 55 r33_p1 r33_c2 r33.2.sure_, mpo (kInt .i64) (fun x : disk_sector => Value.agg #[.string x.s_, .int .i64 x.at_]) r33_b4 r33.2.wait_]) (fun w hs => sat_to [0, 4, 0, 0, 0, 0] 0 rfl hs) rfl (rr_tmp rfl) ⟨r33_p1, r33_c2, r33_b4, rfl, rfl⟩
  refine cw_cond_f rfl rfl h37 ?_
  refine cw_skip ?_
  refine ew_then ?_
  refine cw_seq ?_
  refine cw_region ?_
  refine ow_vals 3 (j := 3) [60, 62] [(60, .pointer (some ⟨b0, 0, none⟩)), (62, .pointer (some ⟨b0, 3, none⟩))] rfl (by kernel_rfl) ?_
  refine ow_pw rfl (pw_quiet (v := .int .i64 m0.shred_) rfl rfl rfl rfl (q_load 5 rfl rfl rfl (by kernel_rfl)) (nw_ow ?_))
  refine ow_vals 3 (j := 7) [64, 66] [(64, .int .i64 (IntKind.i64.wrap (m0.shred_ + 1))), (66, .pointer (some ⟨b0, 3, none⟩))] rfl (by kernel_rfl) ?_
  refine ow_pw rfl (pw_store 5 #[.pointer (some ⟨b1, 0, none⟩), .int .i64 m0.base_, .int .i64 m0.slots_, .int .i64 (IntKind.i64.wrap (m0.shred_ + 1))] rfl rfl rfl rfl rfl rfl rfl (by kernel_rfl) (nw_H (H' := [imm I, pt b1 #[.pointer (some ⟨b2, 0, none⟩), .int .i64 m1.boot_, .int .i64 m1.n_] 75, pt b2 #[.slice r33_p1 r33.2.sure_.length r33_c2, .map (some r33_b4), .bool r33.2.off_, .bool r33.2.armed_, .int .i64 r33.2.left_, .int .u64 r33.2.fall_.Keep, .int .i64 r33.2.fall_.Tear, .int .i64 r33.2.acts_, .int .i64 r33.2.falls_] 52, own e_disk_sector 55 r33_p1 r33_c2 r33.2.sure_, mpo (kInt .i64) (fun x : disk_sector => Value.agg #[.string x.s_, .int .i64 x.at_]) r33_b4 r33.2.wait_, pt b0 #[.pointer (some ⟨b1, 0, none⟩), .int .i64 m0.base_, .int .i64 m0.slots_, .int .i64 (IntKind.i64.wrap (m0.shred_ + 1))] 78] ++ F0) rfl (nw_ow ?_)))
  refine ow_end rfl ?_
  refine ew_then ?_
  refine cw_seq ?_
  refine cw_region ?_
  refine ow_vals 1 (j := 1) [4] [(4, .int .i64 0)] rfl (by kernel_rfl) ?_
  refine ow_end rfl ?_
  refine ew_then ?_
  refine cw_ret ?_
  have hR := Option.some.inj hF
  subst hR
  exact fin1 (H1 := [imm I, pt b0 #[.pointer (some ⟨b1, 0, none⟩), .int .i64 ((⟨m0.base_, m0.slots_, IntKind.i64.wrap (m0.shred_ + 1)⟩ : keyring_Ring).base_), .int .i64 ((⟨m0.base_, m0.slots_, IntKind.i64.wrap (m0.shred_ + 1)⟩ : keyring_Ring).slots_), .int .i64 ((⟨m0.base_, m0.slots_, IntKind.i64.wrap (m0.shred_ + 1)⟩ : keyring_Ring).shred_)] 78, pt b1 #[.pointer (some ⟨b2, 0, none⟩), .int .i64 m1.boot_, .int .i64 m1.n_] 75, pt b2 #[.slice r33_p1 r33.2.sure_.length r33_c2, .map (some r33_b4), .bool r33.2.off_, .bool r33.2.armed_, .int .i64 r33.2.left_, .int .u64 r33.2.fall_.Keep, .int .i64 r33.2.fall_.Tear, .int .i64 r33.2.acts_, .int .i64 r33.2.falls_] 52, own e_disk_sector 55 r33_p1 r33_c2 r33.2.sure_, mpo (kInt .i64) (fun x : disk_sector => Value.agg #[.string x.s_, .int .i64 x.at_]) r33_b4 r33.2.wait_]) (fun w hs => sat_to [0, 4, 0, 0, 0, 0] 0 rfl hs) rfl (rr_tmp rfl) ⟨r33_p1, r33_c2, r33_b4, rfl, rfl⟩


def F.law13_awake.r1 (r21_s1 : disk_Disk) : Option (Bool) :=
  Option.bind (F.law13_made 1 r21_s1) (fun (r28 : (Option (keyring_Ring × guard_Guard))) => optC r28 (some (false)) (fun (r28_s1 : (keyring_Ring × guard_Guard)) => Option.bind (F.law13_key 1) (fun (r32 : ByteArray) => Option.bind (F.keyring_Ring_Put 0 r32 r28_s1.1 r28_s1.2 r21_s1) (fun (r34 : Int × guard_Guard × disk_Disk) => if r34.1 == 0 then (Option.bind (F.keyring_Ring_Free 0 r28_s1.1 r34.2.1 r34.2.2) (fun (r39 : Bool) => if !r39 then (Option.bind (F.keyring_Ring_Shred 0 r28_s1.1 r34.2.1 r34.2.2) (fun (r42 : Int × keyring_Ring × disk_Disk) => if r42.1 == 0 then (Option.bind (F.keyring_Ring_Free 0 r42.2.1 r34.2.1 r42.2.2) (fun (r47 : Bool) => some (r47))) else (some (false)))) else (some (false)))) else (some (false))))))
def F.law13_awake : Option Bool :=
  Option.bind (F.disk_New 20) (fun (r21 : (Option disk_Disk) × Int) => optC r21.1 (some (false)) (fun (r21_s1 : disk_Disk) => Option.bind (some (())) (fun x => F.law13_awake.r1 r21_s1)))
set_option maxRecDepth 100000 in
set_option maxHeartbeats 4000000 in
theorem c_law13_awake (I : Hl) (res : Bool) (hF : F.law13_awake = some res) : Tr Tryz.prog 15 [] [imm I] (fun r H' => r = .bool res ∧ H' = [imm I]) := by
  unfold F.law13_awake at hF
  refine tr_of_cw (fn := Tryz.f15) Tryz.func15 rfl (Nat.le_of_ble_eq_true rfl) 38 rfl fun F0 w0 => ?_
  refine cw_keep [] (L' := []) rfl ?_
  refine cw_state (S' := SAT w0 ([imm I] ++ F0)) (fun w hs => hs) ?_
  refine cw_seq ?_
  refine cw_region ?_
  refine ow_vals 1 (j := 1) [] [] rfl (by kernel_rfl) ?_
  refine ow_end rfl ?_
  refine ew_then ?_
  refine cw_seq ?_
  refine cw_region ?_
  obtain ⟨r21, h22, hF⟩ := bind_some hF
  refine ow_pw rfl (pw_call (F := [] ++ F0) rfl rfl rfl rfl rfl rfl rfl (by kernel_rfl) (perm_of_pulls [0] rfl) (c_disk_New _ 20 r21 h22) ?_)
  rintro _ _ (⟨hO, rfl, rfl⟩ | ⟨r21_s1, r21_b2, r21_p4, r21_c5, r21_b7, hO, rfl, rfl⟩)
  · rw [hO] at hF
    try dsimp only [optC] at hF
    refine nw_H (H' := [imm I] ++ F0) rfl (nw_ow ?_)
    refine ow_vals 5 (j := 6) [1, 2] [(1, .pointer none), (2, .int .i64 1)] rfl (by kernel_rfl) ?_
    refine ow_end rfl ?_
    refine ew_then ?_
    refine cw_seq ?_
    refine cw_seq ?_
    refine cw_region ?_
    refine ow_vals 6 (j := 6) [1, 13] [(1, .pointer none), (13, .bool true)] rfl (by kernel_rfl) ?_
    refine ow_end rfl ?_
    refine ew_then ?_
    refine cw_cond_t rfl rfl rfl ?_
    refine cw_seq ?_
    refine cw_region ?_
    refine ow_vals 1 (j := 1) [0] [(0, .bool false)] rfl (by kernel_rfl) ?_
    refine ow_end rfl ?_
    refine ew_then ?_
    refine cw_ret ?_
    refine ew_then_ret ?_
    have hR := Option.some.inj hF
    subst hR
    exact fin1 (H1 := [imm I]) (fun w hs => sat_to [0] 0 rfl hs) rfl (rr_tmp rfl) ⟨rfl, rfl⟩
  rw [hO] at hF
  try dsimp only [optC] at hF
  refine nw_H (H' := [imm I, pt r21_b2 #[.slice r21_p4 r21_s1.sure_.length r21_c5, .map (some r21_b7), .bool r21_s1.off_, .bool r21_s1.armed_, .int .i64 r21_s1.left_, .int .u64 r21_s1.fall_.Keep, .int .i64 r21_s1.fall_.Tear, .int .i64 r21_s1.acts_, .int .i64 r21_s1.falls_] 52, own e_disk_sector 55 r21_p4 r21_c5 r21_s1.sure_, mpo (kInt .i64) (fun x : disk_sector => Value.agg #[.string x.s_, .int .i64 x.at_]) r21_b7 r21_s1.wait_] ++ F0) rfl (nw_ow ?_)
  refine ow_vals 5 (j := 6) [1, 2] [(1, .pointer (some ⟨r21_b2, 0, none⟩)), (2, .int .i64 0)] rfl (by kernel_rfl) ?_
  refine ow_end rfl ?_
  refine ew_then ?_
  obtain ⟨v27, hF, hK27⟩ := bind_some hF
  refine cw_mid (fun a w => () = v27 ∧ Fr 38 [(1, .pointer (some ⟨r21_b2, 0, none⟩))] a ∧ SAT w0 ([imm I, pt r21_b2 #[.slice r21_p4 r21_s1.sure_.length r21_c5, .map (some r21_b7), .bool r21_s1.off_, .bool r21_s1.armed_, .int .i64 r21_s1.left_, .int .u64 r21_s1.fall_.Keep, .int .i64 r21_s1.fall_.Tear, .int .i64 r21_s1.acts_, .int .i64 r21_s1.falls_] 52, own e_disk_sector 55 r21_p4 r21_c5 r21_s1.sure_, mpo (kInt .i64) (fun x : disk_sector => Value.agg #[.string x.s_, .int .i64 x.at_]) r21_b7 r21_s1.wait_] ++ F0) w) ?_ ?_
  · refine cw_seq ?_
    refine cw_region ?_
    refine ow_vals 6 (j := 6) [1, 13] [(1, .pointer (some ⟨r21_b2, 0, none⟩)), (13, .bool false)] rfl (by kernel_rfl) ?_
    refine ow_end rfl ?_
    refine ew_then ?_
    refine cw_cond_f rfl rfl rfl ?_
    refine cw_skip ?_
    have hR := Option.some.inj hF
    exact fun a w hf hs => ⟨hR, hf.keep [1], sat_to [0, 0, 0, 0] 0 rfl hs⟩
  rintro a w ⟨hv, hf, hs⟩
  subst hv
  replace hF := hK27
  clear hK27
  try dsimp only at hF
  revert a w
  show CW _ _ _ 38 [(1, .pointer (some ⟨r21_b2, 0, none⟩))] (SAT w0 ([imm I, pt r21_b2 #[.slice r21_p4 r21_s1.sure_.length r21_c5, .map (some r21_b7), .bool r21_s1.off_, .bool r21_s1.armed_, .int .i64 r21_s1.left_, .int .u64 r21_s1.fall_.Keep, .int .i64 r21_s1.fall_.Tear, .int .i64 r21_s1.acts_, .int .i64 r21_s1.falls_] 52, own e_disk_sector 55 r21_p4 r21_c5 r21_s1.sure_, mpo (kInt .i64) (fun x : disk_sector => Value.agg #[.string x.s_, .int .i64 x.at_]) r21_b7 r21_s1.wait_] ++ F0))
  unfold F.law13_awake.r1 at hF
  refine cw_seq ?_
  refine cw_region ?_
  refine ow_vals 1 (j := 1) [14] [(14, .pointer (some ⟨r21_b2, 0, none⟩))] rfl (by kernel_rfl) ?_
  obtain ⟨r28, h29, hF⟩ := bind_some hF
  refine ow_pw rfl (pw_call (F := [] ++ F0) rfl rfl rfl rfl rfl rfl rfl (by kernel_rfl) (perm_of_pulls [0, 0, 0, 0] rfl) (c_law13_made _ 1 r21_s1 r21_p4 r21_c5 r21_b7 r21_b2 r28 h29) ?_)
  rintro _ _ (⟨hO, rfl, rfl⟩ | ⟨r28_s1, r28_b2, r28_b4, hO, rfl, rfl⟩)
  · rw [hO] at hF
    try dsimp only [optC] at hF
    refine nw_H (H' := [imm I, pt r21_b2 #[.slice r21_p4 r21_s1.sure_.length r21_c5, .map (some r21_b7), .bool r21_s1.off_, .bool r21_s1.armed_, .int .i64 r21_s1.left_, .int .u64 r21_s1.fall_.Keep, .int .i64 r21_s1.fall_.Tear, .int .i64 r21_s1.acts_, .int .i64 r21_s1.falls_] 52, own e_disk_sector 55 r21_p4 r21_c5 r21_s1.sure_, mpo (kInt .i64) (fun x : disk_sector => Value.agg #[.string x.s_, .int .i64 x.at_]) r21_b7 r21_s1.wait_] ++ F0) rfl (nw_ow ?_)
    refine ow_vals 1 (j := 3) [3] [(3, .pointer none)] rfl (by kernel_rfl) ?_
    refine ow_end rfl ?_
    refine ew_then ?_
    refine cw_seq ?_
    refine cw_region ?_
    refine ow_vals 23 (j := 23) [0] [(0, .bool false)] rfl (by kernel_rfl) ?_
    refine ow_end rfl ?_
    refine ew_then ?_
    refine cw_ret ?_
    have hR := Option.some.inj hF
    subst hR
    exact fin1 (H1 := [imm I]) (fun w hs => sat_to [1, 1, 1, 0] 3 rfl hs) rfl (rr_tmp rfl) ⟨rfl, rfl⟩
  rw [hO] at hF
  try dsimp only [optC] at hF
  refine nw_H (H' := [imm I, pt r21_b2 #[.slice r21_p4 r21_s1.sure_.length r21_c5, .map (some r21_b7), .bool r21_s1.off_, .bool r21_s1.armed_, .int .i64 r21_s1.left_, .int .u64 r21_s1.fall_.Keep, .int .i64 r21_s1.fall_.Tear, .int .i64 r21_s1.acts_, .int .i64 r21_s1.falls_] 52, pt r28_b4 #[.pointer (some ⟨r21_b2, 0, none⟩), .int .i64 r28_s1.2.boot_, .int .i64 r28_s1.2.n_] 75, pt r28_b2 #[.pointer (some ⟨r28_b4, 0, none⟩), .int .i64 r28_s1.1.base_, .int .i64 r28_s1.1.slots_, .int .i64 r28_s1.1.shred_] 78, own e_disk_sector 55 r21_p4 r21_c5 r21_s1.sure_, mpo (kInt .i64) (fun x : disk_sector => Value.agg #[.string x.s_, .int .i64 x.at_]) r21_b7 r21_s1.wait_] ++ F0) rfl (nw_ow ?_)
  refine ow_vals 1 (j := 3) [3] [(3, .pointer (some ⟨r28_b2, 0, none⟩))] rfl (by kernel_rfl) ?_
  refine ow_end rfl ?_
  refine ew_then ?_
  refine cw_seq ?_
  refine cw_region ?_
  refine ow_vals 4 (j := 4) [3, 18, 19] [(3, .pointer (some ⟨r28_b2, 0, none⟩)), (18, .bool true), (19, .pointer (some ⟨r28_b2, 0, none⟩))] rfl (by kernel_rfl) ?_
  obtain ⟨r32, h33, hF⟩ := bind_some hF
  refine ow_pw rfl (pw_call (F := [pt r21_b2 #[.slice r21_p4 r21_s1.sure_.length r21_c5, .map (some r21_b7), .bool r21_s1.off_, .bool r21_s1.armed_, .int .i64 r21_s1.left_, .int .u64 r21_s1.fall_.Keep, .int .i64 r21_s1.fall_.Tear, .int .i64 r21_s1.acts_, .int .i64 r21_s1.falls_] 52, pt r28_b4 #[.pointer (some ⟨r21_b2, 0, none⟩), .int .i64 r28_s1.2.boot_, .int .i64 r28_s1.2.n_] 75, pt r28_b2 #[.pointer (some ⟨r28_b4, 0, none⟩), .int .i64 r28_s1.1.base_, .int .i64 r28_s1.1.slots_, .int .i64 r28_s1.1.shred_] 78, own e_disk_sector 55 r21_p4 r21_c5 r21_s1.sure_, mpo (kInt .i64) (fun x : disk_sector => Value.agg #[.string x.s_, .int .i64 x.at_]) r21_b7 r21_s1.wait_] ++ F0) rfl rfl rfl rfl rfl rfl rfl (by kernel_rfl) (perm_of_pulls [0] rfl) (c_law13_key _ 1 r32 h33) ?_)
  rintro _ _ ⟨rfl, rfl⟩
  refine nw_H (H' := [imm I, pt r21_b2 #[.slice r21_p4 r21_s1.sure_.length r21_c5, .map (some r21_b7), .bool r21_s1.off_, .bool r21_s1.armed_, .int .i64 r21_s1.left_, .int .u64 r21_s1.fall_.Keep, .int .i64 r21_s1.fall_.Tear, .int .i64 r21_s1.acts_, .int .i64 r21_s1.falls_] 52, pt r28_b4 #[.pointer (some ⟨r21_b2, 0, none⟩), .int .i64 r28_s1.2.boot_, .int .i64 r28_s1.2.n_] 75, pt r28_b2 #[.pointer (some ⟨r28_b4, 0, none⟩), .int .i64 r28_s1.1.base_, .int .i64 r28_s1.1.slots_, .int .i64 r28_s1.1.shred_] 78, own e_disk_sector 55 r21_p4 r21_c5 r21_s1.sure_, mpo (kInt .i64) (fun x : disk_sector => Value.agg #[.string x.s_, .int .i64 x.at_]) r21_b7 r21_s1.wait_] ++ F0) rfl (nw_ow ?_)
  obtain ⟨r34, h35, hF⟩ := bind_some hF
  refine ow_pw rfl (pw_call (F := [] ++ F0) rfl rfl rfl rfl rfl rfl rfl (by kernel_rfl) (perm_of_pulls [0, 2, 1, 0, 0, 0] rfl) (c_keyring_Ring_Put _ 0 r32 r28_s1.1 r28_s1.2 r21_s1 r28_b2 r28_b4 r21_p4 r21_c5 r21_b7 r21_b2 r34 h35) ?_)
  rintro _ _ ⟨r34_p1, r34_c2, r34_b4, rfl, rfl⟩
  refine nw_H (H' := [imm I, pt r28_b2 #[.pointer (some ⟨r28_b4, 0, none⟩), .int .i64 r28_s1.1.base_, .int .i64 r28_s1.1.slots_, .int .i64 r28_s1.1.shred_] 78, pt r28_b4 #[.pointer (some ⟨r21_b2, 0, none⟩), .int .i64 r34.2.1.boot_, .int .i64 r34.2.1.n_] 75, pt r21_b2 #[.slice r34_p1 r34.2.2.sure_.length r34_c2, .map (some r34_b4), .bool r34.2.2.off_, .bool r34.2.2.armed_, .int .i64 r34.2.2.left_, .int .u64 r34.2.2.fall_.Keep, .int .i64 r34.2.2.fall_.Tear, .int .i64 r34.2.2.acts_, .int .i64 r34.2.2.falls_] 52, own e_disk_sector 55 r34_p1 r34_c2 r34.2.2.sure_, mpo (kInt .i64) (fun x : disk_sector => Value.agg #[.string x.s_, .int .i64 x.at_]) r34_b4 r34.2.2.wait_] ++ F0) rfl (nw_ow ?_)
  refine ow_vals 3 (j := 9) [3, 24] [(3, .pointer (some ⟨r28_b2, 0, none⟩)), (24, .bool (r34.1 == 0))] rfl (by kernel_rfl) ?_
  rcases if_some hF with ⟨h38, hF⟩ | ⟨h38, hF⟩
  · refine ow_slots (L' := [(3, .pointer (some ⟨r28_b2, 0, none⟩)), (24, .bool true)]) (by rw [h38]) ?_
    refine ow_vals 1 (j := 10) [3, 24, 25] [(3, .pointer (some ⟨r28_b2, 0, none⟩)), (24, .bool true), (25, .pointer (some ⟨r28_b2, 0, none⟩))] rfl (by kernel_rfl) ?_
    obtain ⟨r39, h40, hF⟩ := bind_some hF
    refine ow_pw rfl (pw_call (F := [] ++ F0) rfl rfl rfl rfl rfl rfl rfl (by kernel_rfl) (perm_of_pulls [0, 0, 0, 0, 0, 0] rfl) (c_keyring_Ring_Free _ 0 r28_s1.1 r34.2.1 r34.2.2 r28_b2 r28_b4 r34_p1 r34_c2 r34_b4 r21_b2 r39 h40) ?_)
    rintro _ _ ⟨rfl, rfl⟩
    refine nw_H (H' := [imm I, pt r28_b2 #[.pointer (some ⟨r28_b4, 0, none⟩), .int .i64 r28_s1.1.base_, .int .i64 r28_s1.1.slots_, .int .i64 r28_s1.1.shred_] 78, pt r28_b4 #[.pointer (some ⟨r21_b2, 0, none⟩), .int .i64 r34.2.1.boot_, .int .i64 r34.2.1.n_] 75, pt r21_b2 #[.slice r34_p1 r34.2.2.sure_.length r34_c2, .map (some r34_b4), .bool r34.2.2.off_, .bool r34.2.2.armed_, .int .i64 r34.2.2.left_, .int .u64 r34.2.2.fall_.Keep, .int .i64 r34.2.2.fall_.Tear, .int .i64 r34.2.2.acts_, .int .i64 r34.2.2.falls_] 52, own e_disk_sector 55 r34_p1 r34_c2 r34.2.2.sure_, mpo (kInt .i64) (fun x : disk_sector => Value.agg #[.string x.s_, .int .i64 x.at_]) r34_b4 r34.2.2.wait_] ++ F0) rfl (nw_ow ?_)
    refine ow_vals 3 (j := 14) [3, 29] [(3, .pointer (some ⟨r28_b2, 0, none⟩)), (29, .bool (!r39))] rfl (by kernel_rfl) ?_
    rcases if_some hF with ⟨h41, hF⟩ | ⟨h41, hF⟩
    · refine ow_slots (L' := [(3, .pointer (some ⟨r28_b2, 0, none⟩)), (29, .bool true)]) (by rw [h41]) ?_
      refine ow_vals 1 (j := 15) [3, 29, 30] [(3, .pointer (some ⟨r28_b2, 0, none⟩)), (29, .bool true), (30, .pointer (some ⟨r28_b2, 0, none⟩))] rfl (by kernel_rfl) ?_
      obtain ⟨r42, h43, hF⟩ := bind_some hF
      refine ow_pw rfl (pw_call (F := [] ++ F0) rfl rfl rfl rfl rfl rfl rfl (by kernel_rfl) (perm_of_pulls [0, 0, 0, 0, 0, 0] rfl) (c_keyring_Ring_Shred _ 0 r28_s1.1 r34.2.1 r34.2.2 r28_b2 r28_b4 r34_p1 r34_c2 r34_b4 r21_b2 r42 h43) ?_)
      rintro _ _ ⟨r42_p1, r42_c2, r42_b4, rfl, rfl⟩
      refine nw_H (H' := [imm I, pt r28_b2 #[.pointer (some ⟨r28_b4, 0, none⟩), .int .i64 r42.2.1.base_, .int .i64 r42.2.1.slots_, .int .i64 r42.2.1.shred_] 78, pt r28_b4 #[.pointer (some ⟨r21_b2, 0, none⟩), .int .i64 r34.2.1.boot_, .int .i64 r34.2.1.n_] 75, pt r21_b2 #[.slice r42_p1 r42.2.2.sure_.length r42_c2, .map (some r42_b4), .bool r42.2.2.off_, .bool r42.2.2.armed_, .int .i64 r42.2.2.left_, .int .u64 r42.2.2.fall_.Keep, .int .i64 r42.2.2.fall_.Tear, .int .i64 r42.2.2.acts_, .int .i64 r42.2.2.falls_] 52, own e_disk_sector 55 r42_p1 r42_c2 r42.2.2.sure_, mpo (kInt .i64) (fun x : disk_sector => Value.agg #[.string x.s_, .int .i64 x.at_]) r42_b4 r42.2.2.wait_] ++ F0) rfl (nw_ow ?_)
      refine ow_vals 3 (j := 19) [3, 34] [(3, .pointer (some ⟨r28_b2, 0, none⟩)), (34, .bool (r42.1 == 0))] rfl (by kernel_rfl) ?_
      rcases if_some hF with ⟨h46, hF⟩ | ⟨h46, hF⟩
      · refine ow_slots (L' := [(3, .pointer (some ⟨r28_b2, 0, none⟩)), (34, .bool true)]) (by rw [h46]) ?_
        refine ow_vals 1 (j := 20) [34, 35] [(34, .bool true), (35, .pointer (some ⟨r28_b2, 0, none⟩))] rfl (by kernel_rfl) ?_
        obtain ⟨r47, h48, hF⟩ := bind_some hF
        refine ow_pw rfl (pw_call (F := [] ++ F0) rfl rfl rfl rfl rfl rfl rfl (by kernel_rfl) (perm_of_pulls [0, 0, 0, 0, 0, 0] rfl) (c_keyring_Ring_Free _ 0 r42.2.1 r34.2.1 r42.2.2 r28_b2 r28_b4 r42_p1 r42_c2 r42_b4 r21_b2 r47 h48) ?_)
        rintro _ _ ⟨rfl, rfl⟩
        refine nw_H (H' := [imm I, pt r28_b2 #[.pointer (some ⟨r28_b4, 0, none⟩), .int .i64 r42.2.1.base_, .int .i64 r42.2.1.slots_, .int .i64 r42.2.1.shred_] 78, pt r28_b4 #[.pointer (some ⟨r21_b2, 0, none⟩), .int .i64 r34.2.1.boot_, .int .i64 r34.2.1.n_] 75, pt r21_b2 #[.slice r42_p1 r42.2.2.sure_.length r42_c2, .map (some r42_b4), .bool r42.2.2.off_, .bool r42.2.2.armed_, .int .i64 r42.2.2.left_, .int .u64 r42.2.2.fall_.Keep, .int .i64 r42.2.2.fall_.Tear, .int .i64 r42.2.2.acts_, .int .i64 r42.2.2.falls_] 52, own e_disk_sector 55 r42_p1 r42_c2 r42.2.2.sure_, mpo (kInt .i64) (fun x : disk_sector => Value.agg #[.string x.s_, .int .i64 x.at_]) r42_b4 r42.2.2.wait_] ++ F0) rfl (nw_ow ?_)
        refine ow_vals 2 (j := 23) [0] [(0, .bool r47)] rfl (by kernel_rfl) ?_
        refine ow_end rfl ?_
        refine ew_then ?_
        refine cw_ret ?_
        have hR := Option.some.inj hF
        subst hR
        exact fin1 (H1 := [imm I]) (fun w hs => sat_to [1, 1, 1, 1, 1, 0] 5 rfl hs) rfl (rr_tmp rfl) ⟨rfl, rfl⟩
      refine ow_slots (L' := [(3, .pointer (some ⟨r28_b2, 0, none⟩)), (34, .bool false)]) (by rw [h46]) ?_
      refine ow_vals 4 (j := 23) [0] [(0, .bool false)] rfl (by kernel_rfl) ?_
      refine ow_end rfl ?_
      refine ew_then ?_
      refine cw_ret ?_
      have hR := Option.some.inj hF
      subst hR
      exact fin1 (H1 := [imm I]) (fun w hs => sat_to [1, 1, 1, 1, 1, 0] 5 rfl hs) rfl (rr_tmp rfl) ⟨rfl, rfl⟩
    refine ow_slots (L' := [(3, .pointer (some ⟨r28_b2, 0, none⟩)), (29, .bool false)]) (by rw [h41]) ?_
    refine ow_vals 9 (j := 23) [0] [(0, .bool false)] rfl (by kernel_rfl) ?_
    refine ow_end rfl ?_
    refine ew_then ?_
    refine cw_ret ?_
    have hR := Option.some.inj hF
    subst hR
    exact fin1 (H1 := [imm I]) (fun w hs => sat_to [1, 1, 1, 1, 1, 0] 5 rfl hs) rfl (rr_tmp rfl) ⟨rfl, rfl⟩
  refine ow_slots (L' := [(3, .pointer (some ⟨r28_b2, 0, none⟩)), (24, .bool false)]) (by rw [h38]) ?_
  refine ow_vals 14 (j := 23) [0] [(0, .bool false)] rfl (by kernel_rfl) ?_
  refine ow_end rfl ?_
  refine ew_then ?_
  refine cw_ret ?_
  have hR := Option.some.inj hF
  subst hR
  exact fin1 (H1 := [imm I]) (fun w hs => sat_to [1, 1, 1, 1, 1, 0] 5 rfl hs) rfl (rr_tmp rfl) ⟨rfl, rfl⟩

end Go.Proofs.YtilpkebkhibpeaaGreatDoor
