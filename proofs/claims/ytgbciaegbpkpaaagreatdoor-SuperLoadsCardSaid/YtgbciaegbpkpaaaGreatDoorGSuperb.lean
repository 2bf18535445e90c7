/- What the functions compute, and that the code computes it: printed by a program of this claim (wip/tools), for the group Super. -/
import Derived.Test.YtgbciaegbpkpaaaGreatDoorGSuper
namespace Go.Proofs.YtgbciaegbpkpaaaGreatDoor
set_option linter.all false
open Go Go.RowKit Go.Fw
set_option linter.unusedVariables false

def F.guard_Guard_Put (x1 : Int) (x2 : ByteArray) (m0 : guard_Guard) (m1 : disk_Disk) : Option (Int × Int × guard_Guard × disk_Disk) :=
  Option.bind (F.guard_Guard_none m0 m1) (fun (r21 : Unit) => if decide ((x2.size : Int) > 47) then (some ((0, 3, m0, m1))) else (if decide (m0.n_ ≥ 4294967295) then (some ((0, 6, m0, m1))) else (Option.bind (F.guard_Eight (ior .i64 (IntKind.i64.wrap (m0.boot_ * 2 ^ 32)) (IntKind.i64.wrap (m0.n_ + 1)))) (fun (r25 : ByteArray) => chk (r25.size + (bstr ([IntKind.u8.wrap ((x2.size : Int))] : List Int)).size ≤ 9223372036854775807) (chk ((r25 ++ (bstr ([IntKind.u8.wrap ((x2.size : Int))] : List Int))).size + x2.size ≤ 9223372036854775807) (Option.bind (F.strings_Repeat (ByteArray.mk #[0]) (IntKind.i64.wrap (47 - (x2.size : Int)))) (fun (r31 : ByteArray) => chk (((r25 ++ (bstr ([IntKind.u8.wrap ((x2.size : Int))] : List Int))) ++ x2).size + r31.size ≤ 9223372036854775807) (chk ((((r25 ++ (bstr ([IntKind.u8.wrap ((x2.size : Int))] : List Int))) ++ x2) ++ r31).size + r25.size ≤ 9223372036854775807) (Option.bind (F.disk_Disk_Write x1 ((((r25 ++ (bstr ([IntKind.u8.wrap ((x2.size : Int))] : List Int))) ++ x2) ++ r31) ++ r25) m1) (fun (r35 : Int × disk_Disk) => if r35.1 != 0 then (some ((0, r35.1, m0, r35.2))) else (some ((ior .i64 (IntKind.i64.wrap (m0.boot_ * 2 ^ 32)) (IntKind.i64.wrap (m0.n_ + 1)), 0, (⟨m0.boot_, IntKind.i64.wrap (m0.n_ + 1)⟩ : guard_Guard), r35.2)))))))))))))
set_option maxRecDepth 100000 in
set_option maxHeartbeats 4000000 in
theorem c_guard_Guard_Put (I : Hl) (x1 : Int) (x2 : ByteArray) (m0 : guard_Guard) (m1 : disk_Disk) (b0 : Nat) (p0 : Option Addr) (c0 : Nat) (p1 : Nat) (b1 : Nat) (res : Int × Int × guard_Guard × disk_Disk) (hF : F.guard_Guard_Put x1 x2 m0 m1 = some res) : Tr Tryz.prog 15 [.pointer (some ⟨b0, 0, none⟩), .int .i64 x1, .string x2] [imm I, pt b0 #[.pointer (some ⟨b1, 0, none⟩), .int .i64 m0.boot_, .int .i64 m0.n_] 76, pt b1 #[.slice p0 m1.sure_.length c0, .map (some p1), .bool m1.off_, .bool m1.armed_, .int .i64 m1.left_, .int .u64 m1.fall_.Keep, .int .i64 m1.fall_.Tear, .int .i64 m1.acts_, .int .i64 m1.falls_] 65, own e_disk_sector 86 p0 c0 m1.sure_, mpo (kInt .i64) (fun x : disk_sector => Value.agg #[.string x.s_, .int .i64 x.at_]) p1 m1.wait_] (fun r H' => ∃ (pq1 : Option Addr), ∃ (cq2 : Nat), ∃ (bq4 : Nat), r = .tuple #[.int .i64 res.1, .int .i64 res.2.1] ∧ H' = [imm I, pt b0 #[.pointer (some ⟨b1, 0, none⟩), .int .i64 res.2.2.1.boot_, .int .i64 res.2.2.1.n_] 76, pt b1 #[.slice pq1 res.2.2.2.sure_.length cq2, .map (some bq4), .bool res.2.2.2.off_, .bool res.2.2.2.armed_, .int .i64 res.2.2.2.left_, .int .u64 res.2.2.2.fall_.Keep, .int .i64 res.2.2.2.fall_.Tear, .int .i64 res.2.2.2.acts_, .int .i64 res.2.2.2.falls_] 65, own e_disk_sector 86 pq1 cq2 res.2.2.2.sure_, mpo (kInt .i64) (fun x : disk_sector => Value.agg #[.string x.s_, .int .i64 x.at_]) bq4 res.2.2.2.wait_]) := by
  unfold F.guard_Guard_Put at hF
  refine tr_of_cw (fn := Tryz.f15) Tryz.func15 rfl (Nat.le_of_ble_eq_true rfl) 70 rfl fun F0 w0 => ?_
  refine cw_keep [0, 1, 2] (L' := [(0, .pointer (some ⟨b0, 0, none⟩)), (1, .int .i64 x1), (2, .string x2)]) rfl ?_
  refine cw_state (S' := SAT w0 ([imm I, pt b0 #[.pointer (some ⟨b1, 0, none⟩), .int .i64 m0.boot_, .int .i64 m0.n_] 76, pt b1 #[.slice p0 m1.sure_.length c0, .map (some p1), .bool m1.off_, .bool m1.armed_, .int .i64 m1.left_, .int .u64 m1.fall_.Keep, .int .i64 m1.fall_.Tear, .int .i64 m1.acts_, .int .i64 m1.falls_] 65, own e_disk_sector 86 p0 c0 m1.sure_, mpo (kInt .i64) (fun x : disk_sector => Value.agg #[.string x.s_, .int .i64 x.at_]) p1 m1.wait_] ++ F0)) (fun w hs => hs) ?_
  refine cw_seq ?_
  refine cw_region ?_
  refine ow_vals 2 (j := 2) [0, 1, 2] [(0, .pointer (some ⟨b0, 0, none⟩)), (1, .int .i64 x1), (2, .string x2)] rfl (by kernel_rfl) ?_
  refine ow_end rfl ?_
  refine ew_then ?_
  refine cw_seq ?_
  refine cw_block ?_
  refine cw_seq ?_
  refine cw_region ?_
  refine ow_vals 1 (j := 1) [0, 1, 2, 12] [(0, .pointer (some ⟨b0, 0, none⟩)), (1, .int .i64 x1), (2, .string x2), (12, .pointer (some ⟨b0, 0, none⟩))] rfl (by kernel_rfl) ?_
  obtain ⟨r21, h22, hF⟩ := bind_some hF
  refine ow_pw rfl (pw_call (F := [] ++ F0) rfl rfl rfl rfl rfl rfl rfl (by kernel_rfl) (perm_of_pulls [0, 0, 0, 0, 0] rfl) (c_guard_Guard_none _ m0 m1 b0 p0 c0 p1 b1 r21 h22) ?_)
  rintro _ _ ⟨rfl, rfl⟩
  refine nw_H (H' := [imm I, pt b0 #[.pointer (some ⟨b1, 0, none⟩), .int .i64 m0.boot_, .int .i64 m0.n_] 76, pt b1 #[.slice p0 m1.sure_.length c0, .map (some p1), .bool m1.off_, .bool m1.armed_, .int .i64 m1.left_, .int .u64 m1.fall_.Keep, .int .i64 m1.fall_.Tear, .int .i64 m1.acts_, .int .i64 m1.falls_] 65, own e_disk_sector 86 p0 c0 m1.sure_, mpo (kInt .i64) (fun x : disk_sector => Value.agg #[.string x.s_, .int .i64 x.at_]) p1 m1.wait_] ++ F0) rfl (nw_ow ?_)
  refine ow_vals 1 (j := 3) [0, 1, 2, 11] [(0, .pointer (some ⟨b0, 0, none⟩)), (1, .int .i64 x1), (2, .string x2), (11, .bool false)] rfl (by kernel_rfl) ?_
  refine ow_end rfl ?_
  refine ew_then ?_
  refine cw_cond_f rfl rfl rfl ?_
  refine cw_seq ?_
  refine cw_region ?_
  refine ow_vals 4 (j := 4) [0, 1, 2, 14] [(0, .pointer (some ⟨b0, 0, none⟩)), (1, .int .i64 x1), (2, .string x2), (14, .bool (decide ((x2.size : Int) > 47)))] rfl (by kernel_rfl) ?_
  refine ow_end rfl ?_
  refine ew_then ?_
  rcases if_some hF with ⟨h23, hF⟩ | ⟨h23, hF⟩
  · refine cw_cond_t rfl rfl h23 ?_
    refine cw_seq ?_
    refine cw_region ?_
    refine ow_vals 2 (j := 2) [6, 7] [(6, .int .i64 0), (7, .int .i64 3)] rfl (by kernel_rfl) ?_
    refine ow_end rfl ?_
    refine ew_then ?_
    refine cw_ret ?_
    refine ew_blk_ret ?_
    refine ew_then_ret ?_
    have hR := Option.some.inj hF
    subst hR
    exact fin2 (H1 := [imm I, pt b0 #[.pointer (some ⟨b1, 0, none⟩), .int .i64 m0.boot_, .int .i64 m0.n_] 76, pt b1 #[.slice p0 m1.sure_.length c0, .map (some p1), .bool m1.off_, .bool m1.armed_, .int .i64 m1.left_, .int .u64 m1.fall_.Keep, .int .i64 m1.fall_.Tear, .int .i64 m1.acts_, .int .i64 m1.falls_] 65, own e_disk_sector 86 p0 c0 m1.sure_, mpo (kInt .i64) (fun x : disk_sector => Value.agg #[.string x.s_, .int .i64 x.at_]) p1 m1.wait_]) (fun w hs => sat_to [0, 0, 0, 0, 0] 0 rfl hs) rfl (rr_tmp rfl) (rr_tmp rfl) ⟨p0, c0, p1, rfl, rfl⟩
  refine cw_cond_f rfl rfl h23 ?_
  refine cw_seq ?_
  refine cw_region ?_
  refine ow_vals 3 (j := 3) [0, 1, 2, 21] [(0, .pointer (some ⟨b0, 0, none⟩)), (1, .int .i64 x1), (2, .string x2), (21, .pointer (some ⟨b0, 2, none⟩))] rfl (by kernel_rfl) ?_
  refine ow_pw rfl (pw_quiet (v := .int .i64 m0.n_) rfl rfl rfl rfl (q_load 1 rfl rfl rfl (by kernel_rfl)) (nw_ow ?_))
  refine ow_vals 2 (j := 6) [0, 1, 2, 18] [(0, .pointer (some ⟨b0, 0, none⟩)), (1, .int .i64 x1), (2, .string x2), (18, .bool (decide (m0.n_ ≥ 4294967295)))] rfl (by kernel_rfl) ?_
  refine ow_end rfl ?_
  refine ew_then ?_
  rcases if_some hF with ⟨h24, hF⟩ | ⟨h24, hF⟩
  · refine cw_cond_t rfl rfl h24 ?_
    refine cw_seq ?_
    refine cw_region ?_
    refine ow_vals 2 (j := 2) [6, 7] [(6, .int .i64 0), (7, .int .i64 6)] rfl (by kernel_rfl) ?_
    refine ow_end rfl ?_
    refine ew_then ?_
    refine cw_ret ?_
    refine ew_blk_ret ?_
    refine ew_then_ret ?_
    have hR := Option.some.inj hF
    subst hR
    exact fin2 (H1 := [imm I, pt b0 #[.pointer (some ⟨b1, 0, none⟩), .int .i64 m0.boot_, .int .i64 m0.n_] 76, pt b1 #[.slice p0 m1.sure_.length c0, .map (some p1), .bool m1.off_, .bool m1.armed_, .int .i64 m1.left_, .int .u64 m1.fall_.Keep, .int .i64 m1.fall_.Tear, .int .i64 m1.acts_, .int .i64 m1.falls_] 65, own e_disk_sector 86 p0 c0 m1.sure_, mpo (kInt .i64) (fun x : disk_sector => Value.agg #[.string x.s_, .int .i64 x.at_]) p1 m1.wait_]) (fun w hs => sat_to [0, 0, 0, 0, 0] 0 rfl hs) rfl (rr_tmp rfl) (rr_tmp rfl) ⟨p0, c0, p1, rfl, rfl⟩
  refine cw_cond_f rfl rfl h24 ?_
  refine cw_skip ?_
  refine ew_blk ?_
  refine ew_then ?_
  refine cw_seq ?_
  refine cw_open 12 (SAT w0 ([imm I, pt b0 #[.pointer (some ⟨b1, 0, none⟩), .int .i64 m0.boot_, .int .i64 m0.n_] 76, pt b1 #[.slice p0 m1.sure_.length c0, .map (some p1), .bool m1.off_, .bool m1.armed_, .int .i64 m1.left_, .int .u64 m1.fall_.Keep, .int .i64 m1.fall_.Tear, .int .i64 m1.acts_, .int .i64 m1.falls_] 65, own e_disk_sector 86 p0 c0 m1.sure_, mpo (kInt .i64) (fun x : disk_sector => Value.agg #[.string x.s_, .int .i64 x.at_]) p1 m1.wait_])) (by kernel_rfl) (f := 12) rfl (fun w hs => sat_drew hs) ?_
  refine aw_vals [0, 1, 2, 5, 6, 7] (f' := 6) (m' := 231) [0, 1, 2, 26, 31] [(0, .pointer (some ⟨b0, 0, none⟩)), (1, .int .i64 x1), (2, .string x2), (26, .pointer (some ⟨b0, 1, none⟩)), (31, .pointer (some ⟨b0, 2, none⟩))] (fun _ _ _ _ _ h => calm_fin (P := Tryz.prog) (fn := Tryz.f15) _ _ _ _ _ h) (fun w hs => sat_pulls [0, 0, 0, 0, 0] (G := [] ++ F0) rfl hs) rfl (by kernel_rfl) ?_
  refine aw_quiet 3 (m' := 239) (v := .int .i64 m0.boot_) 0 [] rfl rfl rfl rfl (by kernel_rfl) (by kernel_rfl) (by kernel_rfl) (fun _ _ _ _ _ h => calm_fin (P := Tryz.prog) (fn := Tryz.f15) _ _ _ _ _ h) (fun w hs => sat_pulls [0, 0, 0, 0, 0] (G := [] ++ F0) rfl hs) (q_load 1 rfl rfl rfl (by kernel_rfl)) ?_
  refine aw_vals [4] (f' := 4) (m' := 255) [0, 1, 2, 28, 31] [(0, .pointer (some ⟨b0, 0, none⟩)), (1, .int .i64 x1), (2, .string x2), (28, .int .i64 (IntKind.i64.wrap (m0.boot_ * 2 ^ 32))), (31, .pointer (some ⟨b0, 2, none⟩))] (fun _ _ _ _ _ h => calm_fin (P := Tryz.prog) (fn := Tryz.f15) _ _ _ _ _ h) (fun w hs => sat_pulls [0, 0, 0, 0, 0] (G := [] ++ F0) rfl hs) rfl (by kernel_rfl) ?_
  refine aw_quiet 8 (m' := 511) (v := .int .i64 m0.n_) 0 [] rfl rfl rfl rfl (by kernel_rfl) (by kernel_rfl) (by kernel_rfl) (fun _ _ _ _ _ h => calm_fin (P := Tryz.prog) (fn := Tryz.f15) _ _ _ _ _ h) (fun w hs => sat_pulls [0, 0, 0, 0, 0] (G := [] ++ F0) rfl hs) (q_load 1 rfl rfl rfl (by kernel_rfl)) ?_
  refine aw_vals [9, 10, 11] (f' := 0) (m' := 4095) [0, 1, 2, 8] [(0, .pointer (some ⟨b0, 0, none⟩)), (1, .int .i64 x1), (2, .string x2), (8, .int .i64 (ior .i64 (IntKind.i64.wrap (m0.boot_ * 2 ^ 32)) (IntKind.i64.wrap (m0.n_ + 1))))] (fun _ _ _ _ _ h => calm_fin (P := Tryz.prog) (fn := Tryz.f15) _ _ _ _ _ h) (fun w hs => sat_pulls [0, 0, 0, 0, 0] (G := [] ++ F0) rfl hs) rfl (by kernel_rfl) ?_
  refine aw_keep [0, 1, 2, 8] (L' := [(0, .pointer (some ⟨b0, 0, none⟩)), (1, .int .i64 x1), (2, .string x2), (8, .int .i64 (ior .i64 (IntKind.i64.wrap (m0.boot_ * 2 ^ 32)) (IntKind.i64.wrap (m0.n_ + 1))))]) rfl ?_
  refine aw_end (by kernel_rfl) ?_
  refine ew_then ?_
  refine cw_seq ?_
  refine cw_region ?_
  refine ow_vals 1 (j := 1) [0, 1, 2, 8, 35] [(0, .pointer (some ⟨b0, 0, none⟩)), (1, .int .i64 x1), (2, .string x2), (8, .int .i64 (ior .i64 (IntKind.i64.wrap (m0.boot_ * 2 ^ 32)) (IntKind.i64.wrap (m0.n_ + 1)))), (35, .int .i64 (ior .i64 (IntKind.i64.wrap (m0.boot_ * 2 ^ 32)) (IntKind.i64.wrap (m0.n_ + 1))))] rfl (by kernel_rfl) ?_
  obtain ⟨r25, h26, hF⟩ := bind_some hF
  refine ow_pw rfl (pw_call (F := [pt b0 #[.pointer (some ⟨b1, 0, none⟩), .int .i64 m0.boot_, .int .i64 m0.n_] 76, pt b1 #[.slice p0 m1.sure_.length c0, .map (some p1), .bool m1.off_, .bool m1.armed_, .int .i64 m1.left_, .int .u64 m1.fall_.Keep, .int .i64 m1.fall_.Tear, .int .i64 m1.acts_, .int .i64 m1.falls_] 65, own e_disk_sector 86 p0 c0 m1.sure_, mpo (kInt .i64) (fun x : disk_sector => Value.agg #[.string x.s_, .int .i64 x.at_]) p1 m1.wait_] ++ F0) rfl rfl rfl rfl rfl rfl rfl (by kernel_rfl) (perm_of_pulls [0] rfl) (c_guard_Eight _ (ior .i64 (IntKind.i64.wrap (m0.boot_ * 2 ^ 32)) (IntKind.i64.wrap (m0.n_ + 1))) r25 h26) ?_)
  rintro _ _ ⟨rfl, rfl⟩
  refine nw_H (H' := [imm I, pt b0 #[.pointer (some ⟨b1, 0, none⟩), .int .i64 m0.boot_, .int .i64 m0.n_] 76, pt b1 #[.slice p0 m1.sure_.length c0, .map (some p1), .bool m1.off_, .bool m1.armed_, .int .i64 m1.left_, .int .u64 m1.fall_.Keep, .int .i64 m1.fall_.Tear, .int .i64 m1.acts_, .int .i64 m1.falls_] 65, own e_disk_sector 86 p0 c0 m1.sure_, mpo (kInt .i64) (fun x : disk_sector => Value.agg #[.string x.s_, .int .i64 x.at_]) p1 m1.wait_] ++ F0) rfl (nw_ow ?_)
  refine ow_vals 1 (j := 3) [0, 1, 2, 8, 9] [(0, .pointer (some ⟨b0, 0, none⟩)), (1, .int .i64 x1), (2, .string x2), (8, .int .i64 (ior .i64 (IntKind.i64.wrap (m0.boot_ * 2 ^ 32)) (IntKind.i64.wrap (m0.n_ + 1)))), (9, .string r25)] rfl (by kernel_rfl) ?_
  refine ow_end rfl ?_
  refine ew_then ?_
  refine cw_seq ?_
  refine cw_seq ?_
  refine cw_open 21 (SAT w0 ([imm I, pt b0 #[.pointer (some ⟨b1, 0, none⟩), .int .i64 m0.boot_, .int .i64 m0.n_] 76, pt b1 #[.slice p0 m1.sure_.length c0, .map (some p1), .bool m1.off_, .bool m1.armed_, .int .i64 m1.left_, .int .u64 m1.fall_.Keep, .int .i64 m1.fall_.Tear, .int .i64 m1.acts_, .int .i64 m1.falls_] 65, own e_disk_sector 86 p0 c0 m1.sure_, mpo (kInt .i64) (fun x : disk_sector => Value.agg #[.string x.s_, .int .i64 x.at_]) p1 m1.wait_])) (by kernel_rfl) (f := 23) rfl (fun w hs => sat_drew hs) ?_
  refine aw_vals [0, 1, 2, 4, 5, 6, 7, 8, 12, 14, 15, 16, 19] (f' := 10) (m' := 643575) [0, 8, 39, 41, 42, 45, 49, 53, 56] [(0, .pointer (some ⟨b0, 0, none⟩)), (8, .int .i64 (ior .i64 (IntKind.i64.wrap (m0.boot_ * 2 ^ 32)) (IntKind.i64.wrap (m0.n_ + 1)))), (39, .pointer (some ⟨b0, 0, none⟩)), (41, .int .i64 x1), (42, .string r25), (45, .int .u8 (IntKind.u8.wrap ((x2.size : Int)))), (49, .string x2), (53, .int .i64 (IntKind.i64.wrap (47 - (x2.size : Int)))), (56, .string r25)] (fun _ _ _ _ _ h => calm_fin (P := Tryz.prog) (fn := Tryz.f15) _ _ _ _ _ h) (fun w hs => sat_pulls [0, 0, 0, 0, 0] (G := [] ++ F0) rfl hs) rfl (by kernel_rfl) ?_
  refine aw_quiet 3 (m' := 643583) (v := .pointer (some ⟨b1, 0, none⟩)) 3 [] rfl rfl rfl rfl (by kernel_rfl) (by kernel_rfl) (by kernel_rfl) (fun _ _ _ _ _ h => calm_fin (P := Tryz.prog) (fn := Tryz.f15) _ _ _ _ _ h) (fun w hs => sat_pulls [0, 0, 0, 0, 0] (G := [] ++ F0) rfl hs) (q_load 1 rfl rfl rfl (by kernel_rfl)) ?_
  obtain ⟨h29, hF⟩ := chk_some hF
  obtain ⟨h30, hF⟩ := chk_some hF
  obtain ⟨r31, h32, hF⟩ := bind_some hF
  obtain ⟨h33, hF⟩ := chk_some hF
  obtain ⟨h34, hF⟩ := chk_some hF
  obtain ⟨r35, h36, hF⟩ := bind_some hF
  refine aw_two 9 17 (mi := 644095) (mj := 774655) (by kernel_rfl) (by kernel_rfl) (by kernel_rfl) ?_ ?_
  · refine pw_buildSlice (E := 5) (eInt .u8) ([IntKind.u8.wrap ((x2.size : Int))] : List Int) rfl rfl rfl rfl rfl (by kernel_rfl) rfl (by kernel_rfl) rfl (by decide) rfl fun p39 => aw_next (fun w hs => sat_pulls [1, 1, 1, 1, 1] (G := [own (eInt .u8) 5 p39 1 ([IntKind.u8.wrap ((x2.size : Int))] : List Int)] ++ F0) rfl hs) ?_
    refine aw_two 10 17 (mi := 645119) (mj := 775167) (by kernel_rfl) (by kernel_rfl) (by kernel_rfl) ?_ ?_
    · refine pw_quiet (v := .string (bstr ([IntKind.u8.wrap ((x2.size : Int))] : List Int))) rfl rfl rfl rfl (q_bytes_str_own 0 rfl rfl (by kernel_rfl) (by kernel_rfl) rfl) (aw_next (fun w hs => sat_pulls [1, 1, 1, 1, 1] (G := [own (eInt .u8) 5 p39 1 ([IntKind.u8.wrap ((x2.size : Int))] : List Int)] ++ F0) rfl hs) ?_)
      refine aw_pure 11 (m' := 647167) (v := .string (r25 ++ (bstr ([IntKind.u8.wrap ((x2.size : Int))] : List Int)))) rfl rfl rfl rfl (by kernel_rfl) (by kernel_rfl) (fun _ _ _ _ _ h => calm_fin (P := Tryz.prog) (fn := Tryz.f15) _ _ _ _ _ h) (fun w hs => sat_pulls [1, 1, 1, 1, 1] (G := [own (eInt .u8) 5 p39 1 ([IntKind.u8.wrap ((x2.size : Int))] : List Int)] ++ F0) rfl hs) (q_concat rfl rfl rfl h29) ?_
      refine aw_pure 13 (m' := 655359) (v := .string ((r25 ++ (bstr ([IntKind.u8.wrap ((x2.size : Int))] : List Int))) ++ x2)) rfl rfl rfl rfl (by kernel_rfl) (by kernel_rfl) (fun _ _ _ _ _ h => calm_fin (P := Tryz.prog) (fn := Tryz.f15) _ _ _ _ _ h) (fun w hs => sat_pulls [1, 1, 1, 1, 1] (G := [own (eInt .u8) 5 p39 1 ([IntKind.u8.wrap ((x2.size : Int))] : List Int)] ++ F0) rfl hs) (q_concat rfl rfl rfl h30) ?_
      refine aw_only 17 (m' := 786431) (by kernel_rfl) (by kernel_rfl) (pw_call (F := [own (eInt .u8) 5 p39 1 ([IntKind.u8.wrap ((x2.size : Int))] : List Int), pt b0 #[.pointer (some ⟨b1, 0, none⟩), .int .i64 m0.boot_, .int .i64 m0.n_] 76, pt b1 #[.slice p0 m1.sure_.length c0, .map (some p1), .bool m1.off_, .bool m1.armed_, .int .i64 m1.left_, .int .u64 m1.fall_.Keep, .int .i64 m1.fall_.Tear, .int .i64 m1.acts_, .int .i64 m1.falls_] 65, own e_disk_sector 86 p0 c0 m1.sure_, mpo (kInt .i64) (fun x : disk_sector => Value.agg #[.string x.s_, .int .i64 x.at_]) p1 m1.wait_] ++ F0) rfl rfl rfl rfl rfl rfl rfl (by kernel_rfl) (perm_of_pulls [1] rfl) (c_strings_Repeat _ (ByteArray.mk #[0]) (IntKind.i64.wrap (47 - (x2.size : Int))) r31 h32) ?_)
      rintro _ _ ⟨rfl, rfl⟩
      refine nw_H (H' := [imm I, own (eInt .u8) 5 p39 1 ([IntKind.u8.wrap ((x2.size : Int))] : List Int), pt b0 #[.pointer (some ⟨b1, 0, none⟩), .int .i64 m0.boot_, .int .i64 m0.n_] 76, pt b1 #[.slice p0 m1.sure_.length c0, .map (some p1), .bool m1.off_, .bool m1.armed_, .int .i64 m1.left_, .int .u64 m1.fall_.Keep, .int .i64 m1.fall_.Tear, .int .i64 m1.acts_, .int .i64 m1.falls_] 65, own e_disk_sector 86 p0 c0 m1.sure_, mpo (kInt .i64) (fun x : disk_sector => Value.agg #[.string x.s_, .int .i64 x.at_]) p1 m1.wait_] ++ F0) rfl (aw_next (fun w hs => sat_pulls [0, 1, 1, 1, 1] (G := [own (eInt .u8) 5 p39 1 ([IntKind.u8.wrap ((x2.size : Int))] : List Int)] ++ F0) rfl hs) ?_)
      refine aw_pure 18 (m' := 1048575) (v := .string (((r25 ++ (bstr ([IntKind.u8.wrap ((x2.size : Int))] : List Int))) ++ x2) ++ r31)) rfl rfl rfl rfl (by kernel_rfl) (by kernel_rfl) (fun _ _ _ _ _ h => calm_fin (P := Tryz.prog) (fn := Tryz.f15) _ _ _ _ _ h) (fun w hs => sat_pulls [0, 1, 1, 1, 1] (G := [own (eInt .u8) 5 p39 1 ([IntKind.u8.wrap ((x2.size : Int))] : List Int)] ++ F0) rfl hs) (q_concat rfl rfl rfl h33) ?_
      refine aw_pure 20 (m' := 2097151) (v := .string ((((r25 ++ (bstr ([IntKind.u8.wrap ((x2.size : Int))] : List Int))) ++ x2) ++ r31) ++ r25)) rfl rfl rfl rfl (by kernel_rfl) (by kernel_rfl) (fun _ _ _ _ _ h => calm_fin (P := Tryz.prog) (fn := Tryz.f15) _ _ _ _ _ h) (fun w hs => sat_pulls [0, 1, 1, 1, 1] (G := [own (eInt .u8) 5 p39 1 ([IntKind.u8.wrap ((x2.size : Int))] : List Int)] ++ F0) rfl hs) (q_concat rfl rfl rfl h34) ?_
      refine aw_only 21 (m' := 4194303) (by kernel_rfl) (by kernel_rfl) (pw_call (F := [own (eInt .u8) 5 p39 1 ([IntKind.u8.wrap ((x2.size : Int))] : List Int), pt b0 #[.pointer (some ⟨b1, 0, none⟩), .int .i64 m0.boot_, .int .i64 m0.n_] 76] ++ F0) rfl rfl rfl rfl rfl rfl rfl (by kernel_rfl) (perm_of_pulls [0, 2, 2, 2] rfl) (c_disk_Disk_Write _ x1 ((((r25 ++ (bstr ([IntKind.u8.wrap ((x2.size : Int))] : List Int))) ++ x2) ++ r31) ++ r25) m1 p0 c0 p1 b1 r35 h36) ?_)
      rintro _ _ ⟨r35_p1, r35_c2, r35_b4, rfl, rfl⟩
      refine nw_H (H' := [imm I, pt b1 #[.slice r35_p1 r35.2.sure_.length r35_c2, .map (some r35_b4), .bool r35.2.off_, .bool r35.2.armed_, .int .i64 r35.2.left_, .int .u64 r35.2.fall_.Keep, .int .i64 r35.2.fall_.Tear, .int .i64 r35.2.acts_, .int .i64 r35.2.falls_] 65, own e_disk_sector 86 r35_p1 r35_c2 r35.2.sure_, mpo (kInt .i64) (fun x : disk_sector => Value.agg #[.string x.s_, .int .i64 x.at_]) r35_b4 r35.2.wait_, own (eInt .u8) 5 p39 1 ([IntKind.u8.wrap ((x2.size : Int))] : List Int), pt b0 #[.pointer (some ⟨b1, 0, none⟩), .int .i64 m0.boot_, .int .i64 m0.n_] 76] ++ F0) rfl (aw_last (by kernel_rfl) ?_)
      refine aw_past (by kernel_rfl) ?_
      refine aw_vals [22] (f' := 0) (m' := 8388607) [0, 8, 10] [(0, .pointer (some ⟨b0, 0, none⟩)), (8, .int .i64 (ior .i64 (IntKind.i64.wrap (m0.boot_ * 2 ^ 32)) (IntKind.i64.wrap (m0.n_ + 1)))), (10, .int .i64 r35.1)] (fun _ _ _ _ _ h => calm_fin (P := Tryz.prog) (fn := Tryz.f15) _ _ _ _ _ h) (fun _ _ => trivial) rfl (by kernel_rfl) ?_
      refine aw_keep [0, 8, 10] (L' := [(0, .pointer (some ⟨b0, 0, none⟩)), (8, .int .i64 (ior .i64 (IntKind.i64.wrap (m0.boot_ * 2 ^ 32)) (IntKind.i64.wrap (m0.n_ + 1)))), (10, .int .i64 r35.1)]) rfl ?_
      refine aw_end (by kernel_rfl) ?_
      refine ew_then ?_
      refine cw_seq ?_
      refine cw_region ?_
      refine ow_vals 2 (j := 2) [0, 8, 10, 60] [(0, .pointer (some ⟨b0, 0, none⟩)), (8, .int .i64 (ior .i64 (IntKind.i64.wrap (m0.boot_ * 2 ^ 32)) (IntKind.i64.wrap (m0.n_ + 1)))), (10, .int .i64 r35.1), (60, .bool (r35.1 != 0))] rfl (by kernel_rfl) ?_
      refine ow_end rfl ?_
      refine ew_then ?_
      rcases if_some hF with ⟨h43, hF⟩ | ⟨h43, hF⟩
      · refine cw_cond_t rfl rfl h43 ?_
        refine cw_seq ?_
        refine cw_region ?_
        refine ow_vals 3 (j := 3) [6, 7] [(6, .int .i64 0), (7, .int .i64 r35.1)] rfl (by kernel_rfl) ?_
        refine ow_end rfl ?_
        refine ew_then ?_
        refine cw_ret ?_
        refine ew_then_ret ?_
        have hR := Option.some.inj hF
        subst hR
        exact fin2 (H1 := [imm I, pt b0 #[.pointer (some ⟨b1, 0, none⟩), .int .i64 m0.boot_, .int .i64 m0.n_] 76, pt b1 #[.slice r35_p1 r35.2.sure_.length r35_c2, .map (some r35_b4), .bool r35.2.off_, .bool r35.2.armed_, .int .i64 r35.2.left_, .int .u64 r35.2.fall_.Keep, .int .i64 r35.2.fall_.Tear, .int .i64 r35.2.acts_, .int .i64 r35.2.falls_] 65, own e_disk_sector 86 r35_p1 r35_c2 r35.2.sure_, mpo (kInt .i64) (fun x : disk_sector => Value.agg #[.string x.s_, .int .i64 x.at_]) r35_b4 r35.2.wait_]) (fun w hs => sat_to [4, 0, 3, 0, 0, 0] 1 rfl hs) rfl (rr_tmp rfl) (rr_tmp rfl) ⟨r35_p1, r35_c2, r35_b4, rfl, rfl⟩
      refine cw_cond_f rfl rfl h43 ?_
      refine cw_skip ?_
      refine ew_then ?_
      refine cw_seq ?_
      refine cw_region ?_
      refine ow_vals 3 (j := 3) [8, 62, 64] [(8, .int .i64 (ior .i64 (IntKind.i64.wrap (m0.boot_ * 2 ^ 32)) (IntKind.i64.wrap (m0.n_ + 1)))), (62, .pointer (some ⟨b0, 0, none⟩)), (64, .pointer (some ⟨b0, 2, none⟩))] rfl (by kernel_rfl) ?_
      refine ow_pw rfl (pw_quiet (v := .int .i64 m0.n_) rfl rfl rfl rfl (q_load 5 rfl rfl rfl (by kernel_rfl)) (nw_ow ?_))
      refine ow_vals 3 (j := 7) [8, 66, 68] [(8, .int .i64 (ior .i64 (IntKind.i64.wrap (m0.boot_ * 2 ^ 32)) (IntKind.i64.wrap (m0.n_ + 1)))), (66, .int .i64 (IntKind.i64.wrap (m0.n_ + 1))), (68, .pointer (some ⟨b0, 2, none⟩))] rfl (by kernel_rfl) ?_
      refine ow_pw rfl (pw_store 5 #[.pointer (some ⟨b1, 0, none⟩), .int .i64 m0.boot_, .int .i64 (IntKind.i64.wrap (m0.n_ + 1))] rfl rfl rfl rfl rfl rfl rfl (by kernel_rfl) (nw_H (H' := [imm I, pt b1 #[.slice r35_p1 r35.2.sure_.length r35_c2, .map (some r35_b4), .bool r35.2.off_, .bool r35.2.armed_, .int .i64 r35.2.left_, .int .u64 r35.2.fall_.Keep, .int .i64 r35.2.fall_.Tear, .int .i64 r35.2.acts_, .int .i64 r35.2.falls_] 65, own e_disk_sector 86 r35_p1 r35_c2 r35.2.sure_, mpo (kInt .i64) (fun x : disk_sector => Value.agg #[.string x.s_, .int .i64 x.at_]) r35_b4 r35.2.wait_, own (eInt .u8) 5 p39 1 ([IntKind.u8.wrap ((x2.size : Int))] : List Int), pt b0 #[.pointer (some ⟨b1, 0, none⟩), .int .i64 m0.boot_, .int .i64 (IntKind.i64.wrap (m0.n_ + 1))] 76] ++ F0) rfl (nw_ow ?_)))
      refine ow_end rfl ?_
      refine ew_then ?_
      refine cw_seq ?_
      refine cw_region ?_
      refine ow_vals 3 (j := 3) [6, 7] [(6, .int .i64 (ior .i64 (IntKind.i64.wrap (m0.boot_ * 2 ^ 32)) (IntKind.i64.wrap (m0.n_ + 1)))), (7, .int .i64 0)] rfl (by kernel_rfl) ?_
      refine ow_end rfl ?_
      refine ew_then ?_
      refine cw_ret ?_
      have hR := Option.some.inj hF
      subst hR
      exact fin2 (H1 := [imm I, pt b0 #[.pointer (some ⟨b1, 0, none⟩), .int .i64 ((⟨m0.boot_, IntKind.i64.wrap (m0.n_ + 1)⟩ : guard_Guard).boot_), .int .i64 ((⟨m0.boot_, IntKind.i64.wrap (m0.n_ + 1)⟩ : guard_Guard).n_)] 76, pt b1 #[.slice r35_p1 r35.2.sure_.length r35_c2, .map (some r35_b4), .bool r35.2.off_, .bool r35.2.armed_, .int .i64 r35.2.left_, .int .u64 r35.2.fall_.Keep, .int .i64 r35.2.fall_.Tear, .int .i64 r35.2.acts_, .int .i64 r35.2.falls_] 65, own e_disk_sector 86 r35_p1 r35_c2 r35.2.sure_, mpo (kInt .i64) (fun x : disk_sector => Value.agg #[.string x.s_, .int .i64 x.at_]) r35_b4 r35.2.wait_]) (fun w hs => sat_to [4, 0, 3, 0, 0, 0] 1 rfl hs) rfl (rr_tmp rfl) (rr_tmp rfl) ⟨r35_p1, r35_c2, r35_b4, rfl, rfl⟩
    refine pw_call (F := [own (eInt .u8) 5 p39 1 ([IntKind.u8.wrap ((x2.size : Int))] : List Int), pt b0 #[.pointer (some ⟨b1, 0, none⟩), .int .i64 m0.boot_, .int .i64 m0.n_] 76, pt b1 #[.slice p0 m1.sure_.length c0, .map (some p1), .bool m1.off_, .bool m1.armed_, .int .i64 m1.left_, .int .u64 m1.fall_.Keep, .int .i64 m1.fall_.Tear, .int .i64 m1.acts_, .int .i64 m1.falls_] 65, own e_disk_sector 86 p0 c0 m1.sure_, mpo (kInt .i64) (fun x : disk_sector => Value.agg #[.string x.s_, .int .i64 x.at_]) p1 m1.wait_] ++ F0) rfl rfl rfl rfl rfl rfl rfl (by kernel_rfl) (perm_of_pulls [1] rfl) (c_strings_Repeat _ (ByteArray.mk #[0]) (IntKind.i64.wrap (47 - (x2.size : Int))) r31 h32) ?_
    rintro _ _ ⟨rfl, rfl⟩
    refine nw_H (H' := [imm I, own (eInt .u8) 5 p39 1 ([IntKind.u8.wrap ((x2.size : Int))] : List Int), pt b0 #[.pointer (some ⟨b1, 0, none⟩), .int .i64 m0.boot_, .int .i64 m0.n_] 76, pt b1 #[.slice p0 m1.sure_.length c0, .map (some p1), .bool m1.off_, .bool m1.armed_, .int .i64 m1.left_, .int .u64 m1.fall_.Keep, .int .i64 m1.fall_.Tear, .int .i64 m1.acts_, .int .i64 m1.falls_] 65, own e_disk_sector 86 p0 c0 m1.sure_, mpo (kInt .i64) (fun x : disk_sector => Value.agg #[.string x.s_, .int .i64 x.at_]) p1 m1.wait_] ++ F0) rfl (aw_next (fun w hs => sat_pulls [0, 1, 1, 1, 1] (G := [own (eInt .u8) 5 p39 1 ([IntKind.u8.wrap ((x2.size : Int))] : List Int)] ++ F0) rfl hs) ?_)
    refine aw_only 10 (m' := 776191) (by kernel_rfl) (by kernel_rfl) (pw_quiet (v := .string (bstr ([IntKind.u8.wrap ((x2.size : Int))] : List Int))) rfl rfl rfl rfl (q_bytes_str_own 1 rfl rfl (by kernel_rfl) (by kernel_rfl) rfl) (aw_next (fun w hs => sat_pulls [0, 1, 1, 1, 1] (G := [own (eInt .u8) 5 p39 1 ([IntKind.u8.wrap ((x2.size : Int))] : List Int)] ++ F0) rfl hs) ?_))
    refine aw_pure 11 (m' := 778239) (v := .string (r25 ++ (bstr ([IntKind.u8.wrap ((x2.size : Int))] : List Int)))) rfl rfl rfl rfl (by kernel_rfl) (by kernel_rfl) (fun _ _ _ _ _ h => calm_fin (P := Tryz.prog) (fn := Tryz.f15) _ _ _ _ _ h) (fun w hs => sat_pulls [0, 1, 1, 1, 1] (G := [own (eInt .u8) 5 p39 1 ([IntKind.u8.wrap ((x2.size : Int))] : List Int)] ++ F0) rfl hs) (q_concat rfl rfl rfl h29) ?_
    refine aw_pure 13 (m' := 786431) (v := .string ((r25 ++ (bstr ([IntKind.u8.wrap ((x2.size : Int))] : List Int))) ++ x2)) rfl rfl rfl rfl (by kernel_rfl) (by kernel_rfl) (fun _ _ _ _ _ h => calm_fin (P := Tryz.prog) (fn := Tryz.f15) _ _ _ _ _ h) (fun w hs => sat_pulls [0, 1, 1, 1, 1] (G := [own (eInt .u8) 5 p39 1 ([IntKind.u8.wrap ((x2.size : Int))] : List Int)] ++ F0) rfl hs) (q_concat rfl rfl rfl h30) ?_
    refine aw_pure 18 (m' := 1048575) (v := .string (((r25 ++ (bstr ([IntKind.u8.wrap ((x2.size : Int))] : List Int))) ++ x2) ++ r31)) rfl rfl rfl rfl (by kernel_rfl) (by kernel_rfl) (fun _ _ _ _ _ h => calm_fin (P := Tryz.prog) (fn := Tryz.f15) _ _ _ _ _ h) (fun w hs => sat_pulls [0, 1, 1, 1, 1] (G := [own (eInt .u8) 5 p39 1 ([IntKind.u8.wrap ((x2.size : Int))] : List Int)] ++ F0) rfl hs) (q_concat rfl rfl rfl h33) ?_
    refine aw_pure 20 (m' := 2097151) (v := .string ((((r25 ++ (bstr ([IntKind.u8.wrap ((x2.size : Int))] : List Int))) ++ x2) ++ r31) ++ r25)) rfl rfl rfl rfl (by kernel_rfl) (by kernel_rfl) (fun _ _ _ _ _ h => calm_fin (P := Tryz.prog) (fn := Tryz.f15) _ _ _ _ _ h) (fun w hs => sat_pulls [0, 1, 1, 1, 1] (G := [own (eInt .u8) 5 p39 1 ([IntKind.u8.wrap ((x2.size : Int))] : List Int)] ++ F0) rfl hs) (q_concat rfl rfl rfl h34) ?_
    refine aw_only 21 (m' := 4194303) (by kernel_rfl) (by kernel_rfl) (pw_call (F := [own (eInt .u8) 5 p39 1 ([IntKind.u8.wrap ((x2.size : Int))] : List Int), pt b0 #[.pointer (some ⟨b1, 0, none⟩), .int .i64 m0.boot_, .int .i64 m0.n_] 76] ++ F0) rfl rfl rfl rfl rfl rfl rfl (by kernel_rfl) (perm_of_pulls [0, 2, 2, 2] rfl) (c_disk_Disk_Write _ x1 ((((r25 ++ (bstr ([IntKind.u8.wrap ((x2.size : Int))] : List Int))) ++ x2) ++ r31) ++ r25) m1 p0 c0 p1 b1 r35 h36) ?_)
    rintro _ _ ⟨r35_p1, r35_c2, r35_b4, rfl, rfl⟩
    refine nw_H (H' := [imm I, pt b1 #[.slice r35_p1 r35.2.sure_.length r35_c2, .map (some r35_b4), .bool r35.2.off_, .bool r35.2.armed_, .int .i64 r35.2.left_, .int .u64 r35.2.fall_.Keep, .int .i64 r35.2.fall_.Tear, .int .i64 r35.2.acts_, .int .i64 r35.2.falls_] 65, own e_disk_sector 86 r35_p1 r35_c2 r35.2.sure_, mpo (kInt .i64) (fun x : disk_sector => Value.agg #[.string x.s_, .int .i64 x.at_]) r35_b4 r35.2.wait_, own (eInt .u8) 5 p39 1 ([IntKind.u8.wrap ((x2.size : Int))] : List Int), pt b0 #[.pointer (some ⟨b1, 0, none⟩), .int .i64 m0.boot_, .int .i64 m0.n_] 76] ++ F0) rfl (aw_last (by kernel_rfl) ?_)
    refine aw_past (by kernel_rfl) ?_
    refine aw_vals [22] (f' := 0) (m' := 8388607) [0, 8, 10] [(0, .pointer (some ⟨b0, 0, none⟩)), (8, .int .i64 (ior .i64 (IntKind.i64.wrap (m0.boot_ * 2 ^ 32)) (IntKind.i64.wrap (m0.n_ + 1)))), (10, .int .i64 r35.1)] (fun _ _ _ _ _ h => calm_fin (P := Tryz.prog) (fn := Tryz.f15) _ _ _ _ _ h) (fun _ _ => trivial) rfl (by kernel_rfl) ?_
    refine aw_keep [0, 8, 10] (L' := [(0, .pointer (some ⟨b0, 0, none⟩)), (8, .int .i64 (ior .i64 (IntKind.i64.wrap (m0.boot_ * 2 ^ 32)) (IntKind.i64.wrap (m0.n_ + 1)))), (10, .int .i64 r35.1)]) rfl ?_
    refine aw_end (by kernel_rfl) ?_
    refine ew_then ?_
    refine cw_seq ?_
    refine cw_region ?_
    refine ow_vals 2 (j := 2) [0, 8, 10, 60] [(0, .pointer (some ⟨b0, 0, none⟩)), (8, .int .i64 (ior .i64 (IntKind.i64.wrap (m0.boot_ * 2 ^ 32)) (IntKind.i64.wrap (m0.n_ + 1)))), (10, .int .i64 r35.1), (60, .bool (r35.1 != 0))] rfl (by kernel_rfl) ?_
    refine ow_end rfl ?_
    refine ew_then ?_
    rcases if_some hF with ⟨h43, hF⟩ | ⟨h43, hF⟩
    · refine cw_cond_t rfl rfl h43 ?_
      refine cw_seq ?_
      refine cw_region ?_
      refine ow_vals 3 (j := 3) [6, 7] [(6, .int .i64 0), (7, .int .i64 r35.1)] rfl (by kernel_rfl) ?_
      refine ow_end rfl ?_
      refine ew_then ?_
      refine cw_ret ?_
      refine ew_then_ret ?_
      have hR := Option.some.inj hF
      subst hR
      exact fin2 (H1 := [imm I, pt b0 #[.pointer (some ⟨b1, 0, none⟩), .int .i64 m0.boot_, .int .i64 m0.n_] 76, pt b1 #[.slice r35_p1 r35.2.sure_.length r35_c2, .map (some r35_b4), .bool r35.2.off_, .bool r35.2.armed_, .int .i64 r35.2.left_, .int .u64 r35.2.fall_.Keep, .int .i64 r35.2.fall_.Tear, .int .i64 r35.2.acts_, .int .i64 r35.2.falls_] 65, own e_disk_sector 86 r35_p1 r35_c2 r35.2.sure_, mpo (kInt .i64) (fun x : disk_sector => Value.agg #[.string x.s_, .int .i64 x.at_]) r35_b4 r35.2.wait_]) (fun w hs => sat_to [4, 0, 3, 0, 0, 0] 1 rfl hs) rfl (rr_tmp rfl) (rr_tmp rfl) ⟨r35_p1, r35_c2, r35_b4, rfl, rfl⟩
    refine cw_cond_f rfl rfl h43 ?_
    refine cw_skip ?_
    refine ew_then ?_
    refine cw_seq ?_
    refine cw_region ?_
    refine ow_vals 3 (j := 3) [8, 62, 64] [(8, .int .i64 (ior .i64 (IntKind.i64.wrap (m0.boot_ * 2 ^ 32)) (IntKind.i64.wrap (m0.n_ + 1)))), (62, .pointer (some ⟨b0, 0, none⟩)), (64, .pointer (some ⟨b0, 2, none⟩))] rfl (by kernel_rfl) ?_
    refine ow_pw rfl (pw_quiet (v := .int .i64 m0.n_) rfl rfl rfl rfl (q_load 5 rfl rfl rfl (by kernel_rfl)) (nw_ow ?_))
    refine ow_vals 3 (j := 7) [8, 66, 68] [(8, .int .i64 (ior .i64 (IntKind.i64.wrap (m0.boot_ * 2 ^ 32)) (IntKind.i64.wrap (m0.n_ + 1)))), (66, .int .i64 (IntKind.i64.wrap (m0.n_ + 1))), (68, .pointer (some ⟨b0, 2, none⟩))] rfl (by kernel_rfl) ?_
    refine ow_pw rfl (pw_store 5 #[.pointer (some ⟨b1, 0, none⟩), .int .i64 m0.boot_, .int .i64 (IntKind.i64.wrap (m0.n_ + 1))] rfl rfl rfl rfl rfl rfl rfl (by kernel_rfl) (nw_H (H' := [imm I, pt b1 #[.slice r35_p1 r35.2.sure_.length r35_c2, .map (some r35_b4), .bool r35.2.off_, .bool r35.2.armed_, .int .i64 r35.2.left_, .int .u64 r35.2.fall_.Keep, .int .i64 r35.2.fall_.Tear, .int .i64 r35.2.acts_, .int .i64 r35.2.falls_] 65, own e_disk_sector 86 r35_p1 r35_c2 r35.2.sure_, mpo (kInt .i64) (fun x : disk_sector => Value.agg #[.string x.s_, .int .i64 x.at_]) r35_b4 r35.2.wait_, own (eInt .u8) 5 p39 1 ([IntKind.u8.wrap ((x2.size : Int))] : List Int), pt b0 #[.pointer (some ⟨b1, 0, none⟩), .int .i64 m0.boot_, .int .i64 (IntKind.i64.wrap (m0.n_ + 1))] 76] ++ F0) rfl (nw_ow ?_)))
    refine ow_end rfl ?_
    refine ew_then ?_
    refine cw_seq ?_
    refine cw_region ?_
    refine ow_vals 3 (j := 3) [6, 7] [(6, .int .i64 (ior .i64 (IntKind.i64.wrap (m0.boot_ * 2 ^ 32)) (IntKind.i64.wrap (m0.n_ + 1)))), (7, .int .i64 0)] rfl (by kernel_rfl) ?_
    refine ow_end rfl ?_
    refine ew_then ?_
    refine cw_ret ?_
    have hR := Option.some.inj hF
    subst hR
    exact fin2 (H1 := [imm I, pt b0 #[.pointer (some ⟨b1, 0, none⟩), .int .i64 ((⟨m0.boot_, IntKind.i64.wrap (m0.n_ + 1)⟩ : guard_Guard).boot_), .int .i64 ((⟨m0.boot_, IntKind.i64.wrap (m0.n_ + 1)⟩ : guard_Guard).n_)] 76, pt b1 #[.slice r35_p1 r35.2.sure_.length r35_c2, .map (some r35_b4), .bool r35.2.off_, .bool r35.2.armed_, .int .i64 r35.2.left_, .int .u64 r35.2.fall_.Keep, .int .i64 r35.2.fall_.Tear, .int .i64 r35.2.acts_, .int .i64 r35.2.falls_] 65, own e_disk_sector 86 r35_p1 r35_c2 r35.2.sure_, mpo (kInt .i64) (fun x : disk_sector => Value.agg #[.string x.s_, .int .i64 x.at_]) r35_b4 r35.2.wait_]) (fun w hs => sat_to [4, 0, 3, 0, 0, 0] 1 rfl hs) rfl (rr_tmp rfl) (rr_tmp rfl) ⟨r35_p1, r35_c2, r35_b4, rfl, rfl⟩
  refine pw_call (F := [pt b0 #[.pointer (some ⟨b1, 0, none⟩), .int .i64 m0.boot_, .int .i64 m0.n_] 76, pt b1 #[.slice p0 m1.sure_.length c0, .map (some p1), .bool m1.off_, .bool m1.armed_, .int .i64 m1.left_, .int .u64 m1.fall_.Keep, .int .i64 m1.fall_.Tear, .int .i64 m1.acts_, .int .i64 m1.falls_] 65, own e_disk_sector 86 p0 c0 m1.sure_, mpo (kInt .i64) (fun x : disk_sector => Value.agg #[.string x.s_, .int .i64 x.at_]) p1 m1.wait_] ++ F0) rfl rfl rfl rfl rfl rfl rfl (by kernel_rfl) (perm_of_pulls [0] rfl) (c_strings_Repeat _ (ByteArray.mk #[0]) (IntKind.i64.wrap (47 - (x2.size : Int))) r31 h32) ?_
  rintro _ _ ⟨rfl, rfl⟩
  refine nw_H (H' := [imm I, pt b0 #[.pointer (some ⟨b1, 0, none⟩), .int .i64 m0.boot_, .int .i64 m0.n_] 76, pt b1 #[.slice p0 m1.sure_.length c0, .map (some p1), .bool m1.off_, .bool m1.armed_, .int .i64 m1.left_, .int .u64 m1.fall_.Keep, .int .i64 m1.fall_.Tear, .int .i64 m1.acts_, .int .i64 m1.falls_] 65, own e_disk_sector 86 p0 c0 m1.sure_, mpo (kInt .i64) (fun x : disk_sector => Value.agg #[.string x.s_, .int .i64 x.at_]) p1 m1.wait_] ++ F0) rfl (aw_next (fun w hs => sat_pulls [0, 0, 0, 0, 0] (G := [] ++ F0) rfl hs) ?_)
  refine aw_only 9 (m' := 775167) (by kernel_rfl) (by kernel_rfl) (pw_buildSlice (E := 5) (eInt .u8) ([IntKind.u8.wrap ((x2.size : Int))] : List Int) rfl rfl rfl rfl rfl (by kernel_rfl) rfl (by kernel_rfl) rfl (by decide) rfl fun p39 => aw_next (fun w hs => sat_pulls [1, 1, 1, 1, 1] (G := [own (eInt .u8) 5 p39 1 ([IntKind.u8.wrap ((x2.size : Int))] : List Int)] ++ F0) rfl hs) ?_)
  refine aw_only 10 (m' := 776191) (by kernel_rfl) (by kernel_rfl) (pw_quiet (v := .string (bstr ([IntKind.u8.wrap ((x2.size : Int))] : List Int))) rfl rfl rfl rfl (q_bytes_str_own 0 rfl rfl (by kernel_rfl) (by kernel_rfl) rfl) (aw_next (fun w hs => sat_pulls [1, 1, 1, 1, 1] (G := [own (eInt .u8) 5 p39 1 ([IntKind.u8.wrap ((x2.size : Int))] : List Int)] ++ F0) rfl hs) ?_))
  refine aw_pure 11 (m' := 778239) (v := .string (r25 ++ (bstr ([IntKind.u8.wrap ((x2.size : Int))] : List Int)))) rfl rfl rfl rfl (by kernel_rfl) (by kernel_rfl) (fun _ _ _ _ _ h => calm_fin (P := Tryz.prog) (fn := Tryz.f15) _ _ _ _ _ h) (fun w hs => sat_pulls [1, 1, 1, 1, 1] (G := [own (eInt .u8) 5 p39 1 ([IntKind.u8.wrap ((x2.size : Int))] : List Int)] ++ F0) rfl hs) (q_concat rfl rfl rfl h29) ?_
  refine aw_pure 13 (m' := 786431) (v := .string ((r25 ++ (bstr ([IntKind.u8.wrap ((x2.size : Int))] : List Int))) ++ x2)) rfl rfl rfl rfl (by kernel_rfl) (by kernel_rfl) (fun _ _ _ _ _ h => calm_fin (P := Tryz.prog) (fn := Tryz.f15) _ _ _ _ _ h) (fun w hs => sat_pulls [1, 1, 1, 1, 1] (G := [own (eInt .u8) 5 p39 1 ([IntKind.u8.wrap ((x2.size : Int))] : List Int)] ++ F0) rfl hs) (q_concat rfl rfl rfl h30) ?_
  refine aw_pure 18 (m' := 1048575) (v := .string (((r25 ++ (bstr ([IntKind.u8.wrap ((x2.size : Int))] : List Int))) ++ x2) ++ r31)) rfl rfl rfl rfl (by kernel_rfl) (by kernel_rfl) (fun _ _ _ _ _ h => calm_fin (P := Tryz.prog) (fn := Tryz.f15) _ _ _ _ _ h) (fun w hs => sat_pulls [1, 1, 1, 1, 1] (G := [own (eInt .u8) 5 p39 1 ([IntKind.u8.wrap ((x2.size : Int))] : List Int)] ++ F0) rfl hs) (q_concat rfl rfl rfl h33) ?_
  refine aw_pure 20 (m' := 2097151) (v := .string ((((r25 ++ (bstr ([IntKind.u8.wrap ((x2.size : Int))] : List Int))) ++ x2) ++ r31) ++ r25)) rfl rfl rfl rfl (by kernel_rfl) (by kernel_rfl) (fun _ _ _ _ _ h => calm_fin (P := Tryz.prog) (fn := Tryz.f15) _ _ _ _ _ h) (fun w hs => sat_pulls [1, 1, 1, 1, 1] (G := [own (eInt .u8) 5 p39 1 ([IntKind.u8.wrap ((x2.size : Int))] : List Int)] ++ F0) rfl hs) (q_concat rfl rfl rfl h34) ?_
  refine aw_only 21 (m' := 4194303) (by kernel_rfl) (by kernel_rfl) (pw_call (F := [own (eInt .u8) 5 p39 1 ([IntKind.u8.wrap ((x2.size : Int))] : List Int), pt b0 #[.pointer (some ⟨b1, 0, none⟩), .int .i64 m0.boot_, .int .i64 m0.n_] 76] ++ F0) rfl rfl rfl rfl rfl rfl rfl (by kernel_rfl) (perm_of_pulls [1, 2, 2, 2] rfl) (c_disk_Disk_Write _ x1 ((((r25 ++ (bstr ([IntKind.u8.wrap ((x2.size : Int))] : List Int))) ++ x2) ++ r31) ++ r25) m1 p0 c0 p1 b1 r35 h36) ?_)
  rintro _ _ ⟨r35_p1, r35_c2, r35_b4, rfl, rfl⟩
  refine nw_H (H' := [imm I, pt b1 #[.slice r35_p1 r35.2.sure_.length r35_c2, .map (some r35_b4), .bool r35.2.off_, .bool r35.2.armed_, .int .i64 r35.2.left_, .int .u64 r35.2.fall_.Keep, .int .i64 r35.2.fall_.Tear, .int .i64 r35.2.acts_, .int .i64 r35.2.falls_] 65, own e_disk_sector 86 r35_p1 r35_c2 r35.2.sure_, mpo (kInt .i64) (fun x : disk_sector => Value.agg #[.string x.s_, .int .i64 x.at_]) r35_b4 r35.2.wait_, own (eInt .u8) 5 p39 1 ([IntKind.u8.wrap ((x2.size : Int))] : List Int), pt b0 #[.pointer (some ⟨b1, 0, none⟩), .int .i64 m0.boot_, .int .i64 m0.n_] 76] ++ F0) rfl (aw_last (by kernel_rfl) ?_)
  refine aw_past (by kernel_rfl) ?_
  refine aw_vals [22] (f' := 0) (m' := 8388607) [0, 8, 10] [(0, .pointer (some ⟨b0, 0, none⟩)), (8, .int .i64 (ior .i64 (IntKind.i64.wrap (m0.boot_ * 2 ^ 32)) (IntKind.i64.wrap (m0.n_ + 1)))), (10, .int .i64 r35.1)] (fun _ _ _ _ _ h => calm_fin (P := Tryz.prog) (fn := Tryz.f15) _ _ _ _ _ h) (fun _ _ => trivial) rfl (by kernel_rfl) ?_
  refine aw_keep [0, 8, 10] (L' := [(0, .pointer (some ⟨b0, 0, none⟩)), (8, .int .i64 (ior .i64 (IntKind.i64.wrap (m0.boot_ * 2 ^ 32)) (IntKind.i64.wrap (m0.n_ + 1)))), (10, .int .i64 r35.1)]) rfl ?_
  refine aw_end (by kernel_rfl) ?_
  refine ew_then ?_
  refine cw_seq ?_
  refine cw_region ?_
  refine ow_vals 2 (j := 2) [0, 8, 10, 60] [(0, .pointer (some ⟨b0, 0, none⟩)), (8, .int .i64 (ior .i64 (IntKind.i64.wrap (m0.boot_ * 2 ^ 32)) (IntKind.i64.wrap (m0.n_ + 1)))), (10, .int .i64 r35.1), (60, .bool (r35.1 != 0))] rfl (by kernel_rfl) ?_
  refine ow_end rfl ?_
  refine ew_then ?_
  rcases if_some hF with ⟨h43, hF⟩ | ⟨h43, hF⟩
  · refine cw_cond_t rfl rfl h43 ?_
    refine cw_seq ?_
    refine cw_region ?_
    refine ow_vals 3 (j := 3) [6, 7] [(6, .int .i64 0), (7, .int .i64 r35.1)] rfl (by kernel_rfl) ?_
    refine ow_end rfl ?_
    refine ew_then ?_
    refine cw_ret ?_
    refine ew_then_ret ?_
    have hR := Option.some.inj hF
    subst hR
    exact fin2 (H1 := [imm I, pt b0 #[.pointer (some ⟨b1, 0, none⟩), .int .i64 m0.boot_, .int .i64 m0.n_] 76, pt b1 #[.slice r35_p1 r35.2.sure_.length r35_c2, .map (some r35_b4), .bool r35.2.off_, .bool r35.2.armed_, .int .i64 r35.2.left_, .int .u64 r35.2.fall_.Keep, .int .i64 r35.2.fall_.Tear, .int .i64 r35.2.acts_, .int .i64 r35.2.falls_] 65, own e_disk_sector 86 r35_p1 r35_c2 r35.2.sure_, mpo (kInt .i64) (fun x : disk_sector => Value.agg #[.string x.s_, .int .i64 x.at_]) r35_b4 r35.2.wait_]) (fun w hs => sat_to [4, 0, 3, 0, 0, 0] 1 rfl hs) rfl (rr_tmp rfl) (rr_tmp rfl) ⟨r35_p1, r35_c2, r35_b4, rfl, rfl⟩
  refine cw_cond_f rfl rfl h43 ?_
  refine cw_skip ?_
  refine ew_then ?_
  refine cw_seq ?_
  refine cw_region ?_
  refine ow_vals 3 (j := 3) [8, 62, 64] [(8, .int .i64 (ior .i64 (IntKind.i64.wrap (m0.boot_ * 2 ^ 32)) (IntKind.i64.wrap (m0.n_ + 1)))), (62, .pointer (some ⟨b0, 0, none⟩)), (64, .pointer (some ⟨b0, 2, none⟩))] rfl (by kernel_rfl) ?_
  refine ow_pw rfl (pw_quiet (v := .int .i64 m0.n_) rfl rfl rfl rfl (q_load 5 rfl rfl rfl (by kernel_rfl)) (nw_ow ?_))
  refine ow_vals 3 (j := 7) [8, 66, 68] [(8, .int .i64 (ior .i64 (IntKind.i64.wrap (m0.boot_ * 2 ^ 32)) (IntKind.i64.wrap (m0.n_ + 1)))), (66, .int .i64 (IntKind.i64.wrap (m0.n_ + 1))), (68, .pointer (some ⟨b0, 2, none⟩))] rfl (by kernel_rfl) ?_
  refine ow_pw rfl (pw_store 5 #[.pointer (some ⟨b1, 0, none⟩), .int .i64 m0.boot_, .int .i64 (IntKind.i64.wrap (m0.n_ + 1))] rfl rfl rfl rfl rfl rfl rfl (by kernel_rfl) (nw_H (H' := [imm I, pt b1 #[.slice r35_p1 r35.2.sure_.length r35_c2, .map (some r35_b4), .bool r35.2.off_, .bool r35.2.armed_, .int .i64 r35.2.left_, .int .u64 r35.2.fall_.Keep, .int .i64 r35.2.fall_.Tear, .int .i64 r35.2.acts_, .int .i64 r35.2.falls_] 65, own e_disk_sector 86 r35_p1 r35_c2 r35.2.sure_, mpo (kInt .i64) (fun x : disk_sector => Value.agg #[.string x.s_, .int .i64 x.at_]) r35_b4 r35.2.wait_, own (eInt .u8) 5 p39 1 ([IntKind.u8.wrap ((x2.size : Int))] : List Int), pt b0 #[.pointer (some ⟨b1, 0, none⟩), .int .i64 m0.boot_, .int .i64 (IntKind.i64.wrap (m0.n_ + 1))] 76] ++ F0) rfl (nw_ow ?_)))
  refine ow_end rfl ?_
  refine ew_then ?_
  refine cw_seq ?_
  refine cw_region ?_
  refine ow_vals 3 (j := 3) [6, 7] [(6, .int .i64 (ior .i64 (IntKind.i64.wrap (m0.boot_ * 2 ^ 32)) (IntKind.i64.wrap (m0.n_ + 1)))), (7, .int .i64 0)] rfl (by kernel_rfl) ?_
  refine ow_end rfl ?_
  refine ew_then ?_
  refine cw_ret ?_
  have hR := Option.some.inj hF
  subst hR
  exact fin2 (H1 := [imm I, pt b0 #[.pointer (some ⟨b1, 0, none⟩), .int .i64 ((⟨m0.boot_, IntKind.i64.wrap (m0.n_ + 1)⟩ : guard_Guard).boot_), .int .i64 ((⟨m0.boot_, IntKind.i64.wrap (m0.n_ + 1)⟩ : guard_Guard).n_)] 76, pt b1 #[.slice r35_p1 r35.2.sure_.length r35_c2, .map (some r35_b4), .bool r35.2.off_, .bool r35.2.armed_, .int .i64 r35.2.left_, .int .u64 r35.2.fall_.Keep, .int .i64 r35.2.fall_.Tear, .int .i64 r35.2.acts_, .int .i64 r35.2.falls_] 65, own e_disk_sector 86 r35_p1 r35_c2 r35.2.sure_, mpo (kInt .i64) (fun x : disk_sector => Value.agg #[.string x.s_, .int .i64 x.at_]) r35_b4 r35.2.wait_]) (fun w hs => sat_to [4, 0, 3, 0, 0, 0] 1 rfl hs) rfl (rr_tmp rfl) (rr_tmp rfl) ⟨r35_p1, r35_c2, r35_b4, rfl, rfl⟩


def F.disk_Disk_Flush.l1 (q32 : Int × disk_sector) (l33 : List disk_sector) (l37 : List (Int × disk_sector)) : Option ((List disk_sector) × (List (Int × disk_sector))) :=
  Option.bind (at_ l33 q32.1) (fun (y41 : disk_sector) => some ((l33.set q32.1.toNat q32.2, mdel l37 q32.1)))
def F.disk_Disk_Flush.x2 (l33 : List disk_sector) (l37 : List (Int × disk_sector)) : Option ((List disk_sector) × (List (Int × disk_sector))) :=
  some ((l33, l37))
theorem ord_F_disk_Disk_Flush_l1 (L : List (Int × disk_sector)) (s v : (List disk_sector) × (List (Int × disk_sector))) (hn : (L.map Prod.fst).Nodup) (h : mloop (fun q x => F.disk_Disk_Flush.l1 q x.1 x.2) L s = some v) : ∀ l, l.Perm L → ∃ w, mloop (fun q x => F.disk_Disk_Flush.l1 q x.1 x.2) l s = some w ∧ w = v := by
  refine fun l hl => ⟨v, ?_, rfl⟩
  rw [← h]
  refine (mloop_perm (D := fun a b => a.1 ≠ b.1) (fun _ _ h => h.symm) (fun a b s hab => ?_) hl.symm (map_fst_pair hn) s).symm
  obtain ⟨s, t⟩ := s
  dsimp only
  unfold F.disk_Disk_Flush.l1
  cases ha : at_ s a.1 with
  | none =>
    cases hb : at_ s b.1 with
    | none => rfl
    | some y => simp only [Option.bind_some, Option.bind_none, at_set_none ha]
  | some x =>
    cases hb : at_ s b.1 with
    | none => simp only [Option.bind_some, Option.bind_none, at_set_none hb]
    | some y =>
      obtain ⟨y2, hb2⟩ := at_set_some (i := a.1.toNat) (v := a.2) hb
      obtain ⟨x2, ha2⟩ := at_set_some (i := b.1.toNat) (v := b.2) ha
      simp only [Option.bind_some, ha2, hb2]
      have h1 := (at_some ha).1
      have h2 := (at_some hb).1
      rw [mdel_comm, List.set_comm _ _ (by omega)]
def F.disk_Disk_Flush.r3 (r24 : Int × disk_Disk) (l43 : List disk_sector) (l47 : List (Int × disk_sector)) : Option (Int × disk_Disk) :=
  some ((0, (⟨l43, l47, r24.2.off_, r24.2.armed_, r24.2.left_, r24.2.fall_, r24.2.acts_, r24.2.falls_⟩ : disk_Disk)))
def F.disk_Disk_Flush (m0 : disk_Disk) : Option (Int × disk_Disk) :=
  Option.bind (F.disk_Disk_why 0 m0) (fun (r21 : Int) => if r21 != 0 then (some ((r21, m0))) else (Option.bind (F.disk_Disk_act m0) (fun (r24 : Int × disk_Disk) => if r24.1 != 0 then (some ((r24.1, r24.2))) else (Option.bind (chk (r24.2.wait_.length ≤ 1000000) (Option.bind (mloop (fun q x => F.disk_Disk_Flush.l1 q x.1 x.2) r24.2.wait_ (r24.2.sure_, r24.2.wait_)) (fun x => F.disk_Disk_Flush.x2 x.1 x.2))) (fun x => F.disk_Disk_Flush.r3 r24 x.1 x.2)))))
set_option maxRecDepth 100000 in
set_option maxHeartbeats 4000000 in
theorem c_disk_Disk_Flush (I : Hl) (m0 : disk_Disk) (p0 : Option Addr) (c0 : Nat) (p1 : Nat) (b0 : Nat) (res : Int × disk_Disk) (hF : F.disk_Disk_Flush m0 = some res) : Tr Tryz.prog 48 [.pointer (some ⟨b0, 0, none⟩)] [imm I, pt b0 #[.slice p0 m0.sure_.length c0, .map (some p1), .bool m0.off_, .bool m0.armed_, .int .i64 m0.left_, .int .u64 m0.fall_.Keep, .int .i64 m0.fall_.Tear, .int .i64 m0.acts_, .int .i64 m0.falls_] 65, own e_disk_sector 86 p0 c0 m0.sure_, mpo (kInt .i64) (fun x : disk_sector => Value.agg #[.string x.s_, .int .i64 x.at_]) p1 m0.wait_] (fun r H' => ∃ (pq1 : Option Addr), ∃ (cq2 : Nat), ∃ (bq4 : Nat), r = .int .i64 res.1 ∧ H' = [imm I, pt b0 #[.slice pq1 res.2.sure_.length cq2, .map (some bq4), .bool res.2.off_, .bool res.2.armed_, .int .i64 res.2.left_, .int .u64 res.2.fall_.Keep, .int .i64 res.2.fall_.Tear, .int .i64 res.2.acts_, .int .i64 res.2.falls_] 65, own e_disk_sector 86 pq1 cq2 res.2.sure_, mpo (kInt .i64) (fun x : disk_sector => Value.agg #[.string x.s_, .int .i64 x.at_]) bq4 res.2.wait_]) := by
  unfold F.disk_Disk_Flush at hF
  refine tr_of_cw (fn := Tryz.f48) Tryz.func48 rfl (Nat.le_of_ble_eq_true rfl) 39 rfl fun F0 w0 => ?_
  refine cw_keep [0] (L' := [(0, .pointer (some ⟨b0, 0, none⟩))]) rfl ?_
  refine cw_state (S' := SAT w0 ([imm I, pt b0 #[.slice p0 m0.sure_.length c0, .map (some p1), .bool m0.off_, .bool m0.armed_, .int .i64 m0.left_, .int .u64 m0.fall_.Keep, .int .i64 m0.fall_.Tear, .int .i64 m0.acts_, .int .i64 m0.falls_] 65, own e_disk_sector 86 p0 c0 m0.sure_, mpo (kInt .i64) (fun x : disk_sector => Value.agg #[.string x.s_, .int .i64 x.at_]) p1 m0.wait_] ++ F0)) (fun w hs => hs) ?_
  refine cw_seq ?_
  refine cw_region ?_
  refine ow_vals 1 (j := 1) [0] [(0, .pointer (some ⟨b0, 0, none⟩))] rfl (by kernel_rfl) ?_
  refine ow_end rfl ?_
  refine ew_then ?_
  refine cw_seq ?_
  refine cw_seq ?_
  refine cw_region ?_
  refine ow_vals 1 (j := 1) [0, 7] [(0, .pointer (some ⟨b0, 0, none⟩)), (7, .pointer (some ⟨b0, 0, none⟩))] rfl (by kernel_rfl) ?_
  obtain ⟨r21, h22, hF⟩ := bind_some hF
  refine ow_pw rfl (pw_call (F := [] ++ F0) rfl rfl rfl rfl rfl rfl rfl (by kernel_rfl) (perm_of_pulls [0, 0, 0, 0] rfl) (c_disk_Disk_why _ 0 m0 p0 c0 p1 b0 r21 h22) ?_)
  rintro _ _ ⟨rfl, rfl⟩
  refine nw_H (H' := [imm I, pt b0 #[.slice p0 m0.sure_.length c0, .map (some p1), .bool m0.off_, .bool m0.armed_, .int .i64 m0.left_, .int .u64 m0.fall_.Keep, .int .i64 m0.fall_.Tear, .int .i64 m0.acts_, .int .i64 m0.falls_] 65, own e_disk_sector 86 p0 c0 m0.sure_, mpo (kInt .i64) (fun x : disk_sector => Value.agg #[.string x.s_, .int .i64 x.at_]) p1 m0.wait_] ++ F0) rfl (nw_ow ?_)
  refine ow_vals 1 (j := 3) [0, 3] [(0, .pointer (some ⟨b0, 0, none⟩)), (3, .int .i64 r21)] rfl (by kernel_rfl) ?_
  refine ow_end rfl ?_
  refine ew_then ?_
  refine cw_seq ?_
  refine cw_region ?_
  refine ow_vals 2 (j := 2) [0, 3, 10] [(0, .pointer (some ⟨b0, 0, none⟩)), (3, .int .i64 r21), (10, .bool (r21 != 0))] rfl (by kernel_rfl) ?_
  refine ow_end rfl ?_
  refine ew_then ?_
  rcases if_some hF with ⟨h23, hF⟩ | ⟨h23, hF⟩
  · refine cw_cond_t rfl rfl h23 ?_
    refine cw_seq ?_
    refine cw_region ?_
    refine ow_vals 2 (j := 2) [2] [(2, .int .i64 r21)] rfl (by kernel_rfl) ?_
    refine ow_end rfl ?_
    refine ew_then ?_
    refine cw_ret ?_
    refine ew_then_ret ?_
    have hR := Option.some.inj hF
    subst hR
    exact fin1 (H1 := [imm I, pt b0 #[.slice p0 m0.sure_.length c0, .map (some p1), .bool m0.off_, .bool m0.armed_, .int .i64 m0.left_, .int .u64 m0.fall_.Keep, .int .i64 m0.fall_.Tear, .int .i64 m0.acts_, .int .i64 m0.falls_] 65, own e_disk_sector 86 p0 c0 m0.sure_, mpo (kInt .i64) (fun x : disk_sector => Value.agg #[.string x.s_, .int .i64 x.at_]) p1 m0.wait_]) (fun w hs => sat_to [0, 0, 0, 0] 0 rfl hs) rfl (rr_tmp rfl) ⟨p0, c0, p1, rfl, rfl⟩
  refine cw_cond_f rfl rfl h23 ?_
  refine cw_skip ?_
  refine ew_then ?_
  refine cw_seq ?_
  refine cw_seq ?_
  refine cw_region ?_
  refine ow_vals 1 (j := 1) [0, 12] [(0, .pointer (some ⟨b0, 0, none⟩)), (12, .pointer (some ⟨b0, 0, none⟩))] rfl (by kernel_rfl) ?_
  obtain ⟨r24, h25, hF⟩ := bind_some hF
  refine ow_pw rfl (pw_call (F := [] ++ F0) rfl rfl rfl rfl rfl rfl rfl (by kernel_rfl) (perm_of_pulls [0, 0, 0, 0] rfl) (c_disk_Disk_act _ m0 p0 c0 p1 b0 r24 h25) ?_)
  rintro _ _ ⟨r24_p1, r24_c2, r24_b4, rfl, rfl⟩
  refine nw_H (H' := [imm I, pt b0 #[.slice r24_p1 r24.2.sure_.length r24_c2, .map (some r24_b4), .bool r24.2.off_, .bool r24.2.armed_, .int .i64 r24.2.left_, .int .u64 r24.2.fall_.Keep, .int .i64 r24.2.fall_.Tear, .int .i64 r24.2.acts_, .int .i64 r24.2.falls_] 65, own e_disk_sector 86 r24_p1 r24_c2 r24.2.sure_, mpo (kInt .i64) (fun x : disk_sector => Value.agg #[.string x.s_, .int .i64 x.at_]) r24_b4 r24.2.wait_] ++ F0) rfl (nw_ow ?_)
  refine ow_vals 1 (j := 3) [0, 4] [(0, .pointer (some ⟨b0, 0, none⟩)), (4, .int .i64 r24.1)] rfl (by kernel_rfl) ?_
  refine ow_end rfl ?_
  refine ew_then ?_
  refine cw_seq ?_
  refine cw_region ?_
  refine ow_vals 2 (j := 2) [0, 4, 15] [(0, .pointer (some ⟨b0, 0, none⟩)), (4, .int .i64 r24.1), (15, .bool (r24.1 != 0))] rfl (by kernel_rfl) ?_
  refine ow_end rfl ?_
  refine ew_then ?_
  rcases if_some hF with ⟨h28, hF⟩ | ⟨h28, hF⟩
  · refine cw_cond_t rfl rfl h28 ?_
    refine cw_seq ?_
    refine cw_region ?_
    refine ow_vals 2 (j := 2) [2] [(2, .int .i64 r24.1)] rfl (by kernel_rfl) ?_
    refine ow_end rfl ?_
    refine ew_then ?_
    refine cw_ret ?_
    refine ew_then_ret ?_
    have hR := Option.some.inj hF
    subst hR
    exact fin1 (H1 := [imm I, pt b0 #[.slice r24_p1 r24.2.sure_.length r24_c2, .map (some r24_b4), .bool r24.2.off_, .bool r24.2.armed_, .int .i64 r24.2.left_, .int .u64 r24.2.fall_.Keep, .int .i64 r24.2.fall_.Tear, .int .i64 r24.2.acts_, .int .i64 r24.2.falls_] 65, own e_disk_sector 86 r24_p1 r24_c2 r24.2.sure_, mpo (kInt .i64) (fun x : disk_sector => Value.agg #[.string x.s_, .int .i64 x.at_]) r24_b4 r24.2.wait_]) (fun w hs => sat_to [0, 0, 0, 0] 0 rfl hs) rfl (rr_tmp rfl) ⟨r24_p1, r24_c2, r24_b4, rfl, rfl⟩
  refine cw_cond_f rfl rfl h28 ?_
  refine cw_skip ?_
  refine ew_then ?_
  obtain ⟨v29, hF, hK29⟩ := bind_some hF
  refine cw_mid (fun a w => ∃ (l43 : List disk_sector), ∃ (l47 : List (Int × disk_sector)), ∃ (p44 : Option Addr), ∃ (c45 : Nat), (l43, l47) = v29 ∧ Fr 39 [] a ∧ SAT w0 ([imm I, pt b0 #[.slice p44 l43.length c45, .map (some r24_b4), .bool r24.2.off_, .bool r24.2.armed_, .int .i64 r24.2.left_, .int .u64 r24.2.fall_.Keep, .int .i64 r24.2.fall_.Tear, .int .i64 r24.2.acts_, .int .i64 r24.2.falls_] 65, own e_disk_sector 86 p44 c45 l43, mpo (kInt .i64) (fun x : disk_sector => Value.agg #[.string x.s_, .int .i64 x.at_]) r24_b4 l47] ++ F0) w) ?_ ?_
  · refine cw_seq ?_
    refine cw_region ?_
    refine ow_vals 3 (j := 3) [0, 19] [(0, .pointer (some ⟨b0, 0, none⟩)), (19, .pointer (some ⟨b0, 1, none⟩))] rfl (by kernel_rfl) ?_
    refine ow_pw rfl (pw_quiet (v := .map (some r24_b4)) rfl rfl rfl rfl (q_load 1 rfl rfl rfl (by kernel_rfl)) (nw_ow ?_))
    refine ow_pw rfl (pw_range 3 rfl rfl rfl rfl rfl rfl rfl rfl fun b30 => nw_H (H' := [imm I, pt b0 #[.slice r24_p1 r24.2.sure_.length r24_c2, .map (some r24_b4), .bool r24.2.off_, .bool r24.2.armed_, .int .i64 r24.2.left_, .int .u64 r24.2.fall_.Keep, .int .i64 r24.2.fall_.Tear, .int .i64 r24.2.acts_, .int .i64 r24.2.falls_] 65, own e_disk_sector 86 r24_p1 r24_c2 r24.2.sure_, mrg (kInt .i64) (fun x : disk_sector => Value.agg #[.string x.s_, .int .i64 x.at_]) r24_b4 b30 r24.2.wait_ r24.2.wait_ none] ++ F0) rfl (nw_ow ?_))
    refine ow_end rfl ?_
    refine ew_then ?_
    refine cw_block ?_
    obtain ⟨h31, hF⟩ := chk_some hF
    obtain ⟨v32, hv32, hX32⟩ := bind_some hF
    clear hF
    refine fun a w hf hs => ?_
    have hn32 := mrg_keys (k := 3) rfl hs
    have ho32 := ord_F_disk_Disk_Flush_l1 r24.2.wait_ (r24.2.sure_, r24.2.wait_) _ hn32 hv32
    refine wp_rounds (fun k a w => ∃ (l33 : List disk_sector), ∃ (l37 : List (Int × disk_sector)), ∃ (p34 : Option Addr), ∃ (c35 : Nat), ∃ (dn32 : List (Int × disk_sector)), ∃ (lt32 : List (Int × disk_sector)), (dn32 ++ lt32).Perm r24.2.wait_ ∧ mloop (fun q x => F.disk_Disk_Flush.l1 q x.1 x.2) dn32 (r24.2.sure_, r24.2.wait_) = some (l33, l37) ∧ lt32.length < k ∧ Fr 39 [(0, .pointer (some ⟨b0, 0, none⟩)), (21, .pointer (some ⟨b30, 0, none⟩))] a ∧ SAT w0 ([imm I, pt b0 #[.slice p34 l33.length c35, .map (some r24_b4), .bool r24.2.off_, .bool r24.2.armed_, .int .i64 r24.2.left_, .int .u64 r24.2.fall_.Keep, .int .i64 r24.2.fall_.Tear, .int .i64 r24.2.acts_, .int .i64 r24.2.falls_] 65, own e_disk_sector 86 p34 c35 l33, mrg (kInt .i64) (fun x : disk_sector => Value.agg #[.string x.s_, .int .i64 x.at_]) r24_b4 b30 l37 lt32 none] ++ F0) w) ?_ FUEL a w ⟨r24.2.sure_, r24.2.wait_, r24_p1, r24_c2, [], r24.2.wait_, List.Perm.refl _, rfl, (by rw [FUEL_eq]; omega), hf.keep [0, 21], sat_to [0, 0, 0, 0] 0 rfl hs⟩
    clear hf hs
    clear a w
    rintro k a w ⟨l33, l37, p34, c35, dn32, lt32, hP32, hD32, hk32, hf, hs⟩
    revert a w
    show CW _ _ _ 39 [(0, .pointer (some ⟨b0, 0, none⟩)), (21, .pointer (some ⟨b30, 0, none⟩))] (SAT w0 ([imm I, pt b0 #[.slice p34 l33.length c35, .map (some r24_b4), .bool r24.2.off_, .bool r24.2.armed_, .int .i64 r24.2.left_, .int .u64 r24.2.fall_.Keep, .int .i64 r24.2.fall_.Tear, .int .i64 r24.2.acts_, .int .i64 r24.2.falls_] 65, own e_disk_sector 86 p34 c35 l33, mrg (kInt .i64) (fun x : disk_sector => Value.agg #[.string x.s_, .int .i64 x.at_]) r24_b4 b30 l37 lt32 none] ++ F0))
    refine cw_seq ?_
    refine cw_region ?_
    refine ow_pw rfl (pw_next 3 rfl rfl rfl rfl rfl rfl rfl (fun h032 => nw_ow ?_) (fun q32 lf32 hq32 => nw_H (H' := [imm I, pt b0 #[.slice p34 l33.length c35, .map (some r24_b4), .bool r24.2.off_, .bool r24.2.armed_, .int .i64 r24.2.left_, .int .u64 r24.2.fall_.Keep, .int .i64 r24.2.fall_.Tear, .int .i64 r24.2.acts_, .int .i64 r24.2.falls_] 65, own e_disk_sector 86 p34 c35 l33, mrg (kInt .i64) (fun x : disk_sector => Value.agg #[.string x.s_, .int .i64 x.at_]) r24_b4 b30 l37 lf32 (some q32)] ++ F0) rfl (nw_ow ?_)))
    · obtain ⟨w32, hv32, hR32⟩ := ho32 dn32 (by rw [h032, List.append_nil] at hP32; exact hP32)
      rw [hD32] at hv32
      obtain rfl := Option.some.inj hv32
      subst hR32
      have hF := hX32
      try dsimp only at hF
      unfold F.disk_Disk_Flush.x2 at hF
      refine ow_state (S' := SAT w0 ([imm I, pt b0 #[.slice p34 l33.length c35, .map (some r24_b4), .bool r24.2.off_, .bool r24.2.armed_, .int .i64 r24.2.left_, .int .u64 r24.2.fall_.Keep, .int .i64 r24.2.fall_.Tear, .int .i64 r24.2.acts_, .int .i64 r24.2.falls_] 65, own e_disk_sector 86 p34 c35 l33, mpo (kInt .i64) (fun x : disk_sector => Value.agg #[.string x.s_, .int .i64 x.at_]) r24_b4 l37] ++ F0)) (fun w hs => sat_mrg_end (k := 3) rfl hs) ?_
      refine ow_vals 1 (j := 2) [0, 21, 23] [(0, .pointer (some ⟨b0, 0, none⟩)), (21, .pointer (some ⟨b30, 0, none⟩)), (23, .bool false)] rfl (by kernel_rfl) ?_
      refine ow_end rfl ?_
      refine ew_then ?_
      refine cw_seq ?_
      refine cw_cond_f rfl rfl rfl ?_
      refine cw_exit ?_
      refine ew_then_exit ?_
      refine ew_then_exit ?_
      refine ew_blk_exit ?_
      have hR := Option.some.inj hF
      exact fun a w hf hs => ⟨l33, l37, p34, c35, hR, hf.keep [], sat_to [0, 0, 0, 0] 0 rfl hs⟩
    obtain ⟨u32, hu32⟩ := mloop_step (fun l' h => (ho32 l' h).imp fun _ h => h.1) hD32 ((hq32.append_left dn32).symm.trans hP32)
    have hF := hu32
    try dsimp only at hF
    unfold F.disk_Disk_Flush.l1 at hF
    refine ow_vals 1 (j := 2) [0, 21, 23] [(0, .pointer (some ⟨b0, 0, none⟩)), (21, .pointer (some ⟨b30, 0, none⟩)), (23, .bool true)] rfl (by kernel_rfl) ?_
    refine ow_end rfl ?_
    refine ew_then ?_
    refine cw_seq ?_
    refine cw_cond_t rfl rfl rfl ?_
    refine cw_skip ?_
    refine ew_then ?_
    refine cw_block ?_
    refine cw_seq ?_
    refine cw_region ?_
    refine ow_pw rfl (pw_quiet (v := .tuple #[.int .i64 q32.1, .agg #[.string q32.2.s_, .int .i64 q32.2.at_]]) rfl rfl rfl rfl (q_entry (kf := (kInt .i64)) (vf := (fun x : disk_sector => Value.agg #[.string x.s_, .int .i64 x.at_])) (p := q32) 3 rfl rfl rfl) (nw_ow ?_))
    refine ow_vals 2 (j := 3) [0, 21, 25, 26] [(0, .pointer (some ⟨b0, 0, none⟩)), (21, .pointer (some ⟨b30, 0, none⟩)), (25, .int .i64 q32.1), (26, .agg #[.string q32.2.s_, .int .i64 q32.2.at_])] rfl (by kernel_rfl) ?_
    refine ow_pw rfl (pw_alloc (cs := #[.string (ByteArray.mk #[]), .int .i64 0]) rfl rfl rfl rfl rfl (by kernel_rfl) fun b39 => nw_ow ?_)
    refine ow_vals 1 (j := 5) [0, 5, 6, 21, 26] [(0, .pointer (some ⟨b0, 0, none⟩)), (5, .int .i64 q32.1), (6, .pointer (some ⟨b39, 0, none⟩)), (21, .pointer (some ⟨b30, 0, none⟩)), (26, .agg #[.string q32.2.s_, .int .i64 q32.2.at_])] rfl (by kernel_rfl) ?_
    refine ow_pw rfl (pw_store 0 #[.string q32.2.s_, .int .i64 q32.2.at_] rfl rfl rfl rfl rfl rfl rfl (by kernel_rfl) (nw_H (H' := [pt b39 #[.string q32.2.s_, .int .i64 q32.2.at_] 86, imm I, pt b0 #[.slice p34 l33.length c35, .map (some r24_b4), .bool r24.2.off_, .bool r24.2.armed_, .int .i64 r24.2.left_, .int .u64 r24.2.fall_.Keep, .int .i64 r24.2.fall_.Tear, .int .i64 r24.2.acts_, .int .i64 r24.2.falls_] 65, own e_disk_sector 86 p34 c35 l33, mrg (kInt .i64) (fun x : disk_sector => Value.agg #[.string x.s_, .int .i64 x.at_]) r24_b4 b30 l37 lf32 (some q32)] ++ F0) rfl (nw_ow ?_)))
    refine ow_end rfl ?_
    refine ew_then ?_
    refine cw_seq ?_
    refine cw_open 7 (SAT w0 ([pt b39 #[.string q32.2.s_, .int .i64 q32.2.at_] 86, imm I, pt b0 #[.slice p34 l33.length c35, .map (some r24_b4), .bool r24.2.off_, .bool r24.2.armed_, .int .i64 r24.2.left_, .int .u64 r24.2.fall_.Keep, .int .i64 r24.2.fall_.Tear, .int .i64 r24.2.acts_, .int .i64 r24.2.falls_] 65, own e_disk_sector 86 p34 c35 l33, mrg (kInt .i64) (fun x : disk_sector => Value.agg #[.string x.s_, .int .i64 x.at_]) r24_b4 b30 l37 lf32 (some q32)])) (by kernel_rfl) (f := 8) rfl (fun w hs => sat_drew hs) ?_
    refine aw_vals [0, 1, 2, 4] (f' := 4) (m' := 23) [0, 5, 6, 21, 29, 31] [(0, .pointer (some ⟨b0, 0, none⟩)), (5, .int .i64 q32.1), (6, .pointer (some ⟨b39, 0, none⟩)), (21, .pointer (some ⟨b30, 0, none⟩)), (29, .pointer (some ⟨b0, 0, none⟩)), (31, .int .i64 q32.1)] (fun _ _ _ _ _ h => calm_fin (P := Tryz.prog) (fn := Tryz.f48) _ _ _ _ _ h) (fun w hs => sat_pulls [0, 0, 0, 0, 0] (G := [] ++ F0) rfl hs) rfl (by kernel_rfl) ?_
    refine aw_quiet 3 (m' := 31) (v := .slice p34 l33.length c35) 3 [] rfl rfl rfl rfl (by kernel_rfl) (by kernel_rfl) (by kernel_rfl) (fun _ _ _ _ _ h => calm_fin (P := Tryz.prog) (fn := Tryz.f48) _ _ _ _ _ h) (fun w hs => sat_pulls [0, 0, 0, 0, 0] (G := [] ++ F0) rfl hs) (q_load 2 rfl rfl rfl (by kernel_rfl)) ?_
    refine aw_quiet 5 (m' := 63) (v := .agg #[.string q32.2.s_, .int .i64 q32.2.at_]) 5 [] rfl rfl rfl rfl (by kernel_rfl) (by kernel_rfl) (by kernel_rfl) (fun _ _ _ _ _ h => calm_fin (P := Tryz.prog) (fn := Tryz.f48) _ _ _ _ _ h) (fun w hs => sat_pulls [0, 0, 0, 0, 0] (G := [] ++ F0) rfl hs) (q_load 0 rfl rfl rfl (by kernel_rfl)) ?_
    obtain ⟨y41, h42, hF⟩ := bind_some hF
    refine aw_quiet 6 (m' := 127) (v := .pointer (some ((base p34).add (q32.1.toNat * 2)))) 6 [] rfl rfl rfl rfl (by kernel_rfl) (by kernel_rfl) (by kernel_rfl) (fun _ _ _ _ _ h => calm_fin (P := Tryz.prog) (fn := Tryz.f48) _ _ _ _ _ h) (fun w hs => sat_pulls [0, 0, 0, 0, 0] (G := [] ++ F0) rfl hs) (q_index_own 3 2 rfl rfl (by kernel_rfl) rfl rfl (at_some h42).1 (at_lt h42)) ?_
    refine aw_only 7 (m' := 255) (by kernel_rfl) (by kernel_rfl) (pw_store_own 3 2 (z' := q32.2) (off := 0) rfl rfl rfl rfl rfl rfl rfl rfl (at_some h42).2 (by kernel_rfl) (nw_H (H' := [pt b39 #[.string q32.2.s_, .int .i64 q32.2.at_] 86, imm I, pt b0 #[.slice p34 (l33.set q32.1.toNat q32.2).length c35, .map (some r24_b4), .bool r24.2.off_, .bool r24.2.armed_, .int .i64 r24.2.left_, .int .u64 r24.2.fall_.Keep, .int .i64 r24.2.fall_.Tear, .int .i64 r24.2.acts_, .int .i64 r24.2.falls_] 65, own e_disk_sector 86 p34 c35 (l33.set q32.1.toNat q32.2), mrg (kInt .i64) (fun x : disk_sector => Value.agg #[.string x.s_, .int .i64 x.at_]) r24_b4 b30 l37 lf32 (some q32)] ++ F0) (by first | rfl | (simp only [List.length_set]; rfl)) (aw_last (by kernel_rfl) ?_)))
    refine aw_slots (L' := [(33, .pointer (some ((base p34).add (q32.1.toNat * 2)))), (32, .agg #[.string q32.2.s_, .int .i64 q32.2.at_]), (30, .slice p34 (l33.set q32.1.toNat q32.2).length c35), (0, .pointer (some ⟨b0, 0, none⟩)), (5, .int .i64 q32.1), (6, .pointer (some ⟨b39, 0, none⟩)), (21, .pointer (some ⟨b30, 0, none⟩)), (29, .pointer (some ⟨b0, 0, none⟩)), (31, .int .i64 q32.1)]) (by first | rfl | (simp only [List.length_set]; rfl)) ?_
    refine aw_keep [0, 5, 21] (L' := [(0, .pointer (some ⟨b0, 0, none⟩)), (5, .int .i64 q32.1), (21, .pointer (some ⟨b30, 0, none⟩))]) rfl ?_
    refine aw_end (by kernel_rfl) ?_
    refine ew_then ?_
    refine cw_region ?_
    refine ow_vals 3 (j := 3) [0, 5, 21, 36] [(0, .pointer (some ⟨b0, 0, none⟩)), (5, .int .i64 q32.1), (21, .pointer (some ⟨b30, 0, none⟩)), (36, .pointer (some ⟨b0, 1, none⟩))] rfl (by kernel_rfl) ?_
    refine ow_pw rfl (pw_quiet (v := .map (some r24_b4)) rfl rfl rfl rfl (q_load 2 rfl rfl rfl (by kernel_rfl)) (nw_ow ?_))
    refine ow_vals 1 (j := 5) [0, 21, 37, 38] [(0, .pointer (some ⟨b0, 0, none⟩)), (21, .pointer (some ⟨b30, 0, none⟩)), (37, .map (some r24_b4)), (38, .int .i64 q32.1)] rfl (by kernel_rfl) ?_
    refine ow_pw rfl (pw_mapDel_cur 4 (p := q32) (mkey_int (by kernel_rfl)) rfl rfl rfl rfl rfl rfl rfl rfl rfl (nw_H (H' := [pt b39 #[.string q32.2.s_, .int .i64 q32.2.at_] 86, imm I, pt b0 #[.slice p34 (l33.set q32.1.toNat q32.2).length c35, .map (some r24_b4), .bool r24.2.off_, .bool r24.2.armed_, .int .i64 r24.2.left_, .int .u64 r24.2.fall_.Keep, .int .i64 r24.2.fall_.Tear, .int .i64 r24.2.acts_, .int .i64 r24.2.falls_] 65, own e_disk_sector 86 p34 c35 (l33.set q32.1.toNat q32.2), mrg (kInt .i64) (fun x : disk_sector => Value.agg #[.string x.s_, .int .i64 x.at_]) r24_b4 b30 (mdel l37 q32.1) lf32 none] ++ F0) rfl (nw_ow ?_)))
    refine ow_end rfl ?_
    refine ew_blk ?_
    have hR := Option.some.inj hF
    subst hR
    exact fun a w hf hs => ⟨lt32.length, hk32, l33.set q32.1.toNat q32.2, mdel l37 q32.1, p34, c35, dn32 ++ [q32], lf32, (by rw [List.append_assoc]; exact (hq32.append_left dn32).symm.trans hP32), mloop_snoc hD32 hu32, (by rw [hq32.length_eq]; exact Nat.lt_succ_self _), hf.keep [0, 21], sat_to [0, 0, 0, 0, 0] 1 rfl (sat_mrg_none (k := 4) rfl hs)⟩
  rintro a w ⟨l43, l47, p44, c45, hv, hf, hs⟩
  subst hv
  replace hF := hK29
  clear hK29
  try dsimp only at hF
  revert a w
  show CW _ _ _ 39 [] (SAT w0 ([imm I, pt b0 #[.slice p44 l43.length c45, .map (some r24_b4), .bool r24.2.off_, .bool r24.2.armed_, .int .i64 r24.2.left_, .int .u64 r24.2.fall_.Keep, .int .i64 r24.2.fall_.Tear, .int .i64 r24.2.acts_, .int .i64 r24.2.falls_] 65, own e_disk_sector 86 p44 c45 l43, mpo (kInt .i64) (fun x : disk_sector => Value.agg #[.string x.s_, .int .i64 x.at_]) r24_b4 l47] ++ F0))
  unfold F.disk_Disk_Flush.r3 at hF
  refine cw_seq ?_
  refine cw_region ?_
  refine ow_vals 1 (j := 1) [2] [(2, .int .i64 0)] rfl (by kernel_rfl) ?_
  refine ow_end rfl ?_
  refine ew_then ?_
  refine cw_ret ?_
  have hR := Option.some.inj hF
  subst hR
  exact fin1 (H1 := [imm I, pt b0 #[.slice p44 ((⟨l43, l47, r24.2.off_, r24.2.armed_, r24.2.left_, r24.2.fall_, r24.2.acts_, r24.2.falls_⟩ : disk_Disk).sure_).length c45, .map (some r24_b4), .bool ((⟨l43, l47, r24.2.off_, r24.2.armed_, r24.2.left_, r24.2.fall_, r24.2.acts_, r24.2.falls_⟩ : disk_Disk).off_), .bool ((⟨l43, l47, r24.2.off_, r24.2.armed_, r24.2.left_, r24.2.fall_, r24.2.acts_, r24.2.falls_⟩ : disk_Disk).armed_), .int .i64 ((⟨l43, l47, r24.2.off_, r24.2.armed_, r24.2.left_, r24.2.fall_, r24.2.acts_, r24.2.falls_⟩ : disk_Disk).left_), .int .u64 (((⟨l43, l47, r24.2.off_, r24.2.armed_, r24.2.left_, r24.2.fall_, r24.2.acts_, r24.2.falls_⟩ : disk_Disk).fall_).Keep), .int .i64 (((⟨l43, l47, r24.2.off_, r24.2.armed_, r24.2.left_, r24.2.fall_, r24.2.acts_, r24.2.falls_⟩ : disk_Disk).fall_).Tear), .int .i64 ((⟨l43, l47, r24.2.off_, r24.2.armed_, r24.2.left_, r24.2.fall_, r24.2.acts_, r24.2.falls_⟩ : disk_Disk).acts_), .int .i64 ((⟨l43, l47, r24.2.off_, r24.2.armed_, r24.2.left_, r24.2.fall_, r24.2.acts_, r24.2.falls_⟩ : disk_Disk).falls_)] 65, own e_disk_sector 86 p44 c45 ((⟨l43, l47, r24.2.off_, r24.2.armed_, r24.2.left_, r24.2.fall_, r24.2.acts_, r24.2.falls_⟩ : disk_Disk).sure_), mpo (kInt .i64) (fun x : disk_sector => Value.agg #[.string x.s_, .int .i64 x.at_]) r24_b4 ((⟨l43, l47, r24.2.off_, r24.2.armed_, r24.2.left_, r24.2.fall_, r24.2.acts_, r24.2.falls_⟩ : disk_Disk).wait_)]) (fun w hs => sat_to [0, 0, 0, 0] 0 rfl hs) rfl (rr_tmp rfl) ⟨p44, c45, r24_b4, rfl, rfl⟩


def F.guard_Guard_Flush (m0 : guard_Guard) (m1 : disk_Disk) : Option (Int × disk_Disk) :=
  Option.bind (F.guard_Guard_none m0 m1) (fun (r21 : Unit) => Option.bind (F.disk_Disk_Flush m1) (fun (r23 : Int × disk_Disk) => some ((r23.1, r23.2))))
set_option maxRecDepth 100000 in
set_option maxHeartbeats 4000000 in
theorem c_guard_Guard_Flush (I : Hl) (m0 : guard_Guard) (m1 : disk_Disk) (b0 : Nat) (p0 : Option Addr) (c0 : Nat) (p1 : Nat) (b1 : Nat) (res : Int × disk_Disk) (hF : F.guard_Guard_Flush m0 m1 = some res) : Tr Tryz.prog 26 [.pointer (some ⟨b0, 0, none⟩)] [imm I, pt b0 #[.pointer (some ⟨b1, 0, none⟩), .int .i64 m0.boot_, .int .i64 m0.n_] 76, pt b1 #[.slice p0 m1.sure_.length c0, .map (some p1), .bool m1.off_, .bool m1.armed_, .int .i64 m1.left_, .int .u64 m1.fall_.Keep, .int .i64 m1.fall_.Tear, .int .i64 m1.acts_, .int .i64 m1.falls_] 65, own e_disk_sector 86 p0 c0 m1.sure_, mpo (kInt .i64) (fun x : disk_sector => Value.agg #[.string x.s_, .int .i64 x.at_]) p1 m1.wait_] (fun r H' => ∃ (pq1 : Option Addr), ∃ (cq2 : Nat), ∃ (bq4 : Nat), r = .int .i64 res.1 ∧ H' = [imm I, pt b0 #[.pointer (some ⟨b1, 0, none⟩), .int .i64 m0.boot_, .int .i64 m0.n_] 76, pt b1 #[.slice pq1 res.2.sure_.length cq2, .map (some bq4), .bool res.2.off_, .bool res.2.armed_, .int .i64 res.2.left_, .int .u64 res.2.fall_.Keep, .int .i64 res.2.fall_.Tear, .int .i64 res.2.acts_, .int .i64 res.2.falls_] 65, own e_disk_sector 86 pq1 cq2 res.2.sure_, mpo (kInt .i64) (fun x : disk_sector => Value.agg #[.string x.s_, .int .i64 x.at_]) bq4 res.2.wait_]) := by
  unfold F.guard_Guard_Flush at hF
  refine tr_of_cw (fn := Tryz.f26) Tryz.func26 rfl (Nat.le_of_ble_eq_true rfl) 10 rfl fun F0 w0 => ?_
  refine cw_keep [0] (L' := [(0, .pointer (some ⟨b0, 0, none⟩))]) rfl ?_
  refine cw_state (S' := SAT w0 ([imm I, pt b0 #[.pointer (some ⟨b1, 0, none⟩), .int .i64 m0.boot_, .int .i64 m0.n_] 76, pt b1 #[.slice p0 m1.sure_.length c0, .map (some p1), .bool m1.off_, .bool m1.armed_, .int .i64 m1.left_, .int .u64 m1.fall_.Keep, .int .i64 m1.fall_.Tear, .int .i64 m1.acts_, .int .i64 m1.falls_] 65, own e_disk_sector 86 p0 c0 m1.sure_, mpo (kInt .i64) (fun x : disk_sector => Value.agg #[.string x.s_, .int .i64 x.at_]) p1 m1.wait_] ++ F0)) (fun w hs => hs) ?_
  refine cw_seq ?_
  refine cw_region ?_
  refine ow_vals 1 (j := 1) [0] [(0, .pointer (some ⟨b0, 0, none⟩))] rfl (by kernel_rfl) ?_
  refine ow_end rfl ?_
  refine ew_then ?_
  refine cw_seq ?_
  refine cw_seq ?_
  refine cw_region ?_
  refine ow_vals 1 (j := 1) [0, 3] [(0, .pointer (some ⟨b0, 0, none⟩)), (3, .pointer (some ⟨b0, 0, none⟩))] rfl (by kernel_rfl) ?_
  obtain ⟨r21, h22, hF⟩ := bind_some hF
  refine ow_pw rfl (pw_call (F := [] ++ F0) rfl rfl rfl rfl rfl rfl rfl (by kernel_rfl) (perm_of_pulls [0, 0, 0, 0, 0] rfl) (c_guard_Guard_none _ m0 m1 b0 p0 c0 p1 b1 r21 h22) ?_)
  rintro _ _ ⟨rfl, rfl⟩
  refine nw_H (H' := [imm I, pt b0 #[.pointer (some ⟨b1, 0, none⟩), .int .i64 m0.boot_, .int .i64 m0.n_] 76, pt b1 #[.slice p0 m1.sure_.length c0, .map (some p1), .bool m1.off_, .bool m1.armed_, .int .i64 m1.left_, .int .u64 m1.fall_.Keep, .int .i64 m1.fall_.Tear, .int .i64 m1.acts_, .int .i64 m1.falls_] 65, own e_disk_sector 86 p0 c0 m1.sure_, mpo (kInt .i64) (fun x : disk_sector => Value.agg #[.string x.s_, .int .i64 x.at_]) p1 m1.wait_] ++ F0) rfl (nw_ow ?_)
  refine ow_end rfl ?_
  refine ew_then ?_
  refine cw_cond_f rfl rfl rfl ?_
  refine cw_skip ?_
  refine ew_then ?_
  refine cw_seq ?_
  refine cw_region ?_
  refine ow_vals 3 (j := 3) [7] [(7, .pointer (some ⟨b0, 0, none⟩))] rfl (by kernel_rfl) ?_
  refine ow_pw rfl (pw_quiet (v := .pointer (some ⟨b1, 0, none⟩)) rfl rfl rfl rfl (q_load 1 rfl rfl rfl (by kernel_rfl)) (nw_ow ?_))
  obtain ⟨r23, h24, hF⟩ := bind_some hF
  refine ow_pw rfl (pw_call (F := [pt b0 #[.pointer (some ⟨b1, 0, none⟩), .int .i64 m0.boot_, .int .i64 m0.n_] 76] ++ F0) rfl rfl rfl rfl rfl rfl rfl (by kernel_rfl) (perm_of_pulls [0, 1, 1, 1] rfl) (c_disk_Disk_Flush _ m1 p0 c0 p1 b1 r23 h24) ?_)
  rintro _ _ ⟨r23_p1, r23_c2, r23_b4, rfl, rfl⟩
  refine nw_H (H' := [imm I, pt b1 #[.slice r23_p1 r23.2.sure_.length r23_c2, .map (some r23_b4), .bool r23.2.off_, .bool r23.2.armed_, .int .i64 r23.2.left_, .int .u64 r23.2.fall_.Keep, .int .i64 r23.2.fall_.Tear, .int .i64 r23.2.acts_, .int .i64 r23.2.falls_] 65, own e_disk_sector 86 r23_p1 r23_c2 r23.2.sure_, mpo (kInt .i64) (fun x : disk_sector => Value.agg #[.string x.s_, .int .i64 x.at_]) r23_b4 r23.2.wait_, pt b0 #[.pointer (some ⟨b1, 0, none⟩), .int .i64 m0.boot_, .int .i64 m0.n_] 76] ++ F0) rfl (nw_ow ?_)
  refine ow_vals 1 (j := 6) [2] [(2, .int .i64 r23.1)] rfl (by kernel_rfl) ?_
  refine ow_end rfl ?_
  refine ew_then ?_
  refine cw_ret ?_
  have hR := Option.some.inj hF
  subst hR
  exact fin1 (H1 := [imm I, pt b0 #[.pointer (some ⟨b1, 0, none⟩), .int .i64 m0.boot_, .int .i64 m0.n_] 76, pt b1 #[.slice r23_p1 r23.2.sure_.length r23_c2, .map (some r23_b4), .bool r23.2.off_, .bool r23.2.armed_, .int .i64 r23.2.left_, .int .u64 r23.2.fall_.Keep, .int .i64 r23.2.fall_.Tear, .int .i64 r23.2.acts_, .int .i64 r23.2.falls_] 65, own e_disk_sector 86 r23_p1 r23_c2 r23.2.sure_, mpo (kInt .i64) (fun x : disk_sector => Value.agg #[.string x.s_, .int .i64 x.at_]) r23_b4 r23.2.wait_]) (fun w hs => sat_to [0, 3, 0, 0, 0] 0 rfl hs) rfl (rr_tmp rfl) ⟨r23_p1, r23_c2, r23_b4, rfl, rfl⟩


def F.super_Save (x1 : super_Super) (m0 : guard_Guard) (m1 : disk_Disk) : Option (Int × guard_Guard × disk_Disk) :=
  Option.bind (F.super_Right x1) (fun (r23 : Bool) => if !r23 then (some ((1, m0, m1))) else (Option.bind (F.super_Super_bytes x1) (fun (r26 : ByteArray × Bool) => Option.bind (F.guard_Guard_Put (x1.Gen.tmod 2) r26.1 m0 m1) (fun (r28 : Int × Int × guard_Guard × disk_Disk) => if r28.2.1 != 0 then (some ((r28.2.1, r28.2.2.1, r28.2.2.2))) else (Option.bind (F.guard_Guard_Flush r28.2.2.1 r28.2.2.2) (fun (r33 : Int × disk_Disk) => some ((r33.1, r28.2.2.1, r33.2))))))))
set_option maxRecDepth 100000 in
set_option maxHeartbeats 4000000 in
theorem c_super_Save (I : Hl) (x1 : super_Super) (m0 : guard_Guard) (m1 : disk_Disk) (b0 : Nat) (p0 : Option Addr) (c0 : Nat) (p1 : Nat) (b1 : Nat) (res : Int × guard_Guard × disk_Disk) (hF : F.super_Save x1 m0 m1 = some res) : Tr Tryz.prog 9 [.pointer (some ⟨b0, 0, none⟩), .agg #[.int .i64 x1.Gen, .int .i64 x1.Boot, .int .i64 x1.Side, .int .i64 x1.Seed]] [imm I, pt b0 #[.pointer (some ⟨b1, 0, none⟩), .int .i64 m0.boot_, .int .i64 m0.n_] 76, pt b1 #[.slice p0 m1.sure_.length c0, .map (some p1), .bool m1.off_, .bool m1.armed_, .int .i64 m1.left_, .int .u64 m1.fall_.Keep, .int .i64 m1.fall_.Tear, .int .i64 m1.acts_, .int .i64 m1.falls_] 65, own e_disk_sector 86 p0 c0 m1.sure_, mpo (kInt .i64) (fun x : disk_sector => Value.agg #[.string x.s_, .int .i64 x.at_]) p1 m1.wait_] (fun r H' => ∃ (pq1 : Option Addr), ∃ (cq2 : Nat), ∃ (bq4 : Nat), r = .int .i64 res.1 ∧ H' = [imm I, pt b0 #[.pointer (some ⟨b1, 0, none⟩), .int .i64 res.2.1.boot_, .int .i64 res.2.1.n_] 76, pt b1 #[.slice pq1 res.2.2.sure_.length cq2, .map (some bq4), .bool res.2.2.off_, .bool res.2.2.armed_, .int .i64 res.2.2.left_, .int .u64 res.2.2.fall_.Keep, .int .i64 res.2.2.fall_.Tear, .int .i64 res.2.2.acts_, .int .i64 res.2.2.falls_] 65, own e_disk_sector 86 pq1 cq2 res.2.2.sure_, mpo (kInt .i64) (fun x : disk_sector => Value.agg #[.string x.s_, .int .i64 x.at_]) bq4 res.2.2.wait_]) := by
  unfold F.super_Save at hF
  refine tr_of_cw (fn := Tryz.f9) Tryz.func9 rfl (Nat.le_of_ble_eq_true rfl) 31 rfl fun F0 w0 => ?_
  refine cw_keep [0, 1] (L' := [(0, .pointer (some ⟨b0, 0, none⟩)), (1, .agg #[.int .i64 x1.Gen, .int .i64 x1.Boot, .int .i64 x1.Side, .int .i64 x1.Seed])]) rfl ?_
  refine cw_state (S' := SAT w0 ([imm I, pt b0 #[.pointer (some ⟨b1, 0, none⟩), .int .i64 m0.boot_, .int .i64 m0.n_] 76, pt b1 #[.slice p0 m1.sure_.length c0, .map (some p1), .bool m1.off_, .bool m1.armed_, .int .i64 m1.left_, .int .u64 m1.fall_.Keep, .int .i64 m1.fall_.Tear, .int .i64 m1.acts_, .int .i64 m1.falls_] 65, own e_disk_sector 86 p0 c0 m1.sure_, mpo (kInt .i64) (fun x : disk_sector => Value.agg #[.string x.s_, .int .i64 x.at_]) p1 m1.wait_] ++ F0)) (fun w hs => hs) ?_
  refine cw_seq ?_
  refine cw_region ?_
  refine ow_pw rfl (pw_box (cs := #[.int .i64 x1.Gen, .int .i64 x1.Boot, .int .i64 x1.Side, .int .i64 x1.Seed]) rfl rfl rfl rfl rfl rfl fun b21 => nw_ow ?_)
  refine ow_vals 1 (j := 2) [0, 3] [(0, .pointer (some ⟨b0, 0, none⟩)), (3, .pointer (some ⟨b21, 0, none⟩))] rfl (by kernel_rfl) ?_
  refine ow_end rfl ?_
  refine ew_then ?_
  refine cw_seq ?_
  refine cw_seq ?_
  refine cw_region ?_
  refine ow_pw rfl (pw_quiet (v := .agg #[.int .i64 x1.Gen, .int .i64 x1.Boot, .int .i64 x1.Side, .int .i64 x1.Seed]) rfl rfl rfl rfl (q_load 0 rfl rfl rfl (by kernel_rfl)) (nw_ow ?_))
  obtain ⟨r23, h24, hF⟩ := bind_some hF
  refine ow_pw rfl (pw_call (F := [pt b21 #[.int .i64 x1.Gen, .int .i64 x1.Boot, .int .i64 x1.Side, .int .i64 x1.Seed] 23, pt b0 #[.pointer (some ⟨b1, 0, none⟩), .int .i64 m0.boot_, .int .i64 m0.n_] 76, pt b1 #[.slice p0 m1.sure_.length c0, .map (some p1), .bool m1.off_, .bool m1.armed_, .int .i64 m1.left_, .int .u64 m1.fall_.Keep, .int .i64 m1.fall_.Tear, .int .i64 m1.acts_, .int .i64 m1.falls_] 65, own e_disk_sector 86 p0 c0 m1.sure_, mpo (kInt .i64) (fun x : disk_sector => Value.agg #[.string x.s_, .int .i64 x.at_]) p1 m1.wait_] ++ F0) rfl rfl rfl rfl rfl rfl rfl (by kernel_rfl) (perm_of_pulls [1] rfl) (c_super_Right _ x1 r23 h24) ?_)
  rintro _ _ ⟨rfl, rfl⟩
  refine nw_H (H' := [imm I, pt b21 #[.int .i64 x1.Gen, .int .i64 x1.Boot, .int .i64 x1.Side, .int .i64 x1.Seed] 23, pt b0 #[.pointer (some ⟨b1, 0, none⟩), .int .i64 m0.boot_, .int .i64 m0.n_] 76, pt b1 #[.slice p0 m1.sure_.length c0, .map (some p1), .bool m1.off_, .bool m1.armed_, .int .i64 m1.left_, .int .u64 m1.fall_.Keep, .int .i64 m1.fall_.Tear, .int .i64 m1.acts_, .int .i64 m1.falls_] 65, own e_disk_sector 86 p0 c0 m1.sure_, mpo (kInt .i64) (fun x : disk_sector => Value.agg #[.string x.s_, .int .i64 x.at_]) p1 m1.wait_] ++ F0) rfl (nw_ow ?_)
  refine ow_vals 1 (j := 3) [0, 3, 11] [(0, .pointer (some ⟨b0, 0, none⟩)), (3, .pointer (some ⟨b21, 0, none⟩)), (11, .bool (!r23))] rfl (by kernel_rfl) ?_
  refine ow_end rfl ?_
  refine ew_then ?_
  rcases if_some hF with ⟨h25, hF⟩ | ⟨h25, hF⟩
  · refine cw_cond_t rfl rfl h25 ?_
    refine cw_seq ?_
    refine cw_region ?_
    refine ow_vals 1 (j := 1) [4] [(4, .int .i64 1)] rfl (by kernel_rfl) ?_
    refine ow_end rfl ?_
    refine ew_then ?_
    refine cw_ret ?_
    refine ew_then_ret ?_
    have hR := Option.some.inj hF
    subst hR
    exact fin1 (H1 := [imm I, pt b0 #[.pointer (some ⟨b1, 0, none⟩), .int .i64 m0.boot_, .int .i64 m0.n_] 76, pt b1 #[.slice p0 m1.sure_.length c0, .map (some p1), .bool m1.off_, .bool m1.armed_, .int .i64 m1.left_, .int .u64 m1.fall_.Keep, .int .i64 m1.fall_.Tear, .int .i64 m1.acts_, .int .i64 m1.falls_] 65, own e_disk_sector 86 p0 c0 m1.sure_, mpo (kInt .i64) (fun x : disk_sector => Value.agg #[.string x.s_, .int .i64 x.at_]) p1 m1.wait_]) (fun w hs => sat_to [1, 0, 0, 0, 0, 0] 1 rfl hs) rfl (rr_tmp rfl) ⟨p0, c0, p1, rfl, rfl⟩
  refine cw_cond_f rfl rfl h25 ?_
  refine cw_skip ?_
  refine ew_then ?_
  refine cw_seq ?_
  refine cw_region ?_
  refine ow_pw rfl (pw_quiet (v := .agg #[.int .i64 x1.Gen, .int .i64 x1.Boot, .int .i64 x1.Side, .int .i64 x1.Seed]) rfl rfl rfl rfl (q_load 1 rfl rfl rfl (by kernel_rfl)) (nw_ow ?_))
  obtain ⟨r26, h27, hF⟩ := bind_some hF
  refine ow_pw rfl (pw_call (F := [pt b21 #[.int .i64 x1.Gen, .int .i64 x1.Boot, .int .i64 x1.Side, .int .i64 x1.Seed] 23, pt b0 #[.pointer (some ⟨b1, 0, none⟩), .int .i64 m0.boot_, .int .i64 m0.n_] 76, pt b1 #[.slice p0 m1.sure_.length c0, .map (some p1), .bool m1.off_, .bool m1.armed_, .int .i64 m1.left_, .int .u64 m1.fall_.Keep, .int .i64 m1.fall_.Tear, .int .i64 m1.acts_, .int .i64 m1.falls_] 65, own e_disk_sector 86 p0 c0 m1.sure_, mpo (kInt .i64) (fun x : disk_sector => Value.agg #[.string x.s_, .int .i64 x.at_]) p1 m1.wait_] ++ F0) rfl rfl rfl rfl rfl rfl rfl (by kernel_rfl) (perm_of_pulls [0] rfl) (c_super_Super_bytes _ x1 r26 h27) ?_)
  rintro _ _ ⟨rfl, rfl⟩
  refine nw_H (H' := [imm I, pt b21 #[.int .i64 x1.Gen, .int .i64 x1.Boot, .int .i64 x1.Side, .int .i64 x1.Seed] 23, pt b0 #[.pointer (some ⟨b1, 0, none⟩), .int .i64 m0.boot_, .int .i64 m0.n_] 76, pt b1 #[.slice p0 m1.sure_.length c0, .map (some p1), .bool m1.off_, .bool m1.armed_, .int .i64 m1.left_, .int .u64 m1.fall_.Keep, .int .i64 m1.fall_.Tear, .int .i64 m1.acts_, .int .i64 m1.falls_] 65, own e_disk_sector 86 p0 c0 m1.sure_, mpo (kInt .i64) (fun x : disk_sector => Value.agg #[.string x.s_, .int .i64 x.at_]) p1 m1.wait_] ++ F0) rfl (nw_ow ?_)
  refine ow_vals 5 (j := 7) [0, 3, 5] [(0, .pointer (some ⟨b0, 0, none⟩)), (3, .pointer (some ⟨b21, 0, none⟩)), (5, .string r26.1)] rfl (by kernel_rfl) ?_
  refine ow_end rfl ?_
  refine ew_then ?_
  refine cw_seq ?_
  refine cw_seq ?_
  refine cw_region ?_
  refine ow_vals 2 (j := 2) [0, 5, 18, 19] [(0, .pointer (some ⟨b0, 0, none⟩)), (5, .string r26.1), (18, .pointer (some ⟨b0, 0, none⟩)), (19, .pointer (some ⟨b21, 0, none⟩))] rfl (by kernel_rfl) ?_
  refine ow_pw rfl (pw_quiet (v := .int .i64 x1.Gen) rfl rfl rfl rfl (q_load 1 rfl rfl rfl (by kernel_rfl)) (nw_ow ?_))
  refine ow_vals 2 (j := 5) [0, 18, 21, 22] [(0, .pointer (some ⟨b0, 0, none⟩)), (18, .pointer (some ⟨b0, 0, none⟩)), (21, .int .i64 (x1.Gen.tmod 2)), (22, .string r26.1)] rfl (by kernel_rfl) ?_
  obtain ⟨r28, h29, hF⟩ := bind_some hF
  refine ow_pw rfl (pw_call (F := [pt b21 #[.int .i64 x1.Gen, .int .i64 x1.Boot, .int .i64 x1.Side, .int .i64 x1.Seed] 23] ++ F0) rfl rfl rfl rfl rfl rfl rfl (by kernel_rfl) (perm_of_pulls [0, 1, 1, 1, 1] rfl) (c_guard_Guard_Put _ (x1.Gen.tmod 2) r26.1 m0 m1 b0 p0 c0 p1 b1 r28 h29) ?_)
  rintro _ _ ⟨r28_p1, r28_c2, r28_b4, rfl, rfl⟩
  refine nw_H (H' := [imm I, pt b0 #[.pointer (some ⟨b1, 0, none⟩), .int .i64 r28.2.2.1.boot_, .int .i64 r28.2.2.1.n_] 76, pt b1 #[.slice r28_p1 r28.2.2.2.sure_.length r28_c2, .map (some r28_b4), .bool r28.2.2.2.off_, .bool r28.2.2.2.armed_, .int .i64 r28.2.2.2.left_, .int .u64 r28.2.2.2.fall_.Keep, .int .i64 r28.2.2.2.fall_.Tear, .int .i64 r28.2.2.2.acts_, .int .i64 r28.2.2.2.falls_] 65, own e_disk_sector 86 r28_p1 r28_c2 r28.2.2.2.sure_, mpo (kInt .i64) (fun x : disk_sector => Value.agg #[.string x.s_, .int .i64 x.at_]) r28_b4 r28.2.2.2.wait_, pt b21 #[.int .i64 x1.Gen, .int .i64 x1.Boot, .int .i64 x1.Side, .int .i64 x1.Seed] 23] ++ F0) rfl (nw_ow ?_)
  refine ow_vals 5 (j := 11) [0, 8] [(0, .pointer (some ⟨b0, 0, none⟩)), (8, .int .i64 r28.2.1)] rfl (by kernel_rfl) ?_
  refine ow_end rfl ?_
  refine ew_then ?_
  refine cw_seq ?_
  refine cw_region ?_
  refine ow_vals 2 (j := 2) [0, 8, 27] [(0, .pointer (some ⟨b0, 0, none⟩)), (8, .int .i64 r28.2.1), (27, .bool (r28.2.1 != 0))] rfl (by kernel_rfl) ?_
  refine ow_end rfl ?_
  refine ew_then ?_
  rcases if_some hF with ⟨h32, hF⟩ | ⟨h32, hF⟩
  · refine cw_cond_t rfl rfl h32 ?_
    refine cw_seq ?_
    refine cw_region ?_
    refine ow_vals 2 (j := 2) [4] [(4, .int .i64 r28.2.1)] rfl (by kernel_rfl) ?_
    refine ow_end rfl ?_
    refine ew_then ?_
    refine cw_ret ?_
    refine ew_then_ret ?_
    have hR := Option.some.inj hF
    subst hR
    exact fin1 (H1 := [imm I, pt b0 #[.pointer (some ⟨b1, 0, none⟩), .int .i64 r28.2.2.1.boot_, .int .i64 r28.2.2.1.n_] 76, pt b1 #[.slice r28_p1 r28.2.2.2.sure_.length r28_c2, .map (some r28_b4), .bool r28.2.2.2.off_, .bool r28.2.2.2.armed_, .int .i64 r28.2.2.2.left_, .int .u64 r28.2.2.2.fall_.Keep, .int .i64 r28.2.2.2.fall_.Tear, .int .i64 r28.2.2.2.acts_, .int .i64 r28.2.2.2.falls_] 65, own e_disk_sector 86 r28_p1 r28_c2 r28.2.2.2.sure_, mpo (kInt .i64) (fun x : disk_sector => Value.agg #[.string x.s_, .int .i64 x.at_]) r28_b4 r28.2.2.2.wait_]) (fun w hs => sat_to [5, 0, 0, 0, 0, 0] 1 rfl hs) rfl (rr_tmp rfl) ⟨r28_p1, r28_c2, r28_b4, rfl, rfl⟩
  refine cw_cond_f rfl rfl h32 ?_
  refine cw_skip ?_
  refine ew_then ?_
  refine cw_seq ?_
  refine cw_region ?_
  refine ow_vals 1 (j := 1) [29] [(29, .pointer (some ⟨b0, 0, none⟩))] rfl (by kernel_rfl) ?_
  obtain ⟨r33, h34, hF⟩ := bind_some hF
  refine ow_pw rfl (pw_call (F := [pt b21 #[.int .i64 x1.Gen, .int .i64 x1.Boot, .int .i64 x1.Side, .int .i64 x1.Seed] 23] ++ F0) rfl rfl rfl rfl rfl rfl rfl (by kernel_rfl) (perm_of_pulls [0, 0, 0, 0, 0] rfl) (c_guard_Guard_Flush _ r28.2.2.1 r28.2.2.2 b0 r28_p1 r28_c2 r28_b4 b1 r33 h34) ?_)
  rintro _ _ ⟨r33_p1, r33_c2, r33_b4, rfl, rfl⟩
  refine nw_H (H' := [imm I, pt b0 #[.pointer (some ⟨b1, 0, none⟩), .int .i64 r28.2.2.1.boot_, .int .i64 r28.2.2.1.n_] 76, pt b1 #[.slice r33_p1 r33.2.sure_.length r33_c2, .map (some r33_b4), .bool r33.2.off_, .bool r33.2.armed_, .int .i64 r33.2.left_, .int .u64 r33.2.fall_.Keep, .int .i64 r33.2.fall_.Tear, .int .i64 r33.2.acts_, .int .i64 r33.2.falls_] 65, own e_disk_sector 86 r33_p1 r33_c2 r33.2.sure_, mpo (kInt .i64) (fun x : disk_sector => Value.agg #[.string x.s_, .int .i64 x.at_]) r33_b4 r33.2.wait_, pt b21 #[.int .i64 x1.Gen, .int .i64 x1.Boot, .int .i64 x1.Side, .int .i64 x1.Seed] 23] ++ F0) rfl (nw_ow ?_)
  refine ow_vals 1 (j := 3) [4] [(4, .int .i64 r33.1)] rfl (by kernel_rfl) ?_
  refine ow_end rfl ?_
  refine ew_then ?_
  refine cw_ret ?_
  have hR := Option.some.inj hF
  subst hR
  exact fin1 (H1 := [imm I, pt b0 #[.pointer (some ⟨b1, 0, none⟩), .int .i64 r28.2.2.1.boot_, .int .i64 r28.2.2.1.n_] 76, pt b1 #[.slice r33_p1 r33.2.sure_.length r33_c2, .map (some r33_b4), .bool r33.2.off_, .bool r33.2.armed_, .int .i64 r33.2.left_, .int .u64 r33.2.fall_.Keep, .int .i64 r33.2.fall_.Tear, .int .i64 r33.2.acts_, .int .i64 r33.2.falls_] 65, own e_disk_sector 86 r33_p1 r33_c2 r33.2.sure_, mpo (kInt .i64) (fun x : disk_sector => Value.agg #[.string x.s_, .int .i64 x.at_]) r33_b4 r33.2.wait_]) (fun w hs => sat_to [5, 0, 0, 0, 0, 0] 1 rfl hs) rfl (rr_tmp rfl) ⟨r33_p1, r33_c2, r33_b4, rfl, rfl⟩


def F.disk_Disk_Read (x1 : Int) (m0 : disk_Disk) : Option (ByteArray × Int) :=
  Option.bind (F.disk_Disk_why x1 m0) (fun (r21 : Int) => if r21 != 0 then (some (((ByteArray.mk #[]), r21))) else (if mhas m0.wait_ x1 then (some (((mgetD m0.wait_ x1 (⟨(ByteArray.mk #[]), 0⟩ : disk_sector)).s_, 0))) else (Option.bind (at_ m0.sure_ x1) (fun (y27 : disk_sector) => some ((y27.s_, 0))))))
set_option maxRecDepth 100000 in
set_option maxHeartbeats 4000000 in
theorem c_disk_Disk_Read (I : Hl) (x1 : Int) (m0 : disk_Disk) (p0 : Option Addr) (c0 : Nat) (p1 : Nat) (b0 : Nat) (res : ByteArray × Int) (hF : F.disk_Disk_Read x1 m0 = some res) : Tr Tryz.prog 29 [.pointer (some ⟨b0, 0, none⟩), .int .i64 x1] [imm I, pt b0 #[.slice p0 m0.sure_.length c0, .map (some p1), .bool m0.off_, .bool m0.armed_, .int .i64 m0.left_, .int .u64 m0.fall_.Keep, .int .i64 m0.fall_.Tear, .int .i64 m0.acts_, .int .i64 m0.falls_] 65, own e_disk_sector 86 p0 c0 m0.sure_, mpo (kInt .i64) (fun x : disk_sector => Value.agg #[.string x.s_, .int .i64 x.at_]) p1 m0.wait_] (fun r H' => r = .tuple #[.string res.1, .int .i64 res.2] ∧ H' = [imm I, pt b0 #[.slice p0 m0.sure_.length c0, .map (some p1), .bool m0.off_, .bool m0.armed_, .int .i64 m0.left_, .int .u64 m0.fall_.Keep, .int .i64 m0.fall_.Tear, .int .i64 m0.acts_, .int .i64 m0.falls_] 65, own e_disk_sector 86 p0 c0 m0.sure_, mpo (kInt .i64) (fun x : disk_sector => Value.agg #[.string x.s_, .int .i64 x.at_]) p1 m0.wait_]) := by
  unfold F.disk_Disk_Read at hF
  refine tr_of_cw (fn := Tryz.f29) Tryz.func29 rfl (Nat.le_of_ble_eq_true rfl) 35 rfl fun F0 w0 => ?_
  refine cw_keep [0, 1] (L' := [(0, .pointer (some ⟨b0, 0, none⟩)), (1, .int .i64 x1)]) rfl ?_
  refine cw_state (S' := SAT w0 ([imm I, pt b0 #[.slice p0 m0.sure_.length c0, .map (some p1), .bool m0.off_, .bool m0.armed_, .int .i64 m0.left_, .int .u64 m0.fall_.Keep, .int .i64 m0.fall_.Tear, .int .i64 m0.acts_, .int .i64 m0.falls_] 65, own e_disk_sector 86 p0 c0 m0.sure_, mpo (kInt .i64) (fun x : disk_sector => Value.agg #[.string x.s_, .int .i64 x.at_]) p1 m0.wait_] ++ F0)) (fun w hs => hs) ?_
  refine cw_seq ?_
  refine cw_region ?_
  refine ow_vals 2 (j := 2) [0, 1] [(0, .pointer (some ⟨b0, 0, none⟩)), (1, .int .i64 x1)] rfl (by kernel_rfl) ?_
  refine ow_end rfl ?_
  refine ew_then ?_
  refine cw_seq ?_
  refine cw_seq ?_
  refine cw_region ?_
  refine ow_vals 2 (j := 2) [0, 1, 9, 10] [(0, .pointer (some ⟨b0, 0, none⟩)), (1, .int .i64 x1), (9, .pointer (some ⟨b0, 0, none⟩)), (10, .int .i64 x1)] rfl (by kernel_rfl) ?_
  obtain ⟨r21, h22, hF⟩ := bind_some hF
  refine ow_pw rfl (pw_call (F := [] ++ F0) rfl rfl rfl rfl rfl rfl rfl (by kernel_rfl) (perm_of_pulls [0, 0, 0, 0] rfl) (c_disk_Disk_why _ x1 m0 p0 c0 p1 b0 r21 h22) ?_)
  rintro _ _ ⟨rfl, rfl⟩
  refine nw_H (H' := [imm I, pt b0 #[.slice p0 m0.sure_.length c0, .map (some p1), .bool m0.off_, .bool m0.armed_, .int .i64 m0.left_, .int .u64 m0.fall_.Keep, .int .i64 m0.fall_.Tear, .int .i64 m0.acts_, .int .i64 m0.falls_] 65, own e_disk_sector 86 p0 c0 m0.sure_, mpo (kInt .i64) (fun x : disk_sector => Value.agg #[.string x.s_, .int .i64 x.at_]) p1 m0.wait_] ++ F0) rfl (nw_ow ?_)
  refine ow_vals 1 (j := 4) [0, 1, 6] [(0, .pointer (some ⟨b0, 0, none⟩)), (1, .int .i64 x1), (6, .int .i64 r21)] rfl (by kernel_rfl) ?_
  refine ow_end rfl ?_
  refine ew_then ?_
  refine cw_seq ?_
  refine cw_region ?_
  refine ow_vals 2 (j := 2) [0, 1, 6, 13] [(0, .pointer (some ⟨b0, 0, none⟩)), (1, .int .i64 x1), (6, .int .i64 r21), (13, .bool (r21 != 0))] rfl (by kernel_rfl) ?_
  refine ow_end rfl ?_
  refine ew_then ?_
  rcases if_some hF with ⟨h23, hF⟩ | ⟨h23, hF⟩
  · refine cw_cond_t rfl rfl h23 ?_
    refine cw_seq ?_
    refine cw_region ?_
    refine ow_vals 3 (j := 3) [4, 5] [(4, .string (ByteArray.mk #[])), (5, .int .i64 r21)] rfl (by kernel_rfl) ?_
    refine ow_end rfl ?_
    refine ew_then ?_
    refine cw_ret ?_
    refine ew_then_ret ?_
    have hR := Option.some.inj hF
    subst hR
    exact fin2 (H1 := [imm I, pt b0 #[.slice p0 m0.sure_.length c0, .map (some p1), .bool m0.off_, .bool m0.armed_, .int .i64 m0.left_, .int .u64 m0.fall_.Keep, .int .i64 m0.fall_.Tear, .int .i64 m0.acts_, .int .i64 m0.falls_] 65, own e_disk_sector 86 p0 c0 m0.sure_, mpo (kInt .i64) (fun x : disk_sector => Value.agg #[.string x.s_, .int .i64 x.at_]) p1 m0.wait_]) (fun w hs => sat_to [0, 0, 0, 0] 0 rfl hs) rfl (rr_tmp rfl) (rr_tmp rfl) ⟨rfl, rfl⟩
  refine cw_cond_f rfl rfl h23 ?_
  refine cw_skip ?_
  refine ew_then ?_
  refine cw_seq ?_
  refine cw_seq ?_
  refine cw_region ?_
  refine ow_vals 3 (j := 3) [0, 1, 18] [(0, .pointer (some ⟨b0, 0, none⟩)), (1, .int .i64 x1), (18, .pointer (some ⟨b0, 1, none⟩))] rfl (by kernel_rfl) ?_
  refine ow_pw rfl (pw_quiet (v := .map (some p1)) rfl rfl rfl rfl (q_load 1 rfl rfl rfl (by kernel_rfl)) (nw_ow ?_))
  refine ow_vals 1 (j := 5) [0, 1, 19, 20] [(0, .pointer (some ⟨b0, 0, none⟩)), (1, .int .i64 x1), (19, .map (some p1)), (20, .int .i64 x1)] rfl (by kernel_rfl) ?_
  refine ow_pw rfl (pw_quiet (v := .tuple #[.agg #[.string ((mgetD m0.wait_ x1 (⟨(ByteArray.mk #[]), 0⟩ : disk_sector)).s_), .int .i64 ((mgetD m0.wait_ x1 (⟨(ByteArray.mk #[]), 0⟩ : disk_sector)).at_)], .bool (mhas m0.wait_ x1)]) rfl rfl rfl rfl (q_lookup2 (kf := (kInt .i64)) (vf := (fun x : disk_sector => Value.agg #[.string x.s_, .int .i64 x.at_])) (key := x1) 3 (⟨(ByteArray.mk #[]), 0⟩ : disk_sector) (mkey_int (by kernel_rfl)) rfl rfl rfl rfl rfl (by kernel_rfl)) (nw_ow ?_))
  refine ow_vals 3 (j := 9) [0, 1, 22, 23] [(0, .pointer (some ⟨b0, 0, none⟩)), (1, .int .i64 x1), (22, .agg #[.string ((mgetD m0.wait_ x1 (⟨(ByteArray.mk #[]), 0⟩ : disk_sector)).s_), .int .i64 ((mgetD m0.wait_ x1 (⟨(ByteArray.mk #[]), 0⟩ : disk_sector)).at_)]), (23, .bool (mhas m0.wait_ x1))] rfl (by kernel_rfl) ?_
  refine ow_pw rfl (pw_alloc (cs := #[.string (ByteArray.mk #[]), .int .i64 0]) rfl rfl rfl rfl rfl (by kernel_rfl) fun b24 => nw_ow ?_)
  refine ow_pw rfl (pw_store 0 #[.string ((mgetD m0.wait_ x1 (⟨(ByteArray.mk #[]), 0⟩ : disk_sector)).s_), .int .i64 ((mgetD m0.wait_ x1 (⟨(ByteArray.mk #[]), 0⟩ : disk_sector)).at_)] rfl rfl rfl rfl rfl rfl rfl (by kernel_rfl) (nw_H (H' := [pt b24 #[.string ((mgetD m0.wait_ x1 (⟨(ByteArray.mk #[]), 0⟩ : disk_sector)).s_), .int .i64 ((mgetD m0.wait_ x1 (⟨(ByteArray.mk #[]), 0⟩ : disk_sector)).at_)] 86, imm I, pt b0 #[.slice p0 m0.sure_.length c0, .map (some p1), .bool m0.off_, .bool m0.armed_, .int .i64 m0.left_, .int .u64 m0.fall_.Keep, .int .i64 m0.fall_.Tear, .int .i64 m0.acts_, .int .i64 m0.falls_] 65, own e_disk_sector 86 p0 c0 m0.sure_, mpo (kInt .i64) (fun x : disk_sector => Value.agg #[.string x.s_, .int .i64 x.at_]) p1 m0.wait_] ++ F0) rfl (nw_ow ?_)))
  refine ow_vals 1 (j := 12) [0, 1, 7, 8] [(0, .pointer (some ⟨b0, 0, none⟩)), (1, .int .i64 x1), (7, .pointer (some ⟨b24, 0, none⟩)), (8, .bool (mhas m0.wait_ x1))] rfl (by kernel_rfl) ?_
  refine ow_end rfl ?_
  refine ew_then ?_
  refine cw_seq ?_
  refine cw_region ?_
  refine ow_vals 1 (j := 1) [0, 1, 7, 24] [(0, .pointer (some ⟨b0, 0, none⟩)), (1, .int .i64 x1), (7, .pointer (some ⟨b24, 0, none⟩)), (24, .bool (mhas m0.wait_ x1))] rfl (by kernel_rfl) ?_
  refine ow_end rfl ?_
  refine ew_then ?_
  rcases if_some hF with ⟨h26, hF⟩ | ⟨h26, hF⟩
  · refine cw_cond_t rfl rfl h26 ?_
    refine cw_seq ?_
    refine cw_region ?_
    refine ow_vals 1 (j := 1) [25] [(25, .pointer (some ⟨b24, 0, none⟩))] rfl (by kernel_rfl) ?_
    refine ow_pw rfl (pw_quiet (v := .string ((mgetD m0.wait_ x1 (⟨(ByteArray.mk #[]), 0⟩ : disk_sector)).s_)) rfl rfl rfl rfl (q_load 0 rfl rfl rfl (by kernel_rfl)) (nw_ow ?_))
    refine ow_vals 2 (j := 4) [4, 5] [(4, .string ((mgetD m0.wait_ x1 (⟨(ByteArray.mk #[]), 0⟩ : disk_sector)).s_)), (5, .int .i64 0)] rfl (by kernel_rfl) ?_
    refine ow_end rfl ?_
    refine ew_then ?_
    refine cw_ret ?_
    refine ew_then_ret ?_
    have hR := Option.some.inj hF
    subst hR
    exact fin2 (H1 := [imm I, pt b0 #[.slice p0 m0.sure_.length c0, .map (some p1), .bool m0.off_, .bool m0.armed_, .int .i64 m0.left_, .int .u64 m0.fall_.Keep, .int .i64 m0.fall_.Tear, .int .i64 m0.acts_, .int .i64 m0.falls_] 65, own e_disk_sector 86 p0 c0 m0.sure_, mpo (kInt .i64) (fun x : disk_sector => Value.agg #[.string x.s_, .int .i64 x.at_]) p1 m0.wait_]) (fun w hs => sat_to [0, 0, 0, 0, 0] 1 rfl hs) rfl (rr_tmp rfl) (rr_tmp rfl) ⟨rfl, rfl⟩
  refine cw_cond_f rfl rfl h26 ?_
  refine cw_skip ?_
  refine ew_then ?_
  refine cw_seq ?_
  refine cw_region ?_
  refine ow_vals 3 (j := 3) [1, 29] [(1, .int .i64 x1), (29, .pointer (some ⟨b0, 0, none⟩))] rfl (by kernel_rfl) ?_
  refine ow_pw rfl (pw_quiet (v := .slice p0 m0.sure_.length c0) rfl rfl rfl rfl (q_load 2 rfl rfl rfl (by kernel_rfl)) (nw_ow ?_))
  refine ow_vals 1 (j := 5) [30, 31] [(30, .slice p0 m0.sure_.length c0), (31, .int .i64 x1)] rfl (by kernel_rfl) ?_
  obtain ⟨y27, h28, hF⟩ := bind_some hF
  refine ow_pw rfl (pw_quiet (v := .pointer (some ((base p0).add (x1.toNat * 2)))) rfl rfl rfl rfl (q_index_own 3 2 rfl rfl (by kernel_rfl) rfl rfl (at_some h28).1 (at_lt h28)) (nw_ow ?_))
  refine ow_vals 1 (j := 7) [33] [(33, .pointer (some (((base p0).add (x1.toNat * 2)).add 0)))] rfl (by kernel_rfl) ?_
  refine ow_pw rfl (pw_quiet (v := .string y27.s_) rfl rfl rfl rfl (q_load_own 3 2 rfl rfl rfl rfl (at_some h28).2 (by kernel_rfl)) (nw_ow ?_))
  refine ow_vals 2 (j := 10) [4, 5] [(4, .string y27.s_), (5, .int .i64 0)] rfl (by kernel_rfl) ?_
  refine ow_end rfl ?_
  refine ew_then ?_
  refine cw_ret ?_
  have hR := Option.some.inj hF
  subst hR
  exact fin2 (H1 := [imm I, pt b0 #[.slice p0 m0.sure_.length c0, .map (some p1), .bool m0.off_, .bool m0.armed_, .int .i64 m0.left_, .int .u64 m0.fall_.Keep, .int .i64 m0.fall_.Tear, .int .i64 m0.acts_, .int .i64 m0.falls_] 65, own e_disk_sector 86 p0 c0 m0.sure_, mpo (kInt .i64) (fun x : disk_sector => Value.agg #[.string x.s_, .int .i64 x.at_]) p1 m0.wait_]) (fun w hs => sat_to [0, 0, 0, 0, 0] 1 rfl hs) rfl (rr_tmp rfl) (rr_tmp rfl) ⟨rfl, rfl⟩


def F.guard_Number.l1 (x0 : ByteArray) (x27 : Int) (x28 : Int) : Option ((Int × Int) ⊕ (Int)) :=
  if decide (x28 < ((sbytes x0).length : Int)) then (Option.bind (at_ (sbytes x0) x28) (fun (y30 : Int) => some (.inl (ior .i64 (IntKind.i64.wrap (x27 * 2 ^ 8)) (IntKind.i64.wrap (y30)), IntKind.i64.wrap (x28 + 1))))) else (some (.inr (x27)))
def F.guard_Number.r2 (x32 : Int) : Option (Int) :=
  some (x32)
def F.guard_Number (x0 : ByteArray) : Option Int :=
  Option.bind (chk (x0.size ≤ maxLen) (iter (fun x => F.guard_Number.l1 x0 x.1 x.2) FUEL (0, 0))) (fun x => F.guard_Number.r2 x)
set_option maxRecDepth 100000 in
set_option maxHeartbeats 4000000 in
theorem c_guard_Number (I : Hl) (x0 : ByteArray) (res : Int) (hF : F.guard_Number x0 = some res) : Tr Tryz.prog 31 [.string x0] [imm I] (fun r H' => r = .int .i64 res ∧ H' = [imm I]) := by
  unfold F.guard_Number at hF
  refine tr_of_cw (fn := Tryz.f31) Tryz.func31 rfl (Nat.le_of_ble_eq_true rfl) 20 rfl fun F0 w0 => ?_
  refine cw_keep [0] (L' := [(0, .string x0)]) rfl ?_
  refine cw_state (S' := SAT w0 ([imm I] ++ F0)) (fun w hs => hs) ?_
  refine cw_seq ?_
  refine cw_region ?_
  refine ow_vals 1 (j := 1) [0] [(0, .string x0)] rfl (by kernel_rfl) ?_
  refine ow_end rfl ?_
  refine ew_then ?_
  refine cw_seq ?_
  refine cw_region ?_
  refine ow_vals 1 (j := 1) [0, 3] [(0, .string x0), (3, .int .i64 0)] rfl (by kernel_rfl) ?_
  refine ow_end rfl ?_
  refine ew_then ?_
  obtain ⟨v21, hF, hK21⟩ := bind_some hF
  refine cw_mid (fun a w => ∃ (x32 : Int), x32 = v21 ∧ Fr 20 [(3, .int .i64 x32)] a ∧ SAT w0 ([imm I] ++ F0) w) ?_ ?_
  · refine cw_seq ?_
    refine cw_region ?_
    refine ow_vals 1 (j := 1) [3, 6] [(3, .int .i64 0), (6, .string x0)] rfl (by kernel_rfl) ?_
    obtain ⟨h22, hF⟩ := chk_some hF
    refine ow_pw rfl (pw_str_bytes (E := 5) rfl rfl rfl rfl rfl (by kernel_rfl) (by kernel_rfl) (by kernel_rfl) rfl h22 fun p23 c24 => nw_ow ?_)
    refine ow_vals 2 (j := 4) [3, 7, 8, 9] [(3, .int .i64 0), (7, .slice p23 (sbytes x0).length c24), (8, .int .i64 ((sbytes x0).length : Int)), (9, .int .i64 0)] rfl (by kernel_rfl) ?_
    refine ow_end rfl ?_
    refine ew_then ?_
    refine cw_block ?_
    refine fun a w hf hs => wp_rounds (fun k a w => ∃ (x27 : Int), ∃ (x28 : Int), iter (fun x => F.guard_Number.l1 x0 x.1 x.2) k (x27, x28) = some v21 ∧ Fr 20 [(3, .int .i64 x27), (7, .slice p23 (sbytes x0).length c24), (8, .int .i64 ((sbytes x0).length : Int)), (9, .int .i64 x28)] a ∧ SAT w0 ([imm I, own (eInt .u8) 5 p23 c24 (sbytes x0)] ++ F0) w) ?_ FUEL a w ⟨0, 0, hF, hf.keep [3, 7, 8, 9], sat_to [1, 0] 0 rfl hs⟩
    clear hf hs
    clear a w hF
    rintro k a w ⟨x27, x28, hF2, hf, hs⟩
    obtain ⟨k, r26, rfl, hF, hL26⟩ := iter_some hF2
    clear hF2
    revert a w
    show CW _ _ _ 20 [(3, .int .i64 x27), (7, .slice p23 (sbytes x0).length c24), (8, .int .i64 ((sbytes x0).length : Int)), (9, .int .i64 x28)] (SAT w0 ([imm I, own (eInt .u8) 5 p23 c24 (sbytes x0)] ++ F0))
    try dsimp only at hF
    unfold F.guard_Number.l1 at hF
    refine cw_seq ?_
    refine cw_region ?_
    refine ow_vals 1 (j := 1) [3, 7, 8, 9, 10] [(3, .int .i64 x27), (7, .slice p23 (sbytes x0).length c24), (8, .int .i64 ((sbytes x0).length : Int)), (9, .int .i64 x28), (10, .bool (decide (x28 < ((sbytes x0).length : Int))))] rfl (by kernel_rfl) ?_
    refine ow_end rfl ?_
    refine ew_then ?_
    refine cw_seq ?_
    rcases if_some hF with ⟨h29, hF⟩ | ⟨h29, hF⟩
    · refine cw_cond_t rfl rfl h29 ?_
      refine cw_skip ?_
      refine ew_then ?_
      refine cw_seq ?_
      refine cw_block ?_
      refine cw_seq ?_
      refine cw_region ?_
      obtain ⟨y30, h31, hF⟩ := bind_some hF
      refine ow_pw rfl (pw_quiet (v := .pointer (some ((base p23).add (x28.toNat * 1)))) rfl rfl rfl rfl (q_index_own 1 1 rfl rfl (by kernel_rfl) rfl rfl (at_some h31).1 (at_lt h31)) (nw_ow ?_))
      refine ow_pw rfl (pw_quiet (v := .int .u8 y30) rfl rfl rfl rfl (q_load_own0 1 1 rfl rfl rfl rfl (at_some h31).2 (by kernel_rfl)) (nw_ow ?_))
      refine ow_vals 1 (j := 3) [3, 5, 7, 8, 9] [(3, .int .i64 x27), (5, .int .u8 y30), (7, .slice p23 (sbytes x0).length c24), (8, .int .i64 ((sbytes x0).length : Int)), (9, .int .i64 x28)] rfl (by kernel_rfl) ?_
      refine ow_end rfl ?_
      refine ew_then ?_
      refine cw_region ?_
      refine ow_vals 6 (j := 6) [3, 7, 8, 9] [(3, .int .i64 (ior .i64 (IntKind.i64.wrap (x27 * 2 ^ 8)) (IntKind.i64.wrap (y30)))), (7, .slice p23 (sbytes x0).length c24), (8, .int .i64 ((sbytes x0).length : Int)), (9, .int .i64 x28)] rfl (by kernel_rfl) ?_
      refine ow_end rfl ?_
      refine ew_blk ?_
      refine ew_then ?_
      refine cw_region ?_
      refine ow_vals 2 (j := 2) [3, 7, 8, 9] [(3, .int .i64 (ior .i64 (IntKind.i64.wrap (x27 * 2 ^ 8)) (IntKind.i64.wrap (y30)))), (7, .slice p23 (sbytes x0).length c24), (8, .int .i64 ((sbytes x0).length : Int)), (9, .int .i64 (IntKind.i64.wrap (x28 + 1)))] rfl (by kernel_rfl) ?_
      refine ow_end rfl ?_
      have hR := Option.some.inj hF
      subst hR
      have hR := hL26
      try dsimp only at hR
      exact fun a w hf hs => ⟨k, Nat.lt_succ_self k, ior .i64 (IntKind.i64.wrap (x27 * 2 ^ 8)) (IntKind.i64.wrap (y30)), IntKind.i64.wrap (x28 + 1), hR, hf.keep [3, 7, 8, 9], sat_to [0, 0] 0 rfl hs⟩
    refine cw_cond_f rfl rfl h29 ?_
    refine cw_exit ?_
    refine ew_then_exit ?_
    refine ew_then_exit ?_
    refine ew_blk_exit ?_
    have hR := Option.some.inj hF
    subst hR
    have hR := hL26
    try dsimp only at hR
    exact fun a w hf hs => ⟨x27, hR, hf.keep [3], sat_to [1, 0] 1 rfl hs⟩
  rintro a w ⟨x32, hv, hf, hs⟩
  subst hv
  replace hF := hK21
  clear hK21
  try dsimp only at hF
  revert a w
  show CW _ _ _ 20 [(3, .int .i64 x32)] (SAT w0 ([imm I] ++ F0))
  unfold F.guard_Number.r2 at hF
  refine cw_seq ?_
  refine cw_region ?_
  refine ow_vals 2 (j := 2) [2] [(2, .int .i64 x32)] rfl (by kernel_rfl) ?_
  refine ow_end rfl ?_
  refine ew_then ?_
  refine cw_ret ?_
  have hR := Option.some.inj hF
  subst hR
  exact fin1 (H1 := [imm I]) (fun w hs => sat_to [0] 0 rfl hs) rfl (rr_tmp rfl) ⟨rfl, rfl⟩


def F.strings_Trim (x0 : ByteArray) (x1 : ByteArray) : Option ByteArray :=
  chk (trimOk x0 x1) (some (trimB x0 x1))
theorem c_strings_Trim (I : Hl) (x0 : ByteArray) (x1 : ByteArray) (res : ByteArray) (hF : F.strings_Trim x0 x1 = some res) : Tr Tryz.prog 32 [.string x0, .string x1] [imm I] (fun r H' => r = .string res ∧ H' = [imm I]) := by
  unfold F.strings_Trim at hF
  obtain ⟨h, hF⟩ := chk_some hF
  obtain rfl := Option.some.inj hF
  exact tr_trim h fun c hc w => Tryz.strings_Trim_one x0 c hc w h.2.2


def F.guard_Read.r1 (r21 : ByteArray × Int) (r30 : Int) : Option (ByteArray × Int × Int) :=
  chk (0 ≤ (9 : Int) ∧ (9 : Int) ≤ (IntKind.i64.wrap (9 + (IntKind.i64.wrap (bt r21.1 8)))) ∧ (IntKind.i64.wrap (9 + (IntKind.i64.wrap (bt r21.1 8)))) ≤ (r21.1.size : Int)) (some ((r21.1.extract (9 : Int).toNat (IntKind.i64.wrap (9 + (IntKind.i64.wrap (bt r21.1 8)))).toNat, r30, 0)))
def F.guard_Read (x1 : Int) (m0 : disk_Disk) : Option (ByteArray × Int × Int) :=
  Option.bind (F.disk_Disk_Read x1 m0) (fun (r21 : ByteArray × Int) => if r21.2 != 0 then (some (((ByteArray.mk #[]), 0, r21.2))) else (Option.bind (F.strings_Repeat (ByteArray.mk #[0]) 64) (fun (r24 : ByteArray) => if seqB r21.1 r24 then (some (((ByteArray.mk #[]), 0, 7))) else (chk (0 ≤ (0 : Int) ∧ (0 : Int) ≤ (8 : Int) ∧ (8 : Int) ≤ (r21.1.size : Int)) (chk (0 ≤ (56 : Int) ∧ (56 : Int) ≤ (r21.1.size : Int) ∧ (r21.1.size : Int) ≤ (r21.1.size : Int)) (chk (0 ≤ (8 : Int) ∧ 8 < (r21.1.size : Int)) (Option.bind (F.guard_Number (r21.1.extract (0 : Int).toNat (8 : Int).toNat)) (fun (r30 : Int) => thru (if !(seqB (r21.1.extract (0 : Int).toNat (8 : Int).toNat) (r21.1.extract (56 : Int).toNat (r21.1.size : Int).toNat)) then (some (.inr (((ByteArray.mk #[]), 0, 17)))) else (if decide (r30 < 4294967296) then (some (.inr (((ByteArray.mk #[]), 0, 17)))) else (if decide ((IntKind.i64.wrap (bt r21.1 8)) > 47) then (some (.inr (((ByteArray.mk #[]), 0, 17)))) else (chk (0 ≤ (IntKind.i64.wrap (9 + (IntKind.i64.wrap (bt r21.1 8)))) ∧ (IntKind.i64.wrap (9 + (IntKind.i64.wrap (bt r21.1 8)))) ≤ (56 : Int) ∧ (56 : Int) ≤ (r21.1.size : Int)) (Option.bind (F.strings_Trim (r21.1.extract (IntKind.i64.wrap (9 + (IntKind.i64.wrap (bt r21.1 8)))).toNat (56 : Int).toNat) (ByteArray.mk #[0])) (fun (r37 : ByteArray) => if !(seqB r37 (ByteArray.mk #[])) then (some (.inr (((ByteArray.mk #[]), 0, 17)))) else (some (.inl ())))))))) (fun x => F.guard_Read.r1 r21 r30)))))))))
set_option maxRecDepth 100000 in
set_option maxHeartbeats 4000000 in
theorem c_guard_Read (I : Hl) (x1 : Int) (m0 : disk_Disk) (p0 : Option Addr) (c0 : Nat) (p1 : Nat) (b0 : Nat) (res : ByteArray × Int × Int) (hF : F.guard_Read x1 m0 = some res) : Tr Tryz.prog 12 [.pointer (some ⟨b0, 0, none⟩), .int .i64 x1] [imm I, pt b0 #[.slice p0 m0.sure_.length c0, .map (some p1), .bool m0.off_, .bool m0.armed_, .int .i64 m0.left_, .int .u64 m0.fall_.Keep, .int .i64 m0.fall_.Tear, .int .i64 m0.acts_, .int .i64 m0.falls_] 65, own e_disk_sector 86 p0 c0 m0.sure_, mpo (kInt .i64) (fun x : disk_sector => Value.agg #[.string x.s_, .int .i64 x.at_]) p1 m0.wait_] (fun r H' => r = .tuple #[.string res.1, .int .i64 res.2.1, .int .i64 res.2.2] ∧ H' = [imm I, pt b0 #[.slice p0 m0.sure_.length c0, .map (some p1), .bool m0.off_, .bool m0.armed_, .int .i64 m0.left_, .int .u64 m0.fall_.Keep, .int .i64 m0.fall_.Tear, .int .i64 m0.acts_, .int .i64 m0.falls_] 65, own e_disk_sector 86 p0 c0 m0.sure_, mpo (kInt .i64) (fun x : disk_sector => Value.agg #[.string x.s_, .int .i64 x.at_]) p1 m0.wait_]) := by
  unfold F.guard_Read at hF
  refine tr_of_cw (fn := Tryz.f12) Tryz.func12 rfl (Nat.le_of_ble_eq_true rfl) 58 rfl fun F0 w0 => ?_
  refine cw_keep [0, 1] (L' := [(0, .pointer (some ⟨b0, 0, none⟩)), (1, .int .i64 x1)]) rfl ?_
  refine cw_state (S' := SAT w0 ([imm I, pt b0 #[.slice p0 m0.sure_.length c0, .map (some p1), .bool m0.off_, .bool m0.armed_, .int .i64 m0.left_, .int .u64 m0.fall_.Keep, .int .i64 m0.fall_.Tear, .int .i64 m0.acts_, .int .i64 m0.falls_] 65, own e_disk_sector 86 p0 c0 m0.sure_, mpo (kInt .i64) (fun x : disk_sector => Value.agg #[.string x.s_, .int .i64 x.at_]) p1 m0.wait_] ++ F0)) (fun w hs => hs) ?_
  refine cw_seq ?_
  refine cw_region ?_
  refine ow_vals 3 (j := 3) [0, 1] [(0, .pointer (some ⟨b0, 0, none⟩)), (1, .int .i64 x1)] rfl (by kernel_rfl) ?_
  refine ow_end rfl ?_
  refine ew_then ?_
  refine cw_seq ?_
  refine cw_region ?_
  refine ow_vals 2 (j := 2) [14, 15] [(14, .pointer (some ⟨b0, 0, none⟩)), (15, .int .i64 x1)] rfl (by kernel_rfl) ?_
  obtain ⟨r21, h22, hF⟩ := bind_some hF
  refine ow_pw rfl (pw_call (F := [] ++ F0) rfl rfl rfl rfl rfl rfl rfl (by kernel_rfl) (perm_of_pulls [0, 0, 0, 0] rfl) (c_disk_Disk_Read _ x1 m0 p0 c0 p1 b0 r21 h22) ?_)
  rintro _ _ ⟨rfl, rfl⟩
  refine nw_H (H' := [imm I, pt b0 #[.slice p0 m0.sure_.length c0, .map (some p1), .bool m0.off_, .bool m0.armed_, .int .i64 m0.left_, .int .u64 m0.fall_.Keep, .int .i64 m0.fall_.Tear, .int .i64 m0.acts_, .int .i64 m0.falls_] 65, own e_disk_sector 86 p0 c0 m0.sure_, mpo (kInt .i64) (fun x : disk_sector => Value.agg #[.string x.s_, .int .i64 x.at_]) p1 m0.wait_] ++ F0) rfl (nw_ow ?_)
  refine ow_vals 5 (j := 8) [7, 8] [(7, .string r21.1), (8, .int .i64 r21.2)] rfl (by kernel_rfl) ?_
  refine ow_end rfl ?_
  refine ew_then ?_
  refine cw_seq ?_
  refine cw_seq ?_
  refine cw_region ?_
  refine ow_vals 2 (j := 2) [7, 8, 20] [(7, .string r21.1), (8, .int .i64 r21.2), (20, .bool (r21.2 != 0))] rfl (by kernel_rfl) ?_
  refine ow_end rfl ?_
  refine ew_then ?_
  rcases if_some hF with ⟨h23, hF⟩ | ⟨h23, hF⟩
  · refine cw_cond_t rfl rfl h23 ?_
    refine cw_seq ?_
    refine cw_region ?_
    refine ow_vals 4 (j := 4) [4, 5, 6] [(4, .string (ByteArray.mk #[])), (5, .int .i64 0), (6, .int .i64 r21.2)] rfl (by kernel_rfl) ?_
    refine ow_end rfl ?_
    refine ew_then ?_
    refine cw_ret ?_
    refine ew_then_ret ?_
    have hR := Option.some.inj hF
    subst hR
    exact fin3 (H1 := [imm I, pt b0 #[.slice p0 m0.sure_.length c0, .map (some p1), .bool m0.off_, .bool m0.armed_, .int .i64 m0.left_, .int .u64 m0.fall_.Keep, .int .i64 m0.fall_.Tear, .int .i64 m0.acts_, .int .i64 m0.falls_] 65, own e_disk_sector 86 p0 c0 m0.sure_, mpo (kInt .i64) (fun x : disk_sector => Value.agg #[.string x.s_, .int .i64 x.at_]) p1 m0.wait_]) (fun w hs => sat_to [0, 0, 0, 0] 0 rfl hs) rfl (rr_tmp rfl) (rr_tmp rfl) (rr_tmp rfl) ⟨rfl, rfl⟩
  refine cw_cond_f rfl rfl h23 ?_
  refine cw_skip ?_
  refine ew_then ?_
  refine cw_seq ?_
  refine cw_seq ?_
  refine cw_region ?_
  refine ow_vals 1 (j := 1) [7, 22] [(7, .string r21.1), (22, .string r21.1)] rfl (by kernel_rfl) ?_
  obtain ⟨r24, h25, hF⟩ := bind_some hF
  refine ow_pw rfl (pw_call (F := [pt b0 #[.slice p0 m0.sure_.length c0, .map (some p1), .bool m0.off_, .bool m0.armed_, .int .i64 m0.left_, .int .u64 m0.fall_.Keep, .int .i64 m0.fall_.Tear, .int .i64 m0.acts_, .int .i64 m0.falls_] 65, own e_disk_sector 86 p0 c0 m0.sure_, mpo (kInt .i64) (fun x : disk_sector => Value.agg #[.string x.s_, .int .i64 x.at_]) p1 m0.wait_] ++ F0) rfl rfl rfl rfl rfl rfl rfl (by kernel_rfl) (perm_of_pulls [0] rfl) (c_strings_Repeat _ (ByteArray.mk #[0]) 64 r24 h25) ?_)
  rintro _ _ ⟨rfl, rfl⟩
  refine nw_H (H' := [imm I, pt b0 #[.slice p0 m0.sure_.length c0, .map (some p1), .bool m0.off_, .bool m0.armed_, .int .i64 m0.left_, .int .u64 m0.fall_.Keep, .int .i64 m0.fall_.Tear, .int .i64 m0.acts_, .int .i64 m0.falls_] 65, own e_disk_sector 86 p0 c0 m0.sure_, mpo (kInt .i64) (fun x : disk_sector => Value.agg #[.string x.s_, .int .i64 x.at_]) p1 m0.wait_] ++ F0) rfl (nw_ow ?_)
  refine ow_vals 1 (j := 3) [7, 24] [(7, .string r21.1), (24, .bool (seqB r21.1 r24))] rfl (by kernel_rfl) ?_
  refine ow_end rfl ?_
  refine ew_then ?_
  rcases if_some hF with ⟨h26, hF⟩ | ⟨h26, hF⟩
  · refine cw_cond_t rfl rfl h26 ?_
    refine cw_seq ?_
    refine cw_region ?_
    refine ow_vals 3 (j := 3) [4, 5, 6] [(4, .string (ByteArray.mk #[])), (5, .int .i64 0), (6, .int .i64 7)] rfl (by kernel_rfl) ?_
    refine ow_end rfl ?_
    refine ew_then ?_
    refine cw_ret ?_
    refine ew_then_ret ?_
    have hR := Option.some.inj hF
    subst hR
    exact fin3 (H1 := [imm I, pt b0 #[.slice p0 m0.sure_.length c0, .map (some p1), .bool m0.off_, .bool m0.armed_, .int .i64 m0.left_, .int .u64 m0.fall_.Keep, .int .i64 m0.fall_.Tear, .int .i64 m0.acts_, .int .i64 m0.falls_] 65, own e_disk_sector 86 p0 c0 m0.sure_, mpo (kInt .i64) (fun x : disk_sector => Value.agg #[.string x.s_, .int .i64 x.at_]) p1 m0.wait_]) (fun w hs => sat_to [0, 0, 0, 0] 0 rfl hs) rfl (rr_tmp rfl) (rr_tmp rfl) (rr_tmp rfl) ⟨rfl, rfl⟩
  refine cw_cond_f rfl rfl h26 ?_
  refine cw_skip ?_
  refine ew_then ?_
  refine cw_seq ?_
  refine cw_open 6 (SAT w0 ([imm I, pt b0 #[.slice p0 m0.sure_.length c0, .map (some p1), .bool m0.off_, .bool m0.armed_, .int .i64 m0.left_, .int .u64 m0.fall_.Keep, .int .i64 m0.fall_.Tear, .int .i64 m0.acts_, .int .i64 m0.falls_] 65, own e_disk_sector 86 p0 c0 m0.sure_, mpo (kInt .i64) (fun x : disk_sector => Value.agg #[.string x.s_, .int .i64 x.at_]) p1 m0.wait_])) (by kernel_rfl) (f := 6) rfl (fun w hs => sat_drew hs) ?_
  refine aw_vals [0, 2] (f' := 4) (m' := 5) [7, 25, 27] [(7, .string r21.1), (25, .string r21.1), (27, .string r21.1)] (fun _ _ _ _ _ h => calm_fin (P := Tryz.prog) (fn := Tryz.f12) _ _ _ _ _ h) (fun w hs => sat_pulls [0, 0, 0, 0] (G := [] ++ F0) rfl hs) rfl (by kernel_rfl) ?_
  obtain ⟨h27, hF⟩ := chk_some hF
  refine aw_pure 1 (m' := 7) (v := .string (r21.1.extract (0 : Int).toNat (8 : Int).toNat)) rfl rfl rfl rfl (by kernel_rfl) (by kernel_rfl) (fun _ _ _ _ _ h => calm_fin (P := Tryz.prog) (fn := Tryz.f12) _ _ _ _ _ h) (fun w hs => sat_pulls [0, 0, 0, 0] (G := [] ++ F0) rfl hs) (q_slice_str rfl (by kernel_rfl) rfl rfl rfl h27.1 h27.2.1 h27.2.2) ?_
  refine aw_vals [4] (f' := 2) (m' := 23) [7, 9, 27] [(7, .string r21.1), (9, .string (r21.1.extract (0 : Int).toNat (8 : Int).toNat)), (27, .string r21.1)] (fun _ _ _ _ _ h => calm_fin (P := Tryz.prog) (fn := Tryz.f12) _ _ _ _ _ h) (fun w hs => sat_pulls [0, 0, 0, 0] (G := [] ++ F0) rfl hs) rfl (by kernel_rfl) ?_
  obtain ⟨h28, hF⟩ := chk_some hF
  refine aw_pure 3 (m' := 31) (v := .string (r21.1.extract (56 : Int).toNat (r21.1.size : Int).toNat)) rfl rfl rfl rfl (by kernel_rfl) (by kernel_rfl) (fun _ _ _ _ _ h => calm_fin (P := Tryz.prog) (fn := Tryz.f12) _ _ _ _ _ h) (fun w hs => sat_pulls [0, 0, 0, 0] (G := [] ++ F0) rfl hs) (q_slice_str rfl (by kernel_rfl) rfl rfl rfl h28.1 h28.2.1 h28.2.2) ?_
  refine aw_vals [5] (f' := 0) (m' := 63) [7, 9, 10] [(7, .string r21.1), (9, .string (r21.1.extract (0 : Int).toNat (8 : Int).toNat)), (10, .string (r21.1.extract (56 : Int).toNat (r21.1.size : Int).toNat))] (fun _ _ _ _ _ h => calm_fin (P := Tryz.prog) (fn := Tryz.f12) _ _ _ _ _ h) (fun w hs => sat_pulls [0, 0, 0, 0] (G := [] ++ F0) rfl hs) rfl (by kernel_rfl) ?_
  refine aw_keep [7, 9, 10] (L' := [(7, .string r21.1), (9, .string (r21.1.extract (0 : Int).toNat (8 : Int).toNat)), (10, .string (r21.1.extract (56 : Int).toNat (r21.1.size : Int).toNat))]) rfl ?_
  refine aw_end (by kernel_rfl) ?_
  refine ew_then ?_
  refine cw_seq ?_
  refine cw_region ?_
  refine ow_vals 1 (j := 1) [7, 9, 10, 29] [(7, .string r21.1), (9, .string (r21.1.extract (0 : Int).toNat (8 : Int).toNat)), (10, .string (r21.1.extract (56 : Int).toNat (r21.1.size : Int).toNat)), (29, .string r21.1)] rfl (by kernel_rfl) ?_
  obtain ⟨h29, hF⟩ := chk_some hF
  refine ow_pw rfl (pw_quiet (v := .int .u8 (bt r21.1 8)) rfl rfl rfl rfl (q_index_str rfl (by kernel_rfl) rfl rfl h29.1 h29.2) (nw_ow ?_))
  refine ow_vals 2 (j := 4) [7, 9, 10, 11] [(7, .string r21.1), (9, .string (r21.1.extract (0 : Int).toNat (8 : Int).toNat)), (10, .string (r21.1.extract (56 : Int).toNat (r21.1.size : Int).toNat)), (11, .int .i64 (IntKind.i64.wrap (bt r21.1 8)))] rfl (by kernel_rfl) ?_
  refine ow_end rfl ?_
  refine ew_then ?_
  refine cw_seq ?_
  refine cw_region ?_
  refine ow_vals 1 (j := 1) [7, 9, 10, 11, 32] [(7, .string r21.1), (9, .string (r21.1.extract (0 : Int).toNat (8 : Int).toNat)), (10, .string (r21.1.extract (56 : Int).toNat (r21.1.size : Int).toNat)), (11, .int .i64 (IntKind.i64.wrap (bt r21.1 8))), (32, .string (r21.1.extract (0 : Int).toNat (8 : Int).toNat))] rfl (by kernel_rfl) ?_
  obtain ⟨r30, h31, hF⟩ := bind_some hF
  refine ow_pw rfl (pw_call (F := [pt b0 #[.slice p0 m0.sure_.length c0, .map (some p1), .bool m0.off_, .bool m0.armed_, .int .i64 m0.left_, .int .u64 m0.fall_.Keep, .int .i64 m0.fall_.Tear, .int .i64 m0.acts_, .int .i64 m0.falls_] 65, own e_disk_sector 86 p0 c0 m0.sure_, mpo (kInt .i64) (fun x : disk_sector => Value.agg #[.string x.s_, .int .i64 x.at_]) p1 m0.wait_] ++ F0) rfl rfl rfl rfl rfl rfl rfl (by kernel_rfl) (perm_of_pulls [0] rfl) (c_guard_Number _ (r21.1.extract (0 : Int).toNat (8 : Int).toNat) r30 h31) ?_)
  rintro _ _ ⟨rfl, rfl⟩
  refine nw_H (H' := [imm I, pt b0 #[.slice p0 m0.sure_.length c0, .map (some p1), .bool m0.off_, .bool m0.armed_, .int .i64 m0.left_, .int .u64 m0.fall_.Keep, .int .i64 m0.fall_.Tear, .int .i64 m0.acts_, .int .i64 m0.falls_] 65, own e_disk_sector 86 p0 c0 m0.sure_, mpo (kInt .i64) (fun x : disk_sector => Value.agg #[.string x.s_, .int .i64 x.at_]) p1 m0.wait_] ++ F0) rfl (nw_ow ?_)
  refine ow_vals 1 (j := 3) [7, 9, 10, 11, 12] [(7, .string r21.1), (9, .string (r21.1.extract (0 : Int).toNat (8 : Int).toNat)), (10, .string (r21.1.extract (56 : Int).toNat (r21.1.size : Int).toNat)), (11, .int .i64 (IntKind.i64.wrap (bt r21.1 8))), (12, .int .i64 r30)] rfl (by kernel_rfl) ?_
  refine ow_end rfl ?_
  refine ew_then ?_
  obtain ⟨v32, hF, hK32⟩ := thru_some hF
  refine cw_mid (fun a w => .inl () = v32 ∧ Fr 58 [(7, .string r21.1), (11, .int .i64 (IntKind.i64.wrap (bt r21.1 8))), (12, .int .i64 r30)] a ∧ SAT w0 ([imm I, pt b0 #[.slice p0 m0.sure_.length c0, .map (some p1), .bool m0.off_, .bool m0.armed_, .int .i64 m0.left_, .int .u64 m0.fall_.Keep, .int .i64 m0.fall_.Tear, .int .i64 m0.acts_, .int .i64 m0.falls_] 65, own e_disk_sector 86 p0 c0 m0.sure_, mpo (kInt .i64) (fun x : disk_sector => Value.agg #[.string x.s_, .int .i64 x.at_]) p1 m0.wait_] ++ F0) w) ?_ ?_
  · refine cw_seq ?_
    refine cw_region ?_
    refine ow_vals 4 (j := 4) [7, 11, 12, 37] [(7, .string r21.1), (11, .int .i64 (IntKind.i64.wrap (bt r21.1 8))), (12, .int .i64 r30), (37, .bool (!(seqB (r21.1.extract (0 : Int).toNat (8 : Int).toNat) (r21.1.extract (56 : Int).toNat (r21.1.size : Int).toNat))))] rfl (by kernel_rfl) ?_
    rcases if_some hF with ⟨h33, hF⟩ | ⟨h33, hF⟩
    · refine ow_slots (L' := [(7, .string r21.1), (11, .int .i64 (IntKind.i64.wrap (bt r21.1 8))), (12, .int .i64 r30), (37, .bool true)]) (by rw [h33]) ?_
      refine ow_vals 15 (j := 19) [7, 11, 12, 52] [(7, .string r21.1), (11, .int .i64 (IntKind.i64.wrap (bt r21.1 8))), (12, .int .i64 r30), (52, .bool true)] rfl (by kernel_rfl) ?_
      refine ow_end rfl ?_
      refine ew_then ?_
      refine cw_cond_t rfl rfl rfl ?_
      refine cw_seq ?_
      refine cw_region ?_
      refine ow_vals 3 (j := 3) [4, 5, 6] [(4, .string (ByteArray.mk #[])), (5, .int .i64 0), (6, .int .i64 17)] rfl (by kernel_rfl) ?_
      refine ow_end rfl ?_
      refine ew_then ?_
      refine cw_ret ?_
      refine ew_then_ret ?_
      have hR := Option.some.inj hF
      subst hR
      have hR := hK32
      try dsimp only [Thru] at hR
      subst hR
      exact fin3 (H1 := [imm I, pt b0 #[.slice p0 m0.sure_.length c0, .map (some p1), .bool m0.off_, .bool m0.armed_, .int .i64 m0.left_, .int .u64 m0.fall_.Keep, .int .i64 m0.fall_.Tear, .int .i64 m0.acts_, .int .i64 m0.falls_] 65, own e_disk_sector 86 p0 c0 m0.sure_, mpo (kInt .i64) (fun x : disk_sector => Value.agg #[.string x.s_, .int .i64 x.at_]) p1 m0.wait_]) (fun w hs => sat_to [0, 0, 0, 0] 0 rfl hs) rfl (rr_tmp rfl) (rr_tmp rfl) (rr_tmp rfl) ⟨rfl, rfl⟩
    refine ow_slots (L' := [(7, .string r21.1), (11, .int .i64 (IntKind.i64.wrap (bt r21.1 8))), (12, .int .i64 r30), (37, .bool false)]) (by rw [h33]) ?_
    refine ow_vals 4 (j := 8) [7, 11, 12, 41] [(7, .string r21.1), (11, .int .i64 (IntKind.i64.wrap (bt r21.1 8))), (12, .int .i64 r30), (41, .bool (decide (r30 < 4294967296)))] rfl (by kernel_rfl) ?_
    rcases if_some hF with ⟨h34, hF⟩ | ⟨h34, hF⟩
    · refine ow_slots (L' := [(7, .string r21.1), (11, .int .i64 (IntKind.i64.wrap (bt r21.1 8))), (12, .int .i64 r30), (41, .bool true)]) (by rw [h34]) ?_
      refine ow_vals 11 (j := 19) [7, 11, 12, 52] [(7, .string r21.1), (11, .int .i64 (IntKind.i64.wrap (bt r21.1 8))), (12, .int .i64 r30), (52, .bool true)] rfl (by kernel_rfl) ?_
      refine ow_end rfl ?_
      refine ew_then ?_
      refine cw_cond_t rfl rfl rfl ?_
      refine cw_seq ?_
      refine cw_region ?_
      refine ow_vals 3 (j := 3) [4, 5, 6] [(4, .string (ByteArray.mk #[])), (5, .int .i64 0), (6, .int .i64 17)] rfl (by kernel_rfl) ?_
      refine ow_end rfl ?_
      refine ew_then ?_
      refine cw_ret ?_
      refine ew_then_ret ?_
      have hR := Option.some.inj hF
      subst hR
      have hR := hK32
      try dsimp only [Thru] at hR
      subst hR
      exact fin3 (H1 := [imm I, pt b0 #[.slice p0 m0.sure_.length c0, .map (some p1), .bool m0.off_, .bool m0.armed_, .int .i64 m0.left_, .int .u64 m0.fall_.Keep, .int .i64 m0.fall_.Tear, .int .i64 m0.acts_, .int .i64 m0.falls_] 65, own e_disk_sector 86 p0 c0 m0.sure_, mpo (kInt .i64) (fun x : disk_sector => Value.agg #[.string x.s_, .int .i64 x.at_]) p1 m0.wait_]) (fun w hs => sat_to [0, 0, 0, 0] 0 rfl hs) rfl (rr_tmp rfl) (rr_tmp rfl) (rr_tmp rfl) ⟨rfl, rfl⟩
    refine ow_slots (L' := [(7, .string r21.1), (11, .int .i64 (IntKind.i64.wrap (bt r21.1 8))), (12, .int .i64 r30), (41, .bool false)]) (by rw [h34]) ?_
    refine ow_vals 4 (j := 12) [7, 11, 12, 45] [(7, .string r21.1), (11, .int .i64 (IntKind.i64.wrap (bt r21.1 8))), (12, .int .i64 r30), (45, .bool (decide ((IntKind.i64.wrap (bt r21.1 8)) > 47)))] rfl (by kernel_rfl) ?_
    rcases if_some hF with ⟨h35, hF⟩ | ⟨h35, hF⟩
    · refine ow_slots (L' := [(7, .string r21.1), (11, .int .i64 (IntKind.i64.wrap (bt r21.1 8))), (12, .int .i64 r30), (45, .bool true)]) (by rw [h35]) ?_
      refine ow_vals 7 (j := 19) [7, 11, 12, 52] [(7, .string r21.1), (11, .int .i64 (IntKind.i64.wrap (bt r21.1 8))), (12, .int .i64 r30), (52, .bool true)] rfl (by kernel_rfl) ?_
      refine ow_end rfl ?_
      refine ew_then ?_
      refine cw_cond_t rfl rfl rfl ?_
      refine cw_seq ?_
      refine cw_region ?_
      refine ow_vals 3 (j := 3) [4, 5, 6] [(4, .string (ByteArray.mk #[])), (5, .int .i64 0), (6, .int .i64 17)] rfl (by kernel_rfl) ?_
      refine ow_end rfl ?_
      refine ew_then ?_
      refine cw_ret ?_
      refine ew_then_ret ?_
      have hR := Option.some.inj hF
      subst hR
      have hR := hK32
      try dsimp only [Thru] at hR
      subst hR
      exact fin3 (H1 := [imm I, pt b0 #[.slice p0 m0.sure_.length c0, .map (some p1), .bool m0.off_, .bool m0.armed_, .int .i64 m0.left_, .int .u64 m0.fall_.Keep, .int .i64 m0.fall_.Tear, .int .i64 m0.acts_, .int .i64 m0.falls_] 65, own e_disk_sector 86 p0 c0 m0.sure_, mpo (kInt .i64) (fun x : disk_sector => Value.agg #[.string x.s_, .int .i64 x.at_]) p1 m0.wait_]) (fun w hs => sat_to [0, 0, 0, 0] 0 rfl hs) rfl (rr_tmp rfl) (rr_tmp rfl) (rr_tmp rfl) ⟨rfl, rfl⟩
    refine ow_slots (L' := [(7, .string r21.1), (11, .int .i64 (IntKind.i64.wrap (bt r21.1 8))), (12, .int .i64 r30), (45, .bool false)]) (by rw [h35]) ?_
    refine ow_vals 3 (j := 15) [7, 11, 12, 45, 46, 48] [(7, .string r21.1), (11, .int .i64 (IntKind.i64.wrap (bt r21.1 8))), (12, .int .i64 r30), (45, .bool false), (46, .string r21.1), (48, .int .i64 (IntKind.i64.wrap (9 + (IntKind.i64.wrap (bt r21.1 8)))))] rfl (by kernel_rfl) ?_
    obtain ⟨h36, hF⟩ := chk_some hF
    refine ow_pw rfl (pw_quiet (v := .string (r21.1.extract (IntKind.i64.wrap (9 + (IntKind.i64.wrap (bt r21.1 8)))).toNat (56 : Int).toNat)) rfl rfl rfl rfl (q_slice_str rfl (by kernel_rfl) rfl rfl rfl h36.1 h36.2.1 h36.2.2) (nw_ow ?_))
    obtain ⟨r37, h38, hF⟩ := bind_some hF
    refine ow_pw rfl (pw_call (F := [pt b0 #[.slice p0 m0.sure_.length c0, .map (some p1), .bool m0.off_, .bool m0.armed_, .int .i64 m0.left_, .int .u64 m0.fall_.Keep, .int .i64 m0.fall_.Tear, .int .i64 m0.acts_, .int .i64 m0.falls_] 65, own e_disk_sector 86 p0 c0 m0.sure_, mpo (kInt .i64) (fun x : disk_sector => Value.agg #[.string x.s_, .int .i64 x.at_]) p1 m0.wait_] ++ F0) rfl rfl rfl rfl rfl rfl rfl (by kernel_rfl) (perm_of_pulls [0] rfl) (c_strings_Trim _ (r21.1.extract (IntKind.i64.wrap (9 + (IntKind.i64.wrap (bt r21.1 8)))).toNat (56 : Int).toNat) (ByteArray.mk #[0]) r37 h38) ?_)
    rintro _ _ ⟨rfl, rfl⟩
    refine nw_H (H' := [imm I, pt b0 #[.slice p0 m0.sure_.length c0, .map (some p1), .bool m0.off_, .bool m0.armed_, .int .i64 m0.left_, .int .u64 m0.fall_.Keep, .int .i64 m0.fall_.Tear, .int .i64 m0.acts_, .int .i64 m0.falls_] 65, own e_disk_sector 86 p0 c0 m0.sure_, mpo (kInt .i64) (fun x : disk_sector => Value.agg #[.string x.s_, .int .i64 x.at_]) p1 m0.wait_] ++ F0) rfl (nw_ow ?_)
    refine ow_vals 2 (j := 19) [7, 11, 12, 52] [(7, .string r21.1), (11, .int .i64 (IntKind.i64.wrap (bt r21.1 8))), (12, .int .i64 r30), (52, .bool (!(seqB r37 (ByteArray.mk #[]))))] rfl (by kernel_rfl) ?_
    refine ow_end rfl ?_
    refine ew_then ?_
    rcases if_some hF with ⟨h39, hF⟩ | ⟨h39, hF⟩
    · refine cw_cond_t rfl rfl h39 ?_
      refine cw_seq ?_
      refine cw_region ?_
      refine ow_vals 3 (j := 3) [4, 5, 6] [(4, .string (ByteArray.mk #[])), (5, .int .i64 0), (6, .int .i64 17)] rfl (by kernel_rfl) ?_
      refine ow_end rfl ?_
      refine ew_then ?_
      refine cw_ret ?_
      refine ew_then_ret ?_
      have hR := Option.some.inj hF
      subst hR
      have hR := hK32
      try dsimp only [Thru] at hR
      subst hR
      exact fin3 (H1 := [imm I, pt b0 #[.slice p0 m0.sure_.length c0, .map (some p1), .bool m0.off_, .bool m0.armed_, .int .i64 m0.left_, .int .u64 m0.fall_.Keep, .int .i64 m0.fall_.Tear, .int .i64 m0.acts_, .int .i64 m0.falls_] 65, own e_disk_sector 86 p0 c0 m0.sure_, mpo (kInt .i64) (fun x : disk_sector => Value.agg #[.string x.s_, .int .i64 x.at_]) p1 m0.wait_]) (fun w hs => sat_to [0, 0, 0, 0] 0 rfl hs) rfl (rr_tmp rfl) (rr_tmp rfl) (rr_tmp rfl) ⟨rfl, rfl⟩
    refine cw_cond_f rfl rfl h39 ?_
    refine cw_skip ?_
    have hR := Option.some.inj hF
    exact fun a w hf hs => ⟨hR, hf.keep [7, 11, 12], sat_to [0, 0, 0, 0] 0 rfl hs⟩
  rintro a w ⟨hv, hf, hs⟩
  subst hv
  replace hF := hK32
  clear hK32
  try dsimp only [Thru] at hF
  revert a w
  show CW _ _ _ 58 [(7, .string r21.1), (11, .int .i64 (IntKind.i64.wrap (bt r21.1 8))), (12, .int .i64 r30)] (SAT w0 ([imm I, pt b0 #[.slice p0 m0.sure_.length c0, .map (some p1), .bool m0.off_, .bool m0.armed_, .int .i64 m0.left_, .int .u64 m0.fall_.Keep, .int .i64 m0.fall_.Tear, .int .i64 m0.acts_, .int .i64 m0.falls_] 65, own e_disk_sector 86 p0 c0 m0.sure_, mpo (kInt .i64) (fun x : disk_sector => Value.agg #[.string x.s_, .int .i64 x.at_]) p1 m0.wait_] ++ F0))
  unfold F.guard_Read.r1 at hF
  refine cw_seq ?_
  refine cw_region ?_
  refine ow_vals 3 (j := 3) [12, 53, 55] [(12, .int .i64 r30), (53, .string r21.1), (55, .int .i64 (IntKind.i64.wrap (9 + (IntKind.i64.wrap (bt r21.1 8)))))] rfl (by kernel_rfl) ?_
  obtain ⟨h40, hF⟩ := chk_some hF
  refine ow_pw rfl (pw_quiet (v := .string (r21.1.extract (9 : Int).toNat (IntKind.i64.wrap (9 + (IntKind.i64.wrap (bt r21.1 8)))).toNat)) rfl rfl rfl rfl (q_slice_str rfl (by kernel_rfl) rfl rfl rfl h40.1 h40.2.1 h40.2.2) (nw_ow ?_))
  refine ow_vals 4 (j := 8) [4, 5, 6] [(4, .string (r21.1.extract (9 : Int).toNat (IntKind.i64.wrap (9 + (IntKind.i64.wrap (bt r21.1 8)))).toNat)), (5, .int .i64 r30), (6, .int .i64 0)] rfl (by kernel_rfl) ?_
  refine ow_end rfl ?_
  refine ew_then ?_
  refine cw_ret ?_
  have hR := Option.some.inj hF
  subst hR
  exact fin3 (H1 := [imm I, pt b0 #[.slice p0 m0.sure_.length c0, .map (some p1), .bool m0.off_, .bool m0.armed_, .int .i64 m0.left_, .int .u64 m0.fall_.Keep, .int .i64 m0.fall_.Tear, .int .i64 m0.acts_, .int .i64 m0.falls_] 65, own e_disk_sector 86 p0 c0 m0.sure_, mpo (kInt .i64) (fun x : disk_sector => Value.agg #[.string x.s_, .int .i64 x.at_]) p1 m0.wait_]) (fun w hs => sat_to [0, 0, 0, 0] 0 rfl hs) rfl (rr_tmp rfl) (rr_tmp rfl) (rr_tmp rfl) ⟨rfl, rfl⟩


def F.octet_Read (x0 : ByteArray) : Option octet_Reader :=
  some ((⟨x0, 0, 0⟩ : octet_Reader))
set_option maxRecDepth 100000 in
set_option maxHeartbeats 4000000 in
theorem c_octet_Read (I : Hl) (x0 : ByteArray) (res : octet_Reader) (hF : F.octet_Read x0 = some res) : Tr Tryz.prog 16 [.string x0] [imm I] (fun r H' => ∃ (bq1 : Nat), r = .pointer (some ⟨bq1, 0, none⟩) ∧ H' = [imm I, pt bq1 #[.string res.s_, .int .i64 res.at_, .int .i64 res.e_] 81]) := by
  unfold F.octet_Read at hF
  refine tr_of_cw (fn := Tryz.f16) Tryz.func16 rfl (Nat.le_of_ble_eq_true rfl) 6 rfl fun F0 w0 => ?_
  refine cw_keep [0] (L' := [(0, .string x0)]) rfl ?_
  refine cw_state (S' := SAT w0 ([imm I] ++ F0)) (fun w hs => hs) ?_
  refine cw_seq ?_
  refine cw_region ?_
  refine ow_vals 1 (j := 1) [0] [(0, .string x0)] rfl (by kernel_rfl) ?_
  refine ow_end rfl ?_
  refine ew_then ?_
  refine cw_seq ?_
  refine cw_region ?_
  refine ow_vals 2 (j := 2) [4] [(4, .agg #[.string x0, .int .i64 0, .int .i64 0])] rfl (by kernel_rfl) ?_
  refine ow_pw rfl (pw_box (cs := #[.string x0, .int .i64 0, .int .i64 0]) rfl rfl rfl rfl rfl rfl fun b21 => nw_ow ?_)
  refine ow_vals 1 (j := 4) [2] [(2, .pointer (some ⟨b21, 0, none⟩))] rfl (by kernel_rfl) ?_
  refine ow_end rfl ?_
  refine ew_then ?_
  refine cw_ret ?_
  have hR := Option.some.inj hF
  subst hR
  exact fin1 (H1 := [imm I, pt b21 #[.string ((⟨x0, 0, 0⟩ : octet_Reader).s_), .int .i64 ((⟨x0, 0, 0⟩ : octet_Reader).at_), .int .i64 ((⟨x0, 0, 0⟩ : octet_Reader).e_)] 81]) (fun w hs => sat_to [1, 0] 0 rfl hs) rfl (rr_tmp rfl) ⟨b21, rfl, rfl⟩


def F.octet_Reader_Err (m0 : octet_Reader) : Option Int :=
  some (m0.e_)
set_option maxRecDepth 100000 in
set_option maxHeartbeats 4000000 in
theorem c_octet_Reader_Err (I : Hl) (m0 : octet_Reader) (b0 : Nat) (res : Int) (hF : F.octet_Reader_Err m0 = some res) : Tr Tryz.prog 41 [.pointer (some ⟨b0, 0, none⟩)] [imm I, pt b0 #[.string m0.s_, .int .i64 m0.at_, .int .i64 m0.e_] 81] (fun r H' => r = .int .i64 res ∧ H' = [imm I, pt b0 #[.string m0.s_, .int .i64 m0.at_, .int .i64 m0.e_] 81]) := by
  unfold F.octet_Reader_Err at hF
  refine tr_of_cw (fn := Tryz.f41) Tryz.func41 rfl (Nat.le_of_ble_eq_true rfl) 9 rfl fun F0 w0 => ?_
  refine cw_keep [0] (L' := [(0, .pointer (some ⟨b0, 0, none⟩))]) rfl ?_
  refine cw_state (S' := SAT w0 ([imm I, pt b0 #[.string m0.s_, .int .i64 m0.at_, .int .i64 m0.e_] 81] ++ F0)) (fun w hs => hs) ?_
  refine cw_seq ?_
  refine cw_region ?_
  refine ow_vals 1 (j := 1) [0] [(0, .pointer (some ⟨b0, 0, none⟩))] rfl (by kernel_rfl) ?_
  refine ow_end rfl ?_
  refine ew_then ?_
  refine cw_seq ?_
  refine cw_seq ?_
  refine cw_region ?_
  refine ow_vals 2 (j := 2) [0, 4] [(0, .pointer (some ⟨b0, 0, none⟩)), (4, .bool false)] rfl (by kernel_rfl) ?_
  refine ow_end rfl ?_
  refine ew_then ?_
  refine cw_cond_f rfl rfl rfl ?_
  refine cw_skip ?_
  refine ew_then ?_
  refine cw_seq ?_
  refine cw_region ?_
  refine ow_vals 3 (j := 3) [7] [(7, .pointer (some ⟨b0, 2, none⟩))] rfl (by kernel_rfl) ?_
  refine ow_pw rfl (pw_quiet (v := .int .i64 m0.e_) rfl rfl rfl rfl (q_load 1 rfl rfl rfl (by kernel_rfl)) (nw_ow ?_))
  refine ow_vals 1 (j := 5) [2] [(2, .int .i64 m0.e_)] rfl (by kernel_rfl) ?_
  refine ow_end rfl ?_
  refine ew_then ?_
  refine cw_ret ?_
  have hR := Option.some.inj hF
  subst hR
  exact fin1 (H1 := [imm I, pt b0 #[.string m0.s_, .int .i64 m0.at_, .int .i64 m0.e_] 81]) (fun w hs => sat_to [0, 0] 0 rfl hs) rfl (rr_tmp rfl) ⟨rfl, rfl⟩


def F.octet_Reader_Fail.r1 (x1 : Int) (m0 : octet_Reader) : Option (octet_Reader) :=
  if m0.e_ == 0 then (some ((⟨m0.s_, m0.at_, x1⟩ : octet_Reader))) else (some (m0))
def F.octet_Reader_Fail (x1 : Int) (m0 : octet_Reader) : Option octet_Reader :=
  Option.bind (some (())) (fun x => F.octet_Reader_Fail.r1 x1 m0)
set_option maxRecDepth 100000 in
set_option maxHeartbeats 4000000 in
theorem c_octet_Reader_Fail (I : Hl) (x1 : Int) (m0 : octet_Reader) (b0 : Nat) (res : octet_Reader) (hF : F.octet_Reader_Fail x1 m0 = some res) : Tr Tryz.prog 40 [.pointer (some ⟨b0, 0, none⟩), .int .i64 x1] [imm I, pt b0 #[.string m0.s_, .int .i64 m0.at_, .int .i64 m0.e_] 81] (fun r H' => r = .tuple #[] ∧ H' = [imm I, pt b0 #[.string res.s_, .int .i64 res.at_, .int .i64 res.e_] 81]) := by
  unfold F.octet_Reader_Fail at hF
  refine tr_of_cw (fn := Tryz.f40) Tryz.func40 rfl (Nat.le_of_ble_eq_true rfl) 17 rfl fun F0 w0 => ?_
  refine cw_keep [0, 1] (L' := [(0, .pointer (some ⟨b0, 0, none⟩)), (1, .int .i64 x1)]) rfl ?_
  refine cw_state (S' := SAT w0 ([imm I, pt b0 #[.string m0.s_, .int .i64 m0.at_, .int .i64 m0.e_] 81] ++ F0)) (fun w hs => hs) ?_
  obtain ⟨v21, hF, hK21⟩ := bind_some hF
  refine cw_mid (fun a w => () = v21 ∧ Fr 17 [(0, .pointer (some ⟨b0, 0, none⟩)), (1, .int .i64 x1), (12, .bool (m0.e_ == 0))] a ∧ SAT w0 ([imm I, pt b0 #[.string m0.s_, .int .i64 m0.at_, .int .i64 m0.e_] 81] ++ F0) w) ?_ ?_
  · refine cw_region ?_
    refine ow_vals 6 (j := 6) [0, 1, 6, 9] [(0, .pointer (some ⟨b0, 0, none⟩)), (1, .int .i64 x1), (6, .bool true), (9, .pointer (some ⟨b0, 2, none⟩))] rfl (by kernel_rfl) ?_
    refine ow_pw rfl (pw_quiet (v := .int .i64 m0.e_) rfl rfl rfl rfl (q_load 1 rfl rfl rfl (by kernel_rfl)) (nw_ow ?_))
    refine ow_vals 2 (j := 9) [0, 1, 12] [(0, .pointer (some ⟨b0, 0, none⟩)), (1, .int .i64 x1), (12, .bool (m0.e_ == 0))] rfl (by kernel_rfl) ?_
    refine ow_end rfl ?_
    have hR := Option.some.inj hF
    exact fun a w hf hs => ⟨hR, hf.keep [0, 1, 12], sat_to [0, 0] 0 rfl hs⟩
  rintro a w ⟨hv, hf, hs⟩
  subst hv
  replace hF := hK21
  clear hK21
  try dsimp only at hF
  revert a w
  show CW _ _ _ 17 [(0, .pointer (some ⟨b0, 0, none⟩)), (1, .int .i64 x1), (12, .bool (m0.e_ == 0))] (SAT w0 ([imm I, pt b0 #[.string m0.s_, .int .i64 m0.at_, .int .i64 m0.e_] 81] ++ F0))
  unfold F.octet_Reader_Fail.r1 at hF
  rcases if_some hF with ⟨h22, hF⟩ | ⟨h22, hF⟩
  · refine cw_cond_t rfl rfl h22 ?_
    refine cw_region ?_
    refine ow_vals 4 (j := 4) [14, 16] [(14, .int .i64 x1), (16, .pointer (some ⟨b0, 2, none⟩))] rfl (by kernel_rfl) ?_
    refine ow_pw rfl (pw_store 1 #[.string m0.s_, .int .i64 m0.at_, .int .i64 x1] rfl rfl rfl rfl rfl rfl rfl (by kernel_rfl) (nw_H (H' := [imm I, pt b0 #[.string m0.s_, .int .i64 m0.at_, .int .i64 x1] 81] ++ F0) rfl (nw_ow ?_)))
    refine ow_end rfl ?_
    have hR := Option.some.inj hF
    subst hR
    exact fin0n (H1 := [imm I, pt b0 #[.string ((⟨m0.s_, m0.at_, x1⟩ : octet_Reader).s_), .int .i64 ((⟨m0.s_, m0.at_, x1⟩ : octet_Reader).at_), .int .i64 ((⟨m0.s_, m0.at_, x1⟩ : octet_Reader).e_)] 81]) (fun w hs => sat_to [0, 0] 0 rfl hs) rfl  ⟨rfl, rfl⟩
  refine cw_cond_f rfl rfl h22 ?_
  refine cw_skip ?_
  have hR := Option.some.inj hF
  subst hR
  exact fin0n (H1 := [imm I, pt b0 #[.string m0.s_, .int .i64 m0.at_, .int .i64 m0.e_] 81]) (fun w hs => sat_to [0, 0] 0 rfl hs) rfl  ⟨rfl, rfl⟩


def F.octet_Reader_Raw (x1 : Int) (m0 : octet_Reader) : Option (ByteArray × octet_Reader) :=
  Option.bind (F.octet_Reader_Err m0) (fun (r21 : Int) => if r21 != 0 then (some (((ByteArray.mk #[]), m0))) else (if decide (x1 < 0) then (Option.bind (F.octet_Reader_Fail 1 m0) (fun (r25 : octet_Reader) => some (((ByteArray.mk #[]), r25)))) else (if decide (x1 > (IntKind.i64.wrap ((m0.s_.size : Int) - m0.at_))) then (Option.bind (F.octet_Reader_Fail 2 m0) (fun (r28 : octet_Reader) => some (((ByteArray.mk #[]), r28)))) else (chk (0 ≤ (IntKind.i64.wrap ((IntKind.i64.wrap (m0.at_ + x1)) - x1)) ∧ (IntKind.i64.wrap ((IntKind.i64.wrap (m0.at_ + x1)) - x1)) ≤ (IntKind.i64.wrap (m0.at_ + x1)) ∧ (IntKind.i64.wrap (m0.at_ + x1)) ≤ (m0.s_.size : Int)) (some ((m0.s_.extract (IntKind.i64.wrap ((IntKind.i64.wrap (m0.at_ + x1)) - x1)).toNat (IntKind.i64.wrap (m0.at_ + x1)).toNat, (⟨m0.s_, IntKind.i64.wrap (m0.at_ + x1), m0.e_⟩ : octet_Reader))))))))
set_option maxRecDepth 100000 in
set_option maxHeartbeats 4000000 in
theorem c_octet_Reader_Raw (I : Hl) (x1 : Int) (m0 : octet_Reader) (b0 : Nat) (res : ByteArray × octet_Reader) (hF : F.octet_Reader_Raw x1 m0 = some res) : Tr Tryz.prog 39 [.pointer (some ⟨b0, 0, none⟩), .int .i64 x1] [imm I, pt b0 #[.string m0.s_, .int .i64 m0.at_, .int .i64 m0.e_] 81] (fun r H' => r = .string res.1 ∧ H' = [imm I, pt b0 #[.string res.2.s_, .int .i64 res.2.at_, .int .i64 res.2.e_] 81]) := by
  unfold F.octet_Reader_Raw at hF
  refine tr_of_cw (fn := Tryz.f39) Tryz.func39 rfl (Nat.le_of_ble_eq_true rfl) 52 rfl fun F0 w0 => ?_
  refine cw_keep [0, 1] (L' := [(0, .pointer (some ⟨b0, 0, none⟩)), (1, .int .i64 x1)]) rfl ?_
  refine cw_state (S' := SAT w0 ([imm I, pt b0 #[.string m0.s_, .int .i64 m0.at_, .int .i64 m0.e_] 81] ++ F0)) (fun w hs => hs) ?_
  refine cw_seq ?_
  refine cw_region ?_
  refine ow_vals 1 (j := 1) [0, 1] [(0, .pointer (some ⟨b0, 0, none⟩)), (1, .int .i64 x1)] rfl (by kernel_rfl) ?_
  refine ow_end rfl ?_
  refine ew_then ?_
  refine cw_seq ?_
  refine cw_block ?_
  refine cw_seq ?_
  refine cw_region ?_
  refine ow_vals 1 (j := 1) [0, 1, 6] [(0, .pointer (some ⟨b0, 0, none⟩)), (1, .int .i64 x1), (6, .pointer (some ⟨b0, 0, none⟩))] rfl (by kernel_rfl) ?_
  obtain ⟨r21, h22, hF⟩ := bind_some hF
  refine ow_pw rfl (pw_call (F := [] ++ F0) rfl rfl rfl rfl rfl rfl rfl (by kernel_rfl) (perm_of_pulls [0, 0] rfl) (c_octet_Reader_Err _ m0 b0 r21 h22) ?_)
  rintro _ _ ⟨rfl, rfl⟩
  refine nw_H (H' := [imm I, pt b0 #[.string m0.s_, .int .i64 m0.at_, .int .i64 m0.e_] 81] ++ F0) rfl (nw_ow ?_)
  refine ow_vals 2 (j := 4) [0, 1, 5] [(0, .pointer (some ⟨b0, 0, none⟩)), (1, .int .i64 x1), (5, .bool (r21 != 0))] rfl (by kernel_rfl) ?_
  refine ow_end rfl ?_
  refine ew_then ?_
  rcases if_some hF with ⟨h23, hF⟩ | ⟨h23, hF⟩
  · refine cw_cond_t rfl rfl h23 ?_
    refine cw_seq ?_
    refine cw_region ?_
    refine ow_vals 1 (j := 1) [4] [(4, .string (ByteArray.mk #[]))] rfl (by kernel_rfl) ?_
    refine ow_end rfl ?_
    refine ew_then ?_
    refine cw_ret ?_
    refine ew_blk_ret ?_
    refine ew_then_ret ?_
    have hR := Option.some.inj hF
    subst hR
    exact fin1 (H1 := [imm I, pt b0 #[.string m0.s_, .int .i64 m0.at_, .int .i64 m0.e_] 81]) (fun w hs => sat_to [0, 0] 0 rfl hs) rfl (rr_tmp rfl) ⟨rfl, rfl⟩
  refine cw_cond_f rfl rfl h23 ?_
  refine cw_seq ?_
  refine cw_region ?_
  refine ow_vals 3 (j := 3) [0, 1, 9] [(0, .pointer (some ⟨b0, 0, none⟩)), (1, .int .i64 x1), (9, .bool (decide (x1 < 0)))] rfl (by kernel_rfl) ?_
  refine ow_end rfl ?_
  refine ew_then ?_
  rcases if_some hF with ⟨h24, hF⟩ | ⟨h24, hF⟩
  · refine cw_cond_t rfl rfl h24 ?_
    refine cw_seq ?_
    refine cw_region ?_
    refine ow_vals 1 (j := 1) [12] [(12, .pointer (some ⟨b0, 0, none⟩))] rfl (by kernel_rfl) ?_
    obtain ⟨r25, h26, hF⟩ := bind_some hF
    refine ow_pw rfl (pw_call (F := [] ++ F0) rfl rfl rfl rfl rfl rfl rfl (by kernel_rfl) (perm_of_pulls [0, 0] rfl) (c_octet_Reader_Fail _ 1 m0 b0 r25 h26) ?_)
    rintro _ _ ⟨rfl, rfl⟩
    refine nw_H (H' := [imm I, pt b0 #[.string r25.s_, .int .i64 r25.at_, .int .i64 r25.e_] 81] ++ F0) rfl (nw_ow ?_)
    refine ow_end rfl ?_
    refine ew_then ?_
    refine cw_seq ?_
    refine cw_region ?_
    refine ow_vals 1 (j := 1) [4] [(4, .string (ByteArray.mk #[]))] rfl (by kernel_rfl) ?_
    refine ow_end rfl ?_
    refine ew_then ?_
    refine cw_ret ?_
    refine ew_blk_ret ?_
    refine ew_then_ret ?_
    have hR := Option.some.inj hF
    subst hR
    exact fin1 (H1 := [imm I, pt b0 #[.string r25.s_, .int .i64 r25.at_, .int .i64 r25.e_] 81]) (fun w hs => sat_to [0, 0] 0 rfl hs) rfl (rr_tmp rfl) ⟨rfl, rfl⟩
  refine cw_cond_f rfl rfl h24 ?_
  refine cw_seq ?_
  refine cw_open 13 (SAT w0 ([imm I, pt b0 #[.string m0.s_, .int .i64 m0.at_, .int .i64 m0.e_] 81])) (by kernel_rfl) (f := 13) rfl (fun w hs => sat_drew hs) ?_
  refine aw_vals [0, 1, 2, 3, 6, 7, 8] (f' := 6) (m' := 463) [0, 1, 15, 18, 23] [(0, .pointer (some ⟨b0, 0, none⟩)), (1, .int .i64 x1), (15, .int .i64 x1), (18, .pointer (some ⟨b0, 0, none⟩)), (23, .pointer (some ⟨b0, 1, none⟩))] (fun _ _ _ _ _ h => calm_fin (P := Tryz.prog) (fn := Tryz.f39) _ _ _ _ _ h) (fun w hs => sat_pulls [0, 0] (G := [] ++ F0) rfl hs) rfl (by kernel_rfl) ?_
  refine aw_quiet 4 (m' := 479) (v := .string m0.s_) 0 [] rfl rfl rfl rfl (by kernel_rfl) (by kernel_rfl) (by kernel_rfl) (fun _ _ _ _ _ h => calm_fin (P := Tryz.prog) (fn := Tryz.f39) _ _ _ _ _ h) (fun w hs => sat_pulls [0, 0] (G := [] ++ F0) rfl hs) (q_load 1 rfl rfl rfl (by kernel_rfl)) ?_
  refine aw_vals [5] (f' := 4) (m' := 511) [0, 1, 15, 20, 23] [(0, .pointer (some ⟨b0, 0, none⟩)), (1, .int .i64 x1), (15, .int .i64 x1), (20, .int .i64 (m0.s_.size : Int)), (23, .pointer (some ⟨b0, 1, none⟩))] (fun _ _ _ _ _ h => calm_fin (P := Tryz.prog) (fn := Tryz.f39) _ _ _ _ _ h) (fun w hs => sat_pulls [0, 0] (G := [] ++ F0) rfl hs) rfl (by kernel_rfl) ?_
  refine aw_quiet 9 (m' := 1023) (v := .int .i64 m0.at_) 0 [] rfl rfl rfl rfl (by kernel_rfl) (by kernel_rfl) (by kernel_rfl) (fun _ _ _ _ _ h => calm_fin (P := Tryz.prog) (fn := Tryz.f39) _ _ _ _ _ h) (fun w hs => sat_pulls [0, 0] (G := [] ++ F0) rfl hs) (q_load 1 rfl rfl rfl (by kernel_rfl)) ?_
  refine aw_vals [10, 11, 12] (f' := 0) (m' := 8191) [0, 1, 14] [(0, .pointer (some ⟨b0, 0, none⟩)), (1, .int .i64 x1), (14, .bool (decide (x1 > (IntKind.i64.wrap ((m0.s_.size : Int) - m0.at_)))))] (fun _ _ _ _ _ h => calm_fin (P := Tryz.prog) (fn := Tryz.f39) _ _ _ _ _ h) (fun w hs => sat_pulls [0, 0] (G := [] ++ F0) rfl hs) rfl (by kernel_rfl) ?_
  refine aw_keep [0, 1, 14] (L' := [(0, .pointer (some ⟨b0, 0, none⟩)), (1, .int .i64 x1), (14, .bool (decide (x1 > (IntKind.i64.wrap ((m0.s_.size : Int) - m0.at_)))))]) rfl ?_
  refine aw_end (by kernel_rfl) ?_
  refine ew_then ?_
  rcases if_some hF with ⟨h27, hF⟩ | ⟨h27, hF⟩
  · refine cw_cond_t rfl rfl h27 ?_
    refine cw_seq ?_
    refine cw_region ?_
    refine ow_vals 1 (j := 1) [27] [(27, .pointer (some ⟨b0, 0, none⟩))] rfl (by kernel_rfl) ?_
    obtain ⟨r28, h29, hF⟩ := bind_some hF
    refine ow_pw rfl (pw_call (F := [] ++ F0) rfl rfl rfl rfl rfl rfl rfl (by kernel_rfl) (perm_of_pulls [0, 0] rfl) (c_octet_Reader_Fail _ 2 m0 b0 r28 h29) ?_)
    rintro _ _ ⟨rfl, rfl⟩
    refine nw_H (H' := [imm I, pt b0 #[.string r28.s_, .int .i64 r28.at_, .int .i64 r28.e_] 81] ++ F0) rfl (nw_ow ?_)
    refine ow_end rfl ?_
    refine ew_then ?_
    refine cw_seq ?_
    refine cw_region ?_
    refine ow_vals 1 (j := 1) [4] [(4, .string (ByteArray.mk #[]))] rfl (by kernel_rfl) ?_
    refine ow_end rfl ?_
    refine ew_then ?_
    refine cw_ret ?_
    refine ew_blk_ret ?_
    refine ew_then_ret ?_
    have hR := Option.some.inj hF
    subst hR
    exact fin1 (H1 := [imm I, pt b0 #[.string r28.s_, .int .i64 r28.at_, .int .i64 r28.e_] 81]) (fun w hs => sat_to [0, 0] 0 rfl hs) rfl (rr_tmp rfl) ⟨rfl, rfl⟩
  refine cw_cond_f rfl rfl h27 ?_
  refine cw_skip ?_
  refine ew_blk ?_
  refine ew_then ?_
  refine cw_seq ?_
  refine cw_region ?_
  refine ow_vals 3 (j := 3) [0, 1, 29, 31] [(0, .pointer (some ⟨b0, 0, none⟩)), (1, .int .i64 x1), (29, .pointer (some ⟨b0, 0, none⟩)), (31, .pointer (some ⟨b0, 1, none⟩))] rfl (by kernel_rfl) ?_
  refine ow_pw rfl (pw_quiet (v := .int .i64 m0.at_) rfl rfl rfl rfl (q_load 1 rfl rfl rfl (by kernel_rfl)) (nw_ow ?_))
  refine ow_vals 4 (j := 8) [0, 1, 34, 36] [(0, .pointer (some ⟨b0, 0, none⟩)), (1, .int .i64 x1), (34, .int .i64 (IntKind.i64.wrap (m0.at_ + x1))), (36, .pointer (some ⟨b0, 1, none⟩))] rfl (by kernel_rfl) ?_
  refine ow_pw rfl (pw_store 1 #[.string m0.s_, .int .i64 (IntKind.i64.wrap (m0.at_ + x1)), .int .i64 m0.e_] rfl rfl rfl rfl rfl rfl rfl (by kernel_rfl) (nw_H (H' := [imm I, pt b0 #[.string m0.s_, .int .i64 (IntKind.i64.wrap (m0.at_ + x1)), .int .i64 m0.e_] 81] ++ F0) rfl (nw_ow ?_)))
  refine ow_end rfl ?_
  refine ew_then ?_
  refine cw_seq ?_
  refine cw_open 16 (SAT w0 ([imm I, pt b0 #[.string m0.s_, .int .i64 (IntKind.i64.wrap (m0.at_ + x1)), .int .i64 m0.e_] 81])) (by kernel_rfl) (f := 16) rfl (fun w hs => sat_drew hs) ?_
  refine aw_vals [0, 1, 2, 4, 5, 6, 8, 10, 11, 12] (f' := 6) (m' := 7543) [39, 43, 45, 49] [(39, .pointer (some ⟨b0, 0, none⟩)), (43, .pointer (some ⟨b0, 1, none⟩)), (45, .int .i64 x1), (49, .pointer (some ⟨b0, 1, none⟩))] (fun _ _ _ _ _ h => calm_fin (P := Tryz.prog) (fn := Tryz.f39) _ _ _ _ _ h) (fun w hs => sat_pulls [0, 0] (G := [] ++ F0) rfl hs) rfl (by kernel_rfl) ?_
  refine aw_quiet 3 (m' := 7551) (v := .string m0.s_) 0 [] rfl rfl rfl rfl (by kernel_rfl) (by kernel_rfl) (by kernel_rfl) (fun _ _ _ _ _ h => calm_fin (P := Tryz.prog) (fn := Tryz.f39) _ _ _ _ _ h) (fun w hs => sat_pulls [0, 0] (G := [] ++ F0) rfl hs) (q_load 1 rfl rfl rfl (by kernel_rfl)) ?_
  refine aw_quiet 7 (m' := 7679) (v := .int .i64 (IntKind.i64.wrap (m0.at_ + x1))) 0 [] rfl rfl rfl rfl (by kernel_rfl) (by kernel_rfl) (by kernel_rfl) (fun _ _ _ _ _ h => calm_fin (P := Tryz.prog) (fn := Tryz.f39) _ _ _ _ _ h) (fun w hs => sat_pulls [0, 0] (G := [] ++ F0) rfl hs) (q_load 1 rfl rfl rfl (by kernel_rfl)) ?_
  refine aw_vals [9] (f' := 3) (m' := 8191) [40, 46, 49] [(40, .string m0.s_), (46, .int .i64 (IntKind.i64.wrap ((IntKind.i64.wrap (m0.at_ + x1)) - x1))), (49, .pointer (some ⟨b0, 1, none⟩))] (fun _ _ _ _ _ h => calm_fin (P := Tryz.prog) (fn := Tryz.f39) _ _ _ _ _ h) (fun w hs => sat_pulls [0, 0] (G := [] ++ F0) rfl hs) rfl (by kernel_rfl) ?_
  refine aw_quiet 13 (m' := 16383) (v := .int .i64 (IntKind.i64.wrap (m0.at_ + x1))) 0 [] rfl rfl rfl rfl (by kernel_rfl) (by kernel_rfl) (by kernel_rfl) (fun _ _ _ _ _ h => calm_fin (P := Tryz.prog) (fn := Tryz.f39) _ _ _ _ _ h) (fun w hs => sat_pulls [0, 0] (G := [] ++ F0) rfl hs) (q_load 1 rfl rfl rfl (by kernel_rfl)) ?_
  obtain ⟨h30, hF⟩ := chk_some hF
  refine aw_pure 14 (m' := 32767) (v := .string (m0.s_.extract (IntKind.i64.wrap ((IntKind.i64.wrap (m0.at_ + x1)) - x1)).toNat (IntKind.i64.wrap (m0.at_ + x1)).toNat)) rfl rfl rfl rfl (by kernel_rfl) (by kernel_rfl) (fun _ _ _ _ _ h => calm_fin (P := Tryz.prog) (fn := Tryz.f39) _ _ _ _ _ h) (fun w hs => sat_pulls [0, 0] (G := [] ++ F0) rfl hs) (q_slice_str rfl (by kernel_rfl) rfl rfl rfl h30.1 h30.2.1 h30.2.2) ?_
  refine aw_vals [15] (f' := 0) (m' := 65535) [4] [(4, .string (m0.s_.extract (IntKind.i64.wrap ((IntKind.i64.wrap (m0.at_ + x1)) - x1)).toNat (IntKind.i64.wrap (m0.at_ + x1)).toNat))] (fun _ _ _ _ _ h => calm_fin (P := Tryz.prog) (fn := Tryz.f39) _ _ _ _ _ h) (fun w hs => sat_pulls [0, 0] (G := [] ++ F0) rfl hs) rfl (by kernel_rfl) ?_
  refine aw_keep [4] (L' := [(4, .string (m0.s_.extract (IntKind.i64.wrap ((IntKind.i64.wrap (m0.at_ + x1)) - x1)).toNat (IntKind.i64.wrap (m0.at_ + x1)).toNat))]) rfl ?_
  refine aw_end (by kernel_rfl) ?_
  refine ew_then ?_
  refine cw_ret ?_
  have hR := Option.some.inj hF
  subst hR
  exact fin1 (H1 := [imm I, pt b0 #[.string ((⟨m0.s_, IntKind.i64.wrap (m0.at_ + x1), m0.e_⟩ : octet_Reader).s_), .int .i64 ((⟨m0.s_, IntKind.i64.wrap (m0.at_ + x1), m0.e_⟩ : octet_Reader).at_), .int .i64 ((⟨m0.s_, IntKind.i64.wrap (m0.at_ + x1), m0.e_⟩ : octet_Reader).e_)] 81]) (fun w hs => sat_to [0, 0] 0 rfl hs) rfl (rr_tmp rfl) ⟨rfl, rfl⟩


def F.octet_Reader_Num.r1 (x36 : Int) (x37 : Int) (y39 : Int) : Option ((Int × Int) ⊕ ((Int × ByteArray × Int × Int) ⊕ (Int × octet_Reader))) :=
  some (.inl (ior .i64 (IntKind.i64.wrap (x36 * 2 ^ 8)) (IntKind.i64.wrap (y39)), IntKind.i64.wrap (x37 + 1)))
def F.octet_Reader_Num.l2 (r29 : ByteArray × octet_Reader) (x36 : Int) (x37 : Int) : Option ((Int × Int) ⊕ ((Int × ByteArray × Int × Int) ⊕ (Int × octet_Reader))) :=
  if decide (x37 < ((sbytes r29.1).length : Int)) then (Option.bind (at_ (sbytes r29.1) x37) (fun (y39 : Int) => thru (if x37 == 0 then (if y39 == 0 then (Option.bind (F.octet_Reader_Fail 4 r29.2) (fun (r44 : octet_Reader) => some (.inr (.inr (.inr ((0, r44))))))) else (some (.inl ()))) else (some (.inl ()))) (fun x => F.octet_Reader_Num.r1 x36 x37 y39))) else (some (.inr (.inl (x36, r29.2.s_, r29.2.at_, r29.2.e_))))
def F.octet_Reader_Num.r3 (x1 : Int) (x46 : Int) (s47 : ByteArray) (x48 : Int) (x49 : Int) : Option (Int × octet_Reader) :=
  Option.bind (F.octet_Reader_Err (⟨s47, x48, x49⟩ : octet_Reader)) (fun (r50 : Int) => if r50 != 0 then (some ((0, (⟨s47, x48, x49⟩ : octet_Reader)))) else (if decide (x46 > x1) then (Option.bind (F.octet_Reader_Fail 3 (⟨s47, x48, x49⟩ : octet_Reader)) (fun (r54 : octet_Reader) => some ((0, r54)))) else (some ((x46, (⟨s47, x48, x49⟩ : octet_Reader))))))
def F.octet_Reader_Num (x1 : Int) (m0 : octet_Reader) : Option (Int × octet_Reader) :=
  Option.bind (F.octet_Reader_Raw 1 m0) (fun (r21 : ByteArray × octet_Reader) => if seqB r21.1 (ByteArray.mk #[]) then (some ((0, r21.2))) else (chk (0 ≤ (0 : Int) ∧ 0 < (r21.1.size : Int)) (if decide ((IntKind.i64.wrap (bt r21.1 0)) > 7) then (Option.bind (F.octet_Reader_Fail 4 r21.2) (fun (r26 : octet_Reader) => some ((0, r26)))) else (thru (Option.bind (F.octet_Reader_Raw (IntKind.i64.wrap (bt r21.1 0)) r21.2) (fun (r29 : ByteArray × octet_Reader) => chk (r29.1.size ≤ maxLen) (iter (fun x => F.octet_Reader_Num.l2 r29 x.1 x.2) FUEL (0, 0)))) (fun x => F.octet_Reader_Num.r3 x1 x.1 x.2.1 x.2.2.1 x.2.2.2)))))
set_option maxRecDepth 100000 in
set_option maxHeartbeats 4000000 in
theorem c_octet_Reader_Num (I : Hl) (x1 : Int) (m0 : octet_Reader) (b0 : Nat) (res : Int × octet_Reader) (hF : F.octet_Reader_Num x1 m0 = some res) : Tr Tryz.prog 18 [.pointer (some ⟨b0, 0, none⟩), .int .i64 x1] [imm I, pt b0 #[.string m0.s_, .int .i64 m0.at_, .int .i64 m0.e_] 81] (fun r H' => r = .int .i64 res.1 ∧ H' = [imm I, pt b0 #[.string res.2.s_, .int .i64 res.2.at_, .int .i64 res.2.e_] 81]) := by
  unfold F.octet_Reader_Num at hF
  refine tr_of_cw (fn := Tryz.f18) Tryz.func18 rfl (Nat.le_of_ble_eq_true rfl) 54 rfl fun F0 w0 => ?_
  refine cw_keep [0, 1] (L' := [(0, .pointer (some ⟨b0, 0, none⟩)), (1, .int .i64 x1)]) rfl ?_
  refine cw_state (S' := SAT w0 ([imm I, pt b0 #[.string m0.s_, .int .i64 m0.at_, .int .i64 m0.e_] 81] ++ F0)) (fun w hs => hs) ?_
  refine cw_seq ?_
  refine cw_region ?_
  refine ow_vals 1 (j := 1) [0, 1] [(0, .pointer (some ⟨b0, 0, none⟩)), (1, .int .i64 x1)] rfl (by kernel_rfl) ?_
  refine ow_end rfl ?_
  refine ew_then ?_
  refine cw_seq ?_
  refine cw_region ?_
  refine ow_vals 1 (j := 1) [0, 1, 10] [(0, .pointer (some ⟨b0, 0, none⟩)), (1, .int .i64 x1), (10, .pointer (some ⟨b0, 0, none⟩))] rfl (by kernel_rfl) ?_
  obtain ⟨r21, h22, hF⟩ := bind_some hF
  refine ow_pw rfl (pw_call (F := [] ++ F0) rfl rfl rfl rfl rfl rfl rfl (by kernel_rfl) (perm_of_pulls [0, 0] rfl) (c_octet_Reader_Raw _ 1 m0 b0 r21 h22) ?_)
  rintro _ _ ⟨rfl, rfl⟩
  refine nw_H (H' := [imm I, pt b0 #[.string r21.2.s_, .int .i64 r21.2.at_, .int .i64 r21.2.e_] 81] ++ F0) rfl (nw_ow ?_)
  refine ow_vals 1 (j := 3) [0, 1, 5] [(0, .pointer (some ⟨b0, 0, none⟩)), (1, .int .i64 x1), (5, .string r21.1)] rfl (by kernel_rfl) ?_
  refine ow_end rfl ?_
  refine ew_then ?_
  refine cw_seq ?_
  refine cw_seq ?_
  refine cw_region ?_
  refine ow_vals 2 (j := 2) [0, 1, 5, 13] [(0, .pointer (some ⟨b0, 0, none⟩)), (1, .int .i64 x1), (5, .string r21.1), (13, .bool (seqB r21.1 (ByteArray.mk #[])))] rfl (by kernel_rfl) ?_
  refine ow_end rfl ?_
  refine ew_then ?_
  rcases if_some hF with ⟨h23, hF⟩ | ⟨h23, hF⟩
  · refine cw_cond_t rfl rfl h23 ?_
    refine cw_seq ?_
    refine cw_region ?_
    refine ow_vals 1 (j := 1) [4] [(4, .int .i64 0)] rfl (by kernel_rfl) ?_
    refine ow_end rfl ?_
    refine ew_then ?_
    refine cw_ret ?_
    refine ew_then_ret ?_
    have hR := Option.some.inj hF
    subst hR
    exact fin1 (H1 := [imm I, pt b0 #[.string r21.2.s_, .int .i64 r21.2.at_, .int .i64 r21.2.e_] 81]) (fun w hs => sat_to [0, 0] 0 rfl hs) rfl (rr_tmp rfl) ⟨rfl, rfl⟩
  refine cw_cond_f rfl rfl h23 ?_
  refine cw_skip ?_
  refine ew_then ?_
  refine cw_seq ?_
  refine cw_region ?_
  refine ow_vals 1 (j := 1) [0, 1, 14] [(0, .pointer (some ⟨b0, 0, none⟩)), (1, .int .i64 x1), (14, .string r21.1)] rfl (by kernel_rfl) ?_
  obtain ⟨h24, hF⟩ := chk_some hF
  refine ow_pw rfl (pw_quiet (v := .int .u8 (bt r21.1 0)) rfl rfl rfl rfl (q_index_str rfl (by kernel_rfl) rfl rfl h24.1 h24.2) (nw_ow ?_))
  refine ow_vals 2 (j := 4) [0, 1, 6] [(0, .pointer (some ⟨b0, 0, none⟩)), (1, .int .i64 x1), (6, .int .i64 (IntKind.i64.wrap (bt r21.1 0)))] rfl (by kernel_rfl) ?_
  refine ow_end rfl ?_
  refine ew_then ?_
  refine cw_seq ?_
  refine cw_seq ?_
  refine cw_region ?_
  refine ow_vals 2 (j := 2) [0, 1, 6, 18] [(0, .pointer (some ⟨b0, 0, none⟩)), (1, .int .i64 x1), (6, .int .i64 (IntKind.i64.wrap (bt r21.1 0))), (18, .bool (decide ((IntKind.i64.wrap (bt r21.1 0)) > 7)))] rfl (by kernel_rfl) ?_
  refine ow_end rfl ?_
  refine ew_then ?_
  rcases if_some hF with ⟨h25, hF⟩ | ⟨h25, hF⟩
  · refine cw_cond_t rfl rfl h25 ?_
    refine cw_seq ?_
    refine cw_region ?_
    refine ow_vals 1 (j := 1) [19] [(19, .pointer (some ⟨b0, 0, none⟩))] rfl (by kernel_rfl) ?_
    obtain ⟨r26, h27, hF⟩ := bind_some hF
    refine ow_pw rfl (pw_call (F := [] ++ F0) rfl rfl rfl rfl rfl rfl rfl (by kernel_rfl) (perm_of_pulls [0, 0] rfl) (c_octet_Reader_Fail _ 4 r21.2 b0 r26 h27) ?_)
    rintro _ _ ⟨rfl, rfl⟩
    refine nw_H (H' := [imm I, pt b0 #[.string r26.s_, .int .i64 r26.at_, .int .i64 r26.e_] 81] ++ F0) rfl (nw_ow ?_)
    refine ow_end rfl ?_
    refine ew_then ?_
    refine cw_seq ?_
    refine cw_region ?_
    refine ow_vals 1 (j := 1) [4] [(4, .int .i64 0)] rfl (by kernel_rfl) ?_
    refine ow_end rfl ?_
    refine ew_then ?_
    refine cw_ret ?_
    refine ew_then_ret ?_
    have hR := Option.some.inj hF
    subst hR
    exact fin1 (H1 := [imm I, pt b0 #[.string r26.s_, .int .i64 r26.at_, .int .i64 r26.e_] 81]) (fun w hs => sat_to [0, 0] 0 rfl hs) rfl (rr_tmp rfl) ⟨rfl, rfl⟩
  refine cw_cond_f rfl rfl h25 ?_
  refine cw_skip ?_
  refine ew_then ?_
  refine cw_seq ?_
  refine cw_region ?_
  refine ow_vals 1 (j := 1) [0, 1, 6, 7] [(0, .pointer (some ⟨b0, 0, none⟩)), (1, .int .i64 x1), (6, .int .i64 (IntKind.i64.wrap (bt r21.1 0))), (7, .int .i64 0)] rfl (by kernel_rfl) ?_
  refine ow_end rfl ?_
  refine ew_then ?_
  obtain ⟨v28, hF, hK28⟩ := thru_some hF
  refine cw_mid (fun a w => ∃ (x46 : Int), ∃ (s47 : ByteArray), ∃ (x48 : Int), ∃ (x49 : Int), .inl (x46, s47, x48, x49) = v28 ∧ Fr 54 [(0, .pointer (some ⟨b0, 0, none⟩)), (1, .int .i64 x1), (7, .int .i64 x46)] a ∧ SAT w0 ([imm I, pt b0 #[.string s47, .int .i64 x48, .int .i64 x49] 81] ++ F0) w) ?_ ?_
  · refine cw_seq ?_
    refine cw_region ?_
    refine ow_vals 2 (j := 2) [0, 1, 7, 21, 22] [(0, .pointer (some ⟨b0, 0, none⟩)), (1, .int .i64 x1), (7, .int .i64 0), (21, .pointer (some ⟨b0, 0, none⟩)), (22, .int .i64 (IntKind.i64.wrap (bt r21.1 0)))] rfl (by kernel_rfl) ?_
    obtain ⟨r29, h30, hF⟩ := bind_some hF
    refine ow_pw rfl (pw_call (F := [] ++ F0) rfl rfl rfl rfl rfl rfl rfl (by kernel_rfl) (perm_of_pulls [0, 0] rfl) (c_octet_Reader_Raw _ (IntKind.i64.wrap (bt r21.1 0)) r21.2 b0 r29 h30) ?_)
    rintro _ _ ⟨rfl, rfl⟩
    refine nw_H (H' := [imm I, pt b0 #[.string r29.2.s_, .int .i64 r29.2.at_, .int .i64 r29.2.e_] 81] ++ F0) rfl (nw_ow ?_)
    obtain ⟨h31, hF⟩ := chk_some hF
    refine ow_pw rfl (pw_str_bytes (E := 5) rfl rfl rfl rfl rfl (by kernel_rfl) (by kernel_rfl) (by kernel_rfl) rfl h31 fun p32 c33 => nw_ow ?_)
    refine ow_vals 2 (j := 6) [0, 1, 7, 24, 25, 26] [(0, .pointer (some ⟨b0, 0, none⟩)), (1, .int .i64 x1), (7, .int .i64 0), (24, .slice p32 (sbytes r29.1).length c33), (25, .int .i64 ((sbytes r29.1).length : Int)), (26, .int .i64 0)] rfl (by kernel_rfl) ?_
    refine ow_end rfl ?_
    refine ew_then ?_
    refine cw_block ?_
    refine fun a w hf hs => wp_rounds (fun k a w => ∃ (x36 : Int), ∃ (x37 : Int), iter (fun x => F.octet_Reader_Num.l2 r29 x.1 x.2) k (x36, x37) = some v28 ∧ Fr 54 [(0, .pointer (some ⟨b0, 0, none⟩)), (1, .int .i64 x1), (7, .int .i64 x36), (24, .slice p32 (sbytes r29.1).length c33), (25, .int .i64 ((sbytes r29.1).length : Int)), (26, .int .i64 x37)] a ∧ SAT w0 ([imm I, pt b0 #[.string r29.2.s_, .int .i64 r29.2.at_, .int .i64 r29.2.e_] 81, own (eInt .u8) 5 p32 c33 (sbytes r29.1)] ++ F0) w) ?_ FUEL a w ⟨0, 0, hF, hf.keep [0, 1, 7, 24, 25, 26], sat_to [1, 1, 0] 0 rfl hs⟩
    clear hf hs
    clear a w hF
    rintro k a w ⟨x36, x37, hF2, hf, hs⟩
    obtain ⟨k, r35, rfl, hF, hL35⟩ := iter_some hF2
    clear hF2
    revert a w
    show CW _ _ _ 54 [(0, .pointer (some ⟨b0, 0, none⟩)), (1, .int .i64 x1), (7, .int .i64 x36), (24, .slice p32 (sbytes r29.1).length c33), (25, .int .i64 ((sbytes r29.1).length : Int)), (26, .int .i64 x37)] (SAT w0 ([imm I, pt b0 #[.string r29.2.s_, .int .i64 r29.2.at_, .int .i64 r29.2.e_] 81, own (eInt .u8) 5 p32 c33 (sbytes r29.1)] ++ F0))
    try dsimp only at hF
    unfold F.octet_Reader_Num.l2 at hF
    refine cw_seq ?_
    refine cw_region ?_
    refine ow_vals 1 (j := 1) [0, 1, 7, 24, 25, 26, 27] [(0, .pointer (some ⟨b0, 0, none⟩)), (1, .int .i64 x1), (7, .int .i64 x36), (24, .slice p32 (sbytes r29.1).length c33), (25, .int .i64 ((sbytes r29.1).length : Int)), (26, .int .i64 x37), (27, .bool (decide (x37 < ((sbytes r29.1).length : Int))))] rfl (by kernel_rfl) ?_
    refine ow_end rfl ?_
    refine ew_then ?_
    refine cw_seq ?_
    rcases if_some hF with ⟨h38, hF⟩ | ⟨h38, hF⟩
    · refine cw_cond_t rfl rfl h38 ?_
      refine cw_skip ?_
      refine ew_then ?_
      refine cw_seq ?_
      refine cw_block ?_
      refine cw_seq ?_
      refine cw_region ?_
      refine ow_vals 1 (j := 1) [0, 1, 7, 24, 25, 26, 28] [(0, .pointer (some ⟨b0, 0, none⟩)), (1, .int .i64 x1), (7, .int .i64 x36), (24, .slice p32 (sbytes r29.1).length c33), (25, .int .i64 ((sbytes r29.1).length : Int)), (26, .int .i64 x37), (28, .int .i64 x37)] rfl (by kernel_rfl) ?_
      obtain ⟨y39, h40, hF⟩ := bind_some hF
      refine ow_pw rfl (pw_quiet (v := .pointer (some ((base p32).add (x37.toNat * 1)))) rfl rfl rfl rfl (q_index_own 2 1 rfl rfl (by kernel_rfl) rfl rfl (at_some h40).1 (at_lt h40)) (nw_ow ?_))
      refine ow_pw rfl (pw_quiet (v := .int .u8 y39) rfl rfl rfl rfl (q_load_own0 2 1 rfl rfl rfl rfl (at_some h40).2 (by kernel_rfl)) (nw_ow ?_))
      refine ow_vals 2 (j := 5) [0, 1, 7, 8, 9, 24, 25, 26] [(0, .pointer (some ⟨b0, 0, none⟩)), (1, .int .i64 x1), (7, .int .i64 x36), (8, .int .i64 x37), (9, .int .u8 y39), (24, .slice p32 (sbytes r29.1).length c33), (25, .int .i64 ((sbytes r29.1).length : Int)), (26, .int .i64 x37)] rfl (by kernel_rfl) ?_
      refine ow_end rfl ?_
      refine ew_then ?_
      obtain ⟨v41, hF, hK41⟩ := thru_some hF
      refine cw_mid (fun a w => .inl () = v41 ∧ Fr 54 [(0, .pointer (some ⟨b0, 0, none⟩)), (1, .int .i64 x1), (7, .int .i64 x36), (9, .int .u8 y39), (24, .slice p32 (sbytes r29.1).length c33), (25, .int .i64 ((sbytes r29.1).length : Int)), (26, .int .i64 x37)] a ∧ SAT w0 ([imm I, pt b0 #[.string r29.2.s_, .int .i64 r29.2.at_, .int .i64 r29.2.e_] 81, own (eInt .u8) 5 p32 c33 (sbytes r29.1)] ++ F0) w) ?_ ?_
      · refine cw_seq ?_
        refine cw_region ?_
        refine ow_vals 3 (j := 3) [0, 1, 7, 9, 24, 25, 26, 33] [(0, .pointer (some ⟨b0, 0, none⟩)), (1, .int .i64 x1), (7, .int .i64 x36), (9, .int .u8 y39), (24, .slice p32 (sbytes r29.1).length c33), (25, .int .i64 ((sbytes r29.1).length : Int)), (26, .int .i64 x37), (33, .bool (x37 == 0))] rfl (by kernel_rfl) ?_
        rcases if_some hF with ⟨h42, hF⟩ | ⟨h42, hF⟩
        · refine ow_slots (L' := [(0, .pointer (some ⟨b0, 0, none⟩)), (1, .int .i64 x1), (7, .int .i64 x36), (9, .int .u8 y39), (24, .slice p32 (sbytes r29.1).length c33), (25, .int .i64 ((sbytes r29.1).length : Int)), (26, .int .i64 x37), (33, .bool true)]) (by rw [h42]) ?_
          refine ow_vals 3 (j := 6) [0, 1, 7, 9, 24, 25, 26, 36] [(0, .pointer (some ⟨b0, 0, none⟩)), (1, .int .i64 x1), (7, .int .i64 x36), (9, .int .u8 y39), (24, .slice p32 (sbytes r29.1).length c33), (25, .int .i64 ((sbytes r29.1).length : Int)), (26, .int .i64 x37), (36, .bool (y39 == 0))] rfl (by kernel_rfl) ?_
          refine ow_end rfl ?_
          refine ew_then ?_
          rcases if_some hF with ⟨h43, hF⟩ | ⟨h43, hF⟩
          · refine cw_cond_t rfl rfl h43 ?_
            refine cw_seq ?_
            refine cw_region ?_
            refine ow_vals 1 (j := 1) [37] [(37, .pointer (some ⟨b0, 0, none⟩))] rfl (by kernel_rfl) ?_
            obtain ⟨r44, h45, hF⟩ := bind_some hF
            refine ow_pw rfl (pw_call (F := [own (eInt .u8) 5 p32 c33 (sbytes r29.1)] ++ F0) rfl rfl rfl rfl rfl rfl rfl (by kernel_rfl) (perm_of_pulls [0, 0] rfl) (c_octet_Reader_Fail _ 4 r29.2 b0 r44 h45) ?_)
            rintro _ _ ⟨rfl, rfl⟩
            refine nw_H (H' := [imm I, pt b0 #[.string r44.s_, .int .i64 r44.at_, .int .i64 r44.e_] 81, own (eInt .u8) 5 p32 c33 (sbytes r29.1)] ++ F0) rfl (nw_ow ?_)
            refine ow_end rfl ?_
            refine ew_then ?_
            refine cw_seq ?_
            refine cw_region ?_
            refine ow_vals 1 (j := 1) [4] [(4, .int .i64 0)] rfl (by kernel_rfl) ?_
            refine ow_end rfl ?_
            refine ew_then ?_
            refine cw_ret ?_
            refine ew_then_ret ?_
            refine ew_blk_ret ?_
            refine ew_then_ret ?_
            refine ew_then_ret ?_
            refine ew_blk_ret ?_
            refine ew_then_ret ?_
            have hR := Option.some.inj hF
            subst hR
            have hR := hK41
            try dsimp only [Thru] at hR
            subst hR
            have hR := hL35
            try dsimp only at hR
            subst hR
            have hR := hK28
            try dsimp only [Thru] at hR
            subst hR
            exact fin1 (H1 := [imm I, pt b0 #[.string r44.s_, .int .i64 r44.at_, .int .i64 r44.e_] 81]) (fun w hs => sat_to [2, 0, 0] 1 rfl hs) rfl (rr_tmp rfl) ⟨rfl, rfl⟩
          refine cw_cond_f rfl rfl h43 ?_
          refine cw_skip ?_
          have hR := Option.some.inj hF
          exact fun a w hf hs => ⟨hR, hf.keep [0, 1, 7, 9, 24, 25, 26], sat_to [0, 0, 0] 0 rfl hs⟩
        refine ow_slots (L' := [(0, .pointer (some ⟨b0, 0, none⟩)), (1, .int .i64 x1), (7, .int .i64 x36), (9, .int .u8 y39), (24, .slice p32 (sbytes r29.1).length c33), (25, .int .i64 ((sbytes r29.1).length : Int)), (26, .int .i64 x37), (33, .bool false)]) (by rw [h42]) ?_
        refine ow_vals 3 (j := 6) [0, 1, 7, 9, 24, 25, 26, 36] [(0, .pointer (some ⟨b0, 0, none⟩)), (1, .int .i64 x1), (7, .int .i64 x36), (9, .int .u8 y39), (24, .slice p32 (sbytes r29.1).length c33), (25, .int .i64 ((sbytes r29.1).length : Int)), (26, .int .i64 x37), (36, .bool false)] rfl (by kernel_rfl) ?_
        refine ow_end rfl ?_
        refine ew_then ?_
        refine cw_cond_f rfl rfl rfl ?_
        refine cw_skip ?_
        have hR := Option.some.inj hF
        exact fun a w hf hs => ⟨hR, hf.keep [0, 1, 7, 9, 24, 25, 26], sat_to [0, 0, 0] 0 rfl hs⟩
      rintro a w ⟨hv, hf, hs⟩
      subst hv
      replace hF := hK41
      clear hK41
      try dsimp only [Thru] at hF
      revert a w
      show CW _ _ _ 54 [(0, .pointer (some ⟨b0, 0, none⟩)), (1, .int .i64 x1), (7, .int .i64 x36), (9, .int .u8 y39), (24, .slice p32 (sbytes r29.1).length c33), (25, .int .i64 ((sbytes r29.1).length : Int)), (26, .int .i64 x37)] (SAT w0 ([imm I, pt b0 #[.string r29.2.s_, .int .i64 r29.2.at_, .int .i64 r29.2.e_] 81, own (eInt .u8) 5 p32 c33 (sbytes r29.1)] ++ F0))
      unfold F.octet_Reader_Num.r1 at hF
      refine cw_region ?_
      refine ow_vals 6 (j := 6) [0, 1, 7, 24, 25, 26] [(0, .pointer (some ⟨b0, 0, none⟩)), (1, .int .i64 x1), (7, .int .i64 (ior .i64 (IntKind.i64.wrap (x36 * 2 ^ 8)) (IntKind.i64.wrap (y39)))), (24, .slice p32 (sbytes r29.1).length c33), (25, .int .i64 ((sbytes r29.1).length : Int)), (26, .int .i64 x37)] rfl (by kernel_rfl) ?_
      refine ow_end rfl ?_
      refine ew_blk ?_
      refine ew_then ?_
      refine cw_region ?_
      refine ow_vals 2 (j := 2) [0, 1, 7, 24, 25, 26] [(0, .pointer (some ⟨b0, 0, none⟩)), (1, .int .i64 x1), (7, .int .i64 (ior .i64 (IntKind.i64.wrap (x36 * 2 ^ 8)) (IntKind.i64.wrap (y39)))), (24, .slice p32 (sbytes r29.1).length c33), (25, .int .i64 ((sbytes r29.1).length : Int)), (26, .int .i64 (IntKind.i64.wrap (x37 + 1)))] rfl (by kernel_rfl) ?_
      refine ow_end rfl ?_
      have hR := Option.some.inj hF
      subst hR
      have hR := hL35
      try dsimp only at hR
      exact fun a w hf hs => ⟨k, Nat.lt_succ_self k, ior .i64 (IntKind.i64.wrap (x36 * 2 ^ 8)) (IntKind.i64.wrap (y39)), IntKind.i64.wrap (x37 + 1), hR, hf.keep [0, 1, 7, 24, 25, 26], sat_to [0, 0, 0] 0 rfl hs⟩
    refine cw_cond_f rfl rfl h38 ?_
    refine cw_exit ?_
    refine ew_then_exit ?_
    refine ew_then_exit ?_
    refine ew_blk_exit ?_
    have hR := Option.some.inj hF
    subst hR
    have hR := hL35
    try dsimp only at hR
    exact fun a w hf hs => ⟨x36, r29.2.s_, r29.2.at_, r29.2.e_, hR, hf.keep [0, 1, 7], sat_to [2, 0, 0] 1 rfl hs⟩
  rintro a w ⟨x46, s47, x48, x49, hv, hf, hs⟩
  subst hv
  replace hF := hK28
  clear hK28
  try dsimp only [Thru] at hF
  revert a w
  show CW _ _ _ 54 [(0, .pointer (some ⟨b0, 0, none⟩)), (1, .int .i64 x1), (7, .int .i64 x46)] (SAT w0 ([imm I, pt b0 #[.string s47, .int .i64 x48, .int .i64 x49] 81] ++ F0))
  unfold F.octet_Reader_Num.r3 at hF
  refine cw_seq ?_
  refine cw_seq ?_
  refine cw_region ?_
  refine ow_vals 1 (j := 1) [0, 1, 7, 45] [(0, .pointer (some ⟨b0, 0, none⟩)), (1, .int .i64 x1), (7, .int .i64 x46), (45, .pointer (some ⟨b0, 0, none⟩))] rfl (by kernel_rfl) ?_
  obtain ⟨r50, h51, hF⟩ := bind_some hF
  refine ow_pw rfl (pw_call (F := [] ++ F0) rfl rfl rfl rfl rfl rfl rfl (by kernel_rfl) (perm_of_pulls [0, 0] rfl) (c_octet_Reader_Err _ (⟨s47, x48, x49⟩ : octet_Reader) b0 r50 h51) ?_)
  rintro _ _ ⟨rfl, rfl⟩
  refine nw_H (H' := [imm I, pt b0 #[.string ((⟨s47, x48, x49⟩ : octet_Reader).s_), .int .i64 ((⟨s47, x48, x49⟩ : octet_Reader).at_), .int .i64 ((⟨s47, x48, x49⟩ : octet_Reader).e_)] 81] ++ F0) rfl (nw_ow ?_)
  refine ow_vals 1 (j := 3) [0, 1, 7, 47] [(0, .pointer (some ⟨b0, 0, none⟩)), (1, .int .i64 x1), (7, .int .i64 x46), (47, .bool (r50 != 0))] rfl (by kernel_rfl) ?_
  refine ow_end rfl ?_
  refine ew_then ?_
  rcases if_some hF with ⟨h52, hF⟩ | ⟨h52, hF⟩
  · refine cw_cond_t rfl rfl h52 ?_
    refine cw_seq ?_
    refine cw_region ?_
    refine ow_vals 1 (j := 1) [4] [(4, .int .i64 0)] rfl (by kernel_rfl) ?_
    refine ow_end rfl ?_
    refine ew_then ?_
    refine cw_ret ?_
    refine ew_then_ret ?_
    have hR := Option.some.inj hF
    subst hR
    exact fin1 (H1 := [imm I, pt b0 #[.string ((⟨s47, x48, x49⟩ : octet_Reader).s_), .int .i64 ((⟨s47, x48, x49⟩ : octet_Reader).at_), .int .i64 ((⟨s47, x48, x49⟩ : octet_Reader).e_)] 81]) (fun w hs => sat_to [0, 0] 0 rfl hs) rfl (rr_tmp rfl) ⟨rfl, rfl⟩
  refine cw_cond_f rfl rfl h52 ?_
  refine cw_skip ?_
  refine ew_then ?_
  refine cw_seq ?_
  refine cw_seq ?_
  refine cw_region ?_
  refine ow_vals 3 (j := 3) [0, 7, 50] [(0, .pointer (some ⟨b0, 0, none⟩)), (7, .int .i64 x46), (50, .bool (decide (x46 > x1)))] rfl (by kernel_rfl) ?_
  refine ow_end rfl ?_
  refine ew_then ?_
  rcases if_some hF with ⟨h53, hF⟩ | ⟨h53, hF⟩
  · refine cw_cond_t rfl rfl h53 ?_
    refine cw_seq ?_
    refine cw_region ?_
    refine ow_vals 1 (j := 1) [51] [(51, .pointer (some ⟨b0, 0, none⟩))] rfl (by kernel_rfl) ?_
    obtain ⟨r54, h55, hF⟩ := bind_some hF
    refine ow_pw rfl (pw_call (F := [] ++ F0) rfl rfl rfl rfl rfl rfl rfl (by kernel_rfl) (perm_of_pulls [0, 0] rfl) (c_octet_Reader_Fail _ 3 (⟨s47, x48, x49⟩ : octet_Reader) b0 r54 h55) ?_)
    rintro _ _ ⟨rfl, rfl⟩
    refine nw_H (H' := [imm I, pt b0 #[.string r54.s_, .int .i64 r54.at_, .int .i64 r54.e_] 81] ++ F0) rfl (nw_ow ?_)
    refine ow_end rfl ?_
    refine ew_then ?_
    refine cw_seq ?_
    refine cw_region ?_
    refine ow_vals 1 (j := 1) [4] [(4, .int .i64 0)] rfl (by kernel_rfl) ?_
    refine ow_end rfl ?_
    refine ew_then ?_
    refine cw_ret ?_
    refine ew_then_ret ?_
    have hR := Option.some.inj hF
    subst hR
    exact fin1 (H1 := [imm I, pt b0 #[.string r54.s_, .int .i64 r54.at_, .int .i64 r54.e_] 81]) (fun w hs => sat_to [0, 0] 0 rfl hs) rfl (rr_tmp rfl) ⟨rfl, rfl⟩
  refine cw_cond_f rfl rfl h53 ?_
  refine cw_skip ?_
  refine ew_then ?_
  refine cw_seq ?_
  refine cw_region ?_
  refine ow_vals 2 (j := 2) [4] [(4, .int .i64 x46)] rfl (by kernel_rfl) ?_
  refine ow_end rfl ?_
  refine ew_then ?_
  refine cw_ret ?_
  have hR := Option.some.inj hF
  subst hR
  exact fin1 (H1 := [imm I, pt b0 #[.string ((⟨s47, x48, x49⟩ : octet_Reader).s_), .int .i64 ((⟨s47, x48, x49⟩ : octet_Reader).at_), .int .i64 ((⟨s47, x48, x49⟩ : octet_Reader).e_)] 81]) (fun w hs => sat_to [0, 0] 0 rfl hs) rfl (rr_tmp rfl) ⟨rfl, rfl⟩


def F.octet_Reader_Text (x1 : Int) (m0 : octet_Reader) : Option (ByteArray × octet_Reader) :=
  Option.bind (F.octet_Reader_Num x1 m0) (fun (r21 : Int × octet_Reader) => Option.bind (F.octet_Reader_Raw r21.1 r21.2) (fun (r23 : ByteArray × octet_Reader) => some ((r23.1, r23.2))))
set_option maxRecDepth 100000 in
set_option maxHeartbeats 4000000 in
theorem c_octet_Reader_Text (I : Hl) (x1 : Int) (m0 : octet_Reader) (b0 : Nat) (res : ByteArray × octet_Reader) (hF : F.octet_Reader_Text x1 m0 = some res) : Tr Tryz.prog 17 [.pointer (some ⟨b0, 0, none⟩), .int .i64 x1] [imm I, pt b0 #[.string m0.s_, .int .i64 m0.at_, .int .i64 m0.e_] 81] (fun r H' => r = .string res.1 ∧ H' = [imm I, pt b0 #[.string res.2.s_, .int .i64 res.2.at_, .int .i64 res.2.e_] 81]) := by
  unfold F.octet_Reader_Text at hF
  refine tr_of_cw (fn := Tryz.f17) Tryz.func17 rfl (Nat.le_of_ble_eq_true rfl) 10 rfl fun F0 w0 => ?_
  refine cw_keep [0, 1] (L' := [(0, .pointer (some ⟨b0, 0, none⟩)), (1, .int .i64 x1)]) rfl ?_
  refine cw_state (S' := SAT w0 ([imm I, pt b0 #[.string m0.s_, .int .i64 m0.at_, .int .i64 m0.e_] 81] ++ F0)) (fun w hs => hs) ?_
  refine cw_seq ?_
  refine cw_region ?_
  refine ow_vals 1 (j := 1) [0, 1] [(0, .pointer (some ⟨b0, 0, none⟩)), (1, .int .i64 x1)] rfl (by kernel_rfl) ?_
  refine ow_end rfl ?_
  refine ew_then ?_
  refine cw_seq ?_
  refine cw_region ?_
  refine ow_vals 3 (j := 3) [5, 6, 7] [(5, .pointer (some ⟨b0, 0, none⟩)), (6, .pointer (some ⟨b0, 0, none⟩)), (7, .int .i64 x1)] rfl (by kernel_rfl) ?_
  obtain ⟨r21, h22, hF⟩ := bind_some hF
  refine ow_pw rfl (pw_call (F := [] ++ F0) rfl rfl rfl rfl rfl rfl rfl (by kernel_rfl) (perm_of_pulls [0, 0] rfl) (c_octet_Reader_Num _ x1 m0 b0 r21 h22) ?_)
  rintro _ _ ⟨rfl, rfl⟩
  refine nw_H (H' := [imm I, pt b0 #[.string r21.2.s_, .int .i64 r21.2.at_, .int .i64 r21.2.e_] 81] ++ F0) rfl (nw_ow ?_)
  obtain ⟨r23, h24, hF⟩ := bind_some hF
  refine ow_pw rfl (pw_call (F := [] ++ F0) rfl rfl rfl rfl rfl rfl rfl (by kernel_rfl) (perm_of_pulls [0, 0] rfl) (c_octet_Reader_Raw _ r21.1 r21.2 b0 r23 h24) ?_)
  rintro _ _ ⟨rfl, rfl⟩
  refine nw_H (H' := [imm I, pt b0 #[.string r23.2.s_, .int .i64 r23.2.at_, .int .i64 r23.2.e_] 81] ++ F0) rfl (nw_ow ?_)
  refine ow_vals 1 (j := 6) [4] [(4, .string r23.1)] rfl (by kernel_rfl) ?_
  refine ow_end rfl ?_
  refine ew_then ?_
  refine cw_ret ?_
  have hR := Option.some.inj hF
  subst hR
  exact fin1 (H1 := [imm I, pt b0 #[.string r23.2.s_, .int .i64 r23.2.at_, .int .i64 r23.2.e_] 81]) (fun w hs => sat_to [0, 0] 0 rfl hs) rfl (rr_tmp rfl) ⟨rfl, rfl⟩


def F.octet_Reader_Left (m0 : octet_Reader) : Option Int :=
  Option.bind (F.octet_Reader_Err m0) (fun (r21 : Int) => if r21 != 0 then (some (0)) else (some ((IntKind.i64.wrap ((m0.s_.size : Int) - m0.at_)))))
set_option maxRecDepth 100000 in
set_option maxHeartbeats 4000000 in
theorem c_octet_Reader_Left (I : Hl) (m0 : octet_Reader) (b0 : Nat) (res : Int) (hF : F.octet_Reader_Left m0 = some res) : Tr Tryz.prog 65 [.pointer (some ⟨b0, 0, none⟩)] [imm I, pt b0 #[.string m0.s_, .int .i64 m0.at_, .int .i64 m0.e_] 81] (fun r H' => r = .int .i64 res ∧ H' = [imm I, pt b0 #[.string m0.s_, .int .i64 m0.at_, .int .i64 m0.e_] 81]) := by
  unfold F.octet_Reader_Left at hF
  refine tr_of_cw (fn := Tryz.f65) Tryz.func65 rfl (Nat.le_of_ble_eq_true rfl) 16 rfl fun F0 w0 => ?_
  refine cw_keep [0] (L' := [(0, .pointer (some ⟨b0, 0, none⟩))]) rfl ?_
  refine cw_state (S' := SAT w0 ([imm I, pt b0 #[.string m0.s_, .int .i64 m0.at_, .int .i64 m0.e_] 81] ++ F0)) (fun w hs => hs) ?_
  refine cw_seq ?_
  refine cw_region ?_
  refine ow_vals 1 (j := 1) [0] [(0, .pointer (some ⟨b0, 0, none⟩))] rfl (by kernel_rfl) ?_
  refine ow_end rfl ?_
  refine ew_then ?_
  refine cw_seq ?_
  refine cw_seq ?_
  refine cw_region ?_
  refine ow_vals 1 (j := 1) [0, 3] [(0, .pointer (some ⟨b0, 0, none⟩)), (3, .pointer (some ⟨b0, 0, none⟩))] rfl (by kernel_rfl) ?_
  obtain ⟨r21, h22, hF⟩ := bind_some hF
  refine ow_pw rfl (pw_call (F := [] ++ F0) rfl rfl rfl rfl rfl rfl rfl (by kernel_rfl) (perm_of_pulls [0, 0] rfl) (c_octet_Reader_Err _ m0 b0 r21 h22) ?_)
  rintro _ _ ⟨rfl, rfl⟩
  refine nw_H (H' := [imm I, pt b0 #[.string m0.s_, .int .i64 m0.at_, .int .i64 m0.e_] 81] ++ F0) rfl (nw_ow ?_)
  refine ow_vals 1 (j := 3) [0, 5] [(0, .pointer (some ⟨b0, 0, none⟩)), (5, .bool (r21 != 0))] rfl (by kernel_rfl) ?_
  refine ow_end rfl ?_
  refine ew_then ?_
  rcases if_some hF with ⟨h23, hF⟩ | ⟨h23, hF⟩
  · refine cw_cond_t rfl rfl h23 ?_
    refine cw_seq ?_
    refine cw_region ?_
    refine ow_vals 1 (j := 1) [2] [(2, .int .i64 0)] rfl (by kernel_rfl) ?_
    refine ow_end rfl ?_
    refine ew_then ?_
    refine cw_ret ?_
    refine ew_then_ret ?_
    have hR := Option.some.inj hF
    subst hR
    exact fin1 (H1 := [imm I, pt b0 #[.string m0.s_, .int .i64 m0.at_, .int .i64 m0.e_] 81]) (fun w hs => sat_to [0, 0] 0 rfl hs) rfl (rr_tmp rfl) ⟨rfl, rfl⟩
  refine cw_cond_f rfl rfl h23 ?_
  refine cw_skip ?_
  refine ew_then ?_
  refine cw_seq ?_
  refine cw_open 11 (SAT w0 ([imm I, pt b0 #[.string m0.s_, .int .i64 m0.at_, .int .i64 m0.e_] 81])) (by kernel_rfl) (f := 11) rfl (fun w hs => sat_drew hs) ?_
  refine aw_vals [0, 1, 2, 5, 6, 7] (f' := 5) (m' := 231) [8, 13] [(8, .pointer (some ⟨b0, 0, none⟩)), (13, .pointer (some ⟨b0, 1, none⟩))] (fun _ _ _ _ _ h => calm_fin (P := Tryz.prog) (fn := Tryz.f65) _ _ _ _ _ h) (fun w hs => sat_pulls [0, 0] (G := [] ++ F0) rfl hs) rfl (by kernel_rfl) ?_
  refine aw_quiet 3 (m' := 239) (v := .string m0.s_) 0 [] rfl rfl rfl rfl (by kernel_rfl) (by kernel_rfl) (by kernel_rfl) (fun _ _ _ _ _ h => calm_fin (P := Tryz.prog) (fn := Tryz.f65) _ _ _ _ _ h) (fun w hs => sat_pulls [0, 0] (G := [] ++ F0) rfl hs) (q_load 1 rfl rfl rfl (by kernel_rfl)) ?_
  refine aw_vals [4] (f' := 3) (m' := 255) [10, 13] [(10, .int .i64 (m0.s_.size : Int)), (13, .pointer (some ⟨b0, 1, none⟩))] (fun _ _ _ _ _ h => calm_fin (P := Tryz.prog) (fn := Tryz.f65) _ _ _ _ _ h) (fun w hs => sat_pulls [0, 0] (G := [] ++ F0) rfl hs) rfl (by kernel_rfl) ?_
  refine aw_quiet 8 (m' := 511) (v := .int .i64 m0.at_) 0 [] rfl rfl rfl rfl (by kernel_rfl) (by kernel_rfl) (by kernel_rfl) (fun _ _ _ _ _ h => calm_fin (P := Tryz.prog) (fn := Tryz.f65) _ _ _ _ _ h) (fun w hs => sat_pulls [0, 0] (G := [] ++ F0) rfl hs) (q_load 1 rfl rfl rfl (by kernel_rfl)) ?_
  refine aw_vals [9, 10] (f' := 0) (m' := 2047) [2] [(2, .int .i64 (IntKind.i64.wrap ((m0.s_.size : Int) - m0.at_)))] (fun _ _ _ _ _ h => calm_fin (P := Tryz.prog) (fn := Tryz.f65) _ _ _ _ _ h) (fun w hs => sat_pulls [0, 0] (G := [] ++ F0) rfl hs) rfl (by kernel_rfl) ?_
  refine aw_keep [2] (L' := [(2, .int .i64 (IntKind.i64.wrap ((m0.s_.size : Int) - m0.at_)))]) rfl ?_
  refine aw_end (by kernel_rfl) ?_
  refine ew_then ?_
  refine cw_ret ?_
  have hR := Option.some.inj hF
  subst hR
  exact fin1 (H1 := [imm I, pt b0 #[.string m0.s_, .int .i64 m0.at_, .int .i64 m0.e_] 81]) (fun w hs => sat_to [0, 0] 0 rfl hs) rfl (rr_tmp rfl) ⟨rfl, rfl⟩


def F.octet_Reader_End (m0 : octet_Reader) : Option (Int × octet_Reader) :=
  Option.bind (F.octet_Reader_Left m0) (fun (r21 : Int) => if decide (r21 > 0) then (Option.bind (F.octet_Reader_Fail 4 m0) (fun (r24 : octet_Reader) => Option.bind (F.octet_Reader_Err r24) (fun (r26 : Int) => some ((r26, r24))))) else (Option.bind (F.octet_Reader_Err m0) (fun (r28 : Int) => some ((r28, m0)))))
set_option maxRecDepth 100000 in
set_option maxHeartbeats 4000000 in
theorem c_octet_Reader_End (I : Hl) (m0 : octet_Reader) (b0 : Nat) (res : Int × octet_Reader) (hF : F.octet_Reader_End m0 = some res) : Tr Tryz.prog 42 [.pointer (some ⟨b0, 0, none⟩)] [imm I, pt b0 #[.string m0.s_, .int .i64 m0.at_, .int .i64 m0.e_] 81] (fun r H' => r = .int .i64 res.1 ∧ H' = [imm I, pt b0 #[.string res.2.s_, .int .i64 res.2.at_, .int .i64 res.2.e_] 81]) := by
  unfold F.octet_Reader_End at hF
  refine tr_of_cw (fn := Tryz.f42) Tryz.func42 rfl (Nat.le_of_ble_eq_true rfl) 10 rfl fun F0 w0 => ?_
  refine cw_keep [0] (L' := [(0, .pointer (some ⟨b0, 0, none⟩))]) rfl ?_
  refine cw_state (S' := SAT w0 ([imm I, pt b0 #[.string m0.s_, .int .i64 m0.at_, .int .i64 m0.e_] 81] ++ F0)) (fun w hs => hs) ?_
  refine cw_seq ?_
  refine cw_region ?_
  refine ow_vals 1 (j := 1) [0] [(0, .pointer (some ⟨b0, 0, none⟩))] rfl (by kernel_rfl) ?_
  refine ow_end rfl ?_
  refine ew_then ?_
  refine cw_seq ?_
  refine cw_seq ?_
  refine cw_region ?_
  refine ow_vals 1 (j := 1) [0, 3] [(0, .pointer (some ⟨b0, 0, none⟩)), (3, .pointer (some ⟨b0, 0, none⟩))] rfl (by kernel_rfl) ?_
  obtain ⟨r21, h22, hF⟩ := bind_some hF
  refine ow_pw rfl (pw_call (F := [] ++ F0) rfl rfl rfl rfl rfl rfl rfl (by kernel_rfl) (perm_of_pulls [0, 0] rfl) (c_octet_Reader_Left _ m0 b0 r21 h22) ?_)
  rintro _ _ ⟨rfl, rfl⟩
  refine nw_H (H' := [imm I, pt b0 #[.string m0.s_, .int .i64 m0.at_, .int .i64 m0.e_] 81] ++ F0) rfl (nw_ow ?_)
  refine ow_vals 1 (j := 3) [0, 5] [(0, .pointer (some ⟨b0, 0, none⟩)), (5, .bool (decide (r21 > 0)))] rfl (by kernel_rfl) ?_
  refine ow_end rfl ?_
  refine ew_then ?_
  rcases if_some hF with ⟨h23, hF⟩ | ⟨h23, hF⟩
  · refine cw_cond_t rfl rfl h23 ?_
    refine cw_region ?_
    refine ow_vals 1 (j := 1) [0, 6] [(0, .pointer (some ⟨b0, 0, none⟩)), (6, .pointer (some ⟨b0, 0, none⟩))] rfl (by kernel_rfl) ?_
    obtain ⟨r24, h25, hF⟩ := bind_some hF
    refine ow_pw rfl (pw_call (F := [] ++ F0) rfl rfl rfl rfl rfl rfl rfl (by kernel_rfl) (perm_of_pulls [0, 0] rfl) (c_octet_Reader_Fail _ 4 m0 b0 r24 h25) ?_)
    rintro _ _ ⟨rfl, rfl⟩
    refine nw_H (H' := [imm I, pt b0 #[.string r24.s_, .int .i64 r24.at_, .int .i64 r24.e_] 81] ++ F0) rfl (nw_ow ?_)
    refine ow_end rfl ?_
    refine ew_then ?_
    refine cw_seq ?_
    refine cw_region ?_
    refine ow_vals 1 (j := 1) [8] [(8, .pointer (some ⟨b0, 0, none⟩))] rfl (by kernel_rfl) ?_
    obtain ⟨r26, h27, hF⟩ := bind_some hF
    refine ow_pw rfl (pw_call (F := [] ++ F0) rfl rfl rfl rfl rfl rfl rfl (by kernel_rfl) (perm_of_pulls [0, 0] rfl) (c_octet_Reader_Err _ r24 b0 r26 h27) ?_)
    rintro _ _ ⟨rfl, rfl⟩
    refine nw_H (H' := [imm I, pt b0 #[.string r24.s_, .int .i64 r24.at_, .int .i64 r24.e_] 81] ++ F0) rfl (nw_ow ?_)
    refine ow_vals 1 (j := 3) [2] [(2, .int .i64 r26)] rfl (by kernel_rfl) ?_
    refine ow_end rfl ?_
    refine ew_then ?_
    refine cw_ret ?_
    have hR := Option.some.inj hF
    subst hR
    exact fin1 (H1 := [imm I, pt b0 #[.string r24.s_, .int .i64 r24.at_, .int .i64 r24.e_] 81]) (fun w hs => sat_to [0, 0] 0 rfl hs) rfl (rr_tmp rfl) ⟨rfl, rfl⟩
  refine cw_cond_f rfl rfl h23 ?_
  refine cw_skip ?_
  refine ew_then ?_
  refine cw_seq ?_
  refine cw_region ?_
  refine ow_vals 1 (j := 1) [8] [(8, .pointer (some ⟨b0, 0, none⟩))] rfl (by kernel_rfl) ?_
  obtain ⟨r28, h29, hF⟩ := bind_some hF
  refine ow_pw rfl (pw_call (F := [] ++ F0) rfl rfl rfl rfl rfl rfl rfl (by kernel_rfl) (perm_of_pulls [0, 0] rfl) (c_octet_Reader_Err _ m0 b0 r28 h29) ?_)
  rintro _ _ ⟨rfl, rfl⟩
  refine nw_H (H' := [imm I, pt b0 #[.string m0.s_, .int .i64 m0.at_, .int .i64 m0.e_] 81] ++ F0) rfl (nw_ow ?_)
  refine ow_vals 1 (j := 3) [2] [(2, .int .i64 r28)] rfl (by kernel_rfl) ?_
  refine ow_end rfl ?_
  refine ew_then ?_
  refine cw_ret ?_
  have hR := Option.some.inj hF
  subst hR
  exact fin1 (H1 := [imm I, pt b0 #[.string m0.s_, .int .i64 m0.at_, .int .i64 m0.e_] 81]) (fun w hs => sat_to [0, 0] 0 rfl hs) rfl (rr_tmp rfl) ⟨rfl, rfl⟩


def F.super_read (x0 : ByteArray) : Option (super_Super × Bool) :=
  Option.bind (F.octet_Read x0) (fun (r23 : octet_Reader) => Option.bind (F.octet_Reader_Text 6 r23) (fun (r26 : ByteArray × octet_Reader) => if !(seqB r26.1 (ByteArray.mk #[67, 72, 65, 82, 84, 49])) then (some (((⟨0, 0, 0, 0⟩ : super_Super), false))) else (Option.bind (F.octet_Reader_Num 2147483647 r26.2) (fun (r29 : Int × octet_Reader) => Option.bind (F.octet_Reader_Num 2147483647 r29.2) (fun (r31 : Int × octet_Reader) => Option.bind (F.octet_Reader_Num 1 r31.2) (fun (r33 : Int × octet_Reader) => Option.bind (F.octet_Reader_Num 2147483647 r33.2) (fun (r35 : Int × octet_Reader) => Option.bind (F.octet_Reader_End r35.2) (fun (r39 : Int × octet_Reader) => if r39.1 == 0 then (Option.bind (F.super_Right (⟨r29.1, r31.1, r33.1, r35.1⟩ : super_Super)) (fun (r42 : Bool) => some (((⟨r29.1, r31.1, r33.1, r35.1⟩ : super_Super), r42)))) else (some (((⟨r29.1, r31.1, r33.1, r35.1⟩ : super_Super), false)))))))))))
set_option maxRecDepth 100000 in
set_option maxHeartbeats 4000000 in
theorem c_super_read (I : Hl) (x0 : ByteArray) (res : super_Super × Bool) (hF : F.super_read x0 = some res) : Tr Tryz.prog 33 [.string x0] [imm I] (fun r H' => r = .tuple #[.agg #[.int .i64 res.1.Gen, .int .i64 res.1.Boot, .int .i64 res.1.Side, .int .i64 res.1.Seed], .bool res.2] ∧ H' = [imm I]) := by
  unfold F.super_read at hF
  refine tr_of_cw (fn := Tryz.f33) Tryz.func33 rfl (Nat.le_of_ble_eq_true rfl) 29 rfl fun F0 w0 => ?_
  refine cw_keep [0] (L' := [(0, .string x0)]) rfl ?_
  refine cw_state (S' := SAT w0 ([imm I] ++ F0)) (fun w hs => hs) ?_
  refine cw_seq ?_
  refine cw_region ?_
  refine ow_pw rfl (pw_alloc (cs := #[.int .i64 0, .int .i64 0, .int .i64 0, .int .i64 0]) rfl rfl rfl rfl rfl (by kernel_rfl) fun b21 => nw_ow ?_)
  refine ow_vals 1 (j := 2) [0, 2] [(0, .string x0), (2, .pointer (some ⟨b21, 0, none⟩))] rfl (by kernel_rfl) ?_
  refine ow_end rfl ?_
  refine ew_then ?_
  refine cw_seq ?_
  refine cw_region ?_
  refine ow_vals 1 (j := 1) [2, 6] [(2, .pointer (some ⟨b21, 0, none⟩)), (6, .string x0)] rfl (by kernel_rfl) ?_
  obtain ⟨r23, h24, hF⟩ := bind_some hF
  refine ow_pw rfl (pw_call (F := [pt b21 #[.int .i64 0, .int .i64 0, .int .i64 0, .int .i64 0] 23] ++ F0) rfl rfl rfl rfl rfl rfl rfl (by kernel_rfl) (perm_of_pulls [1] rfl) (c_octet_Read _ x0 r23 h24) ?_)
  rintro _ _ ⟨r23_b1, rfl, rfl⟩
  refine nw_H (H' := [imm I, pt r23_b1 #[.string r23.s_, .int .i64 r23.at_, .int .i64 r23.e_] 81, pt b21 #[.int .i64 0, .int .i64 0, .int .i64 0, .int .i64 0] 23] ++ F0) rfl (nw_ow ?_)
  refine ow_vals 1 (j := 3) [2, 4] [(2, .pointer (some ⟨b21, 0, none⟩)), (4, .pointer (some ⟨r23_b1, 0, none⟩))] rfl (by kernel_rfl) ?_
  refine ow_end rfl ?_
  refine ew_then ?_
  refine cw_seq ?_
  refine cw_seq ?_
  refine cw_region ?_
  refine ow_vals 1 (j := 1) [2, 4, 8] [(2, .pointer (some ⟨b21, 0, none⟩)), (4, .pointer (some ⟨r23_b1, 0, none⟩)), (8, .pointer (some ⟨r23_b1, 0, none⟩))] rfl (by kernel_rfl) ?_
  obtain ⟨r26, h27, hF⟩ := bind_some hF
  refine ow_pw rfl (pw_call (F := [pt b21 #[.int .i64 0, .int .i64 0, .int .i64 0, .int .i64 0] 23] ++ F0) rfl rfl rfl rfl rfl rfl rfl (by kernel_rfl) (perm_of_pulls [0, 0] rfl) (c_octet_Reader_Text _ 6 r23 r23_b1 r26 h27) ?_)
  rintro _ _ ⟨rfl, rfl⟩
  refine nw_H (H' := [imm I, pt r23_b1 #[.string r26.2.s_, .int .i64 r26.2.at_, .int .i64 r26.2.e_] 81, pt b21 #[.int .i64 0, .int .i64 0, .int .i64 0, .int .i64 0] 23] ++ F0) rfl (nw_ow ?_)
  refine ow_vals 1 (j := 3) [2, 4, 10] [(2, .pointer (some ⟨b21, 0, none⟩)), (4, .pointer (some ⟨r23_b1, 0, none⟩)), (10, .bool (!(seqB r26.1 (ByteArray.mk #[67, 72, 65, 82, 84, 49]))))] rfl (by kernel_rfl) ?_
  refine ow_end rfl ?_
  refine ew_then ?_
  rcases if_some hF with ⟨h28, hF⟩ | ⟨h28, hF⟩
  · refine cw_cond_t rfl rfl h28 ?_
    refine cw_seq ?_
    refine cw_region ?_
    refine ow_vals 1 (j := 1) [2, 11] [(2, .pointer (some ⟨b21, 0, none⟩)), (11, .agg #[.int .i64 0, .int .i64 0, .int .i64 0, .int .i64 0])] rfl (by kernel_rfl) ?_
    refine ow_pw rfl (pw_store 2 #[.int .i64 0, .int .i64 0, .int .i64 0, .int .i64 0] rfl rfl rfl rfl rfl rfl rfl (by kernel_rfl) (nw_H (H' := [imm I, pt r23_b1 #[.string r26.2.s_, .int .i64 r26.2.at_, .int .i64 r26.2.e_] 81, pt b21 #[.int .i64 0, .int .i64 0, .int .i64 0, .int .i64 0] 23] ++ F0) rfl (nw_ow ?_)))
    refine ow_vals 1 (j := 3) [2, 3] [(2, .pointer (some ⟨b21, 0, none⟩)), (3, .bool false)] rfl (by kernel_rfl) ?_
    refine ow_end rfl ?_
    refine ew_then ?_
    refine cw_ret ?_
    refine ew_then_ret ?_
    have hR := Option.some.inj hF
    subst hR
    exact fin2 (H1 := [imm I]) (fun w hs => sat_to [1, 1, 0] 2 rfl hs) rfl (rr_cell 2 rfl rfl (by kernel_rfl)) (rr_tmp rfl) ⟨rfl, rfl⟩
  refine cw_cond_f rfl rfl h28 ?_
  refine cw_skip ?_
  refine ew_then ?_
  refine cw_seq ?_
  refine cw_region ?_
  refine ow_vals 1 (j := 1) [2, 4, 12] [(2, .pointer (some ⟨b21, 0, none⟩)), (4, .pointer (some ⟨r23_b1, 0, none⟩)), (12, .pointer (some ⟨r23_b1, 0, none⟩))] rfl (by kernel_rfl) ?_
  obtain ⟨r29, h30, hF⟩ := bind_some hF
  refine ow_pw rfl (pw_call (F := [pt b21 #[.int .i64 0, .int .i64 0, .int .i64 0, .int .i64 0] 23] ++ F0) rfl rfl rfl rfl rfl rfl rfl (by kernel_rfl) (perm_of_pulls [0, 0] rfl) (c_octet_Reader_Num _ 2147483647 r26.2 r23_b1 r29 h30) ?_)
  rintro _ _ ⟨rfl, rfl⟩
  refine nw_H (H' := [imm I, pt r23_b1 #[.string r29.2.s_, .int .i64 r29.2.at_, .int .i64 r29.2.e_] 81, pt b21 #[.int .i64 0, .int .i64 0, .int .i64 0, .int .i64 0] 23] ++ F0) rfl (nw_ow ?_)
  refine ow_vals 1 (j := 3) [2, 4, 13, 14] [(2, .pointer (some ⟨b21, 0, none⟩)), (4, .pointer (some ⟨r23_b1, 0, none⟩)), (13, .int .i64 r29.1), (14, .pointer (some ⟨r23_b1, 0, none⟩))] rfl (by kernel_rfl) ?_
  obtain ⟨r31, h32, hF⟩ := bind_some hF
  refine ow_pw rfl (pw_call (F := [pt b21 #[.int .i64 0, .int .i64 0, .int .i64 0, .int .i64 0] 23] ++ F0) rfl rfl rfl rfl rfl rfl rfl (by kernel_rfl) (perm_of_pulls [0, 0] rfl) (c_octet_Reader_Num _ 2147483647 r29.2 r23_b1 r31 h32) ?_)
  rintro _ _ ⟨rfl, rfl⟩
  refine nw_H (H' := [imm I, pt r23_b1 #[.string r31.2.s_, .int .i64 r31.2.at_, .int .i64 r31.2.e_] 81, pt b21 #[.int .i64 0, .int .i64 0, .int .i64 0, .int .i64 0] 23] ++ F0) rfl (nw_ow ?_)
  refine ow_vals 1 (j := 5) [2, 4, 13, 15, 16] [(2, .pointer (some ⟨b21, 0, none⟩)), (4, .pointer (some ⟨r23_b1, 0, none⟩)), (13, .int .i64 r29.1), (15, .int .i64 r31.1), (16, .pointer (some ⟨r23_b1, 0, none⟩))] rfl (by kernel_rfl) ?_
  obtain ⟨r33, h34, hF⟩ := bind_some hF
  refine ow_pw rfl (pw_call (F := [pt b21 #[.int .i64 0, .int .i64 0, .int .i64 0, .int .i64 0] 23] ++ F0) rfl rfl rfl rfl rfl rfl rfl (by kernel_rfl) (perm_of_pulls [0, 0] rfl) (c_octet_Reader_Num _ 1 r31.2 r23_b1 r33 h34) ?_)
  rintro _ _ ⟨rfl, rfl⟩
  refine nw_H (H' := [imm I, pt r23_b1 #[.string r33.2.s_, .int .i64 r33.2.at_, .int .i64 r33.2.e_] 81, pt b21 #[.int .i64 0, .int .i64 0, .int .i64 0, .int .i64 0] 23] ++ F0) rfl (nw_ow ?_)
  refine ow_vals 1 (j := 7) [2, 4, 13, 15, 17, 18] [(2, .pointer (some ⟨b21, 0, none⟩)), (4, .pointer (some ⟨r23_b1, 0, none⟩)), (13, .int .i64 r29.1), (15, .int .i64 r31.1), (17, .int .i64 r33.1), (18, .pointer (some ⟨r23_b1, 0, none⟩))] rfl (by kernel_rfl) ?_
  obtain ⟨r35, h36, hF⟩ := bind_some hF
  refine ow_pw rfl (pw_call (F := [pt b21 #[.int .i64 0, .int .i64 0, .int .i64 0, .int .i64 0] 23] ++ F0) rfl rfl rfl rfl rfl rfl rfl (by kernel_rfl) (perm_of_pulls [0, 0] rfl) (c_octet_Reader_Num _ 2147483647 r33.2 r23_b1 r35 h36) ?_)
  rintro _ _ ⟨rfl, rfl⟩
  refine nw_H (H' := [imm I, pt r23_b1 #[.string r35.2.s_, .int .i64 r35.2.at_, .int .i64 r35.2.e_] 81, pt b21 #[.int .i64 0, .int .i64 0, .int .i64 0, .int .i64 0] 23] ++ F0) rfl (nw_ow ?_)
  refine ow_vals 1 (j := 9) [2, 4, 20] [(2, .pointer (some ⟨b21, 0, none⟩)), (4, .pointer (some ⟨r23_b1, 0, none⟩)), (20, .agg #[.int .i64 r29.1, .int .i64 r31.1, .int .i64 r33.1, .int .i64 r35.1])] rfl (by kernel_rfl) ?_
  refine ow_pw rfl (pw_alloc (cs := #[.int .i64 0, .int .i64 0, .int .i64 0, .int .i64 0]) rfl rfl rfl rfl rfl (by kernel_rfl) fun b37 => nw_ow ?_)
  refine ow_pw rfl (pw_store 0 #[.int .i64 r29.1, .int .i64 r31.1, .int .i64 r33.1, .int .i64 r35.1] rfl rfl rfl rfl rfl rfl rfl (by kernel_rfl) (nw_H (H' := [pt b37 #[.int .i64 r29.1, .int .i64 r31.1, .int .i64 r33.1, .int .i64 r35.1] 23, imm I, pt r23_b1 #[.string r35.2.s_, .int .i64 r35.2.at_, .int .i64 r35.2.e_] 81, pt b21 #[.int .i64 0, .int .i64 0, .int .i64 0, .int .i64 0] 23] ++ F0) rfl (nw_ow ?_)))
  refine ow_end rfl ?_
  refine ew_then ?_
  refine cw_seq ?_
  refine cw_open 8 (SAT w0 ([pt b37 #[.int .i64 r29.1, .int .i64 r31.1, .int .i64 r33.1, .int .i64 r35.1] 23, imm I, pt b21 #[.int .i64 0, .int .i64 0, .int .i64 0, .int .i64 0] 23])) (by kernel_rfl) (f := 10) rfl (fun w hs => sat_drew hs) ?_
  refine aw_vals [1] (f' := 9) (m' := 2) [2, 5, 22] [(2, .pointer (some ⟨b21, 0, none⟩)), (5, .pointer (some ⟨b37, 0, none⟩)), (22, .pointer (some ⟨r23_b1, 0, none⟩))] (fun _ _ _ _ _ h => calm_fin (P := Tryz.prog) (fn := Tryz.f33) _ _ _ _ _ h) (fun w hs => sat_pulls [0, 0, 1] (G := [pt r23_b1 #[.string r35.2.s_, .int .i64 r35.2.at_, .int .i64 r35.2.e_] 81] ++ F0) rfl hs) rfl (by kernel_rfl) ?_
  refine aw_quiet 0 (m' := 3) (v := .agg #[.int .i64 r29.1, .int .i64 r31.1, .int .i64 r33.1, .int .i64 r35.1]) 0 [] rfl rfl rfl rfl (by kernel_rfl) (by kernel_rfl) (by kernel_rfl) (fun _ _ _ _ _ h => calm_fin (P := Tryz.prog) (fn := Tryz.f33) _ _ _ _ _ h) (fun w hs => sat_pulls [0, 0, 1] (G := [pt r23_b1 #[.string r35.2.s_, .int .i64 r35.2.at_, .int .i64 r35.2.e_] 81] ++ F0) rfl hs) (q_load 0 rfl rfl rfl (by kernel_rfl)) ?_
  obtain ⟨r39, h40, hF⟩ := bind_some hF
  refine aw_only 2 (m' := 7) (by kernel_rfl) (by kernel_rfl) (pw_call (F := [pt b37 #[.int .i64 r29.1, .int .i64 r31.1, .int .i64 r33.1, .int .i64 r35.1] 23, pt b21 #[.int .i64 0, .int .i64 0, .int .i64 0, .int .i64 0] 23] ++ F0) rfl rfl rfl rfl rfl rfl rfl (by kernel_rfl) (perm_of_pulls [1, 1] rfl) (c_octet_Reader_End _ r35.2 r23_b1 r39 h40) ?_)
  rintro _ _ ⟨rfl, rfl⟩
  refine nw_H (H' := [imm I, pt r23_b1 #[.string r39.2.s_, .int .i64 r39.2.at_, .int .i64 r39.2.e_] 81, pt b37 #[.int .i64 r29.1, .int .i64 r31.1, .int .i64 r33.1, .int .i64 r35.1] 23, pt b21 #[.int .i64 0, .int .i64 0, .int .i64 0, .int .i64 0] 23] ++ F0) rfl (aw_next (fun w hs => sat_pulls [2, 0, 1] (G := [pt r23_b1 #[.string r39.2.s_, .int .i64 r39.2.at_, .int .i64 r39.2.e_] 81] ++ F0) rfl hs) ?_)
  refine aw_vals [3, 4] (f' := 5) (m' := 31) [2, 5, 21, 25] [(2, .pointer (some ⟨b21, 0, none⟩)), (5, .pointer (some ⟨b37, 0, none⟩)), (21, .agg #[.int .i64 r29.1, .int .i64 r31.1, .int .i64 r33.1, .int .i64 r35.1]), (25, .bool (r39.1 == 0))] (fun _ _ _ _ _ h => calm_fin (P := Tryz.prog) (fn := Tryz.f33) _ _ _ _ _ h) (fun w hs => sat_pulls [2, 0, 1] (G := [pt r23_b1 #[.string r39.2.s_, .int .i64 r39.2.at_, .int .i64 r39.2.e_] 81] ++ F0) rfl hs) rfl (by kernel_rfl) ?_
  rcases if_some hF with ⟨h41, hF⟩ | ⟨h41, hF⟩
  · refine aw_slots (L' := [(2, .pointer (some ⟨b21, 0, none⟩)), (5, .pointer (some ⟨b37, 0, none⟩)), (21, .agg #[.int .i64 r29.1, .int .i64 r31.1, .int .i64 r33.1, .int .i64 r35.1]), (25, .bool true)]) (by rw [h41]) ?_
    refine aw_quiet 5 (m' := 63) (v := .agg #[.int .i64 r29.1, .int .i64 r31.1, .int .i64 r33.1, .int .i64 r35.1]) 6 [5] rfl rfl rfl rfl (by kernel_rfl) (by kernel_rfl) (by kernel_rfl) (fun _ _ _ _ _ h => calm_fin (P := Tryz.prog) (fn := Tryz.f33) _ _ _ _ _ h) (fun w hs => sat_pulls [2, 0, 1] (G := [pt r23_b1 #[.string r39.2.s_, .int .i64 r39.2.at_, .int .i64 r39.2.e_] 81] ++ F0) rfl hs) (q_load 0 rfl rfl rfl (by kernel_rfl)) ?_
    obtain ⟨r42, h43, hF⟩ := bind_some hF
    refine aw_only 6 (m' := 127) (by kernel_rfl) (by kernel_rfl) (pw_call (F := [pt r23_b1 #[.string r39.2.s_, .int .i64 r39.2.at_, .int .i64 r39.2.e_] 81, pt b37 #[.int .i64 r29.1, .int .i64 r31.1, .int .i64 r33.1, .int .i64 r35.1] 23, pt b21 #[.int .i64 0, .int .i64 0, .int .i64 0, .int .i64 0] 23] ++ F0) rfl rfl rfl rfl rfl rfl rfl (by kernel_rfl) (perm_of_pulls [0] rfl) (c_super_Right _ (⟨r29.1, r31.1, r33.1, r35.1⟩ : super_Super) r42 h43) ?_)
    rintro _ _ ⟨rfl, rfl⟩
    refine nw_H (H' := [imm I, pt r23_b1 #[.string r39.2.s_, .int .i64 r39.2.at_, .int .i64 r39.2.e_] 81, pt b37 #[.int .i64 r29.1, .int .i64 r31.1, .int .i64 r33.1, .int .i64 r35.1] 23, pt b21 #[.int .i64 0, .int .i64 0, .int .i64 0, .int .i64 0] 23] ++ F0) rfl (aw_next (fun w hs => sat_pulls [2, 0, 1] (G := [pt r23_b1 #[.string r39.2.s_, .int .i64 r39.2.at_, .int .i64 r39.2.e_] 81] ++ F0) rfl hs) ?_)
    refine aw_vals [7] (f' := 2) (m' := 255) [2, 21, 28] [(2, .pointer (some ⟨b21, 0, none⟩)), (21, .agg #[.int .i64 r29.1, .int .i64 r31.1, .int .i64 r33.1, .int .i64 r35.1]), (28, .bool r42)] (fun _ _ _ _ _ h => calm_fin (P := Tryz.prog) (fn := Tryz.f33) _ _ _ _ _ h) (fun w hs => sat_pulls [2, 0, 1] (G := [pt r23_b1 #[.string r39.2.s_, .int .i64 r39.2.at_, .int .i64 r39.2.e_] 81] ++ F0) rfl hs) rfl (by kernel_rfl) ?_
    refine aw_only 8 (m' := 511) (by kernel_rfl) (by kernel_rfl) (pw_store 3 #[.int .i64 r29.1, .int .i64 r31.1, .int .i64 r33.1, .int .i64 r35.1] rfl rfl rfl rfl rfl rfl rfl (by kernel_rfl) (nw_H (H' := [imm I, pt r23_b1 #[.string r39.2.s_, .int .i64 r39.2.at_, .int .i64 r39.2.e_] 81, pt b37 #[.int .i64 r29.1, .int .i64 r31.1, .int .i64 r33.1, .int .i64 r35.1] 23, pt b21 #[.int .i64 r29.1, .int .i64 r31.1, .int .i64 r33.1, .int .i64 r35.1] 23] ++ F0) rfl (aw_last (by kernel_rfl) ?_)))
    refine aw_past (by kernel_rfl) ?_
    refine aw_vals [9] (f' := 0) (m' := 1023) [2, 3] [(2, .pointer (some ⟨b21, 0, none⟩)), (3, .bool r42)] (fun _ _ _ _ _ h => calm_fin (P := Tryz.prog) (fn := Tryz.f33) _ _ _ _ _ h) (fun _ _ => trivial) rfl (by kernel_rfl) ?_
    refine aw_keep [2, 3] (L' := [(2, .pointer (some ⟨b21, 0, none⟩)), (3, .bool r42)]) rfl ?_
    refine aw_end (by kernel_rfl) ?_
    refine ew_then ?_
    refine cw_ret ?_
    have hR := Option.some.inj hF
    subst hR
    exact fin2 (H1 := [imm I]) (fun w hs => sat_to [1, 1, 1, 0] 3 rfl hs) rfl (rr_cell 3 rfl rfl (by kernel_rfl)) (rr_tmp rfl) ⟨rfl, rfl⟩
  refine aw_slots (L' := [(2, .pointer (some ⟨b21, 0, none⟩)), (5, .pointer (some ⟨b37, 0, none⟩)), (21, .agg #[.int .i64 r29.1, .int .i64 r31.1, .int .i64 r33.1, .int .i64 r35.1]), (25, .bool false)]) (by rw [h41]) ?_
  refine aw_vals [5, 6, 7] (f' := 2) (m' := 255) [2, 21, 28] [(2, .pointer (some ⟨b21, 0, none⟩)), (21, .agg #[.int .i64 r29.1, .int .i64 r31.1, .int .i64 r33.1, .int .i64 r35.1]), (28, .bool false)] (fun _ _ _ _ _ h => calm_fin (P := Tryz.prog) (fn := Tryz.f33) _ _ _ _ _ h) (fun w hs => sat_pulls [2, 0, 1] (G := [pt r23_b1 #[.string r39.2.s_, .int .i64 r39.2.at_, .int .i64 r39.2.e_] 81] ++ F0) rfl hs) rfl (by kernel_rfl) ?_
  refine aw_only 8 (m' := 511) (by kernel_rfl) (by kernel_rfl) (pw_store 3 #[.int .i64 r29.1, .int .i64 r31.1, .int .i64 r33.1, .int .i64 r35.1] rfl rfl rfl rfl rfl rfl rfl (by kernel_rfl) (nw_H (H' := [imm I, pt r23_b1 #[.string r39.2.s_, .int .i64 r39.2.at_, .int .i64 r39.2.e_] 81, pt b37 #[.int .i64 r29.1, .int .i64 r31.1, .int .i64 r33.1, .int .i64 r35.1] 23, pt b21 #[.int .i64 r29.1, .int .i64 r31.1, .int .i64 r33.1, .int .i64 r35.1] 23] ++ F0) rfl (aw_last (by kernel_rfl) ?_)))
  refine aw_past (by kernel_rfl) ?_
  refine aw_vals [9] (f' := 0) (m' := 1023) [2, 3] [(2, .pointer (some ⟨b21, 0, none⟩)), (3, .bool false)] (fun _ _ _ _ _ h => calm_fin (P := Tryz.prog) (fn := Tryz.f33) _ _ _ _ _ h) (fun _ _ => trivial) rfl (by kernel_rfl) ?_
  refine aw_keep [2, 3] (L' := [(2, .pointer (some ⟨b21, 0, none⟩)), (3, .bool false)]) rfl ?_
  refine aw_end (by kernel_rfl) ?_
  refine ew_then ?_
  refine cw_ret ?_
  have hR := Option.some.inj hF
  subst hR
  exact fin2 (H1 := [imm I]) (fun w hs => sat_to [1, 1, 1, 0] 3 rfl hs) rfl (rr_cell 3 rfl rfl (by kernel_rfl)) (rr_tmp rfl) ⟨rfl, rfl⟩


def F.super_Load.l1 (m0 : disk_Disk) (x27 : Int) (x28 : Int) (x29 : Int) (x30 : Int) (x31 : Int) : Option ((Int × Int × Int × Int × Int) ⊕ ((Int × Int × Int × Int) ⊕ (super_Super × Int))) :=
  if decide (x27 < 2) then (Option.bind (F.guard_Read x27 m0) (fun (r33 : ByteArray × Int × Int) => if r33.2.2 == 0 then (Option.bind (F.super_read r33.1) (fun (r36 : super_Super × Bool) => if r36.2 then (if (r36.1.Gen.tmod 2) == x27 then (if decide (r36.1.Gen > x28) then (some (.inl (IntKind.i64.wrap (x27 + 1), r36.1.Gen, r36.1.Boot, r36.1.Side, r36.1.Seed))) else (some (.inl (IntKind.i64.wrap (x27 + 1), x28, x29, x30, x31)))) else (some (.inl (IntKind.i64.wrap (x27 + 1), x28, x29, x30, x31)))) else (some (.inl (IntKind.i64.wrap (x27 + 1), x28, x29, x30, x31))))) else (if r33.2.2 == 7 then (if r33.2.2 == 7 then (some (.inl (IntKind.i64.wrap (x27 + 1), x28, x29, x30, x31))) else (some (.inr (.inr (((⟨0, 0, 0, 0⟩ : super_Super), r33.2.2)))))) else (if r33.2.2 == 17 then (some (.inl (IntKind.i64.wrap (x27 + 1), x28, x29, x30, x31))) else (some (.inr (.inr (((⟨0, 0, 0, 0⟩ : super_Super), r33.2.2))))))))) else (some (.inr (.inl (x28, x29, x30, x31))))
def F.super_Load.r2 (x46 : Int) (x47 : Int) (x48 : Int) (x49 : Int) : Option (super_Super × Int) :=
  if x46 == 0 then (some (((⟨0, 0, 0, 0⟩ : super_Super), 7))) else (some (((⟨x46, x47, x48, x49⟩ : super_Super), 0)))
def F.super_Load (m0 : disk_Disk) : Option (super_Super × Int) :=
  thru (iter (fun x => F.super_Load.l1 m0 x.1 x.2.1 x.2.2.1 x.2.2.2.1 x.2.2.2.2) FUEL (0, 0, 0, 0, 0)) (fun x => F.super_Load.r2 x.1 x.2.1 x.2.2.1 x.2.2.2)
set_option maxRecDepth 100000 in
set_option maxHeartbeats 4000000 in
theorem c_super_Load (I : Hl) (m0 : disk_Disk) (p0 : Option Addr) (c0 : Nat) (p1 : Nat) (b0 : Nat) (res : super_Super × Int) (hF : F.super_Load m0 = some res) : Tr Tryz.prog 13 [.pointer (some ⟨b0, 0, none⟩)] [imm I, pt b0 #[.slice p0 m0.sure_.length c0, .map (some p1), .bool m0.off_, .bool m0.armed_, .int .i64 m0.left_, .int .u64 m0.fall_.Keep, .int .i64 m0.fall_.Tear, .int .i64 m0.acts_, .int .i64 m0.falls_] 65, own e_disk_sector 86 p0 c0 m0.sure_, mpo (kInt .i64) (fun x : disk_sector => Value.agg #[.string x.s_, .int .i64 x.at_]) p1 m0.wait_] (fun r H' => r = .tuple #[.agg #[.int .i64 res.1.Gen, .int .i64 res.1.Boot, .int .i64 res.1.Side, .int .i64 res.1.Seed], .int .i64 res.2] ∧ H' = [imm I, pt b0 #[.slice p0 m0.sure_.length c0, .map (some p1), .bool m0.off_, .bool m0.armed_, .int .i64 m0.left_, .int .u64 m0.fall_.Keep, .int .i64 m0.fall_.Tear, .int .i64 m0.acts_, .int .i64 m0.falls_] 65, own e_disk_sector 86 p0 c0 m0.sure_, mpo (kInt .i64) (fun x : disk_sector => Value.agg #[.string x.s_, .int .i64 x.at_]) p1 m0.wait_]) := by
  unfold F.super_Load at hF
  refine tr_of_cw (fn := Tryz.f13) Tryz.func13 rfl (Nat.le_of_ble_eq_true rfl) 56 rfl fun F0 w0 => ?_
  refine cw_keep [0] (L' := [(0, .pointer (some ⟨b0, 0, none⟩))]) rfl ?_
  refine cw_state (S' := SAT w0 ([imm I, pt b0 #[.slice p0 m0.sure_.length c0, .map (some p1), .bool m0.off_, .bool m0.armed_, .int .i64 m0.left_, .int .u64 m0.fall_.Keep, .int .i64 m0.fall_.Tear, .int .i64 m0.acts_, .int .i64 m0.falls_] 65, own e_disk_sector 86 p0 c0 m0.sure_, mpo (kInt .i64) (fun x : disk_sector => Value.agg #[.string x.s_, .int .i64 x.at_]) p1 m0.wait_] ++ F0)) (fun w hs => hs) ?_
  refine cw_seq ?_
  refine cw_region ?_
  refine ow_pw rfl (pw_alloc (cs := #[.int .i64 0, .int .i64 0, .int .i64 0, .int .i64 0]) rfl rfl rfl rfl rfl (by kernel_rfl) fun b21 => nw_ow ?_)
  refine ow_vals 1 (j := 2) [0, 2] [(0, .pointer (some ⟨b0, 0, none⟩)), (2, .pointer (some ⟨b21, 0, none⟩))] rfl (by kernel_rfl) ?_
  refine ow_end rfl ?_
  refine ew_then ?_
  refine cw_seq ?_
  refine cw_region ?_
  refine ow_pw rfl (pw_alloc (cs := #[.int .i64 0, .int .i64 0, .int .i64 0, .int .i64 0]) rfl rfl rfl rfl rfl (by kernel_rfl) fun b23 => nw_ow ?_)
  refine ow_end rfl ?_
  refine ew_then ?_
  obtain ⟨v25, hF, hK25⟩ := thru_some hF
  refine cw_mid (fun a w => ∃ (x46 : Int), ∃ (x47 : Int), ∃ (x48 : Int), ∃ (x49 : Int), .inl (x46, x47, x48, x49) = v25 ∧ Fr 56 [(2, .pointer (some ⟨b21, 0, none⟩)), (4, .pointer (some ⟨b23, 0, none⟩))] a ∧ SAT w0 ([imm I, pt b23 #[.int .i64 x46, .int .i64 x47, .int .i64 x48, .int .i64 x49] 23, pt b21 #[.int .i64 0, .int .i64 0, .int .i64 0, .int .i64 0] 23, pt b0 #[.slice p0 m0.sure_.length c0, .map (some p1), .bool m0.off_, .bool m0.armed_, .int .i64 m0.left_, .int .u64 m0.fall_.Keep, .int .i64 m0.fall_.Tear, .int .i64 m0.acts_, .int .i64 m0.falls_] 65, own e_disk_sector 86 p0 c0 m0.sure_, mpo (kInt .i64) (fun x : disk_sector => Value.agg #[.string x.s_, .int .i64 x.at_]) p1 m0.wait_] ++ F0) w) ?_ ?_
  · refine cw_seq ?_
    refine cw_region ?_
    refine ow_vals 1 (j := 1) [0, 2, 4, 11] [(0, .pointer (some ⟨b0, 0, none⟩)), (2, .pointer (some ⟨b21, 0, none⟩)), (4, .pointer (some ⟨b23, 0, none⟩)), (11, .int .i64 0)] rfl (by kernel_rfl) ?_
    refine ow_end rfl ?_
    refine ew_then ?_
    refine cw_block ?_
    refine fun a w hf hs => wp_rounds (fun k a w => ∃ (x27 : Int), ∃ (x28 : Int), ∃ (x29 : Int), ∃ (x30 : Int), ∃ (x31 : Int), iter (fun x => F.super_Load.l1 m0 x.1 x.2.1 x.2.2.1 x.2.2.2.1 x.2.2.2.2) k (x27, x28, x29, x30, x31) = some v25 ∧ Fr 56 [(0, .pointer (some ⟨b0, 0, none⟩)), (2, .pointer (some ⟨b21, 0, none⟩)), (4, .pointer (some ⟨b23, 0, none⟩)), (11, .int .i64 x27)] a ∧ SAT w0 ([imm I, pt b23 #[.int .i64 x28, .int .i64 x29, .int .i64 x30, .int .i64 x31] 23, pt b21 #[.int .i64 0, .int .i64 0, .int .i64 0, .int .i64 0] 23, pt b0 #[.slice p0 m0.sure_.length c0, .map (some p1), .bool m0.off_, .bool m0.armed_, .int .i64 m0.left_, .int .u64 m0.fall_.Keep, .int .i64 m0.fall_.Tear, .int .i64 m0.acts_, .int .i64 m0.falls_] 65, own e_disk_sector 86 p0 c0 m0.sure_, mpo (kInt .i64) (fun x : disk_sector => Value.agg #[.string x.s_, .int .i64 x.at_]) p1 m0.wait_] ++ F0) w) ?_ FUEL a w ⟨0, 0, 0, 0, 0, hF, hf.keep [0, 2, 4, 11], sat_to [2, 0, 0, 0, 0, 0] 0 rfl hs⟩
    clear hf hs
    clear a w hF
    rintro k a w ⟨x27, x28, x29, x30, x31, hF2, hf, hs⟩
    obtain ⟨k, r26, rfl, hF, hL26⟩ := iter_some hF2
    clear hF2
    revert a w
    show CW _ _ _ 56 [(0, .pointer (some ⟨b0, 0, none⟩)), (2, .pointer (some ⟨b21, 0, none⟩)), (4, .pointer (some ⟨b23, 0, none⟩)), (11, .int .i64 x27)] (SAT w0 ([imm I, pt b23 #[.int .i64 x28, .int .i64 x29, .int .i64 x30, .int .i64 x31] 23, pt b21 #[.int .i64 0, .int .i64 0, .int .i64 0, .int .i64 0] 23, pt b0 #[.slice p0 m0.sure_.length c0, .map (some p1), .bool m0.off_, .bool m0.armed_, .int .i64 m0.left_, .int .u64 m0.fall_.Keep, .int .i64 m0.fall_.Tear, .int .i64 m0.acts_, .int .i64 m0.falls_] 65, own e_disk_sector 86 p0 c0 m0.sure_, mpo (kInt .i64) (fun x : disk_sector => Value.agg #[.string x.s_, .int .i64 x.at_]) p1 m0.wait_] ++ F0))
    try dsimp only at hF
    unfold F.super_Load.l1 at hF
    refine cw_seq ?_
    refine cw_region ?_
    refine ow_vals 1 (j := 1) [0, 2, 4, 11, 12] [(0, .pointer (some ⟨b0, 0, none⟩)), (2, .pointer (some ⟨b21, 0, none⟩)), (4, .pointer (some ⟨b23, 0, none⟩)), (11, .int .i64 x27), (12, .bool (decide (x27 < 2)))] rfl (by kernel_rfl) ?_
    refine ow_end rfl ?_
    refine ew_then ?_
    refine cw_seq ?_
    rcases if_some hF with ⟨h32, hF⟩ | ⟨h32, hF⟩
    · refine cw_cond_t rfl rfl h32 ?_
      refine cw_skip ?_
      refine ew_then ?_
      refine cw_seq ?_
      refine cw_block ?_
      refine cw_seq ?_
      refine cw_region ?_
      refine ow_vals 2 (j := 2) [0, 2, 4, 5, 11] [(0, .pointer (some ⟨b0, 0, none⟩)), (2, .pointer (some ⟨b21, 0, none⟩)), (4, .pointer (some ⟨b23, 0, none⟩)), (5, .int .i64 x27), (11, .int .i64 x27)] rfl (by kernel_rfl) ?_
      refine ow_end rfl ?_
      refine ew_then ?_
      refine cw_seq ?_
      refine cw_region ?_
      refine ow_vals 2 (j := 2) [0, 2, 4, 5, 11, 15, 16] [(0, .pointer (some ⟨b0, 0, none⟩)), (2, .pointer (some ⟨b21, 0, none⟩)), (4, .pointer (some ⟨b23, 0, none⟩)), (5, .int .i64 x27), (11, .int .i64 x27), (15, .pointer (some ⟨b0, 0, none⟩)), (16, .int .i64 x27)] rfl (by kernel_rfl) ?_
      obtain ⟨r33, h34, hF⟩ := bind_some hF
      refine ow_pw rfl (pw_call (F := [pt b23 #[.int .i64 x28, .int .i64 x29, .int .i64 x30, .int .i64 x31] 23, pt b21 #[.int .i64 0, .int .i64 0, .int .i64 0, .int .i64 0] 23] ++ F0) rfl rfl rfl rfl rfl rfl rfl (by kernel_rfl) (perm_of_pulls [0, 2, 2, 2] rfl) (c_guard_Read _ x27 m0 p0 c0 p1 b0 r33 h34) ?_)
      rintro _ _ ⟨rfl, rfl⟩
      refine nw_H (H' := [imm I, pt b0 #[.slice p0 m0.sure_.length c0, .map (some p1), .bool m0.off_, .bool m0.armed_, .int .i64 m0.left_, .int .u64 m0.fall_.Keep, .int .i64 m0.fall_.Tear, .int .i64 m0.acts_, .int .i64 m0.falls_] 65, own e_disk_sector 86 p0 c0 m0.sure_, mpo (kInt .i64) (fun x : disk_sector => Value.agg #[.string x.s_, .int .i64 x.at_]) p1 m0.wait_, pt b23 #[.int .i64 x28, .int .i64 x29, .int .i64 x30, .int .i64 x31] 23, pt b21 #[.int .i64 0, .int .i64 0, .int .i64 0, .int .i64 0] 23] ++ F0) rfl (nw_ow ?_)
      refine ow_vals 7 (j := 10) [0, 2, 4, 5, 6, 8, 11] [(0, .pointer (some ⟨b0, 0, none⟩)), (2, .pointer (some ⟨b21, 0, none⟩)), (4, .pointer (some ⟨b23, 0, none⟩)), (5, .int .i64 x27), (6, .string r33.1), (8, .int .i64 r33.2.2), (11, .int .i64 x27)] rfl (by kernel_rfl) ?_
      refine ow_end rfl ?_
      refine ew_then ?_
      refine cw_seq ?_
      refine cw_seq ?_
      refine cw_region ?_
      refine ow_vals 1 (j := 1) [0, 2, 4, 5, 6, 8, 11, 21] [(0, .pointer (some ⟨b0, 0, none⟩)), (2, .pointer (some ⟨b21, 0, none⟩)), (4, .pointer (some ⟨b23, 0, none⟩)), (5, .int .i64 x27), (6, .string r33.1), (8, .int .i64 r33.2.2), (11, .int .i64 x27), (21, .int .i64 r33.2.2)] rfl (by kernel_rfl) ?_
      refine ow_end rfl ?_
      refine ew_then ?_
      refine cw_block ?_
      refine cw_seq ?_
      refine cw_region ?_
      refine ow_vals 2 (j := 2) [0, 2, 4, 5, 6, 8, 11, 21, 24] [(0, .pointer (some ⟨b0, 0, none⟩)), (2, .pointer (some ⟨b21, 0, none⟩)), (4, .pointer (some ⟨b23, 0, none⟩)), (5, .int .i64 x27), (6, .string r33.1), (8, .int .i64 r33.2.2), (11, .int .i64 x27), (21, .int .i64 r33.2.2), (24, .bool (r33.2.2 == 0))] rfl (by kernel_rfl) ?_
      refine ow_end rfl ?_
      refine ew_then ?_
      rcases if_some hF with ⟨h35, hF⟩ | ⟨h35, hF⟩
      · refine cw_cond_t rfl rfl h35 ?_
        refine cw_skip ?_
        refine ew_blk ?_
        refine ew_then ?_
        refine cw_seq ?_
        refine cw_region ?_
        refine ow_vals 1 (j := 1) [0, 2, 4, 5, 11, 30] [(0, .pointer (some ⟨b0, 0, none⟩)), (2, .pointer (some ⟨b21, 0, none⟩)), (4, .pointer (some ⟨b23, 0, none⟩)), (5, .int .i64 x27), (11, .int .i64 x27), (30, .string r33.1)] rfl (by kernel_rfl) ?_
        obtain ⟨r36, h37, hF⟩ := bind_some hF
        refine ow_pw rfl (pw_call (F := [pt b0 #[.slice p0 m0.sure_.length c0, .map (some p1), .bool m0.off_, .bool m0.armed_, .int .i64 m0.left_, .int .u64 m0.fall_.Keep, .int .i64 m0.fall_.Tear, .int .i64 m0.acts_, .int .i64 m0.falls_] 65, own e_disk_sector 86 p0 c0 m0.sure_, mpo (kInt .i64) (fun x : disk_sector => Value.agg #[.string x.s_, .int .i64 x.at_]) p1 m0.wait_, pt b23 #[.int .i64 x28, .int .i64 x29, .int .i64 x30, .int .i64 x31] 23, pt b21 #[.int .i64 0, .int .i64 0, .int .i64 0, .int .i64 0] 23] ++ F0) rfl rfl rfl rfl rfl rfl rfl (by kernel_rfl) (perm_of_pulls [0] rfl) (c_super_read _ r33.1 r36 h37) ?_)
        rintro _ _ ⟨rfl, rfl⟩
        refine nw_H (H' := [imm I, pt b0 #[.slice p0 m0.sure_.length c0, .map (some p1), .bool m0.off_, .bool m0.armed_, .int .i64 m0.left_, .int .u64 m0.fall_.Keep, .int .i64 m0.fall_.Tear, .int .i64 m0.acts_, .int .i64 m0.falls_] 65, own e_disk_sector 86 p0 c0 m0.sure_, mpo (kInt .i64) (fun x : disk_sector => Value.agg #[.string x.s_, .int .i64 x.at_]) p1 m0.wait_, pt b23 #[.int .i64 x28, .int .i64 x29, .int .i64 x30, .int .i64 x31] 23, pt b21 #[.int .i64 0, .int .i64 0, .int .i64 0, .int .i64 0] 23] ++ F0) rfl (nw_ow ?_)
        refine ow_vals 3 (j := 5) [0, 2, 4, 5, 11, 32, 33] [(0, .pointer (some ⟨b0, 0, none⟩)), (2, .pointer (some ⟨b21, 0, none⟩)), (4, .pointer (some ⟨b23, 0, none⟩)), (5, .int .i64 x27), (11, .int .i64 x27), (32, .agg #[.int .i64 r36.1.Gen, .int .i64 r36.1.Boot, .int .i64 r36.1.Side, .int .i64 r36.1.Seed]), (33, .bool r36.2)] rfl (by kernel_rfl) ?_
        refine ow_pw rfl (pw_alloc (cs := #[.int .i64 0, .int .i64 0, .int .i64 0, .int .i64 0]) rfl rfl rfl rfl rfl (by kernel_rfl) fun b38 => nw_ow ?_)
        refine ow_pw rfl (pw_store 0 #[.int .i64 r36.1.Gen, .int .i64 r36.1.Boot, .int .i64 r36.1.Side, .int .i64 r36.1.Seed] rfl rfl rfl rfl rfl rfl rfl (by kernel_rfl) (nw_H (H' := [pt b38 #[.int .i64 r36.1.Gen, .int .i64 r36.1.Boot, .int .i64 r36.1.Side, .int .i64 r36.1.Seed] 23, imm I, pt b0 #[.slice p0 m0.sure_.length c0, .map (some p1), .bool m0.off_, .bool m0.armed_, .int .i64 m0.left_, .int .u64 m0.fall_.Keep, .int .i64 m0.fall_.Tear, .int .i64 m0.acts_, .int .i64 m0.falls_] 65, own e_disk_sector 86 p0 c0 m0.sure_, mpo (kInt .i64) (fun x : disk_sector => Value.agg #[.string x.s_, .int .i64 x.at_]) p1 m0.wait_, pt b23 #[.int .i64 x28, .int .i64 x29, .int .i64 x30, .int .i64 x31] 23, pt b21 #[.int .i64 0, .int .i64 0, .int .i64 0, .int .i64 0] 23] ++ F0) rfl (nw_ow ?_)))
        refine ow_vals 1 (j := 8) [0, 2, 4, 5, 9, 10, 11] [(0, .pointer (some ⟨b0, 0, none⟩)), (2, .pointer (some ⟨b21, 0, none⟩)), (4, .pointer (some ⟨b23, 0, none⟩)), (5, .int .i64 x27), (9, .pointer (some ⟨b38, 0, none⟩)), (10, .bool r36.2), (11, .int .i64 x27)] rfl (by kernel_rfl) ?_
        refine ow_end rfl ?_
        refine ew_then ?_
        refine cw_seq ?_
        refine cw_region ?_
        refine ow_vals 2 (j := 2) [0, 2, 4, 5, 9, 11, 35] [(0, .pointer (some ⟨b0, 0, none⟩)), (2, .pointer (some ⟨b21, 0, none⟩)), (4, .pointer (some ⟨b23, 0, none⟩)), (5, .int .i64 x27), (9, .pointer (some ⟨b38, 0, none⟩)), (11, .int .i64 x27), (35, .bool r36.2)] rfl (by kernel_rfl) ?_
        rcases if_some hF with ⟨h40, hF⟩ | ⟨h40, hF⟩
        · refine ow_slots (L' := [(0, .pointer (some ⟨b0, 0, none⟩)), (2, .pointer (some ⟨b21, 0, none⟩)), (4, .pointer (some ⟨b23, 0, none⟩)), (5, .int .i64 x27), (9, .pointer (some ⟨b38, 0, none⟩)), (11, .int .i64 x27), (35, .bool true)]) (by rw [h40]) ?_
          refine ow_vals 1 (j := 3) [0, 2, 4, 5, 9, 11, 35, 36] [(0, .pointer (some ⟨b0, 0, none⟩)), (2, .pointer (some ⟨b21, 0, none⟩)), (4, .pointer (some ⟨b23, 0, none⟩)), (5, .int .i64 x27), (9, .pointer (some ⟨b38, 0, none⟩)), (11, .int .i64 x27), (35, .bool true), (36, .pointer (some ⟨b38, 0, none⟩))] rfl (by kernel_rfl) ?_
          refine ow_pw rfl (pw_quiet (v := .int .i64 r36.1.Gen) rfl rfl rfl rfl (q_load 0 rfl rfl rfl (by kernel_rfl)) (nw_ow ?_))
          refine ow_vals 5 (j := 9) [0, 2, 4, 9, 11, 42] [(0, .pointer (some ⟨b0, 0, none⟩)), (2, .pointer (some ⟨b21, 0, none⟩)), (4, .pointer (some ⟨b23, 0, none⟩)), (9, .pointer (some ⟨b38, 0, none⟩)), (11, .int .i64 x27), (42, .bool ((r36.1.Gen.tmod 2) == x27))] rfl (by kernel_rfl) ?_
          rcases if_some hF with ⟨h41, hF⟩ | ⟨h41, hF⟩
          · refine ow_slots (L' := [(0, .pointer (some ⟨b0, 0, none⟩)), (2, .pointer (some ⟨b21, 0, none⟩)), (4, .pointer (some ⟨b23, 0, none⟩)), (9, .pointer (some ⟨b38, 0, none⟩)), (11, .int .i64 x27), (42, .bool true)]) (by rw [h41]) ?_
            refine ow_vals 1 (j := 10) [0, 2, 4, 9, 11, 42, 43] [(0, .pointer (some ⟨b0, 0, none⟩)), (2, .pointer (some ⟨b21, 0, none⟩)), (4, .pointer (some ⟨b23, 0, none⟩)), (9, .pointer (some ⟨b38, 0, none⟩)), (11, .int .i64 x27), (42, .bool true), (43, .pointer (some ⟨b38, 0, none⟩))] rfl (by kernel_rfl) ?_
            refine ow_pw rfl (pw_quiet (v := .int .i64 r36.1.Gen) rfl rfl rfl rfl (q_load 0 rfl rfl rfl (by kernel_rfl)) (nw_ow ?_))
            refine ow_vals 1 (j := 12) [0, 2, 4, 9, 11, 42, 44, 45] [(0, .pointer (some ⟨b0, 0, none⟩)), (2, .pointer (some ⟨b21, 0, none⟩)), (4, .pointer (some ⟨b23, 0, none⟩)), (9, .pointer (some ⟨b38, 0, none⟩)), (11, .int .i64 x27), (42, .bool true), (44, .int .i64 r36.1.Gen), (45, .pointer (some ⟨b23, 0, none⟩))] rfl (by kernel_rfl) ?_
            refine ow_pw rfl (pw_quiet (v := .int .i64 x28) rfl rfl rfl rfl (q_load 5 rfl rfl rfl (by kernel_rfl)) (nw_ow ?_))
            refine ow_vals 2 (j := 15) [0, 2, 4, 9, 11, 48] [(0, .pointer (some ⟨b0, 0, none⟩)), (2, .pointer (some ⟨b21, 0, none⟩)), (4, .pointer (some ⟨b23, 0, none⟩)), (9, .pointer (some ⟨b38, 0, none⟩)), (11, .int .i64 x27), (48, .bool (decide (r36.1.Gen > x28)))] rfl (by kernel_rfl) ?_
            refine ow_end rfl ?_
            refine ew_then ?_
            rcases if_some hF with ⟨h42, hF⟩ | ⟨h42, hF⟩
            · refine cw_cond_t rfl rfl h42 ?_
              refine cw_region ?_
              refine ow_pw rfl (pw_quiet (v := .agg #[.int .i64 r36.1.Gen, .int .i64 r36.1.Boot, .int .i64 r36.1.Side, .int .i64 r36.1.Seed]) rfl rfl rfl rfl (q_load 0 rfl rfl rfl (by kernel_rfl)) (nw_ow ?_))
              refine ow_pw rfl (pw_store 5 #[.int .i64 r36.1.Gen, .int .i64 r36.1.Boot, .int .i64 r36.1.Side, .int .i64 r36.1.Seed] rfl rfl rfl rfl rfl rfl rfl (by kernel_rfl) (nw_H (H' := [pt b38 #[.int .i64 r36.1.Gen, .int .i64 r36.1.Boot, .int .i64 r36.1.Side, .int .i64 r36.1.Seed] 23, imm I, pt b0 #[.slice p0 m0.sure_.length c0, .map (some p1), .bool m0.off_, .bool m0.armed_, .int .i64 m0.left_, .int .u64 m0.fall_.Keep, .int .i64 m0.fall_.Tear, .int .i64 m0.acts_, .int .i64 m0.falls_] 65, own e_disk_sector 86 p0 c0 m0.sure_, mpo (kInt .i64) (fun x : disk_sector => Value.agg #[.string x.s_, .int .i64 x.at_]) p1 m0.wait_, pt b23 #[.int .i64 r36.1.Gen, .int .i64 r36.1.Boot, .int .i64 r36.1.Side, .int .i64 r36.1.Seed] 23, pt b21 #[.int .i64 0, .int .i64 0, .int .i64 0, .int .i64 0] 23] ++ F0) rfl (nw_ow ?_)))
              refine ow_end rfl ?_
              refine ew_blk ?_
              refine ew_then ?_
              refine cw_region ?_
              refine ow_vals 2 (j := 2) [0, 2, 4, 11] [(0, .pointer (some ⟨b0, 0, none⟩)), (2, .pointer (some ⟨b21, 0, none⟩)), (4, .pointer (some ⟨b23, 0, none⟩)), (11, .int .i64 (IntKind.i64.wrap (x27 + 1)))] rfl (by kernel_rfl) ?_
              refine ow_end rfl ?_
              have hR := Option.some.inj hF
              subst hR
              have hR := hL26
              try dsimp only at hR
              exact fun a w hf hs => ⟨k, Nat.lt_succ_self k, IntKind.i64.wrap (x27 + 1), r36.1.Gen, r36.1.Boot, r36.1.Side, r36.1.Seed, hR, hf.keep [0, 2, 4, 11], sat_to [0, 0, 3, 3, 0, 0, 0] 1 rfl hs⟩
            refine cw_cond_f rfl rfl h42 ?_
            refine cw_skip ?_
            refine ew_blk ?_
            refine ew_then ?_
            refine cw_region ?_
            refine ow_vals 2 (j := 2) [0, 2, 4, 11] [(0, .pointer (some ⟨b0, 0, none⟩)), (2, .pointer (some ⟨b21, 0, none⟩)), (4, .pointer (some ⟨b23, 0, none⟩)), (11, .int .i64 (IntKind.i64.wrap (x27 + 1)))] rfl (by kernel_rfl) ?_
            refine ow_end rfl ?_
            have hR := Option.some.inj hF
            subst hR
            have hR := hL26
            try dsimp only at hR
            exact fun a w hf hs => ⟨k, Nat.lt_succ_self k, IntKind.i64.wrap (x27 + 1), x28, x29, x30, x31, hR, hf.keep [0, 2, 4, 11], sat_to [0, 0, 3, 3, 0, 0, 0] 1 rfl hs⟩
          refine ow_slots (L' := [(0, .pointer (some ⟨b0, 0, none⟩)), (2, .pointer (some ⟨b21, 0, none⟩)), (4, .pointer (some ⟨b23, 0, none⟩)), (9, .pointer (some ⟨b38, 0, none⟩)), (11, .int .i64 x27), (42, .bool false)]) (by rw [h41]) ?_
          refine ow_vals 6 (j := 15) [0, 2, 4, 9, 11, 48] [(0, .pointer (some ⟨b0, 0, none⟩)), (2, .pointer (some ⟨b21, 0, none⟩)), (4, .pointer (some ⟨b23, 0, none⟩)), (9, .pointer (some ⟨b38, 0, none⟩)), (11, .int .i64 x27), (48, .bool false)] rfl (by kernel_rfl) ?_
          refine ow_end rfl ?_
          refine ew_then ?_
          refine cw_cond_f rfl rfl rfl ?_
          refine cw_skip ?_
          refine ew_blk ?_
          refine ew_then ?_
          refine cw_region ?_
          refine ow_vals 2 (j := 2) [0, 2, 4, 11] [(0, .pointer (some ⟨b0, 0, none⟩)), (2, .pointer (some ⟨b21, 0, none⟩)), (4, .pointer (some ⟨b23, 0, none⟩)), (11, .int .i64 (IntKind.i64.wrap (x27 + 1)))] rfl (by kernel_rfl) ?_
          refine ow_end rfl ?_
          have hR := Option.some.inj hF
          subst hR
          have hR := hL26
          try dsimp only at hR
          exact fun a w hf hs => ⟨k, Nat.lt_succ_self k, IntKind.i64.wrap (x27 + 1), x28, x29, x30, x31, hR, hf.keep [0, 2, 4, 11], sat_to [0, 0, 3, 3, 0, 0, 0] 1 rfl hs⟩
        refine ow_slots (L' := [(0, .pointer (some ⟨b0, 0, none⟩)), (2, .pointer (some ⟨b21, 0, none⟩)), (4, .pointer (some ⟨b23, 0, none⟩)), (5, .int .i64 x27), (9, .pointer (some ⟨b38, 0, none⟩)), (11, .int .i64 x27), (35, .bool false)]) (by rw [h40]) ?_
        refine ow_vals 13 (j := 15) [0, 2, 4, 9, 11, 48] [(0, .pointer (some ⟨b0, 0, none⟩)), (2, .pointer (some ⟨b21, 0, none⟩)), (4, .pointer (some ⟨b23, 0, none⟩)), (9, .pointer (some ⟨b38, 0, none⟩)), (11, .int .i64 x27), (48, .bool false)] rfl (by kernel_rfl) ?_
        refine ow_end rfl ?_
        refine ew_then ?_
        refine cw_cond_f rfl rfl rfl ?_
        refine cw_skip ?_
        refine ew_blk ?_
        refine ew_then ?_
        refine cw_region ?_
        refine ow_vals 2 (j := 2) [0, 2, 4, 11] [(0, .pointer (some ⟨b0, 0, none⟩)), (2, .pointer (some ⟨b21, 0, none⟩)), (4, .pointer (some ⟨b23, 0, none⟩)), (11, .int .i64 (IntKind.i64.wrap (x27 + 1)))] rfl (by kernel_rfl) ?_
        refine ow_end rfl ?_
        have hR := Option.some.inj hF
        subst hR
        have hR := hL26
        try dsimp only at hR
        exact fun a w hf hs => ⟨k, Nat.lt_succ_self k, IntKind.i64.wrap (x27 + 1), x28, x29, x30, x31, hR, hf.keep [0, 2, 4, 11], sat_to [0, 0, 3, 3, 0, 0, 0] 1 rfl hs⟩
      refine cw_cond_f rfl rfl h35 ?_
      refine cw_seq ?_
      refine cw_seq ?_
      refine cw_region ?_
      refine ow_vals 2 (j := 2) [0, 2, 4, 8, 11, 21, 26] [(0, .pointer (some ⟨b0, 0, none⟩)), (2, .pointer (some ⟨b21, 0, none⟩)), (4, .pointer (some ⟨b23, 0, none⟩)), (8, .int .i64 r33.2.2), (11, .int .i64 x27), (21, .int .i64 r33.2.2), (26, .bool (r33.2.2 == 7))] rfl (by kernel_rfl) ?_
      refine ow_end rfl ?_
      refine ew_then ?_
      rcases if_some hF with ⟨h43, hF⟩ | ⟨h43, hF⟩
      · refine cw_cond_t rfl rfl h43 ?_
        refine cw_skip ?_
        refine ew_then ?_
        rcases if_some hF with ⟨h44, hF⟩ | ⟨h44, hF⟩
        · refine cw_cond_t rfl rfl h44 ?_
          refine cw_exit ?_
          refine ew_blk_other (by decide) ?_
          refine ew_then_exit ?_
          refine ew_blk_exit ?_
          refine ew_then ?_
          refine cw_region ?_
          refine ow_vals 2 (j := 2) [0, 2, 4, 11] [(0, .pointer (some ⟨b0, 0, none⟩)), (2, .pointer (some ⟨b21, 0, none⟩)), (4, .pointer (some ⟨b23, 0, none⟩)), (11, .int .i64 (IntKind.i64.wrap (x27 + 1)))] rfl (by kernel_rfl) ?_
          refine ow_end rfl ?_
          have hR := Option.some.inj hF
          subst hR
          have hR := hL26
          try dsimp only at hR
          exact fun a w hf hs => ⟨k, Nat.lt_succ_self k, IntKind.i64.wrap (x27 + 1), x28, x29, x30, x31, hR, hf.keep [0, 2, 4, 11], sat_to [0, 3, 3, 0, 0, 0] 0 rfl hs⟩
        refine cw_cond_f rfl rfl h44 ?_
        refine cw_seq ?_
        refine cw_region ?_
        refine ow_vals 2 (j := 2) [2, 22, 23] [(2, .pointer (some ⟨b21, 0, none⟩)), (22, .agg #[.int .i64 0, .int .i64 0, .int .i64 0, .int .i64 0]), (23, .int .i64 r33.2.2)] rfl (by kernel_rfl) ?_
        refine ow_pw rfl (pw_store 5 #[.int .i64 0, .int .i64 0, .int .i64 0, .int .i64 0] rfl rfl rfl rfl rfl rfl rfl (by kernel_rfl) (nw_H (H' := [imm I, pt b0 #[.slice p0 m0.sure_.length c0, .map (some p1), .bool m0.off_, .bool m0.armed_, .int .i64 m0.left_, .int .u64 m0.fall_.Keep, .int .i64 m0.fall_.Tear, .int .i64 m0.acts_, .int .i64 m0.falls_] 65, own e_disk_sector 86 p0 c0 m0.sure_, mpo (kInt .i64) (fun x : disk_sector => Value.agg #[.string x.s_, .int .i64 x.at_]) p1 m0.wait_, pt b23 #[.int .i64 x28, .int .i64 x29, .int .i64 x30, .int .i64 x31] 23, pt b21 #[.int .i64 0, .int .i64 0, .int .i64 0, .int .i64 0] 23] ++ F0) rfl (nw_ow ?_)))
        refine ow_vals 1 (j := 4) [2, 3] [(2, .pointer (some ⟨b21, 0, none⟩)), (3, .int .i64 r33.2.2)] rfl (by kernel_rfl) ?_
        refine ow_end rfl ?_
        refine ew_then ?_
        refine cw_ret ?_
        refine ew_blk_ret ?_
        refine ew_then_ret ?_
        refine ew_blk_ret ?_
        refine ew_then_ret ?_
        refine ew_then_ret ?_
        refine ew_blk_ret ?_
        refine ew_then_ret ?_
        have hR := Option.some.inj hF
        subst hR
        have hR := hL26
        try dsimp only at hR
        subst hR
        have hR := hK25
        try dsimp only [Thru] at hR
        subst hR
        exact fin2 (H1 := [imm I, pt b0 #[.slice p0 m0.sure_.length c0, .map (some p1), .bool m0.off_, .bool m0.armed_, .int .i64 m0.left_, .int .u64 m0.fall_.Keep, .int .i64 m0.fall_.Tear, .int .i64 m0.acts_, .int .i64 m0.falls_] 65, own e_disk_sector 86 p0 c0 m0.sure_, mpo (kInt .i64) (fun x : disk_sector => Value.agg #[.string x.s_, .int .i64 x.at_]) p1 m0.wait_]) (fun w hs => sat_to [4, 4, 0, 0, 0, 0] 2 rfl hs) rfl (rr_cell 5 rfl rfl (by kernel_rfl)) (rr_tmp rfl) ⟨rfl, rfl⟩
      refine cw_cond_f rfl rfl h43 ?_
      refine cw_region ?_
      refine ow_vals 2 (j := 2) [0, 2, 4, 8, 11, 26] [(0, .pointer (some ⟨b0, 0, none⟩)), (2, .pointer (some ⟨b21, 0, none⟩)), (4, .pointer (some ⟨b23, 0, none⟩)), (8, .int .i64 r33.2.2), (11, .int .i64 x27), (26, .bool (r33.2.2 == 17))] rfl (by kernel_rfl) ?_
      refine ow_end rfl ?_
      refine ew_then ?_
      rcases if_some hF with ⟨h45, hF⟩ | ⟨h45, hF⟩
      · refine cw_cond_t rfl rfl h45 ?_
        refine cw_exit ?_
        refine ew_blk_other (by decide) ?_
        refine ew_then_exit ?_
        refine ew_blk_exit ?_
        refine ew_then ?_
        refine cw_region ?_
        refine ow_vals 2 (j := 2) [0, 2, 4, 11] [(0, .pointer (some ⟨b0, 0, none⟩)), (2, .pointer (some ⟨b21, 0, none⟩)), (4, .pointer (some ⟨b23, 0, none⟩)), (11, .int .i64 (IntKind.i64.wrap (x27 + 1)))] rfl (by kernel_rfl) ?_
        refine ow_end rfl ?_
        have hR := Option.some.inj hF
        subst hR
        have hR := hL26
        try dsimp only at hR
        exact fun a w hf hs => ⟨k, Nat.lt_succ_self k, IntKind.i64.wrap (x27 + 1), x28, x29, x30, x31, hR, hf.keep [0, 2, 4, 11], sat_to [0, 3, 3, 0, 0, 0] 0 rfl hs⟩
      refine cw_cond_f rfl rfl h45 ?_
      refine cw_seq ?_
      refine cw_region ?_
      refine ow_vals 2 (j := 2) [2, 22, 23] [(2, .pointer (some ⟨b21, 0, none⟩)), (22, .agg #[.int .i64 0, .int .i64 0, .int .i64 0, .int .i64 0]), (23, .int .i64 r33.2.2)] rfl (by kernel_rfl) ?_
      refine ow_pw rfl (pw_store 5 #[.int .i64 0, .int .i64 0, .int .i64 0, .int .i64 0] rfl rfl rfl rfl rfl rfl rfl (by kernel_rfl) (nw_H (H' := [imm I, pt b0 #[.slice p0 m0.sure_.length c0, .map (some p1), .bool m0.off_, .bool m0.armed_, .int .i64 m0.left_, .int .u64 m0.fall_.Keep, .int .i64 m0.fall_.Tear, .int .i64 m0.acts_, .int .i64 m0.falls_] 65, own e_disk_sector 86 p0 c0 m0.sure_, mpo (kInt .i64) (fun x : disk_sector => Value.agg #[.string x.s_, .int .i64 x.at_]) p1 m0.wait_, pt b23 #[.int .i64 x28, .int .i64 x29, .int .i64 x30, .int .i64 x31] 23, pt b21 #[.int .i64 0, .int .i64 0, .int .i64 0, .int .i64 0] 23] ++ F0) rfl (nw_ow ?_)))
      refine ow_vals 1 (j := 4) [2, 3] [(2, .pointer (some ⟨b21, 0, none⟩)), (3, .int .i64 r33.2.2)] rfl (by kernel_rfl) ?_
      refine ow_end rfl ?_
      refine ew_then ?_
      refine cw_ret ?_
      refine ew_blk_ret ?_
      refine ew_then_ret ?_
      refine ew_blk_ret ?_
      refine ew_then_ret ?_
      refine ew_then_ret ?_
      refine ew_blk_ret ?_
      refine ew_then_ret ?_
      have hR := Option.some.inj hF
      subst hR
      have hR := hL26
      try dsimp only at hR
      subst hR
      have hR := hK25
      try dsimp only [Thru] at hR
      subst hR
      exact fin2 (H1 := [imm I, pt b0 #[.slice p0 m0.sure_.length c0, .map (some p1), .bool m0.off_, .bool m0.armed_, .int .i64 m0.left_, .int .u64 m0.fall_.Keep, .int .i64 m0.fall_.Tear, .int .i64 m0.acts_, .int .i64 m0.falls_] 65, own e_disk_sector 86 p0 c0 m0.sure_, mpo (kInt .i64) (fun x : disk_sector => Value.agg #[.string x.s_, .int .i64 x.at_]) p1 m0.wait_]) (fun w hs => sat_to [4, 4, 0, 0, 0, 0] 2 rfl hs) rfl (rr_cell 5 rfl rfl (by kernel_rfl)) (rr_tmp rfl) ⟨rfl, rfl⟩
    refine cw_cond_f rfl rfl h32 ?_
    refine cw_exit ?_
    refine ew_then_exit ?_
    refine ew_then_exit ?_
    refine ew_blk_exit ?_
    have hR := Option.some.inj hF
    subst hR
    have hR := hL26
    try dsimp only at hR
    exact fun a w hf hs => ⟨x28, x29, x30, x31, hR, hf.keep [2, 4], sat_to [0, 0, 0, 0, 0, 0] 0 rfl hs⟩
  rintro a w ⟨x46, x47, x48, x49, hv, hf, hs⟩
  subst hv
  replace hF := hK25
  clear hK25
  try dsimp only [Thru] at hF
  revert a w
  show CW _ _ _ 56 [(2, .pointer (some ⟨b21, 0, none⟩)), (4, .pointer (some ⟨b23, 0, none⟩))] (SAT w0 ([imm I, pt b23 #[.int .i64 x46, .int .i64 x47, .int .i64 x48, .int .i64 x49] 23, pt b21 #[.int .i64 0, .int .i64 0, .int .i64 0, .int .i64 0] 23, pt b0 #[.slice p0 m0.sure_.length c0, .map (some p1), .bool m0.off_, .bool m0.armed_, .int .i64 m0.left_, .int .u64 m0.fall_.Keep, .int .i64 m0.fall_.Tear, .int .i64 m0.acts_, .int .i64 m0.falls_] 65, own e_disk_sector 86 p0 c0 m0.sure_, mpo (kInt .i64) (fun x : disk_sector => Value.agg #[.string x.s_, .int .i64 x.at_]) p1 m0.wait_] ++ F0))
  unfold F.super_Load.r2 at hF
  refine cw_seq ?_
  refine cw_seq ?_
  refine cw_region ?_
  refine ow_vals 1 (j := 1) [2, 4, 51] [(2, .pointer (some ⟨b21, 0, none⟩)), (4, .pointer (some ⟨b23, 0, none⟩)), (51, .pointer (some ⟨b23, 0, none⟩))] rfl (by kernel_rfl) ?_
  refine ow_pw rfl (pw_quiet (v := .int .i64 x46) rfl rfl rfl rfl (q_load 1 rfl rfl rfl (by kernel_rfl)) (nw_ow ?_))
  refine ow_vals 1 (j := 3) [2, 4, 53] [(2, .pointer (some ⟨b21, 0, none⟩)), (4, .pointer (some ⟨b23, 0, none⟩)), (53, .bool (x46 == 0))] rfl (by kernel_rfl) ?_
  refine ow_end rfl ?_
  refine ew_then ?_
  rcases if_some hF with ⟨h50, hF⟩ | ⟨h50, hF⟩
  · refine cw_cond_t rfl rfl h50 ?_
    refine cw_seq ?_
    refine cw_region ?_
    refine ow_vals 1 (j := 1) [2, 54] [(2, .pointer (some ⟨b21, 0, none⟩)), (54, .agg #[.int .i64 0, .int .i64 0, .int .i64 0, .int .i64 0])] rfl (by kernel_rfl) ?_
    refine ow_pw rfl (pw_store 2 #[.int .i64 0, .int .i64 0, .int .i64 0, .int .i64 0] rfl rfl rfl rfl rfl rfl rfl (by kernel_rfl) (nw_H (H' := [imm I, pt b23 #[.int .i64 x46, .int .i64 x47, .int .i64 x48, .int .i64 x49] 23, pt b21 #[.int .i64 0, .int .i64 0, .int .i64 0, .int .i64 0] 23, pt b0 #[.slice p0 m0.sure_.length c0, .map (some p1), .bool m0.off_, .bool m0.armed_, .int .i64 m0.left_, .int .u64 m0.fall_.Keep, .int .i64 m0.fall_.Tear, .int .i64 m0.acts_, .int .i64 m0.falls_] 65, own e_disk_sector 86 p0 c0 m0.sure_, mpo (kInt .i64) (fun x : disk_sector => Value.agg #[.string x.s_, .int .i64 x.at_]) p1 m0.wait_] ++ F0) rfl (nw_ow ?_)))
    refine ow_vals 1 (j := 3) [2, 3] [(2, .pointer (some ⟨b21, 0, none⟩)), (3, .int .i64 7)] rfl (by kernel_rfl) ?_
    refine ow_end rfl ?_
    refine ew_then ?_
    refine cw_ret ?_
    refine ew_then_ret ?_
    have hR := Option.some.inj hF
    subst hR
    exact fin2 (H1 := [imm I, pt b0 #[.slice p0 m0.sure_.length c0, .map (some p1), .bool m0.off_, .bool m0.armed_, .int .i64 m0.left_, .int .u64 m0.fall_.Keep, .int .i64 m0.fall_.Tear, .int .i64 m0.acts_, .int .i64 m0.falls_] 65, own e_disk_sector 86 p0 c0 m0.sure_, mpo (kInt .i64) (fun x : disk_sector => Value.agg #[.string x.s_, .int .i64 x.at_]) p1 m0.wait_]) (fun w hs => sat_to [1, 1, 0, 0, 0, 0] 2 rfl hs) rfl (rr_cell 2 rfl rfl (by kernel_rfl)) (rr_tmp rfl) ⟨rfl, rfl⟩
  refine cw_cond_f rfl rfl h50 ?_
  refine cw_skip ?_
  refine ew_then ?_
  refine cw_seq ?_
  refine cw_region ?_
  refine ow_pw rfl (pw_quiet (v := .agg #[.int .i64 x46, .int .i64 x47, .int .i64 x48, .int .i64 x49]) rfl rfl rfl rfl (q_load 1 rfl rfl rfl (by kernel_rfl)) (nw_ow ?_))
  refine ow_pw rfl (pw_store 2 #[.int .i64 x46, .int .i64 x47, .int .i64 x48, .int .i64 x49] rfl rfl rfl rfl rfl rfl rfl (by kernel_rfl) (nw_H (H' := [imm I, pt b23 #[.int .i64 x46, .int .i64 x47, .int .i64 x48, .int .i64 x49] 23, pt b21 #[.int .i64 x46, .int .i64 x47, .int .i64 x48, .int .i64 x49] 23, pt b0 #[.slice p0 m0.sure_.length c0, .map (some p1), .bool m0.off_, .bool m0.armed_, .int .i64 m0.left_, .int .u64 m0.fall_.Keep, .int .i64 m0.fall_.Tear, .int .i64 m0.acts_, .int .i64 m0.falls_] 65, own e_disk_sector 86 p0 c0 m0.sure_, mpo (kInt .i64) (fun x : disk_sector => Value.agg #[.string x.s_, .int .i64 x.at_]) p1 m0.wait_] ++ F0) rfl (nw_ow ?_)))
  refine ow_vals 1 (j := 3) [2, 3] [(2, .pointer (some ⟨b21, 0, none⟩)), (3, .int .i64 0)] rfl (by kernel_rfl) ?_
  refine ow_end rfl ?_
  refine ew_then ?_
  refine cw_ret ?_
  have hR := Option.some.inj hF
  subst hR
  exact fin2 (H1 := [imm I, pt b0 #[.slice p0 m0.sure_.length c0, .map (some p1), .bool m0.off_, .bool m0.armed_, .int .i64 m0.left_, .int .u64 m0.fall_.Keep, .int .i64 m0.fall_.Tear, .int .i64 m0.acts_, .int .i64 m0.falls_] 65, own e_disk_sector 86 p0 c0 m0.sure_, mpo (kInt .i64) (fun x : disk_sector => Value.agg #[.string x.s_, .int .i64 x.at_]) p1 m0.wait_]) (fun w hs => sat_to [1, 1, 0, 0, 0, 0] 2 rfl hs) rfl (rr_cell 2 rfl rfl (by kernel_rfl)) (rr_tmp rfl) ⟨rfl, rfl⟩


def F.law11_awake.r2 (r31 : super_Super) (x46 : Int) (x47 : Int) (l48 : List disk_sector) (l52 : List (Int × disk_sector)) (x55 : Bool) (x56 : Bool) (x57 : Int) (x58 : Int) (x59 : Int) (x60 : Int) (x61 : Int) : Option (Bool) :=
  Option.bind (F.super_Load (⟨l48, l52, x55, x56, x57, (⟨x58, x59⟩ : disk_Fall), x60, x61⟩ : disk_Disk)) (fun (r62 : super_Super × Int) => if r62.2 == 0 then (if ((r62.1.Gen == r31.Gen) && ((r62.1.Boot == r31.Boot) && ((r62.1.Side == r31.Side) && ((r62.1.Seed == r31.Seed) && (true))))) then (some ((r31.Gen == 2))) else (some (false))) else (some (false)))
def F.law11_awake.r1 (r21_s1 : disk_Disk) (r21_s9 : guard_Guard) : Option (Bool) :=
  Option.bind (F.super_Next (⟨1, 1, 0, 1⟩ : super_Super) false) (fun (r31 : super_Super) => thru (Option.bind (F.super_Save (⟨1, 1, 0, 1⟩ : super_Super) r21_s9 r21_s1) (fun (r36 : Int × guard_Guard × disk_Disk) => if r36.1 != 0 then (some (.inr (false))) else (Option.bind (F.super_Save r31 r36.2.1 r36.2.2) (fun (r41 : Int × guard_Guard × disk_Disk) => if r41.1 != 0 then (some (.inr (false))) else (some (.inl (r41.2.1.boot_, r41.2.1.n_, r41.2.2.sure_, r41.2.2.wait_, r41.2.2.off_, r41.2.2.armed_, r41.2.2.left_, r41.2.2.fall_.Keep, r41.2.2.fall_.Tear, r41.2.2.acts_, r41.2.2.falls_))))))) (fun x => F.law11_awake.r2 r31 x.1 x.2.1 x.2.2.1 x.2.2.2.1 x.2.2.2.2.1 x.2.2.2.2.2.1 x.2.2.2.2.2.2.1 x.2.2.2.2.2.2.2.1 x.2.2.2.2.2.2.2.2.1 x.2.2.2.2.2.2.2.2.2.1 x.2.2.2.2.2.2.2.2.2.2))
def F.law11_awake : Option Bool :=
  Option.bind (F.law11_made) (fun (r21 : (Option disk_Disk) × (Option guard_Guard)) => optC r21.1 (optC r21.2 (some (false)) (fun _ => none)) (fun (r21_s1 : disk_Disk) => optC r21.2 (none) (fun (r21_s9 : guard_Guard) => Option.bind (some (())) (fun x => F.law11_awake.r1 r21_s1 r21_s9))))
set_option maxRecDepth 100000 in
set_option maxHeartbeats 4000000 in
theorem c_law11_awake (I : Hl) (res : Bool) (hF : F.law11_awake = some res) : Tr Tryz.prog 11 [] [imm I] (fun r H' => r = .bool res ∧ H' = [imm I]) := by
  unfold F.law11_awake at hF
  refine tr_of_cw (fn := Tryz.f11) Tryz.func11 rfl (Nat.le_of_ble_eq_true rfl) 47 rfl fun F0 w0 => ?_
  refine cw_keep [] (L' := []) rfl ?_
  refine cw_state (S' := SAT w0 ([imm I] ++ F0)) (fun w hs => hs) ?_
  refine cw_seq ?_
  refine cw_region ?_
  refine ow_vals 1 (j := 1) [] [] rfl (by kernel_rfl) ?_
  refine ow_end rfl ?_
  refine ew_then ?_
  refine cw_seq ?_
  refine cw_region ?_
  obtain ⟨r21, h22, hF⟩ := bind_some hF
  refine ow_pw rfl (pw_call (F := [] ++ F0) rfl rfl rfl rfl rfl rfl rfl (by kernel_rfl) (perm_of_pulls [0] rfl) (c_law11_made _ r21 h22) ?_)
  rintro _ _ (⟨hO, hO1, rfl, rfl⟩ | ⟨r21_s1, r21_b2, r21_p4, r21_c5, r21_b7, r21_s9, r21_b10, hO, hO1, rfl, rfl⟩)
  · rw [hO] at hF
    try dsimp only [optC] at hF
    rw [hO1] at hF
    try dsimp only [optC] at hF
    refine nw_H (H' := [imm I] ++ F0) rfl (nw_ow ?_)
    refine ow_vals 5 (j := 6) [1, 2] [(1, .pointer none), (2, .pointer none)] rfl (by kernel_rfl) ?_
    refine ow_end rfl ?_
    refine ew_then ?_
    refine cw_seq ?_
    refine cw_seq ?_
    refine cw_region ?_
    refine ow_vals 6 (j := 6) [1, 2, 16] [(1, .pointer none), (2, .pointer none), (16, .bool true)] rfl (by kernel_rfl) ?_
    refine ow_end rfl ?_
    refine ew_then ?_
    refine cw_cond_t rfl rfl rfl ?_
    refine cw_seq ?_
    refine cw_region ?_
    refine ow_vals 1 (j := 1) [0] [(0, .bool false)] rfl (by kernel_rfl) ?_
    refine ow_end rfl ?_
    refine ew_then ?_
    refine cw_ret ?_
    refine ew_then_ret ?_
    have hR := Option.some.inj hF
    subst hR
    exact fin1 (H1 := [imm I]) (fun w hs => sat_to [0] 0 rfl hs) rfl (rr_tmp rfl) ⟨rfl, rfl⟩
  rw [hO] at hF
  try dsimp only [optC] at hF
  rw [hO1] at hF
  try dsimp only [optC] at hF
  refine nw_H (H' := [imm I, pt r21_b2 #[.slice r21_p4 r21_s1.sure_.length r21_c5, .map (some r21_b7), .bool r21_s1.off_, .bool r21_s1.armed_, .int .i64 r21_s1.left_, .int .u64 r21_s1.fall_.Keep, .int .i64 r21_s1.fall_.Tear, .int .i64 r21_s1.acts_, .int .i64 r21_s1.falls_] 65, pt r21_b10 #[.pointer (some ⟨r21_b2, 0, none⟩), .int .i64 r21_s9.boot_, .int .i64 r21_s9.n_] 76, own e_disk_sector 86 r21_p4 r21_c5 r21_s1.sure_, mpo (kInt .i64) (fun x : disk_sector => Value.agg #[.string x.s_, .int .i64 x.at_]) r21_b7 r21_s1.wait_] ++ F0) rfl (nw_ow ?_)
  refine ow_vals 5 (j := 6) [1, 2] [(1, .pointer (some ⟨r21_b2, 0, none⟩)), (2, .pointer (some ⟨r21_b10, 0, none⟩))] rfl (by kernel_rfl) ?_
  refine ow_end rfl ?_
  refine ew_then ?_
  obtain ⟨v28, hF, hK28⟩ := bind_some hF
  refine cw_mid (fun a w => () = v28 ∧ Fr 47 [(1, .pointer (some ⟨r21_b2, 0, none⟩)), (2, .pointer (some ⟨r21_b10, 0, none⟩))] a ∧ SAT w0 ([imm I, pt r21_b2 #[.slice r21_p4 r21_s1.sure_.length r21_c5, .map (some r21_b7), .bool r21_s1.off_, .bool r21_s1.armed_, .int .i64 r21_s1.left_, .int .u64 r21_s1.fall_.Keep, .int .i64 r21_s1.fall_.Tear, .int .i64 r21_s1.acts_, .int .i64 r21_s1.falls_] 65, pt r21_b10 #[.pointer (some ⟨r21_b2, 0, none⟩), .int .i64 r21_s9.boot_, .int .i64 r21_s9.n_] 76, own e_disk_sector 86 r21_p4 r21_c5 r21_s1.sure_, mpo (kInt .i64) (fun x : disk_sector => Value.agg #[.string x.s_, .int .i64 x.at_]) r21_b7 r21_s1.wait_] ++ F0) w) ?_ ?_
  · refine cw_seq ?_
    refine cw_region ?_
    refine ow_vals 6 (j := 6) [1, 2, 16] [(1, .pointer (some ⟨r21_b2, 0, none⟩)), (2, .pointer (some ⟨r21_b10, 0, none⟩)), (16, .bool false)] rfl (by kernel_rfl) ?_
    refine ow_end rfl ?_
    refine ew_then ?_
    refine cw_cond_f rfl rfl rfl ?_
    refine cw_skip ?_
    have hR := Option.some.inj hF
    exact fun a w hf hs => ⟨hR, hf.keep [1, 2], sat_to [0, 0, 0, 0, 0] 0 rfl hs⟩
  rintro a w ⟨hv, hf, hs⟩
  subst hv
  replace hF := hK28
  clear hK28
  try dsimp only at hF
  revert a w
  show CW _ _ _ 47 [(1, .pointer (some ⟨r21_b2, 0, none⟩)), (2, .pointer (some ⟨r21_b10, 0, none⟩))] (SAT w0 ([imm I, pt r21_b2 #[.slice r21_p4 r21_s1.sure_.length r21_c5, .map (some r21_b7), .bool r21_s1.off_, .bool r21_s1.armed_, .int .i64 r21_s1.left_, .int .u64 r21_s1.fall_.Keep, .int .i64 r21_s1.fall_.Tear, .int .i64 r21_s1.acts_, .int .i64 r21_s1.falls_] 65, pt r21_b10 #[.pointer (some ⟨r21_b2, 0, none⟩), .int .i64 r21_s9.boot_, .int .i64 r21_s9.n_] 76, own e_disk_sector 86 r21_p4 r21_c5 r21_s1.sure_, mpo (kInt .i64) (fun x : disk_sector => Value.agg #[.string x.s_, .int .i64 x.at_]) r21_b7 r21_s1.wait_] ++ F0))
  unfold F.law11_awake.r1 at hF
  refine cw_seq ?_
  refine cw_region ?_
  refine ow_vals 1 (j := 1) [1, 2, 17] [(1, .pointer (some ⟨r21_b2, 0, none⟩)), (2, .pointer (some ⟨r21_b10, 0, none⟩)), (17, .agg #[.int .i64 1, .int .i64 1, .int .i64 0, .int .i64 1])] rfl (by kernel_rfl) ?_
  refine ow_pw rfl (pw_alloc (cs := #[.int .i64 0, .int .i64 0, .int .i64 0, .int .i64 0]) rfl rfl rfl rfl rfl (by kernel_rfl) fun b29 => nw_ow ?_)
  refine ow_pw rfl (pw_store 0 #[.int .i64 1, .int .i64 1, .int .i64 0, .int .i64 1] rfl rfl rfl rfl rfl rfl rfl (by kernel_rfl) (nw_H (H' := [pt b29 #[.int .i64 1, .int .i64 1, .int .i64 0, .int .i64 1] 23, imm I, pt r21_b2 #[.slice r21_p4 r21_s1.sure_.length r21_c5, .map (some r21_b7), .bool r21_s1.off_, .bool r21_s1.armed_, .int .i64 r21_s1.left_, .int .u64 r21_s1.fall_.Keep, .int .i64 r21_s1.fall_.Tear, .int .i64 r21_s1.acts_, .int .i64 r21_s1.falls_] 65, pt r21_b10 #[.pointer (some ⟨r21_b2, 0, none⟩), .int .i64 r21_s9.boot_, .int .i64 r21_s9.n_] 76, own e_disk_sector 86 r21_p4 r21_c5 r21_s1.sure_, mpo (kInt .i64) (fun x : disk_sector => Value.agg #[.string x.s_, .int .i64 x.at_]) r21_b7 r21_s1.wait_] ++ F0) rfl (nw_ow ?_)))
  refine ow_end rfl ?_
  refine ew_then ?_
  refine cw_seq ?_
  refine cw_region ?_
  refine ow_pw rfl (pw_quiet (v := .agg #[.int .i64 1, .int .i64 1, .int .i64 0, .int .i64 1]) rfl rfl rfl rfl (q_load 0 rfl rfl rfl (by kernel_rfl)) (nw_ow ?_))
  obtain ⟨r31, h32, hF⟩ := bind_some hF
  refine ow_pw rfl (pw_call (F := [pt b29 #[.int .i64 1, .int .i64 1, .int .i64 0, .int .i64 1] 23, pt r21_b2 #[.slice r21_p4 r21_s1.sure_.length r21_c5, .map (some r21_b7), .bool r21_s1.off_, .bool r21_s1.armed_, .int .i64 r21_s1.left_, .int .u64 r21_s1.fall_.Keep, .int .i64 r21_s1.fall_.Tear, .int .i64 r21_s1.acts_, .int .i64 r21_s1.falls_] 65, pt r21_b10 #[.pointer (some ⟨r21_b2, 0, none⟩), .int .i64 r21_s9.boot_, .int .i64 r21_s9.n_] 76, own e_disk_sector 86 r21_p4 r21_c5 r21_s1.sure_, mpo (kInt .i64) (fun x : disk_sector => Value.agg #[.string x.s_, .int .i64 x.at_]) r21_b7 r21_s1.wait_] ++ F0) rfl rfl rfl rfl rfl rfl rfl (by kernel_rfl) (perm_of_pulls [1] rfl) (c_super_Next _ (⟨1, 1, 0, 1⟩ : super_Super) false r31 h32) ?_)
  rintro _ _ ⟨rfl, rfl⟩
  refine nw_H (H' := [imm I, pt b29 #[.int .i64 1, .int .i64 1, .int .i64 0, .int .i64 1] 23, pt r21_b2 #[.slice r21_p4 r21_s1.sure_.length r21_c5, .map (some r21_b7), .bool r21_s1.off_, .bool r21_s1.armed_, .int .i64 r21_s1.left_, .int .u64 r21_s1.fall_.Keep, .int .i64 r21_s1.fall_.Tear, .int .i64 r21_s1.acts_, .int .i64 r21_s1.falls_] 65, pt r21_b10 #[.pointer (some ⟨r21_b2, 0, none⟩), .int .i64 r21_s9.boot_, .int .i64 r21_s9.n_] 76, own e_disk_sector 86 r21_p4 r21_c5 r21_s1.sure_, mpo (kInt .i64) (fun x : disk_sector => Value.agg #[.string x.s_, .int .i64 x.at_]) r21_b7 r21_s1.wait_] ++ F0) rfl (nw_ow ?_)
  refine ow_pw rfl (pw_alloc (cs := #[.int .i64 0, .int .i64 0, .int .i64 0, .int .i64 0]) rfl rfl rfl rfl rfl (by kernel_rfl) fun b33 => nw_ow ?_)
  refine ow_pw rfl (pw_store 0 #[.int .i64 r31.Gen, .int .i64 r31.Boot, .int .i64 r31.Side, .int .i64 r31.Seed] rfl rfl rfl rfl rfl rfl rfl (by kernel_rfl) (nw_H (H' := [pt b33 #[.int .i64 r31.Gen, .int .i64 r31.Boot, .int .i64 r31.Side, .int .i64 r31.Seed] 23, imm I, pt b29 #[.int .i64 1, .int .i64 1, .int .i64 0, .int .i64 1] 23, pt r21_b2 #[.slice r21_p4 r21_s1.sure_.length r21_c5, .map (some r21_b7), .bool r21_s1.off_, .bool r21_s1.armed_, .int .i64 r21_s1.left_, .int .u64 r21_s1.fall_.Keep, .int .i64 r21_s1.fall_.Tear, .int .i64 r21_s1.acts_, .int .i64 r21_s1.falls_] 65, pt r21_b10 #[.pointer (some ⟨r21_b2, 0, none⟩), .int .i64 r21_s9.boot_, .int .i64 r21_s9.n_] 76, own e_disk_sector 86 r21_p4 r21_c5 r21_s1.sure_, mpo (kInt .i64) (fun x : disk_sector => Value.agg #[.string x.s_, .int .i64 x.at_]) r21_b7 r21_s1.wait_] ++ F0) rfl (nw_ow ?_)))
  refine ow_end rfl ?_
  refine ew_then ?_
  obtain ⟨v35, hF, hK35⟩ := thru_some hF
  refine cw_mid (fun a w => ∃ (x46 : Int), ∃ (x47 : Int), ∃ (l48 : List disk_sector), ∃ (l52 : List (Int × disk_sector)), ∃ (x55 : Bool), ∃ (x56 : Bool), ∃ (x57 : Int), ∃ (x58 : Int), ∃ (x59 : Int), ∃ (x60 : Int), ∃ (x61 : Int), ∃ (p49 : Option Addr), ∃ (c50 : Nat), ∃ (b54 : Nat), .inl (x46, x47, l48, l52, x55, x56, x57, x58, x59, x60, x61) = v35 ∧ Fr 47 [(1, .pointer (some ⟨r21_b2, 0, none⟩)), (4, .pointer (some ⟨b33, 0, none⟩))] a ∧ SAT w0 ([imm I, pt r21_b10 #[.pointer (some ⟨r21_b2, 0, none⟩), .int .i64 x46, .int .i64 x47] 76, pt r21_b2 #[.slice p49 l48.length c50, .map (some b54), .bool x55, .bool x56, .int .i64 x57, .int .u64 x58, .int .i64 x59, .int .i64 x60, .int .i64 x61] 65, pt b33 #[.int .i64 r31.Gen, .int .i64 r31.Boot, .int .i64 r31.Side, .int .i64 r31.Seed] 23, pt b29 #[.int .i64 1, .int .i64 1, .int .i64 0, .int .i64 1] 23, own e_disk_sector 86 p49 c50 l48, mpo (kInt .i64) (fun x : disk_sector => Value.agg #[.string x.s_, .int .i64 x.at_]) b54 l52] ++ F0) w) ?_ ?_
  · refine cw_seq ?_
    refine cw_region ?_
    refine ow_vals 1 (j := 1) [1, 2, 3, 4, 20] [(1, .pointer (some ⟨r21_b2, 0, none⟩)), (2, .pointer (some ⟨r21_b10, 0, none⟩)), (3, .pointer (some ⟨b29, 0, none⟩)), (4, .pointer (some ⟨b33, 0, none⟩)), (20, .pointer (some ⟨r21_b10, 0, none⟩))] rfl (by kernel_rfl) ?_
    refine ow_pw rfl (pw_quiet (v := .agg #[.int .i64 1, .int .i64 1, .int .i64 0, .int .i64 1]) rfl rfl rfl rfl (q_load 2 rfl rfl rfl (by kernel_rfl)) (nw_ow ?_))
    obtain ⟨r36, h37, hF⟩ := bind_some hF
    refine ow_pw rfl (pw_call (F := [pt b33 #[.int .i64 r31.Gen, .int .i64 r31.Boot, .int .i64 r31.Side, .int .i64 r31.Seed] 23, pt b29 #[.int .i64 1, .int .i64 1, .int .i64 0, .int .i64 1] 23] ++ F0) rfl rfl rfl rfl rfl rfl rfl (by kernel_rfl) (perm_of_pulls [1, 3, 2, 2, 2] rfl) (c_super_Save _ (⟨1, 1, 0, 1⟩ : super_Super) r21_s9 r21_s1 r21_b10 r21_p4 r21_c5 r21_b7 r21_b2 r36 h37) ?_)
    rintro _ _ ⟨r36_p1, r36_c2, r36_b4, rfl, rfl⟩
    refine nw_H (H' := [imm I, pt r21_b10 #[.pointer (some ⟨r21_b2, 0, none⟩), .int .i64 r36.2.1.boot_, .int .i64 r36.2.1.n_] 76, pt r21_b2 #[.slice r36_p1 r36.2.2.sure_.length r36_c2, .map (some r36_b4), .bool r36.2.2.off_, .bool r36.2.2.armed_, .int .i64 r36.2.2.left_, .int .u64 r36.2.2.fall_.Keep, .int .i64 r36.2.2.fall_.Tear, .int .i64 r36.2.2.acts_, .int .i64 r36.2.2.falls_] 65, own e_disk_sector 86 r36_p1 r36_c2 r36.2.2.sure_, mpo (kInt .i64) (fun x : disk_sector => Value.agg #[.string x.s_, .int .i64 x.at_]) r36_b4 r36.2.2.wait_, pt b33 #[.int .i64 r31.Gen, .int .i64 r31.Boot, .int .i64 r31.Side, .int .i64 r31.Seed] 23, pt b29 #[.int .i64 1, .int .i64 1, .int .i64 0, .int .i64 1] 23] ++ F0) rfl (nw_ow ?_)
    refine ow_vals 2 (j := 5) [1, 2, 4, 24] [(1, .pointer (some ⟨r21_b2, 0, none⟩)), (2, .pointer (some ⟨r21_b10, 0, none⟩)), (4, .pointer (some ⟨b33, 0, none⟩)), (24, .bool (r36.1 != 0))] rfl (by kernel_rfl) ?_
    rcases if_some hF with ⟨h40, hF⟩ | ⟨h40, hF⟩
    · refine ow_slots (L' := [(1, .pointer (some ⟨r21_b2, 0, none⟩)), (2, .pointer (some ⟨r21_b10, 0, none⟩)), (4, .pointer (some ⟨b33, 0, none⟩)), (24, .bool true)]) (by rw [h40]) ?_
      refine ow_vals 5 (j := 10) [1, 4, 29] [(1, .pointer (some ⟨r21_b2, 0, none⟩)), (4, .pointer (some ⟨b33, 0, none⟩)), (29, .bool true)] rfl (by kernel_rfl) ?_
      refine ow_end rfl ?_
      refine ew_then ?_
      refine cw_cond_t rfl rfl rfl ?_
      refine cw_seq ?_
      refine cw_region ?_
      refine ow_vals 1 (j := 1) [0] [(0, .bool false)] rfl (by kernel_rfl) ?_
      refine ow_end rfl ?_
      refine ew_then ?_
      refine cw_ret ?_
      refine ew_then_ret ?_
      have hR := Option.some.inj hF
      subst hR
      have hR := hK35
      try dsimp only [Thru] at hR
      subst hR
      exact fin1 (H1 := [imm I]) (fun w hs => sat_to [1, 1, 1, 1, 1, 1, 0] 6 rfl hs) rfl (rr_tmp rfl) ⟨rfl, rfl⟩
    refine ow_slots (L' := [(1, .pointer (some ⟨r21_b2, 0, none⟩)), (2, .pointer (some ⟨r21_b10, 0, none⟩)), (4, .pointer (some ⟨b33, 0, none⟩)), (24, .bool false)]) (by rw [h40]) ?_
    refine ow_vals 1 (j := 6) [1, 4, 24, 25] [(1, .pointer (some ⟨r21_b2, 0, none⟩)), (4, .pointer (some ⟨b33, 0, none⟩)), (24, .bool false), (25, .pointer (some ⟨r21_b10, 0, none⟩))] rfl (by kernel_rfl) ?_
    refine ow_pw rfl (pw_quiet (v := .agg #[.int .i64 r31.Gen, .int .i64 r31.Boot, .int .i64 r31.Side, .int .i64 r31.Seed]) rfl rfl rfl rfl (q_load 5 rfl rfl rfl (by kernel_rfl)) (nw_ow ?_))
    obtain ⟨r41, h42, hF⟩ := bind_some hF
    refine ow_pw rfl (pw_call (F := [pt b33 #[.int .i64 r31.Gen, .int .i64 r31.Boot, .int .i64 r31.Side, .int .i64 r31.Seed] 23, pt b29 #[.int .i64 1, .int .i64 1, .int .i64 0, .int .i64 1] 23] ++ F0) rfl rfl rfl rfl rfl rfl rfl (by kernel_rfl) (perm_of_pulls [0, 0, 0, 0, 0] rfl) (c_super_Save _ r31 r36.2.1 r36.2.2 r21_b10 r36_p1 r36_c2 r36_b4 r21_b2 r41 h42) ?_)
    rintro _ _ ⟨r41_p1, r41_c2, r41_b4, rfl, rfl⟩
    refine nw_H (H' := [imm I, pt r21_b10 #[.pointer (some ⟨r21_b2, 0, none⟩), .int .i64 r41.2.1.boot_, .int .i64 r41.2.1.n_] 76, pt r21_b2 #[.slice r41_p1 r41.2.2.sure_.length r41_c2, .map (some r41_b4), .bool r41.2.2.off_, .bool r41.2.2.armed_, .int .i64 r41.2.2.left_, .int .u64 r41.2.2.fall_.Keep, .int .i64 r41.2.2.fall_.Tear, .int .i64 r41.2.2.acts_, .int .i64 r41.2.2.falls_] 65, own e_disk_sector 86 r41_p1 r41_c2 r41.2.2.sure_, mpo (kInt .i64) (fun x : disk_sector => Value.agg #[.string x.s_, .int .i64 x.at_]) r41_b4 r41.2.2.wait_, pt b33 #[.int .i64 r31.Gen, .int .i64 r31.Boot, .int .i64 r31.Side, .int .i64 r31.Seed] 23, pt b29 #[.int .i64 1, .int .i64 1, .int .i64 0, .int .i64 1] 23] ++ F0) rfl (nw_ow ?_)
    refine ow_vals 2 (j := 10) [1, 4, 29] [(1, .pointer (some ⟨r21_b2, 0, none⟩)), (4, .pointer (some ⟨b33, 0, none⟩)), (29, .bool (r41.1 != 0))] rfl (by kernel_rfl) ?_
    refine ow_end rfl ?_
    refine ew_then ?_
    rcases if_some hF with ⟨h45, hF⟩ | ⟨h45, hF⟩
    · refine cw_cond_t rfl rfl h45 ?_
      refine cw_seq ?_
      refine cw_region ?_
      refine ow_vals 1 (j := 1) [0] [(0, .bool false)] rfl (by kernel_rfl) ?_
      refine ow_end rfl ?_
      refine ew_then ?_
      refine cw_ret ?_
      refine ew_then_ret ?_
      have hR := Option.some.inj hF
      subst hR
      have hR := hK35
      try dsimp only [Thru] at hR
      subst hR
      exact fin1 (H1 := [imm I]) (fun w hs => sat_to [1, 1, 1, 1, 1, 1, 0] 6 rfl hs) rfl (rr_tmp rfl) ⟨rfl, rfl⟩
    refine cw_cond_f rfl rfl h45 ?_
    refine cw_skip ?_
    have hR := Option.some.inj hF
    exact fun a w hf hs => ⟨r41.2.1.boot_, r41.2.1.n_, r41.2.2.sure_, r41.2.2.wait_, r41.2.2.off_, r41.2.2.armed_, r41.2.2.left_, r41.2.2.fall_.Keep, r41.2.2.fall_.Tear, r41.2.2.acts_, r41.2.2.falls_, r41_p1, r41_c2, r41_b4, hR, hf.keep [1, 4], sat_to [0, 0, 0, 2, 2, 0, 0] 0 rfl hs⟩
  rintro a w ⟨x46, x47, l48, l52, x55, x56, x57, x58, x59, x60, x61, p49, c50, b54, hv, hf, hs⟩
  subst hv
  replace hF := hK35
  clear hK35
  try dsimp only [Thru] at hF
  revert a w
  show CW _ _ _ 47 [(1, .pointer (some ⟨r21_b2, 0, none⟩)), (4, .pointer (some ⟨b33, 0, none⟩))] (SAT w0 ([imm I, pt r21_b10 #[.pointer (some ⟨r21_b2, 0, none⟩), .int .i64 x46, .int .i64 x47] 76, pt r21_b2 #[.slice p49 l48.length c50, .map (some b54), .bool x55, .bool x56, .int .i64 x57, .int .u64 x58, .int .i64 x59, .int .i64 x60, .int .i64 x61] 65, pt b33 #[.int .i64 r31.Gen, .int .i64 r31.Boot, .int .i64 r31.Side, .int .i64 r31.Seed] 23, pt b29 #[.int .i64 1, .int .i64 1, .int .i64 0, .int .i64 1] 23, own e_disk_sector 86 p49 c50 l48, mpo (kInt .i64) (fun x : disk_sector => Value.agg #[.string x.s_, .int .i64 x.at_]) b54 l52] ++ F0))
  unfold F.law11_awake.r2 at hF
  refine cw_seq ?_
  refine cw_region ?_
  refine ow_vals 1 (j := 1) [4, 31] [(4, .pointer (some ⟨b33, 0, none⟩)), (31, .pointer (some ⟨r21_b2, 0, none⟩))] rfl (by kernel_rfl) ?_
  obtain ⟨r62, h63, hF⟩ := bind_some hF
  refine ow_pw rfl (pw_call (F := [pt r21_b10 #[.pointer (some ⟨r21_b2, 0, none⟩), .int .i64 x46, .int .i64 x47] 76, pt b33 #[.int .i64 r31.Gen, .int .i64 r31.Boot, .int .i64 r31.Side, .int .i64 r31.Seed] 23, pt b29 #[.int .i64 1, .int .i64 1, .int .i64 0, .int .i64 1] 23] ++ F0) rfl rfl rfl rfl rfl rfl rfl (by kernel_rfl) (perm_of_pulls [0, 1, 3, 3] rfl) (c_super_Load _ (⟨l48, l52, x55, x56, x57, (⟨x58, x59⟩ : disk_Fall), x60, x61⟩ : disk_Disk) p49 c50 b54 r21_b2 r62 h63) ?_)
  rintro _ _ ⟨rfl, rfl⟩
  refine nw_H (H' := [imm I, pt r21_b2 #[.slice p49 ((⟨l48, l52, x55, x56, x57, (⟨x58, x59⟩ : disk_Fall), x60, x61⟩ : disk_Disk).sure_).length c50, .map (some b54), .bool ((⟨l48, l52, x55, x56, x57, (⟨x58, x59⟩ : disk_Fall), x60, x61⟩ : disk_Disk).off_), .bool ((⟨l48, l52, x55, x56, x57, (⟨x58, x59⟩ : disk_Fall), x60, x61⟩ : disk_Disk).armed_), .int .i64 ((⟨l48, l52, x55, x56, x57, (⟨x58, x59⟩ : disk_Fall), x60, x61⟩ : disk_Disk).left_), .int .u64 ((⟨l48, l52, x55, x56, x57, (⟨x58, x59⟩ : disk_Fall), x60, x61⟩ : disk_Disk).fall_.Keep), .int .i64 ((⟨l48, l52, x55, x56, x57, (⟨x58, x59⟩ : disk_Fall), x60, x61⟩ : disk_Disk).fall_.Tear), .int .i64 ((⟨l48, l52, x55, x56, x57, (⟨x58, x59⟩ : disk_Fall), x60, x61⟩ : disk_Disk).acts_), .int .i64 ((⟨l48, l52, x55, x56, x57, (⟨x58, x59⟩ : disk_Fall), x60, x61⟩ : disk_Disk).falls_)] 65, own e_disk_sector 86 p49 c50 ((⟨l48, l52, x55, x56, x57, (⟨x58, x59⟩ : disk_Fall), x60, x61⟩ : disk_Disk).sure_), mpo (kInt .i64) (fun x : disk_sector => Value.agg #[.string x.s_, .int .i64 x.at_]) b54 ((⟨l48, l52, x55, x56, x57, (⟨x58, x59⟩ : disk_Fall), x60, x61⟩ : disk_Disk).wait_), pt r21_b10 #[.pointer (some ⟨r21_b2, 0, none⟩), .int .i64 x46, .int .i64 x47] 76, pt b33 #[.int .i64 r31.Gen, .int .i64 r31.Boot, .int .i64 r31.Side, .int .i64 r31.Seed] 23, pt b29 #[.int .i64 1, .int .i64 1, .int .i64 0, .int .i64 1] 23] ++ F0) rfl (nw_ow ?_)
  refine ow_vals 3 (j := 5) [4, 33, 34] [(4, .pointer (some ⟨b33, 0, none⟩)), (33, .agg #[.int .i64 r62.1.Gen, .int .i64 r62.1.Boot, .int .i64 r62.1.Side, .int .i64 r62.1.Seed]), (34, .int .i64 r62.2)] rfl (by kernel_rfl) ?_
  refine ow_pw rfl (pw_alloc (cs := #[.int .i64 0, .int .i64 0, .int .i64 0, .int .i64 0]) rfl rfl rfl rfl rfl (by kernel_rfl) fun b64 => nw_ow ?_)
  refine ow_pw rfl (pw_store 0 #[.int .i64 r62.1.Gen, .int .i64 r62.1.Boot, .int .i64 r62.1.Side, .int .i64 r62.1.Seed] rfl rfl rfl rfl rfl rfl rfl (by kernel_rfl) (nw_H (H' := [pt b64 #[.int .i64 r62.1.Gen, .int .i64 r62.1.Boot, .int .i64 r62.1.Side, .int .i64 r62.1.Seed] 23, imm I, pt r21_b2 #[.slice p49 ((⟨l48, l52, x55, x56, x57, (⟨x58, x59⟩ : disk_Fall), x60, x61⟩ : disk_Disk).sure_).length c50, .map (some b54), .bool ((⟨l48, l52, x55, x56, x57, (⟨x58, x59⟩ : disk_Fall), x60, x61⟩ : disk_Disk).off_), .bool ((⟨l48, l52, x55, x56, x57, (⟨x58, x59⟩ : disk_Fall), x60, x61⟩ : disk_Disk).armed_), .int .i64 ((⟨l48, l52, x55, x56, x57, (⟨x58, x59⟩ : disk_Fall), x60, x61⟩ : disk_Disk).left_), .int .u64 ((⟨l48, l52, x55, x56, x57, (⟨x58, x59⟩ : disk_Fall), x60, x61⟩ : disk_Disk).fall_.Keep), .int .i64 ((⟨l48, l52, x55, x56, x57, (⟨x58, x59⟩ : disk_Fall), x60, x61⟩ : disk_Disk).fall_.Tear), .int .i64 ((⟨l48, l52, x55, x56, x57, (⟨x58, x59⟩ : disk_Fall), x60, x61⟩ : disk_Disk).acts_), .int .i64 ((⟨l48, l52, x55, x56, x57, (⟨x58, x59⟩ : disk_Fall), x60, x61⟩ : disk_Disk).falls_)] 65, own e_disk_sector 86 p49 c50 ((⟨l48, l52, x55, x56, x57, (⟨x58, x59⟩ : disk_Fall), x60, x61⟩ : disk_Disk).sure_), mpo (kInt .i64) (fun x : disk_sector => Value.agg #[.string x.s_, .int .i64 x.at_]) b54 ((⟨l48, l52, x55, x56, x57, (⟨x58, x59⟩ : disk_Fall), x60, x61⟩ : disk_Disk).wait_), pt r21_b10 #[.pointer (some ⟨r21_b2, 0, none⟩), .int .i64 x46, .int .i64 x47] 76, pt b33 #[.int .i64 r31.Gen, .int .i64 r31.Boot, .int .i64 r31.Side, .int .i64 r31.Seed] 23, pt b29 #[.int .i64 1, .int .i64 1, .int .i64 0, .int .i64 1] 23] ++ F0) rfl (nw_ow ?_)))
  refine ow_vals 1 (j := 8) [4, 5, 6] [(4, .pointer (some ⟨b33, 0, none⟩)), (5, .pointer (some ⟨b64, 0, none⟩)), (6, .int .i64 r62.2)] rfl (by kernel_rfl) ?_
  refine ow_end rfl ?_
  refine ew_then ?_
  refine cw_seq ?_
  refine cw_region ?_
  refine ow_vals 3 (j := 3) [4, 5, 37] [(4, .pointer (some ⟨b33, 0, none⟩)), (5, .pointer (some ⟨b64, 0, none⟩)), (37, .bool (r62.2 == 0))] rfl (by kernel_rfl) ?_
  rcases if_some hF with ⟨h66, hF⟩ | ⟨h66, hF⟩
  · refine ow_slots (L' := [(4, .pointer (some ⟨b33, 0, none⟩)), (5, .pointer (some ⟨b64, 0, none⟩)), (37, .bool true)]) (by rw [h66]) ?_
    refine ow_pw rfl (pw_quiet (v := .agg #[.int .i64 r62.1.Gen, .int .i64 r62.1.Boot, .int .i64 r62.1.Side, .int .i64 r62.1.Seed]) rfl rfl rfl rfl (q_load 0 rfl rfl rfl (by kernel_rfl)) (nw_ow ?_))
    refine ow_pw rfl (pw_quiet (v := .agg #[.int .i64 r31.Gen, .int .i64 r31.Boot, .int .i64 r31.Side, .int .i64 r31.Seed]) rfl rfl rfl rfl (q_load 6 rfl rfl rfl (by kernel_rfl)) (nw_ow ?_))
    refine ow_pw rfl (pw_quiet (v := .bool ((r62.1.Gen == r31.Gen) && ((r62.1.Boot == r31.Boot) && ((r62.1.Side == r31.Side) && ((r62.1.Seed == r31.Seed) && (true)))))) rfl rfl rfl rfl (q_eql_struct (b := ((r62.1.Gen == r31.Gen) && ((r62.1.Boot == r31.Boot) && ((r62.1.Side == r31.Side) && ((r62.1.Seed == r31.Seed) && (true)))))) rfl rfl rfl (by kernel_rfl) (by kernel_rfl) (by kernel_rfl) (by kernel_rfl)) (nw_ow ?_))
    refine ow_vals 2 (j := 8) [4, 42] [(4, .pointer (some ⟨b33, 0, none⟩)), (42, .bool ((r62.1.Gen == r31.Gen) && ((r62.1.Boot == r31.Boot) && ((r62.1.Side == r31.Side) && ((r62.1.Seed == r31.Seed) && (true))))))] rfl (by kernel_rfl) ?_
    rcases if_some hF with ⟨h67, hF⟩ | ⟨h67, hF⟩
    · refine ow_slots (L' := [(4, .pointer (some ⟨b33, 0, none⟩)), (42, .bool true)]) (by rw [h67]) ?_
      refine ow_vals 1 (j := 9) [42, 43] [(42, .bool true), (43, .pointer (some ⟨b33, 0, none⟩))] rfl (by kernel_rfl) ?_
      refine ow_pw rfl (pw_quiet (v := .int .i64 r31.Gen) rfl rfl rfl rfl (q_load 6 rfl rfl rfl (by kernel_rfl)) (nw_ow ?_))
      refine ow_vals 3 (j := 13) [0] [(0, .bool (r31.Gen == 2))] rfl (by kernel_rfl) ?_
      refine ow_end rfl ?_
      refine ew_then ?_
      refine cw_ret ?_
      have hR := Option.some.inj hF
      subst hR
      exact fin1 (H1 := [imm I]) (fun w hs => sat_to [0, 1, 1, 1, 1, 1, 1, 0] 7 rfl hs) rfl (rr_tmp rfl) ⟨rfl, rfl⟩
    refine ow_slots (L' := [(4, .pointer (some ⟨b33, 0, none⟩)), (42, .bool false)]) (by rw [h67]) ?_
    refine ow_vals 5 (j := 13) [0] [(0, .bool false)] rfl (by kernel_rfl) ?_
    refine ow_end rfl ?_
    refine ew_then ?_
    refine cw_ret ?_
    have hR := Option.some.inj hF
    subst hR
    exact fin1 (H1 := [imm I]) (fun w hs => sat_to [0, 1, 1, 1, 1, 1, 1, 0] 7 rfl hs) rfl (rr_tmp rfl) ⟨rfl, rfl⟩
  refine ow_slots (L' := [(4, .pointer (some ⟨b33, 0, none⟩)), (5, .pointer (some ⟨b64, 0, none⟩)), (37, .bool false)]) (by rw [h66]) ?_
  refine ow_vals 10 (j := 13) [0] [(0, .bool false)] rfl (by kernel_rfl) ?_
  refine ow_end rfl ?_
  refine ew_then ?_
  refine cw_ret ?_
  have hR := Option.some.inj hF
  subst hR
  exact fin1 (H1 := [imm I]) (fun w hs => sat_to [0, 1, 1, 1, 1, 1, 1, 0] 7 rfl hs) rfl (rr_tmp rfl) ⟨rfl, rfl⟩

end Go.Proofs.YtgbciaegbpkpaaaGreatDoor
