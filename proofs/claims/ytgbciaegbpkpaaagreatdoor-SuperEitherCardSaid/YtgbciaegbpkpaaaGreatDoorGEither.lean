/- What the functions compute, and that the code computes it: printed by a program of this claim (wip/tools), for the group Either. -/
import Derived.Test.YtgbciaegbpkpaaaGreatDoorGSuperb
namespace Go.Proofs.YtgbciaegbpkpaaaGreatDoor
set_option linter.all false
open Go Go.RowKit Go.Fw
set_option linter.unusedVariables false

def F.disk_Disk_Arm (x1 : Int) (x2 : disk_Fall) (m0 : disk_Disk) : Option (Int × disk_Disk) :=
  Option.bind (F.disk_Disk_why 0 m0) (fun (r23 : Int) => if r23 != 0 then (some ((r23, m0))) else (if decide (x1 < 0) then (some ((1, m0))) else (some ((0, (⟨m0.sure_, m0.wait_, m0.off_, true, x1, x2, m0.acts_, m0.falls_⟩ : disk_Disk))))))
set_option maxRecDepth 100000 in
set_option maxHeartbeats 4000000 in
theorem c_disk_Disk_Arm (I : Hl) (x1 : Int) (x2 : disk_Fall) (m0 : disk_Disk) (p0 : Option Addr) (c0 : Nat) (p1 : Nat) (b0 : Nat) (res : Int × disk_Disk) (hF : F.disk_Disk_Arm x1 x2 m0 = some res) : Tr Tryz.prog 21 [.pointer (some ⟨b0, 0, none⟩), .int .i64 x1, .agg #[.int .u64 x2.Keep, .int .i64 x2.Tear]] [imm I, pt b0 #[.slice p0 m0.sure_.length c0, .map (some p1), .bool m0.off_, .bool m0.armed_, .int .i64 m0.left_, .int .u64 m0.fall_.Keep, .int .i64 m0.fall_.Tear, .int .i64 m0.acts_, .int .i64 m0.falls_] 65, own e_disk_sector 86 p0 c0 m0.sure_, mpo (kInt .i64) (fun x : disk_sector => Value.agg #[.string x.s_, .int .i64 x.at_]) p1 m0.wait_] (fun r H' => ∃ (pq1 : Option Addr), ∃ (cq2 : Nat), ∃ (bq4 : Nat), r = .int .i64 res.1 ∧ H' = [imm I, pt b0 #[.slice pq1 res.2.sure_.length cq2, .map (some bq4), .bool res.2.off_, .bool res.2.armed_, .int .i64 res.2.left_, .int .u64 res.2.fall_.Keep, .int .i64 res.2.fall_.Tear, .int .i64 res.2.acts_, .int .i64 res.2.falls_] 65, own e_disk_sector 86 pq1 cq2 res.2.sure_, mpo (kInt .i64) (fun x : disk_sector => Value.agg #[.string x.s_, .int .i64 x.at_]) bq4 res.2.wait_]) := by
  unfold F.disk_Disk_Arm at hF
  refine tr_of_cw (fn := Tryz.f21) Tryz.func21 rfl (Nat.le_of_ble_eq_true rfl) 26 rfl fun F0 w0 => ?_
  refine cw_keep [0, 1, 2] (L' := [(0, .pointer (some ⟨b0, 0, none⟩)), (1, .int .i64 x1), (2, .agg #[.int .u64 x2.Keep, .int .i64 x2.Tear])]) rfl ?_
  refine cw_state (S' := SAT w0 ([imm I, pt b0 #[.slice p0 m0.sure_.length c0, .map (some p1), .bool m0.off_, .bool m0.armed_, .int .i64 m0.left_, .int .u64 m0.fall_.Keep, .int .i64 m0.fall_.Tear, .int .i64 m0.acts_, .int .i64 m0.falls_] 65, own e_disk_sector 86 p0 c0 m0.sure_, mpo (kInt .i64) (fun x : disk_sector => Value.agg #[.string x.s_, .int .i64 x.at_]) p1 m0.wait_] ++ F0)) (fun w hs => hs) ?_
  refine cw_seq ?_
  refine cw_region ?_
  refine ow_pw rfl (pw_box (cs := #[.int .u64 x2.Keep, .int .i64 x2.Tear]) rfl rfl rfl rfl rfl rfl fun b21 => nw_ow ?_)
  refine ow_vals 1 (j := 2) [0, 1, 5] [(0, .pointer (some ⟨b0, 0, none⟩)), (1, .int .i64 x1), (5, .pointer (some ⟨b21, 0, none⟩))] rfl (by kernel_rfl) ?_
  refine ow_end rfl ?_
  refine ew_then ?_
  refine cw_seq ?_
  refine cw_seq ?_
  refine cw_region ?_
  refine ow_vals 1 (j := 1) [0, 1, 5, 8] [(0, .pointer (some ⟨b0, 0, none⟩)), (1, .int .i64 x1), (5, .pointer (some ⟨b21, 0, none⟩)), (8, .pointer (some ⟨b0, 0, none⟩))] rfl (by kernel_rfl) ?_
  obtain ⟨r23, h24, hF⟩ := bind_some hF
  refine ow_pw rfl (pw_call (F := [pt b21 #[.int .u64 x2.Keep, .int .i64 x2.Tear] 49] ++ F0) rfl rfl rfl rfl rfl rfl rfl (by kernel_rfl) (perm_of_pulls [1, 1, 1, 1] rfl) (c_disk_Disk_why _ 0 m0 p0 c0 p1 b0 r23 h24) ?_)
  rintro _ _ ⟨rfl, rfl⟩
  refine nw_H (H' := [imm I, pt b0 #[.slice p0 m0.sure_.length c0, .map (some p1), .bool m0.off_, .bool m0.armed_, .int .i64 m0.left_, .int .u64 m0.fall_.Keep, .int .i64 m0.fall_.Tear, .int .i64 m0.acts_, .int .i64 m0.falls_] 65, own e_disk_sector 86 p0 c0 m0.sure_, mpo (kInt .i64) (fun x : disk_sector => Value.agg #[.string x.s_, .int .i64 x.at_]) p1 m0.wait_, pt b21 #[.int .u64 x2.Keep, .int .i64 x2.Tear] 49] ++ F0) rfl (nw_ow ?_)
  refine ow_vals 1 (j := 3) [0, 1, 5, 7] [(0, .pointer (some ⟨b0, 0, none⟩)), (1, .int .i64 x1), (5, .pointer (some ⟨b21, 0, none⟩)), (7, .int .i64 r23)] rfl (by kernel_rfl) ?_
  refine ow_end rfl ?_
  refine ew_then ?_
  refine cw_seq ?_
  refine cw_region ?_
  refine ow_vals 2 (j := 2) [0, 1, 5, 7, 11] [(0, .pointer (some ⟨b0, 0, none⟩)), (1, .int .i64 x1), (5, .pointer (some ⟨b21, 0, none⟩)), (7, .int .i64 r23), (11, .bool (r23 != 0))] rfl (by kernel_rfl) ?_
  refine ow_end rfl ?_
  refine ew_then ?_
  rcases if_some hF with ⟨h25, hF⟩ | ⟨h25, hF⟩
  · refine cw_cond_t rfl rfl h25 ?_
    refine cw_seq ?_
    refine cw_region ?_
    refine ow_vals 2 (j := 2) [6] [(6, .int .i64 r23)] rfl (by kernel_rfl) ?_
    refine ow_end rfl ?_
    refine ew_then ?_
    refine cw_ret ?_
    refine ew_then_ret ?_
    have hR := Option.some.inj hF
    subst hR
    exact fin1 (H1 := [imm I, pt b0 #[.slice p0 m0.sure_.length c0, .map (some p1), .bool m0.off_, .bool m0.armed_, .int .i64 m0.left_, .int .u64 m0.fall_.Keep, .int .i64 m0.fall_.Tear, .int .i64 m0.acts_, .int .i64 m0.falls_] 65, own e_disk_sector 86 p0 c0 m0.sure_, mpo (kInt .i64) (fun x : disk_sector => Value.agg #[.string x.s_, .int .i64 x.at_]) p1 m0.wait_]) (fun w hs => sat_to [4, 0, 0, 0, 0] 1 rfl hs) rfl (rr_tmp rfl) ⟨p0, c0, p1, rfl, rfl⟩
  refine cw_cond_f rfl rfl h25 ?_
  refine cw_skip ?_
  refine ew_then ?_
  refine cw_seq ?_
  refine cw_seq ?_
  refine cw_region ?_
  refine ow_vals 2 (j := 2) [0, 1, 5, 14] [(0, .pointer (some ⟨b0, 0, none⟩)), (1, .int .i64 x1), (5, .pointer (some ⟨b21, 0, none⟩)), (14, .bool (decide (x1 < 0)))] rfl (by kernel_rfl) ?_
  refine ow_end rfl ?_
  refine ew_then ?_
  rcases if_some hF with ⟨h26, hF⟩ | ⟨h26, hF⟩
  · refine cw_cond_t rfl rfl h26 ?_
    refine cw_seq ?_
    refine cw_region ?_
    refine ow_vals 1 (j := 1) [6] [(6, .int .i64 1)] rfl (by kernel_rfl) ?_
    refine ow_end rfl ?_
    refine ew_then ?_
    refine cw_ret ?_
    refine ew_then_ret ?_
    have hR := Option.some.inj hF
    subst hR
    exact fin1 (H1 := [imm I, pt b0 #[.slice p0 m0.sure_.length c0, .map (some p1), .bool m0.off_, .bool m0.armed_, .int .i64 m0.left_, .int .u64 m0.fall_.Keep, .int .i64 m0.fall_.Tear, .int .i64 m0.acts_, .int .i64 m0.falls_] 65, own e_disk_sector 86 p0 c0 m0.sure_, mpo (kInt .i64) (fun x : disk_sector => Value.agg #[.string x.s_, .int .i64 x.at_]) p1 m0.wait_]) (fun w hs => sat_to [4, 0, 0, 0, 0] 1 rfl hs) rfl (rr_tmp rfl) ⟨p0, c0, p1, rfl, rfl⟩
  refine cw_cond_f rfl rfl h26 ?_
  refine cw_skip ?_
  refine ew_then ?_
  refine cw_seq ?_
  refine cw_open 13 (SAT w0 ([imm I, own e_disk_sector 86 p0 c0 m0.sure_, mpo (kInt .i64) (fun x : disk_sector => Value.agg #[.string x.s_, .int .i64 x.at_]) p1 m0.wait_, pt b21 #[.int .u64 x2.Keep, .int .i64 x2.Tear] 49])) (by kernel_rfl) (f := 14) rfl (fun w hs => sat_drew hs) ?_
  refine aw_vals [0, 1, 2, 3, 5, 6] (f' := 8) (m' := 111) [5, 16, 17, 18, 21] [(5, .pointer (some ⟨b21, 0, none⟩)), (16, .pointer (some ⟨b0, 0, none⟩)), (17, .pointer (some ⟨b0, 0, none⟩)), (18, .int .i64 x1), (21, .pointer (some ⟨b0, 3, none⟩))] (fun _ _ _ _ _ h => calm_fin (P := Tryz.prog) (fn := Tryz.f21) _ _ _ _ _ h) (fun w hs => sat_pulls [0, 1, 1, 1] (G := [pt b0 #[.slice p0 m0.sure_.length c0, .map (some p1), .bool m0.off_, .bool m0.armed_, .int .i64 m0.left_, .int .u64 m0.fall_.Keep, .int .i64 m0.fall_.Tear, .int .i64 m0.acts_, .int .i64 m0.falls_] 65] ++ F0) rfl hs) rfl (by kernel_rfl) ?_
  refine aw_quiet 4 (m' := 127) (v := .agg #[.int .u64 x2.Keep, .int .i64 x2.Tear]) 4 [] rfl rfl rfl rfl (by kernel_rfl) (by kernel_rfl) (by kernel_rfl) (fun _ _ _ _ _ h => calm_fin (P := Tryz.prog) (fn := Tryz.f21) _ _ _ _ _ h) (fun w hs => sat_pulls [0, 1, 1, 1] (G := [pt b0 #[.slice p0 m0.sure_.length c0, .map (some p1), .bool m0.off_, .bool m0.armed_, .int .i64 m0.left_, .int .u64 m0.fall_.Keep, .int .i64 m0.fall_.Tear, .int .i64 m0.acts_, .int .i64 m0.falls_] 65] ++ F0) rfl hs) (q_load 3 rfl rfl rfl (by kernel_rfl)) ?_
  refine aw_only 7 (m' := 255) (by kernel_rfl) (by kernel_rfl) (pw_store 1 #[.slice p0 m0.sure_.length c0, .map (some p1), .bool m0.off_, .bool true, .int .i64 m0.left_, .int .u64 m0.fall_.Keep, .int .i64 m0.fall_.Tear, .int .i64 m0.acts_, .int .i64 m0.falls_] rfl rfl rfl rfl rfl rfl rfl (by kernel_rfl) (nw_H (H' := [imm I, pt b0 #[.slice p0 m0.sure_.length c0, .map (some p1), .bool m0.off_, .bool true, .int .i64 m0.left_, .int .u64 m0.fall_.Keep, .int .i64 m0.fall_.Tear, .int .i64 m0.acts_, .int .i64 m0.falls_] 65, own e_disk_sector 86 p0 c0 m0.sure_, mpo (kInt .i64) (fun x : disk_sector => Value.agg #[.string x.s_, .int .i64 x.at_]) p1 m0.wait_, pt b21 #[.int .u64 x2.Keep, .int .i64 x2.Tear] 49] ++ F0) rfl (aw_next (fun w hs => sat_pulls [0, 1, 1, 1] (G := [pt b0 #[.slice p0 m0.sure_.length c0, .map (some p1), .bool m0.off_, .bool true, .int .i64 m0.left_, .int .u64 m0.fall_.Keep, .int .i64 m0.fall_.Tear, .int .i64 m0.acts_, .int .i64 m0.falls_] 65] ++ F0) rfl hs) ?_)))
  refine aw_vals [8, 9] (f' := 4) (m' := 1023) [17, 18, 19, 23] [(17, .pointer (some ⟨b0, 0, none⟩)), (18, .int .i64 x1), (19, .agg #[.int .u64 x2.Keep, .int .i64 x2.Tear]), (23, .pointer (some ⟨b0, 4, none⟩))] (fun _ _ _ _ _ h => calm_fin (P := Tryz.prog) (fn := Tryz.f21) _ _ _ _ _ h) (fun w hs => sat_pulls [0, 1, 1, 1] (G := [pt b0 #[.slice p0 m0.sure_.length c0, .map (some p1), .bool m0.off_, .bool true, .int .i64 m0.left_, .int .u64 m0.fall_.Keep, .int .i64 m0.fall_.Tear, .int .i64 m0.acts_, .int .i64 m0.falls_] 65] ++ F0) rfl hs) rfl (by kernel_rfl) ?_
  refine aw_only 10 (m' := 2047) (by kernel_rfl) (by kernel_rfl) (pw_store 1 #[.slice p0 m0.sure_.length c0, .map (some p1), .bool m0.off_, .bool true, .int .i64 x1, .int .u64 m0.fall_.Keep, .int .i64 m0.fall_.Tear, .int .i64 m0.acts_, .int .i64 m0.falls_] rfl rfl rfl rfl rfl rfl rfl (by kernel_rfl) (nw_H (H' := [imm I, pt b0 #[.slice p0 m0.sure_.length c0, .map (some p1), .bool m0.off_, .bool true, .int .i64 x1, .int .u64 m0.fall_.Keep, .int .i64 m0.fall_.Tear, .int .i64 m0.acts_, .int .i64 m0.falls_] 65, own e_disk_sector 86 p0 c0 m0.sure_, mpo (kInt .i64) (fun x : disk_sector => Value.agg #[.string x.s_, .int .i64 x.at_]) p1 m0.wait_, pt b21 #[.int .u64 x2.Keep, .int .i64 x2.Tear] 49] ++ F0) rfl (aw_next (fun w hs => sat_pulls [0, 1, 1, 1] (G := [pt b0 #[.slice p0 m0.sure_.length c0, .map (some p1), .bool m0.off_, .bool true, .int .i64 x1, .int .u64 m0.fall_.Keep, .int .i64 m0.fall_.Tear, .int .i64 m0.acts_, .int .i64 m0.falls_] 65] ++ F0) rfl hs) ?_)))
  refine aw_vals [11, 12] (f' := 1) (m' := 8191) [19, 25] [(19, .agg #[.int .u64 x2.Keep, .int .i64 x2.Tear]), (25, .pointer (some ⟨b0, 5, none⟩))] (fun _ _ _ _ _ h => calm_fin (P := Tryz.prog) (fn := Tryz.f21) _ _ _ _ _ h) (fun w hs => sat_pulls [0, 1, 1, 1] (G := [pt b0 #[.slice p0 m0.sure_.length c0, .map (some p1), .bool m0.off_, .bool true, .int .i64 x1, .int .u64 m0.fall_.Keep, .int .i64 m0.fall_.Tear, .int .i64 m0.acts_, .int .i64 m0.falls_] 65] ++ F0) rfl hs) rfl (by kernel_rfl) ?_
  refine aw_only 13 (m' := 16383) (by kernel_rfl) (by kernel_rfl) (pw_store 1 #[.slice p0 m0.sure_.length c0, .map (some p1), .bool m0.off_, .bool true, .int .i64 x1, .int .u64 x2.Keep, .int .i64 x2.Tear, .int .i64 m0.acts_, .int .i64 m0.falls_] rfl rfl rfl rfl rfl rfl rfl (by kernel_rfl) (nw_H (H' := [imm I, pt b0 #[.slice p0 m0.sure_.length c0, .map (some p1), .bool m0.off_, .bool true, .int .i64 x1, .int .u64 x2.Keep, .int .i64 x2.Tear, .int .i64 m0.acts_, .int .i64 m0.falls_] 65, own e_disk_sector 86 p0 c0 m0.sure_, mpo (kInt .i64) (fun x : disk_sector => Value.agg #[.string x.s_, .int .i64 x.at_]) p1 m0.wait_, pt b21 #[.int .u64 x2.Keep, .int .i64 x2.Tear] 49] ++ F0) rfl (aw_last (by kernel_rfl) ?_)))
  refine aw_keep [] (L' := []) rfl ?_
  refine aw_end (by kernel_rfl) ?_
  refine ew_then ?_
  refine cw_seq ?_
  refine cw_region ?_
  refine ow_vals 1 (j := 1) [6] [(6, .int .i64 0)] rfl (by kernel_rfl) ?_
  refine ow_end rfl ?_
  refine ew_then ?_
  refine cw_ret ?_
  have hR := Option.some.inj hF
  subst hR
  exact fin1 (H1 := [imm I, pt b0 #[.slice p0 ((⟨m0.sure_, m0.wait_, m0.off_, true, x1, x2, m0.acts_, m0.falls_⟩ : disk_Disk).sure_).length c0, .map (some p1), .bool ((⟨m0.sure_, m0.wait_, m0.off_, true, x1, x2, m0.acts_, m0.falls_⟩ : disk_Disk).off_), .bool ((⟨m0.sure_, m0.wait_, m0.off_, true, x1, x2, m0.acts_, m0.falls_⟩ : disk_Disk).armed_), .int .i64 ((⟨m0.sure_, m0.wait_, m0.off_, true, x1, x2, m0.acts_, m0.falls_⟩ : disk_Disk).left_), .int .u64 (((⟨m0.sure_, m0.wait_, m0.off_, true, x1, x2, m0.acts_, m0.falls_⟩ : disk_Disk).fall_).Keep), .int .i64 (((⟨m0.sure_, m0.wait_, m0.off_, true, x1, x2, m0.acts_, m0.falls_⟩ : disk_Disk).fall_).Tear), .int .i64 ((⟨m0.sure_, m0.wait_, m0.off_, true, x1, x2, m0.acts_, m0.falls_⟩ : disk_Disk).acts_), .int .i64 ((⟨m0.sure_, m0.wait_, m0.off_, true, x1, x2, m0.acts_, m0.falls_⟩ : disk_Disk).falls_)] 65, own e_disk_sector 86 p0 c0 ((⟨m0.sure_, m0.wait_, m0.off_, true, x1, x2, m0.acts_, m0.falls_⟩ : disk_Disk).sure_), mpo (kInt .i64) (fun x : disk_sector => Value.agg #[.string x.s_, .int .i64 x.at_]) p1 ((⟨m0.sure_, m0.wait_, m0.off_, true, x1, x2, m0.acts_, m0.falls_⟩ : disk_Disk).wait_)]) (fun w hs => sat_to [4, 0, 0, 0, 0] 1 rfl hs) rfl (rr_tmp rfl) ⟨p0, c0, p1, rfl, rfl⟩


def F.disk_Disk_Start (m0 : disk_Disk) : Option (Int × disk_Disk) :=
  Option.bind (F.disk_Disk_Size m0) (fun (r21 : Int) => if r21 == 0 then (some ((9, m0))) else (if !m0.off_ then (some ((25, m0))) else (some ((0, (⟨m0.sure_, m0.wait_, false, m0.armed_, m0.left_, m0.fall_, m0.acts_, m0.falls_⟩ : disk_Disk))))))
set_option maxRecDepth 100000 in
set_option maxHeartbeats 4000000 in
theorem c_disk_Disk_Start (I : Hl) (m0 : disk_Disk) (p0 : Option Addr) (c0 : Nat) (p1 : Nat) (b0 : Nat) (res : Int × disk_Disk) (hF : F.disk_Disk_Start m0 = some res) : Tr Tryz.prog 22 [.pointer (some ⟨b0, 0, none⟩)] [imm I, pt b0 #[.slice p0 m0.sure_.length c0, .map (some p1), .bool m0.off_, .bool m0.armed_, .int .i64 m0.left_, .int .u64 m0.fall_.Keep, .int .i64 m0.fall_.Tear, .int .i64 m0.acts_, .int .i64 m0.falls_] 65, own e_disk_sector 86 p0 c0 m0.sure_, mpo (kInt .i64) (fun x : disk_sector => Value.agg #[.string x.s_, .int .i64 x.at_]) p1 m0.wait_] (fun r H' => ∃ (pq1 : Option Addr), ∃ (cq2 : Nat), ∃ (bq4 : Nat), r = .int .i64 res.1 ∧ H' = [imm I, pt b0 #[.slice pq1 res.2.sure_.length cq2, .map (some bq4), .bool res.2.off_, .bool res.2.armed_, .int .i64 res.2.left_, .int .u64 res.2.fall_.Keep, .int .i64 res.2.fall_.Tear, .int .i64 res.2.acts_, .int .i64 res.2.falls_] 65, own e_disk_sector 86 pq1 cq2 res.2.sure_, mpo (kInt .i64) (fun x : disk_sector => Value.agg #[.string x.s_, .int .i64 x.at_]) bq4 res.2.wait_]) := by
  unfold F.disk_Disk_Start at hF
  refine tr_of_cw (fn := Tryz.f22) Tryz.func22 rfl (Nat.le_of_ble_eq_true rfl) 16 rfl fun F0 w0 => ?_
  refine cw_keep [0] (L' := [(0, .pointer (some ⟨b0, 0, none⟩))]) rfl ?_
  refine cw_state (S' := SAT w0 ([imm I, pt b0 #[.slice p0 m0.sure_.length c0, .map (some p1), .bool m0.off_, .bool m0.armed_, .int .i64 m0.left_, .int .u64 m0.fall_.Keep, .int .i64 m0.fall_.Tear, .int .i64 m0.acts_, .int .i64 m0.falls_] 65, own e_disk_sector 86 p0 c0 m0.sure_, mpo (kInt .i64) (fun x : disk_sector => Value.agg #[.string x.s_, .int .i64 x.at_]) p1 m0.wait_] ++ F0)) (fun w hs => hs) ?_
  refine cw_seq ?_
  refine cw_region ?_
  refine ow_vals 1 (j := 1) [0] [(0, .pointer (some ⟨b0, 0, none⟩))] rfl (by kernel_rfl) ?_
  refine ow_end rfl ?_
  refine ew_then ?_
  refine cw_seq ?_
  refine cw_block ?_
  refine cw_seq ?_
  refine cw_region ?_
  refine ow_vals 1 (j := 1) [0, 4] [(0, .pointer (some ⟨b0, 0, none⟩)), (4, .pointer (some ⟨b0, 0, none⟩))] rfl (by kernel_rfl) ?_
  obtain ⟨r21, h22, hF⟩ := bind_some hF
  refine ow_pw rfl (pw_call (F := [] ++ F0) rfl rfl rfl rfl rfl rfl rfl (by kernel_rfl) (perm_of_pulls [0, 0, 0, 0] rfl) (c_disk_Disk_Size _ m0 p0 c0 p1 b0 r21 h22) ?_)
  rintro _ _ ⟨rfl, rfl⟩
  refine nw_H (H' := [imm I, pt b0 #[.slice p0 m0.sure_.length c0, .map (some p1), .bool m0.off_, .bool m0.armed_, .int .i64 m0.left_, .int .u64 m0.fall_.Keep, .int .i64 m0.fall_.Tear, .int .i64 m0.acts_, .int .i64 m0.falls_] 65, own e_disk_sector 86 p0 c0 m0.sure_, mpo (kInt .i64) (fun x : disk_sector => Value.agg #[.string x.s_, .int .i64 x.at_]) p1 m0.wait_] ++ F0) rfl (nw_ow ?_)
  refine ow_vals 2 (j := 4) [0, 3] [(0, .pointer (some ⟨b0, 0, none⟩)), (3, .bool (r21 == 0))] rfl (by kernel_rfl) ?_
  refine ow_end rfl ?_
  refine ew_then ?_
  rcases if_some hF with ⟨h23, hF⟩ | ⟨h23, hF⟩
  · refine cw_cond_t rfl rfl h23 ?_
    refine cw_seq ?_
    refine cw_region ?_
    refine ow_vals 1 (j := 1) [2] [(2, .int .i64 9)] rfl (by kernel_rfl) ?_
    refine ow_end rfl ?_
    refine ew_then ?_
    refine cw_ret ?_
    refine ew_blk_ret ?_
    refine ew_then_ret ?_
    have hR := Option.some.inj hF
    subst hR
    exact fin1 (H1 := [imm I, pt b0 #[.slice p0 m0.sure_.length c0, .map (some p1), .bool m0.off_, .bool m0.armed_, .int .i64 m0.left_, .int .u64 m0.fall_.Keep, .int .i64 m0.fall_.Tear, .int .i64 m0.acts_, .int .i64 m0.falls_] 65, own e_disk_sector 86 p0 c0 m0.sure_, mpo (kInt .i64) (fun x : disk_sector => Value.agg #[.string x.s_, .int .i64 x.at_]) p1 m0.wait_]) (fun w hs => sat_to [0, 0, 0, 0] 0 rfl hs) rfl (rr_tmp rfl) ⟨p0, c0, p1, rfl, rfl⟩
  refine cw_cond_f rfl rfl h23 ?_
  refine cw_seq ?_
  refine cw_region ?_
  refine ow_vals 3 (j := 3) [0, 10] [(0, .pointer (some ⟨b0, 0, none⟩)), (10, .pointer (some ⟨b0, 2, none⟩))] rfl (by kernel_rfl) ?_
  refine ow_pw rfl (pw_quiet (v := .bool m0.off_) rfl rfl rfl rfl (q_load 1 rfl rfl rfl (by kernel_rfl)) (nw_ow ?_))
  refine ow_vals 2 (j := 6) [0, 7] [(0, .pointer (some ⟨b0, 0, none⟩)), (7, .bool (!m0.off_))] rfl (by kernel_rfl) ?_
  refine ow_end rfl ?_
  refine ew_then ?_
  rcases if_some hF with ⟨h24, hF⟩ | ⟨h24, hF⟩
  · refine cw_cond_t rfl rfl h24 ?_
    refine cw_seq ?_
    refine cw_region ?_
    refine ow_vals 1 (j := 1) [2] [(2, .int .i64 25)] rfl (by kernel_rfl) ?_
    refine ow_end rfl ?_
    refine ew_then ?_
    refine cw_ret ?_
    refine ew_blk_ret ?_
    refine ew_then_ret ?_
    have hR := Option.some.inj hF
    subst hR
    exact fin1 (H1 := [imm I, pt b0 #[.slice p0 m0.sure_.length c0, .map (some p1), .bool m0.off_, .bool m0.armed_, .int .i64 m0.left_, .int .u64 m0.fall_.Keep, .int .i64 m0.fall_.Tear, .int .i64 m0.acts_, .int .i64 m0.falls_] 65, own e_disk_sector 86 p0 c0 m0.sure_, mpo (kInt .i64) (fun x : disk_sector => Value.agg #[.string x.s_, .int .i64 x.at_]) p1 m0.wait_]) (fun w hs => sat_to [0, 0, 0, 0] 0 rfl hs) rfl (rr_tmp rfl) ⟨p0, c0, p1, rfl, rfl⟩
  refine cw_cond_f rfl rfl h24 ?_
  refine cw_skip ?_
  refine ew_blk ?_
  refine ew_then ?_
  refine cw_seq ?_
  refine cw_region ?_
  refine ow_vals 3 (j := 3) [15] [(15, .pointer (some ⟨b0, 2, none⟩))] rfl (by kernel_rfl) ?_
  refine ow_pw rfl (pw_store 1 #[.slice p0 m0.sure_.length c0, .map (some p1), .bool false, .bool m0.armed_, .int .i64 m0.left_, .int .u64 m0.fall_.Keep, .int .i64 m0.fall_.Tear, .int .i64 m0.acts_, .int .i64 m0.falls_] rfl rfl rfl rfl rfl rfl rfl (by kernel_rfl) (nw_H (H' := [imm I, pt b0 #[.slice p0 m0.sure_.length c0, .map (some p1), .bool false, .bool m0.armed_, .int .i64 m0.left_, .int .u64 m0.fall_.Keep, .int .i64 m0.fall_.Tear, .int .i64 m0.acts_, .int .i64 m0.falls_] 65, own e_disk_sector 86 p0 c0 m0.sure_, mpo (kInt .i64) (fun x : disk_sector => Value.agg #[.string x.s_, .int .i64 x.at_]) p1 m0.wait_] ++ F0) rfl (nw_ow ?_)))
  refine ow_end rfl ?_
  refine ew_then ?_
  refine cw_seq ?_
  refine cw_region ?_
  refine ow_vals 1 (j := 1) [2] [(2, .int .i64 0)] rfl (by kernel_rfl) ?_
  refine ow_end rfl ?_
  refine ew_then ?_
  refine cw_ret ?_
  have hR := Option.some.inj hF
  subst hR
  exact fin1 (H1 := [imm I, pt b0 #[.slice p0 ((⟨m0.sure_, m0.wait_, false, m0.armed_, m0.left_, m0.fall_, m0.acts_, m0.falls_⟩ : disk_Disk).sure_).length c0, .map (some p1), .bool ((⟨m0.sure_, m0.wait_, false, m0.armed_, m0.left_, m0.fall_, m0.acts_, m0.falls_⟩ : disk_Disk).off_), .bool ((⟨m0.sure_, m0.wait_, false, m0.armed_, m0.left_, m0.fall_, m0.acts_, m0.falls_⟩ : disk_Disk).armed_), .int .i64 ((⟨m0.sure_, m0.wait_, false, m0.armed_, m0.left_, m0.fall_, m0.acts_, m0.falls_⟩ : disk_Disk).left_), .int .u64 (((⟨m0.sure_, m0.wait_, false, m0.armed_, m0.left_, m0.fall_, m0.acts_, m0.falls_⟩ : disk_Disk).fall_).Keep), .int .i64 (((⟨m0.sure_, m0.wait_, false, m0.armed_, m0.left_, m0.fall_, m0.acts_, m0.falls_⟩ : disk_Disk).fall_).Tear), .int .i64 ((⟨m0.sure_, m0.wait_, false, m0.armed_, m0.left_, m0.fall_, m0.acts_, m0.falls_⟩ : disk_Disk).acts_), .int .i64 ((⟨m0.sure_, m0.wait_, false, m0.armed_, m0.left_, m0.fall_, m0.acts_, m0.falls_⟩ : disk_Disk).falls_)] 65, own e_disk_sector 86 p0 c0 ((⟨m0.sure_, m0.wait_, false, m0.armed_, m0.left_, m0.fall_, m0.acts_, m0.falls_⟩ : disk_Disk).sure_), mpo (kInt .i64) (fun x : disk_sector => Value.agg #[.string x.s_, .int .i64 x.at_]) p1 ((⟨m0.sure_, m0.wait_, false, m0.armed_, m0.left_, m0.fall_, m0.acts_, m0.falls_⟩ : disk_Disk).wait_)]) (fun w hs => sat_to [0, 0, 0, 0] 0 rfl hs) rfl (rr_tmp rfl) ⟨p0, c0, p1, rfl, rfl⟩


def F.law11_SuperEither.r3 (x0 : super_Super) (x2 : Int) (r33 : super_Super) (l75 : List disk_sector) (l79 : List (Int × disk_sector)) (x82 : Bool) (x83 : Bool) (x84 : Int) (x85 : Int) (x86 : Int) (x87 : Int) (x88 : Int) (x89 : Int) (x90 : Int) : Option (Bool) :=
  Option.bind (F.super_Load (⟨l75, l79, x82, x83, x84, (⟨x85, x86⟩ : disk_Fall), x87, x88⟩ : disk_Disk)) (fun (r91 : super_Super × Int) => if r91.2 == 0 then (if ((r91.1.Gen == x0.Gen) && ((r91.1.Boot == x0.Boot) && ((r91.1.Side == x0.Side) && ((r91.1.Seed == x0.Seed) && (true))))) then (Option.bind (F.law11_awake) (fun (r97 : Bool) => some (r97))) else (if ((r91.1.Gen == r33.Gen) && ((r91.1.Boot == x2) && ((r91.1.Side == r33.Side) && ((r91.1.Seed == r33.Seed) && (true))))) then (Option.bind (F.law11_awake) (fun (r100 : Bool) => some (r100))) else (some (false)))) else (some (false)))
def F.law11_SuperEither.r2 (x0 : super_Super) (x2 : Int) (x3 : Int) (x4 : disk_Fall) (r25_s1 : disk_Disk) (r25_s9 : guard_Guard) (r33 : super_Super) : Option (Bool) :=
  thru (Option.bind (F.super_Save x0 r25_s9 r25_s1) (fun (r55 : Int × guard_Guard × disk_Disk) => if r55.1 != 0 then (some (.inr (false))) else (Option.bind (F.disk_Disk_Arm x3 x4 r55.2.2) (fun (r60 : Int × disk_Disk) => if r60.1 != 0 then (some (.inr (false))) else (Option.bind (F.super_Save (⟨r33.Gen, x2, r33.Side, r33.Seed⟩ : super_Super) r55.2.1 r60.2) (fun (r65 : Int × guard_Guard × disk_Disk) => if r65.1 != 8 then (some (.inr (false))) else (Option.bind (F.disk_Disk_Start r65.2.2) (fun (r70 : Int × disk_Disk) => if r70.1 != 0 then (some (.inr (false))) else (some (.inl (r70.2.sure_, r70.2.wait_, r70.2.off_, r70.2.armed_, r70.2.left_, r70.2.fall_.Keep, r70.2.fall_.Tear, r70.2.acts_, r70.2.falls_, r65.2.1.boot_, r65.2.1.n_))))))))))) (fun x => F.law11_SuperEither.r3 x0 x2 r33 x.1 x.2.1 x.2.2.1 x.2.2.2.1 x.2.2.2.2.1 x.2.2.2.2.2.1 x.2.2.2.2.2.2.1 x.2.2.2.2.2.2.2.1 x.2.2.2.2.2.2.2.2.1 x.2.2.2.2.2.2.2.2.2.1 x.2.2.2.2.2.2.2.2.2.2)
def F.law11_SuperEither.r1 (x0 : super_Super) (x1 : Bool) (x2 : Int) (x3 : Int) (x4 : disk_Fall) (r25_s1 : disk_Disk) (r25_s9 : guard_Guard) : Option (Bool) :=
  Option.bind (F.super_Next x0 x1) (fun (r33 : super_Super) => thru (Option.bind (F.law11_right x0) (fun (r38 : Bool) => if !r38 then (Option.bind (F.law11_awake) (fun (r41 : Bool) => some (.inr (r41)))) else (Option.bind (F.law11_right (⟨r33.Gen, x2, r33.Side, r33.Seed⟩ : super_Super)) (fun (r43 : Bool) => if !r43 then (Option.bind (F.law11_awake) (fun (r46 : Bool) => some (.inr (r46)))) else (if decide (x3 < 0) then (Option.bind (F.law11_awake) (fun (r49 : Bool) => some (.inr (r49)))) else (if decide (x3 > 1) then (Option.bind (F.law11_awake) (fun (r52 : Bool) => some (.inr (r52)))) else (some (.inl ())))))))) (fun x => F.law11_SuperEither.r2 x0 x2 x3 x4 r25_s1 r25_s9 r33))
def F.law11_SuperEither (x0 : super_Super) (x1 : Bool) (x2 : Int) (x3 : Int) (x4 : disk_Fall) : Option Bool :=
  Option.bind (F.law11_made) (fun (r25 : (Option disk_Disk) × (Option guard_Guard)) => optC r25.1 (optC r25.2 (some (false)) (fun _ => none)) (fun (r25_s1 : disk_Disk) => optC r25.2 (none) (fun (r25_s9 : guard_Guard) => Option.bind (some (())) (fun x => F.law11_SuperEither.r1 x0 x1 x2 x3 x4 r25_s1 r25_s9))))
set_option maxRecDepth 100000 in
set_option maxHeartbeats 4000000 in
theorem c_law11_SuperEither (I : Hl) (x0 : super_Super) (x1 : Bool) (x2 : Int) (x3 : Int) (x4 : disk_Fall) (res : Bool) (hF : F.law11_SuperEither x0 x1 x2 x3 x4 = some res) : Tr Tryz.prog 5 [.agg #[.int .i64 x0.Gen, .int .i64 x0.Boot, .int .i64 x0.Side, .int .i64 x0.Seed], .bool x1, .int .i64 x2, .int .i64 x3, .agg #[.int .u64 x4.Keep, .int .i64 x4.Tear]] [imm I] (fun r H' => r = .bool res ∧ H' = [imm I]) := by
  unfold F.law11_SuperEither at hF
  refine tr_of_cw (fn := Tryz.f5) Tryz.func5 rfl (Nat.le_of_ble_eq_true rfl) 90 rfl fun F0 w0 => ?_
  refine cw_keep [0, 1, 2, 3, 4] (L' := [(0, .agg #[.int .i64 x0.Gen, .int .i64 x0.Boot, .int .i64 x0.Side, .int .i64 x0.Seed]), (1, .bool x1), (2, .int .i64 x2), (3, .int .i64 x3), (4, .agg #[.int .u64 x4.Keep, .int .i64 x4.Tear])]) rfl ?_
  refine cw_state (S' := SAT w0 ([imm I] ++ F0)) (fun w hs => hs) ?_
  refine cw_seq ?_
  refine cw_region ?_
  refine ow_pw rfl (pw_box (cs := #[.int .i64 x0.Gen, .int .i64 x0.Boot, .int .i64 x0.Side, .int .i64 x0.Seed]) rfl rfl rfl rfl rfl rfl fun b21 => nw_ow ?_)
  refine ow_pw rfl (pw_box (cs := #[.int .u64 x4.Keep, .int .i64 x4.Tear]) rfl rfl rfl rfl rfl rfl fun b23 => nw_ow ?_)
  refine ow_vals 1 (j := 3) [1, 2, 3, 5, 9] [(1, .bool x1), (2, .int .i64 x2), (3, .int .i64 x3), (5, .pointer (some ⟨b21, 0, none⟩)), (9, .pointer (some ⟨b23, 0, none⟩))] rfl (by kernel_rfl) ?_
  refine ow_end rfl ?_
  refine ew_then ?_
  refine cw_seq ?_
  refine cw_region ?_
  obtain ⟨r25, h26, hF⟩ := bind_some hF
  refine ow_pw rfl (pw_call (F := [pt b23 #[.int .u64 x4.Keep, .int .i64 x4.Tear] 49, pt b21 #[.int .i64 x0.Gen, .int .i64 x0.Boot, .int .i64 x0.Side, .int .i64 x0.Seed] 23] ++ F0) rfl rfl rfl rfl rfl rfl rfl (by kernel_rfl) (perm_of_pulls [2] rfl) (c_law11_made _ r25 h26) ?_)
  rintro _ _ (⟨hO, hO1, rfl, rfl⟩ | ⟨r25_s1, r25_b2, r25_p4, r25_c5, r25_b7, r25_s9, r25_b10, hO, hO1, rfl, rfl⟩)
  · rw [hO] at hF
    try dsimp only [optC] at hF
    rw [hO1] at hF
    try dsimp only [optC] at hF
    refine nw_H (H' := [imm I, pt b23 #[.int .u64 x4.Keep, .int .i64 x4.Tear] 49, pt b21 #[.int .i64 x0.Gen, .int .i64 x0.Boot, .int .i64 x0.Side, .int .i64 x0.Seed] 23] ++ F0) rfl (nw_ow ?_)
    refine ow_vals 5 (j := 6) [1, 2, 3, 5, 9, 11, 12] [(1, .bool x1), (2, .int .i64 x2), (3, .int .i64 x3), (5, .pointer (some ⟨b21, 0, none⟩)), (9, .pointer (some ⟨b23, 0, none⟩)), (11, .pointer none), (12, .pointer none)] rfl (by kernel_rfl) ?_
    refine ow_end rfl ?_
    refine ew_then ?_
    refine cw_seq ?_
    refine cw_seq ?_
    refine cw_region ?_
    refine ow_vals 6 (j := 6) [1, 2, 3, 5, 9, 11, 12, 25] [(1, .bool x1), (2, .int .i64 x2), (3, .int .i64 x3), (5, .pointer (some ⟨b21, 0, none⟩)), (9, .pointer (some ⟨b23, 0, none⟩)), (11, .pointer none), (12, .pointer none), (25, .bool true)] rfl (by kernel_rfl) ?_
    refine ow_end rfl ?_
    refine ew_then ?_
    refine cw_cond_t rfl rfl rfl ?_
    refine cw_seq ?_
    refine cw_region ?_
    refine ow_vals 1 (j := 1) [10] [(10, .bool false)] rfl (by kernel_rfl) ?_
    refine ow_end rfl ?_
    refine ew_then ?_
    refine cw_ret ?_
    refine ew_then_ret ?_
    have hR := Option.some.inj hF
    subst hR
    exact fin1 (H1 := [imm I]) (fun w hs => sat_to [1, 1, 0] 2 rfl hs) rfl (rr_tmp rfl) ⟨rfl, rfl⟩
  rw [hO] at hF
  try dsimp only [optC] at hF
  rw [hO1] at hF
  try dsimp only [optC] at hF
  refine nw_H (H' := [imm I, pt r25_b2 #[.slice r25_p4 r25_s1.sure_.length r25_c5, .map (some r25_b7), .bool r25_s1.off_, .bool r25_s1.armed_, .int .i64 r25_s1.left_, .int .u64 r25_s1.fall_.Keep, .int .i64 r25_s1.fall_.Tear, .int .i64 r25_s1.acts_, .int .i64 r25_s1.falls_] 65, pt r25_b10 #[.pointer (some ⟨r25_b2, 0, none⟩), .int .i64 r25_s9.boot_, .int .i64 r25_s9.n_] 76, own e_disk_sector 86 r25_p4 r25_c5 r25_s1.sure_, mpo (kInt .i64) (fun x : disk_sector => Value.agg #[.string x.s_, .int .i64 x.at_]) r25_b7 r25_s1.wait_, pt b23 #[.int .u64 x4.Keep, .int .i64 x4.Tear] 49, pt b21 #[.int .i64 x0.Gen, .int .i64 x0.Boot, .int .i64 x0.Side, .int .i64 x0.Seed] 23] ++ F0) rfl (nw_ow ?_)
  refine ow_vals 5 (j := 6) [1, 2, 3, 5, 9, 11, 12] [(1, .bool x1), (2, .int .i64 x2), (3, .int .i64 x3), (5, .pointer (some ⟨b21, 0, none⟩)), (9, .pointer (some ⟨b23, 0, none⟩)), (11, .pointer (some ⟨r25_b2, 0, none⟩)), (12, .pointer (some ⟨r25_b10, 0, none⟩))] rfl (by kernel_rfl) ?_
  refine ow_end rfl ?_
  refine ew_then ?_
  obtain ⟨v32, hF, hK32⟩ := bind_some hF
  refine cw_mid (fun a w => () = v32 ∧ Fr 90 [(1, .bool x1), (2, .int .i64 x2), (3, .int .i64 x3), (5, .pointer (some ⟨b21, 0, none⟩)), (9, .pointer (some ⟨b23, 0, none⟩)), (11, .pointer (some ⟨r25_b2, 0, none⟩)), (12, .pointer (some ⟨r25_b10, 0, none⟩))] a ∧ SAT w0 ([imm I, pt r25_b2 #[.slice r25_p4 r25_s1.sure_.length r25_c5, .map (some r25_b7), .bool r25_s1.off_, .bool r25_s1.armed_, .int .i64 r25_s1.left_, .int .u64 r25_s1.fall_.Keep, .int .i64 r25_s1.fall_.Tear, .int .i64 r25_s1.acts_, .int .i64 r25_s1.falls_] 65, pt r25_b10 #[.pointer (some ⟨r25_b2, 0, none⟩), .int .i64 r25_s9.boot_, .int .i64 r25_s9.n_] 76, pt b23 #[.int .u64 x4.Keep, .int .i64 x4.Tear] 49, pt b21 #[.int .i64 x0.Gen, .int .i64 x0.Boot, .int .i64 x0.Side, .int .i64 x0.Seed] 23, own e_disk_sector 86 r25_p4 r25_c5 r25_s1.sure_, mpo (kInt .i64) (fun x : disk_sector => Value.agg #[.string x.s_, .int .i64 x.at_]) r25_b7 r25_s1.wait_] ++ F0) w) ?_ ?_
  · refine cw_seq ?_
    refine cw_region ?_
    refine ow_vals 6 (j := 6) [1, 2, 3, 5, 9, 11, 12, 25] [(1, .bool x1), (2, .int .i64 x2), (3, .int .i64 x3), (5, .pointer (some ⟨b21, 0, none⟩)), (9, .pointer (some ⟨b23, 0, none⟩)), (11, .pointer (some ⟨r25_b2, 0, none⟩)), (12, .pointer (some ⟨r25_b10, 0, none⟩)), (25, .bool false)] rfl (by kernel_rfl) ?_
    refine ow_end rfl ?_
    refine ew_then ?_
    refine cw_cond_f rfl rfl rfl ?_
    refine cw_skip ?_
    have hR := Option.some.inj hF
    exact fun a w hf hs => ⟨hR, hf.keep [1, 2, 3, 5, 9, 11, 12], sat_to [0, 0, 0, 2, 2, 0, 0] 0 rfl hs⟩
  rintro a w ⟨hv, hf, hs⟩
  subst hv
  replace hF := hK32
  clear hK32
  try dsimp only at hF
  revert a w
  show CW _ _ _ 90 [(1, .bool x1), (2, .int .i64 x2), (3, .int .i64 x3), (5, .pointer (some ⟨b21, 0, none⟩)), (9, .pointer (some ⟨b23, 0, none⟩)), (11, .pointer (some ⟨r25_b2, 0, none⟩)), (12, .pointer (some ⟨r25_b10, 0, none⟩))] (SAT w0 ([imm I, pt r25_b2 #[.slice r25_p4 r25_s1.sure_.length r25_c5, .map (some r25_b7), .bool r25_s1.off_, .bool r25_s1.armed_, .int .i64 r25_s1.left_, .int .u64 r25_s1.fall_.Keep, .int .i64 r25_s1.fall_.Tear, .int .i64 r25_s1.acts_, .int .i64 r25_s1.falls_] 65, pt r25_b10 #[.pointer (some ⟨r25_b2, 0, none⟩), .int .i64 r25_s9.boot_, .int .i64 r25_s9.n_] 76, pt b23 #[.int .u64 x4.Keep, .int .i64 x4.Tear] 49, pt b21 #[.int .i64 x0.Gen, .int .i64 x0.Boot, .int .i64 x0.Side, .int .i64 x0.Seed] 23, own e_disk_sector 86 r25_p4 r25_c5 r25_s1.sure_, mpo (kInt .i64) (fun x : disk_sector => Value.agg #[.string x.s_, .int .i64 x.at_]) r25_b7 r25_s1.wait_] ++ F0))
  unfold F.law11_SuperEither.r1 at hF
  refine cw_seq ?_
  refine cw_region ?_
  refine ow_pw rfl (pw_quiet (v := .agg #[.int .i64 x0.Gen, .int .i64 x0.Boot, .int .i64 x0.Side, .int .i64 x0.Seed]) rfl rfl rfl rfl (q_load 4 rfl rfl rfl (by kernel_rfl)) (nw_ow ?_))
  refine ow_vals 1 (j := 2) [2, 3, 5, 9, 11, 12, 26, 27] [(2, .int .i64 x2), (3, .int .i64 x3), (5, .pointer (some ⟨b21, 0, none⟩)), (9, .pointer (some ⟨b23, 0, none⟩)), (11, .pointer (some ⟨r25_b2, 0, none⟩)), (12, .pointer (some ⟨r25_b10, 0, none⟩)), (26, .agg #[.int .i64 x0.Gen, .int .i64 x0.Boot, .int .i64 x0.Side, .int .i64 x0.Seed]), (27, .bool x1)] rfl (by kernel_rfl) ?_
  obtain ⟨r33, h34, hF⟩ := bind_some hF
  refine ow_pw rfl (pw_call (F := [pt r25_b2 #[.slice r25_p4 r25_s1.sure_.length r25_c5, .map (some r25_b7), .bool r25_s1.off_, .bool r25_s1.armed_, .int .i64 r25_s1.left_, .int .u64 r25_s1.fall_.Keep, .int .i64 r25_s1.fall_.Tear, .int .i64 r25_s1.acts_, .int .i64 r25_s1.falls_] 65, pt r25_b10 #[.pointer (some ⟨r25_b2, 0, none⟩), .int .i64 r25_s9.boot_, .int .i64 r25_s9.n_] 76, pt b23 #[.int .u64 x4.Keep, .int .i64 x4.Tear] 49, pt b21 #[.int .i64 x0.Gen, .int .i64 x0.Boot, .int .i64 x0.Side, .int .i64 x0.Seed] 23, own e_disk_sector 86 r25_p4 r25_c5 r25_s1.sure_, mpo (kInt .i64) (fun x : disk_sector => Value.agg #[.string x.s_, .int .i64 x.at_]) r25_b7 r25_s1.wait_] ++ F0) rfl rfl rfl rfl rfl rfl rfl (by kernel_rfl) (perm_of_pulls [0] rfl) (c_super_Next _ x0 x1 r33 h34) ?_)
  rintro _ _ ⟨rfl, rfl⟩
  refine nw_H (H' := [imm I, pt r25_b2 #[.slice r25_p4 r25_s1.sure_.length r25_c5, .map (some r25_b7), .bool r25_s1.off_, .bool r25_s1.armed_, .int .i64 r25_s1.left_, .int .u64 r25_s1.fall_.Keep, .int .i64 r25_s1.fall_.Tear, .int .i64 r25_s1.acts_, .int .i64 r25_s1.falls_] 65, pt r25_b10 #[.pointer (some ⟨r25_b2, 0, none⟩), .int .i64 r25_s9.boot_, .int .i64 r25_s9.n_] 76, pt b23 #[.int .u64 x4.Keep, .int .i64 x4.Tear] 49, pt b21 #[.int .i64 x0.Gen, .int .i64 x0.Boot, .int .i64 x0.Side, .int .i64 x0.Seed] 23, own e_disk_sector 86 r25_p4 r25_c5 r25_s1.sure_, mpo (kInt .i64) (fun x : disk_sector => Value.agg #[.string x.s_, .int .i64 x.at_]) r25_b7 r25_s1.wait_] ++ F0) rfl (nw_ow ?_)
  refine ow_pw rfl (pw_alloc (cs := #[.int .i64 0, .int .i64 0, .int .i64 0, .int .i64 0]) rfl rfl rfl rfl rfl (by kernel_rfl) fun b35 => nw_ow ?_)
  refine ow_pw rfl (pw_store 0 #[.int .i64 r33.Gen, .int .i64 r33.Boot, .int .i64 r33.Side, .int .i64 r33.Seed] rfl rfl rfl rfl rfl rfl rfl (by kernel_rfl) (nw_H (H' := [pt b35 #[.int .i64 r33.Gen, .int .i64 r33.Boot, .int .i64 r33.Side, .int .i64 r33.Seed] 23, imm I, pt r25_b2 #[.slice r25_p4 r25_s1.sure_.length r25_c5, .map (some r25_b7), .bool r25_s1.off_, .bool r25_s1.armed_, .int .i64 r25_s1.left_, .int .u64 r25_s1.fall_.Keep, .int .i64 r25_s1.fall_.Tear, .int .i64 r25_s1.acts_, .int .i64 r25_s1.falls_] 65, pt r25_b10 #[.pointer (some ⟨r25_b2, 0, none⟩), .int .i64 r25_s9.boot_, .int .i64 r25_s9.n_] 76, pt b23 #[.int .u64 x4.Keep, .int .i64 x4.Tear] 49, pt b21 #[.int .i64 x0.Gen, .int .i64 x0.Boot, .int .i64 x0.Side, .int .i64 x0.Seed] 23, own e_disk_sector 86 r25_p4 r25_c5 r25_s1.sure_, mpo (kInt .i64) (fun x : disk_sector => Value.agg #[.string x.s_, .int .i64 x.at_]) r25_b7 r25_s1.wait_] ++ F0) rfl (nw_ow ?_)))
  refine ow_end rfl ?_
  refine ew_then ?_
  refine cw_seq ?_
  refine cw_region ?_
  refine ow_vals 2 (j := 2) [3, 5, 9, 11, 12, 13, 29, 30] [(3, .int .i64 x3), (5, .pointer (some ⟨b21, 0, none⟩)), (9, .pointer (some ⟨b23, 0, none⟩)), (11, .pointer (some ⟨r25_b2, 0, none⟩)), (12, .pointer (some ⟨r25_b10, 0, none⟩)), (13, .pointer (some ⟨b35, 0, none⟩)), (29, .int .i64 x2), (30, .pointer (some ⟨b35, 1, none⟩))] rfl (by kernel_rfl) ?_
  refine ow_pw rfl (pw_store 0 #[.int .i64 r33.Gen, .int .i64 x2, .int .i64 r33.Side, .int .i64 r33.Seed] rfl rfl rfl rfl rfl rfl rfl (by kernel_rfl) (nw_H (H' := [pt b35 #[.int .i64 r33.Gen, .int .i64 x2, .int .i64 r33.Side, .int .i64 r33.Seed] 23, imm I, pt r25_b2 #[.slice r25_p4 r25_s1.sure_.length r25_c5, .map (some r25_b7), .bool r25_s1.off_, .bool r25_s1.armed_, .int .i64 r25_s1.left_, .int .u64 r25_s1.fall_.Keep, .int .i64 r25_s1.fall_.Tear, .int .i64 r25_s1.acts_, .int .i64 r25_s1.falls_] 65, pt r25_b10 #[.pointer (some ⟨r25_b2, 0, none⟩), .int .i64 r25_s9.boot_, .int .i64 r25_s9.n_] 76, pt b23 #[.int .u64 x4.Keep, .int .i64 x4.Tear] 49, pt b21 #[.int .i64 x0.Gen, .int .i64 x0.Boot, .int .i64 x0.Side, .int .i64 x0.Seed] 23, own e_disk_sector 86 r25_p4 r25_c5 r25_s1.sure_, mpo (kInt .i64) (fun x : disk_sector => Value.agg #[.string x.s_, .int .i64 x.at_]) r25_b7 r25_s1.wait_] ++ F0) rfl (nw_ow ?_)))
  refine ow_end rfl ?_
  refine ew_then ?_
  obtain ⟨v37, hF, hK37⟩ := thru_some hF
  refine cw_mid (fun a w => .inl () = v37 ∧ Fr 90 [(3, .int .i64 x3), (5, .pointer (some ⟨b21, 0, none⟩)), (9, .pointer (some ⟨b23, 0, none⟩)), (11, .pointer (some ⟨r25_b2, 0, none⟩)), (12, .pointer (some ⟨r25_b10, 0, none⟩)), (13, .pointer (some ⟨b35, 0, none⟩))] a ∧ SAT w0 ([imm I, pt b35 #[.int .i64 r33.Gen, .int .i64 x2, .int .i64 r33.Side, .int .i64 r33.Seed] 23, pt r25_b2 #[.slice r25_p4 r25_s1.sure_.length r25_c5, .map (some r25_b7), .bool r25_s1.off_, .bool r25_s1.armed_, .int .i64 r25_s1.left_, .int .u64 r25_s1.fall_.Keep, .int .i64 r25_s1.fall_.Tear, .int .i64 r25_s1.acts_, .int .i64 r25_s1.falls_] 65, pt r25_b10 #[.pointer (some ⟨r25_b2, 0, none⟩), .int .i64 r25_s9.boot_, .int .i64 r25_s9.n_] 76, pt b23 #[.int .u64 x4.Keep, .int .i64 x4.Tear] 49, pt b21 #[.int .i64 x0.Gen, .int .i64 x0.Boot, .int .i64 x0.Side, .int .i64 x0.Seed] 23, own e_disk_sector 86 r25_p4 r25_c5 r25_s1.sure_, mpo (kInt .i64) (fun x : disk_sector => Value.agg #[.string x.s_, .int .i64 x.at_]) r25_b7 r25_s1.wait_] ++ F0) w) ?_ ?_
  · refine cw_seq ?_
    refine cw_region ?_
    refine ow_pw rfl (pw_quiet (v := .agg #[.int .i64 x0.Gen, .int .i64 x0.Boot, .int .i64 x0.Side, .int .i64 x0.Seed]) rfl rfl rfl rfl (q_load 5 rfl rfl rfl (by kernel_rfl)) (nw_ow ?_))
    obtain ⟨r38, h39, hF⟩ := bind_some hF
    refine ow_pw rfl (pw_call (F := [pt b35 #[.int .i64 r33.Gen, .int .i64 x2, .int .i64 r33.Side, .int .i64 r33.Seed] 23, pt r25_b2 #[.slice r25_p4 r25_s1.sure_.length r25_c5, .map (some r25_b7), .bool r25_s1.off_, .bool r25_s1.armed_, .int .i64 r25_s1.left_, .int .u64 r25_s1.fall_.Keep, .int .i64 r25_s1.fall_.Tear, .int .i64 r25_s1.acts_, .int .i64 r25_s1.falls_] 65, pt r25_b10 #[.pointer (some ⟨r25_b2, 0, none⟩), .int .i64 r25_s9.boot_, .int .i64 r25_s9.n_] 76, pt b23 #[.int .u64 x4.Keep, .int .i64 x4.Tear] 49, pt b21 #[.int .i64 x0.Gen, .int .i64 x0.Boot, .int .i64 x0.Side, .int .i64 x0.Seed] 23, own e_disk_sector 86 r25_p4 r25_c5 r25_s1.sure_, mpo (kInt .i64) (fun x : disk_sector => Value.agg #[.string x.s_, .int .i64 x.at_]) r25_b7 r25_s1.wait_] ++ F0) rfl rfl rfl rfl rfl rfl rfl (by kernel_rfl) (perm_of_pulls [1] rfl) (c_law11_right _ x0 r38 h39) ?_)
    rintro _ _ ⟨rfl, rfl⟩
    refine nw_H (H' := [imm I, pt b35 #[.int .i64 r33.Gen, .int .i64 x2, .int .i64 r33.Side, .int .i64 r33.Seed] 23, pt r25_b2 #[.slice r25_p4 r25_s1.sure_.length r25_c5, .map (some r25_b7), .bool r25_s1.off_, .bool r25_s1.armed_, .int .i64 r25_s1.left_, .int .u64 r25_s1.fall_.Keep, .int .i64 r25_s1.fall_.Tear, .int .i64 r25_s1.acts_, .int .i64 r25_s1.falls_] 65, pt r25_b10 #[.pointer (some ⟨r25_b2, 0, none⟩), .int .i64 r25_s9.boot_, .int .i64 r25_s9.n_] 76, pt b23 #[.int .u64 x4.Keep, .int .i64 x4.Tear] 49, pt b21 #[.int .i64 x0.Gen, .int .i64 x0.Boot, .int .i64 x0.Side, .int .i64 x0.Seed] 23, own e_disk_sector 86 r25_p4 r25_c5 r25_s1.sure_, mpo (kInt .i64) (fun x : disk_sector => Value.agg #[.string x.s_, .int .i64 x.at_]) r25_b7 r25_s1.wait_] ++ F0) rfl (nw_ow ?_)
    refine ow_vals 2 (j := 4) [3, 5, 9, 11, 12, 13, 34] [(3, .int .i64 x3), (5, .pointer (some ⟨b21, 0, none⟩)), (9, .pointer (some ⟨b23, 0, none⟩)), (11, .pointer (some ⟨r25_b2, 0, none⟩)), (12, .pointer (some ⟨r25_b10, 0, none⟩)), (13, .pointer (some ⟨b35, 0, none⟩)), (34, .bool (!r38))] rfl (by kernel_rfl) ?_
    rcases if_some hF with ⟨h40, hF⟩ | ⟨h40, hF⟩
    · refine ow_slots (L' := [(3, .int .i64 x3), (5, .pointer (some ⟨b21, 0, none⟩)), (9, .pointer (some ⟨b23, 0, none⟩)), (11, .pointer (some ⟨r25_b2, 0, none⟩)), (12, .pointer (some ⟨r25_b10, 0, none⟩)), (13, .pointer (some ⟨b35, 0, none⟩)), (34, .bool true)]) (by rw [h40]) ?_
      refine ow_vals 12 (j := 16) [3, 5, 9, 11, 12, 13, 46] [(3, .int .i64 x3), (5, .pointer (some ⟨b21, 0, none⟩)), (9, .pointer (some ⟨b23, 0, none⟩)), (11, .pointer (some ⟨r25_b2, 0, none⟩)), (12, .pointer (some ⟨r25_b10, 0, none⟩)), (13, .pointer (some ⟨b35, 0, none⟩)), (46, .bool true)] rfl (by kernel_rfl) ?_
      refine ow_end rfl ?_
      refine ew_then ?_
      refine cw_cond_t rfl rfl rfl ?_
      refine cw_seq ?_
      refine cw_region ?_
      obtain ⟨r41, h42, hF⟩ := bind_some hF
      refine ow_pw rfl (pw_call (F := [pt b35 #[.int .i64 r33.Gen, .int .i64 x2, .int .i64 r33.Side, .int .i64 r33.Seed] 23, pt r25_b2 #[.slice r25_p4 r25_s1.sure_.length r25_c5, .map (some r25_b7), .bool r25_s1.off_, .bool r25_s1.armed_, .int .i64 r25_s1.left_, .int .u64 r25_s1.fall_.Keep, .int .i64 r25_s1.fall_.Tear, .int .i64 r25_s1.acts_, .int .i64 r25_s1.falls_] 65, pt r25_b10 #[.pointer (some ⟨r25_b2, 0, none⟩), .int .i64 r25_s9.boot_, .int .i64 r25_s9.n_] 76, pt b23 #[.int .u64 x4.Keep, .int .i64 x4.Tear] 49, pt b21 #[.int .i64 x0.Gen, .int .i64 x0.Boot, .int .i64 x0.Side, .int .i64 x0.Seed] 23, own e_disk_sector 86 r25_p4 r25_c5 r25_s1.sure_, mpo (kInt .i64) (fun x : disk_sector => Value.agg #[.string x.s_, .int .i64 x.at_]) r25_b7 r25_s1.wait_] ++ F0) rfl rfl rfl rfl rfl rfl rfl (by kernel_rfl) (perm_of_pulls [0] rfl) (c_law11_awake _ r41 h42) ?_)
      rintro _ _ ⟨rfl, rfl⟩
      refine nw_H (H' := [imm I, pt b35 #[.int .i64 r33.Gen, .int .i64 x2, .int .i64 r33.Side, .int .i64 r33.Seed] 23, pt r25_b2 #[.slice r25_p4 r25_s1.sure_.length r25_c5, .map (some r25_b7), .bool r25_s1.off_, .bool r25_s1.armed_, .int .i64 r25_s1.left_, .int .u64 r25_s1.fall_.Keep, .int .i64 r25_s1.fall_.Tear, .int .i64 r25_s1.acts_, .int .i64 r25_s1.falls_] 65, pt r25_b10 #[.pointer (some ⟨r25_b2, 0, none⟩), .int .i64 r25_s9.boot_, .int .i64 r25_s9.n_] 76, pt b23 #[.int .u64 x4.Keep, .int .i64 x4.Tear] 49, pt b21 #[.int .i64 x0.Gen, .int .i64 x0.Boot, .int .i64 x0.Side, .int .i64 x0.Seed] 23, own e_disk_sector 86 r25_p4 r25_c5 r25_s1.sure_, mpo (kInt .i64) (fun x : disk_sector => Value.agg #[.string x.s_, .int .i64 x.at_]) r25_b7 r25_s1.wait_] ++ F0) rfl (nw_ow ?_)
      refine ow_vals 1 (j := 2) [10] [(10, .bool r41)] rfl (by kernel_rfl) ?_
      refine ow_end rfl ?_
      refine ew_then ?_
      refine cw_ret ?_
      refine ew_then_ret ?_
      have hR := Option.some.inj hF
      subst hR
      have hR := hK37
      try dsimp only [Thru] at hR
      subst hR
      exact fin1 (H1 := [imm I]) (fun w hs => sat_to [1, 1, 1, 1, 1, 1, 1, 0] 7 rfl hs) rfl (rr_tmp rfl) ⟨rfl, rfl⟩
    refine ow_slots (L' := [(3, .int .i64 x3), (5, .pointer (some ⟨b21, 0, none⟩)), (9, .pointer (some ⟨b23, 0, none⟩)), (11, .pointer (some ⟨r25_b2, 0, none⟩)), (12, .pointer (some ⟨r25_b10, 0, none⟩)), (13, .pointer (some ⟨b35, 0, none⟩)), (34, .bool false)]) (by rw [h40]) ?_
    refine ow_pw rfl (pw_quiet (v := .agg #[.int .i64 r33.Gen, .int .i64 x2, .int .i64 r33.Side, .int .i64 r33.Seed]) rfl rfl rfl rfl (q_load 1 rfl rfl rfl (by kernel_rfl)) (nw_ow ?_))
    obtain ⟨r43, h44, hF⟩ := bind_some hF
    refine ow_pw rfl (pw_call (F := [pt b35 #[.int .i64 r33.Gen, .int .i64 x2, .int .i64 r33.Side, .int .i64 r33.Seed] 23, pt r25_b2 #[.slice r25_p4 r25_s1.sure_.length r25_c5, .map (some r25_b7), .bool r25_s1.off_, .bool r25_s1.armed_, .int .i64 r25_s1.left_, .int .u64 r25_s1.fall_.Keep, .int .i64 r25_s1.fall_.Tear, .int .i64 r25_s1.acts_, .int .i64 r25_s1.falls_] 65, pt r25_b10 #[.pointer (some ⟨r25_b2, 0, none⟩), .int .i64 r25_s9.boot_, .int .i64 r25_s9.n_] 76, pt b23 #[.int .u64 x4.Keep, .int .i64 x4.Tear] 49, pt b21 #[.int .i64 x0.Gen, .int .i64 x0.Boot, .int .i64 x0.Side, .int .i64 x0.Seed] 23, own e_disk_sector 86 r25_p4 r25_c5 r25_s1.sure_, mpo (kInt .i64) (fun x : disk_sector => Value.agg #[.string x.s_, .int .i64 x.at_]) r25_b7 r25_s1.wait_] ++ F0) rfl rfl rfl rfl rfl rfl rfl (by kernel_rfl) (perm_of_pulls [0] rfl) (c_law11_right _ (⟨r33.Gen, x2, r33.Side, r33.Seed⟩ : super_Super) r43 h44) ?_)
    rintro _ _ ⟨rfl, rfl⟩
    refine nw_H (H' := [imm I, pt b35 #[.int .i64 r33.Gen, .int .i64 x2, .int .i64 r33.Side, .int .i64 r33.Seed] 23, pt r25_b2 #[.slice r25_p4 r25_s1.sure_.length r25_c5, .map (some r25_b7), .bool r25_s1.off_, .bool r25_s1.armed_, .int .i64 r25_s1.left_, .int .u64 r25_s1.fall_.Keep, .int .i64 r25_s1.fall_.Tear, .int .i64 r25_s1.acts_, .int .i64 r25_s1.falls_] 65, pt r25_b10 #[.pointer (some ⟨r25_b2, 0, none⟩), .int .i64 r25_s9.boot_, .int .i64 r25_s9.n_] 76, pt b23 #[.int .u64 x4.Keep, .int .i64 x4.Tear] 49, pt b21 #[.int .i64 x0.Gen, .int .i64 x0.Boot, .int .i64 x0.Side, .int .i64 x0.Seed] 23, own e_disk_sector 86 r25_p4 r25_c5 r25_s1.sure_, mpo (kInt .i64) (fun x : disk_sector => Value.agg #[.string x.s_, .int .i64 x.at_]) r25_b7 r25_s1.wait_] ++ F0) rfl (nw_ow ?_)
    refine ow_vals 3 (j := 9) [3, 5, 9, 11, 12, 13, 39] [(3, .int .i64 x3), (5, .pointer (some ⟨b21, 0, none⟩)), (9, .pointer (some ⟨b23, 0, none⟩)), (11, .pointer (some ⟨r25_b2, 0, none⟩)), (12, .pointer (some ⟨r25_b10, 0, none⟩)), (13, .pointer (some ⟨b35, 0, none⟩)), (39, .bool (!r43))] rfl (by kernel_rfl) ?_
    rcases if_some hF with ⟨h45, hF⟩ | ⟨h45, hF⟩
    · refine ow_slots (L' := [(3, .int .i64 x3), (5, .pointer (some ⟨b21, 0, none⟩)), (9, .pointer (some ⟨b23, 0, none⟩)), (11, .pointer (some ⟨r25_b2, 0, none⟩)), (12, .pointer (some ⟨r25_b10, 0, none⟩)), (13, .pointer (some ⟨b35, 0, none⟩)), (39, .bool true)]) (by rw [h45]) ?_
      refine ow_vals 7 (j := 16) [3, 5, 9, 11, 12, 13, 46] [(3, .int .i64 x3), (5, .pointer (some ⟨b21, 0, none⟩)), (9, .pointer (some ⟨b23, 0, none⟩)), (11, .pointer (some ⟨r25_b2, 0, none⟩)), (12, .pointer (some ⟨r25_b10, 0, none⟩)), (13, .pointer (some ⟨b35, 0, none⟩)), (46, .bool true)] rfl (by kernel_rfl) ?_
      refine ow_end rfl ?_
      refine ew_then ?_
      refine cw_cond_t rfl rfl rfl ?_
      refine cw_seq ?_
      refine cw_region ?_
      obtain ⟨r46, h47, hF⟩ := bind_some hF
      refine ow_pw rfl (pw_call (F := [pt b35 #[.int .i64 r33.Gen, .int .i64 x2, .int .i64 r33.Side, .int .i64 r33.Seed] 23, pt r25_b2 #[.slice r25_p4 r25_s1.sure_.length r25_c5, .map (some r25_b7), .bool r25_s1.off_, .bool r25_s1.armed_, .int .i64 r25_s1.left_, .int .u64 r25_s1.fall_.Keep, .int .i64 r25_s1.fall_.Tear, .int .i64 r25_s1.acts_, .int .i64 r25_s1.falls_] 65, pt r25_b10 #[.pointer (some ⟨r25_b2, 0, none⟩), .int .i64 r25_s9.boot_, .int .i64 r25_s9.n_] 76, pt b23 #[.int .u64 x4.Keep, .int .i64 x4.Tear] 49, pt b21 #[.int .i64 x0.Gen, .int .i64 x0.Boot, .int .i64 x0.Side, .int .i64 x0.Seed] 23, own e_disk_sector 86 r25_p4 r25_c5 r25_s1.sure_, mpo (kInt .i64) (fun x : disk_sector => Value.agg #[.string x.s_, .int .i64 x.at_]) r25_b7 r25_s1.wait_] ++ F0) rfl rfl rfl rfl rfl rfl rfl (by kernel_rfl) (perm_of_pulls [0] rfl) (c_law11_awake _ r46 h47) ?_)
      rintro _ _ ⟨rfl, rfl⟩
      refine nw_H (H' := [imm I, pt b35 #[.int .i64 r33.Gen, .int .i64 x2, .int .i64 r33.Side, .int .i64 r33.Seed] 23, pt r25_b2 #[.slice r25_p4 r25_s1.sure_.length r25_c5, .map (some r25_b7), .bool r25_s1.off_, .bool r25_s1.armed_, .int .i64 r25_s1.left_, .int .u64 r25_s1.fall_.Keep, .int .i64 r25_s1.fall_.Tear, .int .i64 r25_s1.acts_, .int .i64 r25_s1.falls_] 65, pt r25_b10 #[.pointer (some ⟨r25_b2, 0, none⟩), .int .i64 r25_s9.boot_, .int .i64 r25_s9.n_] 76, pt b23 #[.int .u64 x4.Keep, .int .i64 x4.Tear] 49, pt b21 #[.int .i64 x0.Gen, .int .i64 x0.Boot, .int .i64 x0.Side, .int .i64 x0.Seed] 23, own e_disk_sector 86 r25_p4 r25_c5 r25_s1.sure_, mpo (kInt .i64) (fun x : disk_sector => Value.agg #[.string x.s_, .int .i64 x.at_]) r25_b7 r25_s1.wait_] ++ F0) rfl (nw_ow ?_)
      refine ow_vals 1 (j := 2) [10] [(10, .bool r46)] rfl (by kernel_rfl) ?_
      refine ow_end rfl ?_
      refine ew_then ?_
      refine cw_ret ?_
      refine ew_then_ret ?_
      have hR := Option.some.inj hF
      subst hR
      have hR := hK37
      try dsimp only [Thru] at hR
      subst hR
      exact fin1 (H1 := [imm I]) (fun w hs => sat_to [1, 1, 1, 1, 1, 1, 1, 0] 7 rfl hs) rfl (rr_tmp rfl) ⟨rfl, rfl⟩
    refine ow_slots (L' := [(3, .int .i64 x3), (5, .pointer (some ⟨b21, 0, none⟩)), (9, .pointer (some ⟨b23, 0, none⟩)), (11, .pointer (some ⟨r25_b2, 0, none⟩)), (12, .pointer (some ⟨r25_b10, 0, none⟩)), (13, .pointer (some ⟨b35, 0, none⟩)), (39, .bool false)]) (by rw [h45]) ?_
    refine ow_vals 4 (j := 13) [3, 5, 9, 11, 12, 13, 43] [(3, .int .i64 x3), (5, .pointer (some ⟨b21, 0, none⟩)), (9, .pointer (some ⟨b23, 0, none⟩)), (11, .pointer (some ⟨r25_b2, 0, none⟩)), (12, .pointer (some ⟨r25_b10, 0, none⟩)), (13, .pointer (some ⟨b35, 0, none⟩)), (43, .bool (decide (x3 < 0)))] rfl (by kernel_rfl) ?_
    rcases if_some hF with ⟨h48, hF⟩ | ⟨h48, hF⟩
    · refine ow_slots (L' := [(3, .int .i64 x3), (5, .pointer (some ⟨b21, 0, none⟩)), (9, .pointer (some ⟨b23, 0, none⟩)), (11, .pointer (some ⟨r25_b2, 0, none⟩)), (12, .pointer (some ⟨r25_b10, 0, none⟩)), (13, .pointer (some ⟨b35, 0, none⟩)), (43, .bool true)]) (by rw [h48]) ?_
      refine ow_vals 3 (j := 16) [3, 5, 9, 11, 12, 13, 46] [(3, .int .i64 x3), (5, .pointer (some ⟨b21, 0, none⟩)), (9, .pointer (some ⟨b23, 0, none⟩)), (11, .pointer (some ⟨r25_b2, 0, none⟩)), (12, .pointer (some ⟨r25_b10, 0, none⟩)), (13, .pointer (some ⟨b35, 0, none⟩)), (46, .bool true)] rfl (by kernel_rfl) ?_
      refine ow_end rfl ?_
      refine ew_then ?_
      refine cw_cond_t rfl rfl rfl ?_
      refine cw_seq ?_
      refine cw_region ?_
      obtain ⟨r49, h50, hF⟩ := bind_some hF
      refine ow_pw rfl (pw_call (F := [pt b35 #[.int .i64 r33.Gen, .int .i64 x2, .int .i64 r33.Side, .int .i64 r33.Seed] 23, pt r25_b2 #[.slice r25_p4 r25_s1.sure_.length r25_c5, .map (some r25_b7), .bool r25_s1.off_, .bool r25_s1.armed_, .int .i64 r25_s1.left_, .int .u64 r25_s1.fall_.Keep, .int .i64 r25_s1.fall_.Tear, .int .i64 r25_s1.acts_, .int .i64 r25_s1.falls_] 65, pt r25_b10 #[.pointer (some ⟨r25_b2, 0, none⟩), .int .i64 r25_s9.boot_, .int .i64 r25_s9.n_] 76, pt b23 #[.int .u64 x4.Keep, .int .i64 x4.Tear] 49, pt b21 #[.int .i64 x0.Gen, .int .i64 x0.Boot, .int .i64 x0.Side, .int .i64 x0.Seed] 23, own e_disk_sector 86 r25_p4 r25_c5 r25_s1.sure_, mpo (kInt .i64) (fun x : disk_sector => Value.agg #[.string x.s_, .int .i64 x.at_]) r25_b7 r25_s1.wait_] ++ F0) rfl rfl rfl rfl rfl rfl rfl (by kernel_rfl) (perm_of_pulls [0] rfl) (c_law11_awake _ r49 h50) ?_)
      rintro _ _ ⟨rfl, rfl⟩
      refine nw_H (H' := [imm I, pt b35 #[.int .i64 r33.Gen, .int .i64 x2, .int .i64 r33.Side, .int .i64 r33.Seed] 23, pt r25_b2 #[.slice r25_p4 r25_s1.sure_.length r25_c5, .map (some r25_b7), .bool r25_s1.off_, .bool r25_s1.armed_, .int .i64 r25_s1.left_, .int .u64 r25_s1.fall_.Keep, .int .i64 r25_s1.fall_.Tear, .int .i64 r25_s1.acts_, .int .i64 r25_s1.falls_] 65, pt r25_b10 #[.pointer (some ⟨r25_b2, 0, none⟩), .int .i64 r25_s9.boot_, .int .i64 r25_s9.n_] 76, pt b23 #[.int .u64 x4.Keep, .int .i64 x4.Tear] 49, pt b21 #[.int .i64 x0.Gen, .int .i64 x0.Boot, .int .i64 x0.Side, .int .i64 x0.Seed] 23, own e_disk_sector 86 r25_p4 r25_c5 r25_s1.sure_, mpo (kInt .i64) (fun x : disk_sector => Value.agg #[.string x.s_, .int .i64 x.at_]) r25_b7 r25_s1.wait_] ++ F0) rfl (nw_ow ?_)
      refine ow_vals 1 (j := 2) [10] [(10, .bool r49)] rfl (by kernel_rfl) ?_
      refine ow_end rfl ?_
      refine ew_then ?_
      refine cw_ret ?_
      refine ew_then_ret ?_
      have hR := Option.some.inj hF
      subst hR
      have hR := hK37
      try dsimp only [Thru] at hR
      subst hR
      exact fin1 (H1 := [imm I]) (fun w hs => sat_to [1, 1, 1, 1, 1, 1, 1, 0] 7 rfl hs) rfl (rr_tmp rfl) ⟨rfl, rfl⟩
    refine ow_slots (L' := [(3, .int .i64 x3), (5, .pointer (some ⟨b21, 0, none⟩)), (9, .pointer (some ⟨b23, 0, none⟩)), (11, .pointer (some ⟨r25_b2, 0, none⟩)), (12, .pointer (some ⟨r25_b10, 0, none⟩)), (13, .pointer (some ⟨b35, 0, none⟩)), (43, .bool false)]) (by rw [h48]) ?_
    refine ow_vals 3 (j := 16) [3, 5, 9, 11, 12, 13, 46] [(3, .int .i64 x3), (5, .pointer (some ⟨b21, 0, none⟩)), (9, .pointer (some ⟨b23, 0, none⟩)), (11, .pointer (some ⟨r25_b2, 0, none⟩)), (12, .pointer (some ⟨r25_b10, 0, none⟩)), (13, .pointer (some ⟨b35, 0, none⟩)), (46, .bool (decide (x3 > 1)))] rfl (by kernel_rfl) ?_
    refine ow_end rfl ?_
    refine ew_then ?_
    rcases if_some hF with ⟨h51, hF⟩ | ⟨h51, hF⟩
    · refine cw_cond_t rfl rfl h51 ?_
      refine cw_seq ?_
      refine cw_region ?_
      obtain ⟨r52, h53, hF⟩ := bind_some hF
      refine ow_pw rfl (pw_call (F := [pt b35 #[.int .i64 r33.Gen, .int .i64 x2, .int .i64 r33.Side, .int .i64 r33.Seed] 23, pt r25_b2 #[.slice r25_p4 r25_s1.sure_.length r25_c5, .map (some r25_b7), .bool r25_s1.off_, .bool r25_s1.armed_, .int .i64 r25_s1.left_, .int .u64 r25_s1.fall_.Keep, .int .i64 r25_s1.fall_.Tear, .int .i64 r25_s1.acts_, .int .i64 r25_s1.falls_] 65, pt r25_b10 #[.pointer (some ⟨r25_b2, 0, none⟩), .int .i64 r25_s9.boot_, .int .i64 r25_s9.n_] 76, pt b23 #[.int .u64 x4.Keep, .int .i64 x4.Tear] 49, pt b21 #[.int .i64 x0.Gen, .int .i64 x0.Boot, .int .i64 x0.Side, .int .i64 x0.Seed] 23, own e_disk_sector 86 r25_p4 r25_c5 r25_s1.sure_, mpo (kInt .i64) (fun x : disk_sector => Value.agg #[.string x.s_, .int .i64 x.at_]) r25_b7 r25_s1.wait_] ++ F0) rfl rfl rfl rfl rfl rfl rfl (by kernel_rfl) (perm_of_pulls [0] rfl) (c_law11_awake _ r52 h53) ?_)
      rintro _ _ ⟨rfl, rfl⟩
      refine nw_H (H' := [imm I, pt b35 #[.int .i64 r33.Gen, .int .i64 x2, .int .i64 r33.Side, .int .i64 r33.Seed] 23, pt r25_b2 #[.slice r25_p4 r25_s1.sure_.length r25_c5, .map (some r25_b7), .bool r25_s1.off_, .bool r25_s1.armed_, .int .i64 r25_s1.left_, .int .u64 r25_s1.fall_.Keep, .int .i64 r25_s1.fall_.Tear, .int .i64 r25_s1.acts_, .int .i64 r25_s1.falls_] 65, pt r25_b10 #[.pointer (some ⟨r25_b2, 0, none⟩), .int .i64 r25_s9.boot_, .int .i64 r25_s9.n_] 76, pt b23 #[.int .u64 x4.Keep, .int .i64 x4.Tear] 49, pt b21 #[.int .i64 x0.Gen, .int .i64 x0.Boot, .int .i64 x0.Side, .int .i64 x0.Seed] 23, own e_disk_sector 86 r25_p4 r25_c5 r25_s1.sure_, mpo (kInt .i64) (fun x : disk_sector => Value.agg #[.string x.s_, .int .i64 x.at_]) r25_b7 r25_s1.wait_] ++ F0) rfl (nw_ow ?_)
      refine ow_vals 1 (j := 2) [10] [(10, .bool r52)] rfl (by kernel_rfl) ?_
      refine ow_end rfl ?_
      refine ew_then ?_
      refine cw_ret ?_
      refine ew_then_ret ?_
      have hR := Option.some.inj hF
      subst hR
      have hR := hK37
      try dsimp only [Thru] at hR
      subst hR
      exact fin1 (H1 := [imm I]) (fun w hs => sat_to [1, 1, 1, 1, 1, 1, 1, 0] 7 rfl hs) rfl (rr_tmp rfl) ⟨rfl, rfl⟩
    refine cw_cond_f rfl rfl h51 ?_
    refine cw_skip ?_
    have hR := Option.some.inj hF
    exact fun a w hf hs => ⟨hR, hf.keep [3, 5, 9, 11, 12, 13], sat_to [0, 0, 0, 0, 0, 0, 0, 0] 0 rfl hs⟩
  rintro a w ⟨hv, hf, hs⟩
  subst hv
  replace hF := hK37
  clear hK37
  try dsimp only [Thru] at hF
  revert a w
  show CW _ _ _ 90 [(3, .int .i64 x3), (5, .pointer (some ⟨b21, 0, none⟩)), (9, .pointer (some ⟨b23, 0, none⟩)), (11, .pointer (some ⟨r25_b2, 0, none⟩)), (12, .pointer (some ⟨r25_b10, 0, none⟩)), (13, .pointer (some ⟨b35, 0, none⟩))] (SAT w0 ([imm I, pt b35 #[.int .i64 r33.Gen, .int .i64 x2, .int .i64 r33.Side, .int .i64 r33.Seed] 23, pt r25_b2 #[.slice r25_p4 r25_s1.sure_.length r25_c5, .map (some r25_b7), .bool r25_s1.off_, .bool r25_s1.armed_, .int .i64 r25_s1.left_, .int .u64 r25_s1.fall_.Keep, .int .i64 r25_s1.fall_.Tear, .int .i64 r25_s1.acts_, .int .i64 r25_s1.falls_] 65, pt r25_b10 #[.pointer (some ⟨r25_b2, 0, none⟩), .int .i64 r25_s9.boot_, .int .i64 r25_s9.n_] 76, pt b23 #[.int .u64 x4.Keep, .int .i64 x4.Tear] 49, pt b21 #[.int .i64 x0.Gen, .int .i64 x0.Boot, .int .i64 x0.Side, .int .i64 x0.Seed] 23, own e_disk_sector 86 r25_p4 r25_c5 r25_s1.sure_, mpo (kInt .i64) (fun x : disk_sector => Value.agg #[.string x.s_, .int .i64 x.at_]) r25_b7 r25_s1.wait_] ++ F0))
  unfold F.law11_SuperEither.r2 at hF
  obtain ⟨v54, hF, hK54⟩ := thru_some hF
  refine cw_mid (fun a w => ∃ (l75 : List disk_sector), ∃ (l79 : List (Int × disk_sector)), ∃ (x82 : Bool), ∃ (x83 : Bool), ∃ (x84 : Int), ∃ (x85 : Int), ∃ (x86 : Int), ∃ (x87 : Int), ∃ (x88 : Int), ∃ (x89 : Int), ∃ (x90 : Int), ∃ (p76 : Option Addr), ∃ (c77 : Nat), ∃ (b81 : Nat), .inl (l75, l79, x82, x83, x84, x85, x86, x87, x88, x89, x90) = v54 ∧ Fr 90 [(5, .pointer (some ⟨b21, 0, none⟩)), (11, .pointer (some ⟨r25_b2, 0, none⟩)), (13, .pointer (some ⟨b35, 0, none⟩))] a ∧ SAT w0 ([imm I, pt r25_b2 #[.slice p76 l75.length c77, .map (some b81), .bool x82, .bool x83, .int .i64 x84, .int .u64 x85, .int .i64 x86, .int .i64 x87, .int .i64 x88] 65, pt r25_b10 #[.pointer (some ⟨r25_b2, 0, none⟩), .int .i64 x89, .int .i64 x90] 76, pt b35 #[.int .i64 r33.Gen, .int .i64 x2, .int .i64 r33.Side, .int .i64 r33.Seed] 23, pt b23 #[.int .u64 x4.Keep, .int .i64 x4.Tear] 49, pt b21 #[.int .i64 x0.Gen, .int .i64 x0.Boot, .int .i64 x0.Side, .int .i64 x0.Seed] 23, own e_disk_sector 86 p76 c77 l75, mpo (kInt .i64) (fun x : disk_sector => Value.agg #[.string x.s_, .int .i64 x.at_]) b81 l79] ++ F0) w) ?_ ?_
  · refine cw_seq ?_
    refine cw_region ?_
    refine ow_vals 1 (j := 1) [3, 5, 9, 11, 12, 13, 48] [(3, .int .i64 x3), (5, .pointer (some ⟨b21, 0, none⟩)), (9, .pointer (some ⟨b23, 0, none⟩)), (11, .pointer (some ⟨r25_b2, 0, none⟩)), (12, .pointer (some ⟨r25_b10, 0, none⟩)), (13, .pointer (some ⟨b35, 0, none⟩)), (48, .pointer (some ⟨r25_b10, 0, none⟩))] rfl (by kernel_rfl) ?_
    refine ow_pw rfl (pw_quiet (v := .agg #[.int .i64 x0.Gen, .int .i64 x0.Boot, .int .i64 x0.Side, .int .i64 x0.Seed]) rfl rfl rfl rfl (q_load 5 rfl rfl rfl (by kernel_rfl)) (nw_ow ?_))
    obtain ⟨r55, h56, hF⟩ := bind_some hF
    refine ow_pw rfl (pw_call (F := [pt b35 #[.int .i64 r33.Gen, .int .i64 x2, .int .i64 r33.Side, .int .i64 r33.Seed] 23, pt b23 #[.int .u64 x4.Keep, .int .i64 x4.Tear] 49, pt b21 #[.int .i64 x0.Gen, .int .i64 x0.Boot, .int .i64 x0.Side, .int .i64 x0.Seed] 23] ++ F0) rfl rfl rfl rfl rfl rfl rfl (by kernel_rfl) (perm_of_pulls [0, 2, 1, 3, 3] rfl) (c_super_Save _ x0 r25_s9 r25_s1 r25_b10 r25_p4 r25_c5 r25_b7 r25_b2 r55 h56) ?_)
    rintro _ _ ⟨r55_p1, r55_c2, r55_b4, rfl, rfl⟩
    refine nw_H (H' := [imm I, pt r25_b10 #[.pointer (some ⟨r25_b2, 0, none⟩), .int .i64 r55.2.1.boot_, .int .i64 r55.2.1.n_] 76, pt r25_b2 #[.slice r55_p1 r55.2.2.sure_.length r55_c2, .map (some r55_b4), .bool r55.2.2.off_, .bool r55.2.2.armed_, .int .i64 r55.2.2.left_, .int .u64 r55.2.2.fall_.Keep, .int .i64 r55.2.2.fall_.Tear, .int .i64 r55.2.2.acts_, .int .i64 r55.2.2.falls_] 65, own e_disk_sector 86 r55_p1 r55_c2 r55.2.2.sure_, mpo (kInt .i64) (fun x : disk_sector => Value.agg #[.string x.s_, .int .i64 x.at_]) r55_b4 r55.2.2.wait_, pt b35 #[.int .i64 r33.Gen, .int .i64 x2, .int .i64 r33.Side, .int .i64 r33.Seed] 23, pt b23 #[.int .u64 x4.Keep, .int .i64 x4.Tear] 49, pt b21 #[.int .i64 x0.Gen, .int .i64 x0.Boot, .int .i64 x0.Side, .int .i64 x0.Seed] 23] ++ F0) rfl (nw_ow ?_)
    refine ow_vals 2 (j := 5) [3, 5, 9, 11, 12, 13, 52] [(3, .int .i64 x3), (5, .pointer (some ⟨b21, 0, none⟩)), (9, .pointer (some ⟨b23, 0, none⟩)), (11, .pointer (some ⟨r25_b2, 0, none⟩)), (12, .pointer (some ⟨r25_b10, 0, none⟩)), (13, .pointer (some ⟨b35, 0, none⟩)), (52, .bool (r55.1 != 0))] rfl (by kernel_rfl) ?_
    rcases if_some hF with ⟨h59, hF⟩ | ⟨h59, hF⟩
    · refine ow_slots (L' := [(3, .int .i64 x3), (5, .pointer (some ⟨b21, 0, none⟩)), (9, .pointer (some ⟨b23, 0, none⟩)), (11, .pointer (some ⟨r25_b2, 0, none⟩)), (12, .pointer (some ⟨r25_b10, 0, none⟩)), (13, .pointer (some ⟨b35, 0, none⟩)), (52, .bool true)]) (by rw [h59]) ?_
      refine ow_vals 17 (j := 22) [5, 11, 13, 69] [(5, .pointer (some ⟨b21, 0, none⟩)), (11, .pointer (some ⟨r25_b2, 0, none⟩)), (13, .pointer (some ⟨b35, 0, none⟩)), (69, .bool true)] rfl (by kernel_rfl) ?_
      refine ow_end rfl ?_
      refine ew_then ?_
      refine cw_cond_t rfl rfl rfl ?_
      refine cw_seq ?_
      refine cw_region ?_
      refine ow_vals 1 (j := 1) [10] [(10, .bool false)] rfl (by kernel_rfl) ?_
      refine ow_end rfl ?_
      refine ew_then ?_
      refine cw_ret ?_
      refine ew_then_ret ?_
      have hR := Option.some.inj hF
      subst hR
      have hR := hK54
      try dsimp only [Thru] at hR
      subst hR
      exact fin1 (H1 := [imm I]) (fun w hs => sat_to [1, 1, 1, 1, 1, 1, 1, 0] 7 rfl hs) rfl (rr_tmp rfl) ⟨rfl, rfl⟩
    refine ow_slots (L' := [(3, .int .i64 x3), (5, .pointer (some ⟨b21, 0, none⟩)), (9, .pointer (some ⟨b23, 0, none⟩)), (11, .pointer (some ⟨r25_b2, 0, none⟩)), (12, .pointer (some ⟨r25_b10, 0, none⟩)), (13, .pointer (some ⟨b35, 0, none⟩)), (52, .bool false)]) (by rw [h59]) ?_
    refine ow_vals 2 (j := 7) [5, 9, 11, 12, 13, 52, 53, 54] [(5, .pointer (some ⟨b21, 0, none⟩)), (9, .pointer (some ⟨b23, 0, none⟩)), (11, .pointer (some ⟨r25_b2, 0, none⟩)), (12, .pointer (some ⟨r25_b10, 0, none⟩)), (13, .pointer (some ⟨b35, 0, none⟩)), (52, .bool false), (53, .pointer (some ⟨r25_b2, 0, none⟩)), (54, .int .i64 x3)] rfl (by kernel_rfl) ?_
    refine ow_pw rfl (pw_quiet (v := .agg #[.int .u64 x4.Keep, .int .i64 x4.Tear]) rfl rfl rfl rfl (q_load 6 rfl rfl rfl (by kernel_rfl)) (nw_ow ?_))
    obtain ⟨r60, h61, hF⟩ := bind_some hF
    refine ow_pw rfl (pw_call (F := [pt r25_b10 #[.pointer (some ⟨r25_b2, 0, none⟩), .int .i64 r55.2.1.boot_, .int .i64 r55.2.1.n_] 76, pt b35 #[.int .i64 r33.Gen, .int .i64 x2, .int .i64 r33.Side, .int .i64 r33.Seed] 23, pt b23 #[.int .u64 x4.Keep, .int .i64 x4.Tear] 49, pt b21 #[.int .i64 x0.Gen, .int .i64 x0.Boot, .int .i64 x0.Side, .int .i64 x0.Seed] 23] ++ F0) rfl rfl rfl rfl rfl rfl rfl (by kernel_rfl) (perm_of_pulls [0, 1, 1, 1] rfl) (c_disk_Disk_Arm _ x3 x4 r55.2.2 r55_p1 r55_c2 r55_b4 r25_b2 r60 h61) ?_)
    rintro _ _ ⟨r60_p1, r60_c2, r60_b4, rfl, rfl⟩
    refine nw_H (H' := [imm I, pt r25_b2 #[.slice r60_p1 r60.2.sure_.length r60_c2, .map (some r60_b4), .bool r60.2.off_, .bool r60.2.armed_, .int .i64 r60.2.left_, .int .u64 r60.2.fall_.Keep, .int .i64 r60.2.fall_.Tear, .int .i64 r60.2.acts_, .int .i64 r60.2.falls_] 65, own e_disk_sector 86 r60_p1 r60_c2 r60.2.sure_, mpo (kInt .i64) (fun x : disk_sector => Value.agg #[.string x.s_, .int .i64 x.at_]) r60_b4 r60.2.wait_, pt r25_b10 #[.pointer (some ⟨r25_b2, 0, none⟩), .int .i64 r55.2.1.boot_, .int .i64 r55.2.1.n_] 76, pt b35 #[.int .i64 r33.Gen, .int .i64 x2, .int .i64 r33.Side, .int .i64 r33.Seed] 23, pt b23 #[.int .u64 x4.Keep, .int .i64 x4.Tear] 49, pt b21 #[.int .i64 x0.Gen, .int .i64 x0.Boot, .int .i64 x0.Side, .int .i64 x0.Seed] 23] ++ F0) rfl (nw_ow ?_)
    refine ow_vals 3 (j := 12) [5, 11, 12, 13, 59] [(5, .pointer (some ⟨b21, 0, none⟩)), (11, .pointer (some ⟨r25_b2, 0, none⟩)), (12, .pointer (some ⟨r25_b10, 0, none⟩)), (13, .pointer (some ⟨b35, 0, none⟩)), (59, .bool (r60.1 != 0))] rfl (by kernel_rfl) ?_
    rcases if_some hF with ⟨h64, hF⟩ | ⟨h64, hF⟩
    · refine ow_slots (L' := [(5, .pointer (some ⟨b21, 0, none⟩)), (11, .pointer (some ⟨r25_b2, 0, none⟩)), (12, .pointer (some ⟨r25_b10, 0, none⟩)), (13, .pointer (some ⟨b35, 0, none⟩)), (59, .bool true)]) (by rw [h64]) ?_
      refine ow_vals 10 (j := 22) [5, 11, 13, 69] [(5, .pointer (some ⟨b21, 0, none⟩)), (11, .pointer (some ⟨r25_b2, 0, none⟩)), (13, .pointer (some ⟨b35, 0, none⟩)), (69, .bool true)] rfl (by kernel_rfl) ?_
      refine ow_end rfl ?_
      refine ew_then ?_
      refine cw_cond_t rfl rfl rfl ?_
      refine cw_seq ?_
      refine cw_region ?_
      refine ow_vals 1 (j := 1) [10] [(10, .bool false)] rfl (by kernel_rfl) ?_
      refine ow_end rfl ?_
      refine ew_then ?_
      refine cw_ret ?_
      refine ew_then_ret ?_
      have hR := Option.some.inj hF
      subst hR
      have hR := hK54
      try dsimp only [Thru] at hR
      subst hR
      exact fin1 (H1 := [imm I]) (fun w hs => sat_to [1, 1, 1, 1, 1, 1, 1, 0] 7 rfl hs) rfl (rr_tmp rfl) ⟨rfl, rfl⟩
    refine ow_slots (L' := [(5, .pointer (some ⟨b21, 0, none⟩)), (11, .pointer (some ⟨r25_b2, 0, none⟩)), (12, .pointer (some ⟨r25_b10, 0, none⟩)), (13, .pointer (some ⟨b35, 0, none⟩)), (59, .bool false)]) (by rw [h64]) ?_
    refine ow_vals 1 (j := 13) [5, 11, 13, 59, 60] [(5, .pointer (some ⟨b21, 0, none⟩)), (11, .pointer (some ⟨r25_b2, 0, none⟩)), (13, .pointer (some ⟨b35, 0, none⟩)), (59, .bool false), (60, .pointer (some ⟨r25_b10, 0, none⟩))] rfl (by kernel_rfl) ?_
    refine ow_pw rfl (pw_quiet (v := .agg #[.int .i64 r33.Gen, .int .i64 x2, .int .i64 r33.Side, .int .i64 r33.Seed]) rfl rfl rfl rfl (q_load 5 rfl rfl rfl (by kernel_rfl)) (nw_ow ?_))
    obtain ⟨r65, h66, hF⟩ := bind_some hF
    refine ow_pw rfl (pw_call (F := [pt b35 #[.int .i64 r33.Gen, .int .i64 x2, .int .i64 r33.Side, .int .i64 r33.Seed] 23, pt b23 #[.int .u64 x4.Keep, .int .i64 x4.Tear] 49, pt b21 #[.int .i64 x0.Gen, .int .i64 x0.Boot, .int .i64 x0.Side, .int .i64 x0.Seed] 23] ++ F0) rfl rfl rfl rfl rfl rfl rfl (by kernel_rfl) (perm_of_pulls [0, 3, 0, 0, 0] rfl) (c_super_Save _ (⟨r33.Gen, x2, r33.Side, r33.Seed⟩ : super_Super) r55.2.1 r60.2 r25_b10 r60_p1 r60_c2 r60_b4 r25_b2 r65 h66) ?_)
    rintro _ _ ⟨r65_p1, r65_c2, r65_b4, rfl, rfl⟩
    refine nw_H (H' := [imm I, pt r25_b10 #[.pointer (some ⟨r25_b2, 0, none⟩), .int .i64 r65.2.1.boot_, .int .i64 r65.2.1.n_] 76, pt r25_b2 #[.slice r65_p1 r65.2.2.sure_.length r65_c2, .map (some r65_b4), .bool r65.2.2.off_, .bool r65.2.2.armed_, .int .i64 r65.2.2.left_, .int .u64 r65.2.2.fall_.Keep, .int .i64 r65.2.2.fall_.Tear, .int .i64 r65.2.2.acts_, .int .i64 r65.2.2.falls_] 65, own e_disk_sector 86 r65_p1 r65_c2 r65.2.2.sure_, mpo (kInt .i64) (fun x : disk_sector => Value.agg #[.string x.s_, .int .i64 x.at_]) r65_b4 r65.2.2.wait_, pt b35 #[.int .i64 r33.Gen, .int .i64 x2, .int .i64 r33.Side, .int .i64 r33.Seed] 23, pt b23 #[.int .u64 x4.Keep, .int .i64 x4.Tear] 49, pt b21 #[.int .i64 x0.Gen, .int .i64 x0.Boot, .int .i64 x0.Side, .int .i64 x0.Seed] 23] ++ F0) rfl (nw_ow ?_)
    refine ow_vals 3 (j := 18) [5, 11, 13, 65] [(5, .pointer (some ⟨b21, 0, none⟩)), (11, .pointer (some ⟨r25_b2, 0, none⟩)), (13, .pointer (some ⟨b35, 0, none⟩)), (65, .bool (r65.1 != 8))] rfl (by kernel_rfl) ?_
    rcases if_some hF with ⟨h69, hF⟩ | ⟨h69, hF⟩
    · refine ow_slots (L' := [(5, .pointer (some ⟨b21, 0, none⟩)), (11, .pointer (some ⟨r25_b2, 0, none⟩)), (13, .pointer (some ⟨b35, 0, none⟩)), (65, .bool true)]) (by rw [h69]) ?_
      refine ow_vals 4 (j := 22) [5, 11, 13, 69] [(5, .pointer (some ⟨b21, 0, none⟩)), (11, .pointer (some ⟨r25_b2, 0, none⟩)), (13, .pointer (some ⟨b35, 0, none⟩)), (69, .bool true)] rfl (by kernel_rfl) ?_
      refine ow_end rfl ?_
      refine ew_then ?_
      refine cw_cond_t rfl rfl rfl ?_
      refine cw_seq ?_
      refine cw_region ?_
      refine ow_vals 1 (j := 1) [10] [(10, .bool false)] rfl (by kernel_rfl) ?_
      refine ow_end rfl ?_
      refine ew_then ?_
      refine cw_ret ?_
      refine ew_then_ret ?_
      have hR := Option.some.inj hF
      subst hR
      have hR := hK54
      try dsimp only [Thru] at hR
      subst hR
      exact fin1 (H1 := [imm I]) (fun w hs => sat_to [1, 1, 1, 1, 1, 1, 1, 0] 7 rfl hs) rfl (rr_tmp rfl) ⟨rfl, rfl⟩
    refine ow_slots (L' := [(5, .pointer (some ⟨b21, 0, none⟩)), (11, .pointer (some ⟨r25_b2, 0, none⟩)), (13, .pointer (some ⟨b35, 0, none⟩)), (65, .bool false)]) (by rw [h69]) ?_
    refine ow_vals 1 (j := 19) [5, 11, 13, 65, 66] [(5, .pointer (some ⟨b21, 0, none⟩)), (11, .pointer (some ⟨r25_b2, 0, none⟩)), (13, .pointer (some ⟨b35, 0, none⟩)), (65, .bool false), (66, .pointer (some ⟨r25_b2, 0, none⟩))] rfl (by kernel_rfl) ?_
    obtain ⟨r70, h71, hF⟩ := bind_some hF
    refine ow_pw rfl (pw_call (F := [pt r25_b10 #[.pointer (some ⟨r25_b2, 0, none⟩), .int .i64 r65.2.1.boot_, .int .i64 r65.2.1.n_] 76, pt b35 #[.int .i64 r33.Gen, .int .i64 x2, .int .i64 r33.Side, .int .i64 r33.Seed] 23, pt b23 #[.int .u64 x4.Keep, .int .i64 x4.Tear] 49, pt b21 #[.int .i64 x0.Gen, .int .i64 x0.Boot, .int .i64 x0.Side, .int .i64 x0.Seed] 23] ++ F0) rfl rfl rfl rfl rfl rfl rfl (by kernel_rfl) (perm_of_pulls [0, 1, 1, 1] rfl) (c_disk_Disk_Start _ r65.2.2 r65_p1 r65_c2 r65_b4 r25_b2 r70 h71) ?_)
    rintro _ _ ⟨r70_p1, r70_c2, r70_b4, rfl, rfl⟩
    refine nw_H (H' := [imm I, pt r25_b2 #[.slice r70_p1 r70.2.sure_.length r70_c2, .map (some r70_b4), .bool r70.2.off_, .bool r70.2.armed_, .int .i64 r70.2.left_, .int .u64 r70.2.fall_.Keep, .int .i64 r70.2.fall_.Tear, .int .i64 r70.2.acts_, .int .i64 r70.2.falls_] 65, own e_disk_sector 86 r70_p1 r70_c2 r70.2.sure_, mpo (kInt .i64) (fun x : disk_sector => Value.agg #[.string x.s_, .int .i64 x.at_]) r70_b4 r70.2.wait_, pt r25_b10 #[.pointer (some ⟨r25_b2, 0, none⟩), .int .i64 r65.2.1.boot_, .int .i64 r65.2.1.n_] 76, pt b35 #[.int .i64 r33.Gen, .int .i64 x2, .int .i64 r33.Side, .int .i64 r33.Seed] 23, pt b23 #[.int .u64 x4.Keep, .int .i64 x4.Tear] 49, pt b21 #[.int .i64 x0.Gen, .int .i64 x0.Boot, .int .i64 x0.Side, .int .i64 x0.Seed] 23] ++ F0) rfl (nw_ow ?_)
    refine ow_vals 2 (j := 22) [5, 11, 13, 69] [(5, .pointer (some ⟨b21, 0, none⟩)), (11, .pointer (some ⟨r25_b2, 0, none⟩)), (13, .pointer (some ⟨b35, 0, none⟩)), (69, .bool (r70.1 != 0))] rfl (by kernel_rfl) ?_
    refine ow_end rfl ?_
    refine ew_then ?_
    rcases if_some hF with ⟨h74, hF⟩ | ⟨h74, hF⟩
    · refine cw_cond_t rfl rfl h74 ?_
      refine cw_seq ?_
      refine cw_region ?_
      refine ow_vals 1 (j := 1) [10] [(10, .bool false)] rfl (by kernel_rfl) ?_
      refine ow_end rfl ?_
      refine ew_then ?_
      refine cw_ret ?_
      refine ew_then_ret ?_
      have hR := Option.some.inj hF
      subst hR
      have hR := hK54
      try dsimp only [Thru] at hR
      subst hR
      exact fin1 (H1 := [imm I]) (fun w hs => sat_to [1, 1, 1, 1, 1, 1, 1, 0] 7 rfl hs) rfl (rr_tmp rfl) ⟨rfl, rfl⟩
    refine cw_cond_f rfl rfl h74 ?_
    refine cw_skip ?_
    have hR := Option.some.inj hF
    exact fun a w hf hs => ⟨r70.2.sure_, r70.2.wait_, r70.2.off_, r70.2.armed_, r70.2.left_, r70.2.fall_.Keep, r70.2.fall_.Tear, r70.2.acts_, r70.2.falls_, r65.2.1.boot_, r65.2.1.n_, r70_p1, r70_c2, r70_b4, hR, hf.keep [5, 11, 13], sat_to [0, 0, 2, 2, 2, 2, 0, 0] 0 rfl hs⟩
  rintro a w ⟨l75, l79, x82, x83, x84, x85, x86, x87, x88, x89, x90, p76, c77, b81, hv, hf, hs⟩
  subst hv
  replace hF := hK54
  clear hK54
  try dsimp only [Thru] at hF
  revert a w
  show CW _ _ _ 90 [(5, .pointer (some ⟨b21, 0, none⟩)), (11, .pointer (some ⟨r25_b2, 0, none⟩)), (13, .pointer (some ⟨b35, 0, none⟩))] (SAT w0 ([imm I, pt r25_b2 #[.slice p76 l75.length c77, .map (some b81), .bool x82, .bool x83, .int .i64 x84, .int .u64 x85, .int .i64 x86, .int .i64 x87, .int .i64 x88] 65, pt r25_b10 #[.pointer (some ⟨r25_b2, 0, none⟩), .int .i64 x89, .int .i64 x90] 76, pt b35 #[.int .i64 r33.Gen, .int .i64 x2, .int .i64 r33.Side, .int .i64 r33.Seed] 23, pt b23 #[.int .u64 x4.Keep, .int .i64 x4.Tear] 49, pt b21 #[.int .i64 x0.Gen, .int .i64 x0.Boot, .int .i64 x0.Side, .int .i64 x0.Seed] 23, own e_disk_sector 86 p76 c77 l75, mpo (kInt .i64) (fun x : disk_sector => Value.agg #[.string x.s_, .int .i64 x.at_]) b81 l79] ++ F0))
  unfold F.law11_SuperEither.r3 at hF
  refine cw_seq ?_
  refine cw_region ?_
  refine ow_vals 1 (j := 1) [5, 13, 71] [(5, .pointer (some ⟨b21, 0, none⟩)), (13, .pointer (some ⟨b35, 0, none⟩)), (71, .pointer (some ⟨r25_b2, 0, none⟩))] rfl (by kernel_rfl) ?_
  obtain ⟨r91, h92, hF⟩ := bind_some hF
  refine ow_pw rfl (pw_call (F := [pt r25_b10 #[.pointer (some ⟨r25_b2, 0, none⟩), .int .i64 x89, .int .i64 x90] 76, pt b35 #[.int .i64 r33.Gen, .int .i64 x2, .int .i64 r33.Side, .int .i64 r33.Seed] 23, pt b23 #[.int .u64 x4.Keep, .int .i64 x4.Tear] 49, pt b21 #[.int .i64 x0.Gen, .int .i64 x0.Boot, .int .i64 x0.Side, .int .i64 x0.Seed] 23] ++ F0) rfl rfl rfl rfl rfl rfl rfl (by kernel_rfl) (perm_of_pulls [0, 0, 4, 4] rfl) (c_super_Load _ (⟨l75, l79, x82, x83, x84, (⟨x85, x86⟩ : disk_Fall), x87, x88⟩ : disk_Disk) p76 c77 b81 r25_b2 r91 h92) ?_)
  rintro _ _ ⟨rfl, rfl⟩
  refine nw_H (H' := [imm I, pt r25_b2 #[.slice p76 ((⟨l75, l79, x82, x83, x84, (⟨x85, x86⟩ : disk_Fall), x87, x88⟩ : disk_Disk).sure_).length c77, .map (some b81), .bool ((⟨l75, l79, x82, x83, x84, (⟨x85, x86⟩ : disk_Fall), x87, x88⟩ : disk_Disk).off_), .bool ((⟨l75, l79, x82, x83, x84, (⟨x85, x86⟩ : disk_Fall), x87, x88⟩ : disk_Disk).armed_), .int .i64 ((⟨l75, l79, x82, x83, x84, (⟨x85, x86⟩ : disk_Fall), x87, x88⟩ : disk_Disk).left_), .int .u64 ((⟨l75, l79, x82, x83, x84, (⟨x85, x86⟩ : disk_Fall), x87, x88⟩ : disk_Disk).fall_.Keep), .int .i64 ((⟨l75, l79, x82, x83, x84, (⟨x85, x86⟩ : disk_Fall), x87, x88⟩ : disk_Disk).fall_.Tear), .int .i64 ((⟨l75, l79, x82, x83, x84, (⟨x85, x86⟩ : disk_Fall), x87, x88⟩ : disk_Disk).acts_), .int .i64 ((⟨l75, l79, x82, x83, x84, (⟨x85, x86⟩ : disk_Fall), x87, x88⟩ : disk_Disk).falls_)] 65, own e_disk_sector 86 p76 c77 ((⟨l75, l79, x82, x83, x84, (⟨x85, x86⟩ : disk_Fall), x87, x88⟩ : disk_Disk).sure_), mpo (kInt .i64) (fun x : disk_sector => Value.agg #[.string x.s_, .int .i64 x.at_]) b81 ((⟨l75, l79, x82, x83, x84, (⟨x85, x86⟩ : disk_Fall), x87, x88⟩ : disk_Disk).wait_), pt r25_b10 #[.pointer (some ⟨r25_b2, 0, none⟩), .int .i64 x89, .int .i64 x90] 76, pt b35 #[.int .i64 r33.Gen, .int .i64 x2, .int .i64 r33.Side, .int .i64 r33.Seed] 23, pt b23 #[.int .u64 x4.Keep, .int .i64 x4.Tear] 49, pt b21 #[.int .i64 x0.Gen, .int .i64 x0.Boot, .int .i64 x0.Side, .int .i64 x0.Seed] 23] ++ F0) rfl (nw_ow ?_)
  refine ow_vals 3 (j := 5) [5, 13, 73, 74] [(5, .pointer (some ⟨b21, 0, none⟩)), (13, .pointer (some ⟨b35, 0, none⟩)), (73, .agg #[.int .i64 r91.1.Gen, .int .i64 r91.1.Boot, .int .i64 r91.1.Side, .int .i64 r91.1.Seed]), (74, .int .i64 r91.2)] rfl (by kernel_rfl) ?_
  refine ow_pw rfl (pw_alloc (cs := #[.int .i64 0, .int .i64 0, .int .i64 0, .int .i64 0]) rfl rfl rfl rfl rfl (by kernel_rfl) fun b93 => nw_ow ?_)
  refine ow_pw rfl (pw_store 0 #[.int .i64 r91.1.Gen, .int .i64 r91.1.Boot, .int .i64 r91.1.Side, .int .i64 r91.1.Seed] rfl rfl rfl rfl rfl rfl rfl (by kernel_rfl) (nw_H (H' := [pt b93 #[.int .i64 r91.1.Gen, .int .i64 r91.1.Boot, .int .i64 r91.1.Side, .int .i64 r91.1.Seed] 23, imm I, pt r25_b2 #[.slice p76 ((⟨l75, l79, x82, x83, x84, (⟨x85, x86⟩ : disk_Fall), x87, x88⟩ : disk_Disk).sure_).length c77, .map (some b81), .bool ((⟨l75, l79, x82, x83, x84, (⟨x85, x86⟩ : disk_Fall), x87, x88⟩ : disk_Disk).off_), .bool ((⟨l75, l79, x82, x83, x84, (⟨x85, x86⟩ : disk_Fall), x87, x88⟩ : disk_Disk).armed_), .int .i64 ((⟨l75, l79, x82, x83, x84, (⟨x85, x86⟩ : disk_Fall), x87, x88⟩ : disk_Disk).left_), .int .u64 ((⟨l75, l79, x82, x83, x84, (⟨x85, x86⟩ : disk_Fall), x87, x88⟩ : disk_Disk).fall_.Keep), .int .i64 ((⟨l75, l79, x82, x83, x84, (⟨x85, x86⟩ : disk_Fall), x87, x88⟩ : disk_Disk).fall_.Tear), .int .i64 ((⟨l75, l79, x82, x83, x84, (⟨x85, x86⟩ : disk_Fall), x87, x88⟩ : disk_Disk).acts_), .int .i64 ((⟨l75, l79, x82, x83, x84, (⟨x85, x86⟩ : disk_Fall), x87, x88⟩ : disk_Disk).falls_)] 65, own e_disk_sector 86 p76 c77 ((⟨l75, l79, x82, x83, x84, (⟨x85, x86⟩ : disk_Fall), x87, x88⟩ : disk_Disk).sure_), mpo (kInt .i64) (fun x : disk_sector => Value.agg #[.string x.s_, .int .i64 x.at_]) b81 ((⟨l75, l79, x82, x83, x84, (⟨x85, x86⟩ : disk_Fall), x87, x88⟩ : disk_Disk).wait_), pt r25_b10 #[.pointer (some ⟨r25_b2, 0, none⟩), .int .i64 x89, .int .i64 x90] 76, pt b35 #[.int .i64 r33.Gen, .int .i64 x2, .int .i64 r33.Side, .int .i64 r33.Seed] 23, pt b23 #[.int .u64 x4.Keep, .int .i64 x4.Tear] 49, pt b21 #[.int .i64 x0.Gen, .int .i64 x0.Boot, .int .i64 x0.Side, .int .i64 x0.Seed] 23] ++ F0) rfl (nw_ow ?_)))
  refine ow_vals 1 (j := 8) [5, 13, 14, 15] [(5, .pointer (some ⟨b21, 0, none⟩)), (13, .pointer (some ⟨b35, 0, none⟩)), (14, .pointer (some ⟨b93, 0, none⟩)), (15, .int .i64 r91.2)] rfl (by kernel_rfl) ?_
  refine ow_end rfl ?_
  refine ew_then ?_
  refine cw_seq ?_
  refine cw_region ?_
  refine ow_vals 3 (j := 3) [5, 13, 14, 77] [(5, .pointer (some ⟨b21, 0, none⟩)), (13, .pointer (some ⟨b35, 0, none⟩)), (14, .pointer (some ⟨b93, 0, none⟩)), (77, .bool (r91.2 == 0))] rfl (by kernel_rfl) ?_
  rcases if_some hF with ⟨h95, hF⟩ | ⟨h95, hF⟩
  · refine ow_slots (L' := [(5, .pointer (some ⟨b21, 0, none⟩)), (13, .pointer (some ⟨b35, 0, none⟩)), (14, .pointer (some ⟨b93, 0, none⟩)), (77, .bool true)]) (by rw [h95]) ?_
    refine ow_pw rfl (pw_quiet (v := .agg #[.int .i64 r91.1.Gen, .int .i64 r91.1.Boot, .int .i64 r91.1.Side, .int .i64 r91.1.Seed]) rfl rfl rfl rfl (q_load 0 rfl rfl rfl (by kernel_rfl)) (nw_ow ?_))
    refine ow_pw rfl (pw_quiet (v := .agg #[.int .i64 x0.Gen, .int .i64 x0.Boot, .int .i64 x0.Side, .int .i64 x0.Seed]) rfl rfl rfl rfl (q_load 8 rfl rfl rfl (by kernel_rfl)) (nw_ow ?_))
    refine ow_pw rfl (pw_quiet (v := .bool ((r91.1.Gen == x0.Gen) && ((r91.1.Boot == x0.Boot) && ((r91.1.Side == x0.Side) && ((r91.1.Seed == x0.Seed) && (true)))))) rfl rfl rfl rfl (q_eql_struct (b := ((r91.1.Gen == x0.Gen) && ((r91.1.Boot == x0.Boot) && ((r91.1.Side == x0.Side) && ((r91.1.Seed == x0.Seed) && (true)))))) rfl rfl rfl (by kernel_rfl) (by kernel_rfl) (by kernel_rfl) (by kernel_rfl)) (nw_ow ?_))
    refine ow_vals 1 (j := 7) [13, 14, 77, 81] [(13, .pointer (some ⟨b35, 0, none⟩)), (14, .pointer (some ⟨b93, 0, none⟩)), (77, .bool true), (81, .bool ((r91.1.Gen == x0.Gen) && ((r91.1.Boot == x0.Boot) && ((r91.1.Side == x0.Side) && ((r91.1.Seed == x0.Seed) && (true))))))] rfl (by kernel_rfl) ?_
    rcases if_some hF with ⟨h96, hF⟩ | ⟨h96, hF⟩
    · refine ow_slots (L' := [(13, .pointer (some ⟨b35, 0, none⟩)), (14, .pointer (some ⟨b93, 0, none⟩)), (77, .bool true), (81, .bool true)]) (by rw [h96]) ?_
      refine ow_vals 6 (j := 13) [87] [(87, .bool true)] rfl (by kernel_rfl) ?_
      obtain ⟨r97, h98, hF⟩ := bind_some hF
      refine ow_pw rfl (pw_call (F := [pt b93 #[.int .i64 r91.1.Gen, .int .i64 r91.1.Boot, .int .i64 r91.1.Side, .int .i64 r91.1.Seed] 23, pt r25_b2 #[.slice p76 ((⟨l75, l79, x82, x83, x84, (⟨x85, x86⟩ : disk_Fall), x87, x88⟩ : disk_Disk).sure_).length c77, .map (some b81), .bool ((⟨l75, l79, x82, x83, x84, (⟨x85, x86⟩ : disk_Fall), x87, x88⟩ : disk_Disk).off_), .bool ((⟨l75, l79, x82, x83, x84, (⟨x85, x86⟩ : disk_Fall), x87, x88⟩ : disk_Disk).armed_), .int .i64 ((⟨l75, l79, x82, x83, x84, (⟨x85, x86⟩ : disk_Fall), x87, x88⟩ : disk_Disk).left_), .int .u64 ((⟨l75, l79, x82, x83, x84, (⟨x85, x86⟩ : disk_Fall), x87, x88⟩ : disk_Disk).fall_.Keep), .int .i64 ((⟨l75, l79, x82, x83, x84, (⟨x85, x86⟩ : disk_Fall), x87, x88⟩ : disk_Disk).fall_.Tear), .int .i64 ((⟨l75, l79, x82, x83, x84, (⟨x85, x86⟩ : disk_Fall), x87, x88⟩ : disk_Disk).acts_), .int .i64 ((⟨l75, l79, x82, x83, x84, (⟨x85, x86⟩ : disk_Fall), x87, x88⟩ : disk_Disk).falls_)] 65, own e_disk_sector 86 p76 c77 ((⟨l75, l79, x82, x83, x84, (⟨x85, x86⟩ : disk_Fall), x87, x88⟩ : disk_Disk).sure_), mpo (kInt .i64) (fun x : disk_sector => Value.agg #[.string x.s_, .int .i64 x.at_]) b81 ((⟨l75, l79, x82, x83, x84, (⟨x85, x86⟩ : disk_Fall), x87, x88⟩ : disk_Disk).wait_), pt r25_b10 #[.pointer (some ⟨r25_b2, 0, none⟩), .int .i64 x89, .int .i64 x90] 76, pt b35 #[.int .i64 r33.Gen, .int .i64 x2, .int .i64 r33.Side, .int .i64 r33.Seed] 23, pt b23 #[.int .u64 x4.Keep, .int .i64 x4.Tear] 49, pt b21 #[.int .i64 x0.Gen, .int .i64 x0.Boot, .int .i64 x0.Side, .int .i64 x0.Seed] 23] ++ F0) rfl rfl rfl rfl rfl rfl rfl (by kernel_rfl) (perm_of_pulls [1] rfl) (c_law11_awake _ r97 h98) ?_)
      rintro _ _ ⟨rfl, rfl⟩
      refine nw_H (H' := [imm I, pt b93 #[.int .i64 r91.1.Gen, .int .i64 r91.1.Boot, .int .i64 r91.1.Side, .int .i64 r91.1.Seed] 23, pt r25_b2 #[.slice p76 ((⟨l75, l79, x82, x83, x84, (⟨x85, x86⟩ : disk_Fall), x87, x88⟩ : disk_Disk).sure_).length c77, .map (some b81), .bool ((⟨l75, l79, x82, x83, x84, (⟨x85, x86⟩ : disk_Fall), x87, x88⟩ : disk_Disk).off_), .bool ((⟨l75, l79, x82, x83, x84, (⟨x85, x86⟩ : disk_Fall), x87, x88⟩ : disk_Disk).armed_), .int .i64 ((⟨l75, l79, x82, x83, x84, (⟨x85, x86⟩ : disk_Fall), x87, x88⟩ : disk_Disk).left_), .int .u64 ((⟨l75, l79, x82, x83, x84, (⟨x85, x86⟩ : disk_Fall), x87, x88⟩ : disk_Disk).fall_.Keep), .int .i64 ((⟨l75, l79, x82, x83, x84, (⟨x85, x86⟩ : disk_Fall), x87, x88⟩ : disk_Disk).fall_.Tear), .int .i64 ((⟨l75, l79, x82, x83, x84, (⟨x85, x86⟩ : disk_Fall), x87, x88⟩ : disk_Disk).acts_), .int .i64 ((⟨l75, l79, x82, x83, x84, (⟨x85, x86⟩ : disk_Fall), x87, x88⟩ : disk_Disk).falls_)] 65, own e_disk_sector 86 p76 c77 ((⟨l75, l79, x82, x83, x84, (⟨x85, x86⟩ : disk_Fall), x87, x88⟩ : disk_Disk).sure_), mpo (kInt .i64) (fun x : disk_sector => Value.agg #[.string x.s_, .int .i64 x.at_]) b81 ((⟨l75, l79, x82, x83, x84, (⟨x85, x86⟩ : disk_Fall), x87, x88⟩ : disk_Disk).wait_), pt r25_b10 #[.pointer (some ⟨r25_b2, 0, none⟩), .int .i64 x89, .int .i64 x90] 76, pt b35 #[.int .i64 r33.Gen, .int .i64 x2, .int .i64 r33.Side, .int .i64 r33.Seed] 23, pt b23 #[.int .u64 x4.Keep, .int .i64 x4.Tear] 49, pt b21 #[.int .i64 x0.Gen, .int .i64 x0.Boot, .int .i64 x0.Side, .int .i64 x0.Seed] 23] ++ F0) rfl (nw_ow ?_)
      refine ow_vals 2 (j := 16) [10] [(10, .bool r97)] rfl (by kernel_rfl) ?_
      refine ow_end rfl ?_
      refine ew_then ?_
      refine cw_ret ?_
      have hR := Option.some.inj hF
      subst hR
      exact fin1 (H1 := [imm I]) (fun w hs => sat_to [1, 1, 1, 1, 1, 1, 1, 1, 0] 8 rfl hs) rfl (rr_tmp rfl) ⟨rfl, rfl⟩
    refine ow_slots (L' := [(13, .pointer (some ⟨b35, 0, none⟩)), (14, .pointer (some ⟨b93, 0, none⟩)), (77, .bool true), (81, .bool false)]) (by rw [h96]) ?_
    refine ow_pw rfl (pw_quiet (v := .agg #[.int .i64 r91.1.Gen, .int .i64 r91.1.Boot, .int .i64 r91.1.Side, .int .i64 r91.1.Seed]) rfl rfl rfl rfl (q_load 0 rfl rfl rfl (by kernel_rfl)) (nw_ow ?_))
    refine ow_pw rfl (pw_quiet (v := .agg #[.int .i64 r33.Gen, .int .i64 x2, .int .i64 r33.Side, .int .i64 r33.Seed]) rfl rfl rfl rfl (q_load 6 rfl rfl rfl (by kernel_rfl)) (nw_ow ?_))
    refine ow_pw rfl (pw_quiet (v := .bool ((r91.1.Gen == r33.Gen) && ((r91.1.Boot == x2) && ((r91.1.Side == r33.Side) && ((r91.1.Seed == r33.Seed) && (true)))))) rfl rfl rfl rfl (q_eql_struct (b := ((r91.1.Gen == r33.Gen) && ((r91.1.Boot == x2) && ((r91.1.Side == r33.Side) && ((r91.1.Seed == r33.Seed) && (true)))))) rfl rfl rfl (by kernel_rfl) (by kernel_rfl) (by kernel_rfl) (by kernel_rfl)) (nw_ow ?_))
    refine ow_vals 3 (j := 13) [87] [(87, .bool ((r91.1.Gen == r33.Gen) && ((r91.1.Boot == x2) && ((r91.1.Side == r33.Side) && ((r91.1.Seed == r33.Seed) && (true))))))] rfl (by kernel_rfl) ?_
    rcases if_some hF with ⟨h99, hF⟩ | ⟨h99, hF⟩
    · refine ow_slots (L' := [(87, .bool true)]) (by rw [h99]) ?_
      obtain ⟨r100, h101, hF⟩ := bind_some hF
      refine ow_pw rfl (pw_call (F := [pt b93 #[.int .i64 r91.1.Gen, .int .i64 r91.1.Boot, .int .i64 r91.1.Side, .int .i64 r91.1.Seed] 23, pt r25_b2 #[.slice p76 ((⟨l75, l79, x82, x83, x84, (⟨x85, x86⟩ : disk_Fall), x87, x88⟩ : disk_Disk).sure_).length c77, .map (some b81), .bool ((⟨l75, l79, x82, x83, x84, (⟨x85, x86⟩ : disk_Fall), x87, x88⟩ : disk_Disk).off_), .bool ((⟨l75, l79, x82, x83, x84, (⟨x85, x86⟩ : disk_Fall), x87, x88⟩ : disk_Disk).armed_), .int .i64 ((⟨l75, l79, x82, x83, x84, (⟨x85, x86⟩ : disk_Fall), x87, x88⟩ : disk_Disk).left_), .int .u64 ((⟨l75, l79, x82, x83, x84, (⟨x85, x86⟩ : disk_Fall), x87, x88⟩ : disk_Disk).fall_.Keep), .int .i64 ((⟨l75, l79, x82, x83, x84, (⟨x85, x86⟩ : disk_Fall), x87, x88⟩ : disk_Disk).fall_.Tear), .int .i64 ((⟨l75, l79, x82, x83, x84, (⟨x85, x86⟩ : disk_Fall), x87, x88⟩ : disk_Disk).acts_), .int .i64 ((⟨l75, l79, x82, x83, x84, (⟨x85, x86⟩ : disk_Fall), x87, x88⟩ : disk_Disk).falls_)] 65, own e_disk_sector 86 p76 c77 ((⟨l75, l79, x82, x83, x84, (⟨x85, x86⟩ : disk_Fall), x87, x88⟩ : disk_Disk).sure_), mpo (kInt .i64) (fun x : disk_sector => Value.agg #[.string x.s_, .int .i64 x.at_]) b81 ((⟨l75, l79, x82, x83, x84, (⟨x85, x86⟩ : disk_Fall), x87, x88⟩ : disk_Disk).wait_), pt r25_b10 #[.pointer (some ⟨r25_b2, 0, none⟩), .int .i64 x89, .int .i64 x90] 76, pt b35 #[.int .i64 r33.Gen, .int .i64 x2, .int .i64 r33.Side, .int .i64 r33.Seed] 23, pt b23 #[.int .u64 x4.Keep, .int .i64 x4.Tear] 49, pt b21 #[.int .i64 x0.Gen, .int .i64 x0.Boot, .int .i64 x0.Side, .int .i64 x0.Seed] 23] ++ F0) rfl rfl rfl rfl rfl rfl rfl (by kernel_rfl) (perm_of_pulls [1] rfl) (c_law11_awake _ r100 h101) ?_)
      rintro _ _ ⟨rfl, rfl⟩
      refine nw_H (H' := [imm I, pt b93 #[.int .i64 r91.1.Gen, .int .i64 r91.1.Boot, .int .i64 r91.1.Side, .int .i64 r91.1.Seed] 23, pt r25_b2 #[.slice p76 ((⟨l75, l79, x82, x83, x84, (⟨x85, x86⟩ : disk_Fall), x87, x88⟩ : disk_Disk).sure_).length c77, .map (some b81), .bool ((⟨l75, l79, x82, x83, x84, (⟨x85, x86⟩ : disk_Fall), x87, x88⟩ : disk_Disk).off_), .bool ((⟨l75, l79, x82, x83, x84, (⟨x85, x86⟩ : disk_Fall), x87, x88⟩ : disk_Disk).armed_), .int .i64 ((⟨l75, l79, x82, x83, x84, (⟨x85, x86⟩ : disk_Fall), x87, x88⟩ : disk_Disk).left_), .int .u64 ((⟨l75, l79, x82, x83, x84, (⟨x85, x86⟩ : disk_Fall), x87, x88⟩ : disk_Disk).fall_.Keep), .int .i64 ((⟨l75, l79, x82, x83, x84, (⟨x85, x86⟩ : disk_Fall), x87, x88⟩ : disk_Disk).fall_.Tear), .int .i64 ((⟨l75, l79, x82, x83, x84, (⟨x85, x86⟩ : disk_Fall), x87, x88⟩ : disk_Disk).acts_), .int .i64 ((⟨l75, l79, x82, x83, x84, (⟨x85, x86⟩ : disk_Fall), x87, x88⟩ : disk_Disk).falls_)] 65, own e_disk_sector 86 p76 c77 ((⟨l75, l79, x82, x83, x84, (⟨x85, x86⟩ : disk_Fall), x87, x88⟩ : disk_Disk).sure_), mpo (kInt .i64) (fun x : disk_sector => Value.agg #[.string x.s_, .int .i64 x.at_]) b81 ((⟨l75, l79, x82, x83, x84, (⟨x85, x86⟩ : disk_Fall), x87, x88⟩ : disk_Disk).wait_), pt r25_b10 #[.pointer (some ⟨r25_b2, 0, none⟩), .int .i64 x89, .int .i64 x90] 76, pt b35 #[.int .i64 r33.Gen, .int .i64 x2, .int .i64 r33.Side, .int .i64 r33.Seed] 23, pt b23 #[.int .u64 x4.Keep, .int .i64 x4.Tear] 49, pt b21 #[.int .i64 x0.Gen, .int .i64 x0.Boot, .int .i64 x0.Side, .int .i64 x0.Seed] 23] ++ F0) rfl (nw_ow ?_)
      refine ow_vals 2 (j := 16) [10] [(10, .bool r100)] rfl (by kernel_rfl) ?_
      refine ow_end rfl ?_
      refine ew_then ?_
      refine cw_ret ?_
      have hR := Option.some.inj hF
      subst hR
      exact fin1 (H1 := [imm I]) (fun w hs => sat_to [1, 1, 1, 1, 1, 1, 1, 1, 0] 8 rfl hs) rfl (rr_tmp rfl) ⟨rfl, rfl⟩
    refine ow_slots (L' := [(87, .bool false)]) (by rw [h99]) ?_
    refine ow_vals 3 (j := 16) [10] [(10, .bool false)] rfl (by kernel_rfl) ?_
    refine ow_end rfl ?_
    refine ew_then ?_
    refine cw_ret ?_
    have hR := Option.some.inj hF
    subst hR
    exact fin1 (H1 := [imm I]) (fun w hs => sat_to [0, 1, 1, 1, 1, 1, 1, 1, 0] 8 rfl hs) rfl (rr_tmp rfl) ⟨rfl, rfl⟩
  refine ow_slots (L' := [(5, .pointer (some ⟨b21, 0, none⟩)), (13, .pointer (some ⟨b35, 0, none⟩)), (14, .pointer (some ⟨b93, 0, none⟩)), (77, .bool false)]) (by rw [h95]) ?_
  refine ow_vals 13 (j := 16) [10] [(10, .bool false)] rfl (by kernel_rfl) ?_
  refine ow_end rfl ?_
  refine ew_then ?_
  refine cw_ret ?_
  have hR := Option.some.inj hF
  subst hR
  exact fin1 (H1 := [imm I]) (fun w hs => sat_to [0, 1, 1, 1, 1, 1, 1, 1, 0] 8 rfl hs) rfl (rr_tmp rfl) ⟨rfl, rfl⟩

end Go.Proofs.YtgbciaegbpkpaaaGreatDoor
