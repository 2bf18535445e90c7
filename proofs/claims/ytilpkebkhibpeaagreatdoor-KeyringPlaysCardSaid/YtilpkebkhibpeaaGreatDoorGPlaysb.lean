/- What the functions compute, and that the code computes it: printed by a program of this claim (wip/tools), for the group Plays. -/
import Derived.Test.YtilpkebkhibpeaaGreatDoorGPlays
import Derived.Test.YtilpkebkhibpeaaGreatDoorFw3
namespace Go.Proofs.YtilpkebkhibpeaaGreatDoor
set_option linter.all false
open Go Go.RowKit Go.Fw
set_option linter.unusedVariables false

def F.disk_Disk_Arm (x1 : Int) (x2 : disk_Fall) (m0 : disk_Disk) : Option (Int × disk_Disk) :=
  Option.bind (F.disk_Disk_why 0 m0) (fun (r23 : Int) => if r23 != 0 then (some ((r23, m0))) else (if decide (x1 < 0) then (some ((1, m0))) else (some ((0, (⟨m0.sure_, m0.wait_, m0.off_, true, x1, x2, m0.acts_, m0.falls_⟩ : disk_Disk))))))
set_option maxRecDepth 100000 in
set_option maxHeartbeats 4000000 in
theorem c_disk_Disk_Arm (I : Hl) (x1 : Int) (x2 : disk_Fall) (m0 : disk_Disk) (p0 : Option Addr) (c0 : Nat) (p1 : Nat) (b0 : Nat) (res : Int × disk_Disk) (hF : F.disk_Disk_Arm x1 x2 m0 = some res) : Tr Tryz.prog 12 [.pointer (some ⟨b0, 0, none⟩), .int .i64 x1, .agg #[.int .u64 x2.Keep, .int .i64 x2.Tear]] [imm I, pt b0 #[.slice p0 m0.sure_.length c0, .map (some p1), .bool m0.off_, .bool m0.armed_, .int .i64 m0.left_, .int .u64 m0.fall_.Keep, .int .i64 m0.fall_.Tear, .int .i64 m0.acts_, .int .i64 m0.falls_] 52, own e_disk_sector 55 p0 c0 m0.sure_, mpo (kInt .i64) (fun x : disk_sector => Value.agg #[.string x.s_, .int .i64 x.at_]) p1 m0.wait_] (fun r H' => ∃ (pq1 : Option Addr), ∃ (cq2 : Nat), ∃ (bq4 : Nat), r = .int .i64 res.1 ∧ H' = [imm I, pt b0 #[.slice pq1 res.2.sure_.length cq2, .map (some bq4), .bool res.2.off_, .bool res.2.armed_, .int .i64 res.2.left_, .int .u64 res.2.fall_.Keep, .int .i64 res.2.fall_.Tear, .int .i64 res.2.acts_, .int .i64 res.2.falls_] 52, own e_disk_sector 55 pq1 cq2 res.2.sure_, mpo (kInt .i64) (fun x : disk_sector => Value.agg #[.string x.s_, .int .i64 x.at_]) bq4 res.2.wait_]) := by
  unfold F.disk_Disk_Arm at hF
  refine tr_of_cw (fn := Tryz.f12) Tryz.func12 rfl (Nat.le_of_ble_eq_true rfl) 26 rfl fun F0 w0 => ?_
  refine cw_keep [0, 1, 2] (L' := [(0, .pointer (some ⟨b0, 0, none⟩)), (1, .int .i64 x1), (2, .agg #[.int .u64 x2.Keep, .int .i64 x2.Tear])]) rfl ?_
  refine cw_state (S' := SAT w0 ([imm I, pt b0 #[.slice p0 m0.sure_.length c0, .map (some p1), .bool m0.off_, .bool m0.armed_, .int .i64 m0.left_, .int .u64 m0.fall_.Keep, .int .i64 m0.fall_.Tear, .int .i64 m0.acts_, .int .i64 m0.falls_] 52, own e_disk_sector 55 p0 c0 m0.sure_, mpo (kInt .i64) (fun x : disk_sector => Value.agg #[.string x.s_, .int .i64 x.at_]) p1 m0.wait_] ++ F0)) (fun w hs => hs) ?_
  refine cw_seq ?_
  refine cw_region ?_
  refine ow_pw rfl (pw_box (cs := #[.int .u64 x2.Keep, .int .i64 x2.Tear]) rfl rfl rfl rfl rfl rfl fun b21 => nw_ow ?_)
  refine ow_vals 1 (j := 2) [0, 1, 5] [(0, .pointer (some ⟨b0, 0, none⟩)), (1, .int .i64 x1), (5, .pointer (some ⟨b21, 0, none⟩))] rfl (by kernel_rfl) ?_
  refine ow_end rfl ?_
  refine ew_then ?_
  refine cw_seq ?_
  refine cw_seq ?_
  refine cw_region ?_
  refine ow_vals 1 (j := 1) [0, 1, 5, 8] [(0, .pointer (some ⟨b0, 0, none⟩)), (1, .int .i64 x1), (5, .pointer (some ⟨b21, 0, none⟩)), (8, .pointer (some ⟨b0, 0, none⟩))] rfl (by kernel_rfl) ?_
  obtain ⟨r23, h24, hF⟩ := bind_some hF
  refine ow_pw rfl (pw_call (F := [pt b21 #[.int .u64 x2.Keep, .int .i64 x2.Tear] 36] ++ F0) rfl rfl rfl rfl rfl rfl rfl (by kernel_rfl) (perm_of_pulls [1, 1, 1, 1] rfl) (c_disk_Disk_why _ 0 m0 p0 c0 p1 b0 r23 h24) ?_)
  rintro _ _ ⟨rfl, rfl⟩
  refine nw_H (H' := [imm I, pt b0 #[.slice p0 m0.sure_.length c0, .map (some p1), .bool m0.off_, .bool m0.armed_, .int .i64 m0.left_, .int .u64 m0.fall_.Keep, .int .i64 m0.fall_.Tear, .int .i64 m0.acts_, .int .i64 m0.falls_] 52, own e_disk_sector 55 p0 c0 m0.sure_, mpo (kInt .i64) (fun x : disk_sector => Value.agg #[.string x.s_, .int .i64 x.at_]) p1 m0.wait_, pt b21 #[.int .u64 x2.Keep, .int .i64 x2.Tear] 36] ++ F0) rfl (nw_ow ?_)
  refine ow_vals 1 (j := 3) [0, 1, 5, 7] [(0, .pointer (some ⟨b0, 0, none⟩)), (1, .int .i64 x1), (5, .pointer (some ⟨b21, 0, none⟩)), (7, .int .i64 r23)] rfl (by kernel_rfl) ?_
  refine ow_end rfl ?_
  refine ew_then ?_
  refine cw_seq ?_
  refine cw_region ?_
  refine ow_vals 2 (j := 2) [0, 1, 5, 7, 11] [(0, .pointer (some ⟨b0, 0, none⟩)), (1, .int .i64 x1), (5, .pointer (some ⟨b21, 0, none⟩)), (7, .int .i64 r23), (11, .bool (r23 != 0))] rfl (by kernel_rfl) ?_
  refine ow_end rfl ?_
  refine ew_then ?_
  rcases if_some hF with ⟨h25, hF⟩ | ⟨h25, hF⟩
  · refine cw_cond_t rfl rfl h25 ?_
    refine cw_seq ?_
    refine cw_region ?_
    refine ow_vals 2 (j := 2) [6] [(6, .int .i64 r23)] rfl (by kernel_rfl) ?_
    refine ow_end rfl ?_
    refine ew_then ?_
    refine cw_ret ?_
    refine ew_then_ret ?_
    have hR := Option.some.inj hF
    subst hR
    exact fin1 (H1 := [imm I, pt b0 #[.slice p0 m0.sure_.length c0, .map (some p1), .bool m0.off_, .bool m0.armed_, .int .i64 m0.left_, .int .u64 m0.fall_.Keep, .int .i64 m0.fall_.Tear, .int .i64 m0.acts_, .int .i64 m0.falls_] 52, own e_disk_sector 55 p0 c0 m0.sure_, mpo (kInt .i64) (fun x : disk_sector => Value.agg #[.string x.s_, .int .i64 x.at_]) p1 m0.wait_]) (fun w hs => sat_to [4, 0, 0, 0, 0] 1 rfl hs) rfl (rr_tmp rfl) ⟨p0, c0, p1, rfl, rfl⟩
  refine cw_cond_f rfl rfl h25 ?_
  refine cw_skip ?_
  refine ew_then ?_
  refine cw_seq ?_
  refine cw_seq ?_
  refine cw_region ?_
  refine ow_vals 2 (j := 2) [0, 1, 5, 14] [(0, .pointer (some ⟨b0, 0, none⟩)), (1, .int .i64 x1), (5, .pointer (some ⟨b21, 0, none⟩)), (14, .bool (decide (x1 < 0)))] rfl (by kernel_rfl) ?_
  refine ow_end rfl ?_
  refine ew_then ?_
  rcases if_some hF with ⟨h26, hF⟩ | ⟨h26, hF⟩
  · refine cw_cond_t rfl rfl h26 ?_
    refine cw_seq ?_
    refine cw_region ?_
    refine ow_vals 1 (j := 1) [6] [(6, .int .i64 1)] rfl (by kernel_rfl) ?_
    refine ow_end rfl ?_
    refine ew_then ?_
    refine cw_ret ?_
    refine ew_then_ret ?_
    have hR := Option.some.inj hF
    subst hR
    exact fin1 (H1 := [imm I, pt b0 #[.slice p0 m0.sure_.length c0, .map (some p1), .bool m0.off_, .bool m0.armed_, .int .i64 m0.left_, .int .u64 m0.fall_.Keep, .int .i64 m0.fall_.Tear, .int .i64 m0.acts_, .int .i64 m0.falls_] 52, own e_disk_sector 55 p0 c0 m0.sure_, mpo (kInt .i64) (fun x : disk_sector => Value.agg #[.string x.s_, .int .i64 x.at_]) p1 m0.wait_]) (fun w hs => sat_to [4, 0, 0, 0, 0] 1 rfl hs) rfl (rr_tmp rfl) ⟨p0, c0, p1, rfl, rfl⟩
  refine cw_cond_f rfl rfl h26 ?_
  refine cw_skip ?_
  refine ew_then ?_
  refine cw_seq ?_
  refine cw_open 13 (SAT w0 ([imm I, own e_disk_sector 55 p0 c0 m0.sure_, mpo (kInt .i64) (fun x : disk_sector => Value.agg #[.string x.s_, .int .i64 x.at_]) p1 m0.wait_, pt b21 #[.int .u64 x2.Keep, .int .i64 x2.Tear] 36])) (by kernel_rfl) (f := 14) rfl (fun w hs => sat_drew hs) ?_
  refine aw_vals [0, 1, 2, 3, 5, 6] (f' := 8) (m' := 111) [5, 16, 17, 18, 21] [(5, .pointer (some ⟨b21, 0, none⟩)), (16, .pointer (some ⟨b0, 0, none⟩)), (17, .pointer (some ⟨b0, 0, none⟩)), (18, .int .i64 x1), (21, .pointer (some ⟨b0, 3, none⟩))] (fun _ _ _ _ _ h => calm_fin (P := Tryz.prog) (fn := Tryz.f12) _ _ _ _ _ h) (fun w hs => sat_pulls [0, 1, 1, 1] (G := [pt b0 #[.slice p0 m0.sure_.length c0, .map (some p1), .bool m0.off_, .bool m0.armed_, .int .i64 m0.left_, .int .u64 m0.fall_.Keep, .int .i64 m0.fall_.Tear, .int .i64 m0.acts_, .int .i64 m0.falls_] 52] ++ F0) rfl hs) rfl (by kernel_rfl) ?_
  refine aw_quiet 4 (m' := 127) (v := .agg #[.int .u64 x2.Keep, .int .i64 x2.Tear]) 4 [] rfl rfl rfl rfl (by kernel_rfl) (by kernel_rfl) (by kernel_rfl) (fun _ _ _ _ _ h => calm_fin (P := Tryz.prog) (fn := Tryz.f12) _ _ _ _ _ h) (fun w hs => sat_pulls [0, 1, 1, 1] (G := [pt b0 #[.slice p0 m0.sure_.length c0, .map (some p1), .bool m0.off_, .bool m0.armed_, .int .i64 m0.left_, .int .u64 m0.fall_.Keep, .int .i64 m0.fall_.Tear, .int .i64 m0.acts_, .int .i64 m0.falls_] 52] ++ F0) rfl hs) (q_load 3 rfl rfl rfl (by kernel_rfl)) ?_
  refine aw_only 7 (m' := 255) (by kernel_rfl) (by kernel_rfl) (pw_store 1 #[.slice p0 m0.sure_.length c0, .map (some p1), .bool m0.off_, .bool true, .int .i64 m0.left_, .int .u64 m0.fall_.Keep, .int .i64 m0.fall_.Tear, .int .i64 m0.acts_, .int .i64 m0.falls_] rfl rfl rfl rfl rfl rfl rfl (by kernel_rfl) (nw_H (H' := [imm I, pt b0 #[.slice p0 m0.sure_.length c0, .map (some p1), .bool m0.off_, .bool true, .int .i64 m0.left_, .int .u64 m0.fall_.Keep, .int .i64 m0.fall_.Tear, .int .i64 m0.acts_, .int .i64 m0.falls_] 52, own e_disk_sector 55 p0 c0 m0.sure_, mpo (kInt .i64) (fun x : disk_sector => Value.agg #[.string x.s_, .int .i64 x.at_]) p1 m0.wait_, pt b21 #[.int .u64 x2.Keep, .int .i64 x2.Tear] 36] ++ F0) rfl (aw_next (fun w hs => sat_pulls [0, 1, 1, 1] (G := [pt b0 #[.slice p0 m0.sure_.length c0, .map (some p1), .bool m0.off_, .bool true, .int .i64 m0.left_, .int .u64 m0.fall_.Keep, .int .i64 m0.fall_.Tear, .int .i64 m0.acts_, .int .i64 m0.falls_] 52] ++ F0) rfl hs) ?_)))
  refine aw_vals [8, 9] (f' := 4) (m' := 1023) [17, 18, 19, 23] [(17, .pointer (some ⟨b0, 0, none⟩)), (18, .int .i64 x1), (19, .agg #[.int .u64 x2.Keep, .int .i64 x2.Tear]), (23, .pointer (some ⟨b0, 4, none⟩))] (fun _ _ _ _ _ h => calm_fin (P := Tryz.prog) (fn := Tryz.f12) _ _ _ _ _ h) (fun w hs => sat_pulls [0, 1, 1, 1] (G := [pt b0 #[.slice p0 m0.sure_.length c0, .map (some p1), .bool m0.off_, .bool true, .int .i64 m0.left_, .int .u64 m0.fall_.Keep, .int .i64 m0.fall_.Tear, .int .i64 m0.acts_, .int .i64 m0.falls_] 52] ++ F0) rfl hs) rfl (by kernel_rfl) ?_
  refine aw_only 10 (m' := 2047) (by kernel_rfl) (by kernel_rfl) (pw_store 1 #[.slice p0 m0.sure_.length c0, .map (some p1), .bool m0.off_, .bool true, .int .i64 x1, .int .u64 m0.fall_.Keep, .int .i64 m0.fall_.Tear, .int .i64 m0.acts_, .int .i64 m0.falls_] rfl rfl rfl rfl rfl rfl rfl (by kernel_rfl) (nw_H (H' := [imm I, pt b0 #[.slice p0 m0.sure_.length c0, .map (some p1), .bool m0.off_, .bool true, .int .i64 x1, .int .u64 m0.fall_.Keep, .int .i64 m0.fall_.Tear, .int .i64 m0.acts_, .int .i64 m0.falls_] 52, own e_disk_sector 55 p0 c0 m0.sure_, mpo (kInt .i64) (fun x : disk_sector => Value.agg #[.string x.s_, .int .i64 x.at_]) p1 m0.wait_, pt b21 #[.int .u64 x2.Keep, .int .i64 x2.Tear] 36] ++ F0) rfl (aw_next (fun w hs => sat_pulls [0, 1, 1, 1] (G := [pt b0 #[.slice p0 m0.sure_.length c0, .map (some p1), .bool m0.off_, .bool true, .int .i64 x1, .int .u64 m0.fall_.Keep, .int .i64 m0.fall_.Tear, .int .i64 m0.acts_, .int .i64 m0.falls_] 52] ++ F0) rfl hs) ?_)))
  refine aw_vals [11, 12] (f' := 1) (m' := 8191) [19, 25] [(19, .agg #[.int .u64 x2.Keep, .int .i64 x2.Tear]), (25, .pointer (some ⟨b0, 5, none⟩))] (fun _ _ _ _ _ h => calm_fin (P := Tryz.prog) (fn := Tryz.f12) _ _ _ _ _ h) (fun w hs => sat_pulls [0, 1, 1, 1] (G := [pt b0 #[.slice p0 m0.sure_.length c0, .map (some p1), .bool m0.off_, .bool true, .int .i64 x1, .int .u64 m0.fall_.Keep, .int .i64 m0.fall_.Tear, .int .i64 m0.acts_, .int .i64 m0.falls_] 52] ++ F0) rfl hs) rfl (by kernel_rfl) ?_
  refine aw_only 13 (m' := 16383) (by kernel_rfl) (by kernel_rfl) (pw_store 1 #[.slice p0 m0.sure_.length c0, .map (some p1), .bool m0.off_, .bool true, .int .i64 x1, .int .u64 x2.Keep, .int .i64 x2.Tear, .int .i64 m0.acts_, .int .i64 m0.falls_] rfl rfl rfl rfl rfl rfl rfl (by kernel_rfl) (nw_H (H' := [imm I, pt b0 #[.slice p0 m0.sure_.length c0, .map (some p1), .bool m0.off_, .bool true, .int .i64 x1, .int .u64 x2.Keep, .int .i64 x2.Tear, .int .i64 m0.acts_, .int .i64 m0.falls_] 52, own e_disk_sector 55 p0 c0 m0.sure_, mpo (kInt .i64) (fun x : disk_sector => Value.agg #[.string x.s_, .int .i64 x.at_]) p1 m0.wait_, pt b21 #[.int .u64 x2.Keep, .int .i64 x2.Tear] 36] ++ F0) rfl (aw_last (by kernel_rfl) ?_)))
  refine aw_keep [] (L' := []) rfl ?_
  refine aw_end (by kernel_rfl) ?_
  refine ew_then ?_
  refine cw_seq ?_
  refine cw_region ?_
  refine ow_vals 1 (j := 1) [6] [(6, .int .i64 0)] rfl (by kernel_rfl) ?_
  refine ow_end rfl ?_
  refine ew_then ?_
  refine cw_ret ?_
  have hR := Option.some.inj hF
  subst hR
  exact fin1 (H1 := [imm I, pt b0 #[.slice p0 ((⟨m0.sure_, m0.wait_, m0.off_, true, x1, x2, m0.acts_, m0.falls_⟩ : disk_Disk).sure_).length c0, .map (some p1), .bool ((⟨m0.sure_, m0.wait_, m0.off_, true, x1, x2, m0.acts_, m0.falls_⟩ : disk_Disk).off_), .bool ((⟨m0.sure_, m0.wait_, m0.off_, true, x1, x2, m0.acts_, m0.falls_⟩ : disk_Disk).armed_), .int .i64 ((⟨m0.sure_, m0.wait_, m0.off_, true, x1, x2, m0.acts_, m0.falls_⟩ : disk_Disk).left_), .int .u64 (((⟨m0.sure_, m0.wait_, m0.off_, true, x1, x2, m0.acts_, m0.falls_⟩ : disk_Disk).fall_).Keep), .int .i64 (((⟨m0.sure_, m0.wait_, m0.off_, true, x1, x2, m0.acts_, m0.falls_⟩ : disk_Disk).fall_).Tear), .int .i64 ((⟨m0.sure_, m0.wait_, m0.off_, true, x1, x2, m0.acts_, m0.falls_⟩ : disk_Disk).acts_), .int .i64 ((⟨m0.sure_, m0.wait_, m0.off_, true, x1, x2, m0.acts_, m0.falls_⟩ : disk_Disk).falls_)] 52, own e_disk_sector 55 p0 c0 ((⟨m0.sure_, m0.wait_, m0.off_, true, x1, x2, m0.acts_, m0.falls_⟩ : disk_Disk).sure_), mpo (kInt .i64) (fun x : disk_sector => Value.agg #[.string x.s_, .int .i64 x.at_]) p1 ((⟨m0.sure_, m0.wait_, m0.off_, true, x1, x2, m0.acts_, m0.falls_⟩ : disk_Disk).wait_)]) (fun w hs => sat_to [4, 0, 0, 0, 0] 1 rfl hs) rfl (rr_tmp rfl) ⟨p0, c0, p1, rfl, rfl⟩


def F.disk_Disk_Up (m0 : disk_Disk) : Option Bool :=
  Option.bind (F.disk_Disk_Size m0) (fun (r21 : Int) => if decide (r21 > 0) then (some ((!m0.off_))) else (some (false)))
set_option maxRecDepth 100000 in
set_option maxHeartbeats 4000000 in
theorem c_disk_Disk_Up (I : Hl) (m0 : disk_Disk) (p0 : Option Addr) (c0 : Nat) (p1 : Nat) (b0 : Nat) (res : Bool) (hF : F.disk_Disk_Up m0 = some res) : Tr Tryz.prog 13 [.pointer (some ⟨b0, 0, none⟩)] [imm I, pt b0 #[.slice p0 m0.sure_.length c0, .map (some p1), .bool m0.off_, .bool m0.armed_, .int .i64 m0.left_, .int .u64 m0.fall_.Keep, .int .i64 m0.fall_.Tear, .int .i64 m0.acts_, .int .i64 m0.falls_] 52, own e_disk_sector 55 p0 c0 m0.sure_, mpo (kInt .i64) (fun x : disk_sector => Value.agg #[.string x.s_, .int .i64 x.at_]) p1 m0.wait_] (fun r H' => r = .bool res ∧ H' = [imm I, pt b0 #[.slice p0 m0.sure_.length c0, .map (some p1), .bool m0.off_, .bool m0.armed_, .int .i64 m0.left_, .int .u64 m0.fall_.Keep, .int .i64 m0.fall_.Tear, .int .i64 m0.acts_, .int .i64 m0.falls_] 52, own e_disk_sector 55 p0 c0 m0.sure_, mpo (kInt .i64) (fun x : disk_sector => Value.agg #[.string x.s_, .int .i64 x.at_]) p1 m0.wait_]) := by
  unfold F.disk_Disk_Up at hF
  refine tr_of_cw (fn := Tryz.f13) Tryz.func13 rfl (Nat.le_of_ble_eq_true rfl) 13 rfl fun F0 w0 => ?_
  refine cw_keep [0] (L' := [(0, .pointer (some ⟨b0, 0, none⟩))]) rfl ?_
  refine cw_state (S' := SAT w0 ([imm I, pt b0 #[.slice p0 m0.sure_.length c0, .map (some p1), .bool m0.off_, .bool m0.armed_, .int .i64 m0.left_, .int .u64 m0.fall_.Keep, .int .i64 m0.fall_.Tear, .int .i64 m0.acts_, .int .i64 m0.falls_] 52, own e_disk_sector 55 p0 c0 m0.sure_, mpo (kInt .i64) (fun x : disk_sector => Value.agg #[.string x.s_, .int .i64 x.at_]) p1 m0.wait_] ++ F0)) (fun w hs => hs) ?_
  refine cw_seq ?_
  refine cw_region ?_
  refine ow_vals 1 (j := 1) [0] [(0, .pointer (some ⟨b0, 0, none⟩))] rfl (by kernel_rfl) ?_
  refine ow_end rfl ?_
  refine ew_then ?_
  refine cw_seq ?_
  refine cw_region ?_
  refine ow_vals 1 (j := 1) [0, 3] [(0, .pointer (some ⟨b0, 0, none⟩)), (3, .pointer (some ⟨b0, 0, none⟩))] rfl (by kernel_rfl) ?_
  obtain ⟨r21, h22, hF⟩ := bind_some hF
  refine ow_pw rfl (pw_call (F := [] ++ F0) rfl rfl rfl rfl rfl rfl rfl (by kernel_rfl) (perm_of_pulls [0, 0, 0, 0] rfl) (c_disk_Disk_Size _ m0 p0 c0 p1 b0 r21 h22) ?_)
  rintro _ _ ⟨rfl, rfl⟩
  refine nw_H (H' := [imm I, pt b0 #[.slice p0 m0.sure_.length c0, .map (some p1), .bool m0.off_, .bool m0.armed_, .int .i64 m0.left_, .int .u64 m0.fall_.Keep, .int .i64 m0.fall_.Tear, .int .i64 m0.acts_, .int .i64 m0.falls_] 52, own e_disk_sector 55 p0 c0 m0.sure_, mpo (kInt .i64) (fun x : disk_sector => Value.agg #[.string x.s_, .int .i64 x.at_]) p1 m0.wait_] ++ F0) rfl (nw_ow ?_)
  refine ow_vals 2 (j := 4) [0, 6] [(0, .pointer (some ⟨b0, 0, none⟩)), (6, .bool (decide (r21 > 0)))] rfl (by kernel_rfl) ?_
  rcases if_some hF with ⟨h23, hF⟩ | ⟨h23, hF⟩
  · refine ow_slots (L' := [(0, .pointer (some ⟨b0, 0, none⟩)), (6, .bool true)]) (by rw [h23]) ?_
    refine ow_vals 3 (j := 7) [6, 9] [(6, .bool true), (9, .pointer (some ⟨b0, 2, none⟩))] rfl (by kernel_rfl) ?_
    refine ow_pw rfl (pw_quiet (v := .bool m0.off_) rfl rfl rfl rfl (q_load 1 rfl rfl rfl (by kernel_rfl)) (nw_ow ?_))
    refine ow_vals 3 (j := 11) [2] [(2, .bool (!m0.off_))] rfl (by kernel_rfl) ?_
    refine ow_end rfl ?_
    refine ew_then ?_
    refine cw_ret ?_
    have hR := Option.some.inj hF
    subst hR
    exact fin1 (H1 := [imm I, pt b0 #[.slice p0 m0.sure_.length c0, .map (some p1), .bool m0.off_, .bool m0.armed_, .int .i64 m0.left_, .int .u64 m0.fall_.Keep, .int .i64 m0.fall_.Tear, .int .i64 m0.acts_, .int .i64 m0.falls_] 52, own e_disk_sector 55 p0 c0 m0.sure_, mpo (kInt .i64) (fun x : disk_sector => Value.agg #[.string x.s_, .int .i64 x.at_]) p1 m0.wait_]) (fun w hs => sat_to [0, 0, 0, 0] 0 rfl hs) rfl (rr_tmp rfl) ⟨rfl, rfl⟩
  refine ow_slots (L' := [(0, .pointer (some ⟨b0, 0, none⟩)), (6, .bool false)]) (by rw [h23]) ?_
  refine ow_vals 7 (j := 11) [2] [(2, .bool false)] rfl (by kernel_rfl) ?_
  refine ow_end rfl ?_
  refine ew_then ?_
  refine cw_ret ?_
  have hR := Option.some.inj hF
  subst hR
  exact fin1 (H1 := [imm I, pt b0 #[.slice p0 m0.sure_.length c0, .map (some p1), .bool m0.off_, .bool m0.armed_, .int .i64 m0.left_, .int .u64 m0.fall_.Keep, .int .i64 m0.fall_.Tear, .int .i64 m0.acts_, .int .i64 m0.falls_] 52, own e_disk_sector 55 p0 c0 m0.sure_, mpo (kInt .i64) (fun x : disk_sector => Value.agg #[.string x.s_, .int .i64 x.at_]) p1 m0.wait_]) (fun w hs => sat_to [0, 0, 0, 0] 0 rfl hs) rfl (rr_tmp rfl) ⟨rfl, rfl⟩


def F.keyring_Ring_Find.l1 (m0 : keyring_Ring) (m1 : guard_Guard) (m2 : disk_Disk) (x26 : Int) : Option ((Int) ⊕ ((Unit) ⊕ (Int × Int))) :=
  if decide (x26 < m0.slots_) then (Option.bind (F.keyring_Ring_Free x26 m0 m1 m2) (fun (r28 : Bool) => if r28 then (some (.inr (.inr ((x26, 0))))) else (some (.inl (IntKind.i64.wrap (x26 + 1)))))) else (some (.inr (.inl ())))
def F.keyring_Ring_Find.r2 : Option (Int × Int) :=
  some ((0, 6))
def F.keyring_Ring_Find (m0 : keyring_Ring) (m1 : guard_Guard) (m2 : disk_Disk) : Option (Int × Int) :=
  Option.bind (F.keyring_Ring_why 0 m0 m1 m2) (fun (r21 : Int) => if r21 != 0 then (some ((0, r21))) else (thru (iter (fun x => F.keyring_Ring_Find.l1 m0 m1 m2 x) FUEL 0) (fun x => F.keyring_Ring_Find.r2)))
set_option maxRecDepth 100000 in
set_option maxHeartbeats 4000000 in
theorem c_keyring_Ring_Find (I : Hl) (m0 : keyring_Ring) (m1 : guard_Guard) (m2 : disk_Disk) (b0 : Nat) (b1 : Nat) (p0 : Option Addr) (c0 : Nat) (p1 : Nat) (b2 : Nat) (res : Int × Int) (hF : F.keyring_Ring_Find m0 m1 m2 = some res) : Tr Tryz.prog 29 [.pointer (some ⟨b0, 0, none⟩)] [imm I, pt b0 #[.pointer (some ⟨b1, 0, none⟩), .int .i64 m0.base_, .int .i64 m0.slots_, .int .i64 m0.shred_] 78, pt b1 #[.pointer (some ⟨b2, 0, none⟩), .int .i64 m1.boot_, .int .i64 m1.n_] 75, pt b2 #[.slice p0 m2.sure_.length c0, .map (some p1), .bool m2.off_, .bool m2.armed_, .int .i64 m2.left_, .int .u64 m2.fall_.Keep, .int .i64 m2.fall_.Tear, .int .i64 m2.acts_, .int .i64 m2.falls_] 52, own e_disk_sector 55 p0 c0 m2.sure_, mpo (kInt .i64) (fun x : disk_sector => Value.agg #[.string x.s_, .int .i64 x.at_]) p1 m2.wait_] (fun r H' => r = .tuple #[.int .i64 res.1, .int .i64 res.2] ∧ H' = [imm I, pt b0 #[.pointer (some ⟨b1, 0, none⟩), .int .i64 m0.base_, .int .i64 m0.slots_, .int .i64 m0.shred_] 78, pt b1 #[.pointer (some ⟨b2, 0, none⟩), .int .i64 m1.boot_, .int .i64 m1.n_] 75, pt b2 #[.slice p0 m2.sure_.length c0, .map (some p1), .bool m2.off_, .bool m2.armed_, .int .i64 m2.left_, .int .u64 m2.fall_.Keep, .int .i64 m2.fall_.Tear, .int .i64 m2.acts_, .int .i64 m2.falls_] 52, own e_disk_sector 55 p0 c0 m2.sure_, mpo (kInt .i64) (fun x : disk_sector => Value.agg #[.string x.s_, .int .i64 x.at_]) p1 m2.wait_]) := by
  unfold F.keyring_Ring_Find at hF
  refine tr_of_cw (fn := Tryz.f29) Tryz.func29 rfl (Nat.le_of_ble_eq_true rfl) 23 rfl fun F0 w0 => ?_
  refine cw_keep [0] (L' := [(0, .pointer (some ⟨b0, 0, none⟩))]) rfl ?_
  refine cw_state (S' := SAT w0 ([imm I, pt b0 #[.pointer (some ⟨b1, 0, none⟩), .int .i64 m0.base_, .int .i64 m0.slots_, .int .i64 m0.shred_] 78, pt b1 #[.pointer (some ⟨b2, 0, none⟩), .int .i64 m1.boot_, .int .i64 m1.n_] 75, pt b2 #[.slice p0 m2.sure_.length c0, .map (some p1), .bool m2.off_, .bool m2.armed_, .int .i64 m2.left_, .int .u64 m2.fall_.Keep, .int .i64 m2.fall_.Tear, .int .i64 m2.acts_, .int .i64 m2.falls_] 52, own e_disk_sector 55 p0 c0 m2.sure_, mpo (kInt .i64) (fun x : disk_sector => Value.agg #[.string x.s_, .int .i64 x.at_]) p1 m2.wait_] ++ F0)) (fun w hs => hs) ?_
  refine cw_seq ?_
  refine cw_region ?_
  refine ow_vals 2 (j := 2) [0] [(0, .pointer (some ⟨b0, 0, none⟩))] rfl (by kernel_rfl) ?_
  refine ow_end rfl ?_
  refine ew_then ?_
  refine cw_seq ?_
  refine cw_seq ?_
  refine cw_region ?_
  refine ow_vals 1 (j := 1) [0, 6] [(0, .pointer (some ⟨b0, 0, none⟩)), (6, .pointer (some ⟨b0, 0, none⟩))] rfl (by kernel_rfl) ?_
  obtain ⟨r21, h22, hF⟩ := bind_some hF
  refine ow_pw rfl (pw_call (F := [] ++ F0) rfl rfl rfl rfl rfl rfl rfl (by kernel_rfl) (perm_of_pulls [0, 0, 0, 0, 0, 0] rfl) (c_keyring_Ring_why _ 0 m0 m1 m2 b0 b1 p0 c0 p1 b2 r21 h22) ?_)
  rintro _ _ ⟨rfl, rfl⟩
  refine nw_H (H' := [imm I, pt b0 #[.pointer (some ⟨b1, 0, none⟩), .int .i64 m0.base_, .int .i64 m0.slots_, .int .i64 m0.shred_] 78, pt b1 #[.pointer (some ⟨b2, 0, none⟩), .int .i64 m1.boot_, .int .i64 m1.n_] 75, pt b2 #[.slice p0 m2.sure_.length c0, .map (some p1), .bool m2.off_, .bool m2.armed_, .int .i64 m2.left_, .int .u64 m2.fall_.Keep, .int .i64 m2.fall_.Tear, .int .i64 m2.acts_, .int .i64 m2.falls_] 52, own e_disk_sector 55 p0 c0 m2.sure_, mpo (kInt .i64) (fun x : disk_sector => Value.agg #[.string x.s_, .int .i64 x.at_]) p1 m2.wait_] ++ F0) rfl (nw_ow ?_)
  refine ow_vals 1 (j := 3) [0, 4] [(0, .pointer (some ⟨b0, 0, none⟩)), (4, .int .i64 r21)] rfl (by kernel_rfl) ?_
  refine ow_end rfl ?_
  refine ew_then ?_
  refine cw_seq ?_
  refine cw_region ?_
  refine ow_vals 2 (j := 2) [0, 4, 9] [(0, .pointer (some ⟨b0, 0, none⟩)), (4, .int .i64 r21), (9, .bool (r21 != 0))] rfl (by kernel_rfl) ?_
  refine ow_end rfl ?_
  refine ew_then ?_
  rcases if_some hF with ⟨h23, hF⟩ | ⟨h23, hF⟩
  · refine cw_cond_t rfl rfl h23 ?_
    refine cw_seq ?_
    refine cw_region ?_
    refine ow_vals 3 (j := 3) [2, 3] [(2, .int .i64 0), (3, .int .i64 r21)] rfl (by kernel_rfl) ?_
    refine ow_end rfl ?_
    refine ew_then ?_
    refine cw_ret ?_
    refine ew_then_ret ?_
    have hR := Option.some.inj hF
    subst hR
    exact fin2 (H1 := [imm I, pt b0 #[.pointer (some ⟨b1, 0, none⟩), .int .i64 m0.base_, .int .i64 m0.slots_, .int .i64 m0.shred_] 78, pt b1 #[.pointer (some ⟨b2, 0, none⟩), .int .i64 m1.boot_, .int .i64 m1.n_] 75, pt b2 #[.slice p0 m2.sure_.length c0, .map (some p1), .bool m2.off_, .bool m2.armed_, .int .i64 m2.left_, .int .u64 m2.fall_.Keep, .int .i64 m2.fall_.Tear, .int .i64 m2.acts_, .int .i64 m2.falls_] 52, own e_disk_sector 55 p0 c0 m2.sure_, mpo (kInt .i64) (fun x : disk_sector => Value.agg #[.string x.s_, .int .i64 x.at_]) p1 m2.wait_]) (fun w hs => sat_to [0, 0, 0, 0, 0, 0] 0 rfl hs) rfl (rr_tmp rfl) (rr_tmp rfl) ⟨rfl, rfl⟩
  refine cw_cond_f rfl rfl h23 ?_
  refine cw_skip ?_
  refine ew_then ?_
  obtain ⟨v24, hF, hK24⟩ := thru_some hF
  refine cw_mid (fun a w => .inl () = v24 ∧ Fr 23 [] a ∧ SAT w0 ([imm I, pt b0 #[.pointer (some ⟨b1, 0, none⟩), .int .i64 m0.base_, .int .i64 m0.slots_, .int .i64 m0.shred_] 78, pt b1 #[.pointer (some ⟨b2, 0, none⟩), .int .i64 m1.boot_, .int .i64 m1.n_] 75, pt b2 #[.slice p0 m2.sure_.length c0, .map (some p1), .bool m2.off_, .bool m2.armed_, .int .i64 m2.left_, .int .u64 m2.fall_.Keep, .int .i64 m2.fall_.Tear, .int .i64 m2.acts_, .int .i64 m2.falls_] 52, own e_disk_sector 55 p0 c0 m2.sure_, mpo (kInt .i64) (fun x : disk_sector => Value.agg #[.string x.s_, .int .i64 x.at_]) p1 m2.wait_] ++ F0) w) ?_ ?_
  · refine cw_seq ?_
    refine cw_region ?_
    refine ow_vals 3 (j := 3) [0, 13] [(0, .pointer (some ⟨b0, 0, none⟩)), (13, .pointer (some ⟨b0, 2, none⟩))] rfl (by kernel_rfl) ?_
    refine ow_pw rfl (pw_quiet (v := .int .i64 m0.slots_) rfl rfl rfl rfl (q_load 1 rfl rfl rfl (by kernel_rfl)) (nw_ow ?_))
    refine ow_vals 1 (j := 5) [0, 14, 15] [(0, .pointer (some ⟨b0, 0, none⟩)), (14, .int .i64 m0.slots_), (15, .int .i64 0)] rfl (by kernel_rfl) ?_
    refine ow_end rfl ?_
    refine ew_then ?_
    refine cw_block ?_
    refine fun a w hf hs => wp_rounds (fun k a w => ∃ (x26 : Int), iter (fun x => F.keyring_Ring_Find.l1 m0 m1 m2 x) k x26 = some v24 ∧ Fr 23 [(0, .pointer (some ⟨b0, 0, none⟩)), (14, .int .i64 m0.slots_), (15, .int .i64 x26)] a ∧ SAT w0 ([imm I, pt b0 #[.pointer (some ⟨b1, 0, none⟩), .int .i64 m0.base_, .int .i64 m0.slots_, .int .i64 m0.shred_] 78, pt b1 #[.pointer (some ⟨b2, 0, none⟩), .int .i64 m1.boot_, .int .i64 m1.n_] 75, pt b2 #[.slice p0 m2.sure_.length c0, .map (some p1), .bool m2.off_, .bool m2.armed_, .int .i64 m2.left_, .int .u64 m2.fall_.Keep, .int .i64 m2.fall_.Tear, .int .i64 m2.acts_, .int .i64 m2.falls_] 52, own e_disk_sector 55 p0 c0 m2.sure_, mpo (kInt .i64) (fun x : disk_sector => Value.agg #[.string x.s_, .int .i64 x.at_]) p1 m2.wait_] ++ F0) w) ?_ FUEL a w ⟨0, hF, hf.keep [0, 14, 15], sat_to [0, 0, 0, 0, 0, 0] 0 rfl hs⟩
    clear hf hs
    clear a w hF
    rintro k a w ⟨x26, hF2, hf, hs⟩
    obtain ⟨k, r25, rfl, hF, hL25⟩ := iter_some hF2
    clear hF2
    revert a w
    show CW _ _ _ 23 [(0, .pointer (some ⟨b0, 0, none⟩)), (14, .int .i64 m0.slots_), (15, .int .i64 x26)] (SAT w0 ([imm I, pt b0 #[.pointer (some ⟨b1, 0, none⟩), .int .i64 m0.base_, .int .i64 m0.slots_, .int .i64 m0.shred_] 78, pt b1 #[.pointer (some ⟨b2, 0, none⟩), .int .i64 m1.boot_, .int .i64 m1.n_] 75, pt b2 #[.slice p0 m2.sure_.length c0, .map (some p1), .bool m2.off_, .bool m2.armed_, .int .i64 m2.left_, .int .u64 m2.fall_.Keep, .int .i64 m2.fall_.Tear, .int .i64 m2.acts_, .int .i64 m2.falls_] 52, own e_disk_sector 55 p0 c0 m2.sure_, mpo (kInt .i64) (fun x : disk_sector => Value.agg #[.string x.s_, .int .i64 x.at_]) p1 m2.wait_] ++ F0))
    try dsimp only at hF
    unfold F.keyring_Ring_Find.l1 at hF
    refine cw_seq ?_
    refine cw_region ?_
    refine ow_vals 1 (j := 1) [0, 14, 15, 16] [(0, .pointer (some ⟨b0, 0, none⟩)), (14, .int .i64 m0.slots_), (15, .int .i64 x26), (16, .bool (decide (x26 < m0.slots_)))] rfl (by kernel_rfl) ?_
    refine ow_end rfl ?_
    refine ew_then ?_
    refine cw_seq ?_
    rcases if_some hF with ⟨h27, hF⟩ | ⟨h27, hF⟩
    · refine cw_cond_t rfl rfl h27 ?_
      refine cw_skip ?_
      refine ew_then ?_
      refine cw_seq ?_
      refine cw_block ?_
      refine cw_seq ?_
      refine cw_region ?_
      refine ow_vals 2 (j := 2) [0, 5, 14, 15] [(0, .pointer (some ⟨b0, 0, none⟩)), (5, .int .i64 x26), (14, .int .i64 m0.slots_), (15, .int .i64 x26)] rfl (by kernel_rfl) ?_
      refine ow_end rfl ?_
      refine ew_then ?_
      refine cw_seq ?_
      refine cw_region ?_
      refine ow_vals 2 (j := 2) [0, 5, 14, 15, 18, 19] [(0, .pointer (some ⟨b0, 0, none⟩)), (5, .int .i64 x26), (14, .int .i64 m0.slots_), (15, .int .i64 x26), (18, .pointer (some ⟨b0, 0, none⟩)), (19, .int .i64 x26)] rfl (by kernel_rfl) ?_
      obtain ⟨r28, h29, hF⟩ := bind_some hF
      refine ow_pw rfl (pw_call (F := [] ++ F0) rfl rfl rfl rfl rfl rfl rfl (by kernel_rfl) (perm_of_pulls [0, 0, 0, 0, 0, 0] rfl) (c_keyring_Ring_Free _ x26 m0 m1 m2 b0 b1 p0 c0 p1 b2 r28 h29) ?_)
      rintro _ _ ⟨rfl, rfl⟩
      refine nw_H (H' := [imm I, pt b0 #[.pointer (some ⟨b1, 0, none⟩), .int .i64 m0.base_, .int .i64 m0.slots_, .int .i64 m0.shred_] 78, pt b1 #[.pointer (some ⟨b2, 0, none⟩), .int .i64 m1.boot_, .int .i64 m1.n_] 75, pt b2 #[.slice p0 m2.sure_.length c0, .map (some p1), .bool m2.off_, .bool m2.armed_, .int .i64 m2.left_, .int .u64 m2.fall_.Keep, .int .i64 m2.fall_.Tear, .int .i64 m2.acts_, .int .i64 m2.falls_] 52, own e_disk_sector 55 p0 c0 m2.sure_, mpo (kInt .i64) (fun x : disk_sector => Value.agg #[.string x.s_, .int .i64 x.at_]) p1 m2.wait_] ++ F0) rfl (nw_ow ?_)
      refine ow_end rfl ?_
      refine ew_then ?_
      rcases if_some hF with ⟨h30, hF⟩ | ⟨h30, hF⟩
      · refine cw_cond_t rfl rfl h30 ?_
        refine cw_seq ?_
        refine cw_region ?_
        refine ow_vals 3 (j := 3) [2, 3] [(2, .int .i64 x26), (3, .int .i64 0)] rfl (by kernel_rfl) ?_
        refine ow_end rfl ?_
        refine ew_then ?_
        refine cw_ret ?_
        refine ew_blk_ret ?_
        refine ew_then_ret ?_
        refine ew_then_ret ?_
        refine ew_blk_ret ?_
        refine ew_then_ret ?_
        have hR := Option.some.inj hF
        subst hR
        have hR := hL25
        try dsimp only at hR
        subst hR
        have hR := hK24
        try dsimp only [Thru] at hR
        subst hR
        exact fin2 (H1 := [imm I, pt b0 #[.pointer (some ⟨b1, 0, none⟩), .int .i64 m0.base_, .int .i64 m0.slots_, .int .i64 m0.shred_] 78, pt b1 #[.pointer (some ⟨b2, 0, none⟩), .int .i64 m1.boot_, .int .i64 m1.n_] 75, pt b2 #[.slice p0 m2.sure_.length c0, .map (some p1), .bool m2.off_, .bool m2.armed_, .int .i64 m2.left_, .int .u64 m2.fall_.Keep, .int .i64 m2.fall_.Tear, .int .i64 m2.acts_, .int .i64 m2.falls_] 52, own e_disk_sector 55 p0 c0 m2.sure_, mpo (kInt .i64) (fun x : disk_sector => Value.agg #[.string x.s_, .int .i64 x.at_]) p1 m2.wait_]) (fun w hs => sat_to [0, 0, 0, 0, 0, 0] 0 rfl hs) rfl (rr_tmp rfl) (rr_tmp rfl) ⟨rfl, rfl⟩
      refine cw_cond_f rfl rfl h30 ?_
      refine cw_skip ?_
      refine ew_blk ?_
      refine ew_then ?_
      refine cw_region ?_
      refine ow_vals 2 (j := 2) [0, 14, 15] [(0, .pointer (some ⟨b0, 0, none⟩)), (14, .int .i64 m0.slots_), (15, .int .i64 (IntKind.i64.wrap (x26 + 1)))] rfl (by kernel_rfl) ?_
      refine ow_end rfl ?_
      have hR := Option.some.inj hF
      subst hR
      have hR := hL25
      try dsimp only at hR
      exact fun a w hf hs => ⟨k, Nat.lt_succ_self k, IntKind.i64.wrap (x26 + 1), hR, hf.keep [0, 14, 15], sat_to [0, 0, 0, 0, 0, 0] 0 rfl hs⟩
    refine cw_cond_f rfl rfl h27 ?_
    refine cw_exit ?_
    refine ew_then_exit ?_
    refine ew_then_exit ?_
    refine ew_blk_exit ?_
    have hR := Option.some.inj hF
    subst hR
    have hR := hL25
    try dsimp only at hR
    exact fun a w hf hs => ⟨hR, hf.keep [], sat_to [0, 0, 0, 0, 0, 0] 0 rfl hs⟩
  rintro a w ⟨hv, hf, hs⟩
  subst hv
  replace hF := hK24
  clear hK24
  try dsimp only [Thru] at hF
  revert a w
  show CW _ _ _ 23 [] (SAT w0 ([imm I, pt b0 #[.pointer (some ⟨b1, 0, none⟩), .int .i64 m0.base_, .int .i64 m0.slots_, .int .i64 m0.shred_] 78, pt b1 #[.pointer (some ⟨b2, 0, none⟩), .int .i64 m1.boot_, .int .i64 m1.n_] 75, pt b2 #[.slice p0 m2.sure_.length c0, .map (some p1), .bool m2.off_, .bool m2.armed_, .int .i64 m2.left_, .int .u64 m2.fall_.Keep, .int .i64 m2.fall_.Tear, .int .i64 m2.acts_, .int .i64 m2.falls_] 52, own e_disk_sector 55 p0 c0 m2.sure_, mpo (kInt .i64) (fun x : disk_sector => Value.agg #[.string x.s_, .int .i64 x.at_]) p1 m2.wait_] ++ F0))
  unfold F.keyring_Ring_Find.r2 at hF
  refine cw_seq ?_
  refine cw_region ?_
  refine ow_vals 2 (j := 2) [2, 3] [(2, .int .i64 0), (3, .int .i64 6)] rfl (by kernel_rfl) ?_
  refine ow_end rfl ?_
  refine ew_then ?_
  refine cw_ret ?_
  have hR := Option.some.inj hF
  subst hR
  exact fin2 (H1 := [imm I, pt b0 #[.pointer (some ⟨b1, 0, none⟩), .int .i64 m0.base_, .int .i64 m0.slots_, .int .i64 m0.shred_] 78, pt b1 #[.pointer (some ⟨b2, 0, none⟩), .int .i64 m1.boot_, .int .i64 m1.n_] 75, pt b2 #[.slice p0 m2.sure_.length c0, .map (some p1), .bool m2.off_, .bool m2.armed_, .int .i64 m2.left_, .int .u64 m2.fall_.Keep, .int .i64 m2.fall_.Tear, .int .i64 m2.acts_, .int .i64 m2.falls_] 52, own e_disk_sector 55 p0 c0 m2.sure_, mpo (kInt .i64) (fun x : disk_sector => Value.agg #[.string x.s_, .int .i64 x.at_]) p1 m2.wait_]) (fun w hs => sat_to [0, 0, 0, 0, 0, 0] 0 rfl hs) rfl (rr_tmp rfl) (rr_tmp rfl) ⟨rfl, rfl⟩


def F.keyring_Ring_Slots (m0 : keyring_Ring) (m1 : guard_Guard) (m2 : disk_Disk) : Option Int :=
  some (m0.slots_)
set_option maxRecDepth 100000 in
set_option maxHeartbeats 4000000 in
theorem c_keyring_Ring_Slots (I : Hl) (m0 : keyring_Ring) (m1 : guard_Guard) (m2 : disk_Disk) (b0 : Nat) (b1 : Nat) (p0 : Option Addr) (c0 : Nat) (p1 : Nat) (b2 : Nat) (res : Int) (hF : F.keyring_Ring_Slots m0 m1 m2 = some res) : Tr Tryz.prog 30 [.pointer (some ⟨b0, 0, none⟩)] [imm I, pt b0 #[.pointer (some ⟨b1, 0, none⟩), .int .i64 m0.base_, .int .i64 m0.slots_, .int .i64 m0.shred_] 78, pt b1 #[.pointer (some ⟨b2, 0, none⟩), .int .i64 m1.boot_, .int .i64 m1.n_] 75, pt b2 #[.slice p0 m2.sure_.length c0, .map (some p1), .bool m2.off_, .bool m2.armed_, .int .i64 m2.left_, .int .u64 m2.fall_.Keep, .int .i64 m2.fall_.Tear, .int .i64 m2.acts_, .int .i64 m2.falls_] 52, own e_disk_sector 55 p0 c0 m2.sure_, mpo (kInt .i64) (fun x : disk_sector => Value.agg #[.string x.s_, .int .i64 x.at_]) p1 m2.wait_] (fun r H' => r = .int .i64 res ∧ H' = [imm I, pt b0 #[.pointer (some ⟨b1, 0, none⟩), .int .i64 m0.base_, .int .i64 m0.slots_, .int .i64 m0.shred_] 78, pt b1 #[.pointer (some ⟨b2, 0, none⟩), .int .i64 m1.boot_, .int .i64 m1.n_] 75, pt b2 #[.slice p0 m2.sure_.length c0, .map (some p1), .bool m2.off_, .bool m2.armed_, .int .i64 m2.left_, .int .u64 m2.fall_.Keep, .int .i64 m2.fall_.Tear, .int .i64 m2.acts_, .int .i64 m2.falls_] 52, own e_disk_sector 55 p0 c0 m2.sure_, mpo (kInt .i64) (fun x : disk_sector => Value.agg #[.string x.s_, .int .i64 x.at_]) p1 m2.wait_]) := by
  unfold F.keyring_Ring_Slots at hF
  refine tr_of_cw (fn := Tryz.f30) Tryz.func30 rfl (Nat.le_of_ble_eq_true rfl) 9 rfl fun F0 w0 => ?_
  refine cw_keep [0] (L' := [(0, .pointer (some ⟨b0, 0, none⟩))]) rfl ?_
  refine cw_state (S' := SAT w0 ([imm I, pt b0 #[.pointer (some ⟨b1, 0, none⟩), .int .i64 m0.base_, .int .i64 m0.slots_, .int .i64 m0.shred_] 78, pt b1 #[.pointer (some ⟨b2, 0, none⟩), .int .i64 m1.boot_, .int .i64 m1.n_] 75, pt b2 #[.slice p0 m2.sure_.length c0, .map (some p1), .bool m2.off_, .bool m2.armed_, .int .i64 m2.left_, .int .u64 m2.fall_.Keep, .int .i64 m2.fall_.Tear, .int .i64 m2.acts_, .int .i64 m2.falls_] 52, own e_disk_sector 55 p0 c0 m2.sure_, mpo (kInt .i64) (fun x : disk_sector => Value.agg #[.string x.s_, .int .i64 x.at_]) p1 m2.wait_] ++ F0)) (fun w hs => hs) ?_
  refine cw_seq ?_
  refine cw_region ?_
  refine ow_vals 1 (j := 1) [0] [(0, .pointer (some ⟨b0, 0, none⟩))] rfl (by kernel_rfl) ?_
  refine ow_end rfl ?_
  refine ew_then ?_
  refine cw_seq ?_
  refine cw_seq ?_
  refine cw_region ?_
  refine ow_vals 2 (j := 2) [0, 4] [(0, .pointer (some ⟨b0, 0, none⟩)), (4, .bool false)] rfl (by kernel_rfl) ?_
  refine ow_end rfl ?_
  refine ew_then ?_
  refine cw_cond_f rfl rfl rfl ?_
  refine cw_skip ?_
  refine ew_then ?_
  refine cw_seq ?_
  refine cw_region ?_
  refine ow_vals 3 (j := 3) [7] [(7, .pointer (some ⟨b0, 2, none⟩))] rfl (by kernel_rfl) ?_
  refine ow_pw rfl (pw_quiet (v := .int .i64 m0.slots_) rfl rfl rfl rfl (q_load 1 rfl rfl rfl (by kernel_rfl)) (nw_ow ?_))
  refine ow_vals 1 (j := 5) [2] [(2, .int .i64 m0.slots_)] rfl (by kernel_rfl) ?_
  refine ow_end rfl ?_
  refine ew_then ?_
  refine cw_ret ?_
  have hR := Option.some.inj hF
  subst hR
  exact fin1 (H1 := [imm I, pt b0 #[.pointer (some ⟨b1, 0, none⟩), .int .i64 m0.base_, .int .i64 m0.slots_, .int .i64 m0.shred_] 78, pt b1 #[.pointer (some ⟨b2, 0, none⟩), .int .i64 m1.boot_, .int .i64 m1.n_] 75, pt b2 #[.slice p0 m2.sure_.length c0, .map (some p1), .bool m2.off_, .bool m2.armed_, .int .i64 m2.left_, .int .u64 m2.fall_.Keep, .int .i64 m2.fall_.Tear, .int .i64 m2.acts_, .int .i64 m2.falls_] 52, own e_disk_sector 55 p0 c0 m2.sure_, mpo (kInt .i64) (fun x : disk_sector => Value.agg #[.string x.s_, .int .i64 x.at_]) p1 m2.wait_]) (fun w hs => sat_to [0, 0, 0, 0, 0, 0] 0 rfl hs) rfl (rr_tmp rfl) ⟨rfl, rfl⟩


def F.keyring_Ring_Shreds (m0 : keyring_Ring) (m1 : guard_Guard) (m2 : disk_Disk) : Option Int :=
  some (m0.shred_)
set_option maxRecDepth 100000 in
set_option maxHeartbeats 4000000 in
theorem c_keyring_Ring_Shreds (I : Hl) (m0 : keyring_Ring) (m1 : guard_Guard) (m2 : disk_Disk) (b0 : Nat) (b1 : Nat) (p0 : Option Addr) (c0 : Nat) (p1 : Nat) (b2 : Nat) (res : Int) (hF : F.keyring_Ring_Shreds m0 m1 m2 = some res) : Tr Tryz.prog 31 [.pointer (some ⟨b0, 0, none⟩)] [imm I, pt b0 #[.pointer (some ⟨b1, 0, none⟩), .int .i64 m0.base_, .int .i64 m0.slots_, .int .i64 m0.shred_] 78, pt b1 #[.pointer (some ⟨b2, 0, none⟩), .int .i64 m1.boot_, .int .i64 m1.n_] 75, pt b2 #[.slice p0 m2.sure_.length c0, .map (some p1), .bool m2.off_, .bool m2.armed_, .int .i64 m2.left_, .int .u64 m2.fall_.Keep, .int .i64 m2.fall_.Tear, .int .i64 m2.acts_, .int .i64 m2.falls_] 52, own e_disk_sector 55 p0 c0 m2.sure_, mpo (kInt .i64) (fun x : disk_sector => Value.agg #[.string x.s_, .int .i64 x.at_]) p1 m2.wait_] (fun r H' => r = .int .i64 res ∧ H' = [imm I, pt b0 #[.pointer (some ⟨b1, 0, none⟩), .int .i64 m0.base_, .int .i64 m0.slots_, .int .i64 m0.shred_] 78, pt b1 #[.pointer (some ⟨b2, 0, none⟩), .int .i64 m1.boot_, .int .i64 m1.n_] 75, pt b2 #[.slice p0 m2.sure_.length c0, .map (some p1), .bool m2.off_, .bool m2.armed_, .int .i64 m2.left_, .int .u64 m2.fall_.Keep, .int .i64 m2.fall_.Tear, .int .i64 m2.acts_, .int .i64 m2.falls_] 52, own e_disk_sector 55 p0 c0 m2.sure_, mpo (kInt .i64) (fun x : disk_sector => Value.agg #[.string x.s_, .int .i64 x.at_]) p1 m2.wait_]) := by
  unfold F.keyring_Ring_Shreds at hF
  refine tr_of_cw (fn := Tryz.f31) Tryz.func31 rfl (Nat.le_of_ble_eq_true rfl) 9 rfl fun F0 w0 => ?_
  refine cw_keep [0] (L' := [(0, .pointer (some ⟨b0, 0, none⟩))]) rfl ?_
  refine cw_state (S' := SAT w0 ([imm I, pt b0 #[.pointer (some ⟨b1, 0, none⟩), .int .i64 m0.base_, .int .i64 m0.slots_, .int .i64 m0.shred_] 78, pt b1 #[.pointer (some ⟨b2, 0, none⟩), .int .i64 m1.boot_, .int .i64 m1.n_] 75, pt b2 #[.slice p0 m2.sure_.length c0, .map (some p1), .bool m2.off_, .bool m2.armed_, .int .i64 m2.left_, .int .u64 m2.fall_.Keep, .int .i64 m2.fall_.Tear, .int .i64 m2.acts_, .int .i64 m2.falls_] 52, own e_disk_sector 55 p0 c0 m2.sure_, mpo (kInt .i64) (fun x : disk_sector => Value.agg #[.string x.s_, .int .i64 x.at_]) p1 m2.wait_] ++ F0)) (fun w hs => hs) ?_
  refine cw_seq ?_
  refine cw_region ?_
  refine ow_vals 1 (j := 1) [0] [(0, .pointer (some ⟨b0, 0, none⟩))] rfl (by kernel_rfl) ?_
  refine ow_end rfl ?_
  refine ew_then ?_
  refine cw_seq ?_
  refine cw_seq ?_
  refine cw_region ?_
  refine ow_vals 2 (j := 2) [0, 4] [(0, .pointer (some ⟨b0, 0, none⟩)), (4, .bool false)] rfl (by kernel_rfl) ?_
  refine ow_end rfl ?_
  refine ew_then ?_
  refine cw_cond_f rfl rfl rfl ?_
  refine cw_skip ?_
  refine ew_then ?_
  refine cw_seq ?_
  refine cw_region ?_
  refine ow_vals 3 (j := 3) [7] [(7, .pointer (some ⟨b0, 3, none⟩))] rfl (by kernel_rfl) ?_
  refine ow_pw rfl (pw_quiet (v := .int .i64 m0.shred_) rfl rfl rfl rfl (q_load 1 rfl rfl rfl (by kernel_rfl)) (nw_ow ?_))
  refine ow_vals 1 (j := 5) [2] [(2, .int .i64 m0.shred_)] rfl (by kernel_rfl) ?_
  refine ow_end rfl ?_
  refine ew_then ?_
  refine cw_ret ?_
  have hR := Option.some.inj hF
  subst hR
  exact fin1 (H1 := [imm I, pt b0 #[.pointer (some ⟨b1, 0, none⟩), .int .i64 m0.base_, .int .i64 m0.slots_, .int .i64 m0.shred_] 78, pt b1 #[.pointer (some ⟨b2, 0, none⟩), .int .i64 m1.boot_, .int .i64 m1.n_] 75, pt b2 #[.slice p0 m2.sure_.length c0, .map (some p1), .bool m2.off_, .bool m2.armed_, .int .i64 m2.left_, .int .u64 m2.fall_.Keep, .int .i64 m2.fall_.Tear, .int .i64 m2.acts_, .int .i64 m2.falls_] 52, own e_disk_sector 55 p0 c0 m2.sure_, mpo (kInt .i64) (fun x : disk_sector => Value.agg #[.string x.s_, .int .i64 x.at_]) p1 m2.wait_]) (fun w hs => sat_to [0, 0, 0, 0, 0, 0] 0 rfl hs) rfl (rr_tmp rfl) ⟨rfl, rfl⟩


def F.law13_stands.l1 (m0 : keyring_Ring) (m1 : guard_Guard) (m2 : disk_Disk) (m3 : law13_plain) (x23 : Int) (x24 : Int) : Option ((Int × Int) ⊕ ((Int) ⊕ (Bool))) :=
  if decide (x24 ≥ 0) then (Option.bind (F.keyring_Ring_Get x24 m0 m1 m2) (fun (r26 : ByteArray × Int) => Option.bind (at_ ([m3.keys_.e0, m3.keys_.e1, m3.keys_.e2, m3.keys_.e3, m3.keys_.e4, m3.keys_.e5, m3.keys_.e6, m3.keys_.e7] : List Int) x24) (fun (y28 : Int) => if y28 == 0 then (if r26.2 != 7 then (some (.inr (.inr (false)))) else (if !(seqB r26.1 (ByteArray.mk #[])) then (some (.inr (.inr (false)))) else (Option.bind (F.keyring_Ring_Free x24 m0 m1 m2) (fun (r33 : Bool) => if !r33 then (some (.inr (.inr (false)))) else (some (.inl (x24, IntKind.i64.wrap (x24 - 1)))))))) else (if r26.2 != 0 then (some (.inr (.inr (false)))) else (Option.bind (at_ ([m3.keys_.e0, m3.keys_.e1, m3.keys_.e2, m3.keys_.e3, m3.keys_.e4, m3.keys_.e5, m3.keys_.e6, m3.keys_.e7] : List Int) x24) (fun (y37 : Int) => Option.bind (F.law13_key (IntKind.u8.wrap (y37))) (fun (r39 : ByteArray) => if !(seqB r26.1 r39) then (some (.inr (.inr (false)))) else (Option.bind (F.keyring_Ring_Free x24 m0 m1 m2) (fun (r42 : Bool) => if r42 then (some (.inr (.inr (false)))) else (some (.inl (x23, IntKind.i64.wrap (x24 - 1))))))))))))) else (some (.inr (.inl x23)))
def F.law13_stands.r2 (m0 : keyring_Ring) (m1 : guard_Guard) (m2 : disk_Disk) (m3 : law13_plain) (x45 : Int) : Option (Bool) :=
  Option.bind (F.keyring_Ring_Find m0 m1 m2) (fun (r46 : Int × Int) => Option.bind (F.keyring_Ring_Slots m0 m1 m2) (fun (r48 : Int) => if r48 == 8 then (Option.bind (F.keyring_Ring_Shreds m0 m1 m2) (fun (r51 : Int) => if r51 == m3.shred_ then (if decide (x45 < 0) then (if r46.1 == 0 then (if r46.2 == 6 then (some (true)) else (if r46.1 == x45 then (some ((r46.2 == 0))) else (some (false)))) else (if r46.1 == x45 then (some ((r46.2 == 0))) else (some (false)))) else (if r46.1 == x45 then (some ((r46.2 == 0))) else (some (false)))) else (some (false)))) else (some (false))))
def F.law13_stands (m0 : keyring_Ring) (m1 : guard_Guard) (m2 : disk_Disk) (m3 : law13_plain) : Option Bool :=
  thru (iter (fun x => F.law13_stands.l1 m0 m1 m2 m3 x.1 x.2) FUEL ((-1), 7)) (fun x => F.law13_stands.r2 m0 m1 m2 m3 x)
set_option maxRecDepth 100000 in
set_option maxHeartbeats 4000000 in
theorem c_law13_stands (I : Hl) (m0 : keyring_Ring) (m1 : guard_Guard) (m2 : disk_Disk) (m3 : law13_plain) (b0 : Nat) (b1 : Nat) (p0 : Option Addr) (c0 : Nat) (p1 : Nat) (b2 : Nat) (b3 : Nat) (res : Bool) (hF : F.law13_stands m0 m1 m2 m3 = some res) : Tr Tryz.prog 14 [.pointer (some ⟨b0, 0, none⟩), .pointer (some ⟨b3, 0, none⟩)] [imm I, pt b0 #[.pointer (some ⟨b1, 0, none⟩), .int .i64 m0.base_, .int .i64 m0.slots_, .int .i64 m0.shred_] 78, pt b1 #[.pointer (some ⟨b2, 0, none⟩), .int .i64 m1.boot_, .int .i64 m1.n_] 75, pt b2 #[.slice p0 m2.sure_.length c0, .map (some p1), .bool m2.off_, .bool m2.armed_, .int .i64 m2.left_, .int .u64 m2.fall_.Keep, .int .i64 m2.fall_.Tear, .int .i64 m2.acts_, .int .i64 m2.falls_] 52, pt b3 #[.int .i64 m3.keys_.e0, .int .i64 m3.keys_.e1, .int .i64 m3.keys_.e2, .int .i64 m3.keys_.e3, .int .i64 m3.keys_.e4, .int .i64 m3.keys_.e5, .int .i64 m3.keys_.e6, .int .i64 m3.keys_.e7, .int .i64 m3.boot_, .int .i64 m3.shred_] 30, own e_disk_sector 55 p0 c0 m2.sure_, mpo (kInt .i64) (fun x : disk_sector => Value.agg #[.string x.s_, .int .i64 x.at_]) p1 m2.wait_] (fun r H' => r = .bool res ∧ H' = [imm I, pt b0 #[.pointer (some ⟨b1, 0, none⟩), .int .i64 m0.base_, .int .i64 m0.slots_, .int .i64 m0.shred_] 78, pt b1 #[.pointer (some ⟨b2, 0, none⟩), .int .i64 m1.boot_, .int .i64 m1.n_] 75, pt b2 #[.slice p0 m2.sure_.length c0, .map (some p1), .bool m2.off_, .bool m2.armed_, .int .i64 m2.left_, .int .u64 m2.fall_.Keep, .int .i64 m2.fall_.Tear, .int .i64 m2.acts_, .int .i64 m2.falls_] 52, pt b3 #[.int .i64 m3.keys_.e0, .int .i64 m3.keys_.e1, .int .i64 m3.keys_.e2, .int .i64 m3.keys_.e3, .int .i64 m3.keys_.e4, .int .i64 m3.keys_.e5, .int .i64 m3.keys_.e6, .int .i64 m3.keys_.e7, .int .i64 m3.boot_, .int .i64 m3.shred_] 30, own e_disk_sector 55 p0 c0 m2.sure_, mpo (kInt .i64) (fun x : disk_sector => Value.agg #[.string x.s_, .int .i64 x.at_]) p1 m2.wait_]) := by
  unfold F.law13_stands at hF
  refine tr_of_cw (fn := Tryz.f14) Tryz.func14 rfl (Nat.le_of_ble_eq_true rfl) 98 rfl fun F0 w0 => ?_
  refine cw_keep [0, 1] (L' := [(0, .pointer (some ⟨b0, 0, none⟩)), (1, .pointer (some ⟨b3, 0, none⟩))]) rfl ?_
  refine cw_state (S' := SAT w0 ([imm I, pt b0 #[.pointer (some ⟨b1, 0, none⟩), .int .i64 m0.base_, .int .i64 m0.slots_, .int .i64 m0.shred_] 78, pt b1 #[.pointer (some ⟨b2, 0, none⟩), .int .i64 m1.boot_, .int .i64 m1.n_] 75, pt b2 #[.slice p0 m2.sure_.length c0, .map (some p1), .bool m2.off_, .bool m2.armed_, .int .i64 m2.left_, .int .u64 m2.fall_.Keep, .int .i64 m2.fall_.Tear, .int .i64 m2.acts_, .int .i64 m2.falls_] 52, pt b3 #[.int .i64 m3.keys_.e0, .int .i64 m3.keys_.e1, .int .i64 m3.keys_.e2, .int .i64 m3.keys_.e3, .int .i64 m3.keys_.e4, .int .i64 m3.keys_.e5, .int .i64 m3.keys_.e6, .int .i64 m3.keys_.e7, .int .i64 m3.boot_, .int .i64 m3.shred_] 30, own e_disk_sector 55 p0 c0 m2.sure_, mpo (kInt .i64) (fun x : disk_sector => Value.agg #[.string x.s_, .int .i64 x.at_]) p1 m2.wait_] ++ F0)) (fun w hs => hs) ?_
  refine cw_seq ?_
  refine cw_region ?_
  refine ow_vals 1 (j := 1) [0, 1] [(0, .pointer (some ⟨b0, 0, none⟩)), (1, .pointer (some ⟨b3, 0, none⟩))] rfl (by kernel_rfl) ?_
  refine ow_end rfl ?_
  refine ew_then ?_
  refine cw_seq ?_
  refine cw_region ?_
  refine ow_vals 1 (j := 1) [0, 1, 5] [(0, .pointer (some ⟨b0, 0, none⟩)), (1, .pointer (some ⟨b3, 0, none⟩)), (5, .int .i64 (-1))] rfl (by kernel_rfl) ?_
  refine ow_end rfl ?_
  refine ew_then ?_
  obtain ⟨v21, hF, hK21⟩ := thru_some hF
  refine cw_mid (fun a w => ∃ (x45 : Int), .inl x45 = v21 ∧ Fr 98 [(0, .pointer (some ⟨b0, 0, none⟩)), (1, .pointer (some ⟨b3, 0, none⟩)), (5, .int .i64 x45)] a ∧ SAT w0 ([imm I, pt b0 #[.pointer (some ⟨b1, 0, none⟩), .int .i64 m0.base_, .int .i64 m0.slots_, .int .i64 m0.shred_] 78, pt b1 #[.pointer (some ⟨b2, 0, none⟩), .int .i64 m1.boot_, .int .i64 m1.n_] 75, pt b2 #[.slice p0 m2.sure_.length c0, .map (some p1), .bool m2.off_, .bool m2.armed_, .int .i64 m2.left_, .int .u64 m2.fall_.Keep, .int .i64 m2.fall_.Tear, .int .i64 m2.acts_, .int .i64 m2.falls_] 52, pt b3 #[.int .i64 m3.keys_.e0, .int .i64 m3.keys_.e1, .int .i64 m3.keys_.e2, .int .i64 m3.keys_.e3, .int .i64 m3.keys_.e4, .int .i64 m3.keys_.e5, .int .i64 m3.keys_.e6, .int .i64 m3.keys_.e7, .int .i64 m3.boot_, .int .i64 m3.shred_] 30, own e_disk_sector 55 p0 c0 m2.sure_, mpo (kInt .i64) (fun x : disk_sector => Value.agg #[.string x.s_, .int .i64 x.at_]) p1 m2.wait_] ++ F0) w) ?_ ?_
  · refine cw_seq ?_
    refine cw_region ?_
    refine ow_vals 1 (j := 1) [0, 1, 5, 6] [(0, .pointer (some ⟨b0, 0, none⟩)), (1, .pointer (some ⟨b3, 0, none⟩)), (5, .int .i64 (-1)), (6, .int .i64 7)] rfl (by kernel_rfl) ?_
    refine ow_end rfl ?_
    refine ew_then ?_
    refine cw_block ?_
    refine fun a w hf hs => wp_rounds (fun k a w => ∃ (x23 : Int), ∃ (x24 : Int), iter (fun x => F.law13_stands.l1 m0 m1 m2 m3 x.1 x.2) k (x23, x24) = some v21 ∧ Fr 98 [(0, .pointer (some ⟨b0, 0, none⟩)), (1, .pointer (some ⟨b3, 0, none⟩)), (5, .int .i64 x23), (6, .int .i64 x24)] a ∧ SAT w0 ([imm I, pt b0 #[.pointer (some ⟨b1, 0, none⟩), .int .i64 m0.base_, .int .i64 m0.slots_, .int .i64 m0.shred_] 78, pt b1 #[.pointer (some ⟨b2, 0, none⟩), .int .i64 m1.boot_, .int .i64 m1.n_] 75, pt b2 #[.slice p0 m2.sure_.length c0, .map (some p1), .bool m2.off_, .bool m2.armed_, .int .i64 m2.left_, .int .u64 m2.fall_.Keep, .int .i64 m2.fall_.Tear, .int .i64 m2.acts_, .int .i64 m2.falls_] 52, pt b3 #[.int .i64 m3.keys_.e0, .int .i64 m3.keys_.e1, .int .i64 m3.keys_.e2, .int .i64 m3.keys_.e3, .int .i64 m3.keys_.e4, .int .i64 m3.keys_.e5, .int .i64 m3.keys_.e6, .int .i64 m3.keys_.e7, .int .i64 m3.boot_, .int .i64 m3.shred_] 30, own e_disk_sector 55 p0 c0 m2.sure_, mpo (kInt .i64) (fun x : disk_sector => Value.agg #[.string x.s_, .int .i64 x.at_]) p1 m2.wait_] ++ F0) w) ?_ FUEL a w ⟨(-1), 7, hF, hf.keep [0, 1, 5, 6], sat_to [0, 0, 0, 0, 0, 0, 0] 0 rfl hs⟩
    clear hf hs
    clear a w hF
    rintro k a w ⟨x23, x24, hF2, hf, hs⟩
    obtain ⟨k, r22, rfl, hF, hL22⟩ := iter_some hF2
    clear hF2
    revert a w
    show CW _ _ _ 98 [(0, .pointer (some ⟨b0, 0, none⟩)), (1, .pointer (some ⟨b3, 0, none⟩)), (5, .int .i64 x23), (6, .int .i64 x24)] (SAT w0 ([imm I, pt b0 #[.pointer (some ⟨b1, 0, none⟩), .int .i64 m0.base_, .int .i64 m0.slots_, .int .i64 m0.shred_] 78, pt b1 #[.pointer (some ⟨b2, 0, none⟩), .int .i64 m1.boot_, .int .i64 m1.n_] 75, pt b2 #[.slice p0 m2.sure_.length c0, .map (some p1), .bool m2.off_, .bool m2.armed_, .int .i64 m2.left_, .int .u64 m2.fall_.Keep, .int .i64 m2.fall_.Tear, .int .i64 m2.acts_, .int .i64 m2.falls_] 52, pt b3 #[.int .i64 m3.keys_.e0, .int .i64 m3.keys_.e1, .int .i64 m3.keys_.e2, .int .i64 m3.keys_.e3, .int .i64 m3.keys_.e4, .int .i64 m3.keys_.e5, .int .i64 m3.keys_.e6, .int .i64 m3.keys_.e7, .int .i64 m3.boot_, .int .i64 m3.shred_] 30, own e_disk_sector 55 p0 c0 m2.sure_, mpo (kInt .i64) (fun x : disk_sector => Value.agg #[.string x.s_, .int .i64 x.at_]) p1 m2.wait_] ++ F0))
    try dsimp only at hF
    unfold F.law13_stands.l1 at hF
    refine cw_seq ?_
    refine cw_seq ?_
    refine cw_region ?_
    refine ow_vals 2 (j := 2) [0, 1, 5, 6, 12] [(0, .pointer (some ⟨b0, 0, none⟩)), (1, .pointer (some ⟨b3, 0, none⟩)), (5, .int .i64 x23), (6, .int .i64 x24), (12, .bool (decide (x24 ≥ 0)))] rfl (by kernel_rfl) ?_
    refine ow_end rfl ?_
    refine ew_then ?_
    rcases if_some hF with ⟨h25, hF⟩ | ⟨h25, hF⟩
    · refine cw_cond_t rfl rfl h25 ?_
      refine cw_skip ?_
      refine ew_then ?_
      refine cw_seq ?_
      refine cw_block ?_
      refine cw_seq ?_
      refine cw_region ?_
      refine ow_vals 2 (j := 2) [0, 1, 5, 6, 16, 17] [(0, .pointer (some ⟨b0, 0, none⟩)), (1, .pointer (some ⟨b3, 0, none⟩)), (5, .int .i64 x23), (6, .int .i64 x24), (16, .pointer (some ⟨b0, 0, none⟩)), (17, .int .i64 x24)] rfl (by kernel_rfl) ?_
      obtain ⟨r26, h27, hF⟩ := bind_some hF
      refine ow_pw rfl (pw_call (F := [pt b3 #[.int .i64 m3.keys_.e0, .int .i64 m3.keys_.e1, .int .i64 m3.keys_.e2, .int .i64 m3.keys_.e3, .int .i64 m3.keys_.e4, .int .i64 m3.keys_.e5, .int .i64 m3.keys_.e6, .int .i64 m3.keys_.e7, .int .i64 m3.boot_, .int .i64 m3.shred_] 30] ++ F0) rfl rfl rfl rfl rfl rfl rfl (by kernel_rfl) (perm_of_pulls [0, 0, 0, 0, 1, 1] rfl) (c_keyring_Ring_Get _ x24 m0 m1 m2 b0 b1 p0 c0 p1 b2 r26 h27) ?_)
      rintro _ _ ⟨rfl, rfl⟩
      refine nw_H (H' := [imm I, pt b0 #[.pointer (some ⟨b1, 0, none⟩), .int .i64 m0.base_, .int .i64 m0.slots_, .int .i64 m0.shred_] 78, pt b1 #[.pointer (some ⟨b2, 0, none⟩), .int .i64 m1.boot_, .int .i64 m1.n_] 75, pt b2 #[.slice p0 m2.sure_.length c0, .map (some p1), .bool m2.off_, .bool m2.armed_, .int .i64 m2.left_, .int .u64 m2.fall_.Keep, .int .i64 m2.fall_.Tear, .int .i64 m2.acts_, .int .i64 m2.falls_] 52, own e_disk_sector 55 p0 c0 m2.sure_, mpo (kInt .i64) (fun x : disk_sector => Value.agg #[.string x.s_, .int .i64 x.at_]) p1 m2.wait_, pt b3 #[.int .i64 m3.keys_.e0, .int .i64 m3.keys_.e1, .int .i64 m3.keys_.e2, .int .i64 m3.keys_.e3, .int .i64 m3.keys_.e4, .int .i64 m3.keys_.e5, .int .i64 m3.keys_.e6, .int .i64 m3.keys_.e7, .int .i64 m3.boot_, .int .i64 m3.shred_] 30] ++ F0) rfl (nw_ow ?_)
      refine ow_vals 5 (j := 8) [0, 1, 5, 6, 7, 8] [(0, .pointer (some ⟨b0, 0, none⟩)), (1, .pointer (some ⟨b3, 0, none⟩)), (5, .int .i64 x23), (6, .int .i64 x24), (7, .string r26.1), (8, .int .i64 r26.2)] rfl (by kernel_rfl) ?_
      refine ow_end rfl ?_
      refine ew_then ?_
      refine cw_seq ?_
      refine cw_region ?_
      refine ow_vals 4 (j := 4) [0, 1, 5, 6, 7, 8, 22, 24] [(0, .pointer (some ⟨b0, 0, none⟩)), (1, .pointer (some ⟨b3, 0, none⟩)), (5, .int .i64 x23), (6, .int .i64 x24), (7, .string r26.1), (8, .int .i64 r26.2), (22, .int .i64 x24), (24, .pointer (some ⟨b3, 0, none⟩))] rfl (by kernel_rfl) ?_
      obtain ⟨y28, h29, hF⟩ := bind_some hF
      refine ow_pw rfl (pw_quiet (v := .pointer (some ((⟨b3, 0, none⟩ : Addr).add (x24.toNat * 1)))) rfl rfl rfl rfl (q_index_objel (l := ([m3.keys_.e0, m3.keys_.e1, m3.keys_.e2, m3.keys_.e3, m3.keys_.e4, m3.keys_.e5, m3.keys_.e6, m3.keys_.e7] : List Int)) (m := 8) (E := 3) (sz := 1) (tot := 8) rfl (by kernel_rfl) rfl rfl rfl h29) (nw_ow ?_))
      refine ow_pw rfl (pw_quiet (v := .int .i64 y28) rfl rfl rfl rfl (q_load_objel (e := (eInt .i64)) (l := ([m3.keys_.e0, m3.keys_.e1, m3.keys_.e2, m3.keys_.e3, m3.keys_.e4, m3.keys_.e5, m3.keys_.e6, m3.keys_.e7] : List Int)) 6 ([] : List Go.Value) ([.int .i64 m3.boot_, .int .i64 m3.shred_] : List Go.Value) rfl rfl rfl rfl rfl (by kernel_rfl) rfl h29 rfl) (nw_ow ?_))
      refine ow_vals 1 (j := 7) [0, 1, 5, 6, 7, 8, 27] [(0, .pointer (some ⟨b0, 0, none⟩)), (1, .pointer (some ⟨b3, 0, none⟩)), (5, .int .i64 x23), (6, .int .i64 x24), (7, .string r26.1), (8, .int .i64 r26.2), (27, .bool (y28 == 0))] rfl (by kernel_rfl) ?_
      refine ow_end rfl ?_
      refine ew_then ?_
      rcases if_some hF with ⟨h30, hF⟩ | ⟨h30, hF⟩
      · refine cw_cond_t rfl rfl h30 ?_
        refine cw_seq ?_
        refine cw_region ?_
        refine ow_vals 2 (j := 2) [0, 1, 5, 6, 7, 8] [(0, .pointer (some ⟨b0, 0, none⟩)), (1, .pointer (some ⟨b3, 0, none⟩)), (5, .int .i64 x24), (6, .int .i64 x24), (7, .string r26.1), (8, .int .i64 r26.2)] rfl (by kernel_rfl) ?_
        refine ow_end rfl ?_
        refine ew_then ?_
        refine cw_seq ?_
        refine cw_region ?_
        refine ow_vals 3 (j := 3) [0, 1, 5, 6, 7, 31] [(0, .pointer (some ⟨b0, 0, none⟩)), (1, .pointer (some ⟨b3, 0, none⟩)), (5, .int .i64 x24), (6, .int .i64 x24), (7, .string r26.1), (31, .bool (r26.2 != 7))] rfl (by kernel_rfl) ?_
        rcases if_some hF with ⟨h31, hF⟩ | ⟨h31, hF⟩
        · refine ow_slots (L' := [(0, .pointer (some ⟨b0, 0, none⟩)), (1, .pointer (some ⟨b3, 0, none⟩)), (5, .int .i64 x24), (6, .int .i64 x24), (7, .string r26.1), (31, .bool true)]) (by rw [h31]) ?_
          refine ow_vals 9 (j := 12) [0, 1, 5, 6, 40] [(0, .pointer (some ⟨b0, 0, none⟩)), (1, .pointer (some ⟨b3, 0, none⟩)), (5, .int .i64 x24), (6, .int .i64 x24), (40, .bool true)] rfl (by kernel_rfl) ?_
          refine ow_end rfl ?_
          refine ew_then ?_
          refine cw_cond_t rfl rfl rfl ?_
          refine cw_seq ?_
          refine cw_region ?_
          refine ow_vals 1 (j := 1) [4] [(4, .bool false)] rfl (by kernel_rfl) ?_
          refine ow_end rfl ?_
          refine ew_then ?_
          refine cw_ret ?_
          refine ew_blk_ret ?_
          refine ew_then_ret ?_
          refine ew_then_ret ?_
          refine ew_blk_ret ?_
          refine ew_then_ret ?_
          have hR := Option.some.inj hF
          subst hR
          have hR := hL22
          try dsimp only at hR
          subst hR
          have hR := hK21
          try dsimp only [Thru] at hR
          subst hR
          exact fin1 (H1 := [imm I, pt b0 #[.pointer (some ⟨b1, 0, none⟩), .int .i64 m0.base_, .int .i64 m0.slots_, .int .i64 m0.shred_] 78, pt b1 #[.pointer (some ⟨b2, 0, none⟩), .int .i64 m1.boot_, .int .i64 m1.n_] 75, pt b2 #[.slice p0 m2.sure_.length c0, .map (some p1), .bool m2.off_, .bool m2.armed_, .int .i64 m2.left_, .int .u64 m2.fall_.Keep, .int .i64 m2.fall_.Tear, .int .i64 m2.acts_, .int .i64 m2.falls_] 52, pt b3 #[.int .i64 m3.keys_.e0, .int .i64 m3.keys_.e1, .int .i64 m3.keys_.e2, .int .i64 m3.keys_.e3, .int .i64 m3.keys_.e4, .int .i64 m3.keys_.e5, .int .i64 m3.keys_.e6, .int .i64 m3.keys_.e7, .int .i64 m3.boot_, .int .i64 m3.shred_] 30, own e_disk_sector 55 p0 c0 m2.sure_, mpo (kInt .i64) (fun x : disk_sector => Value.agg #[.string x.s_, .int .i64 x.at_]) p1 m2.wait_]) (fun w hs => sat_to [0, 0, 0, 0, 2, 0, 0] 0 rfl hs) rfl (rr_tmp rfl) ⟨rfl, rfl⟩
        refine ow_slots (L' := [(0, .pointer (some ⟨b0, 0, none⟩)), (1, .pointer (some ⟨b3, 0, none⟩)), (5, .int .i64 x24), (6, .int .i64 x24), (7, .string r26.1), (31, .bool false)]) (by rw [h31]) ?_
        refine ow_vals 4 (j := 7) [0, 1, 5, 6, 35] [(0, .pointer (some ⟨b0, 0, none⟩)), (1, .pointer (some ⟨b3, 0, none⟩)), (5, .int .i64 x24), (6, .int .i64 x24), (35, .bool (!(seqB r26.1 (ByteArray.mk #[]))))] rfl (by kernel_rfl) ?_
        rcases if_some hF with ⟨h32, hF⟩ | ⟨h32, hF⟩
        · refine ow_slots (L' := [(0, .pointer (some ⟨b0, 0, none⟩)), (1, .pointer (some ⟨b3, 0, none⟩)), (5, .int .i64 x24), (6, .int .i64 x24), (35, .bool true)]) (by rw [h32]) ?_
          refine ow_vals 5 (j := 12) [0, 1, 5, 6, 40] [(0, .pointer (some ⟨b0, 0, none⟩)), (1, .pointer (some ⟨b3, 0, none⟩)), (5, .int .i64 x24), (6, .int .i64 x24), (40, .bool true)] rfl (by kernel_rfl) ?_
          refine ow_end rfl ?_
          refine ew_then ?_
          refine cw_cond_t rfl rfl rfl ?_
          refine cw_seq ?_
          refine cw_region ?_
          refine ow_vals 1 (j := 1) [4] [(4, .bool false)] rfl (by kernel_rfl) ?_
          refine ow_end rfl ?_
          refine ew_then ?_
          refine cw_ret ?_
          refine ew_blk_ret ?_
          refine ew_then_ret ?_
          refine ew_then_ret ?_
          refine ew_blk_ret ?_
          refine ew_then_ret ?_
          have hR := Option.some.inj hF
          subst hR
          have hR := hL22
          try dsimp only at hR
          subst hR
          have hR := hK21
          try dsimp only [Thru] at hR
          subst hR
          exact fin1 (H1 := [imm I, pt b0 #[.pointer (some ⟨b1, 0, none⟩), .int .i64 m0.base_, .int .i64 m0.slots_, .int .i64 m0.shred_] 78, pt b1 #[.pointer (some ⟨b2, 0, none⟩), .int .i64 m1.boot_, .int .i64 m1.n_] 75, pt b2 #[.slice p0 m2.sure_.length c0, .map (some p1), .bool m2.off_, .bool m2.armed_, .int .i64 m2.left_, .int .u64 m2.fall_.Keep, .int .i64 m2.fall_.Tear, .int .i64 m2.acts_, .int .i64 m2.falls_] 52, pt b3 #[.int .i64 m3.keys_.e0, .int .i64 m3.keys_.e1, .int .i64 m3.keys_.e2, .int .i64 m3.keys_.e3, .int .i64 m3.keys_.e4, .int .i64 m3.keys_.e5, .int .i64 m3.keys_.e6, .int .i64 m3.keys_.e7, .int .i64 m3.boot_, .int .i64 m3.shred_] 30, own e_disk_sector 55 p0 c0 m2.sure_, mpo (kInt .i64) (fun x : disk_sector => Value.agg #[.string x.s_, .int .i64 x.at_]) p1 m2.wait_]) (fun w hs => sat_to [0, 0, 0, 0, 2, 0, 0] 0 rfl hs) rfl (rr_tmp rfl) ⟨rfl, rfl⟩
        refine ow_slots (L' := [(0, .pointer (some ⟨b0, 0, none⟩)), (1, .pointer (some ⟨b3, 0, none⟩)), (5, .int .i64 x24), (6, .int .i64 x24), (35, .bool false)]) (by rw [h32]) ?_
        refine ow_vals 2 (j := 9) [0, 1, 5, 6, 35, 36, 37] [(0, .pointer (some ⟨b0, 0, none⟩)), (1, .pointer (some ⟨b3, 0, none⟩)), (5, .int .i64 x24), (6, .int .i64 x24), (35, .bool false), (36, .pointer (some ⟨b0, 0, none⟩)), (37, .int .i64 x24)] rfl (by kernel_rfl) ?_
        obtain ⟨r33, h34, hF⟩ := bind_some hF
        refine ow_pw rfl (pw_call (F := [pt b3 #[.int .i64 m3.keys_.e0, .int .i64 m3.keys_.e1, .int .i64 m3.keys_.e2, .int .i64 m3.keys_.e3, .int .i64 m3.keys_.e4, .int .i64 m3.keys_.e5, .int .i64 m3.keys_.e6, .int .i64 m3.keys_.e7, .int .i64 m3.boot_, .int .i64 m3.shred_] 30] ++ F0) rfl rfl rfl rfl rfl rfl rfl (by kernel_rfl) (perm_of_pulls [0, 0, 0, 0, 0, 0] rfl) (c_keyring_Ring_Free _ x24 m0 m1 m2 b0 b1 p0 c0 p1 b2 r33 h34) ?_)
        rintro _ _ ⟨rfl, rfl⟩
        refine nw_H (H' := [imm I, pt b0 #[.pointer (some ⟨b1, 0, none⟩), .int .i64 m0.base_, .int .i64 m0.slots_, .int .i64 m0.shred_] 78, pt b1 #[.pointer (some ⟨b2, 0, none⟩), .int .i64 m1.boot_, .int .i64 m1.n_] 75, pt b2 #[.slice p0 m2.sure_.length c0, .map (some p1), .bool m2.off_, .bool m2.armed_, .int .i64 m2.left_, .int .u64 m2.fall_.Keep, .int .i64 m2.fall_.Tear, .int .i64 m2.acts_, .int .i64 m2.falls_] 52, own e_disk_sector 55 p0 c0 m2.sure_, mpo (kInt .i64) (fun x : disk_sector => Value.agg #[.string x.s_, .int .i64 x.at_]) p1 m2.wait_, pt b3 #[.int .i64 m3.keys_.e0, .int .i64 m3.keys_.e1, .int .i64 m3.keys_.e2, .int .i64 m3.keys_.e3, .int .i64 m3.keys_.e4, .int .i64 m3.keys_.e5, .int .i64 m3.keys_.e6, .int .i64 m3.keys_.e7, .int .i64 m3.boot_, .int .i64 m3.shred_] 30] ++ F0) rfl (nw_ow ?_)
        refine ow_vals 2 (j := 12) [0, 1, 5, 6, 40] [(0, .pointer (some ⟨b0, 0, none⟩)), (1, .pointer (some ⟨b3, 0, none⟩)), (5, .int .i64 x24), (6, .int .i64 x24), (40, .bool (!r33))] rfl (by kernel_rfl) ?_
        refine ow_end rfl ?_
        refine ew_then ?_
        rcases if_some hF with ⟨h35, hF⟩ | ⟨h35, hF⟩
        · refine cw_cond_t rfl rfl h35 ?_
          refine cw_seq ?_
          refine cw_region ?_
          refine ow_vals 1 (j := 1) [4] [(4, .bool false)] rfl (by kernel_rfl) ?_
          refine ow_end rfl ?_
          refine ew_then ?_
          refine cw_ret ?_
          refine ew_blk_ret ?_
          refine ew_then_ret ?_
          refine ew_then_ret ?_
          refine ew_blk_ret ?_
          refine ew_then_ret ?_
          have hR := Option.some.inj hF
          subst hR
          have hR := hL22
          try dsimp only at hR
          subst hR
          have hR := hK21
          try dsimp only [Thru] at hR
          subst hR
          exact fin1 (H1 := [imm I, pt b0 #[.pointer (some ⟨b1, 0, none⟩), .int .i64 m0.base_, .int .i64 m0.slots_, .int .i64 m0.shred_] 78, pt b1 #[.pointer (some ⟨b2, 0, none⟩), .int .i64 m1.boot_, .int .i64 m1.n_] 75, pt b2 #[.slice p0 m2.sure_.length c0, .map (some p1), .bool m2.off_, .bool m2.armed_, .int .i64 m2.left_, .int .u64 m2.fall_.Keep, .int .i64 m2.fall_.Tear, .int .i64 m2.acts_, .int .i64 m2.falls_] 52, pt b3 #[.int .i64 m3.keys_.e0, .int .i64 m3.keys_.e1, .int .i64 m3.keys_.e2, .int .i64 m3.keys_.e3, .int .i64 m3.keys_.e4, .int .i64 m3.keys_.e5, .int .i64 m3.keys_.e6, .int .i64 m3.keys_.e7, .int .i64 m3.boot_, .int .i64 m3.shred_] 30, own e_disk_sector 55 p0 c0 m2.sure_, mpo (kInt .i64) (fun x : disk_sector => Value.agg #[.string x.s_, .int .i64 x.at_]) p1 m2.wait_]) (fun w hs => sat_to [0, 0, 0, 0, 2, 0, 0] 0 rfl hs) rfl (rr_tmp rfl) ⟨rfl, rfl⟩
        refine cw_cond_f rfl rfl h35 ?_
        refine cw_skip ?_
        refine ew_blk ?_
        refine ew_then ?_
        refine cw_region ?_
        refine ow_vals 3 (j := 3) [0, 1, 5, 6] [(0, .pointer (some ⟨b0, 0, none⟩)), (1, .pointer (some ⟨b3, 0, none⟩)), (5, .int .i64 x24), (6, .int .i64 (IntKind.i64.wrap (x24 - 1)))] rfl (by kernel_rfl) ?_
        refine ow_end rfl ?_
        have hR := Option.some.inj hF
        subst hR
        have hR := hL22
        try dsimp only at hR
        exact fun a w hf hs => ⟨k, Nat.lt_succ_self k, x24, IntKind.i64.wrap (x24 - 1), hR, hf.keep [0, 1, 5, 6], sat_to [0, 0, 0, 0, 2, 0, 0] 0 rfl hs⟩
      refine cw_cond_f rfl rfl h30 ?_
      refine cw_seq ?_
      refine cw_region ?_
      refine ow_vals 3 (j := 3) [0, 1, 5, 6, 7, 43] [(0, .pointer (some ⟨b0, 0, none⟩)), (1, .pointer (some ⟨b3, 0, none⟩)), (5, .int .i64 x23), (6, .int .i64 x24), (7, .string r26.1), (43, .bool (r26.2 != 0))] rfl (by kernel_rfl) ?_
      rcases if_some hF with ⟨h36, hF⟩ | ⟨h36, hF⟩
      · refine ow_slots (L' := [(0, .pointer (some ⟨b0, 0, none⟩)), (1, .pointer (some ⟨b3, 0, none⟩)), (5, .int .i64 x23), (6, .int .i64 x24), (7, .string r26.1), (43, .bool true)]) (by rw [h36]) ?_
        refine ow_vals 16 (j := 19) [0, 1, 5, 6, 59] [(0, .pointer (some ⟨b0, 0, none⟩)), (1, .pointer (some ⟨b3, 0, none⟩)), (5, .int .i64 x23), (6, .int .i64 x24), (59, .bool true)] rfl (by kernel_rfl) ?_
        refine ow_end rfl ?_
        refine ew_then ?_
        refine cw_cond_t rfl rfl rfl ?_
        refine cw_seq ?_
        refine cw_region ?_
        refine ow_vals 1 (j := 1) [4] [(4, .bool false)] rfl (by kernel_rfl) ?_
        refine ow_end rfl ?_
        refine ew_then ?_
        refine cw_ret ?_
        refine ew_blk_ret ?_
        refine ew_then_ret ?_
        refine ew_then_ret ?_
        refine ew_blk_ret ?_
        refine ew_then_ret ?_
        have hR := Option.some.inj hF
        subst hR
        have hR := hL22
        try dsimp only at hR
        subst hR
        have hR := hK21
        try dsimp only [Thru] at hR
        subst hR
        exact fin1 (H1 := [imm I, pt b0 #[.pointer (some ⟨b1, 0, none⟩), .int .i64 m0.base_, .int .i64 m0.slots_, .int .i64 m0.shred_] 78, pt b1 #[.pointer (some ⟨b2, 0, none⟩), .int .i64 m1.boot_, .int .i64 m1.n_] 75, pt b2 #[.slice p0 m2.sure_.length c0, .map (some p1), .bool m2.off_, .bool m2.armed_, .int .i64 m2.left_, .int .u64 m2.fall_.Keep, .int .i64 m2.fall_.Tear, .int .i64 m2.acts_, .int .i64 m2.falls_] 52, pt b3 #[.int .i64 m3.keys_.e0, .int .i64 m3.keys_.e1, .int .i64 m3.keys_.e2, .int .i64 m3.keys_.e3, .int .i64 m3.keys_.e4, .int .i64 m3.keys_.e5, .int .i64 m3.keys_.e6, .int .i64 m3.keys_.e7, .int .i64 m3.boot_, .int .i64 m3.shred_] 30, own e_disk_sector 55 p0 c0 m2.sure_, mpo (kInt .i64) (fun x : disk_sector => Value.agg #[.string x.s_, .int .i64 x.at_]) p1 m2.wait_]) (fun w hs => sat_to [0, 0, 0, 0, 2, 0, 0] 0 rfl hs) rfl (rr_tmp rfl) ⟨rfl, rfl⟩
      refine ow_slots (L' := [(0, .pointer (some ⟨b0, 0, none⟩)), (1, .pointer (some ⟨b3, 0, none⟩)), (5, .int .i64 x23), (6, .int .i64 x24), (7, .string r26.1), (43, .bool false)]) (by rw [h36]) ?_
      refine ow_vals 5 (j := 8) [0, 1, 5, 6, 43, 44, 46, 48] [(0, .pointer (some ⟨b0, 0, none⟩)), (1, .pointer (some ⟨b3, 0, none⟩)), (5, .int .i64 x23), (6, .int .i64 x24), (43, .bool false), (44, .string r26.1), (46, .int .i64 x24), (48, .pointer (some ⟨b3, 0, none⟩))] rfl (by kernel_rfl) ?_
      obtain ⟨y37, h38, hF⟩ := bind_some hF
      refine ow_pw rfl (pw_quiet (v := .pointer (some ((⟨b3, 0, none⟩ : Addr).add (x24.toNat * 1)))) rfl rfl rfl rfl (q_index_objel (l := ([m3.keys_.e0, m3.keys_.e1, m3.keys_.e2, m3.keys_.e3, m3.keys_.e4, m3.keys_.e5, m3.keys_.e6, m3.keys_.e7] : List Int)) (m := 8) (E := 3) (sz := 1) (tot := 8) rfl (by kernel_rfl) rfl rfl rfl h38) (nw_ow ?_))
      refine ow_pw rfl (pw_quiet (v := .int .i64 y37) rfl rfl rfl rfl (q_load_objel (e := (eInt .i64)) (l := ([m3.keys_.e0, m3.keys_.e1, m3.keys_.e2, m3.keys_.e3, m3.keys_.e4, m3.keys_.e5, m3.keys_.e6, m3.keys_.e7] : List Int)) 6 ([] : List Go.Value) ([.int .i64 m3.boot_, .int .i64 m3.shred_] : List Go.Value) rfl rfl rfl rfl rfl (by kernel_rfl) rfl h38 rfl) (nw_ow ?_))
      refine ow_vals 1 (j := 11) [0, 1, 5, 6, 43, 44, 51] [(0, .pointer (some ⟨b0, 0, none⟩)), (1, .pointer (some ⟨b3, 0, none⟩)), (5, .int .i64 x23), (6, .int .i64 x24), (43, .bool false), (44, .string r26.1), (51, .int .u8 (IntKind.u8.wrap (y37)))] rfl (by kernel_rfl) ?_
      obtain ⟨r39, h40, hF⟩ := bind_some hF
      refine ow_pw rfl (pw_call (F := [pt b0 #[.pointer (some ⟨b1, 0, none⟩), .int .i64 m0.base_, .int .i64 m0.slots_, .int .i64 m0.shred_] 78, pt b1 #[.pointer (some ⟨b2, 0, none⟩), .int .i64 m1.boot_, .int .i64 m1.n_] 75, pt b2 #[.slice p0 m2.sure_.length c0, .map (some p1), .bool m2.off_, .bool m2.armed_, .int .i64 m2.left_, .int .u64 m2.fall_.Keep, .int .i64 m2.fall_.Tear, .int .i64 m2.acts_, .int .i64 m2.falls_] 52, own e_disk_sector 55 p0 c0 m2.sure_, mpo (kInt .i64) (fun x : disk_sector => Value.agg #[.string x.s_, .int .i64 x.at_]) p1 m2.wait_, pt b3 #[.int .i64 m3.keys_.e0, .int .i64 m3.keys_.e1, .int .i64 m3.keys_.e2, .int .i64 m3.keys_.e3, .int .i64 m3.keys_.e4, .int .i64 m3.keys_.e5, .int .i64 m3.keys_.e6, .int .i64 m3.keys_.e7, .int .i64 m3.boot_, .int .i64 m3.shred_] 30] ++ F0) rfl rfl rfl rfl rfl rfl rfl (by kernel_rfl) (perm_of_pulls [0] rfl) (c_law13_key _ (IntKind.u8.wrap (y37)) r39 h40) ?_)
      rintro _ _ ⟨rfl, rfl⟩
      refine nw_H (H' := [imm I, pt b0 #[.pointer (some ⟨b1, 0, none⟩), .int .i64 m0.base_, .int .i64 m0.slots_, .int .i64 m0.shred_] 78, pt b1 #[.pointer (some ⟨b2, 0, none⟩), .int .i64 m1.boot_, .int .i64 m1.n_] 75, pt b2 #[.slice p0 m2.sure_.length c0, .map (some p1), .bool m2.off_, .bool m2.armed_, .int .i64 m2.left_, .int .u64 m2.fall_.Keep, .int .i64 m2.fall_.Tear, .int .i64 m2.acts_, .int .i64 m2.falls_] 52, own e_disk_sector 55 p0 c0 m2.sure_, mpo (kInt .i64) (fun x : disk_sector => Value.agg #[.string x.s_, .int .i64 x.at_]) p1 m2.wait_, pt b3 #[.int .i64 m3.keys_.e0, .int .i64 m3.keys_.e1, .int .i64 m3.keys_.e2, .int .i64 m3.keys_.e3, .int .i64 m3.keys_.e4, .int .i64 m3.keys_.e5, .int .i64 m3.keys_.e6, .int .i64 m3.keys_.e7, .int .i64 m3.boot_, .int .i64 m3.shred_] 30] ++ F0) rfl (nw_ow ?_)
      refine ow_vals 3 (j := 15) [0, 1, 5, 6, 55] [(0, .pointer (some ⟨b0, 0, none⟩)), (1, .pointer (some ⟨b3, 0, none⟩)), (5, .int .i64 x23), (6, .int .i64 x24), (55, .bool (!(seqB r26.1 r39)))] rfl (by kernel_rfl) ?_
      rcases if_some hF with ⟨h41, hF⟩ | ⟨h41, hF⟩
      · refine ow_slots (L' := [(0, .pointer (some ⟨b0, 0, none⟩)), (1, .pointer (some ⟨b3, 0, none⟩)), (5, .int .i64 x23), (6, .int .i64 x24), (55, .bool true)]) (by rw [h41]) ?_
        refine ow_vals 4 (j := 19) [0, 1, 5, 6, 59] [(0, .pointer (some ⟨b0, 0, none⟩)), (1, .pointer (some ⟨b3, 0, none⟩)), (5, .int .i64 x23), (6, .int .i64 x24), (59, .bool true)] rfl (by kernel_rfl) ?_
        refine ow_end rfl ?_
        refine ew_then ?_
        refine cw_cond_t rfl rfl rfl ?_
        refine cw_seq ?_
        refine cw_region ?_
        refine ow_vals 1 (j := 1) [4] [(4, .bool false)] rfl (by kernel_rfl) ?_
        refine ow_end rfl ?_
        refine ew_then ?_
        refine cw_ret ?_
        refine ew_blk_ret ?_
        refine ew_then_ret ?_
        refine ew_then_ret ?_
        refine ew_blk_ret ?_
        refine ew_then_ret ?_
        have hR := Option.some.inj hF
        subst hR
        have hR := hL22
        try dsimp only at hR
        subst hR
        have hR := hK21
        try dsimp only [Thru] at hR
        subst hR
        exact fin1 (H1 := [imm I, pt b0 #[.pointer (some ⟨b1, 0, none⟩), .int .i64 m0.base_, .int .i64 m0.slots_, .int .i64 m0.shred_] 78, pt b1 #[.pointer (some ⟨b2, 0, none⟩), .int .i64 m1.boot_, .int .i64 m1.n_] 75, pt b2 #[.slice p0 m2.sure_.length c0, .map (some p1), .bool m2.off_, .bool m2.armed_, .int .i64 m2.left_, .int .u64 m2.fall_.Keep, .int .i64 m2.fall_.Tear, .int .i64 m2.acts_, .int .i64 m2.falls_] 52, pt b3 #[.int .i64 m3.keys_.e0, .int .i64 m3.keys_.e1, .int .i64 m3.keys_.e2, .int .i64 m3.keys_.e3, .int .i64 m3.keys_.e4, .int .i64 m3.keys_.e5, .int .i64 m3.keys_.e6, .int .i64 m3.keys_.e7, .int .i64 m3.boot_, .int .i64 m3.shred_] 30, own e_disk_sector 55 p0 c0 m2.sure_, mpo (kInt .i64) (fun x : disk_sector => Value.agg #[.string x.s_, .int .i64 x.at_]) p1 m2.wait_]) (fun w hs => sat_to [0, 0, 0, 0, 2, 0, 0] 0 rfl hs) rfl (rr_tmp rfl) ⟨rfl, rfl⟩
      refine ow_slots (L' := [(0, .pointer (some ⟨b0, 0, none⟩)), (1, .pointer (some ⟨b3, 0, none⟩)), (5, .int .i64 x23), (6, .int .i64 x24), (55, .bool false)]) (by rw [h41]) ?_
      refine ow_vals 2 (j := 17) [0, 1, 5, 6, 55, 56, 57] [(0, .pointer (some ⟨b0, 0, none⟩)), (1, .pointer (some ⟨b3, 0, none⟩)), (5, .int .i64 x23), (6, .int .i64 x24), (55, .bool false), (56, .pointer (some ⟨b0, 0, none⟩)), (57, .int .i64 x24)] rfl (by kernel_rfl) ?_
      obtain ⟨r42, h43, hF⟩ := bind_some hF
      refine ow_pw rfl (pw_call (F := [pt b3 #[.int .i64 m3.keys_.e0, .int .i64 m3.keys_.e1, .int .i64 m3.keys_.e2, .int .i64 m3.keys_.e3, .int .i64 m3.keys_.e4, .int .i64 m3.keys_.e5, .int .i64 m3.keys_.e6, .int .i64 m3.keys_.e7, .int .i64 m3.boot_, .int .i64 m3.shred_] 30] ++ F0) rfl rfl rfl rfl rfl rfl rfl (by kernel_rfl) (perm_of_pulls [0, 0, 0, 0, 0, 0] rfl) (c_keyring_Ring_Free _ x24 m0 m1 m2 b0 b1 p0 c0 p1 b2 r42 h43) ?_)
      rintro _ _ ⟨rfl, rfl⟩
      refine nw_H (H' := [imm I, pt b0 #[.pointer (some ⟨b1, 0, none⟩), .int .i64 m0.base_, .int .i64 m0.slots_, .int .i64 m0.shred_] 78, pt b1 #[.pointer (some ⟨b2, 0, none⟩), .int .i64 m1.boot_, .int .i64 m1.n_] 75, pt b2 #[.slice p0 m2.sure_.length c0, .map (some p1), .bool m2.off_, .bool m2.armed_, .int .i64 m2.left_, .int .u64 m2.fall_.Keep, .int .i64 m2.fall_.Tear, .int .i64 m2.acts_, .int .i64 m2.falls_] 52, own e_disk_sector 55 p0 c0 m2.sure_, mpo (kInt .i64) (fun x : disk_sector => Value.agg #[.string x.s_, .int .i64 x.at_]) p1 m2.wait_, pt b3 #[.int .i64 m3.keys_.e0, .int .i64 m3.keys_.e1, .int .i64 m3.keys_.e2, .int .i64 m3.keys_.e3, .int .i64 m3.keys_.e4, .int .i64 m3.keys_.e5, .int .i64 m3.keys_.e6, .int .i64 m3.keys_.e7, .int .i64 m3.boot_, .int .i64 m3.shred_] 30] ++ F0) rfl (nw_ow ?_)
      refine ow_vals 1 (j := 19) [0, 1, 5, 6, 59] [(0, .pointer (some ⟨b0, 0, none⟩)), (1, .pointer (some ⟨b3, 0, none⟩)), (5, .int .i64 x23), (6, .int .i64 x24), (59, .bool r42)] rfl (by kernel_rfl) ?_
      refine ow_end rfl ?_
      refine ew_then ?_
      rcases if_some hF with ⟨h44, hF⟩ | ⟨h44, hF⟩
      · refine cw_cond_t rfl rfl h44 ?_
        refine cw_seq ?_
        refine cw_region ?_
        refine ow_vals 1 (j := 1) [4] [(4, .bool false)] rfl (by kernel_rfl) ?_
        refine ow_end rfl ?_
        refine ew_then ?_
        refine cw_ret ?_
        refine ew_blk_ret ?_
        refine ew_then_ret ?_
        refine ew_then_ret ?_
        refine ew_blk_ret ?_
        refine ew_then_ret ?_
        have hR := Option.some.inj hF
        subst hR
        have hR := hL22
        try dsimp only at hR
        subst hR
        have hR := hK21
        try dsimp only [Thru] at hR
        subst hR
        exact fin1 (H1 := [imm I, pt b0 #[.pointer (some ⟨b1, 0, none⟩), .int .i64 m0.base_, .int .i64 m0.slots_, .int .i64 m0.shred_] 78, pt b1 #[.pointer (some ⟨b2, 0, none⟩), .int .i64 m1.boot_, .int .i64 m1.n_] 75, pt b2 #[.slice p0 m2.sure_.length c0, .map (some p1), .bool m2.off_, .bool m2.armed_, .int .i64 m2.left_, .int .u64 m2.fall_.Keep, .int .i64 m2.fall_.Tear, .int .i64 m2.acts_, .int .i64 m2.falls_] 52, pt b3 #[.int .i64 m3.keys_.e0, .int .i64 m3.keys_.e1, .int .i64 m3.keys_.e2, .int .i64 m3.keys_.e3, .int .i64 m3.keys_.e4, .int .i64 m3.keys_.e5, .int .i64 m3.keys_.e6, .int .i64 m3.keys_.e7, .int .i64 m3.boot_, .int .i64 m3.shred_] 30, own e_disk_sector 55 p0 c0 m2.sure_, mpo (kInt .i64) (fun x : disk_sector => Value.agg #[.string x.s_, .int .i64 x.at_]) p1 m2.wait_]) (fun w hs => sat_to [0, 0, 0, 0, 2, 0, 0] 0 rfl hs) rfl (rr_tmp rfl) ⟨rfl, rfl⟩
      refine cw_cond_f rfl rfl h44 ?_
      refine cw_skip ?_
      refine ew_blk ?_
      refine ew_then ?_
      refine cw_region ?_
      refine ow_vals 3 (j := 3) [0, 1, 5, 6] [(0, .pointer (some ⟨b0, 0, none⟩)), (1, .pointer (some ⟨b3, 0, none⟩)), (5, .int .i64 x23), (6, .int .i64 (IntKind.i64.wrap (x24 - 1)))] rfl (by kernel_rfl) ?_
      refine ow_end rfl ?_
      have hR := Option.some.inj hF
      subst hR
      have hR := hL22
      try dsimp only at hR
      exact fun a w hf hs => ⟨k, Nat.lt_succ_self k, x23, IntKind.i64.wrap (x24 - 1), hR, hf.keep [0, 1, 5, 6], sat_to [0, 0, 0, 0, 2, 0, 0] 0 rfl hs⟩
    refine cw_cond_f rfl rfl h25 ?_
    refine cw_exit ?_
    refine ew_then_exit ?_
    refine ew_then_exit ?_
    refine ew_blk_exit ?_
    have hR := Option.some.inj hF
    subst hR
    have hR := hL22
    try dsimp only at hR
    exact fun a w hf hs => ⟨x23, hR, hf.keep [0, 1, 5], sat_to [0, 0, 0, 0, 0, 0, 0] 0 rfl hs⟩
  rintro a w ⟨x45, hv, hf, hs⟩
  subst hv
  replace hF := hK21
  clear hK21
  try dsimp only [Thru] at hF
  revert a w
  show CW _ _ _ 98 [(0, .pointer (some ⟨b0, 0, none⟩)), (1, .pointer (some ⟨b3, 0, none⟩)), (5, .int .i64 x45)] (SAT w0 ([imm I, pt b0 #[.pointer (some ⟨b1, 0, none⟩), .int .i64 m0.base_, .int .i64 m0.slots_, .int .i64 m0.shred_] 78, pt b1 #[.pointer (some ⟨b2, 0, none⟩), .int .i64 m1.boot_, .int .i64 m1.n_] 75, pt b2 #[.slice p0 m2.sure_.length c0, .map (some p1), .bool m2.off_, .bool m2.armed_, .int .i64 m2.left_, .int .u64 m2.fall_.Keep, .int .i64 m2.fall_.Tear, .int .i64 m2.acts_, .int .i64 m2.falls_] 52, pt b3 #[.int .i64 m3.keys_.e0, .int .i64 m3.keys_.e1, .int .i64 m3.keys_.e2, .int .i64 m3.keys_.e3, .int .i64 m3.keys_.e4, .int .i64 m3.keys_.e5, .int .i64 m3.keys_.e6, .int .i64 m3.keys_.e7, .int .i64 m3.boot_, .int .i64 m3.shred_] 30, own e_disk_sector 55 p0 c0 m2.sure_, mpo (kInt .i64) (fun x : disk_sector => Value.agg #[.string x.s_, .int .i64 x.at_]) p1 m2.wait_] ++ F0))
  unfold F.law13_stands.r2 at hF
  refine cw_seq ?_
  refine cw_region ?_
  refine ow_vals 1 (j := 1) [0, 1, 5, 61] [(0, .pointer (some ⟨b0, 0, none⟩)), (1, .pointer (some ⟨b3, 0, none⟩)), (5, .int .i64 x45), (61, .pointer (some ⟨b0, 0, none⟩))] rfl (by kernel_rfl) ?_
  obtain ⟨r46, h47, hF⟩ := bind_some hF
  refine ow_pw rfl (pw_call (F := [pt b3 #[.int .i64 m3.keys_.e0, .int .i64 m3.keys_.e1, .int .i64 m3.keys_.e2, .int .i64 m3.keys_.e3, .int .i64 m3.keys_.e4, .int .i64 m3.keys_.e5, .int .i64 m3.keys_.e6, .int .i64 m3.keys_.e7, .int .i64 m3.boot_, .int .i64 m3.shred_] 30] ++ F0) rfl rfl rfl rfl rfl rfl rfl (by kernel_rfl) (perm_of_pulls [0, 0, 0, 0, 1, 1] rfl) (c_keyring_Ring_Find _ m0 m1 m2 b0 b1 p0 c0 p1 b2 r46 h47) ?_)
  rintro _ _ ⟨rfl, rfl⟩
  refine nw_H (H' := [imm I, pt b0 #[.pointer (some ⟨b1, 0, none⟩), .int .i64 m0.base_, .int .i64 m0.slots_, .int .i64 m0.shred_] 78, pt b1 #[.pointer (some ⟨b2, 0, none⟩), .int .i64 m1.boot_, .int .i64 m1.n_] 75, pt b2 #[.slice p0 m2.sure_.length c0, .map (some p1), .bool m2.off_, .bool m2.armed_, .int .i64 m2.left_, .int .u64 m2.fall_.Keep, .int .i64 m2.fall_.Tear, .int .i64 m2.acts_, .int .i64 m2.falls_] 52, own e_disk_sector 55 p0 c0 m2.sure_, mpo (kInt .i64) (fun x : disk_sector => Value.agg #[.string x.s_, .int .i64 x.at_]) p1 m2.wait_, pt b3 #[.int .i64 m3.keys_.e0, .int .i64 m3.keys_.e1, .int .i64 m3.keys_.e2, .int .i64 m3.keys_.e3, .int .i64 m3.keys_.e4, .int .i64 m3.keys_.e5, .int .i64 m3.keys_.e6, .int .i64 m3.keys_.e7, .int .i64 m3.boot_, .int .i64 m3.shred_] 30] ++ F0) rfl (nw_ow ?_)
  refine ow_vals 5 (j := 7) [0, 1, 5, 9, 10] [(0, .pointer (some ⟨b0, 0, none⟩)), (1, .pointer (some ⟨b3, 0, none⟩)), (5, .int .i64 x45), (9, .int .i64 r46.1), (10, .int .i64 r46.2)] rfl (by kernel_rfl) ?_
  refine ow_end rfl ?_
  refine ew_then ?_
  refine cw_seq ?_
  refine cw_open 34 (SAT w0 ([imm I, pt b0 #[.pointer (some ⟨b1, 0, none⟩), .int .i64 m0.base_, .int .i64 m0.slots_, .int .i64 m0.shred_] 78, pt b1 #[.pointer (some ⟨b2, 0, none⟩), .int .i64 m1.boot_, .int .i64 m1.n_] 75, pt b2 #[.slice p0 m2.sure_.length c0, .map (some p1), .bool m2.off_, .bool m2.armed_, .int .i64 m2.left_, .int .u64 m2.fall_.Keep, .int .i64 m2.fall_.Tear, .int .i64 m2.acts_, .int .i64 m2.falls_] 52, own e_disk_sector 55 p0 c0 m2.sure_, mpo (kInt .i64) (fun x : disk_sector => Value.agg #[.string x.s_, .int .i64 x.at_]) p1 m2.wait_, pt b3 #[.int .i64 m3.keys_.e0, .int .i64 m3.keys_.e1, .int .i64 m3.keys_.e2, .int .i64 m3.keys_.e3, .int .i64 m3.keys_.e4, .int .i64 m3.keys_.e5, .int .i64 m3.keys_.e6, .int .i64 m3.keys_.e7, .int .i64 m3.boot_, .int .i64 m3.shred_] 30])) (by kernel_rfl) (f := 34) rfl (fun w hs => sat_drew hs) ?_
  refine aw_vals [0] (f' := 33) (m' := 1) [0, 1, 5, 9, 10, 65] [(0, .pointer (some ⟨b0, 0, none⟩)), (1, .pointer (some ⟨b3, 0, none⟩)), (5, .int .i64 x45), (9, .int .i64 r46.1), (10, .int .i64 r46.2), (65, .pointer (some ⟨b0, 0, none⟩))] (fun _ _ _ _ _ h => calm_fin (P := Tryz.prog) (fn := Tryz.f14) _ _ _ _ _ h) (fun w hs => sat_pulls [0, 0, 0, 0, 0, 0, 0] (G := [] ++ F0) rfl hs) rfl (by kernel_rfl) ?_
  obtain ⟨r48, h49, hF⟩ := bind_some hF
  refine aw_only 1 (m' := 3) (by kernel_rfl) (by kernel_rfl) (pw_call (F := [pt b3 #[.int .i64 m3.keys_.e0, .int .i64 m3.keys_.e1, .int .i64 m3.keys_.e2, .int .i64 m3.keys_.e3, .int .i64 m3.keys_.e4, .int .i64 m3.keys_.e5, .int .i64 m3.keys_.e6, .int .i64 m3.keys_.e7, .int .i64 m3.boot_, .int .i64 m3.shred_] 30] ++ F0) rfl rfl rfl rfl rfl rfl rfl (by kernel_rfl) (perm_of_pulls [0, 0, 0, 0, 0, 0] rfl) (c_keyring_Ring_Slots _ m0 m1 m2 b0 b1 p0 c0 p1 b2 r48 h49) ?_)
  rintro _ _ ⟨rfl, rfl⟩
  refine nw_H (H' := [imm I, pt b0 #[.pointer (some ⟨b1, 0, none⟩), .int .i64 m0.base_, .int .i64 m0.slots_, .int .i64 m0.shred_] 78, pt b1 #[.pointer (some ⟨b2, 0, none⟩), .int .i64 m1.boot_, .int .i64 m1.n_] 75, pt b2 #[.slice p0 m2.sure_.length c0, .map (some p1), .bool m2.off_, .bool m2.armed_, .int .i64 m2.left_, .int .u64 m2.fall_.Keep, .int .i64 m2.fall_.Tear, .int .i64 m2.acts_, .int .i64 m2.falls_] 52, own e_disk_sector 55 p0 c0 m2.sure_, mpo (kInt .i64) (fun x : disk_sector => Value.agg #[.string x.s_, .int .i64 x.at_]) p1 m2.wait_, pt b3 #[.int .i64 m3.keys_.e0, .int .i64 m3.keys_.e1, .int .i64 m3.keys_.e2, .int .i64 m3.keys_.e3, .int .i64 m3.keys_.e4, .int .i64 m3.keys_.e5, .int .i64 m3.keys_.e6, .int .i64 m3.keys_.e7, .int .i64 m3.boot_, .int .i64 m3.shred_] 30] ++ F0) rfl (aw_next (fun w hs => sat_pulls [0, 0, 0, 0, 0, 0, 0] (G := [] ++ F0) rfl hs) ?_)
  refine aw_vals [2, 3] (f' := 30) (m' := 15) [0, 1, 5, 9, 10, 68] [(0, .pointer (some ⟨b0, 0, none⟩)), (1, .pointer (some ⟨b3, 0, none⟩)), (5, .int .i64 x45), (9, .int .i64 r46.1), (10, .int .i64 r46.2), (68, .bool (r48 == 8))] (fun _ _ _ _ _ h => calm_fin (P := Tryz.prog) (fn := Tryz.f14) _ _ _ _ _ h) (fun w hs => sat_pulls [0, 0, 0, 0, 0, 0, 0] (G := [] ++ F0) rfl hs) rfl (by kernel_rfl) ?_
  rcases if_some hF with ⟨h50, hF⟩ | ⟨h50, hF⟩
  · refine aw_slots (L' := [(0, .pointer (some ⟨b0, 0, none⟩)), (1, .pointer (some ⟨b3, 0, none⟩)), (5, .int .i64 x45), (9, .int .i64 r46.1), (10, .int .i64 r46.2), (68, .bool true)]) (by rw [h50]) ?_
    refine aw_vals [4, 6, 7, 8] (f' := 26) (m' := 479) [5, 9, 10, 68, 69, 73] [(5, .int .i64 x45), (9, .int .i64 r46.1), (10, .int .i64 r46.2), (68, .bool true), (69, .pointer (some ⟨b0, 0, none⟩)), (73, .pointer (some ⟨b3, 9, none⟩))] (fun _ _ _ _ _ h => calm_fin (P := Tryz.prog) (fn := Tryz.f14) _ _ _ _ _ h) (fun w hs => sat_pulls [0, 0, 0, 0, 0, 0, 0] (G := [] ++ F0) rfl hs) rfl (by kernel_rfl) ?_
    refine aw_quiet 9 (m' := 991) (v := .int .i64 m3.shred_) 0 [] rfl rfl rfl rfl (by kernel_rfl) (by kernel_rfl) (by kernel_rfl) (fun _ _ _ _ _ h => calm_fin (P := Tryz.prog) (fn := Tryz.f14) _ _ _ _ _ h) (fun w hs => sat_pulls [0, 0, 0, 0, 0, 0, 0] (G := [] ++ F0) rfl hs) (q_load 6 rfl rfl rfl (by kernel_rfl)) ?_
    obtain ⟨r51, h52, hF⟩ := bind_some hF
    refine aw_only 5 (m' := 1023) (by kernel_rfl) (by kernel_rfl) (pw_call (F := [pt b3 #[.int .i64 m3.keys_.e0, .int .i64 m3.keys_.e1, .int .i64 m3.keys_.e2, .int .i64 m3.keys_.e3, .int .i64 m3.keys_.e4, .int .i64 m3.keys_.e5, .int .i64 m3.keys_.e6, .int .i64 m3.keys_.e7, .int .i64 m3.boot_, .int .i64 m3.shred_] 30] ++ F0) rfl rfl rfl rfl rfl rfl rfl (by kernel_rfl) (perm_of_pulls [0, 0, 0, 0, 0, 0] rfl) (c_keyring_Ring_Shreds _ m0 m1 m2 b0 b1 p0 c0 p1 b2 r51 h52) ?_)
    rintro _ _ ⟨rfl, rfl⟩
    refine nw_H (H' := [imm I, pt b0 #[.pointer (some ⟨b1, 0, none⟩), .int .i64 m0.base_, .int .i64 m0.slots_, .int .i64 m0.shred_] 78, pt b1 #[.pointer (some ⟨b2, 0, none⟩), .int .i64 m1.boot_, .int .i64 m1.n_] 75, pt b2 #[.slice p0 m2.sure_.length c0, .map (some p1), .bool m2.off_, .bool m2.armed_, .int .i64 m2.left_, .int .u64 m2.fall_.Keep, .int .i64 m2.fall_.Tear, .int .i64 m2.acts_, .int .i64 m2.falls_] 52, own e_disk_sector 55 p0 c0 m2.sure_, mpo (kInt .i64) (fun x : disk_sector => Value.agg #[.string x.s_, .int .i64 x.at_]) p1 m2.wait_, pt b3 #[.int .i64 m3.keys_.e0, .int .i64 m3.keys_.e1, .int .i64 m3.keys_.e2, .int .i64 m3.keys_.e3, .int .i64 m3.keys_.e4, .int .i64 m3.keys_.e5, .int .i64 m3.keys_.e6, .int .i64 m3.keys_.e7, .int .i64 m3.boot_, .int .i64 m3.shred_] 30] ++ F0) rfl (aw_next (fun w hs => sat_pulls [0, 0, 0, 0, 0, 0, 0] (G := [] ++ F0) rfl hs) ?_)
    refine aw_vals [10, 11, 12] (f' := 21) (m' := 8191) [5, 9, 10, 77] [(5, .int .i64 x45), (9, .int .i64 r46.1), (10, .int .i64 r46.2), (77, .bool (r51 == m3.shred_))] (fun _ _ _ _ _ h => calm_fin (P := Tryz.prog) (fn := Tryz.f14) _ _ _ _ _ h) (fun w hs => sat_pulls [0, 0, 0, 0, 0, 0, 0] (G := [] ++ F0) rfl hs) rfl (by kernel_rfl) ?_
    rcases if_some hF with ⟨h53, hF⟩ | ⟨h53, hF⟩
    · refine aw_slots (L' := [(5, .int .i64 x45), (9, .int .i64 r46.1), (10, .int .i64 r46.2), (77, .bool true)]) (by rw [h53]) ?_
      refine aw_vals [13, 14, 15] (f' := 18) (m' := 65535) [5, 9, 10, 77, 80] [(5, .int .i64 x45), (9, .int .i64 r46.1), (10, .int .i64 r46.2), (77, .bool true), (80, .bool (decide (x45 < 0)))] (fun _ _ _ _ _ h => calm_fin (P := Tryz.prog) (fn := Tryz.f14) _ _ _ _ _ h) (fun w hs => sat_pulls [0, 0, 0, 0, 0, 0, 0] (G := [] ++ F0) rfl hs) rfl (by kernel_rfl) ?_
      rcases if_some hF with ⟨h54, hF⟩ | ⟨h54, hF⟩
      · refine aw_slots (L' := [(5, .int .i64 x45), (9, .int .i64 r46.1), (10, .int .i64 r46.2), (77, .bool true), (80, .bool true)]) (by rw [h54]) ?_
        refine aw_vals [16, 17, 18, 19] (f' := 14) (m' := 1048575) [5, 9, 10, 77, 84] [(5, .int .i64 x45), (9, .int .i64 r46.1), (10, .int .i64 r46.2), (77, .bool true), (84, .bool (r46.1 == 0))] (fun _ _ _ _ _ h => calm_fin (P := Tryz.prog) (fn := Tryz.f14) _ _ _ _ _ h) (fun w hs => sat_pulls [0, 0, 0, 0, 0, 0, 0] (G := [] ++ F0) rfl hs) rfl (by kernel_rfl) ?_
        rcases if_some hF with ⟨h55, hF⟩ | ⟨h55, hF⟩
        · refine aw_slots (L' := [(5, .int .i64 x45), (9, .int .i64 r46.1), (10, .int .i64 r46.2), (77, .bool true), (84, .bool true)]) (by rw [h55]) ?_
          refine aw_vals [20, 21, 22, 23] (f' := 10) (m' := 16777215) [5, 9, 10, 77, 88] [(5, .int .i64 x45), (9, .int .i64 r46.1), (10, .int .i64 r46.2), (77, .bool true), (88, .bool (r46.2 == 6))] (fun _ _ _ _ _ h => calm_fin (P := Tryz.prog) (fn := Tryz.f14) _ _ _ _ _ h) (fun w hs => sat_pulls [0, 0, 0, 0, 0, 0, 0] (G := [] ++ F0) rfl hs) rfl (by kernel_rfl) ?_
          rcases if_some hF with ⟨h56, hF⟩ | ⟨h56, hF⟩
          · refine aw_slots (L' := [(5, .int .i64 x45), (9, .int .i64 r46.1), (10, .int .i64 r46.2), (77, .bool true), (88, .bool true)]) (by rw [h56]) ?_
            refine aw_vals [24, 25, 26, 27, 28, 29, 30, 31, 32, 33] (f' := 0) (m' := 17179869183) [4] [(4, .bool true)] (fun _ _ _ _ _ h => calm_fin (P := Tryz.prog) (fn := Tryz.f14) _ _ _ _ _ h) (fun w hs => sat_pulls [0, 0, 0, 0, 0, 0, 0] (G := [] ++ F0) rfl hs) rfl (by kernel_rfl) ?_
            refine aw_keep [4] (L' := [(4, .bool true)]) rfl ?_
            refine aw_end (by kernel_rfl) ?_
            refine ew_then ?_
            refine cw_ret ?_
            have hR := Option.some.inj hF
            subst hR
            exact fin1 (H1 := [imm I, pt b0 #[.pointer (some ⟨b1, 0, none⟩), .int .i64 m0.base_, .int .i64 m0.slots_, .int .i64 m0.shred_] 78, pt b1 #[.pointer (some ⟨b2, 0, none⟩), .int .i64 m1.boot_, .int .i64 m1.n_] 75, pt b2 #[.slice p0 m2.sure_.length c0, .map (some p1), .bool m2.off_, .bool m2.armed_, .int .i64 m2.left_, .int .u64 m2.fall_.Keep, .int .i64 m2.fall_.Tear, .int .i64 m2.acts_, .int .i64 m2.falls_] 52, pt b3 #[.int .i64 m3.keys_.e0, .int .i64 m3.keys_.e1, .int .i64 m3.keys_.e2, .int .i64 m3.keys_.e3, .int .i64 m3.keys_.e4, .int .i64 m3.keys_.e5, .int .i64 m3.keys_.e6, .int .i64 m3.keys_.e7, .int .i64 m3.boot_, .int .i64 m3.shred_] 30, own e_disk_sector 55 p0 c0 m2.sure_, mpo (kInt .i64) (fun x : disk_sector => Value.agg #[.string x.s_, .int .i64 x.at_]) p1 m2.wait_]) (fun w hs => sat_to [0, 0, 0, 0, 2, 0, 0] 0 rfl hs) rfl (rr_tmp rfl) ⟨rfl, rfl⟩
          refine aw_slots (L' := [(5, .int .i64 x45), (9, .int .i64 r46.1), (10, .int .i64 r46.2), (77, .bool true), (88, .bool false)]) (by rw [h56]) ?_
          refine aw_vals [24, 25, 26, 27] (f' := 6) (m' := 268435455) [10, 77, 88, 92] [(10, .int .i64 r46.2), (77, .bool true), (88, .bool false), (92, .bool (r46.1 == x45))] (fun _ _ _ _ _ h => calm_fin (P := Tryz.prog) (fn := Tryz.f14) _ _ _ _ _ h) (fun w hs => sat_pulls [0, 0, 0, 0, 0, 0, 0] (G := [] ++ F0) rfl hs) rfl (by kernel_rfl) ?_
          rcases if_some hF with ⟨h57, hF⟩ | ⟨h57, hF⟩
          · refine aw_slots (L' := [(10, .int .i64 r46.2), (77, .bool true), (88, .bool false), (92, .bool true)]) (by rw [h57]) ?_
            refine aw_vals [28, 29, 30, 31, 32, 33] (f' := 0) (m' := 17179869183) [4] [(4, .bool (r46.2 == 0))] (fun _ _ _ _ _ h => calm_fin (P := Tryz.prog) (fn := Tryz.f14) _ _ _ _ _ h) (fun w hs => sat_pulls [0, 0, 0, 0, 0, 0, 0] (G := [] ++ F0) rfl hs) rfl (by kernel_rfl) ?_
            refine aw_keep [4] (L' := [(4, .bool (r46.2 == 0))]) rfl ?_
            refine aw_end (by kernel_rfl) ?_
            refine ew_then ?_
            refine cw_ret ?_
            have hR := Option.some.inj hF
            subst hR
            exact fin1 (H1 := [imm I, pt b0 #[.pointer (some ⟨b1, 0, none⟩), .int .i64 m0.base_, .int .i64 m0.slots_, .int .i64 m0.shred_] 78, pt b1 #[.pointer (some ⟨b2, 0, none⟩), .int .i64 m1.boot_, .int .i64 m1.n_] 75, pt b2 #[.slice p0 m2.sure_.length c0, .map (some p1), .bool m2.off_, .bool m2.armed_, .int .i64 m2.left_, .int .u64 m2.fall_.Keep, .int .i64 m2.fall_.Tear, .int .i64 m2.acts_, .int .i64 m2.falls_] 52, pt b3 #[.int .i64 m3.keys_.e0, .int .i64 m3.keys_.e1, .int .i64 m3.keys_.e2, .int .i64 m3.keys_.e3, .int .i64 m3.keys_.e4, .int .i64 m3.keys_.e5, .int .i64 m3.keys_.e6, .int .i64 m3.keys_.e7, .int .i64 m3.boot_, .int .i64 m3.shred_] 30, own e_disk_sector 55 p0 c0 m2.sure_, mpo (kInt .i64) (fun x : disk_sector => Value.agg #[.string x.s_, .int .i64 x.at_]) p1 m2.wait_]) (fun w hs => sat_to [0, 0, 0, 0, 2, 0, 0] 0 rfl hs) rfl (rr_tmp rfl) ⟨rfl, rfl⟩
          refine aw_slots (L' := [(10, .int .i64 r46.2), (77, .bool true), (88, .bool false), (92, .bool false)]) (by rw [h57]) ?_
          refine aw_vals [28, 29, 30, 31, 32, 33] (f' := 0) (m' := 17179869183) [4] [(4, .bool false)] (fun _ _ _ _ _ h => calm_fin (P := Tryz.prog) (fn := Tryz.f14) _ _ _ _ _ h) (fun w hs => sat_pulls [0, 0, 0, 0, 0, 0, 0] (G := [] ++ F0) rfl hs) rfl (by kernel_rfl) ?_
          refine aw_keep [4] (L' := [(4, .bool false)]) rfl ?_
          refine aw_end (by kernel_rfl) ?_
          refine ew_then ?_
          refine cw_ret ?_
          have hR := Option.some.inj hF
          subst hR
          exact fin1 (H1 := [imm I, pt b0 #[.pointer (some ⟨b1, 0, none⟩), .int .i64 m0.base_, .int .i64 m0.slots_, .int .i64 m0.shred_] 78, pt b1 #[.pointer (some ⟨b2, 0, none⟩), .int .i64 m1.boot_, .int .i64 m1.n_] 75, pt b2 #[.slice p0 m2.sure_.length c0, .map (some p1), .bool m2.off_, .bool m2.armed_, .int .i64 m2.left_, .int .u64 m2.fall_.Keep, .int .i64 m2.fall_.Tear, .int .i64 m2.acts_, .int .i64 m2.falls_] 52, pt b3 #[.int .i64 m3.keys_.e0, .int .i64 m3.keys_.e1, .int .i64 m3.keys_.e2, .int .i64 m3.keys_.e3, .int .i64 m3.keys_.e4, .int .i64 m3.keys_.e5, .int .i64 m3.keys_.e6, .int .i64 m3.keys_.e7, .int .i64 m3.boot_, .int .i64 m3.shred_] 30, own e_disk_sector 55 p0 c0 m2.sure_, mpo (kInt .i64) (fun x : disk_sector => Value.agg #[.string x.s_, .int .i64 x.at_]) p1 m2.wait_]) (fun w hs => sat_to [0, 0, 0, 0, 2, 0, 0] 0 rfl hs) rfl (rr_tmp rfl) ⟨rfl, rfl⟩
        refine aw_slots (L' := [(5, .int .i64 x45), (9, .int .i64 r46.1), (10, .int .i64 r46.2), (77, .bool true), (84, .bool false)]) (by rw [h55]) ?_
        refine aw_vals [20, 21, 22, 23, 24, 25, 26, 27] (f' := 6) (m' := 268435455) [10, 77, 88, 92] [(10, .int .i64 r46.2), (77, .bool true), (88, .bool false), (92, .bool (r46.1 == x45))] (fun _ _ _ _ _ h => calm_fin (P := Tryz.prog) (fn := Tryz.f14) _ _ _ _ _ h) (fun w hs => sat_pulls [0, 0, 0, 0, 0, 0, 0] (G := [] ++ F0) rfl hs) rfl (by kernel_rfl) ?_
        rcases if_some hF with ⟨h58, hF⟩ | ⟨h58, hF⟩
        · refine aw_slots (L' := [(10, .int .i64 r46.2), (77, .bool true), (88, .bool false), (92, .bool true)]) (by rw [h58]) ?_
          refine aw_vals [28, 29, 30, 31, 32, 33] (f' := 0) (m' := 17179869183) [4] [(4, .bool (r46.2 == 0))] (fun _ _ _ _ _ h => calm_fin (P := Tryz.prog) (fn := Tryz.f14) _ _ _ _ _ h) (fun w hs => sat_pulls [0, 0, 0, 0, 0, 0, 0] (G := [] ++ F0) rfl hs) rfl (by kernel_rfl) ?_
          refine aw_keep [4] (L' := [(4, .bool (r46.2 == 0))]) rfl ?_
          refine aw_end (by kernel_rfl) ?_
          refine ew_then ?_
          refine cw_ret ?_
          have hR := Option.some.inj hF
          subst hR
          exact fin1 (H1 := [imm I, pt b0 #[.pointer (some ⟨b1, 0, none⟩), .int .i64 m0.base_, .int .i64 m0.slots_, .int .i64 m0.shred_] 78, pt b1 #[.pointer (some ⟨b2, 0, none⟩), .int .i64 m1.boot_, .int .i64 m1.n_] 75, pt b2 #[.slice p0 m2.sure_.length c0, .map (some p1), .bool m2.off_, .bool m2.armed_, .int .i64 m2.left_, .int .u64 m2.fall_.Keep, .int .i64 m2.fall_.Tear, .int .i64 m2.acts_, .int .i64 m2.falls_] 52, pt b3 #[.int .i64 m3.keys_.e0, .int .i64 m3.keys_.e1, .int .i64 m3.keys_.e2, .int .i64 m3.keys_.e3, .int .i64 m3.keys_.e4, .int .i64 m3.keys_.e5, .int .i64 m3.keys_.e6, .int .i64 m3.keys_.e7, .int .i64 m3.boot_, .int .i64 m3.shred_] 30, own e_disk_sector 55 p0 c0 m2.sure_, mpo (kInt .i64) (fun x : disk_sector => Value.agg #[.string x.s_, .int .i64 x.at_]) p1 m2.wait_]) (fun w hs => sat_to [0, 0, 0, 0, 2, 0, 0] 0 rfl hs) rfl (rr_tmp rfl) ⟨rfl, rfl⟩
        refine aw_slots (L' := [(10, .int .i64 r46.2), (77, .bool true), (88, .bool false), (92, .bool false)]) (by rw [h58]) ?_
        refine aw_vals [28, 29, 30, 31, 32, 33] (f' := 0) (m' := 17179869183) [4] [(4, .bool false)] (fun _ _ _ _ _ h => calm_fin (P := Tryz.prog) (fn := Tryz.f14) _ _ _ _ _ h) (fun w hs => sat_pulls [0, 0, 0, 0, 0, 0, 0] (G := [] ++ F0) rfl hs) rfl (by kernel_rfl) ?_
        refine aw_keep [4] (L' := [(4, .bool false)]) rfl ?_
        refine aw_end (by kernel_rfl) ?_
        refine ew_then ?_
        refine cw_ret ?_
        have hR := Option.some.inj hF
        subst hR
        exact fin1 (H1 := [imm I, pt b0 #[.pointer (some ⟨b1, 0, none⟩), .int .i64 m0.base_, .int .i64 m0.slots_, .int .i64 m0.shred_] 78, pt b1 #[.pointer (some ⟨b2, 0, none⟩), .int .i64 m1.boot_, .int .i64 m1.n_] 75, pt b2 #[.slice p0 m2.sure_.length c0, .map (some p1), .bool m2.off_, .bool m2.armed_, .int .i64 m2.left_, .int .u64 m2.fall_.Keep, .int .i64 m2.fall_.Tear, .int .i64 m2.acts_, .int .i64 m2.falls_] 52, pt b3 #[.int .i64 m3.keys_.e0, .int .i64 m3.keys_.e1, .int .i64 m3.keys_.e2, .int .i64 m3.keys_.e3, .int .i64 m3.keys_.e4, .int .i64 m3.keys_.e5, .int .i64 m3.keys_.e6, .int .i64 m3.keys_.e7, .int .i64 m3.boot_, .int .i64 m3.shred_] 30, own e_disk_sector 55 p0 c0 m2.sure_, mpo (kInt .i64) (fun x : disk_sector => Value.agg #[.string x.s_, .int .i64 x.at_]) p1 m2.wait_]) (fun w hs => sat_to [0, 0, 0, 0, 2, 0, 0] 0 rfl hs) rfl (rr_tmp rfl) ⟨rfl, rfl⟩
      refine aw_slots (L' := [(5, .int .i64 x45), (9, .int .i64 r46.1), (10, .int .i64 r46.2), (77, .bool true), (80, .bool false)]) (by rw [h54]) ?_
      refine aw_vals [16, 17, 18, 19, 20, 21, 22, 23, 24, 25, 26, 27] (f' := 6) (m' := 268435455) [10, 77, 88, 92] [(10, .int .i64 r46.2), (77, .bool true), (88, .bool false), (92, .bool (r46.1 == x45))] (fun _ _ _ _ _ h => calm_fin (P := Tryz.prog) (fn := Tryz.f14) _ _ _ _ _ h) (fun w hs => sat_pulls [0, 0, 0, 0, 0, 0, 0] (G := [] ++ F0) rfl hs) rfl (by kernel_rfl) ?_
      rcases if_some hF with ⟨h59, hF⟩ | ⟨h59, hF⟩
      · refine aw_slots (L' := [(10, .int .i64 r46.2), (77, .bool true), (88, .bool false), (92, .bool true)]) (by rw [h59]) ?_
        refine aw_vals [28, 29, 30, 31, 32, 33] (f' := 0) (m' := 17179869183) [4] [(4, .bool (r46.2 == 0))] (fun _ _ _ _ _ h => calm_fin (P := Tryz.prog) (fn := Tryz.f14) _ _ _ _ _ h) (fun w hs => sat_pulls [0, 0, 0, 0, 0, 0, 0] (G := [] ++ F0) rfl hs) rfl (by kernel_rfl) ?_
        refine aw_keep [4] (L' := [(4, .bool (r46.2 == 0))]) rfl ?_
        refine aw_end (by kernel_rfl) ?_
        refine ew_then ?_
        refine cw_ret ?_
        have hR := Option.some.inj hF
        subst hR
        exact fin1 (H1 := [imm I, pt b0 #[.pointer (some ⟨b1, 0, none⟩), .int .i64 m0.base_, .int .i64 m0.slots_, .int .i64 m0.shred_] 78, pt b1 #[.pointer (some ⟨b2, 0, none⟩), .int .i64 m1.boot_, .int .i64 m1.n_] 75, pt b2 #[.slice p0 m2.sure_.length c0, .map (some p1), .bool m2.off_, .bool m2.armed_, .int .i64 m2.left_, .int .u64 m2.fall_.Keep, .int .i64 m2.fall_.Tear, .int .i64 m2.acts_, .int .i64 m2.falls_] 52, pt b3 #[.int .i64 m3.keys_.e0, .int .i64 m3.keys_.e1, .int .i64 m3.keys_.e2, .int .i64 m3.keys_.e3, .int .i64 m3.keys_.e4, .int .i64 m3.keys_.e5, .int .i64 m3.keys_.e6, .int .i64 m3.keys_.e7, .int .i64 m3.boot_, .int .i64 m3.shred_] 30, own e_disk_sector 55 p0 c0 m2.sure_, mpo (kInt .i64) (fun x : disk_sector => Value.agg #[.string x.s_, .int .i64 x.at_]) p1 m2.wait_]) (fun w hs => sat_to [0, 0, 0, 0, 2, 0, 0] 0 rfl hs) rfl (rr_tmp rfl) ⟨rfl, rfl⟩
      refine aw_slots (L' := [(10, .int .i64 r46.2), (77, .bool true), (88, .bool false), (92, .bool false)]) (by rw [h59]) ?_
      refine aw_vals [28, 29, 30, 31, 32, 33] (f' := 0) (m' := 17179869183) [4] [(4, .bool false)] (fun _ _ _ _ _ h => calm_fin (P := Tryz.prog) (fn := Tryz.f14) _ _ _ _ _ h) (fun w hs => sat_pulls [0, 0, 0, 0, 0, 0, 0] (G := [] ++ F0) rfl hs) rfl (by kernel_rfl) ?_
      refine aw_keep [4] (L' := [(4, .bool false)]) rfl ?_
      refine aw_end (by kernel_rfl) ?_
      refine ew_then ?_
      refine cw_ret ?_
      have hR := Option.some.inj hF
      subst hR
      exact fin1 (H1 := [imm I, pt b0 #[.pointer (some ⟨b1, 0, none⟩), .int .i64 m0.base_, .int .i64 m0.slots_, .int .i64 m0.shred_] 78, pt b1 #[.pointer (some ⟨b2, 0, none⟩), .int .i64 m1.boot_, .int .i64 m1.n_] 75, pt b2 #[.slice p0 m2.sure_.length c0, .map (some p1), .bool m2.off_, .bool m2.armed_, .int .i64 m2.left_, .int .u64 m2.fall_.Keep, .int .i64 m2.fall_.Tear, .int .i64 m2.acts_, .int .i64 m2.falls_] 52, pt b3 #[.int .i64 m3.keys_.e0, .int .i64 m3.keys_.e1, .int .i64 m3.keys_.e2, .int .i64 m3.keys_.e3, .int .i64 m3.keys_.e4, .int .i64 m3.keys_.e5, .int .i64 m3.keys_.e6, .int .i64 m3.keys_.e7, .int .i64 m3.boot_, .int .i64 m3.shred_] 30, own e_disk_sector 55 p0 c0 m2.sure_, mpo (kInt .i64) (fun x : disk_sector => Value.agg #[.string x.s_, .int .i64 x.at_]) p1 m2.wait_]) (fun w hs => sat_to [0, 0, 0, 0, 2, 0, 0] 0 rfl hs) rfl (rr_tmp rfl) ⟨rfl, rfl⟩
    refine aw_slots (L' := [(5, .int .i64 x45), (9, .int .i64 r46.1), (10, .int .i64 r46.2), (77, .bool false)]) (by rw [h53]) ?_
    refine aw_vals [13, 14, 15, 16, 17, 18, 19, 20, 21, 22, 23, 24, 25, 26, 27, 28, 29, 30, 31, 32, 33] (f' := 0) (m' := 17179869183) [4] [(4, .bool false)] (fun _ _ _ _ _ h => calm_fin (P := Tryz.prog) (fn := Tryz.f14) _ _ _ _ _ h) (fun w hs => sat_pulls [0, 0, 0, 0, 0, 0, 0] (G := [] ++ F0) rfl hs) rfl (by kernel_rfl) ?_
    refine aw_keep [4] (L' := [(4, .bool false)]) rfl ?_
    refine aw_end (by kernel_rfl) ?_
    refine ew_then ?_
    refine cw_ret ?_
    have hR := Option.some.inj hF
    subst hR
    exact fin1 (H1 := [imm I, pt b0 #[.pointer (some ⟨b1, 0, none⟩), .int .i64 m0.base_, .int .i64 m0.slots_, .int .i64 m0.shred_] 78, pt b1 #[.pointer (some ⟨b2, 0, none⟩), .int .i64 m1.boot_, .int .i64 m1.n_] 75, pt b2 #[.slice p0 m2.sure_.length c0, .map (some p1), .bool m2.off_, .bool m2.armed_, .int .i64 m2.left_, .int .u64 m2.fall_.Keep, .int .i64 m2.fall_.Tear, .int .i64 m2.acts_, .int .i64 m2.falls_] 52, pt b3 #[.int .i64 m3.keys_.e0, .int .i64 m3.keys_.e1, .int .i64 m3.keys_.e2, .int .i64 m3.keys_.e3, .int .i64 m3.keys_.e4, .int .i64 m3.keys_.e5, .int .i64 m3.keys_.e6, .int .i64 m3.keys_.e7, .int .i64 m3.boot_, .int .i64 m3.shred_] 30, own e_disk_sector 55 p0 c0 m2.sure_, mpo (kInt .i64) (fun x : disk_sector => Value.agg #[.string x.s_, .int .i64 x.at_]) p1 m2.wait_]) (fun w hs => sat_to [0, 0, 0, 0, 2, 0, 0] 0 rfl hs) rfl (rr_tmp rfl) ⟨rfl, rfl⟩
  refine aw_slots (L' := [(0, .pointer (some ⟨b0, 0, none⟩)), (1, .pointer (some ⟨b3, 0, none⟩)), (5, .int .i64 x45), (9, .int .i64 r46.1), (10, .int .i64 r46.2), (68, .bool false)]) (by rw [h50]) ?_
  refine aw_vals [4, 5, 6, 7, 8, 9, 10, 11, 12, 13, 14, 15, 16, 17, 18, 19, 20, 21, 22, 23, 24, 25, 26, 27, 28, 29, 30, 31, 32, 33] (f' := 0) (m' := 17179869183) [4] [(4, .bool false)] (fun _ _ _ _ _ h => calm_fin (P := Tryz.prog) (fn := Tryz.f14) _ _ _ _ _ h) (fun w hs => sat_pulls [0, 0, 0, 0, 0, 0, 0] (G := [] ++ F0) rfl hs) rfl (by kernel_rfl) ?_
  refine aw_keep [4] (L' := [(4, .bool false)]) rfl ?_
  refine aw_end (by kernel_rfl) ?_
  refine ew_then ?_
  refine cw_ret ?_
  have hR := Option.some.inj hF
  subst hR
  exact fin1 (H1 := [imm I, pt b0 #[.pointer (some ⟨b1, 0, none⟩), .int .i64 m0.base_, .int .i64 m0.slots_, .int .i64 m0.shred_] 78, pt b1 #[.pointer (some ⟨b2, 0, none⟩), .int .i64 m1.boot_, .int .i64 m1.n_] 75, pt b2 #[.slice p0 m2.sure_.length c0, .map (some p1), .bool m2.off_, .bool m2.armed_, .int .i64 m2.left_, .int .u64 m2.fall_.Keep, .int .i64 m2.fall_.Tear, .int .i64 m2.acts_, .int .i64 m2.falls_] 52, pt b3 #[.int .i64 m3.keys_.e0, .int .i64 m3.keys_.e1, .int .i64 m3.keys_.e2, .int .i64 m3.keys_.e3, .int .i64 m3.keys_.e4, .int .i64 m3.keys_.e5, .int .i64 m3.keys_.e6, .int .i64 m3.keys_.e7, .int .i64 m3.boot_, .int .i64 m3.shred_] 30, own e_disk_sector 55 p0 c0 m2.sure_, mpo (kInt .i64) (fun x : disk_sector => Value.agg #[.string x.s_, .int .i64 x.at_]) p1 m2.wait_]) (fun w hs => sat_to [0, 0, 0, 0, 2, 0, 0] 0 rfl hs) rfl (rr_tmp rfl) ⟨rfl, rfl⟩


def F.law13_KeyringPlays.r3 (l39 : List disk_sector) (l43 : List (Int × disk_sector)) (x46 : Bool) (x47 : Bool) (x48 : Int) (x49 : Int) (x50 : Int) (x51 : Int) (x52 : Int) (x53 : Int) (x54 : Int) (x55 : Int) (x56 : Int) (x57 : Int) (x58 : Int) (x59 : Int) (x60 : Int) (x61 : Int) (x62 : Int) (x63 : Int) (x64 : Int) (x65 : Int) (x66 : Int) (x67 : Int) (y71 : law13_Op) (x85 : Bool) : Option ((Int × Int × Int × Int × Int × Int × Int × Int × (List disk_sector) × (List (Int × disk_sector)) × Bool × Bool × Int × Int × Int × Int × Int × Int × Int × Int × Int × Int × Int × Int × Int × Int × Int) ⊕ ((Int × (List disk_sector) × (List (Int × disk_sector)) × Bool × Bool × Int × Int × Int × Int × Int × Int × Int × Int × Int × Int × Int × Int × Int × Int × Int × Int × Int × Int × Int × Int) ⊕ (((List disk_sector) × (List (Int × disk_sector)) × Bool × Bool × Int × Int × Int × Int × Int × Int × Int × Int × Int × Int × Int × Int × Int × Int × Int × Int × Int × Int × Int × Int) ⊕ (Bool)))) :=
  if x85 then (Option.bind (F.law13_key (IntKind.u8.wrap (IntKind.i64.wrap (1 + ((IntKind.i64.wrap (y71.C)).tmod 200))))) (fun (r87 : ByteArray) => Option.bind (F.law13_put y71.I r87 (IntKind.i64.wrap (1 + ((IntKind.i64.wrap (y71.C)).tmod 200))) (⟨x55, x56, x57⟩ : keyring_Ring) (⟨x53, x54⟩ : guard_Guard) (⟨l39, l43, x46, x47, x48, (⟨x49, x50⟩ : disk_Fall), x51, x52⟩ : disk_Disk) (⟨(⟨x58, x59, x60, x61, x62, x63, x64, x65⟩ : A8_Inti64), x66, x67⟩ : law13_plain)) (fun (r89 : Int × Int × guard_Guard × disk_Disk × law13_plain) => some (.inl (IntKind.i64.wrap (1 + ((IntKind.i64.wrap (y71.C)).tmod 200)), r89.1, r89.2.1, (⟨x55, x56, x57⟩ : keyring_Ring).base_, (⟨x55, x56, x57⟩ : keyring_Ring).slots_, (⟨x55, x56, x57⟩ : keyring_Ring).shred_, r89.2.2.1.boot_, r89.2.2.1.n_, r89.2.2.2.1.sure_, r89.2.2.2.1.wait_, r89.2.2.2.1.off_, r89.2.2.2.1.armed_, r89.2.2.2.1.left_, r89.2.2.2.1.fall_.Keep, r89.2.2.2.1.fall_.Tear, r89.2.2.2.1.acts_, r89.2.2.2.1.falls_, r89.2.2.2.2.keys_.e0, r89.2.2.2.2.keys_.e1, r89.2.2.2.2.keys_.e2, r89.2.2.2.2.keys_.e3, r89.2.2.2.2.keys_.e4, r89.2.2.2.2.keys_.e5, r89.2.2.2.2.keys_.e6, r89.2.2.2.2.keys_.e7, r89.2.2.2.2.boot_, r89.2.2.2.2.shred_))))) else (if y71.Kind == 3 then (Option.bind (F.law13_shred y71.I (⟨x55, x56, x57⟩ : keyring_Ring) (⟨x53, x54⟩ : guard_Guard) (⟨l39, l43, x46, x47, x48, (⟨x49, x50⟩ : disk_Fall), x51, x52⟩ : disk_Disk) (⟨(⟨x58, x59, x60, x61, x62, x63, x64, x65⟩ : A8_Inti64), x66, x67⟩ : law13_plain)) (fun (r94 : Int × Int × keyring_Ring × disk_Disk × law13_plain) => some (.inl (0, r94.1, r94.2.1, r94.2.2.1.base_, r94.2.2.1.slots_, r94.2.2.1.shred_, (⟨x53, x54⟩ : guard_Guard).boot_, (⟨x53, x54⟩ : guard_Guard).n_, r94.2.2.2.1.sure_, r94.2.2.2.1.wait_, r94.2.2.2.1.off_, r94.2.2.2.1.armed_, r94.2.2.2.1.left_, r94.2.2.2.1.fall_.Keep, r94.2.2.2.1.fall_.Tear, r94.2.2.2.1.acts_, r94.2.2.2.1.falls_, r94.2.2.2.2.keys_.e0, r94.2.2.2.2.keys_.e1, r94.2.2.2.2.keys_.e2, r94.2.2.2.2.keys_.e3, r94.2.2.2.2.keys_.e4, r94.2.2.2.2.keys_.e5, r94.2.2.2.2.keys_.e6, r94.2.2.2.2.keys_.e7, r94.2.2.2.2.boot_, r94.2.2.2.2.shred_)))) else (if y71.Kind == 5 then (Option.bind (F.disk_Disk_Calm (⟨l39, l43, x46, x47, x48, (⟨x49, x50⟩ : disk_Fall), x51, x52⟩ : disk_Disk)) (fun (r99 : disk_Disk) => Option.bind (F.law13_keep y71.List (⟨x55, x56, x57⟩ : keyring_Ring) (⟨x53, x54⟩ : guard_Guard) r99 (⟨(⟨x58, x59, x60, x61, x62, x63, x64, x65⟩ : A8_Inti64), x66, x67⟩ : law13_plain)) (fun (r103 : Bool × keyring_Ring × disk_Disk × law13_plain) => if !r103.1 then (some (.inr (.inr (.inr (false))))) else (some (.inl (IntKind.i64.wrap (1 + ((IntKind.i64.wrap (y71.C)).tmod 200)), 0, 0, r103.2.1.base_, r103.2.1.slots_, r103.2.1.shred_, (⟨x53, x54⟩ : guard_Guard).boot_, (⟨x53, x54⟩ : guard_Guard).n_, r103.2.2.1.sure_, r103.2.2.1.wait_, r103.2.2.1.off_, r103.2.2.1.armed_, r103.2.2.1.left_, r103.2.2.1.fall_.Keep, r103.2.2.1.fall_.Tear, r103.2.2.1.acts_, r103.2.2.1.falls_, r103.2.2.2.keys_.e0, r103.2.2.2.keys_.e1, r103.2.2.2.keys_.e2, r103.2.2.2.keys_.e3, r103.2.2.2.keys_.e4, r103.2.2.2.keys_.e5, r103.2.2.2.keys_.e6, r103.2.2.2.keys_.e7, r103.2.2.2.boot_, r103.2.2.2.shred_)))))) else (if y71.Kind == 6 then (Option.bind (F.law13_put y71.I (ByteArray.mk #[110, 111, 32, 107, 101, 121]) (IntKind.i64.wrap (1 + ((IntKind.i64.wrap (y71.C)).tmod 200))) (⟨x55, x56, x57⟩ : keyring_Ring) (⟨x53, x54⟩ : guard_Guard) (⟨l39, l43, x46, x47, x48, (⟨x49, x50⟩ : disk_Fall), x51, x52⟩ : disk_Disk) (⟨(⟨x58, x59, x60, x61, x62, x63, x64, x65⟩ : A8_Inti64), x66, x67⟩ : law13_plain)) (fun (r109 : Int × Int × guard_Guard × disk_Disk × law13_plain) => some (.inl (IntKind.i64.wrap (1 + ((IntKind.i64.wrap (y71.C)).tmod 200)), r109.1, r109.2.1, (⟨x55, x56, x57⟩ : keyring_Ring).base_, (⟨x55, x56, x57⟩ : keyring_Ring).slots_, (⟨x55, x56, x57⟩ : keyring_Ring).shred_, r109.2.2.1.boot_, r109.2.2.1.n_, r109.2.2.2.1.sure_, r109.2.2.2.1.wait_, r109.2.2.2.1.off_, r109.2.2.2.1.armed_, r109.2.2.2.1.left_, r109.2.2.2.1.fall_.Keep, r109.2.2.2.1.fall_.Tear, r109.2.2.2.1.acts_, r109.2.2.2.1.falls_, r109.2.2.2.2.keys_.e0, r109.2.2.2.2.keys_.e1, r109.2.2.2.2.keys_.e2, r109.2.2.2.2.keys_.e3, r109.2.2.2.2.keys_.e4, r109.2.2.2.2.keys_.e5, r109.2.2.2.2.keys_.e6, r109.2.2.2.2.keys_.e7, r109.2.2.2.2.boot_, r109.2.2.2.2.shred_)))) else (if y71.Kind == 7 then (Option.bind (F.law13_again y71.F (-1) 0 (⟨l39, l43, x46, x47, x48, (⟨x49, x50⟩ : disk_Fall), x51, x52⟩ : disk_Disk) (⟨(⟨x58, x59, x60, x61, x62, x63, x64, x65⟩ : A8_Inti64), x66, x67⟩ : law13_plain)) (fun (r114 : (Option (keyring_Ring × guard_Guard)) × disk_Disk × law13_plain) => optC r114.1 (none) (fun (r114_s1 : (keyring_Ring × guard_Guard)) => some (.inl (IntKind.i64.wrap (1 + ((IntKind.i64.wrap (y71.C)).tmod 200)), 0, 0, r114_s1.1.base_, r114_s1.1.slots_, r114_s1.1.shred_, r114_s1.2.boot_, r114_s1.2.n_, r114.2.1.sure_, r114.2.1.wait_, r114.2.1.off_, r114.2.1.armed_, r114.2.1.left_, r114.2.1.fall_.Keep, r114.2.1.fall_.Tear, r114.2.1.acts_, r114.2.1.falls_, r114.2.2.keys_.e0, r114.2.2.keys_.e1, r114.2.2.keys_.e2, r114.2.2.keys_.e3, r114.2.2.keys_.e4, r114.2.2.keys_.e5, r114.2.2.keys_.e6, r114.2.2.keys_.e7, r114.2.2.boot_, r114.2.2.shred_))))) else (if y71.Kind == 8 then (if decide (y71.I ≥ 0) then (Option.bind (F.disk_Disk_Arm y71.I y71.F (⟨l39, l43, x46, x47, x48, (⟨x49, x50⟩ : disk_Fall), x51, x52⟩ : disk_Disk)) (fun (r124 : Int × disk_Disk) => some (.inl (IntKind.i64.wrap (1 + ((IntKind.i64.wrap (y71.C)).tmod 200)), 0, 0, x55, x56, x57, x53, x54, r124.2.sure_, r124.2.wait_, r124.2.off_, r124.2.armed_, r124.2.left_, r124.2.fall_.Keep, r124.2.fall_.Tear, r124.2.acts_, r124.2.falls_, x58, x59, x60, x61, x62, x63, x64, x65, x66, x67)))) else (some (.inl (IntKind.i64.wrap (1 + ((IntKind.i64.wrap (y71.C)).tmod 200)), 0, 0, x55, x56, x57, x53, x54, l39, l43, x46, x47, x48, x49, x50, x51, x52, x58, x59, x60, x61, x62, x63, x64, x65, x66, x67)))) else (some (.inl (IntKind.i64.wrap (1 + ((IntKind.i64.wrap (y71.C)).tmod 200)), 0, 0, x55, x56, x57, x53, x54, l39, l43, x46, x47, x48, x49, x50, x51, x52, x58, x59, x60, x61, x62, x63, x64, x65, x66, x67))))))))
def F.law13_KeyringPlays.r5 (x38 : Int) (x132 : Int) (x177 : Int) (l178 : List disk_sector) (l182 : List (Int × disk_sector)) (x185 : Bool) (x186 : Bool) (x187 : Int) (x188 : Int) (x189 : Int) (x190 : Int) (x191 : Int) (x192 : Int) (x193 : Int) (x194 : Int) (x195 : Int) (x196 : Int) (x197 : Int) (x198 : Int) (x199 : Int) (x200 : Int) (x201 : Int) (x202 : Int) (x203 : Int) (x204 : Int) (x205 : Int) (x206 : Int) : Option ((Int × (List disk_sector) × (List (Int × disk_sector)) × Bool × Bool × Int × Int × Int × Int × Int × Int × Int × Int × Int × Int × Int × Int × Int × Int × Int × Int × Int × Int × Int × Int) ⊕ (((List disk_sector) × (List (Int × disk_sector)) × Bool × Bool × Int × Int × Int × Int × Int × Int × Int × Int × Int × Int × Int × Int × Int × Int × Int × Int × Int × Int × Int × Int) ⊕ (Bool))) :=
  if x177 != x132 then (some (.inr (.inr (false)))) else (Option.bind (F.law13_stands (⟨x204, x205, x206⟩ : keyring_Ring) (⟨x202, x203⟩ : guard_Guard) (⟨l178, l182, x185, x186, x187, (⟨x188, x189⟩ : disk_Fall), x190, x191⟩ : disk_Disk) (⟨(⟨x192, x193, x194, x195, x196, x197, x198, x199⟩ : A8_Inti64), x200, x201⟩ : law13_plain)) (fun (r208 : Bool) => if !r208 then (some (.inr (.inr (false)))) else (some (.inl (IntKind.i64.wrap (x38 + 1), (⟨l178, l182, x185, x186, x187, (⟨x188, x189⟩ : disk_Fall), x190, x191⟩ : disk_Disk).sure_, (⟨l178, l182, x185, x186, x187, (⟨x188, x189⟩ : disk_Fall), x190, x191⟩ : disk_Disk).wait_, (⟨l178, l182, x185, x186, x187, (⟨x188, x189⟩ : disk_Fall), x190, x191⟩ : disk_Disk).off_, (⟨l178, l182, x185, x186, x187, (⟨x188, x189⟩ : disk_Fall), x190, x191⟩ : disk_Disk).armed_, (⟨l178, l182, x185, x186, x187, (⟨x188, x189⟩ : disk_Fall), x190, x191⟩ : disk_Disk).left_, (⟨l178, l182, x185, x186, x187, (⟨x188, x189⟩ : disk_Fall), x190, x191⟩ : disk_Disk).fall_.Keep, (⟨l178, l182, x185, x186, x187, (⟨x188, x189⟩ : disk_Fall), x190, x191⟩ : disk_Disk).fall_.Tear, (⟨l178, l182, x185, x186, x187, (⟨x188, x189⟩ : disk_Fall), x190, x191⟩ : disk_Disk).acts_, (⟨l178, l182, x185, x186, x187, (⟨x188, x189⟩ : disk_Fall), x190, x191⟩ : disk_Disk).falls_, (⟨x202, x203⟩ : guard_Guard).boot_, (⟨x202, x203⟩ : guard_Guard).n_, (⟨x204, x205, x206⟩ : keyring_Ring).base_, (⟨x204, x205, x206⟩ : keyring_Ring).slots_, (⟨x204, x205, x206⟩ : keyring_Ring).shred_, (⟨(⟨x192, x193, x194, x195, x196, x197, x198, x199⟩ : A8_Inti64), x200, x201⟩ : law13_plain).keys_.e0, (⟨(⟨x192, x193, x194, x195, x196, x197, x198, x199⟩ : A8_Inti64), x200, x201⟩ : law13_plain).keys_.e1, (⟨(⟨x192, x193, x194, x195, x196, x197, x198, x199⟩ : A8_Inti64), x200, x201⟩ : law13_plain).keys_.e2, (⟨(⟨x192, x193, x194, x195, x196, x197, x198, x199⟩ : A8_Inti64), x200, x201⟩ : law13_plain).keys_.e3, (⟨(⟨x192, x193, x194, x195, x196, x197, x198, x199⟩ : A8_Inti64), x200, x201⟩ : law13_plain).keys_.e4, (⟨(⟨x192, x193, x194, x195, x196, x197, x198, x199⟩ : A8_Inti64), x200, x201⟩ : law13_plain).keys_.e5, (⟨(⟨x192, x193, x194, x195, x196, x197, x198, x199⟩ : A8_Inti64), x200, x201⟩ : law13_plain).keys_.e6, (⟨(⟨x192, x193, x194, x195, x196, x197, x198, x199⟩ : A8_Inti64), x200, x201⟩ : law13_plain).keys_.e7, (⟨(⟨x192, x193, x194, x195, x196, x197, x198, x199⟩ : A8_Inti64), x200, x201⟩ : law13_plain).boot_, (⟨(⟨x192, x193, x194, x195, x196, x197, x198, x199⟩ : A8_Inti64), x200, x201⟩ : law13_plain).shred_)))))
def F.law13_KeyringPlays.r4 (x38 : Int) (y71 : law13_Op) (x130 : Int) (x131 : Int) (x132 : Int) (x133 : Int) (x134 : Int) (x135 : Int) (x136 : Int) (x137 : Int) (l138 : List disk_sector) (l142 : List (Int × disk_sector)) (x145 : Bool) (x146 : Bool) (x147 : Int) (x148 : Int) (x149 : Int) (x150 : Int) (x151 : Int) (x152 : Int) (x153 : Int) (x154 : Int) (x155 : Int) (x156 : Int) (x157 : Int) (x158 : Int) (x159 : Int) (x160 : Int) (x161 : Int) : Option ((Int × (List disk_sector) × (List (Int × disk_sector)) × Bool × Bool × Int × Int × Int × Int × Int × Int × Int × Int × Int × Int × Int × Int × Int × Int × Int × Int × Int × Int × Int × Int) ⊕ (((List disk_sector) × (List (Int × disk_sector)) × Bool × Bool × Int × Int × Int × Int × Int × Int × Int × Int × Int × Int × Int × Int × Int × Int × Int × Int × Int × Int × Int × Int) ⊕ (Bool))) :=
  thru (Option.bind (F.disk_Disk_Up (⟨l138, l142, x145, x146, x147, (⟨x148, x149⟩ : disk_Fall), x150, x151⟩ : disk_Disk)) (fun (r163 : Bool) => if !r163 then (if x131 != 8 then (some (.inr (.inr (.inr (false))))) else (Option.bind (F.law13_again y71.F y71.I x130 (⟨l138, l142, x145, x146, x147, (⟨x148, x149⟩ : disk_Fall), x150, x151⟩ : disk_Disk) (⟨(⟨x152, x153, x154, x155, x156, x157, x158, x159⟩ : A8_Inti64), x160, x161⟩ : law13_plain)) (fun (r167 : (Option (keyring_Ring × guard_Guard)) × disk_Disk × law13_plain) => optC r167.1 (none) (fun (r167_s1 : (keyring_Ring × guard_Guard)) => some (.inl (x132, r167.2.1.sure_, r167.2.1.wait_, r167.2.1.off_, r167.2.1.armed_, r167.2.1.left_, r167.2.1.fall_.Keep, r167.2.1.fall_.Tear, r167.2.1.acts_, r167.2.1.falls_, r167.2.2.keys_.e0, r167.2.2.keys_.e1, r167.2.2.keys_.e2, r167.2.2.keys_.e3, r167.2.2.keys_.e4, r167.2.2.keys_.e5, r167.2.2.keys_.e6, r167.2.2.keys_.e7, r167.2.2.boot_, r167.2.2.shred_, r167_s1.2.boot_, r167_s1.2.n_, r167_s1.1.base_, r167_s1.1.slots_, r167_s1.1.shred_)))))) else (some (.inl (x131, (⟨l138, l142, x145, x146, x147, (⟨x148, x149⟩ : disk_Fall), x150, x151⟩ : disk_Disk).sure_, (⟨l138, l142, x145, x146, x147, (⟨x148, x149⟩ : disk_Fall), x150, x151⟩ : disk_Disk).wait_, (⟨l138, l142, x145, x146, x147, (⟨x148, x149⟩ : disk_Fall), x150, x151⟩ : disk_Disk).off_, (⟨l138, l142, x145, x146, x147, (⟨x148, x149⟩ : disk_Fall), x150, x151⟩ : disk_Disk).armed_, (⟨l138, l142, x145, x146, x147, (⟨x148, x149⟩ : disk_Fall), x150, x151⟩ : disk_Disk).left_, (⟨l138, l142, x145, x146, x147, (⟨x148, x149⟩ : disk_Fall), x150, x151⟩ : disk_Disk).fall_.Keep, (⟨l138, l142, x145, x146, x147, (⟨x148, x149⟩ : disk_Fall), x150, x151⟩ : disk_Disk).fall_.Tear, (⟨l138, l142, x145, x146, x147, (⟨x148, x149⟩ : disk_Fall), x150, x151⟩ : disk_Disk).acts_, (⟨l138, l142, x145, x146, x147, (⟨x148, x149⟩ : disk_Fall), x150, x151⟩ : disk_Disk).falls_, x152, x153, x154, x155, x156, x157, x158, x159, x160, x161, x136, x137, x133, x134, x135))))) (fun x => F.law13_KeyringPlays.r5 x38 x132 x.1 x.2.1 x.2.2.1 x.2.2.2.1 x.2.2.2.2.1 x.2.2.2.2.2.1 x.2.2.2.2.2.2.1 x.2.2.2.2.2.2.2.1 x.2.2.2.2.2.2.2.2.1 x.2.2.2.2.2.2.2.2.2.1 x.2.2.2.2.2.2.2.2.2.2.1 x.2.2.2.2.2.2.2.2.2.2.2.1 x.2.2.2.2.2.2.2.2.2.2.2.2.1 x.2.2.2.2.2.2.2.2.2.2.2.2.2.1 x.2.2.2.2.2.2.2.2.2.2.2.2.2.2.1 x.2.2.2.2.2.2.2.2.2.2.2.2.2.2.2.1 x.2.2.2.2.2.2.2.2.2.2.2.2.2.2.2.2.1 x.2.2.2.2.2.2.2.2.2.2.2.2.2.2.2.2.2.1 x.2.2.2.2.2.2.2.2.2.2.2.2.2.2.2.2.2.2.1 x.2.2.2.2.2.2.2.2.2.2.2.2.2.2.2.2.2.2.2.1 x.2.2.2.2.2.2.2.2.2.2.2.2.2.2.2.2.2.2.2.2.1 x.2.2.2.2.2.2.2.2.2.2.2.2.2.2.2.2.2.2.2.2.2.1 x.2.2.2.2.2.2.2.2.2.2.2.2.2.2.2.2.2.2.2.2.2.2.1 x.2.2.2.2.2.2.2.2.2.2.2.2.2.2.2.2.2.2.2.2.2.2.2.1 x.2.2.2.2.2.2.2.2.2.2.2.2.2.2.2.2.2.2.2.2.2.2.2.2)
def F.law13_KeyringPlays.r2 (x0 : List law13_Op) (x38 : Int) (l39 : List disk_sector) (l43 : List (Int × disk_sector)) (x46 : Bool) (x47 : Bool) (x48 : Int) (x49 : Int) (x50 : Int) (x51 : Int) (x52 : Int) (x53 : Int) (x54 : Int) (x55 : Int) (x56 : Int) (x57 : Int) (x58 : Int) (x59 : Int) (x60 : Int) (x61 : Int) (x62 : Int) (x63 : Int) (x64 : Int) (x65 : Int) (x66 : Int) (x67 : Int) : Option ((Int × (List disk_sector) × (List (Int × disk_sector)) × Bool × Bool × Int × Int × Int × Int × Int × Int × Int × Int × Int × Int × Int × Int × Int × Int × Int × Int × Int × Int × Int × Int) ⊕ (((List disk_sector) × (List (Int × disk_sector)) × Bool × Bool × Int × Int × Int × Int × Int × Int × Int × Int × Int × Int × Int × Int × Int × Int × Int × Int × Int × Int × Int × Int) ⊕ (Bool))) :=
  Option.bind (at_ x0 x38) (fun (y71 : law13_Op) => thru (Option.bind (if y71.Kind == 0 then (some ((y71.Kind == 0))) else (some ((y71.Kind == 1)))) (fun x => F.law13_KeyringPlays.r3 l39 l43 x46 x47 x48 x49 x50 x51 x52 x53 x54 x55 x56 x57 x58 x59 x60 x61 x62 x63 x64 x65 x66 x67 y71 x)) (fun x => F.law13_KeyringPlays.r4 x38 y71 x.1 x.2.1 x.2.2.1 x.2.2.2.1 x.2.2.2.2.1 x.2.2.2.2.2.1 x.2.2.2.2.2.2.1 x.2.2.2.2.2.2.2.1 x.2.2.2.2.2.2.2.2.1 x.2.2.2.2.2.2.2.2.2.1 x.2.2.2.2.2.2.2.2.2.2.1 x.2.2.2.2.2.2.2.2.2.2.2.1 x.2.2.2.2.2.2.2.2.2.2.2.2.1 x.2.2.2.2.2.2.2.2.2.2.2.2.2.1 x.2.2.2.2.2.2.2.2.2.2.2.2.2.2.1 x.2.2.2.2.2.2.2.2.2.2.2.2.2.2.2.1 x.2.2.2.2.2.2.2.2.2.2.2.2.2.2.2.2.1 x.2.2.2.2.2.2.2.2.2.2.2.2.2.2.2.2.2.1 x.2.2.2.2.2.2.2.2.2.2.2.2.2.2.2.2.2.2.1 x.2.2.2.2.2.2.2.2.2.2.2.2.2.2.2.2.2.2.2.1 x.2.2.2.2.2.2.2.2.2.2.2.2.2.2.2.2.2.2.2.2.1 x.2.2.2.2.2.2.2.2.2.2.2.2.2.2.2.2.2.2.2.2.2.1 x.2.2.2.2.2.2.2.2.2.2.2.2.2.2.2.2.2.2.2.2.2.2.1 x.2.2.2.2.2.2.2.2.2.2.2.2.2.2.2.2.2.2.2.2.2.2.2.1 x.2.2.2.2.2.2.2.2.2.2.2.2.2.2.2.2.2.2.2.2.2.2.2.2.1 x.2.2.2.2.2.2.2.2.2.2.2.2.2.2.2.2.2.2.2.2.2.2.2.2.2.1 x.2.2.2.2.2.2.2.2.2.2.2.2.2.2.2.2.2.2.2.2.2.2.2.2.2.2))
def F.law13_KeyringPlays.l6 (x0 : List law13_Op) (x38 : Int) (l39 : List disk_sector) (l43 : List (Int × disk_sector)) (x46 : Bool) (x47 : Bool) (x48 : Int) (x49 : Int) (x50 : Int) (x51 : Int) (x52 : Int) (x53 : Int) (x54 : Int) (x55 : Int) (x56 : Int) (x57 : Int) (x58 : Int) (x59 : Int) (x60 : Int) (x61 : Int) (x62 : Int) (x63 : Int) (x64 : Int) (x65 : Int) (x66 : Int) (x67 : Int) : Option ((Int × (List disk_sector) × (List (Int × disk_sector)) × Bool × Bool × Int × Int × Int × Int × Int × Int × Int × Int × Int × Int × Int × Int × Int × Int × Int × Int × Int × Int × Int × Int) ⊕ (((List disk_sector) × (List (Int × disk_sector)) × Bool × Bool × Int × Int × Int × Int × Int × Int × Int × Int × Int × Int × Int × Int × Int × Int × Int × Int × Int × Int × Int × Int) ⊕ (Bool))) :=
  thru (if decide (x38 < (x0.length : Int)) then (if decide (x38 < 40) then (some (.inl ())) else (some (.inr (.inr (.inl (l39, l43, x46, x47, x48, x49, x50, x51, x52, x53, x54, x55, x56, x57, x58, x59, x60, x61, x62, x63, x64, x65, x66, x67)))))) else (some (.inr (.inr (.inl (l39, l43, x46, x47, x48, x49, x50, x51, x52, x53, x54, x55, x56, x57, x58, x59, x60, x61, x62, x63, x64, x65, x66, x67)))))) (fun x => F.law13_KeyringPlays.r2 x0 x38 l39 l43 x46 x47 x48 x49 x50 x51 x52 x53 x54 x55 x56 x57 x58 x59 x60 x61 x62 x63 x64 x65 x66 x67)
def F.law13_KeyringPlays.r7 (l213 : List disk_sector) (l217 : List (Int × disk_sector)) (x220 : Bool) (x221 : Bool) (x222 : Int) (x223 : Int) (x224 : Int) (x225 : Int) (x226 : Int) (x227 : Int) (x228 : Int) (x229 : Int) (x230 : Int) (x231 : Int) (x232 : Int) (x233 : Int) (x234 : Int) (x235 : Int) (x236 : Int) (x237 : Int) (x238 : Int) (x239 : Int) (x240 : Int) (x241 : Int) : Option (Bool) :=
  Option.bind (F.law13_awake) (fun (r242 : Bool) => some (r242))
def F.law13_KeyringPlays.r1 (x0 : List law13_Op) (r21_s1 : disk_Disk) : Option (Bool) :=
  Option.bind (F.law13_made 1 r21_s1) (fun (r30 : (Option (keyring_Ring × guard_Guard))) => optC r30 (some (false)) (fun (r30_s1 : (keyring_Ring × guard_Guard)) => thru (iter (fun x => F.law13_KeyringPlays.l6 x0 x.1 x.2.1 x.2.2.1 x.2.2.2.1 x.2.2.2.2.1 x.2.2.2.2.2.1 x.2.2.2.2.2.2.1 x.2.2.2.2.2.2.2.1 x.2.2.2.2.2.2.2.2.1 x.2.2.2.2.2.2.2.2.2.1 x.2.2.2.2.2.2.2.2.2.2.1 x.2.2.2.2.2.2.2.2.2.2.2.1 x.2.2.2.2.2.2.2.2.2.2.2.2.1 x.2.2.2.2.2.2.2.2.2.2.2.2.2.1 x.2.2.2.2.2.2.2.2.2.2.2.2.2.2.1 x.2.2.2.2.2.2.2.2.2.2.2.2.2.2.2.1 x.2.2.2.2.2.2.2.2.2.2.2.2.2.2.2.2.1 x.2.2.2.2.2.2.2.2.2.2.2.2.2.2.2.2.2.1 x.2.2.2.2.2.2.2.2.2.2.2.2.2.2.2.2.2.2.1 x.2.2.2.2.2.2.2.2.2.2.2.2.2.2.2.2.2.2.2.1 x.2.2.2.2.2.2.2.2.2.2.2.2.2.2.2.2.2.2.2.2.1 x.2.2.2.2.2.2.2.2.2.2.2.2.2.2.2.2.2.2.2.2.2.1 x.2.2.2.2.2.2.2.2.2.2.2.2.2.2.2.2.2.2.2.2.2.2.1 x.2.2.2.2.2.2.2.2.2.2.2.2.2.2.2.2.2.2.2.2.2.2.2.1 x.2.2.2.2.2.2.2.2.2.2.2.2.2.2.2.2.2.2.2.2.2.2.2.2) FUEL (0, r21_s1.sure_, r21_s1.wait_, r21_s1.off_, r21_s1.armed_, r21_s1.left_, r21_s1.fall_.Keep, r21_s1.fall_.Tear, r21_s1.acts_, r21_s1.falls_, r30_s1.2.boot_, r30_s1.2.n_, r30_s1.1.base_, r30_s1.1.slots_, r30_s1.1.shred_, 0, 0, 0, 0, 0, 0, 0, 0, 1, 0)) (fun x => F.law13_KeyringPlays.r7 x.1 x.2.1 x.2.2.1 x.2.2.2.1 x.2.2.2.2.1 x.2.2.2.2.2.1 x.2.2.2.2.2.2.1 x.2.2.2.2.2.2.2.1 x.2.2.2.2.2.2.2.2.1 x.2.2.2.2.2.2.2.2.2.1 x.2.2.2.2.2.2.2.2.2.2.1 x.2.2.2.2.2.2.2.2.2.2.2.1 x.2.2.2.2.2.2.2.2.2.2.2.2.1 x.2.2.2.2.2.2.2.2.2.2.2.2.2.1 x.2.2.2.2.2.2.2.2.2.2.2.2.2.2.1 x.2.2.2.2.2.2.2.2.2.2.2.2.2.2.2.1 x.2.2.2.2.2.2.2.2.2.2.2.2.2.2.2.2.1 x.2.2.2.2.2.2.2.2.2.2.2.2.2.2.2.2.2.1 x.2.2.2.2.2.2.2.2.2.2.2.2.2.2.2.2.2.2.1 x.2.2.2.2.2.2.2.2.2.2.2.2.2.2.2.2.2.2.2.1 x.2.2.2.2.2.2.2.2.2.2.2.2.2.2.2.2.2.2.2.2.1 x.2.2.2.2.2.2.2.2.2.2.2.2.2.2.2.2.2.2.2.2.2.1 x.2.2.2.2.2.2.2.2.2.2.2.2.2.2.2.2.2.2.2.2.2.2.1 x.2.2.2.2.2.2.2.2.2.2.2.2.2.2.2.2.2.2.2.2.2.2.2)))
def F.law13_KeyringPlays (x0 : List law13_Op) : Option Bool :=
  Option.bind (F.disk_New 20) (fun (r21 : (Option disk_Disk) × Int) => optC r21.1 (some (false)) (fun (r21_s1 : disk_Disk) => Option.bind (some (())) (fun x => F.law13_KeyringPlays.r1 x0 r21_s1)))
set_option maxRecDepth 100000 in
set_option maxHeartbeats 4000000 in
theorem c_law13_KeyringPlays (I : Hl) (x0 : List law13_Op) (p0 : Option Addr) (c0 : Nat) (res : Bool) (hF : F.law13_KeyringPlays x0 = some res) (hr0 : roN I n_law13_Op p0 c0 x0) : Tr Tryz.prog 3 [.slice p0 x0.length c0] [imm I] (fun r H' => r = .bool res ∧ H' = [imm I]) := by
  unfold F.law13_KeyringPlays at hF
  refine tr_of_cw (fn := Tryz.f3) Tryz.func3 rfl (Nat.le_of_ble_eq_true rfl) 141 rfl fun F0 w0 => ?_
  refine cw_keep [0] (L' := [(0, .slice p0 x0.length c0)]) rfl ?_
  refine cw_state (S' := SAT w0 ([imm I] ++ F0)) (fun w hs => hs) ?_
  refine cw_seq ?_
  refine cw_region ?_
  refine ow_vals 1 (j := 1) [0] [(0, .slice p0 x0.length c0)] rfl (by kernel_rfl) ?_
  refine ow_end rfl ?_
  refine ew_then ?_
  refine cw_seq ?_
  refine cw_region ?_
  obtain ⟨r21, h22, hF⟩ := bind_some hF
  refine ow_pw rfl (pw_call (F := [] ++ F0) rfl rfl rfl rfl rfl rfl rfl (by kernel_rfl) (perm_of_pulls [0] rfl) (c_disk_New _ 20 r21 h22) ?_)
  rintro _ _ (⟨hO, rfl, rfl⟩ | ⟨r21_s1, r21_b2, r21_p4, r21_c5, r21_b7, hO, rfl, rfl⟩)
  · rw [hO] at hF
    try dsimp only [optC] at hF
    refine nw_H (H' := [imm I] ++ F0) rfl (nw_ow ?_)
    refine ow_vals 5 (j := 6) [0, 3, 4] [(0, .slice p0 x0.length c0), (3, .pointer none), (4, .int .i64 1)] rfl (by kernel_rfl) ?_
    refine ow_end rfl ?_
    refine ew_then ?_
    refine cw_seq ?_
    refine cw_seq ?_
    refine cw_region ?_
    refine ow_vals 6 (j := 6) [0, 3, 21] [(0, .slice p0 x0.length c0), (3, .pointer none), (21, .bool true)] rfl (by kernel_rfl) ?_
    refine ow_end rfl ?_
    refine ew_then ?_
    refine cw_cond_t rfl rfl rfl ?_
    refine cw_seq ?_
    refine cw_region ?_
    refine ow_vals 1 (j := 1) [2] [(2, .bool false)] rfl (by kernel_rfl) ?_
    refine ow_end rfl ?_
    refine ew_then ?_
    refine cw_ret ?_
    refine ew_then_ret ?_
    have hR := Option.some.inj hF
    subst hR
    exact fin1 (H1 := [imm I]) (fun w hs => sat_to [0] 0 rfl hs) rfl (rr_tmp rfl) ⟨rfl, rfl⟩
  rw [hO] at hF
  try dsimp only [optC] at hF
  refine nw_H (H' := [imm I, pt r21_b2 #[.slice r21_p4 r21_s1.sure_.length r21_c5, .map (some r21_b7), .bool r21_s1.off_, .bool r21_s1.armed_, .int .i64 r21_s1.left_, .int .u64 r21_s1.fall_.Keep, .int .i64 r21_s1.fall_.Tear, .int .i64 r21_s1.acts_, .int .i64 r21_s1.falls_] 52, own e_disk_sector 55 r21_p4 r21_c5 r21_s1.sure_, mpo (kInt .i64) (fun x : disk_sector => Value.agg #[.string x.s_, .int .i64 x.at_]) r21_b7 r21_s1.wait_] ++ F0) rfl (nw_ow ?_)
  refine ow_vals 5 (j := 6) [0, 3, 4] [(0, .slice p0 x0.length c0), (3, .pointer (some ⟨r21_b2, 0, none⟩)), (4, .int .i64 0)] rfl (by kernel_rfl) ?_
  refine ow_end rfl ?_
  refine ew_then ?_
  obtain ⟨v27, hF, hK27⟩ := bind_some hF
  refine cw_mid (fun a w => () = v27 ∧ Fr 141 [(0, .slice p0 x0.length c0), (3, .pointer (some ⟨r21_b2, 0, none⟩))] a ∧ SAT w0 ([imm I, pt r21_b2 #[.slice r21_p4 r21_s1.sure_.length r21_c5, .map (some r21_b7), .bool r21_s1.off_, .bool r21_s1.armed_, .int .i64 r21_s1.left_, .int .u64 r21_s1.fall_.Keep, .int .i64 r21_s1.fall_.Tear, .int .i64 r21_s1.acts_, .int .i64 r21_s1.falls_] 52, own e_disk_sector 55 r21_p4 r21_c5 r21_s1.sure_, mpo (kInt .i64) (fun x : disk_sector => Value.agg #[.string x.s_, .int .i64 x.at_]) r21_b7 r21_s1.wait_] ++ F0) w) ?_ ?_
  · refine cw_seq ?_
    refine cw_region ?_
    refine ow_vals 6 (j := 6) [0, 3, 21] [(0, .slice p0 x0.length c0), (3, .pointer (some ⟨r21_b2, 0, none⟩)), (21, .bool false)] rfl (by kernel_rfl) ?_
    refine ow_end rfl ?_
    refine ew_then ?_
    refine cw_cond_f rfl rfl rfl ?_
    refine cw_skip ?_
    have hR := Option.some.inj hF
    exact fun a w hf hs => ⟨hR, hf.keep [0, 3], sat_to [0, 0, 0, 0] 0 rfl hs⟩
  rintro a w ⟨hv, hf, hs⟩
  subst hv
  replace hF := hK27
  clear hK27
  try dsimp only at hF
  revert a w
  show CW _ _ _ 141 [(0, .slice p0 x0.length c0), (3, .pointer (some ⟨r21_b2, 0, none⟩))] (SAT w0 ([imm I, pt r21_b2 #[.slice r21_p4 r21_s1.sure_.length r21_c5, .map (some r21_b7), .bool r21_s1.off_, .bool r21_s1.armed_, .int .i64 r21_s1.left_, .int .u64 r21_s1.fall_.Keep, .int .i64 r21_s1.fall_.Tear, .int .i64 r21_s1.acts_, .int .i64 r21_s1.falls_] 52, own e_disk_sector 55 r21_p4 r21_c5 r21_s1.sure_, mpo (kInt .i64) (fun x : disk_sector => Value.agg #[.string x.s_, .int .i64 x.at_]) r21_b7 r21_s1.wait_] ++ F0))
  unfold F.law13_KeyringPlays.r1 at hF
  refine cw_seq ?_
  refine cw_region ?_
  refine ow_vals 1 (j := 1) [0, 3, 22] [(0, .slice p0 x0.length c0), (3, .pointer (some ⟨r21_b2, 0, none⟩)), (22, .agg #[.int .i64 0, .int .i64 0, .int .i64 0, .int .i64 0, .int .i64 0, .int .i64 0, .int .i64 0, .int .i64 0, .int .i64 1, .int .i64 0])] rfl (by kernel_rfl) ?_
  refine ow_pw rfl (pw_box (cs := #[.int .i64 0, .int .i64 0, .int .i64 0, .int .i64 0, .int .i64 0, .int .i64 0, .int .i64 0, .int .i64 0, .int .i64 1, .int .i64 0]) rfl rfl rfl rfl rfl rfl fun b28 => nw_ow ?_)
  refine ow_vals 1 (j := 3) [0, 3, 5] [(0, .slice p0 x0.length c0), (3, .pointer (some ⟨r21_b2, 0, none⟩)), (5, .pointer (some ⟨b28, 0, none⟩))] rfl (by kernel_rfl) ?_
  refine ow_end rfl ?_
  refine ew_then ?_
  refine cw_seq ?_
  refine cw_region ?_
  refine ow_vals 1 (j := 1) [0, 3, 5, 24] [(0, .slice p0 x0.length c0), (3, .pointer (some ⟨r21_b2, 0, none⟩)), (5, .pointer (some ⟨b28, 0, none⟩)), (24, .pointer (some ⟨r21_b2, 0, none⟩))] rfl (by kernel_rfl) ?_
  obtain ⟨r30, h31, hF⟩ := bind_some hF
  refine ow_pw rfl (pw_call (F := [pt b28 #[.int .i64 0, .int .i64 0, .int .i64 0, .int .i64 0, .int .i64 0, .int .i64 0, .int .i64 0, .int .i64 0, .int .i64 1, .int .i64 0] 30] ++ F0) rfl rfl rfl rfl rfl rfl rfl (by kernel_rfl) (perm_of_pulls [1, 1, 1, 1] rfl) (c_law13_made _ 1 r21_s1 r21_p4 r21_c5 r21_b7 r21_b2 r30 h31) ?_)
  rintro _ _ (⟨hO, rfl, rfl⟩ | ⟨r30_s1, r30_b2, r30_b4, hO, rfl, rfl⟩)
  · rw [hO] at hF
    try dsimp only [optC] at hF
    refine nw_H (H' := [imm I, pt r21_b2 #[.slice r21_p4 r21_s1.sure_.length r21_c5, .map (some r21_b7), .bool r21_s1.off_, .bool r21_s1.armed_, .int .i64 r21_s1.left_, .int .u64 r21_s1.fall_.Keep, .int .i64 r21_s1.fall_.Tear, .int .i64 r21_s1.acts_, .int .i64 r21_s1.falls_] 52, own e_disk_sector 55 r21_p4 r21_c5 r21_s1.sure_, mpo (kInt .i64) (fun x : disk_sector => Value.agg #[.string x.s_, .int .i64 x.at_]) r21_b7 r21_s1.wait_, pt b28 #[.int .i64 0, .int .i64 0, .int .i64 0, .int .i64 0, .int .i64 0, .int .i64 0, .int .i64 0, .int .i64 0, .int .i64 1, .int .i64 0] 30] ++ F0) rfl (nw_ow ?_)
    refine ow_vals 1 (j := 3) [0, 3, 5, 6] [(0, .slice p0 x0.length c0), (3, .pointer (some ⟨r21_b2, 0, none⟩)), (5, .pointer (some ⟨b28, 0, none⟩)), (6, .pointer none)] rfl (by kernel_rfl) ?_
    refine ow_end rfl ?_
    refine ew_then ?_
    refine cw_seq ?_
    refine cw_seq ?_
    refine cw_region ?_
    refine ow_vals 2 (j := 2) [0, 3, 5, 6, 27] [(0, .slice p0 x0.length c0), (3, .pointer (some ⟨r21_b2, 0, none⟩)), (5, .pointer (some ⟨b28, 0, none⟩)), (6, .pointer none), (27, .bool true)] rfl (by kernel_rfl) ?_
    refine ow_end rfl ?_
    refine ew_then ?_
    refine cw_cond_t rfl rfl rfl ?_
    refine cw_seq ?_
    refine cw_region ?_
    refine ow_vals 1 (j := 1) [2] [(2, .bool false)] rfl (by kernel_rfl) ?_
    refine ow_end rfl ?_
    refine ew_then ?_
    refine cw_ret ?_
    refine ew_then_ret ?_
    have hR := Option.some.inj hF
    subst hR
    exact fin1 (H1 := [imm I]) (fun w hs => sat_to [1, 1, 1, 1, 0] 4 rfl hs) rfl (rr_tmp rfl) ⟨rfl, rfl⟩
  rw [hO] at hF
  try dsimp only [optC] at hF
  refine nw_H (H' := [imm I, pt r21_b2 #[.slice r21_p4 r21_s1.sure_.length r21_c5, .map (some r21_b7), .bool r21_s1.off_, .bool r21_s1.armed_, .int .i64 r21_s1.left_, .int .u64 r21_s1.fall_.Keep, .int .i64 r21_s1.fall_.Tear, .int .i64 r21_s1.acts_, .int .i64 r21_s1.falls_] 52, pt r30_b4 #[.pointer (some ⟨r21_b2, 0, none⟩), .int .i64 r30_s1.2.boot_, .int .i64 r30_s1.2.n_] 75, pt r30_b2 #[.pointer (some ⟨r30_b4, 0, none⟩), .int .i64 r30_s1.1.base_, .int .i64 r30_s1.1.slots_, .int .i64 r30_s1.1.shred_] 78, own e_disk_sector 55 r21_p4 r21_c5 r21_s1.sure_, mpo (kInt .i64) (fun x : disk_sector => Value.agg #[.string x.s_, .int .i64 x.at_]) r21_b7 r21_s1.wait_, pt b28 #[.int .i64 0, .int .i64 0, .int .i64 0, .int .i64 0, .int .i64 0, .int .i64 0, .int .i64 0, .int .i64 0, .int .i64 1, .int .i64 0] 30] ++ F0) rfl (nw_ow ?_)
  refine ow_vals 1 (j := 3) [0, 3, 5, 6] [(0, .slice p0 x0.length c0), (3, .pointer (some ⟨r21_b2, 0, none⟩)), (5, .pointer (some ⟨b28, 0, none⟩)), (6, .pointer (some ⟨r30_b2, 0, none⟩))] rfl (by kernel_rfl) ?_
  refine ow_end rfl ?_
  refine ew_then ?_
  refine cw_seq ?_
  refine cw_seq ?_
  refine cw_region ?_
  refine ow_vals 2 (j := 2) [0, 3, 5, 6, 27] [(0, .slice p0 x0.length c0), (3, .pointer (some ⟨r21_b2, 0, none⟩)), (5, .pointer (some ⟨b28, 0, none⟩)), (6, .pointer (some ⟨r30_b2, 0, none⟩)), (27, .bool false)] rfl (by kernel_rfl) ?_
  refine ow_end rfl ?_
  refine ew_then ?_
  refine cw_cond_f rfl rfl rfl ?_
  refine cw_skip ?_
  refine ew_then ?_
  obtain ⟨v34, hF, hK34⟩ := thru_some hF
  refine cw_mid (fun a w => ∃ (l213 : List disk_sector), ∃ (l217 : List (Int × disk_sector)), ∃ (x220 : Bool), ∃ (x221 : Bool), ∃ (x222 : Int), ∃ (x223 : Int), ∃ (x224 : Int), ∃ (x225 : Int), ∃ (x226 : Int), ∃ (x227 : Int), ∃ (x228 : Int), ∃ (x229 : Int), ∃ (x230 : Int), ∃ (x231 : Int), ∃ (x232 : Int), ∃ (x233 : Int), ∃ (x234 : Int), ∃ (x235 : Int), ∃ (x236 : Int), ∃ (x237 : Int), ∃ (x238 : Int), ∃ (x239 : Int), ∃ (x240 : Int), ∃ (x241 : Int), ∃ (b211 : Nat), ∃ (b212 : Nat), ∃ (p214 : Option Addr), ∃ (c215 : Nat), ∃ (b219 : Nat), .inl (l213, l217, x220, x221, x222, x223, x224, x225, x226, x227, x228, x229, x230, x231, x232, x233, x234, x235, x236, x237, x238, x239, x240, x241) = v34 ∧ Fr 141 [] a ∧ SAT w0 ([imm I, pt r21_b2 #[.slice p214 l213.length c215, .map (some b219), .bool x220, .bool x221, .int .i64 x222, .int .u64 x223, .int .i64 x224, .int .i64 x225, .int .i64 x226] 52, pt b211 #[.pointer (some ⟨r21_b2, 0, none⟩), .int .i64 x227, .int .i64 x228] 75, pt b212 #[.pointer (some ⟨b211, 0, none⟩), .int .i64 x229, .int .i64 x230, .int .i64 x231] 78, pt b28 #[.int .i64 x232, .int .i64 x233, .int .i64 x234, .int .i64 x235, .int .i64 x236, .int .i64 x237, .int .i64 x238, .int .i64 x239, .int .i64 x240, .int .i64 x241] 30, own e_disk_sector 55 p214 c215 l213, mpo (kInt .i64) (fun x : disk_sector => Value.agg #[.string x.s_, .int .i64 x.at_]) b219 l217] ++ F0) w) ?_ ?_
  · refine cw_seq ?_
    refine cw_region ?_
    refine ow_vals 1 (j := 1) [0, 3, 5, 6, 7] [(0, .slice p0 x0.length c0), (3, .pointer (some ⟨r21_b2, 0, none⟩)), (5, .pointer (some ⟨b28, 0, none⟩)), (6, .pointer (some ⟨r30_b2, 0, none⟩)), (7, .int .i64 0)] rfl (by kernel_rfl) ?_
    refine ow_end rfl ?_
    refine ew_then ?_
    refine cw_block ?_
    refine fun a w hf hs => wp_rounds (fun k a w => ∃ (x38 : Int), ∃ (l39 : List disk_sector), ∃ (l43 : List (Int × disk_sector)), ∃ (x46 : Bool), ∃ (x47 : Bool), ∃ (x48 : Int), ∃ (x49 : Int), ∃ (x50 : Int), ∃ (x51 : Int), ∃ (x52 : Int), ∃ (x53 : Int), ∃ (x54 : Int), ∃ (x55 : Int), ∃ (x56 : Int), ∃ (x57 : Int), ∃ (x58 : Int), ∃ (x59 : Int), ∃ (x60 : Int), ∃ (x61 : Int), ∃ (x62 : Int), ∃ (x63 : Int), ∃ (x64 : Int), ∃ (x65 : Int), ∃ (x66 : Int), ∃ (x67 : Int), ∃ (b36 : Nat), ∃ (b37 : Nat), ∃ (p40 : Option Addr), ∃ (c41 : Nat), ∃ (b45 : Nat), iter (fun x => F.law13_KeyringPlays.l6 x0 x.1 x.2.1 x.2.2.1 x.2.2.2.1 x.2.2.2.2.1 x.2.2.2.2.2.1 x.2.2.2.2.2.2.1 x.2.2.2.2.2.2.2.1 x.2.2.2.2.2.2.2.2.1 x.2.2.2.2.2.2.2.2.2.1 x.2.2.2.2.2.2.2.2.2.2.1 x.2.2.2.2.2.2.2.2.2.2.2.1 x.2.2.2.2.2.2.2.2.2.2.2.2.1 x.2.2.2.2.2.2.2.2.2.2.2.2.2.1 x.2.2.2.2.2.2.2.2.2.2.2.2.2.2.1 x.2.2.2.2.2.2.2.2.2.2.2.2.2.2.2.1 x.2.2.2.2.2.2.2.2.2.2.2.2.2.2.2.2.1 x.2.2.2.2.2.2.2.2.2.2.2.2.2.2.2.2.2.1 x.2.2.2.2.2.2.2.2.2.2.2.2.2.2.2.2.2.2.1 x.2.2.2.2.2.2.2.2.2.2.2.2.2.2.2.2.2.2.2.1 x.2.2.2.2.2.2.2.2.2.2.2.2.2.2.2.2.2.2.2.2.1 x.2.2.2.2.2.2.2.2.2.2.2.2.2.2.2.2.2.2.2.2.2.1 x.2.2.2.2.2.2.2.2.2.2.2.2.2.2.2.2.2.2.2.2.2.2.1 x.2.2.2.2.2.2.2.2.2.2.2.2.2.2.2.2.2.2.2.2.2.2.2.1 x.2.2.2.2.2.2.2.2.2.2.2.2.2.2.2.2.2.2.2.2.2.2.2.2) k (x38, l39, l43, x46, x47, x48, x49, x50, x51, x52, x53, x54, x55, x56, x57, x58, x59, x60, x61, x62, x63, x64, x65, x66, x67) = some v34 ∧ Fr 141 [(0, .slice p0 x0.length c0), (3, .pointer (some ⟨r21_b2, 0, none⟩)), (5, .pointer (some ⟨b28, 0, none⟩)), (6, .pointer (some ⟨b37, 0, none⟩)), (7, .int .i64 x38)] a ∧ SAT w0 ([imm I, pt r21_b2 #[.slice p40 l39.length c41, .map (some b45), .bool x46, .bool x47, .int .i64 x48, .int .u64 x49, .int .i64 x50, .int .i64 x51, .int .i64 x52] 52, pt b36 #[.pointer (some ⟨r21_b2, 0, none⟩), .int .i64 x53, .int .i64 x54] 75, pt b37 #[.pointer (some ⟨b36, 0, none⟩), .int .i64 x55, .int .i64 x56, .int .i64 x57] 78, pt b28 #[.int .i64 x58, .int .i64 x59, .int .i64 x60, .int .i64 x61, .int .i64 x62, .int .i64 x63, .int .i64 x64, .int .i64 x65, .int .i64 x66, .int .i64 x67] 30, own e_disk_sector 55 p40 c41 l39, mpo (kInt .i64) (fun x : disk_sector => Value.agg #[.string x.s_, .int .i64 x.at_]) b45 l43] ++ F0) w) ?_ FUEL a w ⟨0, r21_s1.sure_, r21_s1.wait_, r21_s1.off_, r21_s1.armed_, r21_s1.left_, r21_s1.fall_.Keep, r21_s1.fall_.Tear, r21_s1.acts_, r21_s1.falls_, r30_s1.2.boot_, r30_s1.2.n_, r30_s1.1.base_, r30_s1.1.slots_, r30_s1.1.shred_, 0, 0, 0, 0, 0, 0, 0, 0, 1, 0, r30_b4, r30_b2, r21_p4, r21_c5, r21_b7, hF, hf.keep [0, 3, 5, 6, 7], sat_to [0, 0, 0, 0, 2, 0, 0] 0 rfl hs⟩
    clear hf hs
    clear a w hF
    rintro k a w ⟨x38, l39, l43, x46, x47, x48, x49, x50, x51, x52, x53, x54, x55, x56, x57, x58, x59, x60, x61, x62, x63, x64, x65, x66, x67, b36, b37, p40, c41, b45, hF2, hf, hs⟩
    obtain ⟨k, r35, rfl, hF, hL35⟩ := iter_some hF2
    clear hF2
    revert a w
    show CW _ _ _ 141 [(0, .slice p0 x0.length c0), (3, .pointer (some ⟨r21_b2, 0, none⟩)), (5, .pointer (some ⟨b28, 0, none⟩)), (6, .pointer (some ⟨b37, 0, none⟩)), (7, .int .i64 x38)] (SAT w0 ([imm I, pt r21_b2 #[.slice p40 l39.length c41, .map (some b45), .bool x46, .bool x47, .int .i64 x48, .int .u64 x49, .int .i64 x50, .int .i64 x51, .int .i64 x52] 52, pt b36 #[.pointer (some ⟨r21_b2, 0, none⟩), .int .i64 x53, .int .i64 x54] 75, pt b37 #[.pointer (some ⟨b36, 0, none⟩), .int .i64 x55, .int .i64 x56, .int .i64 x57] 78, pt b28 #[.int .i64 x58, .int .i64 x59, .int .i64 x60, .int .i64 x61, .int .i64 x62, .int .i64 x63, .int .i64 x64, .int .i64 x65, .int .i64 x66, .int .i64 x67] 30, own e_disk_sector 55 p40 c41 l39, mpo (kInt .i64) (fun x : disk_sector => Value.agg #[.string x.s_, .int .i64 x.at_]) b45 l43] ++ F0))
    try dsimp only at hF
    unfold F.law13_KeyringPlays.l6 at hF
    obtain ⟨v68, hF, hK68⟩ := thru_some hF
    refine cw_mid (fun a w => .inl () = v68 ∧ Fr 141 [(0, .slice p0 x0.length c0), (3, .pointer (some ⟨r21_b2, 0, none⟩)), (5, .pointer (some ⟨b28, 0, none⟩)), (6, .pointer (some ⟨b37, 0, none⟩)), (7, .int .i64 x38)] a ∧ SAT w0 ([imm I, pt r21_b2 #[.slice p40 l39.length c41, .map (some b45), .bool x46, .bool x47, .int .i64 x48, .int .u64 x49, .int .i64 x50, .int .i64 x51, .int .i64 x52] 52, pt b36 #[.pointer (some ⟨r21_b2, 0, none⟩), .int .i64 x53, .int .i64 x54] 75, pt b37 #[.pointer (some ⟨b36, 0, none⟩), .int .i64 x55, .int .i64 x56, .int .i64 x57] 78, pt b28 #[.int .i64 x58, .int .i64 x59, .int .i64 x60, .int .i64 x61, .int .i64 x62, .int .i64 x63, .int .i64 x64, .int .i64 x65, .int .i64 x66, .int .i64 x67] 30, own e_disk_sector 55 p40 c41 l39, mpo (kInt .i64) (fun x : disk_sector => Value.agg #[.string x.s_, .int .i64 x.at_]) b45 l43] ++ F0) w) ?_ ?_
    · refine cw_seq ?_
      refine cw_region ?_
      refine ow_vals 5 (j := 5) [0, 3, 5, 6, 7, 32] [(0, .slice p0 x0.length c0), (3, .pointer (some ⟨r21_b2, 0, none⟩)), (5, .pointer (some ⟨b28, 0, none⟩)), (6, .pointer (some ⟨b37, 0, none⟩)), (7, .int .i64 x38), (32, .bool (decide (x38 < (x0.length : Int))))] rfl (by kernel_rfl) ?_
      rcases if_some hF with ⟨h69, hF⟩ | ⟨h69, hF⟩
      · refine ow_slots (L' := [(0, .slice p0 x0.length c0), (3, .pointer (some ⟨r21_b2, 0, none⟩)), (5, .pointer (some ⟨b28, 0, none⟩)), (6, .pointer (some ⟨b37, 0, none⟩)), (7, .int .i64 x38), (32, .bool true)]) (by rw [h69]) ?_
        refine ow_vals 3 (j := 8) [0, 3, 5, 6, 7, 35] [(0, .slice p0 x0.length c0), (3, .pointer (some ⟨r21_b2, 0, none⟩)), (5, .pointer (some ⟨b28, 0, none⟩)), (6, .pointer (some ⟨b37, 0, none⟩)), (7, .int .i64 x38), (35, .bool (decide (x38 < 40)))] rfl (by kernel_rfl) ?_
        refine ow_end rfl ?_
        refine ew_then ?_
        rcases if_some hF with ⟨h70, hF⟩ | ⟨h70, hF⟩
        · refine cw_cond_t rfl rfl h70 ?_
          refine cw_skip ?_
          have hR := Option.some.inj hF
          exact fun a w hf hs => ⟨hR, hf.keep [0, 3, 5, 6, 7], sat_to [0, 0, 0, 0, 0, 0, 0] 0 rfl hs⟩
        refine cw_cond_f rfl rfl h70 ?_
        refine cw_exit ?_
        refine ew_then_exit ?_
        refine ew_then_exit ?_
        refine ew_blk_exit ?_
        have hR := Option.some.inj hF
        subst hR
        have hR := hK68
        try dsimp only [Thru] at hR
        subst hR
        have hR := hL35
        try dsimp only at hR
        exact fun a w hf hs => ⟨l39, l43, x46, x47, x48, x49, x50, x51, x52, x53, x54, x55, x56, x57, x58, x59, x60, x61, x62, x63, x64, x65, x66, x67, b36, b37, p40, c41, b45, hR, hf.keep [], sat_to [0, 0, 0, 0, 0, 0, 0] 0 rfl hs⟩
      refine ow_slots (L' := [(0, .slice p0 x0.length c0), (3, .pointer (some ⟨r21_b2, 0, none⟩)), (5, .pointer (some ⟨b28, 0, none⟩)), (6, .pointer (some ⟨b37, 0, none⟩)), (7, .int .i64 x38), (32, .bool false)]) (by rw [h69]) ?_
      refine ow_vals 3 (j := 8) [0, 3, 5, 6, 7, 35] [(0, .slice p0 x0.length c0), (3, .pointer (some ⟨r21_b2, 0, none⟩)), (5, .pointer (some ⟨b28, 0, none⟩)), (6, .pointer (some ⟨b37, 0, none⟩)), (7, .int .i64 x38), (35, .bool false)] rfl (by kernel_rfl) ?_
      refine ow_end rfl ?_
      refine ew_then ?_
      refine cw_cond_f rfl rfl rfl ?_
      refine cw_exit ?_
      refine ew_then_exit ?_
      refine ew_then_exit ?_
      refine ew_blk_exit ?_
      have hR := Option.some.inj hF
      subst hR
      have hR := hK68
      try dsimp only [Thru] at hR
      subst hR
      have hR := hL35
      try dsimp only at hR
      exact fun a w hf hs => ⟨l39, l43, x46, x47, x48, x49, x50, x51, x52, x53, x54, x55, x56, x57, x58, x59, x60, x61, x62, x63, x64, x65, x66, x67, b36, b37, p40, c41, b45, hR, hf.keep [], sat_to [0, 0, 0, 0, 0, 0, 0] 0 rfl hs⟩
    rintro a w ⟨hv, hf, hs⟩
    subst hv
    replace hF := hK68
    clear hK68
    try dsimp only [Thru] at hF
    revert a w
    show CW _ _ _ 141 [(0, .slice p0 x0.length c0), (3, .pointer (some ⟨r21_b2, 0, none⟩)), (5, .pointer (some ⟨b28, 0, none⟩)), (6, .pointer (some ⟨b37, 0, none⟩)), (7, .int .i64 x38)] (SAT w0 ([imm I, pt r21_b2 #[.slice p40 l39.length c41, .map (some b45), .bool x46, .bool x47, .int .i64 x48, .int .u64 x49, .int .i64 x50, .int .i64 x51, .int .i64 x52] 52, pt b36 #[.pointer (some ⟨r21_b2, 0, none⟩), .int .i64 x53, .int .i64 x54] 75, pt b37 #[.pointer (some ⟨b36, 0, none⟩), .int .i64 x55, .int .i64 x56, .int .i64 x57] 78, pt b28 #[.int .i64 x58, .int .i64 x59, .int .i64 x60, .int .i64 x61, .int .i64 x62, .int .i64 x63, .int .i64 x64, .int .i64 x65, .int .i64 x66, .int .i64 x67] 30, own e_disk_sector 55 p40 c41 l39, mpo (kInt .i64) (fun x : disk_sector => Value.agg #[.string x.s_, .int .i64 x.at_]) b45 l43] ++ F0))
    unfold F.law13_KeyringPlays.r2 at hF
    refine cw_seq ?_
    refine cw_block ?_
    refine cw_seq ?_
    refine cw_region ?_
    refine ow_vals 2 (j := 2) [0, 3, 5, 6, 7, 38, 39] [(0, .slice p0 x0.length c0), (3, .pointer (some ⟨r21_b2, 0, none⟩)), (5, .pointer (some ⟨b28, 0, none⟩)), (6, .pointer (some ⟨b37, 0, none⟩)), (7, .int .i64 x38), (38, .slice p0 x0.length c0), (39, .int .i64 x38)] rfl (by kernel_rfl) ?_
    obtain ⟨y71, h72, hF⟩ := bind_some hF
    refine ow_pw rfl (pw_index_roN (E := 38) 6 hr0 rfl rfl rfl rfl rfl (by kernel_rfl) rfl rfl rfl h72 fun q73 h74 => nw_ow ?_)
    obtain ⟨r75, h76, h77, h78⟩ := (id h74)
    have h79 : ro I (eInt .i64) r75.List.p r75.List.c y71.List := by subst h77; exact h78
    refine ow_pw rfl (pw_quiet (v := .agg #[.int .i64 y71.Kind, .int .i64 y71.I, .int .u8 y71.C, .slice r75.List.p y71.List.length r75.List.c, .int .u64 y71.F.Keep, .int .i64 y71.F.Tear]) rfl rfl rfl rfl (q_load_el0 0 rfl h76 rfl rfl (by subst h77; kernel_rfl)) (nw_ow ?_))
    refine ow_pw rfl (pw_alloc (cs := #[.int .i64 0, .int .i64 0, .int .u8 0, .slice none 0 0, .int .u64 0, .int .i64 0]) rfl rfl rfl rfl rfl (by kernel_rfl) fun b80 => nw_ow ?_)
    refine ow_pw rfl (pw_store 0 #[.int .i64 y71.Kind, .int .i64 y71.I, .int .u8 y71.C, .slice r75.List.p y71.List.length r75.List.c, .int .u64 y71.F.Keep, .int .i64 y71.F.Tear] rfl rfl rfl rfl rfl rfl rfl (by kernel_rfl) (nw_H (H' := [pt b80 #[.int .i64 y71.Kind, .int .i64 y71.I, .int .u8 y71.C, .slice r75.List.p y71.List.length r75.List.c, .int .u64 y71.F.Keep, .int .i64 y71.F.Tear] 38, imm I, pt r21_b2 #[.slice p40 l39.length c41, .map (some b45), .bool x46, .bool x47, .int .i64 x48, .int .u64 x49, .int .i64 x50, .int .i64 x51, .int .i64 x52] 52, pt b36 #[.pointer (some ⟨r21_b2, 0, none⟩), .int .i64 x53, .int .i64 x54] 75, pt b37 #[.pointer (some ⟨b36, 0, none⟩), .int .i64 x55, .int .i64 x56, .int .i64 x57] 78, pt b28 #[.int .i64 x58, .int .i64 x59, .int .i64 x60, .int .i64 x61, .int .i64 x62, .int .i64 x63, .int .i64 x64, .int .i64 x65, .int .i64 x66, .int .i64 x67] 30, own e_disk_sector 55 p40 c41 l39, mpo (kInt .i64) (fun x : disk_sector => Value.agg #[.string x.s_, .int .i64 x.at_]) b45 l43] ++ F0) rfl (nw_ow ?_)))
    refine ow_end rfl ?_
    refine ew_then ?_
    refine cw_seq ?_
    refine cw_region ?_
    refine ow_vals 1 (j := 1) [0, 3, 5, 6, 7, 8, 42] [(0, .slice p0 x0.length c0), (3, .pointer (some ⟨r21_b2, 0, none⟩)), (5, .pointer (some ⟨b28, 0, none⟩)), (6, .pointer (some ⟨b37, 0, none⟩)), (7, .int .i64 x38), (8, .pointer (some ⟨b80, 0, none⟩)), (42, .pointer (some ⟨b80, 2, none⟩))] rfl (by kernel_rfl) ?_
    refine ow_pw rfl (pw_quiet (v := .int .u8 y71.C) rfl rfl rfl rfl (q_load 0 rfl rfl rfl (by kernel_rfl)) (nw_ow ?_))
    refine ow_vals 4 (j := 6) [0, 3, 5, 6, 7, 8, 9] [(0, .slice p0 x0.length c0), (3, .pointer (some ⟨r21_b2, 0, none⟩)), (5, .pointer (some ⟨b28, 0, none⟩)), (6, .pointer (some ⟨b37, 0, none⟩)), (7, .int .i64 x38), (8, .pointer (some ⟨b80, 0, none⟩)), (9, .int .i64 (IntKind.i64.wrap (1 + ((IntKind.i64.wrap (y71.C)).tmod 200))))] rfl (by kernel_rfl) ?_
    refine ow_end rfl ?_
    refine ew_then ?_
    refine cw_seq ?_
    refine cw_region ?_
    refine ow_vals 2 (j := 2) [0, 3, 5, 6, 7, 8, 9, 10, 11] [(0, .slice p0 x0.length c0), (3, .pointer (some ⟨r21_b2, 0, none⟩)), (5, .pointer (some ⟨b28, 0, none⟩)), (6, .pointer (some ⟨b37, 0, none⟩)), (7, .int .i64 x38), (8, .pointer (some ⟨b80, 0, none⟩)), (9, .int .i64 (IntKind.i64.wrap (1 + ((IntKind.i64.wrap (y71.C)).tmod 200)))), (10, .int .i64 0), (11, .int .i64 0)] rfl (by kernel_rfl) ?_
    refine ow_end rfl ?_
    refine ew_then ?_
    obtain ⟨v82, hF, hK82⟩ := thru_some hF
    refine cw_mid (fun a w => ∃ (x130 : Int), ∃ (x131 : Int), ∃ (x132 : Int), ∃ (x133 : Int), ∃ (x134 : Int), ∃ (x135 : Int), ∃ (x136 : Int), ∃ (x137 : Int), ∃ (l138 : List disk_sector), ∃ (l142 : List (Int × disk_sector)), ∃ (x145 : Bool), ∃ (x146 : Bool), ∃ (x147 : Int), ∃ (x148 : Int), ∃ (x149 : Int), ∃ (x150 : Int), ∃ (x151 : Int), ∃ (x152 : Int), ∃ (x153 : Int), ∃ (x154 : Int), ∃ (x155 : Int), ∃ (x156 : Int), ∃ (x157 : Int), ∃ (x158 : Int), ∃ (x159 : Int), ∃ (x160 : Int), ∃ (x161 : Int), ∃ (b128 : Nat), ∃ (b129 : Nat), ∃ (p139 : Option Addr), ∃ (c140 : Nat), ∃ (b144 : Nat), .inl (x130, x131, x132, x133, x134, x135, x136, x137, l138, l142, x145, x146, x147, x148, x149, x150, x151, x152, x153, x154, x155, x156, x157, x158, x159, x160, x161) = v82 ∧ Fr 141 [(0, .slice p0 x0.length c0), (3, .pointer (some ⟨r21_b2, 0, none⟩)), (5, .pointer (some ⟨b28, 0, none⟩)), (6, .pointer (some ⟨b129, 0, none⟩)), (7, .int .i64 x38), (8, .pointer (some ⟨b80, 0, none⟩)), (9, .int .i64 x130), (10, .int .i64 x131), (11, .int .i64 x132)] a ∧ SAT w0 ([imm I, pt b129 #[.pointer (some ⟨b128, 0, none⟩), .int .i64 x133, .int .i64 x134, .int .i64 x135] 78, pt b128 #[.pointer (some ⟨r21_b2, 0, none⟩), .int .i64 x136, .int .i64 x137] 75, pt r21_b2 #[.slice p139 l138.length c140, .map (some b144), .bool x145, .bool x146, .int .i64 x147, .int .u64 x148, .int .i64 x149, .int .i64 x150, .int .i64 x151] 52, pt b28 #[.int .i64 x152, .int .i64 x153, .int .i64 x154, .int .i64 x155, .int .i64 x156, .int .i64 x157, .int .i64 x158, .int .i64 x159, .int .i64 x160, .int .i64 x161] 30, pt b80 #[.int .i64 y71.Kind, .int .i64 y71.I, .int .u8 y71.C, .slice r75.List.p y71.List.length r75.List.c, .int .u64 y71.F.Keep, .int .i64 y71.F.Tear] 38, own e_disk_sector 55 p139 c140 l138, mpo (kInt .i64) (fun x : disk_sector => Value.agg #[.string x.s_, .int .i64 x.at_]) b144 l142] ++ F0) w) ?_ ?_
    · refine cw_seq ?_
      refine cw_region ?_
      refine ow_vals 1 (j := 1) [0, 3, 5, 6, 7, 8, 9, 10, 11, 47] [(0, .slice p0 x0.length c0), (3, .pointer (some ⟨r21_b2, 0, none⟩)), (5, .pointer (some ⟨b28, 0, none⟩)), (6, .pointer (some ⟨b37, 0, none⟩)), (7, .int .i64 x38), (8, .pointer (some ⟨b80, 0, none⟩)), (9, .int .i64 (IntKind.i64.wrap (1 + ((IntKind.i64.wrap (y71.C)).tmod 200)))), (10, .int .i64 0), (11, .int .i64 0), (47, .pointer (some ⟨b80, 0, none⟩))] rfl (by kernel_rfl) ?_
      refine ow_pw rfl (pw_quiet (v := .int .i64 y71.Kind) rfl rfl rfl rfl (q_load 0 rfl rfl rfl (by kernel_rfl)) (nw_ow ?_))
      refine ow_end rfl ?_
      refine ew_then ?_
      refine cw_block ?_
      obtain ⟨v83, hF, hK83⟩ := bind_some hF
      refine cw_mid (fun a w => ∃ (x85 : Bool), x85 = v83 ∧ Fr 141 [(0, .slice p0 x0.length c0), (3, .pointer (some ⟨r21_b2, 0, none⟩)), (5, .pointer (some ⟨b28, 0, none⟩)), (6, .pointer (some ⟨b37, 0, none⟩)), (7, .int .i64 x38), (8, .pointer (some ⟨b80, 0, none⟩)), (9, .int .i64 (IntKind.i64.wrap (1 + ((IntKind.i64.wrap (y71.C)).tmod 200)))), (10, .int .i64 0), (11, .int .i64 0), (48, .int .i64 y71.Kind), (49, .bool x85)] a ∧ SAT w0 ([imm I, pt b80 #[.int .i64 y71.Kind, .int .i64 y71.I, .int .u8 y71.C, .slice r75.List.p y71.List.length r75.List.c, .int .u64 y71.F.Keep, .int .i64 y71.F.Tear] 38, pt r21_b2 #[.slice p40 l39.length c41, .map (some b45), .bool x46, .bool x47, .int .i64 x48, .int .u64 x49, .int .i64 x50, .int .i64 x51, .int .i64 x52] 52, pt b36 #[.pointer (some ⟨r21_b2, 0, none⟩), .int .i64 x53, .int .i64 x54] 75, pt b37 #[.pointer (some ⟨b36, 0, none⟩), .int .i64 x55, .int .i64 x56, .int .i64 x57] 78, pt b28 #[.int .i64 x58, .int .i64 x59, .int .i64 x60, .int .i64 x61, .int .i64 x62, .int .i64 x63, .int .i64 x64, .int .i64 x65, .int .i64 x66, .int .i64 x67] 30, own e_disk_sector 55 p40 c41 l39, mpo (kInt .i64) (fun x : disk_sector => Value.agg #[.string x.s_, .int .i64 x.at_]) b45 l43] ++ F0) w) ?_ ?_
      · refine cw_seq ?_
        refine cw_region ?_
        refine ow_vals 2 (j := 2) [0, 3, 5, 6, 7, 8, 9, 10, 11, 48, 49] [(0, .slice p0 x0.length c0), (3, .pointer (some ⟨r21_b2, 0, none⟩)), (5, .pointer (some ⟨b28, 0, none⟩)), (6, .pointer (some ⟨b37, 0, none⟩)), (7, .int .i64 x38), (8, .pointer (some ⟨b80, 0, none⟩)), (9, .int .i64 (IntKind.i64.wrap (1 + ((IntKind.i64.wrap (y71.C)).tmod 200)))), (10, .int .i64 0), (11, .int .i64 0), (48, .int .i64 y71.Kind), (49, .bool (y71.Kind == 0))] rfl (by kernel_rfl) ?_
        refine ow_end rfl ?_
        refine ew_then ?_
        rcases if_some hF with ⟨h84, hF⟩ | ⟨h84, hF⟩
        · refine cw_cond_t rfl rfl h84 ?_
          refine cw_skip ?_
          have hR := Option.some.inj hF
          exact fun a w hf hs => ⟨y71.Kind == 0, hR, hf.keep [0, 3, 5, 6, 7, 8, 9, 10, 11, 48, 49], sat_to [1, 0, 0, 0, 0, 0, 0, 0] 0 rfl hs⟩
        refine cw_cond_f rfl rfl h84 ?_
        refine cw_region ?_
        refine ow_vals 2 (j := 2) [0, 3, 5, 6, 7, 8, 9, 10, 11, 48, 49] [(0, .slice p0 x0.length c0), (3, .pointer (some ⟨r21_b2, 0, none⟩)), (5, .pointer (some ⟨b28, 0, none⟩)), (6, .pointer (some ⟨b37, 0, none⟩)), (7, .int .i64 x38), (8, .pointer (some ⟨b80, 0, none⟩)), (9, .int .i64 (IntKind.i64.wrap (1 + ((IntKind.i64.wrap (y71.C)).tmod 200)))), (10, .int .i64 0), (11, .int .i64 0), (48, .int .i64 y71.Kind), (49, .bool (y71.Kind == 1))] rfl (by kernel_rfl) ?_
        refine ow_end rfl ?_
        have hR := Option.some.inj hF
        exact fun a w hf hs => ⟨y71.Kind == 1, hR, hf.keep [0, 3, 5, 6, 7, 8, 9, 10, 11, 48, 49], sat_to [1, 0, 0, 0, 0, 0, 0, 0] 0 rfl hs⟩
      rintro a w ⟨x85, hv, hf, hs⟩
      subst hv
      replace hF := hK83
      clear hK83
      try dsimp only at hF
      revert a w
      show CW _ _ _ 141 [(0, .slice p0 x0.length c0), (3, .pointer (some ⟨r21_b2, 0, none⟩)), (5, .pointer (some ⟨b28, 0, none⟩)), (6, .pointer (some ⟨b37, 0, none⟩)), (7, .int .i64 x38), (8, .pointer (some ⟨b80, 0, none⟩)), (9, .int .i64 (IntKind.i64.wrap (1 + ((IntKind.i64.wrap (y71.C)).tmod 200)))), (10, .int .i64 0), (11, .int .i64 0), (48, .int .i64 y71.Kind), (49, .bool x85)] (SAT w0 ([imm I, pt b80 #[.int .i64 y71.Kind, .int .i64 y71.I, .int .u8 y71.C, .slice r75.List.p y71.List.length r75.List.c, .int .u64 y71.F.Keep, .int .i64 y71.F.Tear] 38, pt r21_b2 #[.slice p40 l39.length c41, .map (some b45), .bool x46, .bool x47, .int .i64 x48, .int .u64 x49, .int .i64 x50, .int .i64 x51, .int .i64 x52] 52, pt b36 #[.pointer (some ⟨r21_b2, 0, none⟩), .int .i64 x53, .int .i64 x54] 75, pt b37 #[.pointer (some ⟨b36, 0, none⟩), .int .i64 x55, .int .i64 x56, .int .i64 x57] 78, pt b28 #[.int .i64 x58, .int .i64 x59, .int .i64 x60, .int .i64 x61, .int .i64 x62, .int .i64 x63, .int .i64 x64, .int .i64 x65, .int .i64 x66, .int .i64 x67] 30, own e_disk_sector 55 p40 c41 l39, mpo (kInt .i64) (fun x : disk_sector => Value.agg #[.string x.s_, .int .i64 x.at_]) b45 l43] ++ F0))
      unfold F.law13_KeyringPlays.r3 at hF
      rcases if_some hF with ⟨h86, hF⟩ | ⟨h86, hF⟩
      · refine cw_cond_t rfl rfl h86 ?_
        refine cw_open 8 (SAT w0 ([imm I, pt b80 #[.int .i64 y71.Kind, .int .i64 y71.I, .int .u8 y71.C, .slice r75.List.p y71.List.length r75.List.c, .int .u64 y71.F.Keep, .int .i64 y71.F.Tear] 38, pt r21_b2 #[.slice p40 l39.length c41, .map (some b45), .bool x46, .bool x47, .int .i64 x48, .int .u64 x49, .int .i64 x50, .int .i64 x51, .int .i64 x52] 52, pt b36 #[.pointer (some ⟨r21_b2, 0, none⟩), .int .i64 x53, .int .i64 x54] 75, pt b37 #[.pointer (some ⟨b36, 0, none⟩), .int .i64 x55, .int .i64 x56, .int .i64 x57] 78, pt b28 #[.int .i64 x58, .int .i64 x59, .int .i64 x60, .int .i64 x61, .int .i64 x62, .int .i64 x63, .int .i64 x64, .int .i64 x65, .int .i64 x66, .int .i64 x67] 30, own e_disk_sector 55 p40 c41 l39, mpo (kInt .i64) (fun x : disk_sector => Value.agg #[.string x.s_, .int .i64 x.at_]) b45 l43])) (by kernel_rfl) (f := 14) rfl (fun w hs => sat_drew hs) ?_
        refine aw_vals [0, 1, 2, 4, 5, 7] (f' := 8) (m' := 183) [0, 3, 5, 6, 7, 8, 9, 10, 11, 53, 54, 55, 58, 60] [(0, .slice p0 x0.length c0), (3, .pointer (some ⟨r21_b2, 0, none⟩)), (5, .pointer (some ⟨b28, 0, none⟩)), (6, .pointer (some ⟨b37, 0, none⟩)), (7, .int .i64 x38), (8, .pointer (some ⟨b80, 0, none⟩)), (9, .int .i64 (IntKind.i64.wrap (1 + ((IntKind.i64.wrap (y71.C)).tmod 200)))), (10, .int .i64 0), (11, .int .i64 0), (53, .pointer (some ⟨b37, 0, none⟩)), (54, .pointer (some ⟨b28, 0, none⟩)), (55, .pointer (some ⟨b80, 1, none⟩)), (58, .int .u8 (IntKind.u8.wrap (IntKind.i64.wrap (1 + ((IntKind.i64.wrap (y71.C)).tmod 200))))), (60, .int .i64 (IntKind.i64.wrap (1 + ((IntKind.i64.wrap (y71.C)).tmod 200))))] (fun _ _ _ _ _ h => calm_fin (P := Tryz.prog) (fn := Tryz.f3) _ _ _ _ _ h) (fun w hs => sat_pulls [0, 0, 0, 0, 0, 0, 0, 0] (G := [] ++ F0) rfl hs) rfl (by kernel_rfl) ?_
        refine aw_quiet 3 (m' := 191) (v := .int .i64 y71.I) 3 [] rfl rfl rfl rfl (by kernel_rfl) (by kernel_rfl) (by kernel_rfl) (fun _ _ _ _ _ h => calm_fin (P := Tryz.prog) (fn := Tryz.f3) _ _ _ _ _ h) (fun w hs => sat_pulls [0, 0, 0, 0, 0, 0, 0, 0] (G := [] ++ F0) rfl hs) (q_load 1 rfl rfl rfl (by kernel_rfl)) ?_
        obtain ⟨r87, h88, hF⟩ := bind_some hF
        refine aw_only 6 (m' := 255) (by kernel_rfl) (by kernel_rfl) (pw_call (F := [pt b80 #[.int .i64 y71.Kind, .int .i64 y71.I, .int .u8 y71.C, .slice r75.List.p y71.List.length r75.List.c, .int .u64 y71.F.Keep, .int .i64 y71.F.Tear] 38, pt r21_b2 #[.slice p40 l39.length c41, .map (some b45), .bool x46, .bool x47, .int .i64 x48, .int .u64 x49, .int .i64 x50, .int .i64 x51, .int .i64 x52] 52, pt b36 #[.pointer (some ⟨r21_b2, 0, none⟩), .int .i64 x53, .int .i64 x54] 75, pt b37 #[.pointer (some ⟨b36, 0, none⟩), .int .i64 x55, .int .i64 x56, .int .i64 x57] 78, pt b28 #[.int .i64 x58, .int .i64 x59, .int .i64 x60, .int .i64 x61, .int .i64 x62, .int .i64 x63, .int .i64 x64, .int .i64 x65, .int .i64 x66, .int .i64 x67] 30, own e_disk_sector 55 p40 c41 l39, mpo (kInt .i64) (fun x : disk_sector => Value.agg #[.string x.s_, .int .i64 x.at_]) b45 l43] ++ F0) rfl rfl rfl rfl rfl rfl rfl (by kernel_rfl) (perm_of_pulls [0] rfl) (c_law13_key _ (IntKind.u8.wrap (IntKind.i64.wrap (1 + ((IntKind.i64.wrap (y71.C)).tmod 200)))) r87 h88) ?_)
        rintro _ _ ⟨rfl, rfl⟩
        refine nw_H (H' := [imm I, pt b80 #[.int .i64 y71.Kind, .int .i64 y71.I, .int .u8 y71.C, .slice r75.List.p y71.List.length r75.List.c, .int .u64 y71.F.Keep, .int .i64 y71.F.Tear] 38, pt r21_b2 #[.slice p40 l39.length c41, .map (some b45), .bool x46, .bool x47, .int .i64 x48, .int .u64 x49, .int .i64 x50, .int .i64 x51, .int .i64 x52] 52, pt b36 #[.pointer (some ⟨r21_b2, 0, none⟩), .int .i64 x53, .int .i64 x54] 75, pt b37 #[.pointer (some ⟨b36, 0, none⟩), .int .i64 x55, .int .i64 x56, .int .i64 x57] 78, pt b28 #[.int .i64 x58, .int .i64 x59, .int .i64 x60, .int .i64 x61, .int .i64 x62, .int .i64 x63, .int .i64 x64, .int .i64 x65, .int .i64 x66, .int .i64 x67] 30, own e_disk_sector 55 p40 c41 l39, mpo (kInt .i64) (fun x : disk_sector => Value.agg #[.string x.s_, .int .i64 x.at_]) b45 l43] ++ F0) rfl (aw_next (fun w hs => sat_pulls [0, 0, 0, 0, 0, 0, 0, 0] (G := [] ++ F0) rfl hs) ?_)
        obtain ⟨r89, h90, hF⟩ := bind_some hF
        refine aw_only 8 (m' := 511) (by kernel_rfl) (by kernel_rfl) (pw_call (F := [pt b80 #[.int .i64 y71.Kind, .int .i64 y71.I, .int .u8 y71.C, .slice r75.List.p y71.List.length r75.List.c, .int .u64 y71.F.Keep, .int .i64 y71.F.Tear] 38] ++ F0) rfl rfl rfl rfl rfl rfl rfl (by kernel_rfl) (perm_of_pulls [0, 3, 2, 1, 1, 1, 1] rfl) (c_law13_put _ y71.I r87 (IntKind.i64.wrap (1 + ((IntKind.i64.wrap (y71.C)).tmod 200))) (⟨x55, x56, x57⟩ : keyring_Ring) (⟨x53, x54⟩ : guard_Guard) (⟨l39, l43, x46, x47, x48, (⟨x49, x50⟩ : disk_Fall), x51, x52⟩ : disk_Disk) (⟨(⟨x58, x59, x60, x61, x62, x63, x64, x65⟩ : A8_Inti64), x66, x67⟩ : law13_plain) b37 b36 p40 c41 b45 r21_b2 b28 r89 h90) ?_)
        rintro _ _ ⟨r89_p1, r89_c2, r89_b4, rfl, rfl⟩
        refine nw_H (H' := [imm I, pt b37 #[.pointer (some ⟨b36, 0, none⟩), .int .i64 ((⟨x55, x56, x57⟩ : keyring_Ring).base_), .int .i64 ((⟨x55, x56, x57⟩ : keyring_Ring).slots_), .int .i64 ((⟨x55, x56, x57⟩ : keyring_Ring).shred_)] 78, pt b36 #[.pointer (some ⟨r21_b2, 0, none⟩), .int .i64 r89.2.2.1.boot_, .int .i64 r89.2.2.1.n_] 75, pt r21_b2 #[.slice r89_p1 r89.2.2.2.1.sure_.length r89_c2, .map (some r89_b4), .bool r89.2.2.2.1.off_, .bool r89.2.2.2.1.armed_, .int .i64 r89.2.2.2.1.left_, .int .u64 r89.2.2.2.1.fall_.Keep, .int .i64 r89.2.2.2.1.fall_.Tear, .int .i64 r89.2.2.2.1.acts_, .int .i64 r89.2.2.2.1.falls_] 52, pt b28 #[.int .i64 r89.2.2.2.2.keys_.e0, .int .i64 r89.2.2.2.2.keys_.e1, .int .i64 r89.2.2.2.2.keys_.e2, .int .i64 r89.2.2.2.2.keys_.e3, .int .i64 r89.2.2.2.2.keys_.e4, .int .i64 r89.2.2.2.2.keys_.e5, .int .i64 r89.2.2.2.2.keys_.e6, .int .i64 r89.2.2.2.2.keys_.e7, .int .i64 r89.2.2.2.2.boot_, .int .i64 r89.2.2.2.2.shred_] 30, own e_disk_sector 55 r89_p1 r89_c2 r89.2.2.2.1.sure_, mpo (kInt .i64) (fun x : disk_sector => Value.agg #[.string x.s_, .int .i64 x.at_]) r89_b4 r89.2.2.2.1.wait_, pt b80 #[.int .i64 y71.Kind, .int .i64 y71.I, .int .u8 y71.C, .slice r75.List.p y71.List.length r75.List.c, .int .u64 y71.F.Keep, .int .i64 y71.F.Tear] 38] ++ F0) rfl (aw_last (by kernel_rfl) ?_)
        refine aw_past (by kernel_rfl) ?_
        refine aw_vals [9, 10, 11, 12, 13] (f' := 0) (m' := 16383) [0, 3, 5, 6, 7, 8, 9, 10, 11] [(0, .slice p0 x0.length c0), (3, .pointer (some ⟨r21_b2, 0, none⟩)), (5, .pointer (some ⟨b28, 0, none⟩)), (6, .pointer (some ⟨b37, 0, none⟩)), (7, .int .i64 x38), (8, .pointer (some ⟨b80, 0, none⟩)), (9, .int .i64 (IntKind.i64.wrap (1 + ((IntKind.i64.wrap (y71.C)).tmod 200)))), (10, .int .i64 r89.1), (11, .int .i64 r89.2.1)] (fun _ _ _ _ _ h => calm_fin (P := Tryz.prog) (fn := Tryz.f3) _ _ _ _ _ h) (fun _ _ => trivial) rfl (by kernel_rfl) ?_
        refine aw_keep [0, 3, 5, 6, 7, 8, 9, 10, 11] (L' := [(0, .slice p0 x0.length c0), (3, .pointer (some ⟨r21_b2, 0, none⟩)), (5, .pointer (some ⟨b28, 0, none⟩)), (6, .pointer (some ⟨b37, 0, none⟩)), (7, .int .i64 x38), (8, .pointer (some ⟨b80, 0, none⟩)), (9, .int .i64 (IntKind.i64.wrap (1 + ((IntKind.i64.wrap (y71.C)).tmod 200)))), (10, .int .i64 r89.1), (11, .int .i64 r89.2.1)]) rfl ?_
        refine aw_end (by kernel_rfl) ?_
        refine ew_blk ?_
        have hR := Option.some.inj hF
        exact fun a w hf hs => ⟨IntKind.i64.wrap (1 + ((IntKind.i64.wrap (y71.C)).tmod 200)), r89.1, r89.2.1, (⟨x55, x56, x57⟩ : keyring_Ring).base_, (⟨x55, x56, x57⟩ : keyring_Ring).slots_, (⟨x55, x56, x57⟩ : keyring_Ring).shred_, r89.2.2.1.boot_, r89.2.2.1.n_, r89.2.2.2.1.sure_, r89.2.2.2.1.wait_, r89.2.2.2.1.off_, r89.2.2.2.1.armed_, r89.2.2.2.1.left_, r89.2.2.2.1.fall_.Keep, r89.2.2.2.1.fall_.Tear, r89.2.2.2.1.acts_, r89.2.2.2.1.falls_, r89.2.2.2.2.keys_.e0, r89.2.2.2.2.keys_.e1, r89.2.2.2.2.keys_.e2, r89.2.2.2.2.keys_.e3, r89.2.2.2.2.keys_.e4, r89.2.2.2.2.keys_.e5, r89.2.2.2.2.keys_.e6, r89.2.2.2.2.keys_.e7, r89.2.2.2.2.boot_, r89.2.2.2.2.shred_, b36, b37, r89_p1, r89_c2, r89_b4, hR, hf.keep [0, 3, 5, 6, 7, 8, 9, 10, 11], sat_to [0, 0, 0, 0, 0, 2, 0, 0] 0 rfl hs⟩
      refine cw_cond_f rfl rfl h86 ?_
      refine cw_seq ?_
      refine cw_region ?_
      refine ow_vals 2 (j := 2) [0, 3, 5, 6, 7, 8, 9, 10, 11, 48, 64] [(0, .slice p0 x0.length c0), (3, .pointer (some ⟨r21_b2, 0, none⟩)), (5, .pointer (some ⟨b28, 0, none⟩)), (6, .pointer (some ⟨b37, 0, none⟩)), (7, .int .i64 x38), (8, .pointer (some ⟨b80, 0, none⟩)), (9, .int .i64 (IntKind.i64.wrap (1 + ((IntKind.i64.wrap (y71.C)).tmod 200)))), (10, .int .i64 0), (11, .int .i64 0), (48, .int .i64 y71.Kind), (64, .bool (y71.Kind == 3))] rfl (by kernel_rfl) ?_
      refine ow_end rfl ?_
      refine ew_then ?_
      rcases if_some hF with ⟨h93, hF⟩ | ⟨h93, hF⟩
      · refine cw_cond_t rfl rfl h93 ?_
        refine cw_seq ?_
        refine cw_region ?_
        refine ow_vals 3 (j := 3) [0, 3, 5, 6, 7, 8, 67, 68, 69] [(0, .slice p0 x0.length c0), (3, .pointer (some ⟨r21_b2, 0, none⟩)), (5, .pointer (some ⟨b28, 0, none⟩)), (6, .pointer (some ⟨b37, 0, none⟩)), (7, .int .i64 x38), (8, .pointer (some ⟨b80, 0, none⟩)), (67, .pointer (some ⟨b37, 0, none⟩)), (68, .pointer (some ⟨b28, 0, none⟩)), (69, .pointer (some ⟨b80, 1, none⟩))] rfl (by kernel_rfl) ?_
        refine ow_pw rfl (pw_quiet (v := .int .i64 y71.I) rfl rfl rfl rfl (q_load 1 rfl rfl rfl (by kernel_rfl)) (nw_ow ?_))
        obtain ⟨r94, h95, hF⟩ := bind_some hF
        refine ow_pw rfl (pw_call (F := [pt b80 #[.int .i64 y71.Kind, .int .i64 y71.I, .int .u8 y71.C, .slice r75.List.p y71.List.length r75.List.c, .int .u64 y71.F.Keep, .int .i64 y71.F.Tear] 38] ++ F0) rfl rfl rfl rfl rfl rfl rfl (by kernel_rfl) (perm_of_pulls [0, 3, 2, 1, 1, 1, 1] rfl) (c_law13_shred _ y71.I (⟨x55, x56, x57⟩ : keyring_Ring) (⟨x53, x54⟩ : guard_Guard) (⟨l39, l43, x46, x47, x48, (⟨x49, x50⟩ : disk_Fall), x51, x52⟩ : disk_Disk) (⟨(⟨x58, x59, x60, x61, x62, x63, x64, x65⟩ : A8_Inti64), x66, x67⟩ : law13_plain) b37 b36 p40 c41 b45 r21_b2 b28 r94 h95) ?_)
        rintro _ _ ⟨r94_p1, r94_c2, r94_b4, rfl, rfl⟩
        refine nw_H (H' := [imm I, pt b37 #[.pointer (some ⟨b36, 0, none⟩), .int .i64 r94.2.2.1.base_, .int .i64 r94.2.2.1.slots_, .int .i64 r94.2.2.1.shred_] 78, pt b36 #[.pointer (some ⟨r21_b2, 0, none⟩), .int .i64 ((⟨x53, x54⟩ : guard_Guard).boot_), .int .i64 ((⟨x53, x54⟩ : guard_Guard).n_)] 75, pt r21_b2 #[.slice r94_p1 r94.2.2.2.1.sure_.length r94_c2, .map (some r94_b4), .bool r94.2.2.2.1.off_, .bool r94.2.2.2.1.armed_, .int .i64 r94.2.2.2.1.left_, .int .u64 r94.2.2.2.1.fall_.Keep, .int .i64 r94.2.2.2.1.fall_.Tear, .int .i64 r94.2.2.2.1.acts_, .int .i64 r94.2.2.2.1.falls_] 52, pt b28 #[.int .i64 r94.2.2.2.2.keys_.e0, .int .i64 r94.2.2.2.2.keys_.e1, .int .i64 r94.2.2.2.2.keys_.e2, .int .i64 r94.2.2.2.2.keys_.e3, .int .i64 r94.2.2.2.2.keys_.e4, .int .i64 r94.2.2.2.2.keys_.e5, .int .i64 r94.2.2.2.2.keys_.e6, .int .i64 r94.2.2.2.2.keys_.e7, .int .i64 r94.2.2.2.2.boot_, .int .i64 r94.2.2.2.2.shred_] 30, own e_disk_sector 55 r94_p1 r94_c2 r94.2.2.2.1.sure_, mpo (kInt .i64) (fun x : disk_sector => Value.agg #[.string x.s_, .int .i64 x.at_]) r94_b4 r94.2.2.2.1.wait_, pt b80 #[.int .i64 y71.Kind, .int .i64 y71.I, .int .u8 y71.C, .slice r75.List.p y71.List.length r75.List.c, .int .u64 y71.F.Keep, .int .i64 y71.F.Tear] 38] ++ F0) rfl (nw_ow ?_)
        refine ow_vals 5 (j := 10) [0, 3, 5, 6, 7, 8, 10, 11] [(0, .slice p0 x0.length c0), (3, .pointer (some ⟨r21_b2, 0, none⟩)), (5, .pointer (some ⟨b28, 0, none⟩)), (6, .pointer (some ⟨b37, 0, none⟩)), (7, .int .i64 x38), (8, .pointer (some ⟨b80, 0, none⟩)), (10, .int .i64 r94.1), (11, .int .i64 r94.2.1)] rfl (by kernel_rfl) ?_
        refine ow_end rfl ?_
        refine ew_then ?_
        refine cw_region ?_
        refine ow_vals 1 (j := 1) [0, 3, 5, 6, 7, 8, 9, 10, 11] [(0, .slice p0 x0.length c0), (3, .pointer (some ⟨r21_b2, 0, none⟩)), (5, .pointer (some ⟨b28, 0, none⟩)), (6, .pointer (some ⟨b37, 0, none⟩)), (7, .int .i64 x38), (8, .pointer (some ⟨b80, 0, none⟩)), (9, .int .i64 0), (10, .int .i64 r94.1), (11, .int .i64 r94.2.1)] rfl (by kernel_rfl) ?_
        refine ow_end rfl ?_
        refine ew_blk ?_
        have hR := Option.some.inj hF
        exact fun a w hf hs => ⟨0, r94.1, r94.2.1, r94.2.2.1.base_, r94.2.2.1.slots_, r94.2.2.1.shred_, (⟨x53, x54⟩ : guard_Guard).boot_, (⟨x53, x54⟩ : guard_Guard).n_, r94.2.2.2.1.sure_, r94.2.2.2.1.wait_, r94.2.2.2.1.off_, r94.2.2.2.1.armed_, r94.2.2.2.1.left_, r94.2.2.2.1.fall_.Keep, r94.2.2.2.1.fall_.Tear, r94.2.2.2.1.acts_, r94.2.2.2.1.falls_, r94.2.2.2.2.keys_.e0, r94.2.2.2.2.keys_.e1, r94.2.2.2.2.keys_.e2, r94.2.2.2.2.keys_.e3, r94.2.2.2.2.keys_.e4, r94.2.2.2.2.keys_.e5, r94.2.2.2.2.keys_.e6, r94.2.2.2.2.keys_.e7, r94.2.2.2.2.boot_, r94.2.2.2.2.shred_, b36, b37, r94_p1, r94_c2, r94_b4, hR, hf.keep [0, 3, 5, 6, 7, 8, 9, 10, 11], sat_to [0, 0, 0, 0, 0, 2, 0, 0] 0 rfl hs⟩
      refine cw_cond_f rfl rfl h93 ?_
      refine cw_seq ?_
      refine cw_region ?_
      refine ow_vals 2 (j := 2) [0, 3, 5, 6, 7, 8, 9, 10, 11, 48, 74] [(0, .slice p0 x0.length c0), (3, .pointer (some ⟨r21_b2, 0, none⟩)), (5, .pointer (some ⟨b28, 0, none⟩)), (6, .pointer (some ⟨b37, 0, none⟩)), (7, .int .i64 x38), (8, .pointer (some ⟨b80, 0, none⟩)), (9, .int .i64 (IntKind.i64.wrap (1 + ((IntKind.i64.wrap (y71.C)).tmod 200)))), (10, .int .i64 0), (11, .int .i64 0), (48, .int .i64 y71.Kind), (74, .bool (y71.Kind == 5))] rfl (by kernel_rfl) ?_
      refine ow_end rfl ?_
      refine ew_then ?_
      rcases if_some hF with ⟨h98, hF⟩ | ⟨h98, hF⟩
      · refine cw_cond_t rfl rfl h98 ?_
        refine cw_seq ?_
        refine cw_region ?_
        refine ow_vals 1 (j := 1) [0, 3, 5, 6, 7, 8, 9, 10, 11, 76] [(0, .slice p0 x0.length c0), (3, .pointer (some ⟨r21_b2, 0, none⟩)), (5, .pointer (some ⟨b28, 0, none⟩)), (6, .pointer (some ⟨b37, 0, none⟩)), (7, .int .i64 x38), (8, .pointer (some ⟨b80, 0, none⟩)), (9, .int .i64 (IntKind.i64.wrap (1 + ((IntKind.i64.wrap (y71.C)).tmod 200)))), (10, .int .i64 0), (11, .int .i64 0), (76, .pointer (some ⟨r21_b2, 0, none⟩))] rfl (by kernel_rfl) ?_
        obtain ⟨r99, h100, hF⟩ := bind_some hF
        refine ow_pw rfl (pw_call (F := [pt b80 #[.int .i64 y71.Kind, .int .i64 y71.I, .int .u8 y71.C, .slice r75.List.p y71.List.length r75.List.c, .int .u64 y71.F.Keep, .int .i64 y71.F.Tear] 38, pt b36 #[.pointer (some ⟨r21_b2, 0, none⟩), .int .i64 x53, .int .i64 x54] 75, pt b37 #[.pointer (some ⟨b36, 0, none⟩), .int .i64 x55, .int .i64 x56, .int .i64 x57] 78, pt b28 #[.int .i64 x58, .int .i64 x59, .int .i64 x60, .int .i64 x61, .int .i64 x62, .int .i64 x63, .int .i64 x64, .int .i64 x65, .int .i64 x66, .int .i64 x67] 30] ++ F0) rfl rfl rfl rfl rfl rfl rfl (by kernel_rfl) (perm_of_pulls [0, 1, 4, 4] rfl) (c_disk_Disk_Calm _ (⟨l39, l43, x46, x47, x48, (⟨x49, x50⟩ : disk_Fall), x51, x52⟩ : disk_Disk) p40 c41 b45 r21_b2 r99 h100) ?_)
        rintro _ _ ⟨r99_p1, r99_c2, r99_b4, rfl, rfl⟩
        refine nw_H (H' := [imm I, pt r21_b2 #[.slice r99_p1 r99.sure_.length r99_c2, .map (some r99_b4), .bool r99.off_, .bool r99.armed_, .int .i64 r99.left_, .int .u64 r99.fall_.Keep, .int .i64 r99.fall_.Tear, .int .i64 r99.acts_, .int .i64 r99.falls_] 52, own e_disk_sector 55 r99_p1 r99_c2 r99.sure_, mpo (kInt .i64) (fun x : disk_sector => Value.agg #[.string x.s_, .int .i64 x.at_]) r99_b4 r99.wait_, pt b80 #[.int .i64 y71.Kind, .int .i64 y71.I, .int .u8 y71.C, .slice r75.List.p y71.List.length r75.List.c, .int .u64 y71.F.Keep, .int .i64 y71.F.Tear] 38, pt b36 #[.pointer (some ⟨r21_b2, 0, none⟩), .int .i64 x53, .int .i64 x54] 75, pt b37 #[.pointer (some ⟨b36, 0, none⟩), .int .i64 x55, .int .i64 x56, .int .i64 x57] 78, pt b28 #[.int .i64 x58, .int .i64 x59, .int .i64 x60, .int .i64 x61, .int .i64 x62, .int .i64 x63, .int .i64 x64, .int .i64 x65, .int .i64 x66, .int .i64 x67] 30] ++ F0) rfl (nw_ow ?_)
        refine ow_end rfl ?_
        refine ew_then ?_
        refine cw_seq ?_
        refine cw_region ?_
        refine ow_vals 3 (j := 3) [0, 3, 5, 6, 7, 8, 9, 10, 11, 78, 79, 80] [(0, .slice p0 x0.length c0), (3, .pointer (some ⟨r21_b2, 0, none⟩)), (5, .pointer (some ⟨b28, 0, none⟩)), (6, .pointer (some ⟨b37, 0, none⟩)), (7, .int .i64 x38), (8, .pointer (some ⟨b80, 0, none⟩)), (9, .int .i64 (IntKind.i64.wrap (1 + ((IntKind.i64.wrap (y71.C)).tmod 200)))), (10, .int .i64 0), (11, .int .i64 0), (78, .pointer (some ⟨b37, 0, none⟩)), (79, .pointer (some ⟨b28, 0, none⟩)), (80, .pointer (some ⟨b80, 3, none⟩))] rfl (by kernel_rfl) ?_
        refine ow_pw rfl (pw_quiet (v := .slice r75.List.p y71.List.length r75.List.c) rfl rfl rfl rfl (q_load 4 rfl rfl rfl (by kernel_rfl)) (nw_ow ?_))
        obtain ⟨r103, h104, hF⟩ := bind_some hF
        refine ow_pw rfl (pw_call (F := [pt b80 #[.int .i64 y71.Kind, .int .i64 y71.I, .int .u8 y71.C, .slice r75.List.p y71.List.length r75.List.c, .int .u64 y71.F.Keep, .int .i64 y71.F.Tear] 38] ++ F0) rfl rfl rfl rfl rfl rfl rfl (by kernel_rfl) (perm_of_pulls [0, 5, 4, 0, 3, 0, 0] rfl) (c_law13_keep _ y71.List (⟨x55, x56, x57⟩ : keyring_Ring) (⟨x53, x54⟩ : guard_Guard) r99 (⟨(⟨x58, x59, x60, x61, x62, x63, x64, x65⟩ : A8_Inti64), x66, x67⟩ : law13_plain) r75.List.p r75.List.c b37 b36 r99_p1 r99_c2 r99_b4 r21_b2 b28 r103 h104 h79) ?_)
        rintro _ _ ⟨r103_p1, r103_c2, r103_b4, rfl, rfl⟩
        refine nw_H (H' := [imm I, pt b37 #[.pointer (some ⟨b36, 0, none⟩), .int .i64 r103.2.1.base_, .int .i64 r103.2.1.slots_, .int .i64 r103.2.1.shred_] 78, pt b36 #[.pointer (some ⟨r21_b2, 0, none⟩), .int .i64 ((⟨x53, x54⟩ : guard_Guard).boot_), .int .i64 ((⟨x53, x54⟩ : guard_Guard).n_)] 75, pt r21_b2 #[.slice r103_p1 r103.2.2.1.sure_.length r103_c2, .map (some r103_b4), .bool r103.2.2.1.off_, .bool r103.2.2.1.armed_, .int .i64 r103.2.2.1.left_, .int .u64 r103.2.2.1.fall_.Keep, .int .i64 r103.2.2.1.fall_.Tear, .int .i64 r103.2.2.1.acts_, .int .i64 r103.2.2.1.falls_] 52, pt b28 #[.int .i64 r103.2.2.2.keys_.e0, .int .i64 r103.2.2.2.keys_.e1, .int .i64 r103.2.2.2.keys_.e2, .int .i64 r103.2.2.2.keys_.e3, .int .i64 r103.2.2.2.keys_.e4, .int .i64 r103.2.2.2.keys_.e5, .int .i64 r103.2.2.2.keys_.e6, .int .i64 r103.2.2.2.keys_.e7, .int .i64 r103.2.2.2.boot_, .int .i64 r103.2.2.2.shred_] 30, own e_disk_sector 55 r103_p1 r103_c2 r103.2.2.1.sure_, mpo (kInt .i64) (fun x : disk_sector => Value.agg #[.string x.s_, .int .i64 x.at_]) r103_b4 r103.2.2.1.wait_, pt b80 #[.int .i64 y71.Kind, .int .i64 y71.I, .int .u8 y71.C, .slice r75.List.p y71.List.length r75.List.c, .int .u64 y71.F.Keep, .int .i64 y71.F.Tear] 38] ++ F0) rfl (nw_ow ?_)
        refine ow_vals 1 (j := 6) [0, 3, 5, 6, 7, 8, 9, 10, 11, 83] [(0, .slice p0 x0.length c0), (3, .pointer (some ⟨r21_b2, 0, none⟩)), (5, .pointer (some ⟨b28, 0, none⟩)), (6, .pointer (some ⟨b37, 0, none⟩)), (7, .int .i64 x38), (8, .pointer (some ⟨b80, 0, none⟩)), (9, .int .i64 (IntKind.i64.wrap (1 + ((IntKind.i64.wrap (y71.C)).tmod 200)))), (10, .int .i64 0), (11, .int .i64 0), (83, .bool (!r103.1))] rfl (by kernel_rfl) ?_
        refine ow_end rfl ?_
        refine ew_then ?_
        rcases if_some hF with ⟨h107, hF⟩ | ⟨h107, hF⟩
        · refine cw_cond_t rfl rfl h107 ?_
          refine cw_seq ?_
          refine cw_region ?_
          refine ow_vals 1 (j := 1) [2] [(2, .bool false)] rfl (by kernel_rfl) ?_
          refine ow_end rfl ?_
          refine ew_then ?_
          refine cw_ret ?_
          refine ew_blk_ret ?_
          refine ew_then_ret ?_
          refine ew_blk_ret ?_
          refine ew_then_ret ?_
          refine ew_then_ret ?_
          refine ew_blk_ret ?_
          refine ew_then_ret ?_
          have hR := Option.some.inj hF
          subst hR
          have hR := hK82
          try dsimp only [Thru] at hR
          subst hR
          have hR := hL35
          try dsimp only at hR
          subst hR
          have hR := hK34
          try dsimp only [Thru] at hR
          subst hR
          exact fin1 (H1 := [imm I]) (fun w hs => sat_to [1, 1, 1, 1, 1, 1, 1, 0] 7 rfl hs) rfl (rr_tmp rfl) ⟨rfl, rfl⟩
        refine cw_cond_f rfl rfl h107 ?_
        refine cw_skip ?_
        refine ew_blk ?_
        have hR := Option.some.inj hF
        exact fun a w hf hs => ⟨IntKind.i64.wrap (1 + ((IntKind.i64.wrap (y71.C)).tmod 200)), 0, 0, r103.2.1.base_, r103.2.1.slots_, r103.2.1.shred_, (⟨x53, x54⟩ : guard_Guard).boot_, (⟨x53, x54⟩ : guard_Guard).n_, r103.2.2.1.sure_, r103.2.2.1.wait_, r103.2.2.1.off_, r103.2.2.1.armed_, r103.2.2.1.left_, r103.2.2.1.fall_.Keep, r103.2.2.1.fall_.Tear, r103.2.2.1.acts_, r103.2.2.1.falls_, r103.2.2.2.keys_.e0, r103.2.2.2.keys_.e1, r103.2.2.2.keys_.e2, r103.2.2.2.keys_.e3, r103.2.2.2.keys_.e4, r103.2.2.2.keys_.e5, r103.2.2.2.keys_.e6, r103.2.2.2.keys_.e7, r103.2.2.2.boot_, r103.2.2.2.shred_, b36, b37, r103_p1, r103_c2, r103_b4, hR, hf.keep [0, 3, 5, 6, 7, 8, 9, 10, 11], sat_to [0, 0, 0, 0, 0, 2, 0, 0] 0 rfl hs⟩
      refine cw_cond_f rfl rfl h98 ?_
      refine cw_seq ?_
      refine cw_region ?_
      refine ow_vals 2 (j := 2) [0, 3, 5, 6, 7, 8, 9, 10, 11, 48, 84] [(0, .slice p0 x0.length c0), (3, .pointer (some ⟨r21_b2, 0, none⟩)), (5, .pointer (some ⟨b28, 0, none⟩)), (6, .pointer (some ⟨b37, 0, none⟩)), (7, .int .i64 x38), (8, .pointer (some ⟨b80, 0, none⟩)), (9, .int .i64 (IntKind.i64.wrap (1 + ((IntKind.i64.wrap (y71.C)).tmod 200)))), (10, .int .i64 0), (11, .int .i64 0), (48, .int .i64 y71.Kind), (84, .bool (y71.Kind == 6))] rfl (by kernel_rfl) ?_
      refine ow_end rfl ?_
      refine ew_then ?_
      rcases if_some hF with ⟨h108, hF⟩ | ⟨h108, hF⟩
      · refine cw_cond_t rfl rfl h108 ?_
        refine cw_region ?_
        refine ow_vals 3 (j := 3) [0, 3, 5, 6, 7, 8, 9, 87, 88, 89] [(0, .slice p0 x0.length c0), (3, .pointer (some ⟨r21_b2, 0, none⟩)), (5, .pointer (some ⟨b28, 0, none⟩)), (6, .pointer (some ⟨b37, 0, none⟩)), (7, .int .i64 x38), (8, .pointer (some ⟨b80, 0, none⟩)), (9, .int .i64 (IntKind.i64.wrap (1 + ((IntKind.i64.wrap (y71.C)).tmod 200)))), (87, .pointer (some ⟨b37, 0, none⟩)), (88, .pointer (some ⟨b28, 0, none⟩)), (89, .pointer (some ⟨b80, 1, none⟩))] rfl (by kernel_rfl) ?_
        refine ow_pw rfl (pw_quiet (v := .int .i64 y71.I) rfl rfl rfl rfl (q_load 1 rfl rfl rfl (by kernel_rfl)) (nw_ow ?_))
        refine ow_vals 1 (j := 5) [0, 3, 5, 6, 7, 8, 9, 87, 88, 90, 91] [(0, .slice p0 x0.length c0), (3, .pointer (some ⟨r21_b2, 0, none⟩)), (5, .pointer (some ⟨b28, 0, none⟩)), (6, .pointer (some ⟨b37, 0, none⟩)), (7, .int .i64 x38), (8, .pointer (some ⟨b80, 0, none⟩)), (9, .int .i64 (IntKind.i64.wrap (1 + ((IntKind.i64.wrap (y71.C)).tmod 200)))), (87, .pointer (some ⟨b37, 0, none⟩)), (88, .pointer (some ⟨b28, 0, none⟩)), (90, .int .i64 y71.I), (91, .int .i64 (IntKind.i64.wrap (1 + ((IntKind.i64.wrap (y71.C)).tmod 200))))] rfl (by kernel_rfl) ?_
        obtain ⟨r109, h110, hF⟩ := bind_some hF
        refine ow_pw rfl (pw_call (F := [pt b80 #[.int .i64 y71.Kind, .int .i64 y71.I, .int .u8 y71.C, .slice r75.List.p y71.List.length r75.List.c, .int .u64 y71.F.Keep, .int .i64 y71.F.Tear] 38] ++ F0) rfl rfl rfl rfl rfl rfl rfl (by kernel_rfl) (perm_of_pulls [0, 3, 2, 1, 1, 1, 1] rfl) (c_law13_put _ y71.I (ByteArray.mk #[110, 111, 32, 107, 101, 121]) (IntKind.i64.wrap (1 + ((IntKind.i64.wrap (y71.C)).tmod 200))) (⟨x55, x56, x57⟩ : keyring_Ring) (⟨x53, x54⟩ : guard_Guard) (⟨l39, l43, x46, x47, x48, (⟨x49, x50⟩ : disk_Fall), x51, x52⟩ : disk_Disk) (⟨(⟨x58, x59, x60, x61, x62, x63, x64, x65⟩ : A8_Inti64), x66, x67⟩ : law13_plain) b37 b36 p40 c41 b45 r21_b2 b28 r109 h110) ?_)
        rintro _ _ ⟨r109_p1, r109_c2, r109_b4, rfl, rfl⟩
        refine nw_H (H' := [imm I, pt b37 #[.pointer (some ⟨b36, 0, none⟩), .int .i64 ((⟨x55, x56, x57⟩ : keyring_Ring).base_), .int .i64 ((⟨x55, x56, x57⟩ : keyring_Ring).slots_), .int .i64 ((⟨x55, x56, x57⟩ : keyring_Ring).shred_)] 78, pt b36 #[.pointer (some ⟨r21_b2, 0, none⟩), .int .i64 r109.2.2.1.boot_, .int .i64 r109.2.2.1.n_] 75, pt r21_b2 #[.slice r109_p1 r109.2.2.2.1.sure_.length r109_c2, .map (some r109_b4), .bool r109.2.2.2.1.off_, .bool r109.2.2.2.1.armed_, .int .i64 r109.2.2.2.1.left_, .int .u64 r109.2.2.2.1.fall_.Keep, .int .i64 r109.2.2.2.1.fall_.Tear, .int .i64 r109.2.2.2.1.acts_, .int .i64 r109.2.2.2.1.falls_] 52, pt b28 #[.int .i64 r109.2.2.2.2.keys_.e0, .int .i64 r109.2.2.2.2.keys_.e1, .int .i64 r109.2.2.2.2.keys_.e2, .int .i64 r109.2.2.2.2.keys_.e3, .int .i64 r109.2.2.2.2.keys_.e4, .int .i64 r109.2.2.2.2.keys_.e5, .int .i64 r109.2.2.2.2.keys_.e6, .int .i64 r109.2.2.2.2.keys_.e7, .int .i64 r109.2.2.2.2.boot_, .int .i64 r109.2.2.2.2.shred_] 30, own e_disk_sector 55 r109_p1 r109_c2 r109.2.2.2.1.sure_, mpo (kInt .i64) (fun x : disk_sector => Value.agg #[.string x.s_, .int .i64 x.at_]) r109_b4 r109.2.2.2.1.wait_, pt b80 #[.int .i64 y71.Kind, .int .i64 y71.I, .int .u8 y71.C, .slice r75.List.p y71.List.length r75.List.c, .int .u64 y71.F.Keep, .int .i64 y71.F.Tear] 38] ++ F0) rfl (nw_ow ?_)
        refine ow_vals 5 (j := 11) [0, 3, 5, 6, 7, 8, 9, 10, 11] [(0, .slice p0 x0.length c0), (3, .pointer (some ⟨r21_b2, 0, none⟩)), (5, .pointer (some ⟨b28, 0, none⟩)), (6, .pointer (some ⟨b37, 0, none⟩)), (7, .int .i64 x38), (8, .pointer (some ⟨b80, 0, none⟩)), (9, .int .i64 (IntKind.i64.wrap (1 + ((IntKind.i64.wrap (y71.C)).tmod 200)))), (10, .int .i64 r109.1), (11, .int .i64 r109.2.1)] rfl (by kernel_rfl) ?_
        refine ow_end rfl ?_
        refine ew_blk ?_
        have hR := Option.some.inj hF
        exact fun a w hf hs => ⟨IntKind.i64.wrap (1 + ((IntKind.i64.wrap (y71.C)).tmod 200)), r109.1, r109.2.1, (⟨x55, x56, x57⟩ : keyring_Ring).base_, (⟨x55, x56, x57⟩ : keyring_Ring).slots_, (⟨x55, x56, x57⟩ : keyring_Ring).shred_, r109.2.2.1.boot_, r109.2.2.1.n_, r109.2.2.2.1.sure_, r109.2.2.2.1.wait_, r109.2.2.2.1.off_, r109.2.2.2.1.armed_, r109.2.2.2.1.left_, r109.2.2.2.1.fall_.Keep, r109.2.2.2.1.fall_.Tear, r109.2.2.2.1.acts_, r109.2.2.2.1.falls_, r109.2.2.2.2.keys_.e0, r109.2.2.2.2.keys_.e1, r109.2.2.2.2.keys_.e2, r109.2.2.2.2.keys_.e3, r109.2.2.2.2.keys_.e4, r109.2.2.2.2.keys_.e5, r109.2.2.2.2.keys_.e6, r109.2.2.2.2.keys_.e7, r109.2.2.2.2.boot_, r109.2.2.2.2.shred_, b36, b37, r109_p1, r109_c2, r109_b4, hR, hf.keep [0, 3, 5, 6, 7, 8, 9, 10, 11], sat_to [0, 0, 0, 0, 0, 2, 0, 0] 0 rfl hs⟩
      refine cw_cond_f rfl rfl h108 ?_
      refine cw_seq ?_
      refine cw_region ?_
      refine ow_vals 2 (j := 2) [0, 3, 5, 6, 7, 8, 9, 10, 11, 48, 95] [(0, .slice p0 x0.length c0), (3, .pointer (some ⟨r21_b2, 0, none⟩)), (5, .pointer (some ⟨b28, 0, none⟩)), (6, .pointer (some ⟨b37, 0, none⟩)), (7, .int .i64 x38), (8, .pointer (some ⟨b80, 0, none⟩)), (9, .int .i64 (IntKind.i64.wrap (1 + ((IntKind.i64.wrap (y71.C)).tmod 200)))), (10, .int .i64 0), (11, .int .i64 0), (48, .int .i64 y71.Kind), (95, .bool (y71.Kind == 7))] rfl (by kernel_rfl) ?_
      refine ow_end rfl ?_
      refine ew_then ?_
      rcases if_some hF with ⟨h113, hF⟩ | ⟨h113, hF⟩
      · refine cw_cond_t rfl rfl h113 ?_
        refine cw_region ?_
        refine ow_vals 3 (j := 3) [0, 3, 5, 7, 8, 9, 10, 11, 97, 98, 99] [(0, .slice p0 x0.length c0), (3, .pointer (some ⟨r21_b2, 0, none⟩)), (5, .pointer (some ⟨b28, 0, none⟩)), (7, .int .i64 x38), (8, .pointer (some ⟨b80, 0, none⟩)), (9, .int .i64 (IntKind.i64.wrap (1 + ((IntKind.i64.wrap (y71.C)).tmod 200)))), (10, .int .i64 0), (11, .int .i64 0), (97, .pointer (some ⟨r21_b2, 0, none⟩)), (98, .pointer (some ⟨b28, 0, none⟩)), (99, .pointer (some ⟨b80, 4, none⟩))] rfl (by kernel_rfl) ?_
        refine ow_pw rfl (pw_quiet (v := .agg #[.int .u64 y71.F.Keep, .int .i64 y71.F.Tear]) rfl rfl rfl rfl (q_load 1 rfl rfl rfl (by kernel_rfl)) (nw_ow ?_))
        obtain ⟨r114, h115, hF⟩ := bind_some hF
        refine ow_pw rfl (pw_call (F := [pt b80 #[.int .i64 y71.Kind, .int .i64 y71.I, .int .u8 y71.C, .slice r75.List.p y71.List.length r75.List.c, .int .u64 y71.F.Keep, .int .i64 y71.F.Tear] 38, pt b36 #[.pointer (some ⟨r21_b2, 0, none⟩), .int .i64 x53, .int .i64 x54] 75, pt b37 #[.pointer (some ⟨b36, 0, none⟩), .int .i64 x55, .int .i64 x56, .int .i64 x57] 78] ++ F0) rfl rfl rfl rfl rfl rfl rfl (by kernel_rfl) (perm_of_pulls [0, 1, 3, 3, 3] rfl) (c_law13_again _ y71.F (-1) 0 (⟨l39, l43, x46, x47, x48, (⟨x49, x50⟩ : disk_Fall), x51, x52⟩ : disk_Disk) (⟨(⟨x58, x59, x60, x61, x62, x63, x64, x65⟩ : A8_Inti64), x66, x67⟩ : law13_plain) p40 c41 b45 r21_b2 b28 r114 h115) ?_)
        rintro _ _ (⟨r114_p1, r114_c2, r114_b4, hO, rfl, rfl⟩ | ⟨r114_s1, r114_b2, r114_b4, r114_p6, r114_c7, r114_b9, hO, rfl, rfl⟩)
        · rw [hO] at hF
          try dsimp only [optC] at hF
          refine nw_H (H' := [imm I, pt r21_b2 #[.slice r114_p1 r114.2.1.sure_.length r114_c2, .map (some r114_b4), .bool r114.2.1.off_, .bool r114.2.1.armed_, .int .i64 r114.2.1.left_, .int .u64 r114.2.1.fall_.Keep, .int .i64 r114.2.1.fall_.Tear, .int .i64 r114.2.1.acts_, .int .i64 r114.2.1.falls_] 52, pt b28 #[.int .i64 r114.2.2.keys_.e0, .int .i64 r114.2.2.keys_.e1, .int .i64 r114.2.2.keys_.e2, .int .i64 r114.2.2.keys_.e3, .int .i64 r114.2.2.keys_.e4, .int .i64 r114.2.2.keys_.e5, .int .i64 r114.2.2.keys_.e6, .int .i64 r114.2.2.keys_.e7, .int .i64 r114.2.2.boot_, .int .i64 r114.2.2.shred_] 30, own e_disk_sector 55 r114_p1 r114_c2 r114.2.1.sure_, mpo (kInt .i64) (fun x : disk_sector => Value.agg #[.string x.s_, .int .i64 x.at_]) r114_b4 r114.2.1.wait_, pt b80 #[.int .i64 y71.Kind, .int .i64 y71.I, .int .u8 y71.C, .slice r75.List.p y71.List.length r75.List.c, .int .u64 y71.F.Keep, .int .i64 y71.F.Tear] 38, pt b36 #[.pointer (some ⟨r21_b2, 0, none⟩), .int .i64 x53, .int .i64 x54] 75, pt b37 #[.pointer (some ⟨b36, 0, none⟩), .int .i64 x55, .int .i64 x56, .int .i64 x57] 78] ++ F0) rfl (nw_ow ?_)
          refine ow_vals 1 (j := 6) [0, 3, 5, 6, 7, 8, 9, 10, 11] [(0, .slice p0 x0.length c0), (3, .pointer (some ⟨r21_b2, 0, none⟩)), (5, .pointer (some ⟨b28, 0, none⟩)), (6, .pointer none), (7, .int .i64 x38), (8, .pointer (some ⟨b80, 0, none⟩)), (9, .int .i64 (IntKind.i64.wrap (1 + ((IntKind.i64.wrap (y71.C)).tmod 200)))), (10, .int .i64 0), (11, .int .i64 0)] rfl (by kernel_rfl) ?_
          refine ow_end rfl ?_
          refine ew_blk ?_
          cases hF
        rw [hO] at hF
        try dsimp only [optC] at hF
        refine nw_H (H' := [imm I, pt r21_b2 #[.slice r114_p6 r114.2.1.sure_.length r114_c7, .map (some r114_b9), .bool r114.2.1.off_, .bool r114.2.1.armed_, .int .i64 r114.2.1.left_, .int .u64 r114.2.1.fall_.Keep, .int .i64 r114.2.1.fall_.Tear, .int .i64 r114.2.1.acts_, .int .i64 r114.2.1.falls_] 52, pt b28 #[.int .i64 r114.2.2.keys_.e0, .int .i64 r114.2.2.keys_.e1, .int .i64 r114.2.2.keys_.e2, .int .i64 r114.2.2.keys_.e3, .int .i64 r114.2.2.keys_.e4, .int .i64 r114.2.2.keys_.e5, .int .i64 r114.2.2.keys_.e6, .int .i64 r114.2.2.keys_.e7, .int .i64 r114.2.2.boot_, .int .i64 r114.2.2.shred_] 30, pt r114_b4 #[.pointer (some ⟨r21_b2, 0, none⟩), .int .i64 r114_s1.2.boot_, .int .i64 r114_s1.2.n_] 75, pt r114_b2 #[.pointer (some ⟨r114_b4, 0, none⟩), .int .i64 r114_s1.1.base_, .int .i64 r114_s1.1.slots_, .int .i64 r114_s1.1.shred_] 78, own e_disk_sector 55 r114_p6 r114_c7 r114.2.1.sure_, mpo (kInt .i64) (fun x : disk_sector => Value.agg #[.string x.s_, .int .i64 x.at_]) r114_b9 r114.2.1.wait_, pt b80 #[.int .i64 y71.Kind, .int .i64 y71.I, .int .u8 y71.C, .slice r75.List.p y71.List.length r75.List.c, .int .u64 y71.F.Keep, .int .i64 y71.F.Tear] 38, pt b36 #[.pointer (some ⟨r21_b2, 0, none⟩), .int .i64 x53, .int .i64 x54] 75, pt b37 #[.pointer (some ⟨b36, 0, none⟩), .int .i64 x55, .int .i64 x56, .int .i64 x57] 78] ++ F0) rfl (nw_ow ?_)
        refine ow_vals 1 (j := 6) [0, 3, 5, 6, 7, 8, 9, 10, 11] [(0, .slice p0 x0.length c0), (3, .pointer (some ⟨r21_b2, 0, none⟩)), (5, .pointer (some ⟨b28, 0, none⟩)), (6, .pointer (some ⟨r114_b2, 0, none⟩)), (7, .int .i64 x38), (8, .pointer (some ⟨b80, 0, none⟩)), (9, .int .i64 (IntKind.i64.wrap (1 + ((IntKind.i64.wrap (y71.C)).tmod 200)))), (10, .int .i64 0), (11, .int .i64 0)] rfl (by kernel_rfl) ?_
        refine ow_end rfl ?_
        refine ew_blk ?_
        have hR := Option.some.inj hF
        exact fun a w hf hs => ⟨IntKind.i64.wrap (1 + ((IntKind.i64.wrap (y71.C)).tmod 200)), 0, 0, r114_s1.1.base_, r114_s1.1.slots_, r114_s1.1.shred_, r114_s1.2.boot_, r114_s1.2.n_, r114.2.1.sure_, r114.2.1.wait_, r114.2.1.off_, r114.2.1.armed_, r114.2.1.left_, r114.2.1.fall_.Keep, r114.2.1.fall_.Tear, r114.2.1.acts_, r114.2.1.falls_, r114.2.2.keys_.e0, r114.2.2.keys_.e1, r114.2.2.keys_.e2, r114.2.2.keys_.e3, r114.2.2.keys_.e4, r114.2.2.keys_.e5, r114.2.2.keys_.e6, r114.2.2.keys_.e7, r114.2.2.boot_, r114.2.2.shred_, r114_b4, r114_b2, r114_p6, r114_c7, r114_b9, hR, hf.keep [0, 3, 5, 6, 7, 8, 9, 10, 11], sat_to [8, 8, 0, 3, 2, 0, 0, 2, 0, 0] 2 rfl hs⟩
      refine cw_cond_f rfl rfl h113 ?_
      refine cw_seq ?_
      refine cw_region ?_
      refine ow_vals 2 (j := 2) [0, 3, 5, 6, 7, 8, 9, 10, 11, 102] [(0, .slice p0 x0.length c0), (3, .pointer (some ⟨r21_b2, 0, none⟩)), (5, .pointer (some ⟨b28, 0, none⟩)), (6, .pointer (some ⟨b37, 0, none⟩)), (7, .int .i64 x38), (8, .pointer (some ⟨b80, 0, none⟩)), (9, .int .i64 (IntKind.i64.wrap (1 + ((IntKind.i64.wrap (y71.C)).tmod 200)))), (10, .int .i64 0), (11, .int .i64 0), (102, .bool (y71.Kind == 8))] rfl (by kernel_rfl) ?_
      refine ow_end rfl ?_
      refine ew_then ?_
      rcases if_some hF with ⟨h122, hF⟩ | ⟨h122, hF⟩
      · refine cw_cond_t rfl rfl h122 ?_
        refine cw_seq ?_
        refine cw_region ?_
        refine ow_vals 1 (j := 1) [0, 3, 5, 6, 7, 8, 9, 10, 11, 104] [(0, .slice p0 x0.length c0), (3, .pointer (some ⟨r21_b2, 0, none⟩)), (5, .pointer (some ⟨b28, 0, none⟩)), (6, .pointer (some ⟨b37, 0, none⟩)), (7, .int .i64 x38), (8, .pointer (some ⟨b80, 0, none⟩)), (9, .int .i64 (IntKind.i64.wrap (1 + ((IntKind.i64.wrap (y71.C)).tmod 200)))), (10, .int .i64 0), (11, .int .i64 0), (104, .pointer (some ⟨b80, 1, none⟩))] rfl (by kernel_rfl) ?_
        refine ow_pw rfl (pw_quiet (v := .int .i64 y71.I) rfl rfl rfl rfl (q_load 1 rfl rfl rfl (by kernel_rfl)) (nw_ow ?_))
        refine ow_vals 1 (j := 3) [0, 3, 5, 6, 7, 8, 9, 10, 11, 106] [(0, .slice p0 x0.length c0), (3, .pointer (some ⟨r21_b2, 0, none⟩)), (5, .pointer (some ⟨b28, 0, none⟩)), (6, .pointer (some ⟨b37, 0, none⟩)), (7, .int .i64 x38), (8, .pointer (some ⟨b80, 0, none⟩)), (9, .int .i64 (IntKind.i64.wrap (1 + ((IntKind.i64.wrap (y71.C)).tmod 200)))), (10, .int .i64 0), (11, .int .i64 0), (106, .bool (decide (y71.I ≥ 0)))] rfl (by kernel_rfl) ?_
        refine ow_end rfl ?_
        refine ew_then ?_
        rcases if_some hF with ⟨h123, hF⟩ | ⟨h123, hF⟩
        · refine cw_cond_t rfl rfl h123 ?_
          refine cw_region ?_
          refine ow_vals 2 (j := 2) [0, 3, 5, 6, 7, 8, 9, 10, 11, 107, 108] [(0, .slice p0 x0.length c0), (3, .pointer (some ⟨r21_b2, 0, none⟩)), (5, .pointer (some ⟨b28, 0, none⟩)), (6, .pointer (some ⟨b37, 0, none⟩)), (7, .int .i64 x38), (8, .pointer (some ⟨b80, 0, none⟩)), (9, .int .i64 (IntKind.i64.wrap (1 + ((IntKind.i64.wrap (y71.C)).tmod 200)))), (10, .int .i64 0), (11, .int .i64 0), (107, .pointer (some ⟨r21_b2, 0, none⟩)), (108, .pointer (some ⟨b80, 1, none⟩))] rfl (by kernel_rfl) ?_
          refine ow_pw rfl (pw_quiet (v := .int .i64 y71.I) rfl rfl rfl rfl (q_load 1 rfl rfl rfl (by kernel_rfl)) (nw_ow ?_))
          refine ow_vals 1 (j := 4) [0, 3, 5, 6, 7, 8, 9, 10, 11, 107, 109, 110] [(0, .slice p0 x0.length c0), (3, .pointer (some ⟨r21_b2, 0, none⟩)), (5, .pointer (some ⟨b28, 0, none⟩)), (6, .pointer (some ⟨b37, 0, none⟩)), (7, .int .i64 x38), (8, .pointer (some ⟨b80, 0, none⟩)), (9, .int .i64 (IntKind.i64.wrap (1 + ((IntKind.i64.wrap (y71.C)).tmod 200)))), (10, .int .i64 0), (11, .int .i64 0), (107, .pointer (some ⟨r21_b2, 0, none⟩)), (109, .int .i64 y71.I), (110, .pointer (some ⟨b80, 4, none⟩))] rfl (by kernel_rfl) ?_
          refine ow_pw rfl (pw_quiet (v := .agg #[.int .u64 y71.F.Keep, .int .i64 y71.F.Tear]) rfl rfl rfl rfl (q_load 1 rfl rfl rfl (by kernel_rfl)) (nw_ow ?_))
          obtain ⟨r124, h125, hF⟩ := bind_some hF
          refine ow_pw rfl (pw_call (F := [pt b80 #[.int .i64 y71.Kind, .int .i64 y71.I, .int .u8 y71.C, .slice r75.List.p y71.List.length r75.List.c, .int .u64 y71.F.Keep, .int .i64 y71.F.Tear] 38, pt b36 #[.pointer (some ⟨r21_b2, 0, none⟩), .int .i64 x53, .int .i64 x54] 75, pt b37 #[.pointer (some ⟨b36, 0, none⟩), .int .i64 x55, .int .i64 x56, .int .i64 x57] 78, pt b28 #[.int .i64 x58, .int .i64 x59, .int .i64 x60, .int .i64 x61, .int .i64 x62, .int .i64 x63, .int .i64 x64, .int .i64 x65, .int .i64 x66, .int .i64 x67] 30] ++ F0) rfl rfl rfl rfl rfl rfl rfl (by kernel_rfl) (perm_of_pulls [0, 1, 4, 4] rfl) (c_disk_Disk_Arm _ y71.I y71.F (⟨l39, l43, x46, x47, x48, (⟨x49, x50⟩ : disk_Fall), x51, x52⟩ : disk_Disk) p40 c41 b45 r21_b2 r124 h125) ?_)
          rintro _ _ ⟨r124_p1, r124_c2, r124_b4, rfl, rfl⟩
          refine nw_H (H' := [imm I, pt r21_b2 #[.slice r124_p1 r124.2.sure_.length r124_c2, .map (some r124_b4), .bool r124.2.off_, .bool r124.2.armed_, .int .i64 r124.2.left_, .int .u64 r124.2.fall_.Keep, .int .i64 r124.2.fall_.Tear, .int .i64 r124.2.acts_, .int .i64 r124.2.falls_] 52, own e_disk_sector 55 r124_p1 r124_c2 r124.2.sure_, mpo (kInt .i64) (fun x : disk_sector => Value.agg #[.string x.s_, .int .i64 x.at_]) r124_b4 r124.2.wait_, pt b80 #[.int .i64 y71.Kind, .int .i64 y71.I, .int .u8 y71.C, .slice r75.List.p y71.List.length r75.List.c, .int .u64 y71.F.Keep, .int .i64 y71.F.Tear] 38, pt b36 #[.pointer (some ⟨r21_b2, 0, none⟩), .int .i64 x53, .int .i64 x54] 75, pt b37 #[.pointer (some ⟨b36, 0, none⟩), .int .i64 x55, .int .i64 x56, .int .i64 x57] 78, pt b28 #[.int .i64 x58, .int .i64 x59, .int .i64 x60, .int .i64 x61, .int .i64 x62, .int .i64 x63, .int .i64 x64, .int .i64 x65, .int .i64 x66, .int .i64 x67] 30] ++ F0) rfl (nw_ow ?_)
          refine ow_end rfl ?_
          refine ew_blk ?_
          have hR := Option.some.inj hF
          exact fun a w hf hs => ⟨IntKind.i64.wrap (1 + ((IntKind.i64.wrap (y71.C)).tmod 200)), 0, 0, x55, x56, x57, x53, x54, r124.2.sure_, r124.2.wait_, r124.2.off_, r124.2.armed_, r124.2.left_, r124.2.fall_.Keep, r124.2.fall_.Tear, r124.2.acts_, r124.2.falls_, x58, x59, x60, x61, x62, x63, x64, x65, x66, x67, b36, b37, r124_p1, r124_c2, r124_b4, hR, hf.keep [0, 3, 5, 6, 7, 8, 9, 10, 11], sat_to [0, 5, 4, 0, 3, 2, 0, 0] 0 rfl hs⟩
        refine cw_cond_f rfl rfl h123 ?_
        refine cw_skip ?_
        refine ew_blk ?_
        have hR := Option.some.inj hF
        exact fun a w hf hs => ⟨IntKind.i64.wrap (1 + ((IntKind.i64.wrap (y71.C)).tmod 200)), 0, 0, x55, x56, x57, x53, x54, l39, l43, x46, x47, x48, x49, x50, x51, x52, x58, x59, x60, x61, x62, x63, x64, x65, x66, x67, b36, b37, p40, c41, b45, hR, hf.keep [0, 3, 5, 6, 7, 8, 9, 10, 11], sat_to [0, 3, 2, 1, 1, 0, 0, 0] 0 rfl hs⟩
      refine cw_cond_f rfl rfl h122 ?_
      refine cw_skip ?_
      refine ew_blk ?_
      have hR := Option.some.inj hF
      exact fun a w hf hs => ⟨IntKind.i64.wrap (1 + ((IntKind.i64.wrap (y71.C)).tmod 200)), 0, 0, x55, x56, x57, x53, x54, l39, l43, x46, x47, x48, x49, x50, x51, x52, x58, x59, x60, x61, x62, x63, x64, x65, x66, x67, b36, b37, p40, c41, b45, hR, hf.keep [0, 3, 5, 6, 7, 8, 9, 10, 11], sat_to [0, 3, 2, 1, 1, 0, 0, 0] 0 rfl hs⟩
    rintro a w ⟨x130, x131, x132, x133, x134, x135, x136, x137, l138, l142, x145, x146, x147, x148, x149, x150, x151, x152, x153, x154, x155, x156, x157, x158, x159, x160, x161, b128, b129, p139, c140, b144, hv, hf, hs⟩
    subst hv
    replace hF := hK82
    clear hK82
    try dsimp only [Thru] at hF
    revert a w
    show CW _ _ _ 141 [(0, .slice p0 x0.length c0), (3, .pointer (some ⟨r21_b2, 0, none⟩)), (5, .pointer (some ⟨b28, 0, none⟩)), (6, .pointer (some ⟨b129, 0, none⟩)), (7, .int .i64 x38), (8, .pointer (some ⟨b80, 0, none⟩)), (9, .int .i64 x130), (10, .int .i64 x131), (11, .int .i64 x132)] (SAT w0 ([imm I, pt b129 #[.pointer (some ⟨b128, 0, none⟩), .int .i64 x133, .int .i64 x134, .int .i64 x135] 78, pt b128 #[.pointer (some ⟨r21_b2, 0, none⟩), .int .i64 x136, .int .i64 x137] 75, pt r21_b2 #[.slice p139 l138.length c140, .map (some b144), .bool x145, .bool x146, .int .i64 x147, .int .u64 x148, .int .i64 x149, .int .i64 x150, .int .i64 x151] 52, pt b28 #[.int .i64 x152, .int .i64 x153, .int .i64 x154, .int .i64 x155, .int .i64 x156, .int .i64 x157, .int .i64 x158, .int .i64 x159, .int .i64 x160, .int .i64 x161] 30, pt b80 #[.int .i64 y71.Kind, .int .i64 y71.I, .int .u8 y71.C, .slice r75.List.p y71.List.length r75.List.c, .int .u64 y71.F.Keep, .int .i64 y71.F.Tear] 38, own e_disk_sector 55 p139 c140 l138, mpo (kInt .i64) (fun x : disk_sector => Value.agg #[.string x.s_, .int .i64 x.at_]) b144 l142] ++ F0))
    unfold F.law13_KeyringPlays.r4 at hF
    obtain ⟨v162, hF, hK162⟩ := thru_some hF
    refine cw_mid (fun a w => ∃ (x177 : Int), ∃ (l178 : List disk_sector), ∃ (l182 : List (Int × disk_sector)), ∃ (x185 : Bool), ∃ (x186 : Bool), ∃ (x187 : Int), ∃ (x188 : Int), ∃ (x189 : Int), ∃ (x190 : Int), ∃ (x191 : Int), ∃ (x192 : Int), ∃ (x193 : Int), ∃ (x194 : Int), ∃ (x195 : Int), ∃ (x196 : Int), ∃ (x197 : Int), ∃ (x198 : Int), ∃ (x199 : Int), ∃ (x200 : Int), ∃ (x201 : Int), ∃ (x202 : Int), ∃ (x203 : Int), ∃ (x204 : Int), ∃ (x205 : Int), ∃ (x206 : Int), ∃ (b175 : Nat), ∃ (b176 : Nat), ∃ (p179 : Option Addr), ∃ (c180 : Nat), ∃ (b184 : Nat), .inl (x177, l178, l182, x185, x186, x187, x188, x189, x190, x191, x192, x193, x194, x195, x196, x197, x198, x199, x200, x201, x202, x203, x204, x205, x206) = v162 ∧ Fr 141 [(0, .slice p0 x0.length c0), (3, .pointer (some ⟨r21_b2, 0, none⟩)), (5, .pointer (some ⟨b28, 0, none⟩)), (6, .pointer (some ⟨b176, 0, none⟩)), (7, .int .i64 x38), (10, .int .i64 x177), (11, .int .i64 x132)] a ∧ SAT w0 ([imm I, pt r21_b2 #[.slice p179 l178.length c180, .map (some b184), .bool x185, .bool x186, .int .i64 x187, .int .u64 x188, .int .i64 x189, .int .i64 x190, .int .i64 x191] 52, pt b28 #[.int .i64 x192, .int .i64 x193, .int .i64 x194, .int .i64 x195, .int .i64 x196, .int .i64 x197, .int .i64 x198, .int .i64 x199, .int .i64 x200, .int .i64 x201] 30, pt b175 #[.pointer (some ⟨r21_b2, 0, none⟩), .int .i64 x202, .int .i64 x203] 75, pt b176 #[.pointer (some ⟨b175, 0, none⟩), .int .i64 x204, .int .i64 x205, .int .i64 x206] 78, pt b80 #[.int .i64 y71.Kind, .int .i64 y71.I, .int .u8 y71.C, .slice r75.List.p y71.List.length r75.List.c, .int .u64 y71.F.Keep, .int .i64 y71.F.Tear] 38, own e_disk_sector 55 p179 c180 l178, mpo (kInt .i64) (fun x : disk_sector => Value.agg #[.string x.s_, .int .i64 x.at_]) b184 l182] ++ F0) w) ?_ ?_
    · refine cw_seq ?_
      refine cw_region ?_
      refine ow_vals 1 (j := 1) [0, 3, 5, 6, 7, 8, 9, 10, 11, 113] [(0, .slice p0 x0.length c0), (3, .pointer (some ⟨r21_b2, 0, none⟩)), (5, .pointer (some ⟨b28, 0, none⟩)), (6, .pointer (some ⟨b129, 0, none⟩)), (7, .int .i64 x38), (8, .pointer (some ⟨b80, 0, none⟩)), (9, .int .i64 x130), (10, .int .i64 x131), (11, .int .i64 x132), (113, .pointer (some ⟨r21_b2, 0, none⟩))] rfl (by kernel_rfl) ?_
      obtain ⟨r163, h164, hF⟩ := bind_some hF
      refine ow_pw rfl (pw_call (F := [pt b129 #[.pointer (some ⟨b128, 0, none⟩), .int .i64 x133, .int .i64 x134, .int .i64 x135] 78, pt b128 #[.pointer (some ⟨r21_b2, 0, none⟩), .int .i64 x136, .int .i64 x137] 75, pt b28 #[.int .i64 x152, .int .i64 x153, .int .i64 x154, .int .i64 x155, .int .i64 x156, .int .i64 x157, .int .i64 x158, .int .i64 x159, .int .i64 x160, .int .i64 x161] 30, pt b80 #[.int .i64 y71.Kind, .int .i64 y71.I, .int .u8 y71.C, .slice r75.List.p y71.List.length r75.List.c, .int .u64 y71.F.Keep, .int .i64 y71.F.Tear] 38] ++ F0) rfl rfl rfl rfl rfl rfl rfl (by kernel_rfl) (perm_of_pulls [0, 2, 4, 4] rfl) (c_disk_Disk_Up _ (⟨l138, l142, x145, x146, x147, (⟨x148, x149⟩ : disk_Fall), x150, x151⟩ : disk_Disk) p139 c140 b144 r21_b2 r163 h164) ?_)
      rintro _ _ ⟨rfl, rfl⟩
      refine nw_H (H' := [imm I, pt r21_b2 #[.slice p139 ((⟨l138, l142, x145, x146, x147, (⟨x148, x149⟩ : disk_Fall), x150, x151⟩ : disk_Disk).sure_).length c140, .map (some b144), .bool ((⟨l138, l142, x145, x146, x147, (⟨x148, x149⟩ : disk_Fall), x150, x151⟩ : disk_Disk).off_), .bool ((⟨l138, l142, x145, x146, x147, (⟨x148, x149⟩ : disk_Fall), x150, x151⟩ : disk_Disk).armed_), .int .i64 ((⟨l138, l142, x145, x146, x147, (⟨x148, x149⟩ : disk_Fall), x150, x151⟩ : disk_Disk).left_), .int .u64 ((⟨l138, l142, x145, x146, x147, (⟨x148, x149⟩ : disk_Fall), x150, x151⟩ : disk_Disk).fall_.Keep), .int .i64 ((⟨l138, l142, x145, x146, x147, (⟨x148, x149⟩ : disk_Fall), x150, x151⟩ : disk_Disk).fall_.Tear), .int .i64 ((⟨l138, l142, x145, x146, x147, (⟨x148, x149⟩ : disk_Fall), x150, x151⟩ : disk_Disk).acts_), .int .i64 ((⟨l138, l142, x145, x146, x147, (⟨x148, x149⟩ : disk_Fall), x150, x151⟩ : disk_Disk).falls_)] 52, own e_disk_sector 55 p139 c140 ((⟨l138, l142, x145, x146, x147, (⟨x148, x149⟩ : disk_Fall), x150, x151⟩ : disk_Disk).sure_), mpo (kInt .i64) (fun x : disk_sector => Value.agg #[.string x.s_, .int .i64 x.at_]) b144 ((⟨l138, l142, x145, x146, x147, (⟨x148, x149⟩ : disk_Fall), x150, x151⟩ : disk_Disk).wait_), pt b129 #[.pointer (some ⟨b128, 0, none⟩), .int .i64 x133, .int .i64 x134, .int .i64 x135] 78, pt b128 #[.pointer (some ⟨r21_b2, 0, none⟩), .int .i64 x136, .int .i64 x137] 75, pt b28 #[.int .i64 x152, .int .i64 x153, .int .i64 x154, .int .i64 x155, .int .i64 x156, .int .i64 x157, .int .i64 x158, .int .i64 x159, .int .i64 x160, .int .i64 x161] 30, pt b80 #[.int .i64 y71.Kind, .int .i64 y71.I, .int .u8 y71.C, .slice r75.List.p y71.List.length r75.List.c, .int .u64 y71.F.Keep, .int .i64 y71.F.Tear] 38] ++ F0) rfl (nw_ow ?_)
      refine ow_vals 1 (j := 3) [0, 3, 5, 6, 7, 8, 9, 10, 11, 115] [(0, .slice p0 x0.length c0), (3, .pointer (some ⟨r21_b2, 0, none⟩)), (5, .pointer (some ⟨b28, 0, none⟩)), (6, .pointer (some ⟨b129, 0, none⟩)), (7, .int .i64 x38), (8, .pointer (some ⟨b80, 0, none⟩)), (9, .int .i64 x130), (10, .int .i64 x131), (11, .int .i64 x132), (115, .bool (!r163))] rfl (by kernel_rfl) ?_
      refine ow_end rfl ?_
      refine ew_then ?_
      rcases if_some hF with ⟨h165, hF⟩ | ⟨h165, hF⟩
      · refine cw_cond_t rfl rfl h165 ?_
        refine cw_seq ?_
        refine cw_seq ?_
        refine cw_region ?_
        refine ow_vals 2 (j := 2) [0, 3, 5, 7, 8, 9, 11, 117] [(0, .slice p0 x0.length c0), (3, .pointer (some ⟨r21_b2, 0, none⟩)), (5, .pointer (some ⟨b28, 0, none⟩)), (7, .int .i64 x38), (8, .pointer (some ⟨b80, 0, none⟩)), (9, .int .i64 x130), (11, .int .i64 x132), (117, .bool (x131 != 8))] rfl (by kernel_rfl) ?_
        refine ow_end rfl ?_
        refine ew_then ?_
        rcases if_some hF with ⟨h166, hF⟩ | ⟨h166, hF⟩
        · refine cw_cond_t rfl rfl h166 ?_
          refine cw_seq ?_
          refine cw_region ?_
          refine ow_vals 1 (j := 1) [2] [(2, .bool false)] rfl (by kernel_rfl) ?_
          refine ow_end rfl ?_
          refine ew_then ?_
          refine cw_ret ?_
          refine ew_then_ret ?_
          refine ew_then_ret ?_
          refine ew_blk_ret ?_
          refine ew_then_ret ?_
          refine ew_then_ret ?_
          refine ew_blk_ret ?_
          refine ew_then_ret ?_
          have hR := Option.some.inj hF
          subst hR
          have hR := hK162
          try dsimp only [Thru] at hR
          subst hR
          have hR := hL35
          try dsimp only at hR
          subst hR
          have hR := hK34
          try dsimp only [Thru] at hR
          subst hR
          exact fin1 (H1 := [imm I]) (fun w hs => sat_to [1, 1, 1, 1, 1, 1, 1, 0] 7 rfl hs) rfl (rr_tmp rfl) ⟨rfl, rfl⟩
        refine cw_cond_f rfl rfl h166 ?_
        refine cw_skip ?_
        refine ew_then ?_
        refine cw_seq ?_
        refine cw_region ?_
        refine ow_vals 3 (j := 3) [0, 3, 5, 7, 8, 9, 11, 118, 119, 120] [(0, .slice p0 x0.length c0), (3, .pointer (some ⟨r21_b2, 0, none⟩)), (5, .pointer (some ⟨b28, 0, none⟩)), (7, .int .i64 x38), (8, .pointer (some ⟨b80, 0, none⟩)), (9, .int .i64 x130), (11, .int .i64 x132), (118, .pointer (some ⟨r21_b2, 0, none⟩)), (119, .pointer (some ⟨b28, 0, none⟩)), (120, .pointer (some ⟨b80, 4, none⟩))] rfl (by kernel_rfl) ?_
        refine ow_pw rfl (pw_quiet (v := .agg #[.int .u64 y71.F.Keep, .int .i64 y71.F.Tear]) rfl rfl rfl rfl (q_load 7 rfl rfl rfl (by kernel_rfl)) (nw_ow ?_))
        refine ow_vals 1 (j := 5) [0, 3, 5, 7, 9, 11, 118, 119, 121, 122] [(0, .slice p0 x0.length c0), (3, .pointer (some ⟨r21_b2, 0, none⟩)), (5, .pointer (some ⟨b28, 0, none⟩)), (7, .int .i64 x38), (9, .int .i64 x130), (11, .int .i64 x132), (118, .pointer (some ⟨r21_b2, 0, none⟩)), (119, .pointer (some ⟨b28, 0, none⟩)), (121, .agg #[.int .u64 y71.F.Keep, .int .i64 y71.F.Tear]), (122, .pointer (some ⟨b80, 1, none⟩))] rfl (by kernel_rfl) ?_
        refine ow_pw rfl (pw_quiet (v := .int .i64 y71.I) rfl rfl rfl rfl (q_load 7 rfl rfl rfl (by kernel_rfl)) (nw_ow ?_))
        refine ow_vals 1 (j := 7) [0, 3, 5, 7, 11, 118, 119, 121, 123, 124] [(0, .slice p0 x0.length c0), (3, .pointer (some ⟨r21_b2, 0, none⟩)), (5, .pointer (some ⟨b28, 0, none⟩)), (7, .int .i64 x38), (11, .int .i64 x132), (118, .pointer (some ⟨r21_b2, 0, none⟩)), (119, .pointer (some ⟨b28, 0, none⟩)), (121, .agg #[.int .u64 y71.F.Keep, .int .i64 y71.F.Tear]), (123, .int .i64 y71.I), (124, .int .i64 x130)] rfl (by kernel_rfl) ?_
        obtain ⟨r167, h168, hF⟩ := bind_some hF
        refine ow_pw rfl (pw_call (F := [pt b129 #[.pointer (some ⟨b128, 0, none⟩), .int .i64 x133, .int .i64 x134, .int .i64 x135] 78, pt b128 #[.pointer (some ⟨r21_b2, 0, none⟩), .int .i64 x136, .int .i64 x137] 75, pt b80 #[.int .i64 y71.Kind, .int .i64 y71.I, .int .u8 y71.C, .slice r75.List.p y71.List.length r75.List.c, .int .u64 y71.F.Keep, .int .i64 y71.F.Tear] 38] ++ F0) rfl rfl rfl rfl rfl rfl rfl (by kernel_rfl) (perm_of_pulls [0, 0, 4, 0, 0] rfl) (c_law13_again _ y71.F y71.I x130 (⟨l138, l142, x145, x146, x147, (⟨x148, x149⟩ : disk_Fall), x150, x151⟩ : disk_Disk) (⟨(⟨x152, x153, x154, x155, x156, x157, x158, x159⟩ : A8_Inti64), x160, x161⟩ : law13_plain) p139 c140 b144 r21_b2 b28 r167 h168) ?_)
        rintro _ _ (⟨r167_p1, r167_c2, r167_b4, hO, rfl, rfl⟩ | ⟨r167_s1, r167_b2, r167_b4, r167_p6, r167_c7, r167_b9, hO, rfl, rfl⟩)
        · rw [hO] at hF
          try dsimp only [optC] at hF
          refine nw_H (H' := [imm I, pt r21_b2 #[.slice r167_p1 r167.2.1.sure_.length r167_c2, .map (some r167_b4), .bool r167.2.1.off_, .bool r167.2.1.armed_, .int .i64 r167.2.1.left_, .int .u64 r167.2.1.fall_.Keep, .int .i64 r167.2.1.fall_.Tear, .int .i64 r167.2.1.acts_, .int .i64 r167.2.1.falls_] 52, pt b28 #[.int .i64 r167.2.2.keys_.e0, .int .i64 r167.2.2.keys_.e1, .int .i64 r167.2.2.keys_.e2, .int .i64 r167.2.2.keys_.e3, .int .i64 r167.2.2.keys_.e4, .int .i64 r167.2.2.keys_.e5, .int .i64 r167.2.2.keys_.e6, .int .i64 r167.2.2.keys_.e7, .int .i64 r167.2.2.boot_, .int .i64 r167.2.2.shred_] 30, own e_disk_sector 55 r167_p1 r167_c2 r167.2.1.sure_, mpo (kInt .i64) (fun x : disk_sector => Value.agg #[.string x.s_, .int .i64 x.at_]) r167_b4 r167.2.1.wait_, pt b129 #[.pointer (some ⟨b128, 0, none⟩), .int .i64 x133, .int .i64 x134, .int .i64 x135] 78, pt b128 #[.pointer (some ⟨r21_b2, 0, none⟩), .int .i64 x136, .int .i64 x137] 75, pt b80 #[.int .i64 y71.Kind, .int .i64 y71.I, .int .u8 y71.C, .slice r75.List.p y71.List.length r75.List.c, .int .u64 y71.F.Keep, .int .i64 y71.F.Tear] 38] ++ F0) rfl (nw_ow ?_)
          refine ow_vals 1 (j := 9) [0, 3, 5, 6, 7, 11] [(0, .slice p0 x0.length c0), (3, .pointer (some ⟨r21_b2, 0, none⟩)), (5, .pointer (some ⟨b28, 0, none⟩)), (6, .pointer none), (7, .int .i64 x38), (11, .int .i64 x132)] rfl (by kernel_rfl) ?_
          refine ow_end rfl ?_
          refine ew_then ?_
          refine cw_region ?_
          refine ow_vals 2 (j := 2) [0, 3, 5, 6, 7, 10, 11] [(0, .slice p0 x0.length c0), (3, .pointer (some ⟨r21_b2, 0, none⟩)), (5, .pointer (some ⟨b28, 0, none⟩)), (6, .pointer none), (7, .int .i64 x38), (10, .int .i64 x132), (11, .int .i64 x132)] rfl (by kernel_rfl) ?_
          refine ow_end rfl ?_
          cases hF
        rw [hO] at hF
        try dsimp only [optC] at hF
        refine nw_H (H' := [imm I, pt r21_b2 #[.slice r167_p6 r167.2.1.sure_.length r167_c7, .map (some r167_b9), .bool r167.2.1.off_, .bool r167.2.1.armed_, .int .i64 r167.2.1.left_, .int .u64 r167.2.1.fall_.Keep, .int .i64 r167.2.1.fall_.Tear, .int .i64 r167.2.1.acts_, .int .i64 r167.2.1.falls_] 52, pt b28 #[.int .i64 r167.2.2.keys_.e0, .int .i64 r167.2.2.keys_.e1, .int .i64 r167.2.2.keys_.e2, .int .i64 r167.2.2.keys_.e3, .int .i64 r167.2.2.keys_.e4, .int .i64 r167.2.2.keys_.e5, .int .i64 r167.2.2.keys_.e6, .int .i64 r167.2.2.keys_.e7, .int .i64 r167.2.2.boot_, .int .i64 r167.2.2.shred_] 30, pt r167_b4 #[.pointer (some ⟨r21_b2, 0, none⟩), .int .i64 r167_s1.2.boot_, .int .i64 r167_s1.2.n_] 75, pt r167_b2 #[.pointer (some ⟨r167_b4, 0, none⟩), .int .i64 r167_s1.1.base_, .int .i64 r167_s1.1.slots_, .int .i64 r167_s1.1.shred_] 78, own e_disk_sector 55 r167_p6 r167_c7 r167.2.1.sure_, mpo (kInt .i64) (fun x : disk_sector => Value.agg #[.string x.s_, .int .i64 x.at_]) r167_b9 r167.2.1.wait_, pt b129 #[.pointer (some ⟨b128, 0, none⟩), .int .i64 x133, .int .i64 x134, .int .i64 x135] 78, pt b128 #[.pointer (some ⟨r21_b2, 0, none⟩), .int .i64 x136, .int .i64 x137] 75, pt b80 #[.int .i64 y71.Kind, .int .i64 y71.I, .int .u8 y71.C, .slice r75.List.p y71.List.length r75.List.c, .int .u64 y71.F.Keep, .int .i64 y71.F.Tear] 38] ++ F0) rfl (nw_ow ?_)
        refine ow_vals 1 (j := 9) [0, 3, 5, 6, 7, 11] [(0, .slice p0 x0.length c0), (3, .pointer (some ⟨r21_b2, 0, none⟩)), (5, .pointer (some ⟨b28, 0, none⟩)), (6, .pointer (some ⟨r167_b2, 0, none⟩)), (7, .int .i64 x38), (11, .int .i64 x132)] rfl (by kernel_rfl) ?_
        refine ow_end rfl ?_
        refine ew_then ?_
        refine cw_region ?_
        refine ow_vals 2 (j := 2) [0, 3, 5, 6, 7, 10, 11] [(0, .slice p0 x0.length c0), (3, .pointer (some ⟨r21_b2, 0, none⟩)), (5, .pointer (some ⟨b28, 0, none⟩)), (6, .pointer (some ⟨r167_b2, 0, none⟩)), (7, .int .i64 x38), (10, .int .i64 x132), (11, .int .i64 x132)] rfl (by kernel_rfl) ?_
        refine ow_end rfl ?_
        have hR := Option.some.inj hF
        exact fun a w hf hs => ⟨x132, r167.2.1.sure_, r167.2.1.wait_, r167.2.1.off_, r167.2.1.armed_, r167.2.1.left_, r167.2.1.fall_.Keep, r167.2.1.fall_.Tear, r167.2.1.acts_, r167.2.1.falls_, r167.2.2.keys_.e0, r167.2.2.keys_.e1, r167.2.2.keys_.e2, r167.2.2.keys_.e3, r167.2.2.keys_.e4, r167.2.2.keys_.e5, r167.2.2.keys_.e6, r167.2.2.keys_.e7, r167.2.2.boot_, r167.2.2.shred_, r167_s1.2.boot_, r167_s1.2.n_, r167_s1.1.base_, r167_s1.1.slots_, r167_s1.1.shred_, r167_b4, r167_b2, r167_p6, r167_c7, r167_b9, hR, hf.keep [0, 3, 5, 6, 7, 10, 11], sat_to [7, 7, 0, 0, 0, 0, 0, 2, 0, 0] 2 rfl hs⟩
      refine cw_cond_f rfl rfl h165 ?_
      refine cw_skip ?_
      have hR := Option.some.inj hF
      exact fun a w hf hs => ⟨x131, (⟨l138, l142, x145, x146, x147, (⟨x148, x149⟩ : disk_Fall), x150, x151⟩ : disk_Disk).sure_, (⟨l138, l142, x145, x146, x147, (⟨x148, x149⟩ : disk_Fall), x150, x151⟩ : disk_Disk).wait_, (⟨l138, l142, x145, x146, x147, (⟨x148, x149⟩ : disk_Fall), x150, x151⟩ : disk_Disk).off_, (⟨l138, l142, x145, x146, x147, (⟨x148, x149⟩ : disk_Fall), x150, x151⟩ : disk_Disk).armed_, (⟨l138, l142, x145, x146, x147, (⟨x148, x149⟩ : disk_Fall), x150, x151⟩ : disk_Disk).left_, (⟨l138, l142, x145, x146, x147, (⟨x148, x149⟩ : disk_Fall), x150, x151⟩ : disk_Disk).fall_.Keep, (⟨l138, l142, x145, x146, x147, (⟨x148, x149⟩ : disk_Fall), x150, x151⟩ : disk_Disk).fall_.Tear, (⟨l138, l142, x145, x146, x147, (⟨x148, x149⟩ : disk_Fall), x150, x151⟩ : disk_Disk).acts_, (⟨l138, l142, x145, x146, x147, (⟨x148, x149⟩ : disk_Fall), x150, x151⟩ : disk_Disk).falls_, x152, x153, x154, x155, x156, x157, x158, x159, x160, x161, x136, x137, x133, x134, x135, b128, b129, p139, c140, b144, hR, hf.keep [0, 3, 5, 6, 7, 10, 11], sat_to [0, 0, 4, 3, 2, 2, 0, 0] 0 rfl hs⟩
    rintro a w ⟨x177, l178, l182, x185, x186, x187, x188, x189, x190, x191, x192, x193, x194, x195, x196, x197, x198, x199, x200, x201, x202, x203, x204, x205, x206, b175, b176, p179, c180, b184, hv, hf, hs⟩
    subst hv
    replace hF := hK162
    clear hK162
    try dsimp only [Thru] at hF
    revert a w
    show CW _ _ _ 141 [(0, .slice p0 x0.length c0), (3, .pointer (some ⟨r21_b2, 0, none⟩)), (5, .pointer (some ⟨b28, 0, none⟩)), (6, .pointer (some ⟨b176, 0, none⟩)), (7, .int .i64 x38), (10, .int .i64 x177), (11, .int .i64 x132)] (SAT w0 ([imm I, pt r21_b2 #[.slice p179 l178.length c180, .map (some b184), .bool x185, .bool x186, .int .i64 x187, .int .u64 x188, .int .i64 x189, .int .i64 x190, .int .i64 x191] 52, pt b28 #[.int .i64 x192, .int .i64 x193, .int .i64 x194, .int .i64 x195, .int .i64 x196, .int .i64 x197, .int .i64 x198, .int .i64 x199, .int .i64 x200, .int .i64 x201] 30, pt b175 #[.pointer (some ⟨r21_b2, 0, none⟩), .int .i64 x202, .int .i64 x203] 75, pt b176 #[.pointer (some ⟨b175, 0, none⟩), .int .i64 x204, .int .i64 x205, .int .i64 x206] 78, pt b80 #[.int .i64 y71.Kind, .int .i64 y71.I, .int .u8 y71.C, .slice r75.List.p y71.List.length r75.List.c, .int .u64 y71.F.Keep, .int .i64 y71.F.Tear] 38, own e_disk_sector 55 p179 c180 l178, mpo (kInt .i64) (fun x : disk_sector => Value.agg #[.string x.s_, .int .i64 x.at_]) b184 l182] ++ F0))
    unfold F.law13_KeyringPlays.r5 at hF
    refine cw_seq ?_
    refine cw_region ?_
    refine ow_vals 4 (j := 4) [0, 3, 5, 6, 7, 130] [(0, .slice p0 x0.length c0), (3, .pointer (some ⟨r21_b2, 0, none⟩)), (5, .pointer (some ⟨b28, 0, none⟩)), (6, .pointer (some ⟨b176, 0, none⟩)), (7, .int .i64 x38), (130, .bool (x177 != x132))] rfl (by kernel_rfl) ?_
    rcases if_some hF with ⟨h207, hF⟩ | ⟨h207, hF⟩
    · refine ow_slots (L' := [(0, .slice p0 x0.length c0), (3, .pointer (some ⟨r21_b2, 0, none⟩)), (5, .pointer (some ⟨b28, 0, none⟩)), (6, .pointer (some ⟨b176, 0, none⟩)), (7, .int .i64 x38), (130, .bool true)]) (by rw [h207]) ?_
      refine ow_vals 9 (j := 13) [0, 3, 5, 6, 7, 139] [(0, .slice p0 x0.length c0), (3, .pointer (some ⟨r21_b2, 0, none⟩)), (5, .pointer (some ⟨b28, 0, none⟩)), (6, .pointer (some ⟨b176, 0, none⟩)), (7, .int .i64 x38), (139, .bool true)] rfl (by kernel_rfl) ?_
      refine ow_end rfl ?_
      refine ew_then ?_
      refine cw_cond_t rfl rfl rfl ?_
      refine cw_seq ?_
      refine cw_region ?_
      refine ow_vals 1 (j := 1) [2] [(2, .bool false)] rfl (by kernel_rfl) ?_
      refine ow_end rfl ?_
      refine ew_then ?_
      refine cw_ret ?_
      refine ew_blk_ret ?_
      refine ew_then_ret ?_
      refine ew_then_ret ?_
      refine ew_blk_ret ?_
      refine ew_then_ret ?_
      have hR := Option.some.inj hF
      subst hR
      have hR := hL35
      try dsimp only at hR
      subst hR
      have hR := hK34
      try dsimp only [Thru] at hR
      subst hR
      exact fin1 (H1 := [imm I]) (fun w hs => sat_to [1, 1, 1, 1, 1, 1, 1, 0] 7 rfl hs) rfl (rr_tmp rfl) ⟨rfl, rfl⟩
    refine ow_slots (L' := [(0, .slice p0 x0.length c0), (3, .pointer (some ⟨r21_b2, 0, none⟩)), (5, .pointer (some ⟨b28, 0, none⟩)), (6, .pointer (some ⟨b176, 0, none⟩)), (7, .int .i64 x38), (130, .bool false)]) (by rw [h207]) ?_
    refine ow_vals 6 (j := 10) [0, 3, 5, 6, 7, 134, 135, 136] [(0, .slice p0 x0.length c0), (3, .pointer (some ⟨r21_b2, 0, none⟩)), (5, .pointer (some ⟨b28, 0, none⟩)), (6, .pointer (some ⟨b176, 0, none⟩)), (7, .int .i64 x38), (134, .bool false), (135, .pointer (some ⟨b176, 0, none⟩)), (136, .pointer (some ⟨b28, 0, none⟩))] rfl (by kernel_rfl) ?_
    obtain ⟨r208, h209, hF⟩ := bind_some hF
    refine ow_pw rfl (pw_call (F := [pt b80 #[.int .i64 y71.Kind, .int .i64 y71.I, .int .u8 y71.C, .slice r75.List.p y71.List.length r75.List.c, .int .u64 y71.F.Keep, .int .i64 y71.F.Tear] 38] ++ F0) rfl rfl rfl rfl rfl rfl rfl (by kernel_rfl) (perm_of_pulls [0, 3, 2, 0, 0, 1, 1] rfl) (c_law13_stands _ (⟨x204, x205, x206⟩ : keyring_Ring) (⟨x202, x203⟩ : guard_Guard) (⟨l178, l182, x185, x186, x187, (⟨x188, x189⟩ : disk_Fall), x190, x191⟩ : disk_Disk) (⟨(⟨x192, x193, x194, x195, x196, x197, x198, x199⟩ : A8_Inti64), x200, x201⟩ : law13_plain) b176 b175 p179 c180 b184 r21_b2 b28 r208 h209) ?_)
    rintro _ _ ⟨rfl, rfl⟩
    refine nw_H (H' := [imm I, pt b176 #[.pointer (some ⟨b175, 0, none⟩), .int .i64 ((⟨x204, x205, x206⟩ : keyring_Ring).base_), .int .i64 ((⟨x204, x205, x206⟩ : keyring_Ring).slots_), .int .i64 ((⟨x204, x205, x206⟩ : keyring_Ring).shred_)] 78, pt b175 #[.pointer (some ⟨r21_b2, 0, none⟩), .int .i64 ((⟨x202, x203⟩ : guard_Guard).boot_), .int .i64 ((⟨x202, x203⟩ : guard_Guard).n_)] 75, pt r21_b2 #[.slice p179 ((⟨l178, l182, x185, x186, x187, (⟨x188, x189⟩ : disk_Fall), x190, x191⟩ : disk_Disk).sure_).length c180, .map (some b184), .bool ((⟨l178, l182, x185, x186, x187, (⟨x188, x189⟩ : disk_Fall), x190, x191⟩ : disk_Disk).off_), .bool ((⟨l178, l182, x185, x186, x187, (⟨x188, x189⟩ : disk_Fall), x190, x191⟩ : disk_Disk).armed_), .int .i64 ((⟨l178, l182, x185, x186, x187, (⟨x188, x189⟩ : disk_Fall), x190, x191⟩ : disk_Disk).left_), .int .u64 ((⟨l178, l182, x185, x186, x187, (⟨x188, x189⟩ : disk_Fall), x190, x191⟩ : disk_Disk).fall_.Keep), .int .i64 ((⟨l178, l182, x185, x186, x187, (⟨x188, x189⟩ : disk_Fall), x190, x191⟩ : disk_Disk).fall_.Tear), .int .i64 ((⟨l178, l182, x185, x186, x187, (⟨x188, x189⟩ : disk_Fall), x190, x191⟩ : disk_Disk).acts_), .int .i64 ((⟨l178, l182, x185, x186, x187, (⟨x188, x189⟩ : disk_Fall), x190, x191⟩ : disk_Disk).falls_)] 52, pt b28 #[.int .i64 ((⟨(⟨x192, x193, x194, x195, x196, x197, x198, x199⟩ : A8_Inti64), x200, x201⟩ : law13_plain).keys_.e0), .int .i64 ((⟨(⟨x192, x193, x194, x195, x196, x197, x198, x199⟩ : A8_Inti64), x200, x201⟩ : law13_plain).keys_.e1), .int .i64 ((⟨(⟨x192, x193, x194, x195, x196, x197, x198, x199⟩ : A8_Inti64), x200, x201⟩ : law13_plain).keys_.e2), .int .i64 ((⟨(⟨x192, x193, x194, x195, x196, x197, x198, x199⟩ : A8_Inti64), x200, x201⟩ : law13_plain).keys_.e3), .int .i64 ((⟨(⟨x192, x193, x194, x195, x196, x197, x198, x199⟩ : A8_Inti64), x200, x201⟩ : law13_plain).keys_.e4), .int .i64 ((⟨(⟨x192, x193, x194, x195, x196, x197, x198, x199⟩ : A8_Inti64), x200, x201⟩ : law13_plain).keys_.e5), .int .i64 ((⟨(⟨x192, x193, x194, x195, x196, x197, x198, x199⟩ : A8_Inti64), x200, x201⟩ : law13_plain).keys_.e6), .int .i64 ((⟨(⟨x192, x193, x194, x195, x196, x197, x198, x199⟩ : A8_Inti64), x200, x201⟩ : law13_plain).keys_.e7), .int .i64 ((⟨(⟨x192, x193, x194, x195, x196, x197, x198, x199⟩ : A8_Inti64), x200, x201⟩ : law13_plain).boot_), .int .i64 ((⟨(⟨x192, x193, x194, x195, x196, x197, x198, x199⟩ : A8_Inti64), x200, x201⟩ : law13_plain).shred_)] 30, own e_disk_sector 55 p179 c180 ((⟨l178, l182, x185, x186, x187, (⟨x188, x189⟩ : disk_Fall), x190, x191⟩ : disk_Disk).sure_), mpo (kInt .i64) (fun x : disk_sector => Value.agg #[.string x.s_, .int .i64 x.at_]) b184 ((⟨l178, l182, x185, x186, x187, (⟨x188, x189⟩ : disk_Fall), x190, x191⟩ : disk_Disk).wait_), pt b80 #[.int .i64 y71.Kind, .int .i64 y71.I, .int .u8 y71.C, .slice r75.List.p y71.List.length r75.List.c, .int .u64 y71.F.Keep, .int .i64 y71.F.Tear] 38] ++ F0) rfl (nw_ow ?_)
    refine ow_vals 2 (j := 13) [0, 3, 5, 6, 7, 139] [(0, .slice p0 x0.length c0), (3, .pointer (some ⟨r21_b2, 0, none⟩)), (5, .pointer (some ⟨b28, 0, none⟩)), (6, .pointer (some ⟨b176, 0, none⟩)), (7, .int .i64 x38), (139, .bool (!r208))] rfl (by kernel_rfl) ?_
    refine ow_end rfl ?_
    refine ew_then ?_
    rcases if_some hF with ⟨h210, hF⟩ | ⟨h210, hF⟩
    · refine cw_cond_t rfl rfl h210 ?_
      refine cw_seq ?_
      refine cw_region ?_
      refine ow_vals 1 (j := 1) [2] [(2, .bool false)] rfl (by kernel_rfl) ?_
      refine ow_end rfl ?_
      refine ew_then ?_
      refine cw_ret ?_
      refine ew_blk_ret ?_
      refine ew_then_ret ?_
      refine ew_then_ret ?_
      refine ew_blk_ret ?_
      refine ew_then_ret ?_
      have hR := Option.some.inj hF
      subst hR
      have hR := hL35
      try dsimp only at hR
      subst hR
      have hR := hK34
      try dsimp only [Thru] at hR
      subst hR
      exact fin1 (H1 := [imm I]) (fun w hs => sat_to [1, 1, 1, 1, 1, 1, 1, 0] 7 rfl hs) rfl (rr_tmp rfl) ⟨rfl, rfl⟩
    refine cw_cond_f rfl rfl h210 ?_
    refine cw_skip ?_
    refine ew_blk ?_
    refine ew_then ?_
    refine cw_region ?_
    refine ow_vals 3 (j := 3) [0, 3, 5, 6, 7] [(0, .slice p0 x0.length c0), (3, .pointer (some ⟨r21_b2, 0, none⟩)), (5, .pointer (some ⟨b28, 0, none⟩)), (6, .pointer (some ⟨b176, 0, none⟩)), (7, .int .i64 (IntKind.i64.wrap (x38 + 1)))] rfl (by kernel_rfl) ?_
    refine ow_end rfl ?_
    have hR := Option.some.inj hF
    subst hR
    have hR := hL35
    try dsimp only at hR
    exact fun a w hf hs => ⟨k, Nat.lt_succ_self k, IntKind.i64.wrap (x38 + 1), (⟨l178, l182, x185, x186, x187, (⟨x188, x189⟩ : disk_Fall), x190, x191⟩ : disk_Disk).sure_, (⟨l178, l182, x185, x186, x187, (⟨x188, x189⟩ : disk_Fall), x190, x191⟩ : disk_Disk).wait_, (⟨l178, l182, x185, x186, x187, (⟨x188, x189⟩ : disk_Fall), x190, x191⟩ : disk_Disk).off_, (⟨l178, l182, x185, x186, x187, (⟨x188, x189⟩ : disk_Fall), x190, x191⟩ : disk_Disk).armed_, (⟨l178, l182, x185, x186, x187, (⟨x188, x189⟩ : disk_Fall), x190, x191⟩ : disk_Disk).left_, (⟨l178, l182, x185, x186, x187, (⟨x188, x189⟩ : disk_Fall), x190, x191⟩ : disk_Disk).fall_.Keep, (⟨l178, l182, x185, x186, x187, (⟨x188, x189⟩ : disk_Fall), x190, x191⟩ : disk_Disk).fall_.Tear, (⟨l178, l182, x185, x186, x187, (⟨x188, x189⟩ : disk_Fall), x190, x191⟩ : disk_Disk).acts_, (⟨l178, l182, x185, x186, x187, (⟨x188, x189⟩ : disk_Fall), x190, x191⟩ : disk_Disk).falls_, (⟨x202, x203⟩ : guard_Guard).boot_, (⟨x202, x203⟩ : guard_Guard).n_, (⟨x204, x205, x206⟩ : keyring_Ring).base_, (⟨x204, x205, x206⟩ : keyring_Ring).slots_, (⟨x204, x205, x206⟩ : keyring_Ring).shred_, (⟨(⟨x192, x193, x194, x195, x196, x197, x198, x199⟩ : A8_Inti64), x200, x201⟩ : law13_plain).keys_.e0, (⟨(⟨x192, x193, x194, x195, x196, x197, x198, x199⟩ : A8_Inti64), x200, x201⟩ : law13_plain).keys_.e1, (⟨(⟨x192, x193, x194, x195, x196, x197, x198, x199⟩ : A8_Inti64), x200, x201⟩ : law13_plain).keys_.e2, (⟨(⟨x192, x193, x194, x195, x196, x197, x198, x199⟩ : A8_Inti64), x200, x201⟩ : law13_plain).keys_.e3, (⟨(⟨x192, x193, x194, x195, x196, x197, x198, x199⟩ : A8_Inti64), x200, x201⟩ : law13_plain).keys_.e4, (⟨(⟨x192, x193, x194, x195, x196, x197, x198, x199⟩ : A8_Inti64), x200, x201⟩ : law13_plain).keys_.e5, (⟨(⟨x192, x193, x194, x195, x196, x197, x198, x199⟩ : A8_Inti64), x200, x201⟩ : law13_plain).keys_.e6, (⟨(⟨x192, x193, x194, x195, x196, x197, x198, x199⟩ : A8_Inti64), x200, x201⟩ : law13_plain).keys_.e7, (⟨(⟨x192, x193, x194, x195, x196, x197, x198, x199⟩ : A8_Inti64), x200, x201⟩ : law13_plain).boot_, (⟨(⟨x192, x193, x194, x195, x196, x197, x198, x199⟩ : A8_Inti64), x200, x201⟩ : law13_plain).shred_, b175, b176, p179, c180, b184, hR, hf.keep [0, 3, 5, 6, 7], sat_to [7, 0, 2, 1, 0, 0, 0, 0] 1 rfl hs⟩
  rintro a w ⟨l213, l217, x220, x221, x222, x223, x224, x225, x226, x227, x228, x229, x230, x231, x232, x233, x234, x235, x236, x237, x238, x239, x240, x241, b211, b212, p214, c215, b219, hv, hf, hs⟩
  subst hv
  replace hF := hK34
  clear hK34
  try dsimp only [Thru] at hF
  revert a w
  show CW _ _ _ 141 [] (SAT w0 ([imm I, pt r21_b2 #[.slice p214 l213.length c215, .map (some b219), .bool x220, .bool x221, .int .i64 x222, .int .u64 x223, .int .i64 x224, .int .i64 x225, .int .i64 x226] 52, pt b211 #[.pointer (some ⟨r21_b2, 0, none⟩), .int .i64 x227, .int .i64 x228] 75, pt b212 #[.pointer (some ⟨b211, 0, none⟩), .int .i64 x229, .int .i64 x230, .int .i64 x231] 78, pt b28 #[.int .i64 x232, .int .i64 x233, .int .i64 x234, .int .i64 x235, .int .i64 x236, .int .i64 x237, .int .i64 x238, .int .i64 x239, .int .i64 x240, .int .i64 x241] 30, own e_disk_sector 55 p214 c215 l213, mpo (kInt .i64) (fun x : disk_sector => Value.agg #[.string x.s_, .int .i64 x.at_]) b219 l217] ++ F0))
  unfold F.law13_KeyringPlays.r7 at hF
  refine cw_seq ?_
  refine cw_region ?_
  obtain ⟨r242, h243, hF⟩ := bind_some hF
  refine ow_pw rfl (pw_call (F := [pt r21_b2 #[.slice p214 l213.length c215, .map (some b219), .bool x220, .bool x221, .int .i64 x222, .int .u64 x223, .int .i64 x224, .int .i64 x225, .int .i64 x226] 52, pt b211 #[.pointer (some ⟨r21_b2, 0, none⟩), .int .i64 x227, .int .i64 x228] 75, pt b212 #[.pointer (some ⟨b211, 0, none⟩), .int .i64 x229, .int .i64 x230, .int .i64 x231] 78, pt b28 #[.int .i64 x232, .int .i64 x233, .int .i64 x234, .int .i64 x235, .int .i64 x236, .int .i64 x237, .int .i64 x238, .int .i64 x239, .int .i64 x240, .int .i64 x241] 30, own e_disk_sector 55 p214 c215 l213, mpo (kInt .i64) (fun x : disk_sector => Value.agg #[.string x.s_, .int .i64 x.at_]) b219 l217] ++ F0) rfl rfl rfl rfl rfl rfl rfl (by kernel_rfl) (perm_of_pulls [0] rfl) (c_law13_awake _ r242 h243) ?_)
  rintro _ _ ⟨rfl, rfl⟩
  refine nw_H (H' := [imm I, pt r21_b2 #[.slice p214 l213.length c215, .map (some b219), .bool x220, .bool x221, .int .i64 x222, .int .u64 x223, .int .i64 x224, .int .i64 x225, .int .i64 x226] 52, pt b211 #[.pointer (some ⟨r21_b2, 0, none⟩), .int .i64 x227, .int .i64 x228] 75, pt b212 #[.pointer (some ⟨b211, 0, none⟩), .int .i64 x229, .int .i64 x230, .int .i64 x231] 78, pt b28 #[.int .i64 x232, .int .i64 x233, .int .i64 x234, .int .i64 x235, .int .i64 x236, .int .i64 x237, .int .i64 x238, .int .i64 x239, .int .i64 x240, .int .i64 x241] 30, own e_disk_sector 55 p214 c215 l213, mpo (kInt .i64) (fun x : disk_sector => Value.agg #[.string x.s_, .int .i64 x.at_]) b219 l217] ++ F0) rfl (nw_ow ?_)
  refine ow_vals 1 (j := 2) [2] [(2, .bool r242)] rfl (by kernel_rfl) ?_
  refine ow_end rfl ?_
  refine ew_then ?_
  refine cw_ret ?_
  have hR := Option.some.inj hF
  subst hR
  exact fin1 (H1 := [imm I]) (fun w hs => sat_to [1, 1, 1, 1, 1, 1, 0] 6 rfl hs) rfl (rr_tmp rfl) ⟨rfl, rfl⟩

end Go.Proofs.YtilpkebkhibpeaaGreatDoor
