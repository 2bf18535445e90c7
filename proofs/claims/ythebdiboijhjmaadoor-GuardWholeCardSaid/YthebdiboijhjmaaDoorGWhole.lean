/- What the functions compute, and that the code computes it: printed by a program of this claim (wip/tools), for the group Whole. -/
import Derived.Test.YthebdiboijhjmaaDoorGGuardb
namespace Go.Proofs.YthebdiboijhjmaaDoor
set_option linter.all false
open Go Go.RowKit Go.Fw
set_option linter.unusedVariables false

structure law10_Op where
  Kind : Int
  I : Int
  S : ByteArray
def law10_Op.cells (x : law10_Op) : List Go.Value := [.int .i64 x.Kind, .int .i64 x.I, .string x.S]
def e_law10_Op : Enc law10_Op := ⟨law10_Op.cells, 3, fun _ => rfl, fun _ => rfl, by decide⟩

def F.disk_Disk_Arm (x1 : Int) (x2 : disk_Fall) (m0 : disk_Disk) : Option (Int × disk_Disk) :=
  Option.bind (F.disk_Disk_why 0 m0) (fun (r23 : Int) => if r23 != 0 then (some ((r23, m0))) else (if decide (x1 < 0) then (some ((1, m0))) else (some ((0, (⟨m0.sure_, m0.wait_, m0.off_, true, x1, x2, m0.acts_, m0.falls_⟩ : disk_Disk))))))
set_option maxRecDepth 100000 in
set_option maxHeartbeats 4000000 in
theorem c_disk_Disk_Arm (I : Hl) (x1 : Int) (x2 : disk_Fall) (m0 : disk_Disk) (p0 : Option Addr) (c0 : Nat) (p1 : Nat) (b0 : Nat) (res : Int × disk_Disk) (hF : F.disk_Disk_Arm x1 x2 m0 = some res) : Tr Tryd.prog 26 [.pointer (some ⟨b0, 0, none⟩), .int .i64 x1, .agg #[.int .u64 x2.Keep, .int .i64 x2.Tear]] [imm I, pt b0 #[.slice p0 m0.sure_.length c0, .map (some p1), .bool m0.off_, .bool m0.armed_, .int .i64 m0.left_, .int .u64 m0.fall_.Keep, .int .i64 m0.fall_.Tear, .int .i64 m0.acts_, .int .i64 m0.falls_] 68, own e_disk_sector 70 p0 c0 m0.sure_, mpo (kInt .i64) (fun x : disk_sector => Value.agg #[.string x.s_, .int .i64 x.at_]) p1 m0.wait_] (fun r H' => ∃ (pq1 : Option Addr), ∃ (cq2 : Nat), ∃ (bq4 : Nat), r = .int .i64 res.1 ∧ H' = [imm I, pt b0 #[.slice pq1 res.2.sure_.length cq2, .map (some bq4), .bool res.2.off_, .bool res.2.armed_, .int .i64 res.2.left_, .int .u64 res.2.fall_.Keep, .int .i64 res.2.fall_.Tear, .int .i64 res.2.acts_, .int .i64 res.2.falls_] 68, own e_disk_sector 70 pq1 cq2 res.2.sure_, mpo (kInt .i64) (fun x : disk_sector => Value.agg #[.string x.s_, .int .i64 x.at_]) bq4 res.2.wait_]) := by
  unfold F.disk_Disk_Arm at hF
  refine tr_of_cw (fn := Tryd.f26) Tryd.func26 rfl (Nat.le_of_ble_eq_true rfl) 26 rfl fun F0 w0 => ?_
  refine cw_keep [0, 1, 2] (L' := [(0, .pointer (some ⟨b0, 0, none⟩)), (1, .int .i64 x1), (2, .agg #[.int .u64 x2.Keep, .int .i64 x2.Tear])]) rfl ?_
  refine cw_state (S' := SAT w0 ([imm I, pt b0 #[.slice p0 m0.sure_.length c0, .map (some p1), .bool m0.off_, .bool m0.armed_, .int .i64 m0.left_, .int .u64 m0.fall_.Keep, .int .i64 m0.fall_.Tear, .int .i64 m0.acts_, .int .i64 m0.falls_] 68, own e_disk_sector 70 p0 c0 m0.sure_, mpo (kInt .i64) (fun x : disk_sector => Value.agg #[.string x.s_, .int .i64 x.at_]) p1 m0.wait_] ++ F0)) (fun w hs => hs) ?_
  refine cw_seq ?_
  refine cw_region ?_
  refine ow_pw rfl (pw_box (cs := #[.int .u64 x2.Keep, .int .i64 x2.Tear]) rfl rfl rfl rfl rfl rfl fun b21 => nw_ow ?_)
  refine ow_vals 1 (j := 2) [0, 1, 5] [(0, .pointer (some ⟨b0, 0, none⟩)), (1, .int .i64 x1), (5, .pointer (some ⟨b21, 0, none⟩))] rfl (by kernel_rfl) ?_
  refine ow_end rfl ?_
  refine ew_then ?_
  refine cw_seq ?_
  refine cw_seq ?_
  refine cw_region ?_
  refine ow_vals 1 (j := 1) [0, 1, 5, 8] [(0, .pointer (some ⟨b0, 0, none⟩)), (1, .int .i64 x1), (5, .pointer (some ⟨b21, 0, none⟩)), (8, .pointer (some ⟨b0, 0, none⟩))] rfl (by kernel_rfl) ?_
  obtain ⟨r23, h24, hF⟩ := bind_some hF
  refine ow_pw rfl (pw_call (F := [pt b21 #[.int .u64 x2.Keep, .int .i64 x2.Tear] 55] ++ F0) rfl rfl rfl rfl rfl rfl rfl (by kernel_rfl) (perm_of_pulls [1, 1, 1, 1] rfl) (c_disk_Disk_why _ 0 m0 p0 c0 p1 b0 r23 h24) ?_)
  rintro _ _ ⟨rfl, rfl⟩
  refine nw_H (H' := [imm I, pt b0 #[.slice p0 m0.sure_.length c0, .map (some p1), .bool m0.off_, .bool m0.armed_, .int .i64 m0.left_, .int .u64 m0.fall_.Keep, .int .i64 m0.fall_.Tear, .int .i64 m0.acts_, .int .i64 m0.falls_] 68, own e_disk_sector 70 p0 c0 m0.sure_, mpo (kInt .i64) (fun x : disk_sector => Value.agg #[.string x.s_, .int .i64 x.at_]) p1 m0.wait_, pt b21 #[.int .u64 x2.Keep, .int .i64 x2.Tear] 55] ++ F0) rfl (nw_ow ?_)
  refine ow_vals 1 (j := 3) [0, 1, 5, 7] [(0, .pointer (some ⟨b0, 0, none⟩)), (1, .int .i64 x1), (5, .pointer (some ⟨b21, 0, none⟩)), (7, .int .i64 r23)] rfl (by kernel_rfl) ?_
  refine ow_end rfl ?_
  refine ew_then ?_
  refine cw_seq ?_
  refine cw_region ?_
  refine ow_vals 2 (j := 2) [0, 1, 5, 7, 11] [(0, .pointer (some ⟨b0, 0, none⟩)), (1, .int .i64 x1), (5, .pointer (some ⟨b21, 0, none⟩)), (7, .int .i64 r23), (11, .bool (r23 != 0))] rfl (by kernel_rfl) ?_
  refine ow_end rfl ?_
  refine ew_then ?_
  rcases if_some hF with ⟨h25, hF⟩ | ⟨h25, hF⟩
  · refine cw_cond_t rfl rfl h25 ?_
    refine cw_seq ?_
    refine cw_region ?_
    refine ow_vals 2 (j := 2) [6] [(6, .int .i64 r23)] rfl (by kernel_rfl) ?_
    refine ow_end rfl ?_
    refine ew_then ?_
    refine cw_ret ?_
    refine ew_then_ret ?_
    have hR := Option.some.inj hF
    subst hR
    exact fin1 (H1 := [imm I, pt b0 #[.slice p0 m0.sure_.length c0, .map (some p1), .bool m0.off_, .bool m0.armed_, .int .i64 m0.left_, .int .u64 m0.fall_.Keep, .int .i64 m0.fall_.Tear, .int .i64 m0.acts_, .int .i64 m0.falls_] 68, own e_disk_sector 70 p0 c0 m0.sure_, mpo (kInt .i64) (fun x : disk_sector => Value.agg #[.string x.s_, .int .i64 x.at_]) p1 m0.wait_]) (fun w hs => sat_to [4, 0, 0, 0, 0] 1 rfl hs) rfl (rr_tmp rfl) ⟨p0, c0, p1, rfl, rfl⟩
  · refine cw_cond_f rfl rfl h25 ?_
    refine cw_skip ?_
    refine ew_then ?_
    refine cw_seq ?_
    refine cw_seq ?_
    refine cw_region ?_
    refine ow_vals 2 (j := 2) [0, 1, 5, 14] [(0, .pointer (some ⟨b0, 0, none⟩)), (1, .int .i64 x1), (5, .pointer (some ⟨b21, 0, none⟩)), (14, .bool (decide (x1 < 0)))] rfl (by kernel_rfl) ?_
    refine ow_end rfl ?_
    refine ew_then ?_
    rcases if_some hF with ⟨h26, hF⟩ | ⟨h26, hF⟩
    · refine cw_cond_t rfl rfl h26 ?_
      refine cw_seq ?_
      refine cw_region ?_
      refine ow_vals 1 (j := 1) [6] [(6, .int .i64 1)] rfl (by kernel_rfl) ?_
      refine ow_end rfl ?_
      refine ew_then ?_
      refine cw_ret ?_
      refine ew_then_ret ?_
      have hR := Option.some.inj hF
      subst hR
      exact fin1 (H1 := [imm I, pt b0 #[.slice p0 m0.sure_.length c0, .map (some p1), .bool m0.off_, .bool m0.armed_, .int .i64 m0.left_, .int .u64 m0.fall_.Keep, .int .i64 m0.fall_.Tear, .int .i64 m0.acts_, .int .i64 m0.falls_] 68, own e_disk_sector 70 p0 c0 m0.sure_, mpo (kInt .i64) (fun x : disk_sector => Value.agg #[.string x.s_, .int .i64 x.at_]) p1 m0.wait_]) (fun w hs => sat_to [4, 0, 0, 0, 0] 1 rfl hs) rfl (rr_tmp rfl) ⟨p0, c0, p1, rfl, rfl⟩
    · refine cw_cond_f rfl rfl h26 ?_
      refine cw_skip ?_
      refine ew_then ?_
      refine cw_seq ?_
      refine cw_open 13 (SAT w0 ([imm I, own e_disk_sector 70 p0 c0 m0.sure_, mpo (kInt .i64) (fun x : disk_sector => Value.agg #[.string x.s_, .int .i64 x.at_]) p1 m0.wait_, pt b21 #[.int .u64 x2.Keep, .int .i64 x2.Tear] 55])) (by kernel_rfl) (f := 14) rfl (fun w hs => sat_drew hs) ?_
      refine aw_vals [0, 1, 2, 3, 5, 6] (f' := 8) (m' := 111) [5, 16, 17, 18, 21] [(5, .pointer (some ⟨b21, 0, none⟩)), (16, .pointer (some ⟨b0, 0, none⟩)), (17, .pointer (some ⟨b0, 0, none⟩)), (18, .int .i64 x1), (21, .pointer (some ⟨b0, 3, none⟩))] (fun _ _ _ _ _ h => calm_fin (P := Tryd.prog) (fn := Tryd.f26) _ _ _ _ _ h) (fun w hs => sat_pulls [0, 1, 1, 1] (G := [pt b0 #[.slice p0 m0.sure_.length c0, .map (some p1), .bool m0.off_, .bool m0.armed_, .int .i64 m0.left_, .int .u64 m0.fall_.Keep, .int .i64 m0.fall_.Tear, .int .i64 m0.acts_, .int .i64 m0.falls_] 68] ++ F0) rfl hs) rfl (by kernel_rfl) ?_
      refine aw_quiet 4 (m' := 127) (v := .agg #[.int .u64 x2.Keep, .int .i64 x2.Tear]) 4 [] rfl rfl rfl rfl (by kernel_rfl) (by kernel_rfl) (by kernel_rfl) (fun _ _ _ _ _ h => calm_fin (P := Tryd.prog) (fn := Tryd.f26) _ _ _ _ _ h) (fun w hs => sat_pulls [0, 1, 1, 1] (G := [pt b0 #[.slice p0 m0.sure_.length c0, .map (some p1), .bool m0.off_, .bool m0.armed_, .int .i64 m0.left_, .int .u64 m0.fall_.Keep, .int .i64 m0.fall_.Tear, .int .i64 m0.acts_, .int .i64 m0.falls_] 68] ++ F0) rfl hs) (q_load 3 rfl rfl rfl (by kernel_rfl)) ?_
      refine aw_only 7 (m' := 255) (by kernel_rfl) (by kernel_rfl) (pw_store 1 #[.slice p0 m0.sure_.length c0, .map (some p1), .bool m0.off_, .bool true, .int .i64 m0.left_, .int .u64 m0.fall_.Keep, .int .i64 m0.fall_.Tear, .int .i64 m0.acts_, .int .i64 m0.falls_] rfl rfl rfl rfl rfl rfl rfl (by kernel_rfl) (nw_H (H' := [imm I, pt b0 #[.slice p0 m0.sure_.length c0, .map (some p1), .bool m0.off_, .bool true, .int .i64 m0.left_, .int .u64 m0.fall_.Keep, .int .i64 m0.fall_.Tear, .int .i64 m0.acts_, .int .i64 m0.falls_] 68, own e_disk_sector 70 p0 c0 m0.sure_, mpo (kInt .i64) (fun x : disk_sector => Value.agg #[.string x.s_, .int .i64 x.at_]) p1 m0.wait_, pt b21 #[.int .u64 x2.Keep, .int .i64 x2.Tear] 55] ++ F0) rfl (aw_next (fun w hs => sat_pulls [0, 1, 1, 1] (G := [pt b0 #[.slice p0 m0.sure_.length c0, .map (some p1), .bool m0.off_, .bool true, .int .i64 m0.left_, .int .u64 m0.fall_.Keep, .int .i64 m0.fall_.Tear, .int .i64 m0.acts_, .int .i64 m0.falls_] 68] ++ F0) rfl hs) ?_)))
      refine aw_vals [8, 9] (f' := 4) (m' := 1023) [17, 18, 19, 23] [(17, .pointer (some ⟨b0, 0, none⟩)), (18, .int .i64 x1), (19, .agg #[.int .u64 x2.Keep, .int .i64 x2.Tear]), (23, .pointer (some ⟨b0, 4, none⟩))] (fun _ _ _ _ _ h => calm_fin (P := Tryd.prog) (fn := Tryd.f26) _ _ _ _ _ h) (fun w hs => sat_pulls [0, 1, 1, 1] (G := [pt b0 #[.slice p0 m0.sure_.length c0, .map (some p1), .bool m0.off_, .bool true, .int .i64 m0.left_, .int .u64 m0.fall_.Keep, .int .i64 m0.fall_.Tear, .int .i64 m0.acts_, .int .i64 m0.falls_] 68] ++ F0) rfl hs) rfl (by kernel_rfl) ?_
      refine aw_only 10 (m' := 2047) (by kernel_rfl) (by kernel_rfl) (pw_store 1 #[.slice p0 m0.sure_.length c0, .map (some p1), .bool m0.off_, .bool true, .int .i64 x1, .int .u64 m0.fall_.Keep, .int .i64 m0.fall_.Tear, .int .i64 m0.acts_, .int .i64 m0.falls_] rfl rfl rfl rfl rfl rfl rfl (by kernel_rfl) (nw_H (H' := [imm I, pt b0 #[.slice p0 m0.sure_.length c0, .map (some p1), .bool m0.off_, .bool true, .int .i64 x1, .int .u64 m0.fall_.Keep, .int .i64 m0.fall_.Tear, .int .i64 m0.acts_, .int .i64 m0.falls_] 68, own e_disk_sector 70 p0 c0 m0.sure_, mpo (kInt .i64) (fun x : disk_sector => Value.agg #[.string x.s_, .int .i64 x.at_]) p1 m0.wait_, pt b21 #[.int .u64 x2.Keep, .int .i64 x2.Tear] 55] ++ F0) rfl (aw_next (fun w hs => sat_pulls [0, 1, 1, 1] (G := [pt b0 #[.slice p0 m0.sure_.length c0, .map (some p1), .bool m0.off_, .bool true, .int .i64 x1, .int .u64 m0.fall_.Keep, .int .i64 m0.fall_.Tear, .int .i64 m0.acts_, .int .i64 m0.falls_] 68] ++ F0) rfl hs) ?_)))
      refine aw_vals [11, 12] (f' := 1) (m' := 8191) [19, 25] [(19, .agg #[.int .u64 x2.Keep, .int .i64 x2.Tear]), (25, .pointer (some ⟨b0, 5, none⟩))] (fun _ _ _ _ _ h => calm_fin (P := Tryd.prog) (fn := Tryd.f26) _ _ _ _ _ h) (fun w hs => sat_pulls [0, 1, 1, 1] (G := [pt b0 #[.slice p0 m0.sure_.length c0, .map (some p1), .bool m0.off_, .bool true, .int .i64 x1, .int .u64 m0.fall_.Keep, .int .i64 m0.fall_.Tear, .int .i64 m0.acts_, .int .i64 m0.falls_] 68] ++ F0) rfl hs) rfl (by kernel_rfl) ?_
      refine aw_only 13 (m' := 16383) (by kernel_rfl) (by kernel_rfl) (pw_store 1 #[.slice p0 m0.sure_.length c0, .map (some p1), .bool m0.off_, .bool true, .int .i64 x1, .int .u64 x2.Keep, .int .i64 x2.Tear, .int .i64 m0.acts_, .int .i64 m0.falls_] rfl rfl rfl rfl rfl rfl rfl (by kernel_rfl) (nw_H (H' := [imm I, pt b0 #[.slice p0 m0.sure_.length c0, .map (some p1), .bool m0.off_, .bool true, .int .i64 x1, .int .u64 x2.Keep, .int .i64 x2.Tear, .int .i64 m0.acts_, .int .i64 m0.falls_] 68, own e_disk_sector 70 p0 c0 m0.sure_, mpo (kInt .i64) (fun x : disk_sector => Value.agg #[.string x.s_, .int .i64 x.at_]) p1 m0.wait_, pt b21 #[.int .u64 x2.Keep, .int .i64 x2.Tear] 55] ++ F0) rfl (aw_last (by kernel_rfl) ?_)))
      refine aw_keep [] (L' := []) rfl ?_
      refine aw_end (by kernel_rfl) ?_
      refine ew_then ?_
      refine cw_seq ?_
      refine cw_region ?_
      refine ow_vals 1 (j := 1) [6] [(6, .int .i64 0)] rfl (by kernel_rfl) ?_
      refine ow_end rfl ?_
      refine ew_then ?_
      refine cw_ret ?_
      have hR := Option.some.inj hF
      subst hR
      exact fin1 (H1 := [imm I, pt b0 #[.slice p0 ((⟨m0.sure_, m0.wait_, m0.off_, true, x1, x2, m0.acts_, m0.falls_⟩ : disk_Disk).sure_).length c0, .map (some p1), .bool ((⟨m0.sure_, m0.wait_, m0.off_, true, x1, x2, m0.acts_, m0.falls_⟩ : disk_Disk).off_), .bool ((⟨m0.sure_, m0.wait_, m0.off_, true, x1, x2, m0.acts_, m0.falls_⟩ : disk_Disk).armed_), .int .i64 ((⟨m0.sure_, m0.wait_, m0.off_, true, x1, x2, m0.acts_, m0.falls_⟩ : disk_Disk).left_), .int .u64 (((⟨m0.sure_, m0.wait_, m0.off_, true, x1, x2, m0.acts_, m0.falls_⟩ : disk_Disk).fall_).Keep), .int .i64 (((⟨m0.sure_, m0.wait_, m0.off_, true, x1, x2, m0.acts_, m0.falls_⟩ : disk_Disk).fall_).Tear), .int .i64 ((⟨m0.sure_, m0.wait_, m0.off_, true, x1, x2, m0.acts_, m0.falls_⟩ : disk_Disk).acts_), .int .i64 ((⟨m0.sure_, m0.wait_, m0.off_, true, x1, x2, m0.acts_, m0.falls_⟩ : disk_Disk).falls_)] 68, own e_disk_sector 70 p0 c0 ((⟨m0.sure_, m0.wait_, m0.off_, true, x1, x2, m0.acts_, m0.falls_⟩ : disk_Disk).sure_), mpo (kInt .i64) (fun x : disk_sector => Value.agg #[.string x.s_, .int .i64 x.at_]) p1 ((⟨m0.sure_, m0.wait_, m0.off_, true, x1, x2, m0.acts_, m0.falls_⟩ : disk_Disk).wait_)]) (fun w hs => sat_to [4, 0, 0, 0, 0] 1 rfl hs) rfl (rr_tmp rfl) ⟨p0, c0, p1, rfl, rfl⟩


def F.disk_Disk_Up (m0 : disk_Disk) : Option Bool :=
  Option.bind (F.disk_Disk_Size m0) (fun (r21 : Int) => if decide (r21 > 0) then (some ((!m0.off_))) else (some (false)))
set_option maxRecDepth 100000 in
set_option maxHeartbeats 4000000 in
theorem c_disk_Disk_Up (I : Hl) (m0 : disk_Disk) (p0 : Option Addr) (c0 : Nat) (p1 : Nat) (b0 : Nat) (res : Bool) (hF : F.disk_Disk_Up m0 = some res) : Tr Tryd.prog 27 [.pointer (some ⟨b0, 0, none⟩)] [imm I, pt b0 #[.slice p0 m0.sure_.length c0, .map (some p1), .bool m0.off_, .bool m0.armed_, .int .i64 m0.left_, .int .u64 m0.fall_.Keep, .int .i64 m0.fall_.Tear, .int .i64 m0.acts_, .int .i64 m0.falls_] 68, own e_disk_sector 70 p0 c0 m0.sure_, mpo (kInt .i64) (fun x : disk_sector => Value.agg #[.string x.s_, .int .i64 x.at_]) p1 m0.wait_] (fun r H' => r = .bool res ∧ H' = [imm I, pt b0 #[.slice p0 m0.sure_.length c0, .map (some p1), .bool m0.off_, .bool m0.armed_, .int .i64 m0.left_, .int .u64 m0.fall_.Keep, .int .i64 m0.fall_.Tear, .int .i64 m0.acts_, .int .i64 m0.falls_] 68, own e_disk_sector 70 p0 c0 m0.sure_, mpo (kInt .i64) (fun x : disk_sector => Value.agg #[.string x.s_, .int .i64 x.at_]) p1 m0.wait_]) := by
  unfold F.disk_Disk_Up at hF
  refine tr_of_cw (fn := Tryd.f27) Tryd.func27 rfl (Nat.le_of_ble_eq_true rfl) 13 rfl fun F0 w0 => ?_
  refine cw_keep [0] (L' := [(0, .pointer (some ⟨b0, 0, none⟩))]) rfl ?_
  refine cw_state (S' := SAT w0 ([imm I, pt b0 #[.slice p0 m0.sure_.length c0, .map (some p1), .bool m0.off_, .bool m0.armed_, .int .i64 m0.left_, .int .u64 m0.fall_.Keep, .int .i64 m0.fall_.Tear, .int .i64 m0.acts_, .int .i64 m0.falls_] 68, own e_disk_sector 70 p0 c0 m0.sure_, mpo (kInt .i64) (fun x : disk_sector => Value.agg #[.string x.s_, .int .i64 x.at_]) p1 m0.wait_] ++ F0)) (fun w hs => hs) ?_
  refine cw_seq ?_
  refine cw_region ?_
  refine ow_vals 1 (j := 1) [0] [(0, .pointer (some ⟨b0, 0, none⟩))] rfl (by kernel_rfl) ?_
  refine ow_end rfl ?_
  refine ew_then ?_
  refine cw_seq ?_
  refine cw_region ?_
  refine ow_vals 1 (j := 1) [0, 3] [(0, .pointer (some ⟨b0, 0, none⟩)), (3, .pointer (some ⟨b0, 0, none⟩))] rfl (by kernel_rfl) ?_
  obtain ⟨r21, h22, hF⟩ := bind_some hF
  refine ow_pw rfl (pw_call (F := [] ++ F0) rfl rfl rfl rfl rfl rfl rfl (by kernel_rfl) (perm_of_pulls [0, 0, 0, 0] rfl) (c_disk_Disk_Size _ m0 p0 c0 p1 b0 r21 h22) ?_)
  rintro _ _ ⟨rfl, rfl⟩
  refine nw_H (H' := [imm I, pt b0 #[.slice p0 m0.sure_.length c0, .map (some p1), .bool m0.off_, .bool m0.armed_, .int .i64 m0.left_, .int .u64 m0.fall_.Keep, .int .i64 m0.fall_.Tear, .int .i64 m0.acts_, .int .i64 m0.falls_] 68, own e_disk_sector 70 p0 c0 m0.sure_, mpo (kInt .i64) (fun x : disk_sector => Value.agg #[.string x.s_, .int .i64 x.at_]) p1 m0.wait_] ++ F0) rfl (nw_ow ?_)
  refine ow_vals 2 (j := 4) [0, 6] [(0, .pointer (some ⟨b0, 0, none⟩)), (6, .bool (decide (r21 > 0)))] rfl (by kernel_rfl) ?_
  rcases if_some hF with ⟨h23, hF⟩ | ⟨h23, hF⟩
  · refine ow_slots (L' := [(0, .pointer (some ⟨b0, 0, none⟩)), (6, .bool true)]) (by rw [h23]) ?_
    refine ow_vals 3 (j := 7) [6, 9] [(6, .bool true), (9, .pointer (some ⟨b0, 2, none⟩))] rfl (by kernel_rfl) ?_
    refine ow_pw rfl (pw_quiet (v := .bool m0.off_) rfl rfl rfl rfl (q_load 1 rfl rfl rfl (by kernel_rfl)) (nw_ow ?_))
    refine ow_vals 3 (j := 11) [2] [(2, .bool (!m0.off_))] rfl (by kernel_rfl) ?_
    refine ow_end rfl ?_
    refine ew_then ?_
    refine cw_ret ?_
    have hR := Option.some.inj hF
    subst hR
    exact fin1 (H1 := [imm I, pt b0 #[.slice p0 m0.sure_.length c0, .map (some p1), .bool m0.off_, .bool m0.armed_, .int .i64 m0.left_, .int .u64 m0.fall_.Keep, .int .i64 m0.fall_.Tear, .int .i64 m0.acts_, .int .i64 m0.falls_] 68, own e_disk_sector 70 p0 c0 m0.sure_, mpo (kInt .i64) (fun x : disk_sector => Value.agg #[.string x.s_, .int .i64 x.at_]) p1 m0.wait_]) (fun w hs => sat_to [0, 0, 0, 0] 0 rfl hs) rfl (rr_tmp rfl) ⟨rfl, rfl⟩
  · refine ow_slots (L' := [(0, .pointer (some ⟨b0, 0, none⟩)), (6, .bool false)]) (by rw [h23]) ?_
    refine ow_vals 7 (j := 11) [2] [(2, .bool false)] rfl (by kernel_rfl) ?_
    refine ow_end rfl ?_
    refine ew_then ?_
    refine cw_ret ?_
    have hR := Option.some.inj hF
    subst hR
    exact fin1 (H1 := [imm I, pt b0 #[.slice p0 m0.sure_.length c0, .map (some p1), .bool m0.off_, .bool m0.armed_, .int .i64 m0.left_, .int .u64 m0.fall_.Keep, .int .i64 m0.fall_.Tear, .int .i64 m0.acts_, .int .i64 m0.falls_] 68, own e_disk_sector 70 p0 c0 m0.sure_, mpo (kInt .i64) (fun x : disk_sector => Value.agg #[.string x.s_, .int .i64 x.at_]) p1 m0.wait_]) (fun w hs => sat_to [0, 0, 0, 0] 0 rfl hs) rfl (rr_tmp rfl) ⟨rfl, rfl⟩


def F.disk_Disk_Flush.l1 (q32 : Int × disk_sector) (l33 : List disk_sector) (l37 : List (Int × disk_sector)) : Option ((List disk_sector) × (List (Int × disk_sector))) :=
  Option.bind (at_ l33 q32.1) (fun (y41 : disk_sector) => some ((l33.set q32.1.toNat q32.2, mdel l37 q32.1)))
def F.disk_Disk_Flush.x2 (l33 : List disk_sector) (l37 : List (Int × disk_sector)) : Option ((List disk_sector) × (List (Int × disk_sector))) :=
  some ((l33, l37))
theorem ord_F_disk_Disk_Flush_l1 (L : List (Int × disk_sector)) (s v : (List disk_sector) × (List (Int × disk_sector))) (hn : (L.map Prod.fst).Nodup) (h : mloop (fun q x => F.disk_Disk_Flush.l1 q x.1 x.2) L s = some v) : ∀ l, l.Perm L → ∃ w, mloop (fun q x => F.disk_Disk_Flush.l1 q x.1 x.2) l s = some w ∧ w = v := by
  refine fun l hl => ⟨v, ?_, rfl⟩
  rw [← h]
  refine (mloop_perm (D := fun a b => a.1 ≠ b.1) (fun _ _ h => h.symm) (fun a b s hab => ?_) hl.symm (map_fst_pair hn) s).symm
  obtain ⟨s, t⟩ := s
  dsimp only
  unfold F.disk_Disk_Flush.l1
  cases ha : at_ s a.1 with
  | none =>
    cases hb : at_ s b.1 with
    | none => rfl
    | some y => simp only [Option.bind_some, Option.bind_none, at_set_none ha]
  | some x =>
    cases hb : at_ s b.1 with
    | none => simp only [Option.bind_some, Option.bind_none, at_set_none hb]
    | some y =>
      obtain ⟨y2, hb2⟩ := at_set_some (i := a.1.toNat) (v := a.2) hb
      obtain ⟨x2, ha2⟩ := at_set_some (i := b.1.toNat) (v := b.2) ha
      simp only [Option.bind_some, ha2, hb2]
      have h1 := (at_some ha).1
      have h2 := (at_some hb).1
      rw [mdel_comm, List.set_comm _ _ (by omega)]
def F.disk_Disk_Flush.r3 (r24 : Int × disk_Disk) (l43 : List disk_sector) (l47 : List (Int × disk_sector)) : Option (Int × disk_Disk) :=
  some ((0, (⟨l43, l47, r24.2.off_, r24.2.armed_, r24.2.left_, r24.2.fall_, r24.2.acts_, r24.2.falls_⟩ : disk_Disk)))
def F.disk_Disk_Flush (m0 : disk_Disk) : Option (Int × disk_Disk) :=
  Option.bind (F.disk_Disk_why 0 m0) (fun (r21 : Int) => if r21 != 0 then (some ((r21, m0))) else (Option.bind (F.disk_Disk_act m0) (fun (r24 : Int × disk_Disk) => if r24.1 != 0 then (some ((r24.1, r24.2))) else (Option.bind (chk (r24.2.wait_.length ≤ 1000000) (Option.bind (mloop (fun q x => F.disk_Disk_Flush.l1 q x.1 x.2) r24.2.wait_ (r24.2.sure_, r24.2.wait_)) (fun x => F.disk_Disk_Flush.x2 x.1 x.2))) (fun x => F.disk_Disk_Flush.r3 r24 x.1 x.2)))))
set_option maxRecDepth 100000 in
set_option maxHeartbeats 4000000 in
theorem c_disk_Disk_Flush (I : Hl) (m0 : disk_Disk) (p0 : Option Addr) (c0 : Nat) (p1 : Nat) (b0 : Nat) (res : Int × disk_Disk) (hF : F.disk_Disk_Flush m0 = some res) : Tr Tryd.prog 38 [.pointer (some ⟨b0, 0, none⟩)] [imm I, pt b0 #[.slice p0 m0.sure_.length c0, .map (some p1), .bool m0.off_, .bool m0.armed_, .int .i64 m0.left_, .int .u64 m0.fall_.Keep, .int .i64 m0.fall_.Tear, .int .i64 m0.acts_, .int .i64 m0.falls_] 68, own e_disk_sector 70 p0 c0 m0.sure_, mpo (kInt .i64) (fun x : disk_sector => Value.agg #[.string x.s_, .int .i64 x.at_]) p1 m0.wait_] (fun r H' => ∃ (pq1 : Option Addr), ∃ (cq2 : Nat), ∃ (bq4 : Nat), r = .int .i64 res.1 ∧ H' = [imm I, pt b0 #[.slice pq1 res.2.sure_.length cq2, .map (some bq4), .bool res.2.off_, .bool res.2.armed_, .int .i64 res.2.left_, .int .u64 res.2.fall_.Keep, .int .i64 res.2.fall_.Tear, .int .i64 res.2.acts_, .int .i64 res.2.falls_] 68, own e_disk_sector 70 pq1 cq2 res.2.sure_, mpo (kInt .i64) (fun x : disk_sector => Value.agg #[.string x.s_, .int .i64 x.at_]) bq4 res.2.wait_]) := by
  unfold F.disk_Disk_Flush at hF
  refine tr_of_cw (fn := Tryd.f38) Tryd.func38 rfl (Nat.le_of_ble_eq_true rfl) 39 rfl fun F0 w0 => ?_
  refine cw_keep [0] (L' := [(0, .pointer (some ⟨b0, 0, none⟩))]) rfl ?_
  refine cw_state (S' := SAT w0 ([imm I, pt b0 #[.slice p0 m0.sure_.length c0, .map (some p1), .bool m0.off_, .bool m0.armed_, .int .i64 m0.left_, .int .u64 m0.fall_.Keep, .int .i64 m0.fall_.Tear, .int .i64 m0.acts_, .int .i64 m0.falls_] 68, own e_disk_sector 70 p0 c0 m0.sure_, mpo (kInt .i64) (fun x : disk_sector => Value.agg #[.string x.s_, .int .i64 x.at_]) p1 m0.wait_] ++ F0)) (fun w hs => hs) ?_
  refine cw_seq ?_
  refine cw_region ?_
  refine ow_vals 1 (j := 1) [0] [(0, .pointer (some ⟨b0, 0, none⟩))] rfl (by kernel_rfl) ?_
  refine ow_end rfl ?_
  refine ew_then ?_
  refine cw_seq ?_
  refine cw_seq ?_
  refine cw_region ?_
  refine ow_vals 1 (j := 1) [0, 7] [(0, .pointer (some ⟨b0, 0, none⟩)), (7, .pointer (some ⟨b0, 0, none⟩))] rfl (by kernel_rfl) ?_
  obtain ⟨r21, h22, hF⟩ := bind_some hF
  refine ow_pw rfl (pw_call (F := [] ++ F0) rfl rfl rfl rfl rfl rfl rfl (by kernel_rfl) (perm_of_pulls [0, 0, 0, 0] rfl) (c_disk_Disk_why _ 0 m0 p0 c0 p1 b0 r21 h22) ?_)
  rintro _ _ ⟨rfl, rfl⟩
  refine nw_H (H' := [imm I, pt b0 #[.slice p0 m0.sure_.length c0, .map (some p1), .bool m0.off_, .bool m0.armed_, .int .i64 m0.left_, .int .u64 m0.fall_.Keep, .int .i64 m0.fall_.Tear, .int .i64 m0.acts_, .int .i64 m0.falls_] 68, own e_disk_sector 70 p0 c0 m0.sure_, mpo (kInt .i64) (fun x : disk_sector => Value.agg #[.string x.s_, .int .i64 x.at_]) p1 m0.wait_] ++ F0) rfl (nw_ow ?_)
  refine ow_vals 1 (j := 3) [0, 3] [(0, .pointer (some ⟨b0, 0, none⟩)), (3, .int .i64 r21)] rfl (by kernel_rfl) ?_
  refine ow_end rfl ?_
  refine ew_then ?_
  refine cw_seq ?_
  refine cw_region ?_
  refine ow_vals 2 (j := 2) [0, 3, 10] [(0, .pointer (some ⟨b0, 0, none⟩)), (3, .int .i64 r21), (10, .bool (r21 != 0))] rfl (by kernel_rfl) ?_
  refine ow_end rfl ?_
  refine ew_then ?_
  rcases if_some hF with ⟨h23, hF⟩ | ⟨h23, hF⟩
  · refine cw_cond_t rfl rfl h23 ?_
    refine cw_seq ?_
    refine cw_region ?_
    refine ow_vals 2 (j := 2) [2] [(2, .int .i64 r21)] rfl (by kernel_rfl) ?_
    refine ow_end rfl ?_
    refine ew_then ?_
    refine cw_ret ?_
    refine ew_then_ret ?_
    have hR := Option.some.inj hF
    subst hR
    exact fin1 (H1 := [imm I, pt b0 #[.slice p0 m0.sure_.length c0, .map (some p1), .bool m0.off_, .bool m0.armed_, .int .i64 m0.left_, .int .u64 m0.fall_.Keep, .int .i64 m0.fall_.Tear, .int .i64 m0.acts_, .int .i64 m0.falls_] 68, own e_disk_sector 70 p0 c0 m0.sure_, mpo (kInt .i64) (fun x : disk_sector => Value.agg #[.string x.s_, .int .i64 x.at_]) p1 m0.wait_]) (fun w hs => sat_to [0, 0, 0, 0] 0 rfl hs) rfl (rr_tmp rfl) ⟨p0, c0, p1, rfl, rfl⟩
  · refine cw_cond_f rfl rfl h23 ?_
    refine cw_skip ?_
    refine ew_then ?_
    refine cw_seq ?_
    refine cw_seq ?_
    refine cw_region ?_
    refine ow_vals 1 (j := 1) [0, 12] [(0, .pointer (some ⟨b0, 0, none⟩)), (12, .pointer (some ⟨b0, 0, none⟩))] rfl (by kernel_rfl) ?_
    obtain ⟨r24, h25, hF⟩ := bind_some hF
    refine ow_pw rfl (pw_call (F := [] ++ F0) rfl rfl rfl rfl rfl rfl rfl (by kernel_rfl) (perm_of_pulls [0, 0, 0, 0] rfl) (c_disk_Disk_act _ m0 p0 c0 p1 b0 r24 h25) ?_)
    rintro _ _ ⟨r24_p1, r24_c2, r24_b4, rfl, rfl⟩
    refine nw_H (H' := [imm I, pt b0 #[.slice r24_p1 r24.2.sure_.length r24_c2, .map (some r24_b4), .bool r24.2.off_, .bool r24.2.armed_, .int .i64 r24.2.left_, .int .u64 r24.2.fall_.Keep, .int .i64 r24.2.fall_.Tear, .int .i64 r24.2.acts_, .int .i64 r24.2.falls_] 68, own e_disk_sector 70 r24_p1 r24_c2 r24.2.sure_, mpo (kInt .i64) (fun x : disk_sector => Value.agg #[.string x.s_, .int .i64 x.at_]) r24_b4 r24.2.wait_] ++ F0) rfl (nw_ow ?_)
    refine ow_vals 1 (j := 3) [0, 4] [(0, .pointer (some ⟨b0, 0, none⟩)), (4, .int .i64 r24.1)] rfl (by kernel_rfl) ?_
    refine ow_end rfl ?_
    refine ew_then ?_
    refine cw_seq ?_
    refine cw_region ?_
    refine ow_vals 2 (j := 2) [0, 4, 15] [(0, .pointer (some ⟨b0, 0, none⟩)), (4, .int .i64 r24.1), (15, .bool (r24.1 != 0))] rfl (by kernel_rfl) ?_
    refine ow_end rfl ?_
    refine ew_then ?_
    rcases if_some hF with ⟨h28, hF⟩ | ⟨h28, hF⟩
    · refine cw_cond_t rfl rfl h28 ?_
      refine cw_seq ?_
      refine cw_region ?_
      refine ow_vals 2 (j := 2) [2] [(2, .int .i64 r24.1)] rfl (by kernel_rfl) ?_
      refine ow_end rfl ?_
      refine ew_then ?_
      refine cw_ret ?_
      refine ew_then_ret ?_
      have hR := Option.some.inj hF
      subst hR
      exact fin1 (H1 := [imm I, pt b0 #[.slice r24_p1 r24.2.sure_.length r24_c2, .map (some r24_b4), .bool r24.2.off_, .bool r24.2.armed_, .int .i64 r24.2.left_, .int .u64 r24.2.fall_.Keep, .int .i64 r24.2.fall_.Tear, .int .i64 r24.2.acts_, .int .i64 r24.2.falls_] 68, own e_disk_sector 70 r24_p1 r24_c2 r24.2.sure_, mpo (kInt .i64) (fun x : disk_sector => Value.agg #[.string x.s_, .int .i64 x.at_]) r24_b4 r24.2.wait_]) (fun w hs => sat_to [0, 0, 0, 0] 0 rfl hs) rfl (rr_tmp rfl) ⟨r24_p1, r24_c2, r24_b4, rfl, rfl⟩
    · refine cw_cond_f rfl rfl h28 ?_
      refine cw_skip ?_
      refine ew_then ?_
      obtain ⟨v29, hF, hK29⟩ := bind_some hF
      refine cw_mid (fun a w => ∃ (l43 : List disk_sector), ∃ (l47 : List (Int × disk_sector)), ∃ (p44 : Option Addr), ∃ (c45 : Nat), (l43, l47) = v29 ∧ Fr 39 [] a ∧ SAT w0 ([imm I, pt b0 #[.slice p44 l43.length c45, .map (some r24_b4), .bool r24.2.off_, .bool r24.2.armed_, .int .i64 r24.2.left_, .int .u64 r24.2.fall_.Keep, .int .i64 r24.2.fall_.Tear, .int .i64 r24.2.acts_, .int .i64 r24.2.falls_] 68, own e_disk_sector 70 p44 c45 l43, mpo (kInt .i64) (fun x : disk_sector => Value.agg #[.string x.s_, .int .i64 x.at_]) r24_b4 l47] ++ F0) w) ?_ ?_
      · refine cw_seq ?_
        refine cw_region ?_
        refine ow_vals 3 (j := 3) [0, 19] [(0, .pointer (some ⟨b0, 0, none⟩)), (19, .pointer (some ⟨b0, 1, none⟩))] rfl (by kernel_rfl) ?_
        refine ow_pw rfl (pw_quiet (v := .map (some r24_b4)) rfl rfl rfl rfl (q_load 1 rfl rfl rfl (by kernel_rfl)) (nw_ow ?_))
        refine ow_pw rfl (pw_range 3 rfl rfl rfl rfl rfl rfl rfl rfl fun b30 => nw_H (H' := [imm I, pt b0 #[.slice r24_p1 r24.2.sure_.length r24_c2, .map (some r24_b4), .bool r24.2.off_, .bool r24.2.armed_, .int .i64 r24.2.left_, .int .u64 r24.2.fall_.Keep, .int .i64 r24.2.fall_.Tear, .int .i64 r24.2.acts_, .int .i64 r24.2.falls_] 68, own e_disk_sector 70 r24_p1 r24_c2 r24.2.sure_, mrg (kInt .i64) (fun x : disk_sector => Value.agg #[.string x.s_, .int .i64 x.at_]) r24_b4 b30 r24.2.wait_ r24.2.wait_ none] ++ F0) rfl (nw_ow ?_))
        refine ow_end rfl ?_
        refine ew_then ?_
        refine cw_block ?_
        obtain ⟨h31, hF⟩ := chk_some hF
        obtain ⟨v32, hv32, hX32⟩ := bind_some hF
        clear hF
        refine fun a w hf hs => ?_
        have hn32 := mrg_keys (k := 3) rfl hs
        have ho32 := ord_F_disk_Disk_Flush_l1 r24.2.wait_ (r24.2.sure_, r24.2.wait_) _ hn32 hv32
        refine wp_rounds (fun k a w => ∃ (l33 : List disk_sector), ∃ (l37 : List (Int × disk_sector)), ∃ (p34 : Option Addr), ∃ (c35 : Nat), ∃ (dn32 : List (Int × disk_sector)), ∃ (lt32 : List (Int × disk_sector)), (dn32 ++ lt32).Perm r24.2.wait_ ∧ mloop (fun q x => F.disk_Disk_Flush.l1 q x.1 x.2) dn32 (r24.2.sure_, r24.2.wait_) = some (l33, l37) ∧ lt32.length < k ∧ Fr 39 [(0, .pointer (some ⟨b0, 0, none⟩)), (21, .pointer (some ⟨b30, 0, none⟩))] a ∧ SAT w0 ([imm I, pt b0 #[.slice p34 l33.length c35, .map (some r24_b4), .bool r24.2.off_, .bool r24.2.armed_, .int .i64 r24.2.left_, .int .u64 r24.2.fall_.Keep, .int .i64 r24.2.fall_.Tear, .int .i64 r24.2.acts_, .int .i64 r24.2.falls_] 68, own e_disk_sector 70 p34 c35 l33, mrg (kInt .i64) (fun x : disk_sector => Value.agg #[.string x.s_, .int .i64 x.at_]) r24_b4 b30 l37 lt32 none] ++ F0) w) ?_ FUEL a w ⟨r24.2.sure_, r24.2.wait_, r24_p1, r24_c2, [], r24.2.wait_, List.Perm.refl _, rfl, (by rw [FUEL_eq]; omega), hf.keep [0, 21], sat_to [0, 0, 0, 0] 0 rfl hs⟩
        clear hf hs
        clear a w
        rintro k a w ⟨l33, l37, p34, c35, dn32, lt32, hP32, hD32, hk32, hf, hs⟩
        revert a w
        show CW _ _ _ 39 [(0, .pointer (some ⟨b0, 0, none⟩)), (21, .pointer (some ⟨b30, 0, none⟩))] (SAT w0 ([imm I, pt b0 #[.slice p34 l33.length c35, .map (some r24_b4), .bool r24.2.off_, .bool r24.2.armed_, .int .i64 r24.2.left_, .int .u64 r24.2.fall_.Keep, .int .i64 r24.2.fall_.Tear, .int .i64 r24.2.acts_, .int .i64 r24.2.falls_] 68, own e_disk_sector 70 p34 c35 l33, mrg (kInt .i64) (fun x : disk_sector => Value.agg #[.string x.s_, .int .i64 x.at_]) r24_b4 b30 l37 lt32 none] ++ F0))
        refine cw_seq ?_
        refine cw_region ?_
        refine ow_pw rfl (pw_next 3 rfl rfl rfl rfl rfl rfl rfl (fun h032 => nw_ow ?_) (fun q32 lf32 hq32 => nw_H (H' := [imm I, pt b0 #[.slice p34 l33.length c35, .map (some r24_b4), .bool r24.2.off_, .bool r24.2.armed_, .int .i64 r24.2.left_, .int .u64 r24.2.fall_.Keep, .int .i64 r24.2.fall_.Tear, .int .i64 r24.2.acts_, .int .i64 r24.2.falls_] 68, own e_disk_sector 70 p34 c35 l33, mrg (kInt .i64) (fun x : disk_sector => Value.agg #[.string x.s_, .int .i64 x.at_]) r24_b4 b30 l37 lf32 (some q32)] ++ F0) rfl (nw_ow ?_)))
        · obtain ⟨w32, hv32, hR32⟩ := ho32 dn32 (by rw [h032, List.append_nil] at hP32; exact hP32)
          rw [hD32] at hv32
          obtain rfl := Option.some.inj hv32
          subst hR32
          have hF := hX32
          try dsimp only at hF
          unfold F.disk_Disk_Flush.x2 at hF
          refine ow_state (S' := SAT w0 ([imm I, pt b0 #[.slice p34 l33.length c35, .map (some r24_b4), .bool r24.2.off_, .bool r24.2.armed_, .int .i64 r24.2.left_, .int .u64 r24.2.fall_.Keep, .int .i64 r24.2.fall_.Tear, .int .i64 r24.2.acts_, .int .i64 r24.2.falls_] 68, own e_disk_sector 70 p34 c35 l33, mpo (kInt .i64) (fun x : disk_sector => Value.agg #[.string x.s_, .int .i64 x.at_]) r24_b4 l37] ++ F0)) (fun w hs => sat_mrg_end (k := 3) rfl hs) ?_
          refine ow_vals 1 (j := 2) [0, 21, 23] [(0, .pointer (some ⟨b0, 0, none⟩)), (21, .pointer (some ⟨b30, 0, none⟩)), (23, .bool false)] rfl (by kernel_rfl) ?_
          refine ow_end rfl ?_
          refine ew_then ?_
          refine cw_seq ?_
          refine cw_cond_f rfl rfl rfl ?_
          refine cw_exit ?_
          refine ew_then_exit ?_
          refine ew_then_exit ?_
          refine ew_blk_exit ?_
          have hR := Option.some.inj hF
          exact fun a w hf hs => ⟨l33, l37, p34, c35, hR, hf.keep [], sat_to [0, 0, 0, 0] 0 rfl hs⟩
        · obtain ⟨u32, hu32⟩ := mloop_step (fun l' h => (ho32 l' h).imp fun _ h => h.1) hD32 ((hq32.append_left dn32).symm.trans hP32)
          have hF := hu32
          try dsimp only at hF
          unfold F.disk_Disk_Flush.l1 at hF
          refine ow_vals 1 (j := 2) [0, 21, 23] [(0, .pointer (some ⟨b0, 0, none⟩)), (21, .pointer (some ⟨b30, 0, none⟩)), (23, .bool true)] rfl (by kernel_rfl) ?_
          refine ow_end rfl ?_
          refine ew_then ?_
          refine cw_seq ?_
          refine cw_cond_t rfl rfl rfl ?_
          refine cw_skip ?_
          refine ew_then ?_
          refine cw_block ?_
          refine cw_seq ?_
          refine cw_region ?_
          refine ow_pw rfl (pw_quiet (v := .tuple #[.int .i64 q32.1, .agg #[.string q32.2.s_, .int .i64 q32.2.at_]]) rfl rfl rfl rfl (q_entry (kf := (kInt .i64)) (vf := (fun x : disk_sector => Value.agg #[.string x.s_, .int .i64 x.at_])) (p := q32) 3 rfl rfl rfl) (nw_ow ?_))
          refine ow_vals 2 (j := 3) [0, 21, 25, 26] [(0, .pointer (some ⟨b0, 0, none⟩)), (21, .pointer (some ⟨b30, 0, none⟩)), (25, .int .i64 q32.1), (26, .agg #[.string q32.2.s_, .int .i64 q32.2.at_])] rfl (by kernel_rfl) ?_
          refine ow_pw rfl (pw_alloc (cs := #[.string (ByteArray.mk #[]), .int .i64 0]) rfl rfl rfl rfl rfl (by kernel_rfl) fun b39 => nw_ow ?_)
          refine ow_vals 1 (j := 5) [0, 5, 6, 21, 26] [(0, .pointer (some ⟨b0, 0, none⟩)), (5, .int .i64 q32.1), (6, .pointer (some ⟨b39, 0, none⟩)), (21, .pointer (some ⟨b30, 0, none⟩)), (26, .agg #[.string q32.2.s_, .int .i64 q32.2.at_])] rfl (by kernel_rfl) ?_
          refine ow_pw rfl (pw_store 0 #[.string q32.2.s_, .int .i64 q32.2.at_] rfl rfl rfl rfl rfl rfl rfl (by kernel_rfl) (nw_H (H' := [pt b39 #[.string q32.2.s_, .int .i64 q32.2.at_] 70, imm I, pt b0 #[.slice p34 l33.length c35, .map (some r24_b4), .bool r24.2.off_, .bool r24.2.armed_, .int .i64 r24.2.left_, .int .u64 r24.2.fall_.Keep, .int .i64 r24.2.fall_.Tear, .int .i64 r24.2.acts_, .int .i64 r24.2.falls_] 68, own e_disk_sector 70 p34 c35 l33, mrg (kInt .i64) (fun x : disk_sector => Value.agg #[.string x.s_, .int .i64 x.at_]) r24_b4 b30 l37 lf32 (some q32)] ++ F0) rfl (nw_ow ?_)))
          refine ow_end rfl ?_
          refine ew_then ?_
          refine cw_seq ?_
          refine cw_open 7 (SAT w0 ([pt b39 #[.string q32.2.s_, .int .i64 q32.2.at_] 70, imm I, pt b0 #[.slice p34 l33.length c35, .map (some r24_b4), .bool r24.2.off_, .bool r24.2.armed_, .int .i64 r24.2.left_, .int .u64 r24.2.fall_.Keep, .int .i64 r24.2.fall_.Tear, .int .i64 r24.2.acts_, .int .i64 r24.2.falls_] 68, own e_disk_sector 70 p34 c35 l33, mrg (kInt .i64) (fun x : disk_sector => Value.agg #[.string x.s_, .int .i64 x.at_]) r24_b4 b30 l37 lf32 (some q32)])) (by kernel_rfl) (f := 8) rfl (fun w hs => sat_drew hs) ?_
          refine aw_vals [0, 1, 2, 4] (f' := 4) (m' := 23) [0, 5, 6, 21, 29, 31] [(0, .pointer (some ⟨b0, 0, none⟩)), (5, .int .i64 q32.1), (6, .pointer (some ⟨b39, 0, none⟩)), (21, .pointer (some ⟨b30, 0, none⟩)), (29, .pointer (some ⟨b0, 0, none⟩)), (31, .int .i64 q32.1)] (fun _ _ _ _ _ h => calm_fin (P := Tryd.prog) (fn := Tryd.f38) _ _ _ _ _ h) (fun w hs => sat_pulls [0, 0, 0, 0, 0] (G := [] ++ F0) rfl hs) rfl (by kernel_rfl) ?_
          refine aw_quiet 3 (m' := 31) (v := .slice p34 l33.length c35) 3 [] rfl rfl rfl rfl (by kernel_rfl) (by kernel_rfl) (by kernel_rfl) (fun _ _ _ _ _ h => calm_fin (P := Tryd.prog) (fn := Tryd.f38) _ _ _ _ _ h) (fun w hs => sat_pulls [0, 0, 0, 0, 0] (G := [] ++ F0) rfl hs) (q_load 2 rfl rfl rfl (by kernel_rfl)) ?_
          refine aw_quiet 5 (m' := 63) (v := .agg #[.string q32.2.s_, .int .i64 q32.2.at_]) 5 [] rfl rfl rfl rfl (by kernel_rfl) (by kernel_rfl) (by kernel_rfl) (fun _ _ _ _ _ h => calm_fin (P := Tryd.prog) (fn := Tryd.f38) _ _ _ _ _ h) (fun w hs => sat_pulls [0, 0, 0, 0, 0] (G := [] ++ F0) rfl hs) (q_load 0 rfl rfl rfl (by kernel_rfl)) ?_
          obtain ⟨y41, h42, hF⟩ := bind_some hF
          refine aw_quiet 6 (m' := 127) (v := .pointer (some ((base p34).add (q32.1.toNat * 2)))) 6 [] rfl rfl rfl rfl (by kernel_rfl) (by kernel_rfl) (by kernel_rfl) (fun _ _ _ _ _ h => calm_fin (P := Tryd.prog) (fn := Tryd.f38) _ _ _ _ _ h) (fun w hs => sat_pulls [0, 0, 0, 0, 0] (G := [] ++ F0) rfl hs) (q_index_own 3 2 rfl rfl (by kernel_rfl) rfl rfl (at_some h42).1 (at_lt h42)) ?_
          refine aw_only 7 (m' := 255) (by kernel_rfl) (by kernel_rfl) (pw_store_own 3 2 (z' := q32.2) (off := 0) rfl rfl rfl rfl rfl rfl rfl rfl (at_some h42).2 (by kernel_rfl) (nw_H (H' := [pt b39 #[.string q32.2.s_, .int .i64 q32.2.at_] 70, imm I, pt b0 #[.slice p34 (l33.set q32.1.toNat q32.2).length c35, .map (some r24_b4), .bool r24.2.off_, .bool r24.2.armed_, .int .i64 r24.2.left_, .int .u64 r24.2.fall_.Keep, .int .i64 r24.2.fall_.Tear, .int .i64 r24.2.acts_, .int .i64 r24.2.falls_] 68, own e_disk_sector 70 p34 c35 (l33.set q32.1.toNat q32.2), mrg (kInt .i64) (fun x : disk_sector => Value.agg #[.string x.s_, .int .i64 x.at_]) r24_b4 b30 l37 lf32 (some q32)] ++ F0) (by first | rfl | (simp only [List.length_set]; rfl)) (aw_last (by kernel_rfl) ?_)))
          refine aw_slots (L' := [(33, .pointer (some ((base p34).add (q32.1.toNat * 2)))), (32, .agg #[.string q32.2.s_, .int .i64 q32.2.at_]), (30, .slice p34 (l33.set q32.1.toNat q32.2).length c35), (0, .pointer (some ⟨b0, 0, none⟩)), (5, .int .i64 q32.1), (6, .pointer (some ⟨b39, 0, none⟩)), (21, .pointer (some ⟨b30, 0, none⟩)), (29, .pointer (some ⟨b0, 0, none⟩)), (31, .int .i64 q32.1)]) (by first | rfl | (simp only [List.length_set]; rfl)) ?_
          refine aw_keep [0, 5, 21] (L' := [(0, .pointer (some ⟨b0, 0, none⟩)), (5, .int .i64 q32.1), (21, .pointer (some ⟨b30, 0, none⟩))]) rfl ?_
          refine aw_end (by kernel_rfl) ?_
          refine ew_then ?_
          refine cw_region ?_
          refine ow_vals 3 (j := 3) [0, 5, 21, 36] [(0, .pointer (some ⟨b0, 0, none⟩)), (5, .int .i64 q32.1), (21, .pointer (some ⟨b30, 0, none⟩)), (36, .pointer (some ⟨b0, 1, none⟩))] rfl (by kernel_rfl) ?_
          refine ow_pw rfl (pw_quiet (v := .map (some r24_b4)) rfl rfl rfl rfl (q_load 2 rfl rfl rfl (by kernel_rfl)) (nw_ow ?_))
          refine ow_vals 1 (j := 5) [0, 21, 37, 38] [(0, .pointer (some ⟨b0, 0, none⟩)), (21, .pointer (some ⟨b30, 0, none⟩)), (37, .map (some r24_b4)), (38, .int .i64 q32.1)] rfl (by kernel_rfl) ?_
          refine ow_pw rfl (pw_mapDel_cur 4 (p := q32) (mkey_int (by kernel_rfl)) rfl rfl rfl rfl rfl rfl rfl rfl rfl (nw_H (H' := [pt b39 #[.string q32.2.s_, .int .i64 q32.2.at_] 70, imm I, pt b0 #[.slice p34 (l33.set q32.1.toNat q32.2).length c35, .map (some r24_b4), .bool r24.2.off_, .bool r24.2.armed_, .int .i64 r24.2.left_, .int .u64 r24.2.fall_.Keep, .int .i64 r24.2.fall_.Tear, .int .i64 r24.2.acts_, .int .i64 r24.2.falls_] 68, own e_disk_sector 70 p34 c35 (l33.set q32.1.toNat q32.2), mrg (kInt .i64) (fun x : disk_sector => Value.agg #[.string x.s_, .int .i64 x.at_]) r24_b4 b30 (mdel l37 q32.1) lf32 none] ++ F0) rfl (nw_ow ?_)))
          refine ow_end rfl ?_
          refine ew_blk ?_
          have hR := Option.some.inj hF
          subst hR
          exact fun a w hf hs => ⟨lt32.length, hk32, l33.set q32.1.toNat q32.2, mdel l37 q32.1, p34, c35, dn32 ++ [q32], lf32, (by rw [List.append_assoc]; exact (hq32.append_left dn32).symm.trans hP32), mloop_snoc hD32 hu32, (by rw [hq32.length_eq]; exact Nat.lt_succ_self _), hf.keep [0, 21], sat_to [0, 0, 0, 0, 0] 1 rfl (sat_mrg_none (k := 4) rfl hs)⟩
      · rintro a w ⟨l43, l47, p44, c45, hv, hf, hs⟩
        subst hv
        replace hF := hK29
        clear hK29
        try dsimp only at hF
        revert a w
        show CW _ _ _ 39 [] (SAT w0 ([imm I, pt b0 #[.slice p44 l43.length c45, .map (some r24_b4), .bool r24.2.off_, .bool r24.2.armed_, .int .i64 r24.2.left_, .int .u64 r24.2.fall_.Keep, .int .i64 r24.2.fall_.Tear, .int .i64 r24.2.acts_, .int .i64 r24.2.falls_] 68, own e_disk_sector 70 p44 c45 l43, mpo (kInt .i64) (fun x : disk_sector => Value.agg #[.string x.s_, .int .i64 x.at_]) r24_b4 l47] ++ F0))
        unfold F.disk_Disk_Flush.r3 at hF
        refine cw_seq ?_
        refine cw_region ?_
        refine ow_vals 1 (j := 1) [2] [(2, .int .i64 0)] rfl (by kernel_rfl) ?_
        refine ow_end rfl ?_
        refine ew_then ?_
        refine cw_ret ?_
        have hR := Option.some.inj hF
        subst hR
        exact fin1 (H1 := [imm I, pt b0 #[.slice p44 ((⟨l43, l47, r24.2.off_, r24.2.armed_, r24.2.left_, r24.2.fall_, r24.2.acts_, r24.2.falls_⟩ : disk_Disk).sure_).length c45, .map (some r24_b4), .bool ((⟨l43, l47, r24.2.off_, r24.2.armed_, r24.2.left_, r24.2.fall_, r24.2.acts_, r24.2.falls_⟩ : disk_Disk).off_), .bool ((⟨l43, l47, r24.2.off_, r24.2.armed_, r24.2.left_, r24.2.fall_, r24.2.acts_, r24.2.falls_⟩ : disk_Disk).armed_), .int .i64 ((⟨l43, l47, r24.2.off_, r24.2.armed_, r24.2.left_, r24.2.fall_, r24.2.acts_, r24.2.falls_⟩ : disk_Disk).left_), .int .u64 (((⟨l43, l47, r24.2.off_, r24.2.armed_, r24.2.left_, r24.2.fall_, r24.2.acts_, r24.2.falls_⟩ : disk_Disk).fall_).Keep), .int .i64 (((⟨l43, l47, r24.2.off_, r24.2.armed_, r24.2.left_, r24.2.fall_, r24.2.acts_, r24.2.falls_⟩ : disk_Disk).fall_).Tear), .int .i64 ((⟨l43, l47, r24.2.off_, r24.2.armed_, r24.2.left_, r24.2.fall_, r24.2.acts_, r24.2.falls_⟩ : disk_Disk).acts_), .int .i64 ((⟨l43, l47, r24.2.off_, r24.2.armed_, r24.2.left_, r24.2.fall_, r24.2.acts_, r24.2.falls_⟩ : disk_Disk).falls_)] 68, own e_disk_sector 70 p44 c45 ((⟨l43, l47, r24.2.off_, r24.2.armed_, r24.2.left_, r24.2.fall_, r24.2.acts_, r24.2.falls_⟩ : disk_Disk).sure_), mpo (kInt .i64) (fun x : disk_sector => Value.agg #[.string x.s_, .int .i64 x.at_]) r24_b4 ((⟨l43, l47, r24.2.off_, r24.2.armed_, r24.2.left_, r24.2.fall_, r24.2.acts_, r24.2.falls_⟩ : disk_Disk).wait_)]) (fun w hs => sat_to [0, 0, 0, 0] 0 rfl hs) rfl (rr_tmp rfl) ⟨p44, c45, r24_b4, rfl, rfl⟩


def F.guard_Guard_Flush_1 (m0 : guard_Guard) (m1 : disk_Disk) : Option (Int × disk_Disk) :=
  Option.bind (F.guard_Guard_none m0 m1) (fun (r21 : Unit) => Option.bind (F.disk_Disk_Flush m1) (fun (r23 : Int × disk_Disk) => some ((r23.1, r23.2))))
set_option maxRecDepth 100000 in
set_option maxHeartbeats 4000000 in
theorem c_guard_Guard_Flush_1 (I : Hl) (m0 : guard_Guard) (m1 : disk_Disk) (b0 : Nat) (p0 : Option Addr) (c0 : Nat) (p1 : Nat) (b1 : Nat) (res : Int × disk_Disk) (hF : F.guard_Guard_Flush_1 m0 m1 = some res) : Tr Tryd.prog 25 [.pointer (some ⟨b0, 0, none⟩)] [imm I, pt b0 #[.pointer (some ⟨b1, 0, none⟩), .int .i64 m0.boot_, .int .i64 m0.n_] 47, pt b1 #[.slice p0 m1.sure_.length c0, .map (some p1), .bool m1.off_, .bool m1.armed_, .int .i64 m1.left_, .int .u64 m1.fall_.Keep, .int .i64 m1.fall_.Tear, .int .i64 m1.acts_, .int .i64 m1.falls_] 68, own e_disk_sector 70 p0 c0 m1.sure_, mpo (kInt .i64) (fun x : disk_sector => Value.agg #[.string x.s_, .int .i64 x.at_]) p1 m1.wait_] (fun r H' => ∃ (pq1 : Option Addr), ∃ (cq2 : Nat), ∃ (bq4 : Nat), r = .int .i64 res.1 ∧ H' = [imm I, pt b0 #[.pointer (some ⟨b1, 0, none⟩), .int .i64 m0.boot_, .int .i64 m0.n_] 47, pt b1 #[.slice pq1 res.2.sure_.length cq2, .map (some bq4), .bool res.2.off_, .bool res.2.armed_, .int .i64 res.2.left_, .int .u64 res.2.fall_.Keep, .int .i64 res.2.fall_.Tear, .int .i64 res.2.acts_, .int .i64 res.2.falls_] 68, own e_disk_sector 70 pq1 cq2 res.2.sure_, mpo (kInt .i64) (fun x : disk_sector => Value.agg #[.string x.s_, .int .i64 x.at_]) bq4 res.2.wait_]) := by
  unfold F.guard_Guard_Flush_1 at hF
  refine tr_of_cw (fn := Tryd.f25) Tryd.func25 rfl (Nat.le_of_ble_eq_true rfl) 10 rfl fun F0 w0 => ?_
  refine cw_keep [0] (L' := [(0, .pointer (some ⟨b0, 0, none⟩))]) rfl ?_
  refine cw_state (S' := SAT w0 ([imm I, pt b0 #[.pointer (some ⟨b1, 0, none⟩), .int .i64 m0.boot_, .int .i64 m0.n_] 47, pt b1 #[.slice p0 m1.sure_.length c0, .map (some p1), .bool m1.off_, .bool m1.armed_, .int .i64 m1.left_, .int .u64 m1.fall_.Keep, .int .i64 m1.fall_.Tear, .int .i64 m1.acts_, .int .i64 m1.falls_] 68, own e_disk_sector 70 p0 c0 m1.sure_, mpo (kInt .i64) (fun x : disk_sector => Value.agg #[.string x.s_, .int .i64 x.at_]) p1 m1.wait_] ++ F0)) (fun w hs => hs) ?_
  refine cw_seq ?_
  refine cw_region ?_
  refine ow_vals 1 (j := 1) [0] [(0, .pointer (some ⟨b0, 0, none⟩))] rfl (by kernel_rfl) ?_
  refine ow_end rfl ?_
  refine ew_then ?_
  refine cw_seq ?_
  refine cw_seq ?_
  refine cw_region ?_
  refine ow_vals 1 (j := 1) [0, 3] [(0, .pointer (some ⟨b0, 0, none⟩)), (3, .pointer (some ⟨b0, 0, none⟩))] rfl (by kernel_rfl) ?_
  obtain ⟨r21, h22, hF⟩ := bind_some hF
  refine ow_pw rfl (pw_call (F := [] ++ F0) rfl rfl rfl rfl rfl rfl rfl (by kernel_rfl) (perm_of_pulls [0, 0, 0, 0, 0] rfl) (c_guard_Guard_none _ m0 m1 b0 p0 c0 p1 b1 r21 h22) ?_)
  rintro _ _ ⟨rfl, rfl⟩
  refine nw_H (H' := [imm I, pt b0 #[.pointer (some ⟨b1, 0, none⟩), .int .i64 m0.boot_, .int .i64 m0.n_] 47, pt b1 #[.slice p0 m1.sure_.length c0, .map (some p1), .bool m1.off_, .bool m1.armed_, .int .i64 m1.left_, .int .u64 m1.fall_.Keep, .int .i64 m1.fall_.Tear, .int .i64 m1.acts_, .int .i64 m1.falls_] 68, own e_disk_sector 70 p0 c0 m1.sure_, mpo (kInt .i64) (fun x : disk_sector => Value.agg #[.string x.s_, .int .i64 x.at_]) p1 m1.wait_] ++ F0) rfl (nw_ow ?_)
  refine ow_end rfl ?_
  refine ew_then ?_
  refine cw_cond_f rfl rfl rfl ?_
  refine cw_skip ?_
  refine ew_then ?_
  refine cw_seq ?_
  refine cw_region ?_
  refine ow_vals 3 (j := 3) [7] [(7, .pointer (some ⟨b0, 0, none⟩))] rfl (by kernel_rfl) ?_
  refine ow_pw rfl (pw_quiet (v := .pointer (some ⟨b1, 0, none⟩)) rfl rfl rfl rfl (q_load 1 rfl rfl rfl (by kernel_rfl)) (nw_ow ?_))
  obtain ⟨r23, h24, hF⟩ := bind_some hF
  refine ow_pw rfl (pw_call (F := [pt b0 #[.pointer (some ⟨b1, 0, none⟩), .int .i64 m0.boot_, .int .i64 m0.n_] 47] ++ F0) rfl rfl rfl rfl rfl rfl rfl (by kernel_rfl) (perm_of_pulls [0, 1, 1, 1] rfl) (c_disk_Disk_Flush _ m1 p0 c0 p1 b1 r23 h24) ?_)
  rintro _ _ ⟨r23_p1, r23_c2, r23_b4, rfl, rfl⟩
  refine nw_H (H' := [imm I, pt b1 #[.slice r23_p1 r23.2.sure_.length r23_c2, .map (some r23_b4), .bool r23.2.off_, .bool r23.2.armed_, .int .i64 r23.2.left_, .int .u64 r23.2.fall_.Keep, .int .i64 r23.2.fall_.Tear, .int .i64 r23.2.acts_, .int .i64 r23.2.falls_] 68, own e_disk_sector 70 r23_p1 r23_c2 r23.2.sure_, mpo (kInt .i64) (fun x : disk_sector => Value.agg #[.string x.s_, .int .i64 x.at_]) r23_b4 r23.2.wait_, pt b0 #[.pointer (some ⟨b1, 0, none⟩), .int .i64 m0.boot_, .int .i64 m0.n_] 47] ++ F0) rfl (nw_ow ?_)
  refine ow_vals 1 (j := 6) [2] [(2, .int .i64 r23.1)] rfl (by kernel_rfl) ?_
  refine ow_end rfl ?_
  refine ew_then ?_
  refine cw_ret ?_
  have hR := Option.some.inj hF
  subst hR
  exact fin1 (H1 := [imm I, pt b0 #[.pointer (some ⟨b1, 0, none⟩), .int .i64 m0.boot_, .int .i64 m0.n_] 47, pt b1 #[.slice r23_p1 r23.2.sure_.length r23_c2, .map (some r23_b4), .bool r23.2.off_, .bool r23.2.armed_, .int .i64 r23.2.left_, .int .u64 r23.2.fall_.Keep, .int .i64 r23.2.fall_.Tear, .int .i64 r23.2.acts_, .int .i64 r23.2.falls_] 68, own e_disk_sector 70 r23_p1 r23_c2 r23.2.sure_, mpo (kInt .i64) (fun x : disk_sector => Value.agg #[.string x.s_, .int .i64 x.at_]) r23_b4 r23.2.wait_]) (fun w hs => sat_to [0, 3, 0, 0, 0] 0 rfl hs) rfl (rr_tmp rfl) ⟨r23_p1, r23_c2, r23_b4, rfl, rfl⟩


def F.guard_Guard_Erase_1 (x1 : Int) (m0 : guard_Guard) (m1 : disk_Disk) : Option (Int × disk_Disk) :=
  Option.bind (F.guard_Guard_none m0 m1) (fun (r21 : Unit) => Option.bind (F.strings_Repeat (ByteArray.mk #[0]) 64) (fun (r23 : ByteArray) => Option.bind (F.disk_Disk_Write x1 r23 m1) (fun (r25 : Int × disk_Disk) => some ((r25.1, r25.2)))))
set_option maxRecDepth 100000 in
set_option maxHeartbeats 4000000 in
theorem c_guard_Guard_Erase_1 (I : Hl) (x1 : Int) (m0 : guard_Guard) (m1 : disk_Disk) (b0 : Nat) (p0 : Option Addr) (c0 : Nat) (p1 : Nat) (b1 : Nat) (res : Int × disk_Disk) (hF : F.guard_Guard_Erase_1 x1 m0 m1 = some res) : Tr Tryd.prog 24 [.pointer (some ⟨b0, 0, none⟩), .int .i64 x1] [imm I, pt b0 #[.pointer (some ⟨b1, 0, none⟩), .int .i64 m0.boot_, .int .i64 m0.n_] 47, pt b1 #[.slice p0 m1.sure_.length c0, .map (some p1), .bool m1.off_, .bool m1.armed_, .int .i64 m1.left_, .int .u64 m1.fall_.Keep, .int .i64 m1.fall_.Tear, .int .i64 m1.acts_, .int .i64 m1.falls_] 68, own e_disk_sector 70 p0 c0 m1.sure_, mpo (kInt .i64) (fun x : disk_sector => Value.agg #[.string x.s_, .int .i64 x.at_]) p1 m1.wait_] (fun r H' => ∃ (pq1 : Option Addr), ∃ (cq2 : Nat), ∃ (bq4 : Nat), r = .int .i64 res.1 ∧ H' = [imm I, pt b0 #[.pointer (some ⟨b1, 0, none⟩), .int .i64 m0.boot_, .int .i64 m0.n_] 47, pt b1 #[.slice pq1 res.2.sure_.length cq2, .map (some bq4), .bool res.2.off_, .bool res.2.armed_, .int .i64 res.2.left_, .int .u64 res.2.fall_.Keep, .int .i64 res.2.fall_.Tear, .int .i64 res.2.acts_, .int .i64 res.2.falls_] 68, own e_disk_sector 70 pq1 cq2 res.2.sure_, mpo (kInt .i64) (fun x : disk_sector => Value.agg #[.string x.s_, .int .i64 x.at_]) bq4 res.2.wait_]) := by
  unfold F.guard_Guard_Erase_1 at hF
  refine tr_of_cw (fn := Tryd.f24) Tryd.func24 rfl (Nat.le_of_ble_eq_true rfl) 14 rfl fun F0 w0 => ?_
  refine cw_keep [0, 1] (L' := [(0, .pointer (some ⟨b0, 0, none⟩)), (1, .int .i64 x1)]) rfl ?_
  refine cw_state (S' := SAT w0 ([imm I, pt b0 #[.pointer (some ⟨b1, 0, none⟩), .int .i64 m0.boot_, .int .i64 m0.n_] 47, pt b1 #[.slice p0 m1.sure_.length c0, .map (some p1), .bool m1.off_, .bool m1.armed_, .int .i64 m1.left_, .int .u64 m1.fall_.Keep, .int .i64 m1.fall_.Tear, .int .i64 m1.acts_, .int .i64 m1.falls_] 68, own e_disk_sector 70 p0 c0 m1.sure_, mpo (kInt .i64) (fun x : disk_sector => Value.agg #[.string x.s_, .int .i64 x.at_]) p1 m1.wait_] ++ F0)) (fun w hs => hs) ?_
  refine cw_seq ?_
  refine cw_region ?_
  refine ow_vals 1 (j := 1) [0, 1] [(0, .pointer (some ⟨b0, 0, none⟩)), (1, .int .i64 x1)] rfl (by kernel_rfl) ?_
  refine ow_end rfl ?_
  refine ew_then ?_
  refine cw_seq ?_
  refine cw_seq ?_
  refine cw_region ?_
  refine ow_vals 1 (j := 1) [0, 1, 5] [(0, .pointer (some ⟨b0, 0, none⟩)), (1, .int .i64 x1), (5, .pointer (some ⟨b0, 0, none⟩))] rfl (by kernel_rfl) ?_
  obtain ⟨r21, h22, hF⟩ := bind_some hF
  refine ow_pw rfl (pw_call (F := [] ++ F0) rfl rfl rfl rfl rfl rfl rfl (by kernel_rfl) (perm_of_pulls [0, 0, 0, 0, 0] rfl) (c_guard_Guard_none _ m0 m1 b0 p0 c0 p1 b1 r21 h22) ?_)
  rintro _ _ ⟨rfl, rfl⟩
  refine nw_H (H' := [imm I, pt b0 #[.pointer (some ⟨b1, 0, none⟩), .int .i64 m0.boot_, .int .i64 m0.n_] 47, pt b1 #[.slice p0 m1.sure_.length c0, .map (some p1), .bool m1.off_, .bool m1.armed_, .int .i64 m1.left_, .int .u64 m1.fall_.Keep, .int .i64 m1.fall_.Tear, .int .i64 m1.acts_, .int .i64 m1.falls_] 68, own e_disk_sector 70 p0 c0 m1.sure_, mpo (kInt .i64) (fun x : disk_sector => Value.agg #[.string x.s_, .int .i64 x.at_]) p1 m1.wait_] ++ F0) rfl (nw_ow ?_)
  refine ow_end rfl ?_
  refine ew_then ?_
  refine cw_cond_f rfl rfl rfl ?_
  refine cw_skip ?_
  refine ew_then ?_
  refine cw_seq ?_
  refine cw_open 6 (SAT w0 ([imm I, pt b0 #[.pointer (some ⟨b1, 0, none⟩), .int .i64 m0.boot_, .int .i64 m0.n_] 47, pt b1 #[.slice p0 m1.sure_.length c0, .map (some p1), .bool m1.off_, .bool m1.armed_, .int .i64 m1.left_, .int .u64 m1.fall_.Keep, .int .i64 m1.fall_.Tear, .int .i64 m1.acts_, .int .i64 m1.falls_] 68, own e_disk_sector 70 p0 c0 m1.sure_, mpo (kInt .i64) (fun x : disk_sector => Value.agg #[.string x.s_, .int .i64 x.at_]) p1 m1.wait_])) (by kernel_rfl) (f := 8) rfl (fun w hs => sat_drew hs) ?_
  refine aw_vals [0, 1, 2, 4] (f' := 4) (m' := 23) [9, 11] [(9, .pointer (some ⟨b0, 0, none⟩)), (11, .int .i64 x1)] (fun _ _ _ _ _ h => calm_fin (P := Tryd.prog) (fn := Tryd.f24) _ _ _ _ _ h) (fun w hs => sat_pulls [0, 0, 0, 0, 0] (G := [] ++ F0) rfl hs) rfl (by kernel_rfl) ?_
  refine aw_quiet 3 (m' := 31) (v := .pointer (some ⟨b1, 0, none⟩)) 3 [] rfl rfl rfl rfl (by kernel_rfl) (by kernel_rfl) (by kernel_rfl) (fun _ _ _ _ _ h => calm_fin (P := Tryd.prog) (fn := Tryd.f24) _ _ _ _ _ h) (fun w hs => sat_pulls [0, 0, 0, 0, 0] (G := [] ++ F0) rfl hs) (q_load 1 rfl rfl rfl (by kernel_rfl)) ?_
  obtain ⟨r23, h24, hF⟩ := bind_some hF
  refine aw_only 5 (m' := 63) (by kernel_rfl) (by kernel_rfl) (pw_call (F := [pt b0 #[.pointer (some ⟨b1, 0, none⟩), .int .i64 m0.boot_, .int .i64 m0.n_] 47, pt b1 #[.slice p0 m1.sure_.length c0, .map (some p1), .bool m1.off_, .bool m1.armed_, .int .i64 m1.left_, .int .u64 m1.fall_.Keep, .int .i64 m1.fall_.Tear, .int .i64 m1.acts_, .int .i64 m1.falls_] 68, own e_disk_sector 70 p0 c0 m1.sure_, mpo (kInt .i64) (fun x : disk_sector => Value.agg #[.string x.s_, .int .i64 x.at_]) p1 m1.wait_] ++ F0) rfl rfl rfl rfl rfl rfl rfl (by kernel_rfl) (perm_of_pulls [0] rfl) (c_strings_Repeat _ (ByteArray.mk #[0]) 64 r23 h24) ?_)
  rintro _ _ ⟨rfl, rfl⟩
  refine nw_H (H' := [imm I, pt b0 #[.pointer (some ⟨b1, 0, none⟩), .int .i64 m0.boot_, .int .i64 m0.n_] 47, pt b1 #[.slice p0 m1.sure_.length c0, .map (some p1), .bool m1.off_, .bool m1.armed_, .int .i64 m1.left_, .int .u64 m1.fall_.Keep, .int .i64 m1.fall_.Tear, .int .i64 m1.acts_, .int .i64 m1.falls_] 68, own e_disk_sector 70 p0 c0 m1.sure_, mpo (kInt .i64) (fun x : disk_sector => Value.agg #[.string x.s_, .int .i64 x.at_]) p1 m1.wait_] ++ F0) rfl (aw_next (fun w hs => sat_pulls [0, 0, 0, 0, 0] (G := [] ++ F0) rfl hs) ?_)
  obtain ⟨r25, h26, hF⟩ := bind_some hF
  refine aw_only 6 (m' := 127) (by kernel_rfl) (by kernel_rfl) (pw_call (F := [pt b0 #[.pointer (some ⟨b1, 0, none⟩), .int .i64 m0.boot_, .int .i64 m0.n_] 47] ++ F0) rfl rfl rfl rfl rfl rfl rfl (by kernel_rfl) (perm_of_pulls [0, 1, 1, 1] rfl) (c_disk_Disk_Write _ x1 r23 m1 p0 c0 p1 b1 r25 h26) ?_)
  rintro _ _ ⟨r25_p1, r25_c2, r25_b4, rfl, rfl⟩
  refine nw_H (H' := [imm I, pt b1 #[.slice r25_p1 r25.2.sure_.length r25_c2, .map (some r25_b4), .bool r25.2.off_, .bool r25.2.armed_, .int .i64 r25.2.left_, .int .u64 r25.2.fall_.Keep, .int .i64 r25.2.fall_.Tear, .int .i64 r25.2.acts_, .int .i64 r25.2.falls_] 68, own e_disk_sector 70 r25_p1 r25_c2 r25.2.sure_, mpo (kInt .i64) (fun x : disk_sector => Value.agg #[.string x.s_, .int .i64 x.at_]) r25_b4 r25.2.wait_, pt b0 #[.pointer (some ⟨b1, 0, none⟩), .int .i64 m0.boot_, .int .i64 m0.n_] 47] ++ F0) rfl (aw_last (by kernel_rfl) ?_)
  refine aw_past (by kernel_rfl) ?_
  refine aw_vals [7] (f' := 0) (m' := 255) [4] [(4, .int .i64 r25.1)] (fun _ _ _ _ _ h => calm_fin (P := Tryd.prog) (fn := Tryd.f24) _ _ _ _ _ h) (fun _ _ => trivial) rfl (by kernel_rfl) ?_
  refine aw_keep [4] (L' := [(4, .int .i64 r25.1)]) rfl ?_
  refine aw_end (by kernel_rfl) ?_
  refine ew_then ?_
  refine cw_ret ?_
  have hR := Option.some.inj hF
  subst hR
  exact fin1 (H1 := [imm I, pt b0 #[.pointer (some ⟨b1, 0, none⟩), .int .i64 m0.boot_, .int .i64 m0.n_] 47, pt b1 #[.slice r25_p1 r25.2.sure_.length r25_c2, .map (some r25_b4), .bool r25.2.off_, .bool r25.2.armed_, .int .i64 r25.2.left_, .int .u64 r25.2.fall_.Keep, .int .i64 r25.2.fall_.Tear, .int .i64 r25.2.acts_, .int .i64 r25.2.falls_] 68, own e_disk_sector 70 r25_p1 r25_c2 r25.2.sure_, mpo (kInt .i64) (fun x : disk_sector => Value.agg #[.string x.s_, .int .i64 x.at_]) r25_b4 r25.2.wait_]) (fun w hs => sat_to [0, 3, 0, 0, 0] 0 rfl hs) rfl (rr_tmp rfl) ⟨r25_p1, r25_c2, r25_b4, rfl, rfl⟩


def F.disk_Disk_Crash (x1 : disk_Fall) (m0 : disk_Disk) : Option (Int × disk_Disk) :=
  Option.bind (F.disk_Disk_why 0 m0) (fun (r23 : Int) => if r23 != 0 then (some ((r23, m0))) else (Option.bind (F.disk_Disk_drop x1 m0) (fun (r26 : disk_Disk) => some ((0, r26)))))
set_option maxRecDepth 100000 in
set_option maxHeartbeats 4000000 in
theorem c_disk_Disk_Crash (I : Hl) (x1 : disk_Fall) (m0 : disk_Disk) (p0 : Option Addr) (c0 : Nat) (p1 : Nat) (b0 : Nat) (res : Int × disk_Disk) (hF : F.disk_Disk_Crash x1 m0 = some res) : Tr Tryd.prog 28 [.pointer (some ⟨b0, 0, none⟩), .agg #[.int .u64 x1.Keep, .int .i64 x1.Tear]] [imm I, pt b0 #[.slice p0 m0.sure_.length c0, .map (some p1), .bool m0.off_, .bool m0.armed_, .int .i64 m0.left_, .int .u64 m0.fall_.Keep, .int .i64 m0.fall_.Tear, .int .i64 m0.acts_, .int .i64 m0.falls_] 68, own e_disk_sector 70 p0 c0 m0.sure_, mpo (kInt .i64) (fun x : disk_sector => Value.agg #[.string x.s_, .int .i64 x.at_]) p1 m0.wait_] (fun r H' => ∃ (pq1 : Option Addr), ∃ (cq2 : Nat), ∃ (bq4 : Nat), r = .int .i64 res.1 ∧ H' = [imm I, pt b0 #[.slice pq1 res.2.sure_.length cq2, .map (some bq4), .bool res.2.off_, .bool res.2.armed_, .int .i64 res.2.left_, .int .u64 res.2.fall_.Keep, .int .i64 res.2.fall_.Tear, .int .i64 res.2.acts_, .int .i64 res.2.falls_] 68, own e_disk_sector 70 pq1 cq2 res.2.sure_, mpo (kInt .i64) (fun x : disk_sector => Value.agg #[.string x.s_, .int .i64 x.at_]) bq4 res.2.wait_]) := by
  unfold F.disk_Disk_Crash at hF
  refine tr_of_cw (fn := Tryd.f28) Tryd.func28 rfl (Nat.le_of_ble_eq_true rfl) 14 rfl fun F0 w0 => ?_
  refine cw_keep [0, 1] (L' := [(0, .pointer (some ⟨b0, 0, none⟩)), (1, .agg #[.int .u64 x1.Keep, .int .i64 x1.Tear])]) rfl ?_
  refine cw_state (S' := SAT w0 ([imm I, pt b0 #[.slice p0 m0.sure_.length c0, .map (some p1), .bool m0.off_, .bool m0.armed_, .int .i64 m0.left_, .int .u64 m0.fall_.Keep, .int .i64 m0.fall_.Tear, .int .i64 m0.acts_, .int .i64 m0.falls_] 68, own e_disk_sector 70 p0 c0 m0.sure_, mpo (kInt .i64) (fun x : disk_sector => Value.agg #[.string x.s_, .int .i64 x.at_]) p1 m0.wait_] ++ F0)) (fun w hs => hs) ?_
  refine cw_seq ?_
  refine cw_region ?_
  refine ow_pw rfl (pw_box (cs := #[.int .u64 x1.Keep, .int .i64 x1.Tear]) rfl rfl rfl rfl rfl rfl fun b21 => nw_ow ?_)
  refine ow_vals 1 (j := 2) [0, 3] [(0, .pointer (some ⟨b0, 0, none⟩)), (3, .pointer (some ⟨b21, 0, none⟩))] rfl (by kernel_rfl) ?_
  refine ow_end rfl ?_
  refine ew_then ?_
  refine cw_seq ?_
  refine cw_seq ?_
  refine cw_region ?_
  refine ow_vals 1 (j := 1) [0, 3, 6] [(0, .pointer (some ⟨b0, 0, none⟩)), (3, .pointer (some ⟨b21, 0, none⟩)), (6, .pointer (some ⟨b0, 0, none⟩))] rfl (by kernel_rfl) ?_
  obtain ⟨r23, h24, hF⟩ := bind_some hF
  refine ow_pw rfl (pw_call (F := [pt b21 #[.int .u64 x1.Keep, .int .i64 x1.Tear] 55] ++ F0) rfl rfl rfl rfl rfl rfl rfl (by kernel_rfl) (perm_of_pulls [1, 1, 1, 1] rfl) (c_disk_Disk_why _ 0 m0 p0 c0 p1 b0 r23 h24) ?_)
  rintro _ _ ⟨rfl, rfl⟩
  refine nw_H (H' := [imm I, pt b0 #[.slice p0 m0.sure_.length c0, .map (some p1), .bool m0.off_, .bool m0.armed_, .int .i64 m0.left_, .int .u64 m0.fall_.Keep, .int .i64 m0.fall_.Tear, .int .i64 m0.acts_, .int .i64 m0.falls_] 68, own e_disk_sector 70 p0 c0 m0.sure_, mpo (kInt .i64) (fun x : disk_sector => Value.agg #[.string x.s_, .int .i64 x.at_]) p1 m0.wait_, pt b21 #[.int .u64 x1.Keep, .int .i64 x1.Tear] 55] ++ F0) rfl (nw_ow ?_)
  refine ow_vals 1 (j := 3) [0, 3, 5] [(0, .pointer (some ⟨b0, 0, none⟩)), (3, .pointer (some ⟨b21, 0, none⟩)), (5, .int .i64 r23)] rfl (by kernel_rfl) ?_
  refine ow_end rfl ?_
  refine ew_then ?_
  refine cw_seq ?_
  refine cw_region ?_
  refine ow_vals 2 (j := 2) [0, 3, 5, 9] [(0, .pointer (some ⟨b0, 0, none⟩)), (3, .pointer (some ⟨b21, 0, none⟩)), (5, .int .i64 r23), (9, .bool (r23 != 0))] rfl (by kernel_rfl) ?_
  refine ow_end rfl ?_
  refine ew_then ?_
  rcases if_some hF with ⟨h25, hF⟩ | ⟨h25, hF⟩
  · refine cw_cond_t rfl rfl h25 ?_
    refine cw_seq ?_
    refine cw_region ?_
    refine ow_vals 2 (j := 2) [4] [(4, .int .i64 r23)] rfl (by kernel_rfl) ?_
    refine ow_end rfl ?_
    refine ew_then ?_
    refine cw_ret ?_
    refine ew_then_ret ?_
    have hR := Option.some.inj hF
    subst hR
    exact fin1 (H1 := [imm I, pt b0 #[.slice p0 m0.sure_.length c0, .map (some p1), .bool m0.off_, .bool m0.armed_, .int .i64 m0.left_, .int .u64 m0.fall_.Keep, .int .i64 m0.fall_.Tear, .int .i64 m0.acts_, .int .i64 m0.falls_] 68, own e_disk_sector 70 p0 c0 m0.sure_, mpo (kInt .i64) (fun x : disk_sector => Value.agg #[.string x.s_, .int .i64 x.at_]) p1 m0.wait_]) (fun w hs => sat_to [4, 0, 0, 0, 0] 1 rfl hs) rfl (rr_tmp rfl) ⟨p0, c0, p1, rfl, rfl⟩
  · refine cw_cond_f rfl rfl h25 ?_
    refine cw_skip ?_
    refine ew_then ?_
    refine cw_seq ?_
    refine cw_region ?_
    refine ow_vals 1 (j := 1) [3, 11] [(3, .pointer (some ⟨b21, 0, none⟩)), (11, .pointer (some ⟨b0, 0, none⟩))] rfl (by kernel_rfl) ?_
    refine ow_pw rfl (pw_quiet (v := .agg #[.int .u64 x1.Keep, .int .i64 x1.Tear]) rfl rfl rfl rfl (q_load 4 rfl rfl rfl (by kernel_rfl)) (nw_ow ?_))
    obtain ⟨r26, h27, hF⟩ := bind_some hF
    refine ow_pw rfl (pw_call (F := [pt b21 #[.int .u64 x1.Keep, .int .i64 x1.Tear] 55] ++ F0) rfl rfl rfl rfl rfl rfl rfl (by kernel_rfl) (perm_of_pulls [0, 0, 0, 0] rfl) (c_disk_Disk_drop _ x1 m0 p0 c0 p1 b0 r26 h27) ?_)
    rintro _ _ ⟨r26_p1, r26_c2, r26_b4, rfl, rfl⟩
    refine nw_H (H' := [imm I, pt b0 #[.slice r26_p1 r26.sure_.length r26_c2, .map (some r26_b4), .bool r26.off_, .bool r26.armed_, .int .i64 r26.left_, .int .u64 r26.fall_.Keep, .int .i64 r26.fall_.Tear, .int .i64 r26.acts_, .int .i64 r26.falls_] 68, own e_disk_sector 70 r26_p1 r26_c2 r26.sure_, mpo (kInt .i64) (fun x : disk_sector => Value.agg #[.string x.s_, .int .i64 x.at_]) r26_b4 r26.wait_, pt b21 #[.int .u64 x1.Keep, .int .i64 x1.Tear] 55] ++ F0) rfl (nw_ow ?_)
    refine ow_end rfl ?_
    refine ew_then ?_
    refine cw_seq ?_
    refine cw_region ?_
    refine ow_vals 1 (j := 1) [4] [(4, .int .i64 0)] rfl (by kernel_rfl) ?_
    refine ow_end rfl ?_
    refine ew_then ?_
    refine cw_ret ?_
    have hR := Option.some.inj hF
    subst hR
    exact fin1 (H1 := [imm I, pt b0 #[.slice r26_p1 r26.sure_.length r26_c2, .map (some r26_b4), .bool r26.off_, .bool r26.armed_, .int .i64 r26.left_, .int .u64 r26.fall_.Keep, .int .i64 r26.fall_.Tear, .int .i64 r26.acts_, .int .i64 r26.falls_] 68, own e_disk_sector 70 r26_p1 r26_c2 r26.sure_, mpo (kInt .i64) (fun x : disk_sector => Value.agg #[.string x.s_, .int .i64 x.at_]) r26_b4 r26.wait_]) (fun w hs => sat_to [4, 0, 0, 0, 0] 1 rfl hs) rfl (rr_tmp rfl) ⟨r26_p1, r26_c2, r26_b4, rfl, rfl⟩


def F.disk_Disk_Calm (m0 : disk_Disk) : Option disk_Disk :=
  some ((⟨m0.sure_, m0.wait_, m0.off_, false, m0.left_, m0.fall_, m0.acts_, m0.falls_⟩ : disk_Disk))
set_option maxRecDepth 100000 in
set_option maxHeartbeats 4000000 in
theorem c_disk_Disk_Calm (I : Hl) (m0 : disk_Disk) (p0 : Option Addr) (c0 : Nat) (p1 : Nat) (b0 : Nat) (res : disk_Disk) (hF : F.disk_Disk_Calm m0 = some res) : Tr Tryd.prog 29 [.pointer (some ⟨b0, 0, none⟩)] [imm I, pt b0 #[.slice p0 m0.sure_.length c0, .map (some p1), .bool m0.off_, .bool m0.armed_, .int .i64 m0.left_, .int .u64 m0.fall_.Keep, .int .i64 m0.fall_.Tear, .int .i64 m0.acts_, .int .i64 m0.falls_] 68, own e_disk_sector 70 p0 c0 m0.sure_, mpo (kInt .i64) (fun x : disk_sector => Value.agg #[.string x.s_, .int .i64 x.at_]) p1 m0.wait_] (fun r H' => ∃ (pq1 : Option Addr), ∃ (cq2 : Nat), ∃ (bq4 : Nat), r = .tuple #[] ∧ H' = [imm I, pt b0 #[.slice pq1 res.sure_.length cq2, .map (some bq4), .bool res.off_, .bool res.armed_, .int .i64 res.left_, .int .u64 res.fall_.Keep, .int .i64 res.fall_.Tear, .int .i64 res.acts_, .int .i64 res.falls_] 68, own e_disk_sector 70 pq1 cq2 res.sure_, mpo (kInt .i64) (fun x : disk_sector => Value.agg #[.string x.s_, .int .i64 x.at_]) bq4 res.wait_]) := by
  unfold F.disk_Disk_Calm at hF
  refine tr_of_cw (fn := Tryd.f29) Tryd.func29 rfl (Nat.le_of_ble_eq_true rfl) 7 rfl fun F0 w0 => ?_
  refine cw_keep [0] (L' := [(0, .pointer (some ⟨b0, 0, none⟩))]) rfl ?_
  refine cw_state (S' := SAT w0 ([imm I, pt b0 #[.slice p0 m0.sure_.length c0, .map (some p1), .bool m0.off_, .bool m0.armed_, .int .i64 m0.left_, .int .u64 m0.fall_.Keep, .int .i64 m0.fall_.Tear, .int .i64 m0.acts_, .int .i64 m0.falls_] 68, own e_disk_sector 70 p0 c0 m0.sure_, mpo (kInt .i64) (fun x : disk_sector => Value.agg #[.string x.s_, .int .i64 x.at_]) p1 m0.wait_] ++ F0)) (fun w hs => hs) ?_
  refine cw_seq ?_
  refine cw_region ?_
  refine ow_vals 2 (j := 2) [0, 3] [(0, .pointer (some ⟨b0, 0, none⟩)), (3, .bool true)] rfl (by kernel_rfl) ?_
  refine ow_end rfl ?_
  refine ew_then ?_
  refine cw_cond_t rfl rfl rfl ?_
  refine cw_region ?_
  refine ow_vals 3 (j := 3) [6] [(6, .pointer (some ⟨b0, 3, none⟩))] rfl (by kernel_rfl) ?_
  refine ow_pw rfl (pw_store 1 #[.slice p0 m0.sure_.length c0, .map (some p1), .bool m0.off_, .bool false, .int .i64 m0.left_, .int .u64 m0.fall_.Keep, .int .i64 m0.fall_.Tear, .int .i64 m0.acts_, .int .i64 m0.falls_] rfl rfl rfl rfl rfl rfl rfl (by kernel_rfl) (nw_H (H' := [imm I, pt b0 #[.slice p0 m0.sure_.length c0, .map (some p1), .bool m0.off_, .bool false, .int .i64 m0.left_, .int .u64 m0.fall_.Keep, .int .i64 m0.fall_.Tear, .int .i64 m0.acts_, .int .i64 m0.falls_] 68, own e_disk_sector 70 p0 c0 m0.sure_, mpo (kInt .i64) (fun x : disk_sector => Value.agg #[.string x.s_, .int .i64 x.at_]) p1 m0.wait_] ++ F0) rfl (nw_ow ?_)))
  refine ow_end rfl ?_
  have hR := Option.some.inj hF
  subst hR
  exact fin0n (H1 := [imm I, pt b0 #[.slice p0 ((⟨m0.sure_, m0.wait_, m0.off_, false, m0.left_, m0.fall_, m0.acts_, m0.falls_⟩ : disk_Disk).sure_).length c0, .map (some p1), .bool ((⟨m0.sure_, m0.wait_, m0.off_, false, m0.left_, m0.fall_, m0.acts_, m0.falls_⟩ : disk_Disk).off_), .bool ((⟨m0.sure_, m0.wait_, m0.off_, false, m0.left_, m0.fall_, m0.acts_, m0.falls_⟩ : disk_Disk).armed_), .int .i64 ((⟨m0.sure_, m0.wait_, m0.off_, false, m0.left_, m0.fall_, m0.acts_, m0.falls_⟩ : disk_Disk).left_), .int .u64 (((⟨m0.sure_, m0.wait_, m0.off_, false, m0.left_, m0.fall_, m0.acts_, m0.falls_⟩ : disk_Disk).fall_).Keep), .int .i64 (((⟨m0.sure_, m0.wait_, m0.off_, false, m0.left_, m0.fall_, m0.acts_, m0.falls_⟩ : disk_Disk).fall_).Tear), .int .i64 ((⟨m0.sure_, m0.wait_, m0.off_, false, m0.left_, m0.fall_, m0.acts_, m0.falls_⟩ : disk_Disk).acts_), .int .i64 ((⟨m0.sure_, m0.wait_, m0.off_, false, m0.left_, m0.fall_, m0.acts_, m0.falls_⟩ : disk_Disk).falls_)] 68, own e_disk_sector 70 p0 c0 ((⟨m0.sure_, m0.wait_, m0.off_, false, m0.left_, m0.fall_, m0.acts_, m0.falls_⟩ : disk_Disk).sure_), mpo (kInt .i64) (fun x : disk_sector => Value.agg #[.string x.s_, .int .i64 x.at_]) p1 ((⟨m0.sure_, m0.wait_, m0.off_, false, m0.left_, m0.fall_, m0.acts_, m0.falls_⟩ : disk_Disk).wait_)]) (fun w hs => sat_to [0, 0, 0, 0] 0 rfl hs) rfl  ⟨p0, c0, p1, rfl, rfl⟩


def F.disk_Disk_Start (m0 : disk_Disk) : Option (Int × disk_Disk) :=
  Option.bind (F.disk_Disk_Size m0) (fun (r21 : Int) => if r21 == 0 then (some ((9, m0))) else (if !m0.off_ then (some ((25, m0))) else (some ((0, (⟨m0.sure_, m0.wait_, false, m0.armed_, m0.left_, m0.fall_, m0.acts_, m0.falls_⟩ : disk_Disk))))))
set_option maxRecDepth 100000 in
set_option maxHeartbeats 4000000 in
theorem c_disk_Disk_Start (I : Hl) (m0 : disk_Disk) (p0 : Option Addr) (c0 : Nat) (p1 : Nat) (b0 : Nat) (res : Int × disk_Disk) (hF : F.disk_Disk_Start m0 = some res) : Tr Tryd.prog 30 [.pointer (some ⟨b0, 0, none⟩)] [imm I, pt b0 #[.slice p0 m0.sure_.length c0, .map (some p1), .bool m0.off_, .bool m0.armed_, .int .i64 m0.left_, .int .u64 m0.fall_.Keep, .int .i64 m0.fall_.Tear, .int .i64 m0.acts_, .int .i64 m0.falls_] 68, own e_disk_sector 70 p0 c0 m0.sure_, mpo (kInt .i64) (fun x : disk_sector => Value.agg #[.string x.s_, .int .i64 x.at_]) p1 m0.wait_] (fun r H' => ∃ (pq1 : Option Addr), ∃ (cq2 : Nat), ∃ (bq4 : Nat), r = .int .i64 res.1 ∧ H' = [imm I, pt b0 #[.slice pq1 res.2.sure_.length cq2, .map (some bq4), .bool res.2.off_, .bool res.2.armed_, .int .i64 res.2.left_, .int .u64 res.2.fall_.Keep, .int .i64 res.2.fall_.Tear, .int .i64 res.2.acts_, .int .i64 res.2.falls_] 68, own e_disk_sector 70 pq1 cq2 res.2.sure_, mpo (kInt .i64) (fun x : disk_sector => Value.agg #[.string x.s_, .int .i64 x.at_]) bq4 res.2.wait_]) := by
  unfold F.disk_Disk_Start at hF
  refine tr_of_cw (fn := Tryd.f30) Tryd.func30 rfl (Nat.le_of_ble_eq_true rfl) 16 rfl fun F0 w0 => ?_
  refine cw_keep [0] (L' := [(0, .pointer (some ⟨b0, 0, none⟩))]) rfl ?_
  refine cw_state (S' := SAT w0 ([imm I, pt b0 #[.slice p0 m0.sure_.length c0, .map (some p1), .bool m0.off_, .bool m0.armed_, .int .i64 m0.left_, .int .u64 m0.fall_.Keep, .int .i64 m0.fall_.Tear, .int .i64 m0.acts_, .int .i64 m0.falls_] 68, own e_disk_sector 70 p0 c0 m0.sure_, mpo (kInt .i64) (fun x : disk_sector => Value.agg #[.string x.s_, .int .i64 x.at_]) p1 m0.wait_] ++ F0)) (fun w hs => hs) ?_
  refine cw_seq ?_
  refine cw_region ?_
  refine ow_vals 1 (j := 1) [0] [(0, .pointer (some ⟨b0, 0, none⟩))] rfl (by kernel_rfl) ?_
  refine ow_end rfl ?_
  refine ew_then ?_
  refine cw_seq ?_
  refine cw_block ?_
  refine cw_seq ?_
  refine cw_region ?_
  refine ow_vals 1 (j := 1) [0, 4] [(0, .pointer (some ⟨b0, 0, none⟩)), (4, .pointer (some ⟨b0, 0, none⟩))] rfl (by kernel_rfl) ?_
  obtain ⟨r21, h22, hF⟩ := bind_some hF
  refine ow_pw rfl (pw_call (F := [] ++ F0) rfl rfl rfl rfl rfl rfl rfl (by kernel_rfl) (perm_of_pulls [0, 0, 0, 0] rfl) (c_disk_Disk_Size _ m0 p0 c0 p1 b0 r21 h22) ?_)
  rintro _ _ ⟨rfl, rfl⟩
  refine nw_H (H' := [imm I, pt b0 #[.slice p0 m0.sure_.length c0, .map (some p1), .bool m0.off_, .bool m0.armed_, .int .i64 m0.left_, .int .u64 m0.fall_.Keep, .int .i64 m0.fall_.Tear, .int .i64 m0.acts_, .int .i64 m0.falls_] 68, own e_disk_sector 70 p0 c0 m0.sure_, mpo (kInt .i64) (fun x : disk_sector => Value.agg #[.string x.s_, .int .i64 x.at_]) p1 m0.wait_] ++ F0) rfl (nw_ow ?_)
  refine ow_vals 2 (j := 4) [0, 3] [(0, .pointer (some ⟨b0, 0, none⟩)), (3, .bool (r21 == 0))] rfl (by kernel_rfl) ?_
  refine ow_end rfl ?_
  refine ew_then ?_
  rcases if_some hF with ⟨h23, hF⟩ | ⟨h23, hF⟩
  · refine cw_cond_t rfl rfl h23 ?_
    refine cw_seq ?_
    refine cw_region ?_
    refine ow_vals 1 (j := 1) [2] [(2, .int .i64 9)] rfl (by kernel_rfl) ?_
    refine ow_end rfl ?_
    refine ew_then ?_
    refine cw_ret ?_
    refine ew_blk_ret ?_
    refine ew_then_ret ?_
    have hR := Option.some.inj hF
    subst hR
    exact fin1 (H1 := [imm I, pt b0 #[.slice p0 m0.sure_.length c0, .map (some p1), .bool m0.off_, .bool m0.armed_, .int .i64 m0.left_, .int .u64 m0.fall_.Keep, .int .i64 m0.fall_.Tear, .int .i64 m0.acts_, .int .i64 m0.falls_] 68, own e_disk_sector 70 p0 c0 m0.sure_, mpo (kInt .i64) (fun x : disk_sector => Value.agg #[.string x.s_, .int .i64 x.at_]) p1 m0.wait_]) (fun w hs => sat_to [0, 0, 0, 0] 0 rfl hs) rfl (rr_tmp rfl) ⟨p0, c0, p1, rfl, rfl⟩
  · refine cw_cond_f rfl rfl h23 ?_
    refine cw_seq ?_
    refine cw_region ?_
    refine ow_vals 3 (j := 3) [0, 10] [(0, .pointer (some ⟨b0, 0, none⟩)), (10, .pointer (some ⟨b0, 2, none⟩))] rfl (by kernel_rfl) ?_
    refine ow_pw rfl (pw_quiet (v := .bool m0.off_) rfl rfl rfl rfl (q_load 1 rfl rfl rfl (by kernel_rfl)) (nw_ow ?_))
    refine ow_vals 2 (j := 6) [0, 7] [(0, .pointer (some ⟨b0, 0, none⟩)), (7, .bool (!m0.off_))] rfl (by kernel_rfl) ?_
    refine ow_end rfl ?_
    refine ew_then ?_
    rcases if_some hF with ⟨h24, hF⟩ | ⟨h24, hF⟩
    · refine cw_cond_t rfl rfl h24 ?_
      refine cw_seq ?_
      refine cw_region ?_
      refine ow_vals 1 (j := 1) [2] [(2, .int .i64 25)] rfl (by kernel_rfl) ?_
      refine ow_end rfl ?_
      refine ew_then ?_
      refine cw_ret ?_
      refine ew_blk_ret ?_
      refine ew_then_ret ?_
      have hR := Option.some.inj hF
      subst hR
      exact fin1 (H1 := [imm I, pt b0 #[.slice p0 m0.sure_.length c0, .map (some p1), .bool m0.off_, .bool m0.armed_, .int .i64 m0.left_, .int .u64 m0.fall_.Keep, .int .i64 m0.fall_.Tear, .int .i64 m0.acts_, .int .i64 m0.falls_] 68, own e_disk_sector 70 p0 c0 m0.sure_, mpo (kInt .i64) (fun x : disk_sector => Value.agg #[.string x.s_, .int .i64 x.at_]) p1 m0.wait_]) (fun w hs => sat_to [0, 0, 0, 0] 0 rfl hs) rfl (rr_tmp rfl) ⟨p0, c0, p1, rfl, rfl⟩
    · refine cw_cond_f rfl rfl h24 ?_
      refine cw_skip ?_
      refine ew_blk ?_
      refine ew_then ?_
      refine cw_seq ?_
      refine cw_region ?_
      refine ow_vals 3 (j := 3) [15] [(15, .pointer (some ⟨b0, 2, none⟩))] rfl (by kernel_rfl) ?_
      refine ow_pw rfl (pw_store 1 #[.slice p0 m0.sure_.length c0, .map (some p1), .bool false, .bool m0.armed_, .int .i64 m0.left_, .int .u64 m0.fall_.Keep, .int .i64 m0.fall_.Tear, .int .i64 m0.acts_, .int .i64 m0.falls_] rfl rfl rfl rfl rfl rfl rfl (by kernel_rfl) (nw_H (H' := [imm I, pt b0 #[.slice p0 m0.sure_.length c0, .map (some p1), .bool false, .bool m0.armed_, .int .i64 m0.left_, .int .u64 m0.fall_.Keep, .int .i64 m0.fall_.Tear, .int .i64 m0.acts_, .int .i64 m0.falls_] 68, own e_disk_sector 70 p0 c0 m0.sure_, mpo (kInt .i64) (fun x : disk_sector => Value.agg #[.string x.s_, .int .i64 x.at_]) p1 m0.wait_] ++ F0) rfl (nw_ow ?_)))
      refine ow_end rfl ?_
      refine ew_then ?_
      refine cw_seq ?_
      refine cw_region ?_
      refine ow_vals 1 (j := 1) [2] [(2, .int .i64 0)] rfl (by kernel_rfl) ?_
      refine ow_end rfl ?_
      refine ew_then ?_
      refine cw_ret ?_
      have hR := Option.some.inj hF
      subst hR
      exact fin1 (H1 := [imm I, pt b0 #[.slice p0 ((⟨m0.sure_, m0.wait_, false, m0.armed_, m0.left_, m0.fall_, m0.acts_, m0.falls_⟩ : disk_Disk).sure_).length c0, .map (some p1), .bool ((⟨m0.sure_, m0.wait_, false, m0.armed_, m0.left_, m0.fall_, m0.acts_, m0.falls_⟩ : disk_Disk).off_), .bool ((⟨m0.sure_, m0.wait_, false, m0.armed_, m0.left_, m0.fall_, m0.acts_, m0.falls_⟩ : disk_Disk).armed_), .int .i64 ((⟨m0.sure_, m0.wait_, false, m0.armed_, m0.left_, m0.fall_, m0.acts_, m0.falls_⟩ : disk_Disk).left_), .int .u64 (((⟨m0.sure_, m0.wait_, false, m0.armed_, m0.left_, m0.fall_, m0.acts_, m0.falls_⟩ : disk_Disk).fall_).Keep), .int .i64 (((⟨m0.sure_, m0.wait_, false, m0.armed_, m0.left_, m0.fall_, m0.acts_, m0.falls_⟩ : disk_Disk).fall_).Tear), .int .i64 ((⟨m0.sure_, m0.wait_, false, m0.armed_, m0.left_, m0.fall_, m0.acts_, m0.falls_⟩ : disk_Disk).acts_), .int .i64 ((⟨m0.sure_, m0.wait_, false, m0.armed_, m0.left_, m0.fall_, m0.acts_, m0.falls_⟩ : disk_Disk).falls_)] 68, own e_disk_sector 70 p0 c0 ((⟨m0.sure_, m0.wait_, false, m0.armed_, m0.left_, m0.fall_, m0.acts_, m0.falls_⟩ : disk_Disk).sure_), mpo (kInt .i64) (fun x : disk_sector => Value.agg #[.string x.s_, .int .i64 x.at_]) p1 ((⟨m0.sure_, m0.wait_, false, m0.armed_, m0.left_, m0.fall_, m0.acts_, m0.falls_⟩ : disk_Disk).wait_)]) (fun w hs => sat_to [0, 0, 0, 0] 0 rfl hs) rfl (rr_tmp rfl) ⟨p0, c0, p1, rfl, rfl⟩


def F.law10_stands.r4 (r21 : ByteArray × Int × Int) (x29 : Bool) (y35 : law10_Op) (x47 : Bool) : Option (Bool × Bool × Int × Int × ByteArray) :=
  if y35.Kind == 0 then (if x29 then (some ((x47, true, y35.Kind, y35.I, y35.S))) else (some ((x47, r21.2.2 == 7, y35.Kind, y35.I, y35.S)))) else (if r21.2.2 == 0 then (if seqB r21.1 y35.S then (some ((x47, true, y35.Kind, y35.I, y35.S))) else (some ((x47, x29, y35.Kind, y35.I, y35.S)))) else (some ((x47, x29, y35.Kind, y35.I, y35.S))))
def F.law10_stands.r3 (x3 : Int) (r21 : ByteArray × Int × Int) (x28 : Bool) (x29 : Bool) (x30 : Int) (y35 : law10_Op) : Option (Bool × Bool × Int × Int × ByteArray) :=
  Option.bind (if decide ((IntKind.i64.wrap (x30 + 1)) > x3) then (some (true)) else (some (x28))) (fun x => F.law10_stands.r4 r21 x29 y35 x)
def F.law10_stands.r5 (x30 : Int) (x53 : Bool) (x54 : Bool) (x55 : Int) (x56 : Int) (s57 : ByteArray) : Option ((Bool × Bool × Int) ⊕ (Bool × Bool)) :=
  some (.inl (x53, x54, IntKind.i64.wrap (x30 + 1)))
def F.law10_stands.r2 (x1 : List law10_Op) (x2 : Int) (x3 : Int) (r21 : ByteArray × Int × Int) (x28 : Bool) (x29 : Bool) (x30 : Int) : Option ((Bool × Bool × Int) ⊕ (Bool × Bool)) :=
  Option.bind (Option.bind (at_ x1 x30) (fun (y35 : law10_Op) => thru (if y35.I != x2 then (some (.inr ((x28, x29, y35.Kind, y35.I, y35.S)))) else (if y35.Kind == 1 then (some (.inr ((x28, x29, y35.Kind, y35.I, y35.S)))) else (if decide ((IntKind.i64.wrap (x30 + 1)) < x3) then (some (.inr ((x28, x29, y35.Kind, y35.I, y35.S)))) else (some (.inl ()))))) (fun x => F.law10_stands.r3 x3 r21 x28 x29 x30 y35))) (fun x => F.law10_stands.r5 x30 x.1 x.2.1 x.2.2.1 x.2.2.2.1 x.2.2.2.2)
def F.law10_stands.l6 (x1 : List law10_Op) (x2 : Int) (x3 : Int) (r21 : ByteArray × Int × Int) (x28 : Bool) (x29 : Bool) (x30 : Int) : Option ((Bool × Bool × Int) ⊕ (Bool × Bool)) :=
  thru (if decide (x30 < (x1.length : Int)) then (if decide (x30 < 40) then (some (.inl ())) else (some (.inr (.inr ((x28, x29)))))) else (some (.inr (.inr ((x28, x29)))))) (fun x => F.law10_stands.r2 x1 x2 x3 r21 x28 x29 x30)
def F.law10_stands.r7 (r21 : ByteArray × Int × Int) (x58 : Bool) (x59 : Bool) : Option (Bool) :=
  if x59 then (some (true)) else (if r21.2.2 == 17 then (some (x58)) else (some (false)))
def F.law10_stands.r1 (x1 : List law10_Op) (x2 : Int) (x3 : Int) (r21 : ByteArray × Int × Int) (x25 : Bool) : Option (Bool) :=
  Option.bind (iter (fun x => F.law10_stands.l6 x1 x2 x3 r21 x.1 x.2.1 x.2.2) FUEL (false, x25, 0)) (fun x => F.law10_stands.r7 r21 x.1 x.2)
def F.law10_stands (x1 : List law10_Op) (x2 : Int) (x3 : Int) (m0 : disk_Disk) : Option Bool :=
  Option.bind (F.guard_Read x2 m0) (fun (r21 : ByteArray × Int × Int) => Option.bind (if x3 == 0 then (some ((r21.2.2 == 7))) else (some (false))) (fun x => F.law10_stands.r1 x1 x2 x3 r21 x))
set_option maxRecDepth 100000 in
set_option maxHeartbeats 4000000 in
theorem c_law10_stands (I : Hl) (x1 : List law10_Op) (x2 : Int) (x3 : Int) (m0 : disk_Disk) (p0 : Option Addr) (c0 : Nat) (p1 : Option Addr) (c1 : Nat) (p2 : Nat) (b0 : Nat) (res : Bool) (hF : F.law10_stands x1 x2 x3 m0 = some res) (hr0 : ro I e_law10_Op p0 c0 x1) : Tr Tryd.prog 31 [.pointer (some ⟨b0, 0, none⟩), .slice p0 x1.length c0, .int .i64 x2, .int .i64 x3] [imm I, pt b0 #[.slice p1 m0.sure_.length c1, .map (some p2), .bool m0.off_, .bool m0.armed_, .int .i64 m0.left_, .int .u64 m0.fall_.Keep, .int .i64 m0.fall_.Tear, .int .i64 m0.acts_, .int .i64 m0.falls_] 68, own e_disk_sector 70 p1 c1 m0.sure_, mpo (kInt .i64) (fun x : disk_sector => Value.agg #[.string x.s_, .int .i64 x.at_]) p2 m0.wait_] (fun r H' => r = .bool res ∧ H' = [imm I, pt b0 #[.slice p1 m0.sure_.length c1, .map (some p2), .bool m0.off_, .bool m0.armed_, .int .i64 m0.left_, .int .u64 m0.fall_.Keep, .int .i64 m0.fall_.Tear, .int .i64 m0.acts_, .int .i64 m0.falls_] 68, own e_disk_sector 70 p1 c1 m0.sure_, mpo (kInt .i64) (fun x : disk_sector => Value.agg #[.string x.s_, .int .i64 x.at_]) p2 m0.wait_]) := by
  unfold F.law10_stands at hF
  refine tr_of_cw (fn := Tryd.f31) Tryd.func31 rfl (Nat.le_of_ble_eq_true rfl) 86 rfl fun F0 w0 => ?_
  refine cw_keep [0, 1, 2, 3] (L' := [(0, .pointer (some ⟨b0, 0, none⟩)), (1, .slice p0 x1.length c0), (2, .int .i64 x2), (3, .int .i64 x3)]) rfl ?_
  refine cw_state (S' := SAT w0 ([imm I, pt b0 #[.slice p1 m0.sure_.length c1, .map (some p2), .bool m0.off_, .bool m0.armed_, .int .i64 m0.left_, .int .u64 m0.fall_.Keep, .int .i64 m0.fall_.Tear, .int .i64 m0.acts_, .int .i64 m0.falls_] 68, own e_disk_sector 70 p1 c1 m0.sure_, mpo (kInt .i64) (fun x : disk_sector => Value.agg #[.string x.s_, .int .i64 x.at_]) p2 m0.wait_] ++ F0)) (fun w hs => hs) ?_
  refine cw_seq ?_
  refine cw_region ?_
  refine ow_vals 1 (j := 1) [0, 1, 2, 3] [(0, .pointer (some ⟨b0, 0, none⟩)), (1, .slice p0 x1.length c0), (2, .int .i64 x2), (3, .int .i64 x3)] rfl (by kernel_rfl) ?_
  refine ow_end rfl ?_
  refine ew_then ?_
  refine cw_seq ?_
  refine cw_region ?_
  refine ow_vals 2 (j := 2) [1, 2, 3, 17, 18] [(1, .slice p0 x1.length c0), (2, .int .i64 x2), (3, .int .i64 x3), (17, .pointer (some ⟨b0, 0, none⟩)), (18, .int .i64 x2)] rfl (by kernel_rfl) ?_
  obtain ⟨r21, h22, hF⟩ := bind_some hF
  refine ow_pw rfl (pw_call (F := [] ++ F0) rfl rfl rfl rfl rfl rfl rfl (by kernel_rfl) (perm_of_pulls [0, 0, 0, 0] rfl) (c_guard_Read _ x2 m0 p1 c1 p2 b0 r21 h22) ?_)
  rintro _ _ ⟨rfl, rfl⟩
  refine nw_H (H' := [imm I, pt b0 #[.slice p1 m0.sure_.length c1, .map (some p2), .bool m0.off_, .bool m0.armed_, .int .i64 m0.left_, .int .u64 m0.fall_.Keep, .int .i64 m0.fall_.Tear, .int .i64 m0.acts_, .int .i64 m0.falls_] 68, own e_disk_sector 70 p1 c1 m0.sure_, mpo (kInt .i64) (fun x : disk_sector => Value.agg #[.string x.s_, .int .i64 x.at_]) p2 m0.wait_] ++ F0) rfl (nw_ow ?_)
  refine ow_vals 7 (j := 10) [1, 2, 3, 9, 11] [(1, .slice p0 x1.length c0), (2, .int .i64 x2), (3, .int .i64 x3), (9, .string r21.1), (11, .int .i64 r21.2.2)] rfl (by kernel_rfl) ?_
  refine ow_end rfl ?_
  refine ew_then ?_
  refine cw_seq ?_
  refine cw_region ?_
  refine ow_vals 1 (j := 1) [1, 2, 3, 9, 11, 12] [(1, .slice p0 x1.length c0), (2, .int .i64 x2), (3, .int .i64 x3), (9, .string r21.1), (11, .int .i64 r21.2.2), (12, .bool false)] rfl (by kernel_rfl) ?_
  refine ow_end rfl ?_
  refine ew_then ?_
  obtain ⟨v23, hF, hK23⟩ := bind_some hF
  refine cw_mid (fun a w => ∃ (x25 : Bool), x25 = v23 ∧ Fr 86 [(1, .slice p0 x1.length c0), (2, .int .i64 x2), (3, .int .i64 x3), (9, .string r21.1), (11, .int .i64 r21.2.2), (12, .bool false), (13, .bool x25)] a ∧ SAT w0 ([imm I, pt b0 #[.slice p1 m0.sure_.length c1, .map (some p2), .bool m0.off_, .bool m0.armed_, .int .i64 m0.left_, .int .u64 m0.fall_.Keep, .int .i64 m0.fall_.Tear, .int .i64 m0.acts_, .int .i64 m0.falls_] 68, own e_disk_sector 70 p1 c1 m0.sure_, mpo (kInt .i64) (fun x : disk_sector => Value.agg #[.string x.s_, .int .i64 x.at_]) p2 m0.wait_] ++ F0) w) ?_ ?_
  · refine cw_region ?_
    refine ow_vals 3 (j := 3) [1, 2, 3, 9, 11, 12, 25] [(1, .slice p0 x1.length c0), (2, .int .i64 x2), (3, .int .i64 x3), (9, .string r21.1), (11, .int .i64 r21.2.2), (12, .bool false), (25, .bool (x3 == 0))] rfl (by kernel_rfl) ?_
    rcases if_some hF with ⟨h24, hF⟩ | ⟨h24, hF⟩
    · refine ow_slots (L' := [(1, .slice p0 x1.length c0), (2, .int .i64 x2), (3, .int .i64 x3), (9, .string r21.1), (11, .int .i64 r21.2.2), (12, .bool false), (25, .bool true)]) (by rw [h24]) ?_
      refine ow_vals 4 (j := 7) [1, 2, 3, 9, 11, 12, 13] [(1, .slice p0 x1.length c0), (2, .int .i64 x2), (3, .int .i64 x3), (9, .string r21.1), (11, .int .i64 r21.2.2), (12, .bool false), (13, .bool (r21.2.2 == 7))] rfl (by kernel_rfl) ?_
      refine ow_end rfl ?_
      have hR := Option.some.inj hF
      exact fun a w hf hs => ⟨r21.2.2 == 7, hR, hf.keep [1, 2, 3, 9, 11, 12, 13], sat_to [0, 0, 0, 0] 0 rfl hs⟩
    · refine ow_slots (L' := [(1, .slice p0 x1.length c0), (2, .int .i64 x2), (3, .int .i64 x3), (9, .string r21.1), (11, .int .i64 r21.2.2), (12, .bool false), (25, .bool false)]) (by rw [h24]) ?_
      refine ow_vals 4 (j := 7) [1, 2, 3, 9, 11, 12, 13] [(1, .slice p0 x1.length c0), (2, .int .i64 x2), (3, .int .i64 x3), (9, .string r21.1), (11, .int .i64 r21.2.2), (12, .bool false), (13, .bool false)] rfl (by kernel_rfl) ?_
      refine ow_end rfl ?_
      have hR := Option.some.inj hF
      exact fun a w hf hs => ⟨false, hR, hf.keep [1, 2, 3, 9, 11, 12, 13], sat_to [0, 0, 0, 0] 0 rfl hs⟩
  · rintro a w ⟨x25, hv, hf, hs⟩
    subst hv
    replace hF := hK23
    clear hK23
    try dsimp only at hF
    revert a w
    show CW _ _ _ 86 [(1, .slice p0 x1.length c0), (2, .int .i64 x2), (3, .int .i64 x3), (9, .string r21.1), (11, .int .i64 r21.2.2), (12, .bool false), (13, .bool x25)] (SAT w0 ([imm I, pt b0 #[.slice p1 m0.sure_.length c1, .map (some p2), .bool m0.off_, .bool m0.armed_, .int .i64 m0.left_, .int .u64 m0.fall_.Keep, .int .i64 m0.fall_.Tear, .int .i64 m0.acts_, .int .i64 m0.falls_] 68, own e_disk_sector 70 p1 c1 m0.sure_, mpo (kInt .i64) (fun x : disk_sector => Value.agg #[.string x.s_, .int .i64 x.at_]) p2 m0.wait_] ++ F0))
    unfold F.law10_stands.r1 at hF
    obtain ⟨v26, hF, hK26⟩ := bind_some hF
    refine cw_mid (fun a w => ∃ (x58 : Bool), ∃ (x59 : Bool), (x58, x59) = v26 ∧ Fr 86 [(11, .int .i64 r21.2.2), (12, .bool x58), (13, .bool x59)] a ∧ SAT w0 ([imm I, pt b0 #[.slice p1 m0.sure_.length c1, .map (some p2), .bool m0.off_, .bool m0.armed_, .int .i64 m0.left_, .int .u64 m0.fall_.Keep, .int .i64 m0.fall_.Tear, .int .i64 m0.acts_, .int .i64 m0.falls_] 68, own e_disk_sector 70 p1 c1 m0.sure_, mpo (kInt .i64) (fun x : disk_sector => Value.agg #[.string x.s_, .int .i64 x.at_]) p2 m0.wait_] ++ F0) w) ?_ ?_
    · refine cw_seq ?_
      refine cw_region ?_
      refine ow_vals 1 (j := 1) [1, 2, 3, 9, 11, 12, 13, 14] [(1, .slice p0 x1.length c0), (2, .int .i64 x2), (3, .int .i64 x3), (9, .string r21.1), (11, .int .i64 r21.2.2), (12, .bool false), (13, .bool x25), (14, .int .i64 0)] rfl (by kernel_rfl) ?_
      refine ow_end rfl ?_
      refine ew_then ?_
      refine cw_block ?_
      refine fun a w hf hs => wp_rounds (fun k a w => ∃ (x28 : Bool), ∃ (x29 : Bool), ∃ (x30 : Int), iter (fun x => F.law10_stands.l6 x1 x2 x3 r21 x.1 x.2.1 x.2.2) k (x28, x29, x30) = some v26 ∧ Fr 86 [(1, .slice p0 x1.length c0), (2, .int .i64 x2), (3, .int .i64 x3), (9, .string r21.1), (11, .int .i64 r21.2.2), (12, .bool x28), (13, .bool x29), (14, .int .i64 x30)] a ∧ SAT w0 ([imm I, pt b0 #[.slice p1 m0.sure_.length c1, .map (some p2), .bool m0.off_, .bool m0.armed_, .int .i64 m0.left_, .int .u64 m0.fall_.Keep, .int .i64 m0.fall_.Tear, .int .i64 m0.acts_, .int .i64 m0.falls_] 68, own e_disk_sector 70 p1 c1 m0.sure_, mpo (kInt .i64) (fun x : disk_sector => Value.agg #[.string x.s_, .int .i64 x.at_]) p2 m0.wait_] ++ F0) w) ?_ FUEL a w ⟨false, x25, 0, hF, hf.keep [1, 2, 3, 9, 11, 12, 13, 14], sat_to [0, 0, 0, 0] 0 rfl hs⟩
      clear hf hs
      clear a w hF
      rintro k a w ⟨x28, x29, x30, hF2, hf, hs⟩
      obtain ⟨k, r27, rfl, hF, hL27⟩ := iter_some hF2
      clear hF2
      revert a w
      show CW _ _ _ 86 [(1, .slice p0 x1.length c0), (2, .int .i64 x2), (3, .int .i64 x3), (9, .string r21.1), (11, .int .i64 r21.2.2), (12, .bool x28), (13, .bool x29), (14, .int .i64 x30)] (SAT w0 ([imm I, pt b0 #[.slice p1 m0.sure_.length c1, .map (some p2), .bool m0.off_, .bool m0.armed_, .int .i64 m0.left_, .int .u64 m0.fall_.Keep, .int .i64 m0.fall_.Tear, .int .i64 m0.acts_, .int .i64 m0.falls_] 68, own e_disk_sector 70 p1 c1 m0.sure_, mpo (kInt .i64) (fun x : disk_sector => Value.agg #[.string x.s_, .int .i64 x.at_]) p2 m0.wait_] ++ F0))
      try dsimp only at hF
      unfold F.law10_stands.l6 at hF
      obtain ⟨v31, hF, hK31⟩ := thru_some hF
      refine cw_mid (fun a w => .inl () = v31 ∧ Fr 86 [(1, .slice p0 x1.length c0), (2, .int .i64 x2), (3, .int .i64 x3), (9, .string r21.1), (11, .int .i64 r21.2.2), (12, .bool x28), (13, .bool x29), (14, .int .i64 x30)] a ∧ SAT w0 ([imm I, pt b0 #[.slice p1 m0.sure_.length c1, .map (some p2), .bool m0.off_, .bool m0.armed_, .int .i64 m0.left_, .int .u64 m0.fall_.Keep, .int .i64 m0.fall_.Tear, .int .i64 m0.acts_, .int .i64 m0.falls_] 68, own e_disk_sector 70 p1 c1 m0.sure_, mpo (kInt .i64) (fun x : disk_sector => Value.agg #[.string x.s_, .int .i64 x.at_]) p2 m0.wait_] ++ F0) w) ?_ ?_
      · refine cw_seq ?_
        refine cw_region ?_
        refine ow_vals 5 (j := 5) [1, 2, 3, 9, 11, 12, 13, 14, 33] [(1, .slice p0 x1.length c0), (2, .int .i64 x2), (3, .int .i64 x3), (9, .string r21.1), (11, .int .i64 r21.2.2), (12, .bool x28), (13, .bool x29), (14, .int .i64 x30), (33, .bool (decide (x30 < (x1.length : Int))))] rfl (by kernel_rfl) ?_
        rcases if_some hF with ⟨h32, hF⟩ | ⟨h32, hF⟩
        · refine ow_slots (L' := [(1, .slice p0 x1.length c0), (2, .int .i64 x2), (3, .int .i64 x3), (9, .string r21.1), (11, .int .i64 r21.2.2), (12, .bool x28), (13, .bool x29), (14, .int .i64 x30), (33, .bool true)]) (by rw [h32]) ?_
          refine ow_vals 3 (j := 8) [1, 2, 3, 9, 11, 12, 13, 14, 36] [(1, .slice p0 x1.length c0), (2, .int .i64 x2), (3, .int .i64 x3), (9, .string r21.1), (11, .int .i64 r21.2.2), (12, .bool x28), (13, .bool x29), (14, .int .i64 x30), (36, .bool (decide (x30 < 40)))] rfl (by kernel_rfl) ?_
          refine ow_end rfl ?_
          refine ew_then ?_
          rcases if_some hF with ⟨h33, hF⟩ | ⟨h33, hF⟩
          · refine cw_cond_t rfl rfl h33 ?_
            refine cw_skip ?_
            have hR := Option.some.inj hF
            exact fun a w hf hs => ⟨hR, hf.keep [1, 2, 3, 9, 11, 12, 13, 14], sat_to [0, 0, 0, 0] 0 rfl hs⟩
          · refine cw_cond_f rfl rfl h33 ?_
            refine cw_exit ?_
            refine ew_then_exit ?_
            refine ew_then_exit ?_
            refine ew_blk_exit ?_
            have hR := Option.some.inj hF
            subst hR
            have hR := hK31
            try dsimp only [Thru] at hR
            subst hR
            have hR := hL27
            try dsimp only at hR
            exact fun a w hf hs => ⟨x28, x29, hR, hf.keep [11, 12, 13], sat_to [0, 0, 0, 0] 0 rfl hs⟩
        · refine ow_slots (L' := [(1, .slice p0 x1.length c0), (2, .int .i64 x2), (3, .int .i64 x3), (9, .string r21.1), (11, .int .i64 r21.2.2), (12, .bool x28), (13, .bool x29), (14, .int .i64 x30), (33, .bool false)]) (by rw [h32]) ?_
          refine ow_vals 3 (j := 8) [1, 2, 3, 9, 11, 12, 13, 14, 36] [(1, .slice p0 x1.length c0), (2, .int .i64 x2), (3, .int .i64 x3), (9, .string r21.1), (11, .int .i64 r21.2.2), (12, .bool x28), (13, .bool x29), (14, .int .i64 x30), (36, .bool false)] rfl (by kernel_rfl) ?_
          refine ow_end rfl ?_
          refine ew_then ?_
          refine cw_cond_f rfl rfl rfl ?_
          refine cw_exit ?_
          refine ew_then_exit ?_
          refine ew_then_exit ?_
          refine ew_blk_exit ?_
          have hR := Option.some.inj hF
          subst hR
          have hR := hK31
          try dsimp only [Thru] at hR
          subst hR
          have hR := hL27
          try dsimp only at hR
          exact fun a w hf hs => ⟨x28, x29, hR, hf.keep [11, 12, 13], sat_to [0, 0, 0, 0] 0 rfl hs⟩
      · rintro a w ⟨hv, hf, hs⟩
        subst hv
        replace hF := hK31
        clear hK31
        try dsimp only [Thru] at hF
        revert a w
        show CW _ _ _ 86 [(1, .slice p0 x1.length c0), (2, .int .i64 x2), (3, .int .i64 x3), (9, .string r21.1), (11, .int .i64 r21.2.2), (12, .bool x28), (13, .bool x29), (14, .int .i64 x30)] (SAT w0 ([imm I, pt b0 #[.slice p1 m0.sure_.length c1, .map (some p2), .bool m0.off_, .bool m0.armed_, .int .i64 m0.left_, .int .u64 m0.fall_.Keep, .int .i64 m0.fall_.Tear, .int .i64 m0.acts_, .int .i64 m0.falls_] 68, own e_disk_sector 70 p1 c1 m0.sure_, mpo (kInt .i64) (fun x : disk_sector => Value.agg #[.string x.s_, .int .i64 x.at_]) p2 m0.wait_] ++ F0))
        unfold F.law10_stands.r2 at hF
        obtain ⟨v34, hF, hK34⟩ := bind_some hF
        refine cw_mid (fun a w => ∃ (x53 : Bool), ∃ (x54 : Bool), ∃ (x55 : Int), ∃ (x56 : Int), ∃ (s57 : ByteArray), ∃ (b52 : Nat), (x53, x54, x55, x56, s57) = v34 ∧ Fr 86 [(1, .slice p0 x1.length c0), (2, .int .i64 x2), (3, .int .i64 x3), (9, .string r21.1), (11, .int .i64 r21.2.2), (12, .bool x53), (13, .bool x54), (14, .int .i64 x30)] a ∧ SAT w0 ([imm I, pt b52 #[.int .i64 x55, .int .i64 x56, .string s57] 59, pt b0 #[.slice p1 m0.sure_.length c1, .map (some p2), .bool m0.off_, .bool m0.armed_, .int .i64 m0.left_, .int .u64 m0.fall_.Keep, .int .i64 m0.fall_.Tear, .int .i64 m0.acts_, .int .i64 m0.falls_] 68, own e_disk_sector 70 p1 c1 m0.sure_, mpo (kInt .i64) (fun x : disk_sector => Value.agg #[.string x.s_, .int .i64 x.at_]) p2 m0.wait_] ++ F0) w) ?_ ?_
        · refine cw_block ?_
          refine cw_seq ?_
          refine cw_region ?_
          refine ow_vals 2 (j := 2) [1, 2, 3, 9, 11, 12, 13, 14, 39, 40] [(1, .slice p0 x1.length c0), (2, .int .i64 x2), (3, .int .i64 x3), (9, .string r21.1), (11, .int .i64 r21.2.2), (12, .bool x28), (13, .bool x29), (14, .int .i64 x30), (39, .slice p0 x1.length c0), (40, .int .i64 x30)] rfl (by kernel_rfl) ?_
          obtain ⟨y35, h36, hF⟩ := bind_some hF
          refine ow_pw rfl (pw_index_ro (E := 59) 3 hr0 rfl rfl rfl rfl rfl (by kernel_rfl) rfl rfl rfl h36 fun q37 h38 => nw_ow ?_)
          refine ow_pw rfl (pw_quiet (v := .agg #[.int .i64 y35.Kind, .int .i64 y35.I, .string y35.S]) rfl rfl rfl rfl (q_load_el0 0 rfl h38 rfl rfl (by kernel_rfl)) (nw_ow ?_))
          refine ow_pw rfl (pw_alloc (cs := #[.int .i64 0, .int .i64 0, .string (ByteArray.mk #[])]) rfl rfl rfl rfl rfl (by kernel_rfl) fun b39 => nw_ow ?_)
          refine ow_pw rfl (pw_store 0 #[.int .i64 y35.Kind, .int .i64 y35.I, .string y35.S] rfl rfl rfl rfl rfl rfl rfl (by kernel_rfl) (nw_H (H' := [pt b39 #[.int .i64 y35.Kind, .int .i64 y35.I, .string y35.S] 59, imm I, pt b0 #[.slice p1 m0.sure_.length c1, .map (some p2), .bool m0.off_, .bool m0.armed_, .int .i64 m0.left_, .int .u64 m0.fall_.Keep, .int .i64 m0.fall_.Tear, .int .i64 m0.acts_, .int .i64 m0.falls_] 68, own e_disk_sector 70 p1 c1 m0.sure_, mpo (kInt .i64) (fun x : disk_sector => Value.agg #[.string x.s_, .int .i64 x.at_]) p2 m0.wait_] ++ F0) rfl (nw_ow ?_)))
          refine ow_end rfl ?_
          refine ew_then ?_
          obtain ⟨v41, hF, hK41⟩ := thru_some hF
          refine cw_mid (fun a w => .inl () = v41 ∧ Fr 86 [(1, .slice p0 x1.length c0), (2, .int .i64 x2), (3, .int .i64 x3), (9, .string r21.1), (11, .int .i64 r21.2.2), (12, .bool x28), (13, .bool x29), (14, .int .i64 x30), (15, .pointer (some ⟨b39, 0, none⟩))] a ∧ SAT w0 ([imm I, pt b39 #[.int .i64 y35.Kind, .int .i64 y35.I, .string y35.S] 59, pt b0 #[.slice p1 m0.sure_.length c1, .map (some p2), .bool m0.off_, .bool m0.armed_, .int .i64 m0.left_, .int .u64 m0.fall_.Keep, .int .i64 m0.fall_.Tear, .int .i64 m0.acts_, .int .i64 m0.falls_] 68, own e_disk_sector 70 p1 c1 m0.sure_, mpo (kInt .i64) (fun x : disk_sector => Value.agg #[.string x.s_, .int .i64 x.at_]) p2 m0.wait_] ++ F0) w) ?_ ?_
          · refine cw_seq ?_
            refine cw_region ?_
            refine ow_vals 1 (j := 1) [1, 2, 3, 9, 11, 12, 13, 14, 15, 43] [(1, .slice p0 x1.length c0), (2, .int .i64 x2), (3, .int .i64 x3), (9, .string r21.1), (11, .int .i64 r21.2.2), (12, .bool x28), (13, .bool x29), (14, .int .i64 x30), (15, .pointer (some ⟨b39, 0, none⟩)), (43, .pointer (some ⟨b39, 1, none⟩))] rfl (by kernel_rfl) ?_
            refine ow_pw rfl (pw_quiet (v := .int .i64 y35.I) rfl rfl rfl rfl (q_load 0 rfl rfl rfl (by kernel_rfl)) (nw_ow ?_))
            refine ow_vals 3 (j := 5) [1, 2, 3, 9, 11, 12, 13, 14, 15, 47] [(1, .slice p0 x1.length c0), (2, .int .i64 x2), (3, .int .i64 x3), (9, .string r21.1), (11, .int .i64 r21.2.2), (12, .bool x28), (13, .bool x29), (14, .int .i64 x30), (15, .pointer (some ⟨b39, 0, none⟩)), (47, .bool (y35.I != x2))] rfl (by kernel_rfl) ?_
            rcases if_some hF with ⟨h42, hF⟩ | ⟨h42, hF⟩
            · refine ow_slots (L' := [(1, .slice p0 x1.length c0), (2, .int .i64 x2), (3, .int .i64 x3), (9, .string r21.1), (11, .int .i64 r21.2.2), (12, .bool x28), (13, .bool x29), (14, .int .i64 x30), (15, .pointer (some ⟨b39, 0, none⟩)), (47, .bool true)]) (by rw [h42]) ?_
              refine ow_vals 10 (j := 15) [1, 2, 3, 9, 11, 12, 13, 14, 15, 57] [(1, .slice p0 x1.length c0), (2, .int .i64 x2), (3, .int .i64 x3), (9, .string r21.1), (11, .int .i64 r21.2.2), (12, .bool x28), (13, .bool x29), (14, .int .i64 x30), (15, .pointer (some ⟨b39, 0, none⟩)), (57, .bool true)] rfl (by kernel_rfl) ?_
              refine ow_end rfl ?_
              refine ew_then ?_
              refine cw_cond_t rfl rfl rfl ?_
              refine cw_exit ?_
              refine ew_then_exit ?_
              refine ew_blk_exit ?_
              have hR := Option.some.inj hF
              subst hR
              have hR := hK41
              try dsimp only [Thru] at hR
              exact fun a w hf hs => ⟨x28, x29, y35.Kind, y35.I, y35.S, b39, hR, hf.keep [1, 2, 3, 9, 11, 12, 13, 14], sat_to [1, 0, 0, 0, 0] 0 rfl hs⟩
            · refine ow_slots (L' := [(1, .slice p0 x1.length c0), (2, .int .i64 x2), (3, .int .i64 x3), (9, .string r21.1), (11, .int .i64 r21.2.2), (12, .bool x28), (13, .bool x29), (14, .int .i64 x30), (15, .pointer (some ⟨b39, 0, none⟩)), (47, .bool false)]) (by rw [h42]) ?_
              refine ow_vals 1 (j := 6) [1, 2, 3, 9, 11, 12, 13, 14, 15, 47, 48] [(1, .slice p0 x1.length c0), (2, .int .i64 x2), (3, .int .i64 x3), (9, .string r21.1), (11, .int .i64 r21.2.2), (12, .bool x28), (13, .bool x29), (14, .int .i64 x30), (15, .pointer (some ⟨b39, 0, none⟩)), (47, .bool false), (48, .pointer (some ⟨b39, 0, none⟩))] rfl (by kernel_rfl) ?_
              refine ow_pw rfl (pw_quiet (v := .int .i64 y35.Kind) rfl rfl rfl rfl (q_load 0 rfl rfl rfl (by kernel_rfl)) (nw_ow ?_))
              refine ow_vals 3 (j := 10) [1, 2, 3, 9, 11, 12, 13, 14, 15, 52] [(1, .slice p0 x1.length c0), (2, .int .i64 x2), (3, .int .i64 x3), (9, .string r21.1), (11, .int .i64 r21.2.2), (12, .bool x28), (13, .bool x29), (14, .int .i64 x30), (15, .pointer (some ⟨b39, 0, none⟩)), (52, .bool (y35.Kind == 1))] rfl (by kernel_rfl) ?_
              rcases if_some hF with ⟨h43, hF⟩ | ⟨h43, hF⟩
              · refine ow_slots (L' := [(1, .slice p0 x1.length c0), (2, .int .i64 x2), (3, .int .i64 x3), (9, .string r21.1), (11, .int .i64 r21.2.2), (12, .bool x28), (13, .bool x29), (14, .int .i64 x30), (15, .pointer (some ⟨b39, 0, none⟩)), (52, .bool true)]) (by rw [h43]) ?_
                refine ow_vals 5 (j := 15) [1, 2, 3, 9, 11, 12, 13, 14, 15, 57] [(1, .slice p0 x1.length c0), (2, .int .i64 x2), (3, .int .i64 x3), (9, .string r21.1), (11, .int .i64 r21.2.2), (12, .bool x28), (13, .bool x29), (14, .int .i64 x30), (15, .pointer (some ⟨b39, 0, none⟩)), (57, .bool true)] rfl (by kernel_rfl) ?_
                refine ow_end rfl ?_
                refine ew_then ?_
                refine cw_cond_t rfl rfl rfl ?_
                refine cw_exit ?_
                refine ew_then_exit ?_
                refine ew_blk_exit ?_
                have hR := Option.some.inj hF
                subst hR
                have hR := hK41
                try dsimp only [Thru] at hR
                exact fun a w hf hs => ⟨x28, x29, y35.Kind, y35.I, y35.S, b39, hR, hf.keep [1, 2, 3, 9, 11, 12, 13, 14], sat_to [1, 0, 0, 0, 0] 0 rfl hs⟩
              · refine ow_slots (L' := [(1, .slice p0 x1.length c0), (2, .int .i64 x2), (3, .int .i64 x3), (9, .string r21.1), (11, .int .i64 r21.2.2), (12, .bool x28), (13, .bool x29), (14, .int .i64 x30), (15, .pointer (some ⟨b39, 0, none⟩)), (52, .bool false)]) (by rw [h43]) ?_
                refine ow_vals 5 (j := 15) [1, 2, 3, 9, 11, 12, 13, 14, 15, 57] [(1, .slice p0 x1.length c0), (2, .int .i64 x2), (3, .int .i64 x3), (9, .string r21.1), (11, .int .i64 r21.2.2), (12, .bool x28), (13, .bool x29), (14, .int .i64 x30), (15, .pointer (some ⟨b39, 0, none⟩)), (57, .bool (decide ((IntKind.i64.wrap (x30 + 1)) < x3)))] rfl (by kernel_rfl) ?_
                refine ow_end rfl ?_
                refine ew_then ?_
                rcases if_some hF with ⟨h44, hF⟩ | ⟨h44, hF⟩
                · refine cw_cond_t rfl rfl h44 ?_
                  refine cw_exit ?_
                  refine ew_then_exit ?_
                  refine ew_blk_exit ?_
                  have hR := Option.some.inj hF
                  subst hR
                  have hR := hK41
                  try dsimp only [Thru] at hR
                  exact fun a w hf hs => ⟨x28, x29, y35.Kind, y35.I, y35.S, b39, hR, hf.keep [1, 2, 3, 9, 11, 12, 13, 14], sat_to [1, 0, 0, 0, 0] 0 rfl hs⟩
                · refine cw_cond_f rfl rfl h44 ?_
                  refine cw_skip ?_
                  have hR := Option.some.inj hF
                  exact fun a w hf hs => ⟨hR, hf.keep [1, 2, 3, 9, 11, 12, 13, 14, 15], sat_to [1, 0, 0, 0, 0] 0 rfl hs⟩
          · rintro a w ⟨hv, hf, hs⟩
            subst hv
            replace hF := hK41
            clear hK41
            try dsimp only [Thru] at hF
            revert a w
            show CW _ _ _ 86 [(1, .slice p0 x1.length c0), (2, .int .i64 x2), (3, .int .i64 x3), (9, .string r21.1), (11, .int .i64 r21.2.2), (12, .bool x28), (13, .bool x29), (14, .int .i64 x30), (15, .pointer (some ⟨b39, 0, none⟩))] (SAT w0 ([imm I, pt b39 #[.int .i64 y35.Kind, .int .i64 y35.I, .string y35.S] 59, pt b0 #[.slice p1 m0.sure_.length c1, .map (some p2), .bool m0.off_, .bool m0.armed_, .int .i64 m0.left_, .int .u64 m0.fall_.Keep, .int .i64 m0.fall_.Tear, .int .i64 m0.acts_, .int .i64 m0.falls_] 68, own e_disk_sector 70 p1 c1 m0.sure_, mpo (kInt .i64) (fun x : disk_sector => Value.agg #[.string x.s_, .int .i64 x.at_]) p2 m0.wait_] ++ F0))
            unfold F.law10_stands.r3 at hF
            obtain ⟨v45, hF, hK45⟩ := bind_some hF
            refine cw_mid (fun a w => ∃ (x47 : Bool), x47 = v45 ∧ Fr 86 [(1, .slice p0 x1.length c0), (2, .int .i64 x2), (3, .int .i64 x3), (9, .string r21.1), (11, .int .i64 r21.2.2), (12, .bool x47), (13, .bool x29), (14, .int .i64 x30), (15, .pointer (some ⟨b39, 0, none⟩))] a ∧ SAT w0 ([imm I, pt b39 #[.int .i64 y35.Kind, .int .i64 y35.I, .string y35.S] 59, pt b0 #[.slice p1 m0.sure_.length c1, .map (some p2), .bool m0.off_, .bool m0.armed_, .int .i64 m0.left_, .int .u64 m0.fall_.Keep, .int .i64 m0.fall_.Tear, .int .i64 m0.acts_, .int .i64 m0.falls_] 68, own e_disk_sector 70 p1 c1 m0.sure_, mpo (kInt .i64) (fun x : disk_sector => Value.agg #[.string x.s_, .int .i64 x.at_]) p2 m0.wait_] ++ F0) w) ?_ ?_
            · refine cw_seq ?_
              refine cw_region ?_
              refine ow_vals 4 (j := 4) [1, 2, 3, 9, 11, 12, 13, 14, 15, 61] [(1, .slice p0 x1.length c0), (2, .int .i64 x2), (3, .int .i64 x3), (9, .string r21.1), (11, .int .i64 r21.2.2), (12, .bool x28), (13, .bool x29), (14, .int .i64 x30), (15, .pointer (some ⟨b39, 0, none⟩)), (61, .bool (decide ((IntKind.i64.wrap (x30 + 1)) > x3)))] rfl (by kernel_rfl) ?_
              refine ow_end rfl ?_
              refine ew_then ?_
              rcases if_some hF with ⟨h46, hF⟩ | ⟨h46, hF⟩
              · refine cw_cond_t rfl rfl h46 ?_
                refine cw_region ?_
                refine ow_vals 1 (j := 1) [1, 2, 3, 9, 11, 12, 13, 14, 15] [(1, .slice p0 x1.length c0), (2, .int .i64 x2), (3, .int .i64 x3), (9, .string r21.1), (11, .int .i64 r21.2.2), (12, .bool true), (13, .bool x29), (14, .int .i64 x30), (15, .pointer (some ⟨b39, 0, none⟩))] rfl (by kernel_rfl) ?_
                refine ow_end rfl ?_
                have hR := Option.some.inj hF
                exact fun a w hf hs => ⟨true, hR, hf.keep [1, 2, 3, 9, 11, 12, 13, 14, 15], sat_to [0, 0, 0, 0, 0] 0 rfl hs⟩
              · refine cw_cond_f rfl rfl h46 ?_
                refine cw_skip ?_
                have hR := Option.some.inj hF
                exact fun a w hf hs => ⟨x28, hR, hf.keep [1, 2, 3, 9, 11, 12, 13, 14, 15], sat_to [0, 0, 0, 0, 0] 0 rfl hs⟩
            · rintro a w ⟨x47, hv, hf, hs⟩
              subst hv
              replace hF := hK45
              clear hK45
              try dsimp only at hF
              revert a w
              show CW _ _ _ 86 [(1, .slice p0 x1.length c0), (2, .int .i64 x2), (3, .int .i64 x3), (9, .string r21.1), (11, .int .i64 r21.2.2), (12, .bool x47), (13, .bool x29), (14, .int .i64 x30), (15, .pointer (some ⟨b39, 0, none⟩))] (SAT w0 ([imm I, pt b39 #[.int .i64 y35.Kind, .int .i64 y35.I, .string y35.S] 59, pt b0 #[.slice p1 m0.sure_.length c1, .map (some p2), .bool m0.off_, .bool m0.armed_, .int .i64 m0.left_, .int .u64 m0.fall_.Keep, .int .i64 m0.fall_.Tear, .int .i64 m0.acts_, .int .i64 m0.falls_] 68, own e_disk_sector 70 p1 c1 m0.sure_, mpo (kInt .i64) (fun x : disk_sector => Value.agg #[.string x.s_, .int .i64 x.at_]) p2 m0.wait_] ++ F0))
              unfold F.law10_stands.r4 at hF
              refine cw_seq ?_
              refine cw_region ?_
              refine ow_vals 1 (j := 1) [1, 2, 3, 9, 11, 12, 13, 14, 15, 62] [(1, .slice p0 x1.length c0), (2, .int .i64 x2), (3, .int .i64 x3), (9, .string r21.1), (11, .int .i64 r21.2.2), (12, .bool x47), (13, .bool x29), (14, .int .i64 x30), (15, .pointer (some ⟨b39, 0, none⟩)), (62, .pointer (some ⟨b39, 0, none⟩))] rfl (by kernel_rfl) ?_
              refine ow_pw rfl (pw_quiet (v := .int .i64 y35.Kind) rfl rfl rfl rfl (q_load 1 rfl rfl rfl (by kernel_rfl)) (nw_ow ?_))
              refine ow_vals 1 (j := 3) [1, 2, 3, 9, 11, 12, 13, 14, 15, 64] [(1, .slice p0 x1.length c0), (2, .int .i64 x2), (3, .int .i64 x3), (9, .string r21.1), (11, .int .i64 r21.2.2), (12, .bool x47), (13, .bool x29), (14, .int .i64 x30), (15, .pointer (some ⟨b39, 0, none⟩)), (64, .bool (y35.Kind == 0))] rfl (by kernel_rfl) ?_
              refine ow_end rfl ?_
              refine ew_then ?_
              rcases if_some hF with ⟨h48, hF⟩ | ⟨h48, hF⟩
              · refine cw_cond_t rfl rfl h48 ?_
                refine cw_region ?_
                refine ow_vals 2 (j := 2) [1, 2, 3, 9, 11, 12, 14, 66] [(1, .slice p0 x1.length c0), (2, .int .i64 x2), (3, .int .i64 x3), (9, .string r21.1), (11, .int .i64 r21.2.2), (12, .bool x47), (14, .int .i64 x30), (66, .bool x29)] rfl (by kernel_rfl) ?_
                rcases if_some hF with ⟨h49, hF⟩ | ⟨h49, hF⟩
                · refine ow_slots (L' := [(1, .slice p0 x1.length c0), (2, .int .i64 x2), (3, .int .i64 x3), (9, .string r21.1), (11, .int .i64 r21.2.2), (12, .bool x47), (14, .int .i64 x30), (66, .bool true)]) (by rw [h49]) ?_
                  refine ow_vals 4 (j := 6) [1, 2, 3, 9, 11, 12, 13, 14] [(1, .slice p0 x1.length c0), (2, .int .i64 x2), (3, .int .i64 x3), (9, .string r21.1), (11, .int .i64 r21.2.2), (12, .bool x47), (13, .bool true), (14, .int .i64 x30)] rfl (by kernel_rfl) ?_
                  refine ow_end rfl ?_
                  refine ew_blk ?_
                  have hR := Option.some.inj hF
                  exact fun a w hf hs => ⟨x47, true, y35.Kind, y35.I, y35.S, b39, hR, hf.keep [1, 2, 3, 9, 11, 12, 13, 14], sat_to [0, 0, 0, 0, 0] 0 rfl hs⟩
                · refine ow_slots (L' := [(1, .slice p0 x1.length c0), (2, .int .i64 x2), (3, .int .i64 x3), (9, .string r21.1), (11, .int .i64 r21.2.2), (12, .bool x47), (14, .int .i64 x30), (66, .bool false)]) (by rw [h49]) ?_
                  refine ow_vals 4 (j := 6) [1, 2, 3, 9, 11, 12, 13, 14] [(1, .slice p0 x1.length c0), (2, .int .i64 x2), (3, .int .i64 x3), (9, .string r21.1), (11, .int .i64 r21.2.2), (12, .bool x47), (13, .bool (r21.2.2 == 7)), (14, .int .i64 x30)] rfl (by kernel_rfl) ?_
                  refine ow_end rfl ?_
                  refine ew_blk ?_
                  have hR := Option.some.inj hF
                  exact fun a w hf hs => ⟨x47, r21.2.2 == 7, y35.Kind, y35.I, y35.S, b39, hR, hf.keep [1, 2, 3, 9, 11, 12, 13, 14], sat_to [0, 0, 0, 0, 0] 0 rfl hs⟩
              · refine cw_cond_f rfl rfl h48 ?_
                refine cw_seq ?_
                refine cw_region ?_
                refine ow_vals 3 (j := 3) [1, 2, 3, 9, 11, 12, 13, 14, 15, 72] [(1, .slice p0 x1.length c0), (2, .int .i64 x2), (3, .int .i64 x3), (9, .string r21.1), (11, .int .i64 r21.2.2), (12, .bool x47), (13, .bool x29), (14, .int .i64 x30), (15, .pointer (some ⟨b39, 0, none⟩)), (72, .bool (r21.2.2 == 0))] rfl (by kernel_rfl) ?_
                rcases if_some hF with ⟨h50, hF⟩ | ⟨h50, hF⟩
                · refine ow_slots (L' := [(1, .slice p0 x1.length c0), (2, .int .i64 x2), (3, .int .i64 x3), (9, .string r21.1), (11, .int .i64 r21.2.2), (12, .bool x47), (13, .bool x29), (14, .int .i64 x30), (15, .pointer (some ⟨b39, 0, none⟩)), (72, .bool true)]) (by rw [h50]) ?_
                  refine ow_vals 2 (j := 5) [1, 2, 3, 9, 11, 12, 13, 14, 72, 73, 74] [(1, .slice p0 x1.length c0), (2, .int .i64 x2), (3, .int .i64 x3), (9, .string r21.1), (11, .int .i64 r21.2.2), (12, .bool x47), (13, .bool x29), (14, .int .i64 x30), (72, .bool true), (73, .string r21.1), (74, .pointer (some ⟨b39, 2, none⟩))] rfl (by kernel_rfl) ?_
                  refine ow_pw rfl (pw_quiet (v := .string y35.S) rfl rfl rfl rfl (q_load 1 rfl rfl rfl (by kernel_rfl)) (nw_ow ?_))
                  refine ow_vals 2 (j := 8) [1, 2, 3, 9, 11, 12, 13, 14, 77] [(1, .slice p0 x1.length c0), (2, .int .i64 x2), (3, .int .i64 x3), (9, .string r21.1), (11, .int .i64 r21.2.2), (12, .bool x47), (13, .bool x29), (14, .int .i64 x30), (77, .bool (seqB r21.1 y35.S))] rfl (by kernel_rfl) ?_
                  refine ow_end rfl ?_
                  refine ew_then ?_
                  rcases if_some hF with ⟨h51, hF⟩ | ⟨h51, hF⟩
                  · refine cw_cond_t rfl rfl h51 ?_
                    refine cw_region ?_
                    refine ow_vals 1 (j := 1) [1, 2, 3, 9, 11, 12, 13, 14] [(1, .slice p0 x1.length c0), (2, .int .i64 x2), (3, .int .i64 x3), (9, .string r21.1), (11, .int .i64 r21.2.2), (12, .bool x47), (13, .bool true), (14, .int .i64 x30)] rfl (by kernel_rfl) ?_
                    refine ow_end rfl ?_
                    refine ew_blk ?_
                    have hR := Option.some.inj hF
                    exact fun a w hf hs => ⟨x47, true, y35.Kind, y35.I, y35.S, b39, hR, hf.keep [1, 2, 3, 9, 11, 12, 13, 14], sat_to [0, 0, 0, 0, 0] 0 rfl hs⟩
                  · refine cw_cond_f rfl rfl h51 ?_
                    refine cw_skip ?_
                    refine ew_blk ?_
                    have hR := Option.some.inj hF
                    exact fun a w hf hs => ⟨x47, x29, y35.Kind, y35.I, y35.S, b39, hR, hf.keep [1, 2, 3, 9, 11, 12, 13, 14], sat_to [0, 0, 0, 0, 0] 0 rfl hs⟩
                · refine ow_slots (L' := [(1, .slice p0 x1.length c0), (2, .int .i64 x2), (3, .int .i64 x3), (9, .string r21.1), (11, .int .i64 r21.2.2), (12, .bool x47), (13, .bool x29), (14, .int .i64 x30), (15, .pointer (some ⟨b39, 0, none⟩)), (72, .bool false)]) (by rw [h50]) ?_
                  refine ow_vals 5 (j := 8) [1, 2, 3, 9, 11, 12, 13, 14, 77] [(1, .slice p0 x1.length c0), (2, .int .i64 x2), (3, .int .i64 x3), (9, .string r21.1), (11, .int .i64 r21.2.2), (12, .bool x47), (13, .bool x29), (14, .int .i64 x30), (77, .bool false)] rfl (by kernel_rfl) ?_
                  refine ow_end rfl ?_
                  refine ew_then ?_
                  refine cw_cond_f rfl rfl rfl ?_
                  refine cw_skip ?_
                  refine ew_blk ?_
                  have hR := Option.some.inj hF
                  exact fun a w hf hs => ⟨x47, x29, y35.Kind, y35.I, y35.S, b39, hR, hf.keep [1, 2, 3, 9, 11, 12, 13, 14], sat_to [0, 0, 0, 0, 0] 0 rfl hs⟩
        · rintro a w ⟨x53, x54, x55, x56, s57, b52, hv, hf, hs⟩
          subst hv
          replace hF := hK34
          clear hK34
          try dsimp only at hF
          revert a w
          show CW _ _ _ 86 [(1, .slice p0 x1.length c0), (2, .int .i64 x2), (3, .int .i64 x3), (9, .string r21.1), (11, .int .i64 r21.2.2), (12, .bool x53), (13, .bool x54), (14, .int .i64 x30)] (SAT w0 ([imm I, pt b52 #[.int .i64 x55, .int .i64 x56, .string s57] 59, pt b0 #[.slice p1 m0.sure_.length c1, .map (some p2), .bool m0.off_, .bool m0.armed_, .int .i64 m0.left_, .int .u64 m0.fall_.Keep, .int .i64 m0.fall_.Tear, .int .i64 m0.acts_, .int .i64 m0.falls_] 68, own e_disk_sector 70 p1 c1 m0.sure_, mpo (kInt .i64) (fun x : disk_sector => Value.agg #[.string x.s_, .int .i64 x.at_]) p2 m0.wait_] ++ F0))
          unfold F.law10_stands.r5 at hF
          refine cw_region ?_
          refine ow_vals 3 (j := 3) [1, 2, 3, 9, 11, 12, 13, 14] [(1, .slice p0 x1.length c0), (2, .int .i64 x2), (3, .int .i64 x3), (9, .string r21.1), (11, .int .i64 r21.2.2), (12, .bool x53), (13, .bool x54), (14, .int .i64 (IntKind.i64.wrap (x30 + 1)))] rfl (by kernel_rfl) ?_
          refine ow_end rfl ?_
          have hR := Option.some.inj hF
          subst hR
          have hR := hL27
          try dsimp only at hR
          exact fun a w hf hs => ⟨k, Nat.lt_succ_self k, x53, x54, IntKind.i64.wrap (x30 + 1), hR, hf.keep [1, 2, 3, 9, 11, 12, 13, 14], sat_to [1, 0, 0, 0, 0] 1 rfl hs⟩
    · rintro a w ⟨x58, x59, hv, hf, hs⟩
      subst hv
      replace hF := hK26
      clear hK26
      try dsimp only at hF
      revert a w
      show CW _ _ _ 86 [(11, .int .i64 r21.2.2), (12, .bool x58), (13, .bool x59)] (SAT w0 ([imm I, pt b0 #[.slice p1 m0.sure_.length c1, .map (some p2), .bool m0.off_, .bool m0.armed_, .int .i64 m0.left_, .int .u64 m0.fall_.Keep, .int .i64 m0.fall_.Tear, .int .i64 m0.acts_, .int .i64 m0.falls_] 68, own e_disk_sector 70 p1 c1 m0.sure_, mpo (kInt .i64) (fun x : disk_sector => Value.agg #[.string x.s_, .int .i64 x.at_]) p2 m0.wait_] ++ F0))
      unfold F.law10_stands.r7 at hF
      refine cw_seq ?_
      refine cw_region ?_
      refine ow_vals 2 (j := 2) [11, 12, 79] [(11, .int .i64 r21.2.2), (12, .bool x58), (79, .bool x59)] rfl (by kernel_rfl) ?_
      rcases if_some hF with ⟨h60, hF⟩ | ⟨h60, hF⟩
      · refine ow_slots (L' := [(11, .int .i64 r21.2.2), (12, .bool x58), (79, .bool true)]) (by rw [h60]) ?_
        refine ow_vals 7 (j := 9) [8] [(8, .bool true)] rfl (by kernel_rfl) ?_
        refine ow_end rfl ?_
        refine ew_then ?_
        refine cw_ret ?_
        have hR := Option.some.inj hF
        subst hR
        exact fin1 (H1 := [imm I, pt b0 #[.slice p1 m0.sure_.length c1, .map (some p2), .bool m0.off_, .bool m0.armed_, .int .i64 m0.left_, .int .u64 m0.fall_.Keep, .int .i64 m0.fall_.Tear, .int .i64 m0.acts_, .int .i64 m0.falls_] 68, own e_disk_sector 70 p1 c1 m0.sure_, mpo (kInt .i64) (fun x : disk_sector => Value.agg #[.string x.s_, .int .i64 x.at_]) p2 m0.wait_]) (fun w hs => sat_to [0, 0, 0, 0] 0 rfl hs) rfl (rr_tmp rfl) ⟨rfl, rfl⟩
      · refine ow_slots (L' := [(11, .int .i64 r21.2.2), (12, .bool x58), (79, .bool false)]) (by rw [h60]) ?_
        refine ow_vals 3 (j := 5) [12, 79, 82] [(12, .bool x58), (79, .bool false), (82, .bool (r21.2.2 == 17))] rfl (by kernel_rfl) ?_
        rcases if_some hF with ⟨h61, hF⟩ | ⟨h61, hF⟩
        · refine ow_slots (L' := [(12, .bool x58), (79, .bool false), (82, .bool true)]) (by rw [h61]) ?_
          refine ow_vals 4 (j := 9) [8] [(8, .bool x58)] rfl (by kernel_rfl) ?_
          refine ow_end rfl ?_
          refine ew_then ?_
          refine cw_ret ?_
          have hR := Option.some.inj hF
          subst hR
          exact fin1 (H1 := [imm I, pt b0 #[.slice p1 m0.sure_.length c1, .map (some p2), .bool m0.off_, .bool m0.armed_, .int .i64 m0.left_, .int .u64 m0.fall_.Keep, .int .i64 m0.fall_.Tear, .int .i64 m0.acts_, .int .i64 m0.falls_] 68, own e_disk_sector 70 p1 c1 m0.sure_, mpo (kInt .i64) (fun x : disk_sector => Value.agg #[.string x.s_, .int .i64 x.at_]) p2 m0.wait_]) (fun w hs => sat_to [0, 0, 0, 0] 0 rfl hs) rfl (rr_tmp rfl) ⟨rfl, rfl⟩
        · refine ow_slots (L' := [(12, .bool x58), (79, .bool false), (82, .bool false)]) (by rw [h61]) ?_
          refine ow_vals 4 (j := 9) [8] [(8, .bool false)] rfl (by kernel_rfl) ?_
          refine ow_end rfl ?_
          refine ew_then ?_
          refine cw_ret ?_
          have hR := Option.some.inj hF
          subst hR
          exact fin1 (H1 := [imm I, pt b0 #[.slice p1 m0.sure_.length c1, .map (some p2), .bool m0.off_, .bool m0.armed_, .int .i64 m0.left_, .int .u64 m0.fall_.Keep, .int .i64 m0.fall_.Tear, .int .i64 m0.acts_, .int .i64 m0.falls_] 68, own e_disk_sector 70 p1 c1 m0.sure_, mpo (kInt .i64) (fun x : disk_sector => Value.agg #[.string x.s_, .int .i64 x.at_]) p2 m0.wait_]) (fun w hs => sat_to [0, 0, 0, 0] 0 rfl hs) rfl (rr_tmp rfl) ⟨rfl, rfl⟩


def F.law10_GuardWhole.r1 : Option (Bool) :=
  some (false)
def F.law10_GuardWhole.r2 : Option (Bool) :=
  Option.bind (F.law10_awake) (fun (r36 : Bool) => some (r36))
def F.law10_GuardWhole.r3 (x41 : Bool) : Option ((Unit) ⊕ (Bool)) :=
  if x41 then (Option.bind (F.law10_awake) (fun (r43 : Bool) => some (.inr (r43)))) else (some (.inl ()))
def F.law10_GuardWhole.r5 (x0 : List law10_Op) (x53 : Int) (x54 : Int) (l55 : List disk_sector) (l59 : List (Int × disk_sector)) (x62 : Bool) (x63 : Bool) (x64 : Int) (x65 : Int) (x66 : Int) (x67 : Int) (x68 : Int) (x69 : Int) (x70 : Int) : Option ((Int × Int × (List disk_sector) × (List (Int × disk_sector)) × Bool × Bool × Int × Int × Int × Int × Int × Int × Int) ⊕ (Int × (List disk_sector) × (List (Int × disk_sector)) × Bool × Bool × Int × Int × Int × Int × Int × Int × Int)) :=
  Option.bind (at_ x0 x54) (fun (y77 : law10_Op) => if y77.Kind == 1 then (Option.bind (F.guard_Guard_Flush_1 (⟨x69, x70⟩ : guard_Guard) (⟨l55, l59, x62, x63, x64, (⟨x65, x66⟩ : disk_Fall), x67, x68⟩ : disk_Disk)) (fun (r84 : Int × disk_Disk) => if r84.1 == 0 then (some (.inl (IntKind.i64.wrap (x54 + 1), IntKind.i64.wrap (x54 + 1), r84.2.sure_, r84.2.wait_, r84.2.off_, r84.2.armed_, r84.2.left_, r84.2.fall_.Keep, r84.2.fall_.Tear, r84.2.acts_, r84.2.falls_, (⟨x69, x70⟩ : guard_Guard).boot_, (⟨x69, x70⟩ : guard_Guard).n_))) else (some (.inl (x53, IntKind.i64.wrap (x54 + 1), r84.2.sure_, r84.2.wait_, r84.2.off_, r84.2.armed_, r84.2.left_, r84.2.fall_.Keep, r84.2.fall_.Tear, r84.2.acts_, r84.2.falls_, (⟨x69, x70⟩ : guard_Guard).boot_, (⟨x69, x70⟩ : guard_Guard).n_))))) else (if y77.Kind == 0 then (Option.bind (F.guard_Guard_Erase_1 y77.I (⟨x69, x70⟩ : guard_Guard) (⟨l55, l59, x62, x63, x64, (⟨x65, x66⟩ : disk_Fall), x67, x68⟩ : disk_Disk)) (fun (r90 : Int × disk_Disk) => some (.inl (x53, IntKind.i64.wrap (x54 + 1), r90.2.sure_, r90.2.wait_, r90.2.off_, r90.2.armed_, r90.2.left_, r90.2.fall_.Keep, r90.2.fall_.Tear, r90.2.acts_, r90.2.falls_, (⟨x69, x70⟩ : guard_Guard).boot_, (⟨x69, x70⟩ : guard_Guard).n_)))) else (Option.bind (F.guard_Guard_Put y77.I y77.S (⟨x69, x70⟩ : guard_Guard) (⟨l55, l59, x62, x63, x64, (⟨x65, x66⟩ : disk_Fall), x67, x68⟩ : disk_Disk)) (fun (r94 : Int × Int × guard_Guard × disk_Disk) => some (.inl (x53, IntKind.i64.wrap (x54 + 1), r94.2.2.2.sure_, r94.2.2.2.wait_, r94.2.2.2.off_, r94.2.2.2.armed_, r94.2.2.2.left_, r94.2.2.2.fall_.Keep, r94.2.2.2.fall_.Tear, r94.2.2.2.acts_, r94.2.2.2.falls_, r94.2.2.1.boot_, r94.2.2.1.n_))))))
def F.law10_GuardWhole.l6 (x0 : List law10_Op) (x53 : Int) (x54 : Int) (l55 : List disk_sector) (l59 : List (Int × disk_sector)) (x62 : Bool) (x63 : Bool) (x64 : Int) (x65 : Int) (x66 : Int) (x67 : Int) (x68 : Int) (x69 : Int) (x70 : Int) : Option ((Int × Int × (List disk_sector) × (List (Int × disk_sector)) × Bool × Bool × Int × Int × Int × Int × Int × Int × Int) ⊕ (Int × (List disk_sector) × (List (Int × disk_sector)) × Bool × Bool × Int × Int × Int × Int × Int × Int × Int)) :=
  thru (if decide (x54 < (x0.length : Int)) then (if decide (x54 < 40) then (Option.bind (F.disk_Disk_Up (⟨l55, l59, x62, x63, x64, (⟨x65, x66⟩ : disk_Fall), x67, x68⟩ : disk_Disk)) (fun (r74 : Bool) => if r74 then (some (.inl ())) else (some (.inr (.inr ((x53, (⟨l55, l59, x62, x63, x64, (⟨x65, x66⟩ : disk_Fall), x67, x68⟩ : disk_Disk).sure_, (⟨l55, l59, x62, x63, x64, (⟨x65, x66⟩ : disk_Fall), x67, x68⟩ : disk_Disk).wait_, (⟨l55, l59, x62, x63, x64, (⟨x65, x66⟩ : disk_Fall), x67, x68⟩ : disk_Disk).off_, (⟨l55, l59, x62, x63, x64, (⟨x65, x66⟩ : disk_Fall), x67, x68⟩ : disk_Disk).armed_, (⟨l55, l59, x62, x63, x64, (⟨x65, x66⟩ : disk_Fall), x67, x68⟩ : disk_Disk).left_, (⟨l55, l59, x62, x63, x64, (⟨x65, x66⟩ : disk_Fall), x67, x68⟩ : disk_Disk).fall_.Keep, (⟨l55, l59, x62, x63, x64, (⟨x65, x66⟩ : disk_Fall), x67, x68⟩ : disk_Disk).fall_.Tear, (⟨l55, l59, x62, x63, x64, (⟨x65, x66⟩ : disk_Fall), x67, x68⟩ : disk_Disk).acts_, (⟨l55, l59, x62, x63, x64, (⟨x65, x66⟩ : disk_Fall), x67, x68⟩ : disk_Disk).falls_, x69, x70))))))) else (some (.inr (.inr ((x53, l55, l59, x62, x63, x64, x65, x66, x67, x68, x69, x70)))))) else (some (.inr (.inr ((x53, l55, l59, x62, x63, x64, x65, x66, x67, x68, x69, x70)))))) (fun x => F.law10_GuardWhole.r5 x0 x53 x54 l55 l59 x62 x63 x64 x65 x66 x67 x68 x69 x70)
def F.law10_GuardWhole.r8 (x130 : Int) (x137 : Int) (l138 : List Int) (x161 : Bool) : Option ((Int × (List Int)) ⊕ ((List Int))) :=
  if x161 then (Option.bind (at_ l138 x130) (fun (y163 : Int) => some (.inl (IntKind.i64.wrap (x137 + 1), l138.set x130.toNat (IntKind.i64.wrap (x137 + 1)))))) else (some (.inl (IntKind.i64.wrap (x137 + 1), l138)))
def F.law10_GuardWhole.l9 (x0 : List law10_Op) (x98 : Int) (x130 : Int) (x137 : Int) (l138 : List Int) : Option ((Int × (List Int)) ⊕ ((List Int))) :=
  if decide (x137 < x98) then (Option.bind (Option.bind (at_ x0 x137) (fun (y142 : law10_Op) => if y142.I == x130 then (Option.bind (at_ x0 x137) (fun (y147 : law10_Op) => if y147.Kind != 1 then (Option.bind (at_ x0 x137) (fun (y152 : law10_Op) => if y152.Kind == 0 then (some (true)) else (Option.bind (at_ x0 x137) (fun (y157 : law10_Op) => some ((decide ((y157.S.size : Int) ≤ 47))))))) else (some (false)))) else (some (false)))) (fun x => F.law10_GuardWhole.r8 x130 x137 l138 x)) else (some (.inr (l138)))
def F.law10_GuardWhole.r10 (x0 : List law10_Op) (r123 : Int × disk_Disk) (x130 : Int) (l165 : List Int) : Option (((List Int)) ⊕ ((Int × (List Int)) ⊕ (((List Int)) ⊕ (Bool)))) :=
  Option.bind (at_ l165 x130) (fun (y167 : Int) => Option.bind (F.law10_stands x0 x130 y167 r123.2) (fun (r169 : Bool) => if !r169 then (some (.inr (.inr (.inr (false))))) else (some (.inl l165))))
def F.law10_GuardWhole.r11 (x130 : Int) (l172 : List Int) : Option ((Int × (List Int)) ⊕ (((List Int)) ⊕ (Bool))) :=
  some (.inl (IntKind.i64.wrap (x130 + 1), l172))
def F.law10_GuardWhole.l12 (x0 : List law10_Op) (x98 : Int) (r123 : Int × disk_Disk) (x130 : Int) (l131 : List Int) : Option ((Int × (List Int)) ⊕ (((List Int)) ⊕ (Bool))) :=
  if decide (x130 < 10) then (thru (Option.bind (iter (fun x => F.law10_GuardWhole.l9 x0 x98 x130 x.1 x.2) FUEL (0, l131)) (fun x => F.law10_GuardWhole.r10 x0 r123 x130 x)) (fun x => F.law10_GuardWhole.r11 x130 x)) else (some (.inr (.inl l131)))
def F.law10_GuardWhole.r13 (l174 : List Int) : Option (Bool) :=
  Option.bind (F.law10_awake) (fun (r176 : Bool) => some (r176))
def F.law10_GuardWhole.r7 (x0 : List law10_Op) (x2 : disk_Fall) (x98 : Int) (l99 : List disk_sector) (l103 : List (Int × disk_sector)) (x106 : Bool) (x107 : Bool) (x108 : Int) (x109 : Int) (x110 : Int) (x111 : Int) (x112 : Int) (x113 : Int) (x114 : Int) : Option (Bool) :=
  Option.bind (F.disk_Disk_Crash x2 (⟨l99, l103, x106, x107, x108, (⟨x109, x110⟩ : disk_Fall), x111, x112⟩ : disk_Disk)) (fun (r115 : Int × disk_Disk) => Option.bind (F.disk_Disk_Calm r115.2) (fun (r119 : disk_Disk) => Option.bind (F.disk_Disk_Start r119) (fun (r123 : Int × disk_Disk) => if r123.1 != 0 then (some (false)) else (thru (iter (fun x => F.law10_GuardWhole.l12 x0 x98 r123 x.1 x.2) FUEL (0, ([0, 0, 0, 0, 0, 0, 0, 0, 0, 0] : List Int))) (fun x => F.law10_GuardWhole.r13 x)))))
def F.law10_GuardWhole.r4 (x0 : List law10_Op) (x1 : Int) (x2 : disk_Fall) (r23_s1 : disk_Disk) (r23_s9 : guard_Guard) : Option (Bool) :=
  Option.bind (F.disk_Disk_Arm x1 x2 r23_s1) (fun (r45 : Int × disk_Disk) => Option.bind (iter (fun x => F.law10_GuardWhole.l6 x0 x.1 x.2.1 x.2.2.1 x.2.2.2.1 x.2.2.2.2.1 x.2.2.2.2.2.1 x.2.2.2.2.2.2.1 x.2.2.2.2.2.2.2.1 x.2.2.2.2.2.2.2.2.1 x.2.2.2.2.2.2.2.2.2.1 x.2.2.2.2.2.2.2.2.2.2.1 x.2.2.2.2.2.2.2.2.2.2.2.1 x.2.2.2.2.2.2.2.2.2.2.2.2) FUEL (0, 0, r45.2.sure_, r45.2.wait_, r45.2.off_, r45.2.armed_, r45.2.left_, r45.2.fall_.Keep, r45.2.fall_.Tear, r45.2.acts_, r45.2.falls_, r23_s9.boot_, r23_s9.n_)) (fun x => F.law10_GuardWhole.r7 x0 x2 x.1 x.2.1 x.2.2.1 x.2.2.2.1 x.2.2.2.2.1 x.2.2.2.2.2.1 x.2.2.2.2.2.2.1 x.2.2.2.2.2.2.2.1 x.2.2.2.2.2.2.2.2.1 x.2.2.2.2.2.2.2.2.2.1 x.2.2.2.2.2.2.2.2.2.2.1 x.2.2.2.2.2.2.2.2.2.2.2))
def F.law10_GuardWhole (x0 : List law10_Op) (x1 : Int) (x2 : disk_Fall) : Option Bool :=
  Option.bind (F.law10_made 1) (fun (r23 : (Option disk_Disk) × (Option guard_Guard)) => optC r23.1 (optC r23.2 (Option.bind (some (())) (fun x => F.law10_GuardWhole.r1)) (fun _ => none)) (fun (r23_s1 : disk_Disk) => optC r23.2 (Option.bind (some (())) (fun x => F.law10_GuardWhole.r2)) (fun (r23_s9 : guard_Guard) => thru (Option.bind (if decide (x1 < 0) then (some (true)) else (some ((decide (x1 > 100))))) (fun x => F.law10_GuardWhole.r3 x)) (fun x => F.law10_GuardWhole.r4 x0 x1 x2 r23_s1 r23_s9))))
set_option maxRecDepth 100000 in
set_option maxHeartbeats 4000000 in
theorem c_law10_GuardWhole (I : Hl) (x0 : List law10_Op) (x1 : Int) (x2 : disk_Fall) (p0 : Option Addr) (c0 : Nat) (res : Bool) (hF : F.law10_GuardWhole x0 x1 x2 = some res) (hr0 : ro I e_law10_Op p0 c0 x0) : Tr Tryd.prog 7 [.slice p0 x0.length c0, .int .i64 x1, .agg #[.int .u64 x2.Keep, .int .i64 x2.Tear]] [imm I] (fun r H' => r = .bool res ∧ H' = [imm I]) := by
  unfold F.law10_GuardWhole at hF
  refine tr_of_cw (fn := Tryd.f7) Tryd.func7 rfl (Nat.le_of_ble_eq_true rfl) 144 rfl fun F0 w0 => ?_
  refine cw_keep [0, 1, 2] (L' := [(0, .slice p0 x0.length c0), (1, .int .i64 x1), (2, .agg #[.int .u64 x2.Keep, .int .i64 x2.Tear])]) rfl ?_
  refine cw_state (S' := SAT w0 ([imm I] ++ F0)) (fun w hs => hs) ?_
  refine cw_seq ?_
  refine cw_region ?_
  refine ow_pw rfl (pw_box (cs := #[.int .u64 x2.Keep, .int .i64 x2.Tear]) rfl rfl rfl rfl rfl rfl fun b21 => nw_ow ?_)
  refine ow_vals 1 (j := 2) [0, 1, 5] [(0, .slice p0 x0.length c0), (1, .int .i64 x1), (5, .pointer (some ⟨b21, 0, none⟩))] rfl (by kernel_rfl) ?_
  refine ow_end rfl ?_
  refine ew_then ?_
  refine cw_seq ?_
  refine cw_region ?_
  obtain ⟨r23, h24, hF⟩ := bind_some hF
  refine ow_pw rfl (pw_call (F := [pt b21 #[.int .u64 x2.Keep, .int .i64 x2.Tear] 55] ++ F0) rfl rfl rfl rfl rfl rfl rfl (by kernel_rfl) (perm_of_pulls [1] rfl) (c_law10_made _ 1 r23 h24) ?_)
  rintro _ _ (⟨hO, hO1, rfl, rfl⟩ | ⟨r23_s1, r23_b2, r23_p4, r23_c5, r23_b7, hO, hO1, rfl, rfl⟩ | ⟨r23_s1, r23_b2, r23_p4, r23_c5, r23_b7, r23_s9, r23_b10, hO, hO1, rfl, rfl⟩)
  · rw [hO] at hF
    try dsimp only [optC] at hF
    rw [hO1] at hF
    try dsimp only [optC] at hF
    refine nw_H (H' := [imm I, pt b21 #[.int .u64 x2.Keep, .int .i64 x2.Tear] 55] ++ F0) rfl (nw_ow ?_)
    refine ow_vals 5 (j := 6) [0, 1, 5, 7, 8] [(0, .slice p0 x0.length c0), (1, .int .i64 x1), (5, .pointer (some ⟨b21, 0, none⟩)), (7, .pointer none), (8, .pointer none)] rfl (by kernel_rfl) ?_
    refine ow_end rfl ?_
    refine ew_then ?_
    refine cw_seq ?_
    obtain ⟨v33, hF, hK33⟩ := bind_some hF
    refine cw_mid (fun a w => () = v33 ∧ Fr 144 [(0, .slice p0 x0.length c0), (1, .int .i64 x1), (5, .pointer (some ⟨b21, 0, none⟩)), (7, .pointer none), (8, .pointer none), (32, .bool true)] a ∧ SAT w0 ([imm I, pt b21 #[.int .u64 x2.Keep, .int .i64 x2.Tear] 55] ++ F0) w) ?_ ?_
    · refine cw_region ?_
      refine ow_vals 14 (j := 14) [0, 1, 5, 7, 8, 32] [(0, .slice p0 x0.length c0), (1, .int .i64 x1), (5, .pointer (some ⟨b21, 0, none⟩)), (7, .pointer none), (8, .pointer none), (32, .bool true)] rfl (by kernel_rfl) ?_
      refine ow_end rfl ?_
      have hR := Option.some.inj hF
      exact fun a w hf hs => ⟨hR, hf.keep [0, 1, 5, 7, 8, 32], sat_to [0, 0] 0 rfl hs⟩
    · rintro a w ⟨hv, hf, hs⟩
      subst hv
      replace hF := hK33
      clear hK33
      try dsimp only at hF
      revert a w
      show CW _ _ _ 144 [(0, .slice p0 x0.length c0), (1, .int .i64 x1), (5, .pointer (some ⟨b21, 0, none⟩)), (7, .pointer none), (8, .pointer none), (32, .bool true)] (SAT w0 ([imm I, pt b21 #[.int .u64 x2.Keep, .int .i64 x2.Tear] 55] ++ F0))
      unfold F.law10_GuardWhole.r1 at hF
      refine cw_cond_t rfl rfl rfl ?_
      refine cw_seq ?_
      refine cw_region ?_
      refine ow_vals 6 (j := 6) [6] [(6, .bool false)] rfl (by kernel_rfl) ?_
      refine ow_end rfl ?_
      refine ew_then ?_
      refine cw_ret ?_
      refine ew_then_ret ?_
      have hR := Option.some.inj hF
      subst hR
      exact fin1 (H1 := [imm I]) (fun w hs => sat_to [1, 0] 1 rfl hs) rfl (rr_tmp rfl) ⟨rfl, rfl⟩
  · rw [hO] at hF
    try dsimp only [optC] at hF
    rw [hO1] at hF
    try dsimp only [optC] at hF
    refine nw_H (H' := [imm I, pt r23_b2 #[.slice r23_p4 r23_s1.sure_.length r23_c5, .map (some r23_b7), .bool r23_s1.off_, .bool r23_s1.armed_, .int .i64 r23_s1.left_, .int .u64 r23_s1.fall_.Keep, .int .i64 r23_s1.fall_.Tear, .int .i64 r23_s1.acts_, .int .i64 r23_s1.falls_] 68, own e_disk_sector 70 r23_p4 r23_c5 r23_s1.sure_, mpo (kInt .i64) (fun x : disk_sector => Value.agg #[.string x.s_, .int .i64 x.at_]) r23_b7 r23_s1.wait_, pt b21 #[.int .u64 x2.Keep, .int .i64 x2.Tear] 55] ++ F0) rfl (nw_ow ?_)
    refine ow_vals 5 (j := 6) [0, 1, 5, 7, 8] [(0, .slice p0 x0.length c0), (1, .int .i64 x1), (5, .pointer (some ⟨b21, 0, none⟩)), (7, .pointer (some ⟨r23_b2, 0, none⟩)), (8, .pointer none)] rfl (by kernel_rfl) ?_
    refine ow_end rfl ?_
    refine ew_then ?_
    refine cw_seq ?_
    obtain ⟨v35, hF, hK35⟩ := bind_some hF
    refine cw_mid (fun a w => () = v35 ∧ Fr 144 [(0, .slice p0 x0.length c0), (1, .int .i64 x1), (5, .pointer (some ⟨b21, 0, none⟩)), (7, .pointer (some ⟨r23_b2, 0, none⟩)), (8, .pointer none), (32, .bool true)] a ∧ SAT w0 ([imm I, pt r23_b2 #[.slice r23_p4 r23_s1.sure_.length r23_c5, .map (some r23_b7), .bool r23_s1.off_, .bool r23_s1.armed_, .int .i64 r23_s1.left_, .int .u64 r23_s1.fall_.Keep, .int .i64 r23_s1.fall_.Tear, .int .i64 r23_s1.acts_, .int .i64 r23_s1.falls_] 68, pt b21 #[.int .u64 x2.Keep, .int .i64 x2.Tear] 55, own e_disk_sector 70 r23_p4 r23_c5 r23_s1.sure_, mpo (kInt .i64) (fun x : disk_sector => Value.agg #[.string x.s_, .int .i64 x.at_]) r23_b7 r23_s1.wait_] ++ F0) w) ?_ ?_
    · refine cw_region ?_
      refine ow_vals 14 (j := 14) [0, 1, 5, 7, 8, 32] [(0, .slice p0 x0.length c0), (1, .int .i64 x1), (5, .pointer (some ⟨b21, 0, none⟩)), (7, .pointer (some ⟨r23_b2, 0, none⟩)), (8, .pointer none), (32, .bool true)] rfl (by kernel_rfl) ?_
      refine ow_end rfl ?_
      have hR := Option.some.inj hF
      exact fun a w hf hs => ⟨hR, hf.keep [0, 1, 5, 7, 8, 32], sat_to [0, 0, 2, 0, 0] 0 rfl hs⟩
    · rintro a w ⟨hv, hf, hs⟩
      subst hv
      replace hF := hK35
      clear hK35
      try dsimp only at hF
      revert a w
      show CW _ _ _ 144 [(0, .slice p0 x0.length c0), (1, .int .i64 x1), (5, .pointer (some ⟨b21, 0, none⟩)), (7, .pointer (some ⟨r23_b2, 0, none⟩)), (8, .pointer none), (32, .bool true)] (SAT w0 ([imm I, pt r23_b2 #[.slice r23_p4 r23_s1.sure_.length r23_c5, .map (some r23_b7), .bool r23_s1.off_, .bool r23_s1.armed_, .int .i64 r23_s1.left_, .int .u64 r23_s1.fall_.Keep, .int .i64 r23_s1.fall_.Tear, .int .i64 r23_s1.acts_, .int .i64 r23_s1.falls_] 68, pt b21 #[.int .u64 x2.Keep, .int .i64 x2.Tear] 55, own e_disk_sector 70 r23_p4 r23_c5 r23_s1.sure_, mpo (kInt .i64) (fun x : disk_sector => Value.agg #[.string x.s_, .int .i64 x.at_]) r23_b7 r23_s1.wait_] ++ F0))
      unfold F.law10_GuardWhole.r2 at hF
      refine cw_cond_t rfl rfl rfl ?_
      refine cw_seq ?_
      refine cw_region ?_
      refine ow_vals 3 (j := 3) [35] [(35, .bool true)] rfl (by kernel_rfl) ?_
      obtain ⟨r36, h37, hF⟩ := bind_some hF
      refine ow_pw rfl (pw_call (F := [pt r23_b2 #[.slice r23_p4 r23_s1.sure_.length r23_c5, .map (some r23_b7), .bool r23_s1.off_, .bool r23_s1.armed_, .int .i64 r23_s1.left_, .int .u64 r23_s1.fall_.Keep, .int .i64 r23_s1.fall_.Tear, .int .i64 r23_s1.acts_, .int .i64 r23_s1.falls_] 68, pt b21 #[.int .u64 x2.Keep, .int .i64 x2.Tear] 55, own e_disk_sector 70 r23_p4 r23_c5 r23_s1.sure_, mpo (kInt .i64) (fun x : disk_sector => Value.agg #[.string x.s_, .int .i64 x.at_]) r23_b7 r23_s1.wait_] ++ F0) rfl rfl rfl rfl rfl rfl rfl (by kernel_rfl) (perm_of_pulls [0] rfl) (c_law10_awake _ r36 h37) ?_)
      rintro _ _ ⟨rfl, rfl⟩
      refine nw_H (H' := [imm I, pt r23_b2 #[.slice r23_p4 r23_s1.sure_.length r23_c5, .map (some r23_b7), .bool r23_s1.off_, .bool r23_s1.armed_, .int .i64 r23_s1.left_, .int .u64 r23_s1.fall_.Keep, .int .i64 r23_s1.fall_.Tear, .int .i64 r23_s1.acts_, .int .i64 r23_s1.falls_] 68, pt b21 #[.int .u64 x2.Keep, .int .i64 x2.Tear] 55, own e_disk_sector 70 r23_p4 r23_c5 r23_s1.sure_, mpo (kInt .i64) (fun x : disk_sector => Value.agg #[.string x.s_, .int .i64 x.at_]) r23_b7 r23_s1.wait_] ++ F0) rfl (nw_ow ?_)
      refine ow_vals 2 (j := 6) [6] [(6, .bool r36)] rfl (by kernel_rfl) ?_
      refine ow_end rfl ?_
      refine ew_then ?_
      refine cw_ret ?_
      refine ew_then_ret ?_
      have hR := Option.some.inj hF
      subst hR
      exact fin1 (H1 := [imm I]) (fun w hs => sat_to [1, 1, 1, 1, 0] 4 rfl hs) rfl (rr_tmp rfl) ⟨rfl, rfl⟩
  · rw [hO] at hF
    try dsimp only [optC] at hF
    rw [hO1] at hF
    try dsimp only [optC] at hF
    refine nw_H (H' := [imm I, pt r23_b2 #[.slice r23_p4 r23_s1.sure_.length r23_c5, .map (some r23_b7), .bool r23_s1.off_, .bool r23_s1.armed_, .int .i64 r23_s1.left_, .int .u64 r23_s1.fall_.Keep, .int .i64 r23_s1.fall_.Tear, .int .i64 r23_s1.acts_, .int .i64 r23_s1.falls_] 68, pt r23_b10 #[.pointer (some ⟨r23_b2, 0, none⟩), .int .i64 r23_s9.boot_, .int .i64 r23_s9.n_] 47, own e_disk_sector 70 r23_p4 r23_c5 r23_s1.sure_, mpo (kInt .i64) (fun x : disk_sector => Value.agg #[.string x.s_, .int .i64 x.at_]) r23_b7 r23_s1.wait_, pt b21 #[.int .u64 x2.Keep, .int .i64 x2.Tear] 55] ++ F0) rfl (nw_ow ?_)
    refine ow_vals 5 (j := 6) [0, 1, 5, 7, 8] [(0, .slice p0 x0.length c0), (1, .int .i64 x1), (5, .pointer (some ⟨b21, 0, none⟩)), (7, .pointer (some ⟨r23_b2, 0, none⟩)), (8, .pointer (some ⟨r23_b10, 0, none⟩))] rfl (by kernel_rfl) ?_
    refine ow_end rfl ?_
    refine ew_then ?_
    obtain ⟨v38, hF, hK38⟩ := thru_some hF
    refine cw_mid (fun a w => .inl () = v38 ∧ Fr 144 [(0, .slice p0 x0.length c0), (1, .int .i64 x1), (5, .pointer (some ⟨b21, 0, none⟩)), (7, .pointer (some ⟨r23_b2, 0, none⟩)), (8, .pointer (some ⟨r23_b10, 0, none⟩))] a ∧ SAT w0 ([imm I, pt r23_b2 #[.slice r23_p4 r23_s1.sure_.length r23_c5, .map (some r23_b7), .bool r23_s1.off_, .bool r23_s1.armed_, .int .i64 r23_s1.left_, .int .u64 r23_s1.fall_.Keep, .int .i64 r23_s1.fall_.Tear, .int .i64 r23_s1.acts_, .int .i64 r23_s1.falls_] 68, pt r23_b10 #[.pointer (some ⟨r23_b2, 0, none⟩), .int .i64 r23_s9.boot_, .int .i64 r23_s9.n_] 47, pt b21 #[.int .u64 x2.Keep, .int .i64 x2.Tear] 55, own e_disk_sector 70 r23_p4 r23_c5 r23_s1.sure_, mpo (kInt .i64) (fun x : disk_sector => Value.agg #[.string x.s_, .int .i64 x.at_]) r23_b7 r23_s1.wait_] ++ F0) w) ?_ ?_
    · obtain ⟨v39, hF, hK39⟩ := bind_some hF
      refine cw_mid (fun a w => ∃ (x41 : Bool), x41 = v39 ∧ Fr 144 [(0, .slice p0 x0.length c0), (1, .int .i64 x1), (5, .pointer (some ⟨b21, 0, none⟩)), (7, .pointer (some ⟨r23_b2, 0, none⟩)), (8, .pointer (some ⟨r23_b10, 0, none⟩)), (32, .bool x41)] a ∧ SAT w0 ([imm I, pt r23_b2 #[.slice r23_p4 r23_s1.sure_.length r23_c5, .map (some r23_b7), .bool r23_s1.off_, .bool r23_s1.armed_, .int .i64 r23_s1.left_, .int .u64 r23_s1.fall_.Keep, .int .i64 r23_s1.fall_.Tear, .int .i64 r23_s1.acts_, .int .i64 r23_s1.falls_] 68, pt r23_b10 #[.pointer (some ⟨r23_b2, 0, none⟩), .int .i64 r23_s9.boot_, .int .i64 r23_s9.n_] 47, pt b21 #[.int .u64 x2.Keep, .int .i64 x2.Tear] 55, own e_disk_sector 70 r23_p4 r23_c5 r23_s1.sure_, mpo (kInt .i64) (fun x : disk_sector => Value.agg #[.string x.s_, .int .i64 x.at_]) r23_b7 r23_s1.wait_] ++ F0) w) ?_ ?_
      · refine cw_region ?_
        refine ow_vals 11 (j := 11) [0, 1, 5, 7, 8, 29] [(0, .slice p0 x0.length c0), (1, .int .i64 x1), (5, .pointer (some ⟨b21, 0, none⟩)), (7, .pointer (some ⟨r23_b2, 0, none⟩)), (8, .pointer (some ⟨r23_b10, 0, none⟩)), (29, .bool (decide (x1 < 0)))] rfl (by kernel_rfl) ?_
        rcases if_some hF with ⟨h40, hF⟩ | ⟨h40, hF⟩
        · refine ow_slots (L' := [(0, .slice p0 x0.length c0), (1, .int .i64 x1), (5, .pointer (some ⟨b21, 0, none⟩)), (7, .pointer (some ⟨r23_b2, 0, none⟩)), (8, .pointer (some ⟨r23_b10, 0, none⟩)), (29, .bool true)]) (by rw [h40]) ?_
          refine ow_vals 3 (j := 14) [0, 1, 5, 7, 8, 32] [(0, .slice p0 x0.length c0), (1, .int .i64 x1), (5, .pointer (some ⟨b21, 0, none⟩)), (7, .pointer (some ⟨r23_b2, 0, none⟩)), (8, .pointer (some ⟨r23_b10, 0, none⟩)), (32, .bool true)] rfl (by kernel_rfl) ?_
          refine ow_end rfl ?_
          have hR := Option.some.inj hF
          exact fun a w hf hs => ⟨true, hR, hf.keep [0, 1, 5, 7, 8, 32], sat_to [0, 0, 0, 2, 0, 0] 0 rfl hs⟩
        · refine ow_slots (L' := [(0, .slice p0 x0.length c0), (1, .int .i64 x1), (5, .pointer (some ⟨b21, 0, none⟩)), (7, .pointer (some ⟨r23_b2, 0, none⟩)), (8, .pointer (some ⟨r23_b10, 0, none⟩)), (29, .bool false)]) (by rw [h40]) ?_
          refine ow_vals 3 (j := 14) [0, 1, 5, 7, 8, 32] [(0, .slice p0 x0.length c0), (1, .int .i64 x1), (5, .pointer (some ⟨b21, 0, none⟩)), (7, .pointer (some ⟨r23_b2, 0, none⟩)), (8, .pointer (some ⟨r23_b10, 0, none⟩)), (32, .bool (decide (x1 > 100)))] rfl (by kernel_rfl) ?_
          refine ow_end rfl ?_
          have hR := Option.some.inj hF
          exact fun a w hf hs => ⟨decide (x1 > 100), hR, hf.keep [0, 1, 5, 7, 8, 32], sat_to [0, 0, 0, 2, 0, 0] 0 rfl hs⟩
      · rintro a w ⟨x41, hv, hf, hs⟩
        subst hv
        replace hF := hK39
        clear hK39
        try dsimp only at hF
        revert a w
        show CW _ _ _ 144 [(0, .slice p0 x0.length c0), (1, .int .i64 x1), (5, .pointer (some ⟨b21, 0, none⟩)), (7, .pointer (some ⟨r23_b2, 0, none⟩)), (8, .pointer (some ⟨r23_b10, 0, none⟩)), (32, .bool x41)] (SAT w0 ([imm I, pt r23_b2 #[.slice r23_p4 r23_s1.sure_.length r23_c5, .map (some r23_b7), .bool r23_s1.off_, .bool r23_s1.armed_, .int .i64 r23_s1.left_, .int .u64 r23_s1.fall_.Keep, .int .i64 r23_s1.fall_.Tear, .int .i64 r23_s1.acts_, .int .i64 r23_s1.falls_] 68, pt r23_b10 #[.pointer (some ⟨r23_b2, 0, none⟩), .int .i64 r23_s9.boot_, .int .i64 r23_s9.n_] 47, pt b21 #[.int .u64 x2.Keep, .int .i64 x2.Tear] 55, own e_disk_sector 70 r23_p4 r23_c5 r23_s1.sure_, mpo (kInt .i64) (fun x : disk_sector => Value.agg #[.string x.s_, .int .i64 x.at_]) r23_b7 r23_s1.wait_] ++ F0))
        unfold F.law10_GuardWhole.r3 at hF
        rcases if_some hF with ⟨h42, hF⟩ | ⟨h42, hF⟩
        · refine cw_cond_t rfl rfl h42 ?_
          refine cw_seq ?_
          refine cw_region ?_
          refine ow_vals 3 (j := 3) [35] [(35, .bool true)] rfl (by kernel_rfl) ?_
          obtain ⟨r43, h44, hF⟩ := bind_some hF
          refine ow_pw rfl (pw_call (F := [pt r23_b2 #[.slice r23_p4 r23_s1.sure_.length r23_c5, .map (some r23_b7), .bool r23_s1.off_, .bool r23_s1.armed_, .int .i64 r23_s1.left_, .int .u64 r23_s1.fall_.Keep, .int .i64 r23_s1.fall_.Tear, .int .i64 r23_s1.acts_, .int .i64 r23_s1.falls_] 68, pt r23_b10 #[.pointer (some ⟨r23_b2, 0, none⟩), .int .i64 r23_s9.boot_, .int .i64 r23_s9.n_] 47, pt b21 #[.int .u64 x2.Keep, .int .i64 x2.Tear] 55, own e_disk_sector 70 r23_p4 r23_c5 r23_s1.sure_, mpo (kInt .i64) (fun x : disk_sector => Value.agg #[.string x.s_, .int .i64 x.at_]) r23_b7 r23_s1.wait_] ++ F0) rfl rfl rfl rfl rfl rfl rfl (by kernel_rfl) (perm_of_pulls [0] rfl) (c_law10_awake _ r43 h44) ?_)
          rintro _ _ ⟨rfl, rfl⟩
          refine nw_H (H' := [imm I, pt r23_b2 #[.slice r23_p4 r23_s1.sure_.length r23_c5, .map (some r23_b7), .bool r23_s1.off_, .bool r23_s1.armed_, .int .i64 r23_s1.left_, .int .u64 r23_s1.fall_.Keep, .int .i64 r23_s1.fall_.Tear, .int .i64 r23_s1.acts_, .int .i64 r23_s1.falls_] 68, pt r23_b10 #[.pointer (some ⟨r23_b2, 0, none⟩), .int .i64 r23_s9.boot_, .int .i64 r23_s9.n_] 47, pt b21 #[.int .u64 x2.Keep, .int .i64 x2.Tear] 55, own e_disk_sector 70 r23_p4 r23_c5 r23_s1.sure_, mpo (kInt .i64) (fun x : disk_sector => Value.agg #[.string x.s_, .int .i64 x.at_]) r23_b7 r23_s1.wait_] ++ F0) rfl (nw_ow ?_)
          refine ow_vals 2 (j := 6) [6] [(6, .bool r43)] rfl (by kernel_rfl) ?_
          refine ow_end rfl ?_
          refine ew_then ?_
          refine cw_ret ?_
          refine ew_then_ret ?_
          have hR := Option.some.inj hF
          subst hR
          have hR := hK38
          try dsimp only [Thru] at hR
          subst hR
          exact fin1 (H1 := [imm I]) (fun w hs => sat_to [1, 1, 1, 1, 1, 0] 5 rfl hs) rfl (rr_tmp rfl) ⟨rfl, rfl⟩
        · refine cw_cond_f rfl rfl h42 ?_
          refine cw_skip ?_
          have hR := Option.some.inj hF
          exact fun a w hf hs => ⟨hR, hf.keep [0, 1, 5, 7, 8], sat_to [0, 0, 0, 0, 0, 0] 0 rfl hs⟩
    · rintro a w ⟨hv, hf, hs⟩
      subst hv
      replace hF := hK38
      clear hK38
      try dsimp only [Thru] at hF
      revert a w
      show CW _ _ _ 144 [(0, .slice p0 x0.length c0), (1, .int .i64 x1), (5, .pointer (some ⟨b21, 0, none⟩)), (7, .pointer (some ⟨r23_b2, 0, none⟩)), (8, .pointer (some ⟨r23_b10, 0, none⟩))] (SAT w0 ([imm I, pt r23_b2 #[.slice r23_p4 r23_s1.sure_.length r23_c5, .map (some r23_b7), .bool r23_s1.off_, .bool r23_s1.armed_, .int .i64 r23_s1.left_, .int .u64 r23_s1.fall_.Keep, .int .i64 r23_s1.fall_.Tear, .int .i64 r23_s1.acts_, .int .i64 r23_s1.falls_] 68, pt r23_b10 #[.pointer (some ⟨r23_b2, 0, none⟩), .int .i64 r23_s9.boot_, .int .i64 r23_s9.n_] 47, pt b21 #[.int .u64 x2.Keep, .int .i64 x2.Tear] 55, own e_disk_sector 70 r23_p4 r23_c5 r23_s1.sure_, mpo (kInt .i64) (fun x : disk_sector => Value.agg #[.string x.s_, .int .i64 x.at_]) r23_b7 r23_s1.wait_] ++ F0))
      unfold F.law10_GuardWhole.r4 at hF
      refine cw_seq ?_
      refine cw_region ?_
      refine ow_vals 2 (j := 2) [0, 5, 7, 8, 38, 39] [(0, .slice p0 x0.length c0), (5, .pointer (some ⟨b21, 0, none⟩)), (7, .pointer (some ⟨r23_b2, 0, none⟩)), (8, .pointer (some ⟨r23_b10, 0, none⟩)), (38, .pointer (some ⟨r23_b2, 0, none⟩)), (39, .int .i64 x1)] rfl (by kernel_rfl) ?_
      refine ow_pw rfl (pw_quiet (v := .agg #[.int .u64 x2.Keep, .int .i64 x2.Tear]) rfl rfl rfl rfl (q_load 3 rfl rfl rfl (by kernel_rfl)) (nw_ow ?_))
      obtain ⟨r45, h46, hF⟩ := bind_some hF
      refine ow_pw rfl (pw_call (F := [pt r23_b10 #[.pointer (some ⟨r23_b2, 0, none⟩), .int .i64 r23_s9.boot_, .int .i64 r23_s9.n_] 47, pt b21 #[.int .u64 x2.Keep, .int .i64 x2.Tear] 55] ++ F0) rfl rfl rfl rfl rfl rfl rfl (by kernel_rfl) (perm_of_pulls [0, 0, 2, 2] rfl) (c_disk_Disk_Arm _ x1 x2 r23_s1 r23_p4 r23_c5 r23_b7 r23_b2 r45 h46) ?_)
      rintro _ _ ⟨r45_p1, r45_c2, r45_b4, rfl, rfl⟩
      refine nw_H (H' := [imm I, pt r23_b2 #[.slice r45_p1 r45.2.sure_.length r45_c2, .map (some r45_b4), .bool r45.2.off_, .bool r45.2.armed_, .int .i64 r45.2.left_, .int .u64 r45.2.fall_.Keep, .int .i64 r45.2.fall_.Tear, .int .i64 r45.2.acts_, .int .i64 r45.2.falls_] 68, own e_disk_sector 70 r45_p1 r45_c2 r45.2.sure_, mpo (kInt .i64) (fun x : disk_sector => Value.agg #[.string x.s_, .int .i64 x.at_]) r45_b4 r45.2.wait_, pt r23_b10 #[.pointer (some ⟨r23_b2, 0, none⟩), .int .i64 r23_s9.boot_, .int .i64 r23_s9.n_] 47, pt b21 #[.int .u64 x2.Keep, .int .i64 x2.Tear] 55] ++ F0) rfl (nw_ow ?_)
      refine ow_end rfl ?_
      refine ew_then ?_
      refine cw_seq ?_
      refine cw_region ?_
      refine ow_vals 1 (j := 1) [0, 5, 7, 8, 42] [(0, .slice p0 x0.length c0), (5, .pointer (some ⟨b21, 0, none⟩)), (7, .pointer (some ⟨r23_b2, 0, none⟩)), (8, .pointer (some ⟨r23_b10, 0, none⟩)), (42, .agg #[.int .i64 0, .int .i64 0, .int .i64 0, .int .i64 0, .int .i64 0, .int .i64 0, .int .i64 0, .int .i64 0, .int .i64 0, .int .i64 0])] rfl (by kernel_rfl) ?_
      refine ow_pw rfl (pw_alloc (cs := ((eInt .i64).all (List.replicate 10 0 : List Int)).toArray) rfl rfl rfl rfl rfl (by kernel_rfl) fun b49 => nw_ow ?_)
      refine ow_pw rfl (pw_store_arr 0 (m := 10) (E := 3) (sz := 1) (tot := 10) (l' := ([0, 0, 0, 0, 0, 0, 0, 0, 0, 0] : List Int)) rfl rfl rfl rfl rfl rfl (by kernel_rfl) (by kernel_rfl) rfl rfl rfl rfl rfl (nw_H (H' := [pt b49 ((eInt .i64).all ([0, 0, 0, 0, 0, 0, 0, 0, 0, 0] : List Int)).toArray 57, imm I, pt r23_b2 #[.slice r45_p1 r45.2.sure_.length r45_c2, .map (some r45_b4), .bool r45.2.off_, .bool r45.2.armed_, .int .i64 r45.2.left_, .int .u64 r45.2.fall_.Keep, .int .i64 r45.2.fall_.Tear, .int .i64 r45.2.acts_, .int .i64 r45.2.falls_] 68, own e_disk_sector 70 r45_p1 r45_c2 r45.2.sure_, mpo (kInt .i64) (fun x : disk_sector => Value.agg #[.string x.s_, .int .i64 x.at_]) r45_b4 r45.2.wait_, pt r23_b10 #[.pointer (some ⟨r23_b2, 0, none⟩), .int .i64 r23_s9.boot_, .int .i64 r23_s9.n_] 47, pt b21 #[.int .u64 x2.Keep, .int .i64 x2.Tear] 55] ++ F0) rfl (nw_ow ?_)))
      refine ow_end rfl ?_
      refine ew_then ?_
      refine cw_seq ?_
      refine cw_region ?_
      refine ow_vals 1 (j := 1) [0, 5, 7, 8, 9, 10] [(0, .slice p0 x0.length c0), (5, .pointer (some ⟨b21, 0, none⟩)), (7, .pointer (some ⟨r23_b2, 0, none⟩)), (8, .pointer (some ⟨r23_b10, 0, none⟩)), (9, .pointer (some ⟨b49, 0, none⟩)), (10, .int .i64 0)] rfl (by kernel_rfl) ?_
      refine ow_end rfl ?_
      refine ew_then ?_
      obtain ⟨v51, hF, hK51⟩ := bind_some hF
      refine cw_mid (fun a w => ∃ (x98 : Int), ∃ (l99 : List disk_sector), ∃ (l103 : List (Int × disk_sector)), ∃ (x106 : Bool), ∃ (x107 : Bool), ∃ (x108 : Int), ∃ (x109 : Int), ∃ (x110 : Int), ∃ (x111 : Int), ∃ (x112 : Int), ∃ (x113 : Int), ∃ (x114 : Int), ∃ (p100 : Option Addr), ∃ (c101 : Nat), ∃ (b105 : Nat), (x98, l99, l103, x106, x107, x108, x109, x110, x111, x112, x113, x114) = v51 ∧ Fr 144 [(0, .slice p0 x0.length c0), (5, .pointer (some ⟨b21, 0, none⟩)), (7, .pointer (some ⟨r23_b2, 0, none⟩)), (9, .pointer (some ⟨b49, 0, none⟩)), (10, .int .i64 x98)] a ∧ SAT w0 ([imm I, pt r23_b2 #[.slice p100 l99.length c101, .map (some b105), .bool x106, .bool x107, .int .i64 x108, .int .u64 x109, .int .i64 x110, .int .i64 x111, .int .i64 x112] 68, pt b49 ((eInt .i64).all ([0, 0, 0, 0, 0, 0, 0, 0, 0, 0] : List Int)).toArray 57, pt r23_b10 #[.pointer (some ⟨r23_b2, 0, none⟩), .int .i64 x113, .int .i64 x114] 47, pt b21 #[.int .u64 x2.Keep, .int .i64 x2.Tear] 55, own e_disk_sector 70 p100 c101 l99, mpo (kInt .i64) (fun x : disk_sector => Value.agg #[.string x.s_, .int .i64 x.at_]) b105 l103] ++ F0) w) ?_ ?_
      · refine cw_seq ?_
        refine cw_region ?_
        refine ow_vals 1 (j := 1) [0, 5, 7, 8, 9, 10, 11] [(0, .slice p0 x0.length c0), (5, .pointer (some ⟨b21, 0, none⟩)), (7, .pointer (some ⟨r23_b2, 0, none⟩)), (8, .pointer (some ⟨r23_b10, 0, none⟩)), (9, .pointer (some ⟨b49, 0, none⟩)), (10, .int .i64 0), (11, .int .i64 0)] rfl (by kernel_rfl) ?_
        refine ow_end rfl ?_
        refine ew_then ?_
        refine cw_block ?_
        refine fun a w hf hs => wp_rounds (fun k a w => ∃ (x53 : Int), ∃ (x54 : Int), ∃ (l55 : List disk_sector), ∃ (l59 : List (Int × disk_sector)), ∃ (x62 : Bool), ∃ (x63 : Bool), ∃ (x64 : Int), ∃ (x65 : Int), ∃ (x66 : Int), ∃ (x67 : Int), ∃ (x68 : Int), ∃ (x69 : Int), ∃ (x70 : Int), ∃ (p56 : Option Addr), ∃ (c57 : Nat), ∃ (b61 : Nat), iter (fun x => F.law10_GuardWhole.l6 x0 x.1 x.2.1 x.2.2.1 x.2.2.2.1 x.2.2.2.2.1 x.2.2.2.2.2.1 x.2.2.2.2.2.2.1 x.2.2.2.2.2.2.2.1 x.2.2.2.2.2.2.2.2.1 x.2.2.2.2.2.2.2.2.2.1 x.2.2.2.2.2.2.2.2.2.2.1 x.2.2.2.2.2.2.2.2.2.2.2.1 x.2.2.2.2.2.2.2.2.2.2.2.2) k (x53, x54, l55, l59, x62, x63, x64, x65, x66, x67, x68, x69, x70) = some v51 ∧ Fr 144 [(0, .slice p0 x0.length c0), (5, .pointer (some ⟨b21, 0, none⟩)), (7, .pointer (some ⟨r23_b2, 0, none⟩)), (8, .pointer (some ⟨r23_b10, 0, none⟩)), (9, .pointer (some ⟨b49, 0, none⟩)), (10, .int .i64 x53), (11, .int .i64 x54)] a ∧ SAT w0 ([imm I, pt b49 ((eInt .i64).all ([0, 0, 0, 0, 0, 0, 0, 0, 0, 0] : List Int)).toArray 57, pt r23_b2 #[.slice p56 l55.length c57, .map (some b61), .bool x62, .bool x63, .int .i64 x64, .int .u64 x65, .int .i64 x66, .int .i64 x67, .int .i64 x68] 68, pt r23_b10 #[.pointer (some ⟨r23_b2, 0, none⟩), .int .i64 x69, .int .i64 x70] 47, pt b21 #[.int .u64 x2.Keep, .int .i64 x2.Tear] 55, own e_disk_sector 70 p56 c57 l55, mpo (kInt .i64) (fun x : disk_sector => Value.agg #[.string x.s_, .int .i64 x.at_]) b61 l59] ++ F0) w) ?_ FUEL a w ⟨0, 0, r45.2.sure_, r45.2.wait_, r45.2.off_, r45.2.armed_, r45.2.left_, r45.2.fall_.Keep, r45.2.fall_.Tear, r45.2.acts_, r45.2.falls_, r23_s9.boot_, r23_s9.n_, r45_p1, r45_c2, r45_b4, hF, hf.keep [0, 5, 7, 8, 9, 10, 11], sat_to [1, 0, 0, 2, 2, 0, 0] 0 rfl hs⟩
        clear hf hs
        clear a w hF
        rintro k a w ⟨x53, x54, l55, l59, x62, x63, x64, x65, x66, x67, x68, x69, x70, p56, c57, b61, hF2, hf, hs⟩
        obtain ⟨k, r52, rfl, hF, hL52⟩ := iter_some hF2
        clear hF2
        revert a w
        show CW _ _ _ 144 [(0, .slice p0 x0.length c0), (5, .pointer (some ⟨b21, 0, none⟩)), (7, .pointer (some ⟨r23_b2, 0, none⟩)), (8, .pointer (some ⟨r23_b10, 0, none⟩)), (9, .pointer (some ⟨b49, 0, none⟩)), (10, .int .i64 x53), (11, .int .i64 x54)] (SAT w0 ([imm I, pt b49 ((eInt .i64).all ([0, 0, 0, 0, 0, 0, 0, 0, 0, 0] : List Int)).toArray 57, pt r23_b2 #[.slice p56 l55.length c57, .map (some b61), .bool x62, .bool x63, .int .i64 x64, .int .u64 x65, .int .i64 x66, .int .i64 x67, .int .i64 x68] 68, pt r23_b10 #[.pointer (some ⟨r23_b2, 0, none⟩), .int .i64 x69, .int .i64 x70] 47, pt b21 #[.int .u64 x2.Keep, .int .i64 x2.Tear] 55, own e_disk_sector 70 p56 c57 l55, mpo (kInt .i64) (fun x : disk_sector => Value.agg #[.string x.s_, .int .i64 x.at_]) b61 l59] ++ F0))
        try dsimp only at hF
        unfold F.law10_GuardWhole.l6 at hF
        obtain ⟨v71, hF, hK71⟩ := thru_some hF
        refine cw_mid (fun a w => .inl () = v71 ∧ Fr 144 [(0, .slice p0 x0.length c0), (5, .pointer (some ⟨b21, 0, none⟩)), (7, .pointer (some ⟨r23_b2, 0, none⟩)), (8, .pointer (some ⟨r23_b10, 0, none⟩)), (9, .pointer (some ⟨b49, 0, none⟩)), (10, .int .i64 x53), (11, .int .i64 x54)] a ∧ SAT w0 ([imm I, pt r23_b2 #[.slice p56 ((⟨l55, l59, x62, x63, x64, (⟨x65, x66⟩ : disk_Fall), x67, x68⟩ : disk_Disk).sure_).length c57, .map (some b61), .bool ((⟨l55, l59, x62, x63, x64, (⟨x65, x66⟩ : disk_Fall), x67, x68⟩ : disk_Disk).off_), .bool ((⟨l55, l59, x62, x63, x64, (⟨x65, x66⟩ : disk_Fall), x67, x68⟩ : disk_Disk).armed_), .int .i64 ((⟨l55, l59, x62, x63, x64, (⟨x65, x66⟩ : disk_Fall), x67, x68⟩ : disk_Disk).left_), .int .u64 ((⟨l55, l59, x62, x63, x64, (⟨x65, x66⟩ : disk_Fall), x67, x68⟩ : disk_Disk).fall_.Keep), .int .i64 ((⟨l55, l59, x62, x63, x64, (⟨x65, x66⟩ : disk_Fall), x67, x68⟩ : disk_Disk).fall_.Tear), .int .i64 ((⟨l55, l59, x62, x63, x64, (⟨x65, x66⟩ : disk_Fall), x67, x68⟩ : disk_Disk).acts_), .int .i64 ((⟨l55, l59, x62, x63, x64, (⟨x65, x66⟩ : disk_Fall), x67, x68⟩ : disk_Disk).falls_)] 68, pt b49 ((eInt .i64).all ([0, 0, 0, 0, 0, 0, 0, 0, 0, 0] : List Int)).toArray 57, pt r23_b10 #[.pointer (some ⟨r23_b2, 0, none⟩), .int .i64 x69, .int .i64 x70] 47, pt b21 #[.int .u64 x2.Keep, .int .i64 x2.Tear] 55, own e_disk_sector 70 p56 c57 ((⟨l55, l59, x62, x63, x64, (⟨x65, x66⟩ : disk_Fall), x67, x68⟩ : disk_Disk).sure_), mpo (kInt .i64) (fun x : disk_sector => Value.agg #[.string x.s_, .int .i64 x.at_]) b61 ((⟨l55, l59, x62, x63, x64, (⟨x65, x66⟩ : disk_Fall), x67, x68⟩ : disk_Disk).wait_)] ++ F0) w) ?_ ?_
        · refine cw_seq ?_
          refine cw_region ?_
          refine ow_vals 5 (j := 5) [0, 5, 7, 8, 9, 10, 11, 47] [(0, .slice p0 x0.length c0), (5, .pointer (some ⟨b21, 0, none⟩)), (7, .pointer (some ⟨r23_b2, 0, none⟩)), (8, .pointer (some ⟨r23_b10, 0, none⟩)), (9, .pointer (some ⟨b49, 0, none⟩)), (10, .int .i64 x53), (11, .int .i64 x54), (47, .bool (decide (x54 < (x0.length : Int))))] rfl (by kernel_rfl) ?_
          rcases if_some hF with ⟨h72, hF⟩ | ⟨h72, hF⟩
          · refine ow_slots (L' := [(0, .slice p0 x0.length c0), (5, .pointer (some ⟨b21, 0, none⟩)), (7, .pointer (some ⟨r23_b2, 0, none⟩)), (8, .pointer (some ⟨r23_b10, 0, none⟩)), (9, .pointer (some ⟨b49, 0, none⟩)), (10, .int .i64 x53), (11, .int .i64 x54), (47, .bool true)]) (by rw [h72]) ?_
            refine ow_vals 4 (j := 9) [0, 5, 7, 8, 9, 10, 11, 51] [(0, .slice p0 x0.length c0), (5, .pointer (some ⟨b21, 0, none⟩)), (7, .pointer (some ⟨r23_b2, 0, none⟩)), (8, .pointer (some ⟨r23_b10, 0, none⟩)), (9, .pointer (some ⟨b49, 0, none⟩)), (10, .int .i64 x53), (11, .int .i64 x54), (51, .bool (decide (x54 < 40)))] rfl (by kernel_rfl) ?_
            rcases if_some hF with ⟨h73, hF⟩ | ⟨h73, hF⟩
            · refine ow_slots (L' := [(0, .slice p0 x0.length c0), (5, .pointer (some ⟨b21, 0, none⟩)), (7, .pointer (some ⟨r23_b2, 0, none⟩)), (8, .pointer (some ⟨r23_b10, 0, none⟩)), (9, .pointer (some ⟨b49, 0, none⟩)), (10, .int .i64 x53), (11, .int .i64 x54), (51, .bool true)]) (by rw [h73]) ?_
              refine ow_vals 1 (j := 10) [0, 5, 7, 8, 9, 10, 11, 51, 52] [(0, .slice p0 x0.length c0), (5, .pointer (some ⟨b21, 0, none⟩)), (7, .pointer (some ⟨r23_b2, 0, none⟩)), (8, .pointer (some ⟨r23_b10, 0, none⟩)), (9, .pointer (some ⟨b49, 0, none⟩)), (10, .int .i64 x53), (11, .int .i64 x54), (51, .bool true), (52, .pointer (some ⟨r23_b2, 0, none⟩))] rfl (by kernel_rfl) ?_
              obtain ⟨r74, h75, hF⟩ := bind_some hF
              refine ow_pw rfl (pw_call (F := [pt b49 ((eInt .i64).all ([0, 0, 0, 0, 0, 0, 0, 0, 0, 0] : List Int)).toArray 57, pt r23_b10 #[.pointer (some ⟨r23_b2, 0, none⟩), .int .i64 x69, .int .i64 x70] 47, pt b21 #[.int .u64 x2.Keep, .int .i64 x2.Tear] 55] ++ F0) rfl rfl rfl rfl rfl rfl rfl (by kernel_rfl) (perm_of_pulls [0, 1, 3, 3] rfl) (c_disk_Disk_Up _ (⟨l55, l59, x62, x63, x64, (⟨x65, x66⟩ : disk_Fall), x67, x68⟩ : disk_Disk) p56 c57 b61 r23_b2 r74 h75) ?_)
              rintro _ _ ⟨rfl, rfl⟩
              refine nw_H (H' := [imm I, pt r23_b2 #[.slice p56 ((⟨l55, l59, x62, x63, x64, (⟨x65, x66⟩ : disk_Fall), x67, x68⟩ : disk_Disk).sure_).length c57, .map (some b61), .bool ((⟨l55, l59, x62, x63, x64, (⟨x65, x66⟩ : disk_Fall), x67, x68⟩ : disk_Disk).off_), .bool ((⟨l55, l59, x62, x63, x64, (⟨x65, x66⟩ : disk_Fall), x67, x68⟩ : disk_Disk).armed_), .int .i64 ((⟨l55, l59, x62, x63, x64, (⟨x65, x66⟩ : disk_Fall), x67, x68⟩ : disk_Disk).left_), .int .u64 ((⟨l55, l59, x62, x63, x64, (⟨x65, x66⟩ : disk_Fall), x67, x68⟩ : disk_Disk).fall_.Keep), .int .i64 ((⟨l55, l59, x62, x63, x64, (⟨x65, x66⟩ : disk_Fall), x67, x68⟩ : disk_Disk).fall_.Tear), .int .i64 ((⟨l55, l59, x62, x63, x64, (⟨x65, x66⟩ : disk_Fall), x67, x68⟩ : disk_Disk).acts_), .int .i64 ((⟨l55, l59, x62, x63, x64, (⟨x65, x66⟩ : disk_Fall), x67, x68⟩ : disk_Disk).falls_)] 68, own e_disk_sector 70 p56 c57 ((⟨l55, l59, x62, x63, x64, (⟨x65, x66⟩ : disk_Fall), x67, x68⟩ : disk_Disk).sure_), mpo (kInt .i64) (fun x : disk_sector => Value.agg #[.string x.s_, .int .i64 x.at_]) b61 ((⟨l55, l59, x62, x63, x64, (⟨x65, x66⟩ : disk_Fall), x67, x68⟩ : disk_Disk).wait_), pt b49 ((eInt .i64).all ([0, 0, 0, 0, 0, 0, 0, 0, 0, 0] : List Int)).toArray 57, pt r23_b10 #[.pointer (some ⟨r23_b2, 0, none⟩), .int .i64 x69, .int .i64 x70] 47, pt b21 #[.int .u64 x2.Keep, .int .i64 x2.Tear] 55] ++ F0) rfl (nw_ow ?_)
              refine ow_vals 1 (j := 12) [0, 5, 7, 8, 9, 10, 11, 54] [(0, .slice p0 x0.length c0), (5, .pointer (some ⟨b21, 0, none⟩)), (7, .pointer (some ⟨r23_b2, 0, none⟩)), (8, .pointer (some ⟨r23_b10, 0, none⟩)), (9, .pointer (some ⟨b49, 0, none⟩)), (10, .int .i64 x53), (11, .int .i64 x54), (54, .bool r74)] rfl (by kernel_rfl) ?_
              refine ow_end rfl ?_
              refine ew_then ?_
              rcases if_some hF with ⟨h76, hF⟩ | ⟨h76, hF⟩
              · refine cw_cond_t rfl rfl h76 ?_
                refine cw_skip ?_
                have hR := Option.some.inj hF
                exact fun a w hf hs => ⟨hR, hf.keep [0, 5, 7, 8, 9, 10, 11], sat_to [0, 0, 2, 2, 2, 0, 0] 0 rfl hs⟩
              · refine cw_cond_f rfl rfl h76 ?_
                refine cw_exit ?_
                refine ew_then_exit ?_
                refine ew_then_exit ?_
                refine ew_blk_exit ?_
                have hR := Option.some.inj hF
                subst hR
                have hR := hK71
                try dsimp only [Thru] at hR
                subst hR
                have hR := hL52
                try dsimp only at hR
                exact fun a w hf hs => ⟨x53, (⟨l55, l59, x62, x63, x64, (⟨x65, x66⟩ : disk_Fall), x67, x68⟩ : disk_Disk).sure_, (⟨l55, l59, x62, x63, x64, (⟨x65, x66⟩ : disk_Fall), x67, x68⟩ : disk_Disk).wait_, (⟨l55, l59, x62, x63, x64, (⟨x65, x66⟩ : disk_Fall), x67, x68⟩ : disk_Disk).off_, (⟨l55, l59, x62, x63, x64, (⟨x65, x66⟩ : disk_Fall), x67, x68⟩ : disk_Disk).armed_, (⟨l55, l59, x62, x63, x64, (⟨x65, x66⟩ : disk_Fall), x67, x68⟩ : disk_Disk).left_, (⟨l55, l59, x62, x63, x64, (⟨x65, x66⟩ : disk_Fall), x67, x68⟩ : disk_Disk).fall_.Keep, (⟨l55, l59, x62, x63, x64, (⟨x65, x66⟩ : disk_Fall), x67, x68⟩ : disk_Disk).fall_.Tear, (⟨l55, l59, x62, x63, x64, (⟨x65, x66⟩ : disk_Fall), x67, x68⟩ : disk_Disk).acts_, (⟨l55, l59, x62, x63, x64, (⟨x65, x66⟩ : disk_Fall), x67, x68⟩ : disk_Disk).falls_, x69, x70, p56, c57, b61, hR, hf.keep [0, 5, 7, 9, 10], sat_to [0, 0, 2, 2, 2, 0, 0] 0 rfl hs⟩
            · refine ow_slots (L' := [(0, .slice p0 x0.length c0), (5, .pointer (some ⟨b21, 0, none⟩)), (7, .pointer (some ⟨r23_b2, 0, none⟩)), (8, .pointer (some ⟨r23_b10, 0, none⟩)), (9, .pointer (some ⟨b49, 0, none⟩)), (10, .int .i64 x53), (11, .int .i64 x54), (51, .bool false)]) (by rw [h73]) ?_
              refine ow_vals 3 (j := 12) [0, 5, 7, 8, 9, 10, 11, 54] [(0, .slice p0 x0.length c0), (5, .pointer (some ⟨b21, 0, none⟩)), (7, .pointer (some ⟨r23_b2, 0, none⟩)), (8, .pointer (some ⟨r23_b10, 0, none⟩)), (9, .pointer (some ⟨b49, 0, none⟩)), (10, .int .i64 x53), (11, .int .i64 x54), (54, .bool false)] rfl (by kernel_rfl) ?_
              refine ow_end rfl ?_
              refine ew_then ?_
              refine cw_cond_f rfl rfl rfl ?_
              refine cw_exit ?_
              refine ew_then_exit ?_
              refine ew_then_exit ?_
              refine ew_blk_exit ?_
              have hR := Option.some.inj hF
              subst hR
              have hR := hK71
              try dsimp only [Thru] at hR
              subst hR
              have hR := hL52
              try dsimp only at hR
              exact fun a w hf hs => ⟨x53, l55, l59, x62, x63, x64, x65, x66, x67, x68, x69, x70, p56, c57, b61, hR, hf.keep [0, 5, 7, 9, 10], sat_to [0, 1, 0, 0, 0, 0, 0] 0 rfl hs⟩
          · refine ow_slots (L' := [(0, .slice p0 x0.length c0), (5, .pointer (some ⟨b21, 0, none⟩)), (7, .pointer (some ⟨r23_b2, 0, none⟩)), (8, .pointer (some ⟨r23_b10, 0, none⟩)), (9, .pointer (some ⟨b49, 0, none⟩)), (10, .int .i64 x53), (11, .int .i64 x54), (47, .bool false)]) (by rw [h72]) ?_
            refine ow_vals 7 (j := 12) [0, 5, 7, 8, 9, 10, 11, 54] [(0, .slice p0 x0.length c0), (5, .pointer (some ⟨b21, 0, none⟩)), (7, .pointer (some ⟨r23_b2, 0, none⟩)), (8, .pointer (some ⟨r23_b10, 0, none⟩)), (9, .pointer (some ⟨b49, 0, none⟩)), (10, .int .i64 x53), (11, .int .i64 x54), (54, .bool false)] rfl (by kernel_rfl) ?_
            refine ow_end rfl ?_
            refine ew_then ?_
            refine cw_cond_f rfl rfl rfl ?_
            refine cw_exit ?_
            refine ew_then_exit ?_
            refine ew_then_exit ?_
            refine ew_blk_exit ?_
            have hR := Option.some.inj hF
            subst hR
            have hR := hK71
            try dsimp only [Thru] at hR
            subst hR
            have hR := hL52
            try dsimp only at hR
            exact fun a w hf hs => ⟨x53, l55, l59, x62, x63, x64, x65, x66, x67, x68, x69, x70, p56, c57, b61, hR, hf.keep [0, 5, 7, 9, 10], sat_to [0, 1, 0, 0, 0, 0, 0] 0 rfl hs⟩
        · rintro a w ⟨hv, hf, hs⟩
          subst hv
          replace hF := hK71
          clear hK71
          try dsimp only [Thru] at hF
          revert a w
          show CW _ _ _ 144 [(0, .slice p0 x0.length c0), (5, .pointer (some ⟨b21, 0, none⟩)), (7, .pointer (some ⟨r23_b2, 0, none⟩)), (8, .pointer (some ⟨r23_b10, 0, none⟩)), (9, .pointer (some ⟨b49, 0, none⟩)), (10, .int .i64 x53), (11, .int .i64 x54)] (SAT w0 ([imm I, pt r23_b2 #[.slice p56 ((⟨l55, l59, x62, x63, x64, (⟨x65, x66⟩ : disk_Fall), x67, x68⟩ : disk_Disk).sure_).length c57, .map (some b61), .bool ((⟨l55, l59, x62, x63, x64, (⟨x65, x66⟩ : disk_Fall), x67, x68⟩ : disk_Disk).off_), .bool ((⟨l55, l59, x62, x63, x64, (⟨x65, x66⟩ : disk_Fall), x67, x68⟩ : disk_Disk).armed_), .int .i64 ((⟨l55, l59, x62, x63, x64, (⟨x65, x66⟩ : disk_Fall), x67, x68⟩ : disk_Disk).left_), .int .u64 ((⟨l55, l59, x62, x63, x64, (⟨x65, x66⟩ : disk_Fall), x67, x68⟩ : disk_Disk).fall_.Keep), .int .i64 ((⟨l55, l59, x62, x63, x64, (⟨x65, x66⟩ : disk_Fall), x67, x68⟩ : disk_Disk).fall_.Tear), .int .i64 ((⟨l55, l59, x62, x63, x64, (⟨x65, x66⟩ : disk_Fall), x67, x68⟩ : disk_Disk).acts_), .int .i64 ((⟨l55, l59, x62, x63, x64, (⟨x65, x66⟩ : disk_Fall), x67, x68⟩ : disk_Disk).falls_)] 68, pt b49 ((eInt .i64).all ([0, 0, 0, 0, 0, 0, 0, 0, 0, 0] : List Int)).toArray 57, pt r23_b10 #[.pointer (some ⟨r23_b2, 0, none⟩), .int .i64 x69, .int .i64 x70] 47, pt b21 #[.int .u64 x2.Keep, .int .i64 x2.Tear] 55, own e_disk_sector 70 p56 c57 ((⟨l55, l59, x62, x63, x64, (⟨x65, x66⟩ : disk_Fall), x67, x68⟩ : disk_Disk).sure_), mpo (kInt .i64) (fun x : disk_sector => Value.agg #[.string x.s_, .int .i64 x.at_]) b61 ((⟨l55, l59, x62, x63, x64, (⟨x65, x66⟩ : disk_Fall), x67, x68⟩ : disk_Disk).wait_)] ++ F0))
          unfold F.law10_GuardWhole.r5 at hF
          refine cw_seq ?_
          refine cw_block ?_
          refine cw_seq ?_
          refine cw_region ?_
          refine ow_vals 2 (j := 2) [0, 5, 7, 8, 9, 10, 11, 57, 58] [(0, .slice p0 x0.length c0), (5, .pointer (some ⟨b21, 0, none⟩)), (7, .pointer (some ⟨r23_b2, 0, none⟩)), (8, .pointer (some ⟨r23_b10, 0, none⟩)), (9, .pointer (some ⟨b49, 0, none⟩)), (10, .int .i64 x53), (11, .int .i64 x54), (57, .slice p0 x0.length c0), (58, .int .i64 x54)] rfl (by kernel_rfl) ?_
          obtain ⟨y77, h78, hF⟩ := bind_some hF
          refine ow_pw rfl (pw_index_ro (E := 59) 3 hr0 rfl rfl rfl rfl rfl (by kernel_rfl) rfl rfl rfl h78 fun q79 h80 => nw_ow ?_)
          refine ow_pw rfl (pw_quiet (v := .agg #[.int .i64 y77.Kind, .int .i64 y77.I, .string y77.S]) rfl rfl rfl rfl (q_load_el0 0 rfl h80 rfl rfl (by kernel_rfl)) (nw_ow ?_))
          refine ow_pw rfl (pw_alloc (cs := #[.int .i64 0, .int .i64 0, .string (ByteArray.mk #[])]) rfl rfl rfl rfl rfl (by kernel_rfl) fun b81 => nw_ow ?_)
          refine ow_pw rfl (pw_store 0 #[.int .i64 y77.Kind, .int .i64 y77.I, .string y77.S] rfl rfl rfl rfl rfl rfl rfl (by kernel_rfl) (nw_H (H' := [pt b81 #[.int .i64 y77.Kind, .int .i64 y77.I, .string y77.S] 59, imm I, pt r23_b2 #[.slice p56 ((⟨l55, l59, x62, x63, x64, (⟨x65, x66⟩ : disk_Fall), x67, x68⟩ : disk_Disk).sure_).length c57, .map (some b61), .bool ((⟨l55, l59, x62, x63, x64, (⟨x65, x66⟩ : disk_Fall), x67, x68⟩ : disk_Disk).off_), .bool ((⟨l55, l59, x62, x63, x64, (⟨x65, x66⟩ : disk_Fall), x67, x68⟩ : disk_Disk).armed_), .int .i64 ((⟨l55, l59, x62, x63, x64, (⟨x65, x66⟩ : disk_Fall), x67, x68⟩ : disk_Disk).left_), .int .u64 ((⟨l55, l59, x62, x63, x64, (⟨x65, x66⟩ : disk_Fall), x67, x68⟩ : disk_Disk).fall_.Keep), .int .i64 ((⟨l55, l59, x62, x63, x64, (⟨x65, x66⟩ : disk_Fall), x67, x68⟩ : disk_Disk).fall_.Tear), .int .i64 ((⟨l55, l59, x62, x63, x64, (⟨x65, x66⟩ : disk_Fall), x67, x68⟩ : disk_Disk).acts_), .int .i64 ((⟨l55, l59, x62, x63, x64, (⟨x65, x66⟩ : disk_Fall), x67, x68⟩ : disk_Disk).falls_)] 68, pt b49 ((eInt .i64).all ([0, 0, 0, 0, 0, 0, 0, 0, 0, 0] : List Int)).toArray 57, pt r23_b10 #[.pointer (some ⟨r23_b2, 0, none⟩), .int .i64 x69, .int .i64 x70] 47, pt b21 #[.int .u64 x2.Keep, .int .i64 x2.Tear] 55, own e_disk_sector 70 p56 c57 ((⟨l55, l59, x62, x63, x64, (⟨x65, x66⟩ : disk_Fall), x67, x68⟩ : disk_Disk).sure_), mpo (kInt .i64) (fun x : disk_sector => Value.agg #[.string x.s_, .int .i64 x.at_]) b61 ((⟨l55, l59, x62, x63, x64, (⟨x65, x66⟩ : disk_Fall), x67, x68⟩ : disk_Disk).wait_)] ++ F0) rfl (nw_ow ?_)))
          refine ow_end rfl ?_
          refine ew_then ?_
          refine cw_seq ?_
          refine cw_region ?_
          refine ow_vals 1 (j := 1) [0, 5, 7, 8, 9, 10, 11, 12, 61] [(0, .slice p0 x0.length c0), (5, .pointer (some ⟨b21, 0, none⟩)), (7, .pointer (some ⟨r23_b2, 0, none⟩)), (8, .pointer (some ⟨r23_b10, 0, none⟩)), (9, .pointer (some ⟨b49, 0, none⟩)), (10, .int .i64 x53), (11, .int .i64 x54), (12, .pointer (some ⟨b81, 0, none⟩)), (61, .pointer (some ⟨b81, 0, none⟩))] rfl (by kernel_rfl) ?_
          refine ow_pw rfl (pw_quiet (v := .int .i64 y77.Kind) rfl rfl rfl rfl (q_load 0 rfl rfl rfl (by kernel_rfl)) (nw_ow ?_))
          refine ow_vals 1 (j := 3) [0, 5, 7, 8, 9, 10, 11, 12, 63] [(0, .slice p0 x0.length c0), (5, .pointer (some ⟨b21, 0, none⟩)), (7, .pointer (some ⟨r23_b2, 0, none⟩)), (8, .pointer (some ⟨r23_b10, 0, none⟩)), (9, .pointer (some ⟨b49, 0, none⟩)), (10, .int .i64 x53), (11, .int .i64 x54), (12, .pointer (some ⟨b81, 0, none⟩)), (63, .bool (y77.Kind == 1))] rfl (by kernel_rfl) ?_
          refine ow_end rfl ?_
          refine ew_then ?_
          rcases if_some hF with ⟨h83, hF⟩ | ⟨h83, hF⟩
          · refine cw_cond_t rfl rfl h83 ?_
            refine cw_seq ?_
            refine cw_region ?_
            refine ow_vals 1 (j := 1) [0, 5, 7, 8, 9, 10, 11, 64] [(0, .slice p0 x0.length c0), (5, .pointer (some ⟨b21, 0, none⟩)), (7, .pointer (some ⟨r23_b2, 0, none⟩)), (8, .pointer (some ⟨r23_b10, 0, none⟩)), (9, .pointer (some ⟨b49, 0, none⟩)), (10, .int .i64 x53), (11, .int .i64 x54), (64, .pointer (some ⟨r23_b10, 0, none⟩))] rfl (by kernel_rfl) ?_
            obtain ⟨r84, h85, hF⟩ := bind_some hF
            refine ow_pw rfl (pw_call (F := [pt b81 #[.int .i64 y77.Kind, .int .i64 y77.I, .string y77.S] 59, pt b49 ((eInt .i64).all ([0, 0, 0, 0, 0, 0, 0, 0, 0, 0] : List Int)).toArray 57, pt b21 #[.int .u64 x2.Keep, .int .i64 x2.Tear] 55] ++ F0) rfl rfl rfl rfl rfl rfl rfl (by kernel_rfl) (perm_of_pulls [1, 3, 1, 3, 3] rfl) (c_guard_Guard_Flush_1 _ (⟨x69, x70⟩ : guard_Guard) (⟨l55, l59, x62, x63, x64, (⟨x65, x66⟩ : disk_Fall), x67, x68⟩ : disk_Disk) r23_b10 p56 c57 b61 r23_b2 r84 h85) ?_)
            rintro _ _ ⟨r84_p1, r84_c2, r84_b4, rfl, rfl⟩
            refine nw_H (H' := [imm I, pt r23_b10 #[.pointer (some ⟨r23_b2, 0, none⟩), .int .i64 ((⟨x69, x70⟩ : guard_Guard).boot_), .int .i64 ((⟨x69, x70⟩ : guard_Guard).n_)] 47, pt r23_b2 #[.slice r84_p1 r84.2.sure_.length r84_c2, .map (some r84_b4), .bool r84.2.off_, .bool r84.2.armed_, .int .i64 r84.2.left_, .int .u64 r84.2.fall_.Keep, .int .i64 r84.2.fall_.Tear, .int .i64 r84.2.acts_, .int .i64 r84.2.falls_] 68, own e_disk_sector 70 r84_p1 r84_c2 r84.2.sure_, mpo (kInt .i64) (fun x : disk_sector => Value.agg #[.string x.s_, .int .i64 x.at_]) r84_b4 r84.2.wait_, pt b81 #[.int .i64 y77.Kind, .int .i64 y77.I, .string y77.S] 59, pt b49 ((eInt .i64).all ([0, 0, 0, 0, 0, 0, 0, 0, 0, 0] : List Int)).toArray 57, pt b21 #[.int .u64 x2.Keep, .int .i64 x2.Tear] 55] ++ F0) rfl (nw_ow ?_)
            refine ow_vals 1 (j := 3) [0, 5, 7, 8, 9, 10, 11, 66] [(0, .slice p0 x0.length c0), (5, .pointer (some ⟨b21, 0, none⟩)), (7, .pointer (some ⟨r23_b2, 0, none⟩)), (8, .pointer (some ⟨r23_b10, 0, none⟩)), (9, .pointer (some ⟨b49, 0, none⟩)), (10, .int .i64 x53), (11, .int .i64 x54), (66, .bool (r84.1 == 0))] rfl (by kernel_rfl) ?_
            refine ow_end rfl ?_
            refine ew_then ?_
            rcases if_some hF with ⟨h88, hF⟩ | ⟨h88, hF⟩
            · refine cw_cond_t rfl rfl h88 ?_
              refine cw_region ?_
              refine ow_vals 3 (j := 3) [0, 5, 7, 8, 9, 10, 11] [(0, .slice p0 x0.length c0), (5, .pointer (some ⟨b21, 0, none⟩)), (7, .pointer (some ⟨r23_b2, 0, none⟩)), (8, .pointer (some ⟨r23_b10, 0, none⟩)), (9, .pointer (some ⟨b49, 0, none⟩)), (10, .int .i64 (IntKind.i64.wrap (x54 + 1))), (11, .int .i64 x54)] rfl (by kernel_rfl) ?_
              refine ow_end rfl ?_
              refine ew_blk ?_
              refine ew_then ?_
              refine cw_region ?_
              refine ow_vals 3 (j := 3) [0, 5, 7, 8, 9, 10, 11] [(0, .slice p0 x0.length c0), (5, .pointer (some ⟨b21, 0, none⟩)), (7, .pointer (some ⟨r23_b2, 0, none⟩)), (8, .pointer (some ⟨r23_b10, 0, none⟩)), (9, .pointer (some ⟨b49, 0, none⟩)), (10, .int .i64 (IntKind.i64.wrap (x54 + 1))), (11, .int .i64 (IntKind.i64.wrap (x54 + 1)))] rfl (by kernel_rfl) ?_
              refine ow_end rfl ?_
              have hR := Option.some.inj hF
              subst hR
              have hR := hL52
              try dsimp only at hR
              exact fun a w hf hs => ⟨k, Nat.lt_succ_self k, IntKind.i64.wrap (x54 + 1), IntKind.i64.wrap (x54 + 1), r84.2.sure_, r84.2.wait_, r84.2.off_, r84.2.armed_, r84.2.left_, r84.2.fall_.Keep, r84.2.fall_.Tear, r84.2.acts_, r84.2.falls_, (⟨x69, x70⟩ : guard_Guard).boot_, (⟨x69, x70⟩ : guard_Guard).n_, r84_p1, r84_c2, r84_b4, hR, hf.keep [0, 5, 7, 8, 9, 10, 11], sat_to [5, 0, 4, 1, 0, 2, 0, 0] 1 rfl hs⟩
            · refine cw_cond_f rfl rfl h88 ?_
              refine cw_skip ?_
              refine ew_blk ?_
              refine ew_then ?_
              refine cw_region ?_
              refine ow_vals 3 (j := 3) [0, 5, 7, 8, 9, 10, 11] [(0, .slice p0 x0.length c0), (5, .pointer (some ⟨b21, 0, none⟩)), (7, .pointer (some ⟨r23_b2, 0, none⟩)), (8, .pointer (some ⟨r23_b10, 0, none⟩)), (9, .pointer (some ⟨b49, 0, none⟩)), (10, .int .i64 x53), (11, .int .i64 (IntKind.i64.wrap (x54 + 1)))] rfl (by kernel_rfl) ?_
              refine ow_end rfl ?_
              have hR := Option.some.inj hF
              subst hR
              have hR := hL52
              try dsimp only at hR
              exact fun a w hf hs => ⟨k, Nat.lt_succ_self k, x53, IntKind.i64.wrap (x54 + 1), r84.2.sure_, r84.2.wait_, r84.2.off_, r84.2.armed_, r84.2.left_, r84.2.fall_.Keep, r84.2.fall_.Tear, r84.2.acts_, r84.2.falls_, (⟨x69, x70⟩ : guard_Guard).boot_, (⟨x69, x70⟩ : guard_Guard).n_, r84_p1, r84_c2, r84_b4, hR, hf.keep [0, 5, 7, 8, 9, 10, 11], sat_to [5, 0, 4, 1, 0, 2, 0, 0] 1 rfl hs⟩
          · refine cw_cond_f rfl rfl h83 ?_
            refine cw_seq ?_
            refine cw_region ?_
            refine ow_vals 1 (j := 1) [0, 5, 7, 8, 9, 10, 11, 12, 69] [(0, .slice p0 x0.length c0), (5, .pointer (some ⟨b21, 0, none⟩)), (7, .pointer (some ⟨r23_b2, 0, none⟩)), (8, .pointer (some ⟨r23_b10, 0, none⟩)), (9, .pointer (some ⟨b49, 0, none⟩)), (10, .int .i64 x53), (11, .int .i64 x54), (12, .pointer (some ⟨b81, 0, none⟩)), (69, .pointer (some ⟨b81, 0, none⟩))] rfl (by kernel_rfl) ?_
            refine ow_pw rfl (pw_quiet (v := .int .i64 y77.Kind) rfl rfl rfl rfl (q_load 0 rfl rfl rfl (by kernel_rfl)) (nw_ow ?_))
            refine ow_vals 1 (j := 3) [0, 5, 7, 8, 9, 10, 11, 12, 71] [(0, .slice p0 x0.length c0), (5, .pointer (some ⟨b21, 0, none⟩)), (7, .pointer (some ⟨r23_b2, 0, none⟩)), (8, .pointer (some ⟨r23_b10, 0, none⟩)), (9, .pointer (some ⟨b49, 0, none⟩)), (10, .int .i64 x53), (11, .int .i64 x54), (12, .pointer (some ⟨b81, 0, none⟩)), (71, .bool (y77.Kind == 0))] rfl (by kernel_rfl) ?_
            refine ow_end rfl ?_
            refine ew_then ?_
            rcases if_some hF with ⟨h89, hF⟩ | ⟨h89, hF⟩
            · refine cw_cond_t rfl rfl h89 ?_
              refine cw_region ?_
              refine ow_vals 2 (j := 2) [0, 5, 7, 8, 9, 10, 11, 72, 73] [(0, .slice p0 x0.length c0), (5, .pointer (some ⟨b21, 0, none⟩)), (7, .pointer (some ⟨r23_b2, 0, none⟩)), (8, .pointer (some ⟨r23_b10, 0, none⟩)), (9, .pointer (some ⟨b49, 0, none⟩)), (10, .int .i64 x53), (11, .int .i64 x54), (72, .pointer (some ⟨r23_b10, 0, none⟩)), (73, .pointer (some ⟨b81, 1, none⟩))] rfl (by kernel_rfl) ?_
              refine ow_pw rfl (pw_quiet (v := .int .i64 y77.I) rfl rfl rfl rfl (q_load 0 rfl rfl rfl (by kernel_rfl)) (nw_ow ?_))
              obtain ⟨r90, h91, hF⟩ := bind_some hF
              refine ow_pw rfl (pw_call (F := [pt b81 #[.int .i64 y77.Kind, .int .i64 y77.I, .string y77.S] 59, pt b49 ((eInt .i64).all ([0, 0, 0, 0, 0, 0, 0, 0, 0, 0] : List Int)).toArray 57, pt b21 #[.int .u64 x2.Keep, .int .i64 x2.Tear] 55] ++ F0) rfl rfl rfl rfl rfl rfl rfl (by kernel_rfl) (perm_of_pulls [1, 3, 1, 3, 3] rfl) (c_guard_Guard_Erase_1 _ y77.I (⟨x69, x70⟩ : guard_Guard) (⟨l55, l59, x62, x63, x64, (⟨x65, x66⟩ : disk_Fall), x67, x68⟩ : disk_Disk) r23_b10 p56 c57 b61 r23_b2 r90 h91) ?_)
              rintro _ _ ⟨r90_p1, r90_c2, r90_b4, rfl, rfl⟩
              refine nw_H (H' := [imm I, pt r23_b10 #[.pointer (some ⟨r23_b2, 0, none⟩), .int .i64 ((⟨x69, x70⟩ : guard_Guard).boot_), .int .i64 ((⟨x69, x70⟩ : guard_Guard).n_)] 47, pt r23_b2 #[.slice r90_p1 r90.2.sure_.length r90_c2, .map (some r90_b4), .bool r90.2.off_, .bool r90.2.armed_, .int .i64 r90.2.left_, .int .u64 r90.2.fall_.Keep, .int .i64 r90.2.fall_.Tear, .int .i64 r90.2.acts_, .int .i64 r90.2.falls_] 68, own e_disk_sector 70 r90_p1 r90_c2 r90.2.sure_, mpo (kInt .i64) (fun x : disk_sector => Value.agg #[.string x.s_, .int .i64 x.at_]) r90_b4 r90.2.wait_, pt b81 #[.int .i64 y77.Kind, .int .i64 y77.I, .string y77.S] 59, pt b49 ((eInt .i64).all ([0, 0, 0, 0, 0, 0, 0, 0, 0, 0] : List Int)).toArray 57, pt b21 #[.int .u64 x2.Keep, .int .i64 x2.Tear] 55] ++ F0) rfl (nw_ow ?_)
              refine ow_end rfl ?_
              refine ew_blk ?_
              refine ew_then ?_
              refine cw_region ?_
              refine ow_vals 3 (j := 3) [0, 5, 7, 8, 9, 10, 11] [(0, .slice p0 x0.length c0), (5, .pointer (some ⟨b21, 0, none⟩)), (7, .pointer (some ⟨r23_b2, 0, none⟩)), (8, .pointer (some ⟨r23_b10, 0, none⟩)), (9, .pointer (some ⟨b49, 0, none⟩)), (10, .int .i64 x53), (11, .int .i64 (IntKind.i64.wrap (x54 + 1)))] rfl (by kernel_rfl) ?_
              refine ow_end rfl ?_
              have hR := Option.some.inj hF
              subst hR
              have hR := hL52
              try dsimp only at hR
              exact fun a w hf hs => ⟨k, Nat.lt_succ_self k, x53, IntKind.i64.wrap (x54 + 1), r90.2.sure_, r90.2.wait_, r90.2.off_, r90.2.armed_, r90.2.left_, r90.2.fall_.Keep, r90.2.fall_.Tear, r90.2.acts_, r90.2.falls_, (⟨x69, x70⟩ : guard_Guard).boot_, (⟨x69, x70⟩ : guard_Guard).n_, r90_p1, r90_c2, r90_b4, hR, hf.keep [0, 5, 7, 8, 9, 10, 11], sat_to [5, 0, 4, 1, 0, 2, 0, 0] 1 rfl hs⟩
            · refine cw_cond_f rfl rfl h89 ?_
              refine cw_region ?_
              refine ow_vals 2 (j := 2) [0, 5, 7, 8, 9, 10, 11, 12, 76, 77] [(0, .slice p0 x0.length c0), (5, .pointer (some ⟨b21, 0, none⟩)), (7, .pointer (some ⟨r23_b2, 0, none⟩)), (8, .pointer (some ⟨r23_b10, 0, none⟩)), (9, .pointer (some ⟨b49, 0, none⟩)), (10, .int .i64 x53), (11, .int .i64 x54), (12, .pointer (some ⟨b81, 0, none⟩)), (76, .pointer (some ⟨r23_b10, 0, none⟩)), (77, .pointer (some ⟨b81, 1, none⟩))] rfl (by kernel_rfl) ?_
              refine ow_pw rfl (pw_quiet (v := .int .i64 y77.I) rfl rfl rfl rfl (q_load 0 rfl rfl rfl (by kernel_rfl)) (nw_ow ?_))
              refine ow_vals 1 (j := 4) [0, 5, 7, 8, 9, 10, 11, 76, 78, 79] [(0, .slice p0 x0.length c0), (5, .pointer (some ⟨b21, 0, none⟩)), (7, .pointer (some ⟨r23_b2, 0, none⟩)), (8, .pointer (some ⟨r23_b10, 0, none⟩)), (9, .pointer (some ⟨b49, 0, none⟩)), (10, .int .i64 x53), (11, .int .i64 x54), (76, .pointer (some ⟨r23_b10, 0, none⟩)), (78, .int .i64 y77.I), (79, .pointer (some ⟨b81, 2, none⟩))] rfl (by kernel_rfl) ?_
              refine ow_pw rfl (pw_quiet (v := .string y77.S) rfl rfl rfl rfl (q_load 0 rfl rfl rfl (by kernel_rfl)) (nw_ow ?_))
              obtain ⟨r94, h95, hF⟩ := bind_some hF
              refine ow_pw rfl (pw_call (F := [pt b81 #[.int .i64 y77.Kind, .int .i64 y77.I, .string y77.S] 59, pt b49 ((eInt .i64).all ([0, 0, 0, 0, 0, 0, 0, 0, 0, 0] : List Int)).toArray 57, pt b21 #[.int .u64 x2.Keep, .int .i64 x2.Tear] 55] ++ F0) rfl rfl rfl rfl rfl rfl rfl (by kernel_rfl) (perm_of_pulls [1, 3, 1, 3, 3] rfl) (c_guard_Guard_Put _ y77.I y77.S (⟨x69, x70⟩ : guard_Guard) (⟨l55, l59, x62, x63, x64, (⟨x65, x66⟩ : disk_Fall), x67, x68⟩ : disk_Disk) r23_b10 p56 c57 b61 r23_b2 r94 h95) ?_)
              rintro _ _ ⟨r94_p1, r94_c2, r94_b4, rfl, rfl⟩
              refine nw_H (H' := [imm I, pt r23_b10 #[.pointer (some ⟨r23_b2, 0, none⟩), .int .i64 r94.2.2.1.boot_, .int .i64 r94.2.2.1.n_] 47, pt r23_b2 #[.slice r94_p1 r94.2.2.2.sure_.length r94_c2, .map (some r94_b4), .bool r94.2.2.2.off_, .bool r94.2.2.2.armed_, .int .i64 r94.2.2.2.left_, .int .u64 r94.2.2.2.fall_.Keep, .int .i64 r94.2.2.2.fall_.Tear, .int .i64 r94.2.2.2.acts_, .int .i64 r94.2.2.2.falls_] 68, own e_disk_sector 70 r94_p1 r94_c2 r94.2.2.2.sure_, mpo (kInt .i64) (fun x : disk_sector => Value.agg #[.string x.s_, .int .i64 x.at_]) r94_b4 r94.2.2.2.wait_, pt b81 #[.int .i64 y77.Kind, .int .i64 y77.I, .string y77.S] 59, pt b49 ((eInt .i64).all ([0, 0, 0, 0, 0, 0, 0, 0, 0, 0] : List Int)).toArray 57, pt b21 #[.int .u64 x2.Keep, .int .i64 x2.Tear] 55] ++ F0) rfl (nw_ow ?_)
              refine ow_end rfl ?_
              refine ew_blk ?_
              refine ew_then ?_
              refine cw_region ?_
              refine ow_vals 3 (j := 3) [0, 5, 7, 8, 9, 10, 11] [(0, .slice p0 x0.length c0), (5, .pointer (some ⟨b21, 0, none⟩)), (7, .pointer (some ⟨r23_b2, 0, none⟩)), (8, .pointer (some ⟨r23_b10, 0, none⟩)), (9, .pointer (some ⟨b49, 0, none⟩)), (10, .int .i64 x53), (11, .int .i64 (IntKind.i64.wrap (x54 + 1)))] rfl (by kernel_rfl) ?_
              refine ow_end rfl ?_
              have hR := Option.some.inj hF
              subst hR
              have hR := hL52
              try dsimp only at hR
              exact fun a w hf hs => ⟨k, Nat.lt_succ_self k, x53, IntKind.i64.wrap (x54 + 1), r94.2.2.2.sure_, r94.2.2.2.wait_, r94.2.2.2.off_, r94.2.2.2.armed_, r94.2.2.2.left_, r94.2.2.2.fall_.Keep, r94.2.2.2.fall_.Tear, r94.2.2.2.acts_, r94.2.2.2.falls_, r94.2.2.1.boot_, r94.2.2.1.n_, r94_p1, r94_c2, r94_b4, hR, hf.keep [0, 5, 7, 8, 9, 10, 11], sat_to [5, 0, 4, 1, 0, 2, 0, 0] 1 rfl hs⟩
      · rintro a w ⟨x98, l99, l103, x106, x107, x108, x109, x110, x111, x112, x113, x114, p100, c101, b105, hv, hf, hs⟩
        subst hv
        replace hF := hK51
        clear hK51
        try dsimp only at hF
        revert a w
        show CW _ _ _ 144 [(0, .slice p0 x0.length c0), (5, .pointer (some ⟨b21, 0, none⟩)), (7, .pointer (some ⟨r23_b2, 0, none⟩)), (9, .pointer (some ⟨b49, 0, none⟩)), (10, .int .i64 x98)] (SAT w0 ([imm I, pt r23_b2 #[.slice p100 l99.length c101, .map (some b105), .bool x106, .bool x107, .int .i64 x108, .int .u64 x109, .int .i64 x110, .int .i64 x111, .int .i64 x112] 68, pt b49 ((eInt .i64).all ([0, 0, 0, 0, 0, 0, 0, 0, 0, 0] : List Int)).toArray 57, pt r23_b10 #[.pointer (some ⟨r23_b2, 0, none⟩), .int .i64 x113, .int .i64 x114] 47, pt b21 #[.int .u64 x2.Keep, .int .i64 x2.Tear] 55, own e_disk_sector 70 p100 c101 l99, mpo (kInt .i64) (fun x : disk_sector => Value.agg #[.string x.s_, .int .i64 x.at_]) b105 l103] ++ F0))
        unfold F.law10_GuardWhole.r7 at hF
        refine cw_seq ?_
        refine cw_region ?_
        refine ow_vals 1 (j := 1) [0, 5, 7, 9, 10, 82] [(0, .slice p0 x0.length c0), (5, .pointer (some ⟨b21, 0, none⟩)), (7, .pointer (some ⟨r23_b2, 0, none⟩)), (9, .pointer (some ⟨b49, 0, none⟩)), (10, .int .i64 x98), (82, .pointer (some ⟨r23_b2, 0, none⟩))] rfl (by kernel_rfl) ?_
        refine ow_pw rfl (pw_quiet (v := .agg #[.int .u64 x2.Keep, .int .i64 x2.Tear]) rfl rfl rfl rfl (q_load 4 rfl rfl rfl (by kernel_rfl)) (nw_ow ?_))
        obtain ⟨r115, h116, hF⟩ := bind_some hF
        refine ow_pw rfl (pw_call (F := [pt b49 ((eInt .i64).all ([0, 0, 0, 0, 0, 0, 0, 0, 0, 0] : List Int)).toArray 57, pt r23_b10 #[.pointer (some ⟨r23_b2, 0, none⟩), .int .i64 x113, .int .i64 x114] 47, pt b21 #[.int .u64 x2.Keep, .int .i64 x2.Tear] 55] ++ F0) rfl rfl rfl rfl rfl rfl rfl (by kernel_rfl) (perm_of_pulls [0, 0, 3, 3] rfl) (c_disk_Disk_Crash _ x2 (⟨l99, l103, x106, x107, x108, (⟨x109, x110⟩ : disk_Fall), x111, x112⟩ : disk_Disk) p100 c101 b105 r23_b2 r115 h116) ?_)
        rintro _ _ ⟨r115_p1, r115_c2, r115_b4, rfl, rfl⟩
        refine nw_H (H' := [imm I, pt r23_b2 #[.slice r115_p1 r115.2.sure_.length r115_c2, .map (some r115_b4), .bool r115.2.off_, .bool r115.2.armed_, .int .i64 r115.2.left_, .int .u64 r115.2.fall_.Keep, .int .i64 r115.2.fall_.Tear, .int .i64 r115.2.acts_, .int .i64 r115.2.falls_] 68, own e_disk_sector 70 r115_p1 r115_c2 r115.2.sure_, mpo (kInt .i64) (fun x : disk_sector => Value.agg #[.string x.s_, .int .i64 x.at_]) r115_b4 r115.2.wait_, pt b49 ((eInt .i64).all ([0, 0, 0, 0, 0, 0, 0, 0, 0, 0] : List Int)).toArray 57, pt r23_b10 #[.pointer (some ⟨r23_b2, 0, none⟩), .int .i64 x113, .int .i64 x114] 47, pt b21 #[.int .u64 x2.Keep, .int .i64 x2.Tear] 55] ++ F0) rfl (nw_ow ?_)
        refine ow_end rfl ?_
        refine ew_then ?_
        refine cw_seq ?_
        refine cw_region ?_
        refine ow_vals 1 (j := 1) [0, 7, 9, 10, 85] [(0, .slice p0 x0.length c0), (7, .pointer (some ⟨r23_b2, 0, none⟩)), (9, .pointer (some ⟨b49, 0, none⟩)), (10, .int .i64 x98), (85, .pointer (some ⟨r23_b2, 0, none⟩))] rfl (by kernel_rfl) ?_
        obtain ⟨r119, h120, hF⟩ := bind_some hF
        refine ow_pw rfl (pw_call (F := [pt b49 ((eInt .i64).all ([0, 0, 0, 0, 0, 0, 0, 0, 0, 0] : List Int)).toArray 57, pt r23_b10 #[.pointer (some ⟨r23_b2, 0, none⟩), .int .i64 x113, .int .i64 x114] 47, pt b21 #[.int .u64 x2.Keep, .int .i64 x2.Tear] 55] ++ F0) rfl rfl rfl rfl rfl rfl rfl (by kernel_rfl) (perm_of_pulls [0, 0, 0, 0] rfl) (c_disk_Disk_Calm _ r115.2 r115_p1 r115_c2 r115_b4 r23_b2 r119 h120) ?_)
        rintro _ _ ⟨r119_p1, r119_c2, r119_b4, rfl, rfl⟩
        refine nw_H (H' := [imm I, pt r23_b2 #[.slice r119_p1 r119.sure_.length r119_c2, .map (some r119_b4), .bool r119.off_, .bool r119.armed_, .int .i64 r119.left_, .int .u64 r119.fall_.Keep, .int .i64 r119.fall_.Tear, .int .i64 r119.acts_, .int .i64 r119.falls_] 68, own e_disk_sector 70 r119_p1 r119_c2 r119.sure_, mpo (kInt .i64) (fun x : disk_sector => Value.agg #[.string x.s_, .int .i64 x.at_]) r119_b4 r119.wait_, pt b49 ((eInt .i64).all ([0, 0, 0, 0, 0, 0, 0, 0, 0, 0] : List Int)).toArray 57, pt r23_b10 #[.pointer (some ⟨r23_b2, 0, none⟩), .int .i64 x113, .int .i64 x114] 47, pt b21 #[.int .u64 x2.Keep, .int .i64 x2.Tear] 55] ++ F0) rfl (nw_ow ?_)
        refine ow_end rfl ?_
        refine ew_then ?_
        refine cw_seq ?_
        refine cw_seq ?_
        refine cw_region ?_
        refine ow_vals 1 (j := 1) [0, 7, 9, 10, 87] [(0, .slice p0 x0.length c0), (7, .pointer (some ⟨r23_b2, 0, none⟩)), (9, .pointer (some ⟨b49, 0, none⟩)), (10, .int .i64 x98), (87, .pointer (some ⟨r23_b2, 0, none⟩))] rfl (by kernel_rfl) ?_
        obtain ⟨r123, h124, hF⟩ := bind_some hF
        refine ow_pw rfl (pw_call (F := [pt b49 ((eInt .i64).all ([0, 0, 0, 0, 0, 0, 0, 0, 0, 0] : List Int)).toArray 57, pt r23_b10 #[.pointer (some ⟨r23_b2, 0, none⟩), .int .i64 x113, .int .i64 x114] 47, pt b21 #[.int .u64 x2.Keep, .int .i64 x2.Tear] 55] ++ F0) rfl rfl rfl rfl rfl rfl rfl (by kernel_rfl) (perm_of_pulls [0, 0, 0, 0] rfl) (c_disk_Disk_Start _ r119 r119_p1 r119_c2 r119_b4 r23_b2 r123 h124) ?_)
        rintro _ _ ⟨r123_p1, r123_c2, r123_b4, rfl, rfl⟩
        refine nw_H (H' := [imm I, pt r23_b2 #[.slice r123_p1 r123.2.sure_.length r123_c2, .map (some r123_b4), .bool r123.2.off_, .bool r123.2.armed_, .int .i64 r123.2.left_, .int .u64 r123.2.fall_.Keep, .int .i64 r123.2.fall_.Tear, .int .i64 r123.2.acts_, .int .i64 r123.2.falls_] 68, own e_disk_sector 70 r123_p1 r123_c2 r123.2.sure_, mpo (kInt .i64) (fun x : disk_sector => Value.agg #[.string x.s_, .int .i64 x.at_]) r123_b4 r123.2.wait_, pt b49 ((eInt .i64).all ([0, 0, 0, 0, 0, 0, 0, 0, 0, 0] : List Int)).toArray 57, pt r23_b10 #[.pointer (some ⟨r23_b2, 0, none⟩), .int .i64 x113, .int .i64 x114] 47, pt b21 #[.int .u64 x2.Keep, .int .i64 x2.Tear] 55] ++ F0) rfl (nw_ow ?_)
        refine ow_vals 1 (j := 3) [0, 7, 9, 10, 89] [(0, .slice p0 x0.length c0), (7, .pointer (some ⟨r23_b2, 0, none⟩)), (9, .pointer (some ⟨b49, 0, none⟩)), (10, .int .i64 x98), (89, .bool (r123.1 != 0))] rfl (by kernel_rfl) ?_
        refine ow_end rfl ?_
        refine ew_then ?_
        rcases if_some hF with ⟨h127, hF⟩ | ⟨h127, hF⟩
        · refine cw_cond_t rfl rfl h127 ?_
          refine cw_seq ?_
          refine cw_region ?_
          refine ow_vals 1 (j := 1) [6] [(6, .bool false)] rfl (by kernel_rfl) ?_
          refine ow_end rfl ?_
          refine ew_then ?_
          refine cw_ret ?_
          refine ew_then_ret ?_
          have hR := Option.some.inj hF
          subst hR
          exact fin1 (H1 := [imm I]) (fun w hs => sat_to [1, 1, 1, 1, 1, 1, 0] 6 rfl hs) rfl (rr_tmp rfl) ⟨rfl, rfl⟩
        · refine cw_cond_f rfl rfl h127 ?_
          refine cw_skip ?_
          refine ew_then ?_
          obtain ⟨v128, hF, hK128⟩ := thru_some hF
          refine cw_mid (fun a w => ∃ (l174 : List Int), .inl l174 = v128 ∧ l174.length = 10 ∧ Fr 144 [] a ∧ SAT w0 ([imm I, pt r23_b2 #[.slice r123_p1 r123.2.sure_.length r123_c2, .map (some r123_b4), .bool r123.2.off_, .bool r123.2.armed_, .int .i64 r123.2.left_, .int .u64 r123.2.fall_.Keep, .int .i64 r123.2.fall_.Tear, .int .i64 r123.2.acts_, .int .i64 r123.2.falls_] 68, pt b49 ((eInt .i64).all l174).toArray 57, pt r23_b10 #[.pointer (some ⟨r23_b2, 0, none⟩), .int .i64 x113, .int .i64 x114] 47, pt b21 #[.int .u64 x2.Keep, .int .i64 x2.Tear] 55, own e_disk_sector 70 r123_p1 r123_c2 r123.2.sure_, mpo (kInt .i64) (fun x : disk_sector => Value.agg #[.string x.s_, .int .i64 x.at_]) r123_b4 r123.2.wait_] ++ F0) w) ?_ ?_
          · refine cw_seq ?_
            refine cw_region ?_
            refine ow_vals 1 (j := 1) [0, 7, 9, 10, 13] [(0, .slice p0 x0.length c0), (7, .pointer (some ⟨r23_b2, 0, none⟩)), (9, .pointer (some ⟨b49, 0, none⟩)), (10, .int .i64 x98), (13, .int .i64 0)] rfl (by kernel_rfl) ?_
            refine ow_end rfl ?_
            refine ew_then ?_
            refine cw_block ?_
            refine fun a w hf hs => wp_rounds (fun k a w => ∃ (x130 : Int), ∃ (l131 : List Int), iter (fun x => F.law10_GuardWhole.l12 x0 x98 r123 x.1 x.2) k (x130, l131) = some v128 ∧ l131.length = 10 ∧ Fr 144 [(0, .slice p0 x0.length c0), (7, .pointer (some ⟨r23_b2, 0, none⟩)), (9, .pointer (some ⟨b49, 0, none⟩)), (10, .int .i64 x98), (13, .int .i64 x130)] a ∧ SAT w0 ([imm I, pt r23_b2 #[.slice r123_p1 r123.2.sure_.length r123_c2, .map (some r123_b4), .bool r123.2.off_, .bool r123.2.armed_, .int .i64 r123.2.left_, .int .u64 r123.2.fall_.Keep, .int .i64 r123.2.fall_.Tear, .int .i64 r123.2.acts_, .int .i64 r123.2.falls_] 68, pt b49 ((eInt .i64).all l131).toArray 57, pt r23_b10 #[.pointer (some ⟨r23_b2, 0, none⟩), .int .i64 x113, .int .i64 x114] 47, pt b21 #[.int .u64 x2.Keep, .int .i64 x2.Tear] 55, own e_disk_sector 70 r123_p1 r123_c2 r123.2.sure_, mpo (kInt .i64) (fun x : disk_sector => Value.agg #[.string x.s_, .int .i64 x.at_]) r123_b4 r123.2.wait_] ++ F0) w) ?_ FUEL a w ⟨0, ([0, 0, 0, 0, 0, 0, 0, 0, 0, 0] : List Int), hF, rfl, hf.keep [0, 7, 9, 10, 13], sat_to [0, 0, 2, 2, 2, 0, 0] 0 rfl hs⟩
            clear hf hs
            clear a w hF
            rintro k a w ⟨x130, l131, hF2, h132, hf, hs⟩
            obtain ⟨k, r129, rfl, hF, hL129⟩ := iter_some hF2
            clear hF2
            revert a w
            show CW _ _ _ 144 [(0, .slice p0 x0.length c0), (7, .pointer (some ⟨r23_b2, 0, none⟩)), (9, .pointer (some ⟨b49, 0, none⟩)), (10, .int .i64 x98), (13, .int .i64 x130)] (SAT w0 ([imm I, pt r23_b2 #[.slice r123_p1 r123.2.sure_.length r123_c2, .map (some r123_b4), .bool r123.2.off_, .bool r123.2.armed_, .int .i64 r123.2.left_, .int .u64 r123.2.fall_.Keep, .int .i64 r123.2.fall_.Tear, .int .i64 r123.2.acts_, .int .i64 r123.2.falls_] 68, pt b49 ((eInt .i64).all l131).toArray 57, pt r23_b10 #[.pointer (some ⟨r23_b2, 0, none⟩), .int .i64 x113, .int .i64 x114] 47, pt b21 #[.int .u64 x2.Keep, .int .i64 x2.Tear] 55, own e_disk_sector 70 r123_p1 r123_c2 r123.2.sure_, mpo (kInt .i64) (fun x : disk_sector => Value.agg #[.string x.s_, .int .i64 x.at_]) r123_b4 r123.2.wait_] ++ F0))
            try dsimp only at hF
            unfold F.law10_GuardWhole.l12 at hF
            refine cw_seq ?_
            refine cw_seq ?_
            refine cw_region ?_
            refine ow_vals 2 (j := 2) [0, 7, 9, 10, 13, 91] [(0, .slice p0 x0.length c0), (7, .pointer (some ⟨r23_b2, 0, none⟩)), (9, .pointer (some ⟨b49, 0, none⟩)), (10, .int .i64 x98), (13, .int .i64 x130), (91, .bool (decide (x130 < 10)))] rfl (by kernel_rfl) ?_
            refine ow_end rfl ?_
            refine ew_then ?_
            rcases if_some hF with ⟨h133, hF⟩ | ⟨h133, hF⟩
            · refine cw_cond_t rfl rfl h133 ?_
              refine cw_skip ?_
              refine ew_then ?_
              obtain ⟨v134, hF, hK134⟩ := thru_some hF
              refine cw_mid (fun a w => ∃ (l172 : List Int), .inl l172 = v134 ∧ l172.length = 10 ∧ Fr 144 [(0, .slice p0 x0.length c0), (7, .pointer (some ⟨r23_b2, 0, none⟩)), (9, .pointer (some ⟨b49, 0, none⟩)), (10, .int .i64 x98), (13, .int .i64 x130)] a ∧ SAT w0 ([imm I, pt r23_b2 #[.slice r123_p1 r123.2.sure_.length r123_c2, .map (some r123_b4), .bool r123.2.off_, .bool r123.2.armed_, .int .i64 r123.2.left_, .int .u64 r123.2.fall_.Keep, .int .i64 r123.2.fall_.Tear, .int .i64 r123.2.acts_, .int .i64 r123.2.falls_] 68, pt b49 ((eInt .i64).all l172).toArray 57, pt r23_b10 #[.pointer (some ⟨r23_b2, 0, none⟩), .int .i64 x113, .int .i64 x114] 47, pt b21 #[.int .u64 x2.Keep, .int .i64 x2.Tear] 55, own e_disk_sector 70 r123_p1 r123_c2 r123.2.sure_, mpo (kInt .i64) (fun x : disk_sector => Value.agg #[.string x.s_, .int .i64 x.at_]) r123_b4 r123.2.wait_] ++ F0) w) ?_ ?_
              · refine cw_block ?_
                obtain ⟨v135, hF, hK135⟩ := bind_some hF
                refine cw_mid (fun a w => ∃ (l165 : List Int), l165 = v135 ∧ l165.length = 10 ∧ Fr 144 [(0, .slice p0 x0.length c0), (7, .pointer (some ⟨r23_b2, 0, none⟩)), (9, .pointer (some ⟨b49, 0, none⟩)), (10, .int .i64 x98), (13, .int .i64 x130)] a ∧ SAT w0 ([imm I, pt r23_b2 #[.slice r123_p1 r123.2.sure_.length r123_c2, .map (some r123_b4), .bool r123.2.off_, .bool r123.2.armed_, .int .i64 r123.2.left_, .int .u64 r123.2.fall_.Keep, .int .i64 r123.2.fall_.Tear, .int .i64 r123.2.acts_, .int .i64 r123.2.falls_] 68, pt b49 ((eInt .i64).all l165).toArray 57, pt r23_b10 #[.pointer (some ⟨r23_b2, 0, none⟩), .int .i64 x113, .int .i64 x114] 47, pt b21 #[.int .u64 x2.Keep, .int .i64 x2.Tear] 55, own e_disk_sector 70 r123_p1 r123_c2 r123.2.sure_, mpo (kInt .i64) (fun x : disk_sector => Value.agg #[.string x.s_, .int .i64 x.at_]) r123_b4 r123.2.wait_] ++ F0) w) ?_ ?_
                · refine cw_seq ?_
                  refine cw_region ?_
                  refine ow_vals 1 (j := 1) [0, 7, 9, 10, 13, 14] [(0, .slice p0 x0.length c0), (7, .pointer (some ⟨r23_b2, 0, none⟩)), (9, .pointer (some ⟨b49, 0, none⟩)), (10, .int .i64 x98), (13, .int .i64 x130), (14, .int .i64 0)] rfl (by kernel_rfl) ?_
                  refine ow_end rfl ?_
                  refine ew_then ?_
                  refine cw_block ?_
                  refine fun a w hf hs => wp_rounds (fun k a w => ∃ (x137 : Int), ∃ (l138 : List Int), iter (fun x => F.law10_GuardWhole.l9 x0 x98 x130 x.1 x.2) k (x137, l138) = some v135 ∧ l138.length = 10 ∧ Fr 144 [(0, .slice p0 x0.length c0), (7, .pointer (some ⟨r23_b2, 0, none⟩)), (9, .pointer (some ⟨b49, 0, none⟩)), (10, .int .i64 x98), (13, .int .i64 x130), (14, .int .i64 x137)] a ∧ SAT w0 ([imm I, pt r23_b2 #[.slice r123_p1 r123.2.sure_.length r123_c2, .map (some r123_b4), .bool r123.2.off_, .bool r123.2.armed_, .int .i64 r123.2.left_, .int .u64 r123.2.fall_.Keep, .int .i64 r123.2.fall_.Tear, .int .i64 r123.2.acts_, .int .i64 r123.2.falls_] 68, pt b49 ((eInt .i64).all l138).toArray 57, pt r23_b10 #[.pointer (some ⟨r23_b2, 0, none⟩), .int .i64 x113, .int .i64 x114] 47, pt b21 #[.int .u64 x2.Keep, .int .i64 x2.Tear] 55, own e_disk_sector 70 r123_p1 r123_c2 r123.2.sure_, mpo (kInt .i64) (fun x : disk_sector => Value.agg #[.string x.s_, .int .i64 x.at_]) r123_b4 r123.2.wait_] ++ F0) w) ?_ FUEL a w ⟨0, l131, hF, h132, hf.keep [0, 7, 9, 10, 13, 14], sat_to [0, 0, 0, 0, 0, 0, 0] 0 rfl hs⟩
                  clear hf hs
                  clear a w hF
                  rintro k a w ⟨x137, l138, hF2, h139, hf, hs⟩
                  obtain ⟨k, r136, rfl, hF, hL136⟩ := iter_some hF2
                  clear hF2
                  revert a w
                  show CW _ _ _ 144 [(0, .slice p0 x0.length c0), (7, .pointer (some ⟨r23_b2, 0, none⟩)), (9, .pointer (some ⟨b49, 0, none⟩)), (10, .int .i64 x98), (13, .int .i64 x130), (14, .int .i64 x137)] (SAT w0 ([imm I, pt r23_b2 #[.slice r123_p1 r123.2.sure_.length r123_c2, .map (some r123_b4), .bool r123.2.off_, .bool r123.2.armed_, .int .i64 r123.2.left_, .int .u64 r123.2.fall_.Keep, .int .i64 r123.2.fall_.Tear, .int .i64 r123.2.acts_, .int .i64 r123.2.falls_] 68, pt b49 ((eInt .i64).all l138).toArray 57, pt r23_b10 #[.pointer (some ⟨r23_b2, 0, none⟩), .int .i64 x113, .int .i64 x114] 47, pt b21 #[.int .u64 x2.Keep, .int .i64 x2.Tear] 55, own e_disk_sector 70 r123_p1 r123_c2 r123.2.sure_, mpo (kInt .i64) (fun x : disk_sector => Value.agg #[.string x.s_, .int .i64 x.at_]) r123_b4 r123.2.wait_] ++ F0))
                  try dsimp only at hF
                  unfold F.law10_GuardWhole.l9 at hF
                  refine cw_seq ?_
                  refine cw_seq ?_
                  refine cw_region ?_
                  refine ow_vals 3 (j := 3) [0, 7, 9, 10, 13, 14, 96] [(0, .slice p0 x0.length c0), (7, .pointer (some ⟨r23_b2, 0, none⟩)), (9, .pointer (some ⟨b49, 0, none⟩)), (10, .int .i64 x98), (13, .int .i64 x130), (14, .int .i64 x137), (96, .bool (decide (x137 < x98)))] rfl (by kernel_rfl) ?_
                  refine ow_end rfl ?_
                  refine ew_then ?_
                  rcases if_some hF with ⟨h140, hF⟩ | ⟨h140, hF⟩
                  · refine cw_cond_t rfl rfl h140 ?_
                    refine cw_skip ?_
                    refine ew_then ?_
                    refine cw_seq ?_
                    refine cw_block ?_
                    obtain ⟨v141, hF, hK141⟩ := bind_some hF
                    refine cw_mid (fun a w => ∃ (x161 : Bool), x161 = v141 ∧ Fr 144 [(0, .slice p0 x0.length c0), (7, .pointer (some ⟨r23_b2, 0, none⟩)), (9, .pointer (some ⟨b49, 0, none⟩)), (10, .int .i64 x98), (13, .int .i64 x130), (14, .int .i64 x137), (130, .bool x161)] a ∧ SAT w0 ([imm I, pt r23_b2 #[.slice r123_p1 r123.2.sure_.length r123_c2, .map (some r123_b4), .bool r123.2.off_, .bool r123.2.armed_, .int .i64 r123.2.left_, .int .u64 r123.2.fall_.Keep, .int .i64 r123.2.fall_.Tear, .int .i64 r123.2.acts_, .int .i64 r123.2.falls_] 68, pt b49 ((eInt .i64).all l138).toArray 57, pt r23_b10 #[.pointer (some ⟨r23_b2, 0, none⟩), .int .i64 x113, .int .i64 x114] 47, pt b21 #[.int .u64 x2.Keep, .int .i64 x2.Tear] 55, own e_disk_sector 70 r123_p1 r123_c2 r123.2.sure_, mpo (kInt .i64) (fun x : disk_sector => Value.agg #[.string x.s_, .int .i64 x.at_]) r123_b4 r123.2.wait_] ++ F0) w) ?_ ?_
                    · refine cw_region ?_
                      refine ow_vals 2 (j := 2) [0, 7, 9, 10, 13, 14, 99, 100] [(0, .slice p0 x0.length c0), (7, .pointer (some ⟨r23_b2, 0, none⟩)), (9, .pointer (some ⟨b49, 0, none⟩)), (10, .int .i64 x98), (13, .int .i64 x130), (14, .int .i64 x137), (99, .slice p0 x0.length c0), (100, .int .i64 x137)] rfl (by kernel_rfl) ?_
                      obtain ⟨y142, h143, hF⟩ := bind_some hF
                      refine ow_pw rfl (pw_index_ro (E := 59) 3 hr0 rfl rfl rfl rfl rfl (by kernel_rfl) rfl rfl rfl h143 fun q144 h145 => nw_ow ?_)
                      refine ow_vals 1 (j := 4) [0, 7, 9, 10, 13, 14, 102] [(0, .slice p0 x0.length c0), (7, .pointer (some ⟨r23_b2, 0, none⟩)), (9, .pointer (some ⟨b49, 0, none⟩)), (10, .int .i64 x98), (13, .int .i64 x130), (14, .int .i64 x137), (102, .pointer (some (q144.add 1)))] rfl (by kernel_rfl) ?_
                      refine ow_pw rfl (pw_quiet (v := .int .i64 y142.I) rfl rfl rfl rfl (q_load_el 0 rfl h145 rfl rfl (by kernel_rfl)) (nw_ow ?_))
                      refine ow_vals 3 (j := 8) [0, 7, 9, 10, 13, 14, 106] [(0, .slice p0 x0.length c0), (7, .pointer (some ⟨r23_b2, 0, none⟩)), (9, .pointer (some ⟨b49, 0, none⟩)), (10, .int .i64 x98), (13, .int .i64 x130), (14, .int .i64 x137), (106, .bool (y142.I == x130))] rfl (by kernel_rfl) ?_
                      rcases if_some hF with ⟨h146, hF⟩ | ⟨h146, hF⟩
                      · refine ow_slots (L' := [(0, .slice p0 x0.length c0), (7, .pointer (some ⟨r23_b2, 0, none⟩)), (9, .pointer (some ⟨b49, 0, none⟩)), (10, .int .i64 x98), (13, .int .i64 x130), (14, .int .i64 x137), (106, .bool true)]) (by rw [h146]) ?_
                        refine ow_vals 2 (j := 10) [0, 7, 9, 10, 13, 14, 106, 107, 108] [(0, .slice p0 x0.length c0), (7, .pointer (some ⟨r23_b2, 0, none⟩)), (9, .pointer (some ⟨b49, 0, none⟩)), (10, .int .i64 x98), (13, .int .i64 x130), (14, .int .i64 x137), (106, .bool true), (107, .slice p0 x0.length c0), (108, .int .i64 x137)] rfl (by kernel_rfl) ?_
                        obtain ⟨y147, h148, hF⟩ := bind_some hF
                        refine ow_pw rfl (pw_index_ro (E := 59) 3 hr0 rfl rfl rfl rfl rfl (by kernel_rfl) rfl rfl rfl h148 fun q149 h150 => nw_ow ?_)
                        refine ow_vals 1 (j := 12) [0, 7, 9, 10, 13, 14, 106, 110] [(0, .slice p0 x0.length c0), (7, .pointer (some ⟨r23_b2, 0, none⟩)), (9, .pointer (some ⟨b49, 0, none⟩)), (10, .int .i64 x98), (13, .int .i64 x130), (14, .int .i64 x137), (106, .bool true), (110, .pointer (some (q149.add 0)))] rfl (by kernel_rfl) ?_
                        refine ow_pw rfl (pw_quiet (v := .int .i64 y147.Kind) rfl rfl rfl rfl (q_load_el 0 rfl h150 rfl rfl (by kernel_rfl)) (nw_ow ?_))
                        refine ow_vals 3 (j := 16) [0, 7, 9, 10, 13, 14, 114] [(0, .slice p0 x0.length c0), (7, .pointer (some ⟨r23_b2, 0, none⟩)), (9, .pointer (some ⟨b49, 0, none⟩)), (10, .int .i64 x98), (13, .int .i64 x130), (14, .int .i64 x137), (114, .bool (y147.Kind != 1))] rfl (by kernel_rfl) ?_
                        rcases if_some hF with ⟨h151, hF⟩ | ⟨h151, hF⟩
                        · refine ow_slots (L' := [(0, .slice p0 x0.length c0), (7, .pointer (some ⟨r23_b2, 0, none⟩)), (9, .pointer (some ⟨b49, 0, none⟩)), (10, .int .i64 x98), (13, .int .i64 x130), (14, .int .i64 x137), (114, .bool true)]) (by rw [h151]) ?_
                          refine ow_vals 2 (j := 18) [0, 7, 9, 10, 13, 14, 114, 115, 116] [(0, .slice p0 x0.length c0), (7, .pointer (some ⟨r23_b2, 0, none⟩)), (9, .pointer (some ⟨b49, 0, none⟩)), (10, .int .i64 x98), (13, .int .i64 x130), (14, .int .i64 x137), (114, .bool true), (115, .slice p0 x0.length c0), (116, .int .i64 x137)] rfl (by kernel_rfl) ?_
                          obtain ⟨y152, h153, hF⟩ := bind_some hF
                          refine ow_pw rfl (pw_index_ro (E := 59) 3 hr0 rfl rfl rfl rfl rfl (by kernel_rfl) rfl rfl rfl h153 fun q154 h155 => nw_ow ?_)
                          refine ow_vals 1 (j := 20) [0, 7, 9, 10, 13, 14, 114, 118] [(0, .slice p0 x0.length c0), (7, .pointer (some ⟨r23_b2, 0, none⟩)), (9, .pointer (some ⟨b49, 0, none⟩)), (10, .int .i64 x98), (13, .int .i64 x130), (14, .int .i64 x137), (114, .bool true), (118, .pointer (some (q154.add 0)))] rfl (by kernel_rfl) ?_
                          refine ow_pw rfl (pw_quiet (v := .int .i64 y152.Kind) rfl rfl rfl rfl (q_load_el 0 rfl h155 rfl rfl (by kernel_rfl)) (nw_ow ?_))
                          refine ow_vals 2 (j := 23) [0, 7, 9, 10, 13, 14, 114, 121] [(0, .slice p0 x0.length c0), (7, .pointer (some ⟨r23_b2, 0, none⟩)), (9, .pointer (some ⟨b49, 0, none⟩)), (10, .int .i64 x98), (13, .int .i64 x130), (14, .int .i64 x137), (114, .bool true), (121, .bool (y152.Kind == 0))] rfl (by kernel_rfl) ?_
                          rcases if_some hF with ⟨h156, hF⟩ | ⟨h156, hF⟩
                          · refine ow_slots (L' := [(0, .slice p0 x0.length c0), (7, .pointer (some ⟨r23_b2, 0, none⟩)), (9, .pointer (some ⟨b49, 0, none⟩)), (10, .int .i64 x98), (13, .int .i64 x130), (14, .int .i64 x137), (114, .bool true), (121, .bool true)]) (by rw [h156]) ?_
                            refine ow_vals 9 (j := 32) [0, 7, 9, 10, 13, 14, 130] [(0, .slice p0 x0.length c0), (7, .pointer (some ⟨r23_b2, 0, none⟩)), (9, .pointer (some ⟨b49, 0, none⟩)), (10, .int .i64 x98), (13, .int .i64 x130), (14, .int .i64 x137), (130, .bool true)] rfl (by kernel_rfl) ?_
                            refine ow_end rfl ?_
                            have hR := Option.some.inj hF
                            exact fun a w hf hs => ⟨true, hR, hf.keep [0, 7, 9, 10, 13, 14, 130], sat_to [0, 0, 0, 0, 0, 0, 0] 0 rfl hs⟩
                          · refine ow_slots (L' := [(0, .slice p0 x0.length c0), (7, .pointer (some ⟨r23_b2, 0, none⟩)), (9, .pointer (some ⟨b49, 0, none⟩)), (10, .int .i64 x98), (13, .int .i64 x130), (14, .int .i64 x137), (114, .bool true), (121, .bool false)]) (by rw [h156]) ?_
                            refine ow_vals 2 (j := 25) [0, 7, 9, 10, 13, 14, 114, 121, 122, 123] [(0, .slice p0 x0.length c0), (7, .pointer (some ⟨r23_b2, 0, none⟩)), (9, .pointer (some ⟨b49, 0, none⟩)), (10, .int .i64 x98), (13, .int .i64 x130), (14, .int .i64 x137), (114, .bool true), (121, .bool false), (122, .slice p0 x0.length c0), (123, .int .i64 x137)] rfl (by kernel_rfl) ?_
                            obtain ⟨y157, h158, hF⟩ := bind_some hF
                            refine ow_pw rfl (pw_index_ro (E := 59) 3 hr0 rfl rfl rfl rfl rfl (by kernel_rfl) rfl rfl rfl h158 fun q159 h160 => nw_ow ?_)
                            refine ow_vals 1 (j := 27) [0, 7, 9, 10, 13, 14, 114, 121, 125] [(0, .slice p0 x0.length c0), (7, .pointer (some ⟨r23_b2, 0, none⟩)), (9, .pointer (some ⟨b49, 0, none⟩)), (10, .int .i64 x98), (13, .int .i64 x130), (14, .int .i64 x137), (114, .bool true), (121, .bool false), (125, .pointer (some (q159.add 2)))] rfl (by kernel_rfl) ?_
                            refine ow_pw rfl (pw_quiet (v := .string y157.S) rfl rfl rfl rfl (q_load_el 0 rfl h160 rfl rfl (by kernel_rfl)) (nw_ow ?_))
                            refine ow_vals 4 (j := 32) [0, 7, 9, 10, 13, 14, 130] [(0, .slice p0 x0.length c0), (7, .pointer (some ⟨r23_b2, 0, none⟩)), (9, .pointer (some ⟨b49, 0, none⟩)), (10, .int .i64 x98), (13, .int .i64 x130), (14, .int .i64 x137), (130, .bool (decide ((y157.S.size : Int) ≤ 47)))] rfl (by kernel_rfl) ?_
                            refine ow_end rfl ?_
                            have hR := Option.some.inj hF
                            exact fun a w hf hs => ⟨decide ((y157.S.size : Int) ≤ 47), hR, hf.keep [0, 7, 9, 10, 13, 14, 130], sat_to [0, 0, 0, 0, 0, 0, 0] 0 rfl hs⟩
                        · refine ow_slots (L' := [(0, .slice p0 x0.length c0), (7, .pointer (some ⟨r23_b2, 0, none⟩)), (9, .pointer (some ⟨b49, 0, none⟩)), (10, .int .i64 x98), (13, .int .i64 x130), (14, .int .i64 x137), (114, .bool false)]) (by rw [h151]) ?_
                          refine ow_vals 16 (j := 32) [0, 7, 9, 10, 13, 14, 130] [(0, .slice p0 x0.length c0), (7, .pointer (some ⟨r23_b2, 0, none⟩)), (9, .pointer (some ⟨b49, 0, none⟩)), (10, .int .i64 x98), (13, .int .i64 x130), (14, .int .i64 x137), (130, .bool false)] rfl (by kernel_rfl) ?_
                          refine ow_end rfl ?_
                          have hR := Option.some.inj hF
                          exact fun a w hf hs => ⟨false, hR, hf.keep [0, 7, 9, 10, 13, 14, 130], sat_to [0, 0, 0, 0, 0, 0, 0] 0 rfl hs⟩
                      · refine ow_slots (L' := [(0, .slice p0 x0.length c0), (7, .pointer (some ⟨r23_b2, 0, none⟩)), (9, .pointer (some ⟨b49, 0, none⟩)), (10, .int .i64 x98), (13, .int .i64 x130), (14, .int .i64 x137), (106, .bool false)]) (by rw [h146]) ?_
                        refine ow_vals 24 (j := 32) [0, 7, 9, 10, 13, 14, 130] [(0, .slice p0 x0.length c0), (7, .pointer (some ⟨r23_b2, 0, none⟩)), (9, .pointer (some ⟨b49, 0, none⟩)), (10, .int .i64 x98), (13, .int .i64 x130), (14, .int .i64 x137), (130, .bool false)] rfl (by kernel_rfl) ?_
                        refine ow_end rfl ?_
                        have hR := Option.some.inj hF
                        exact fun a w hf hs => ⟨false, hR, hf.keep [0, 7, 9, 10, 13, 14, 130], sat_to [0, 0, 0, 0, 0, 0, 0] 0 rfl hs⟩
                    · rintro a w ⟨x161, hv, hf, hs⟩
                      subst hv
                      replace hF := hK141
                      clear hK141
                      try dsimp only at hF
                      revert a w
                      show CW _ _ _ 144 [(0, .slice p0 x0.length c0), (7, .pointer (some ⟨r23_b2, 0, none⟩)), (9, .pointer (some ⟨b49, 0, none⟩)), (10, .int .i64 x98), (13, .int .i64 x130), (14, .int .i64 x137), (130, .bool x161)] (SAT w0 ([imm I, pt r23_b2 #[.slice r123_p1 r123.2.sure_.length r123_c2, .map (some r123_b4), .bool r123.2.off_, .bool r123.2.armed_, .int .i64 r123.2.left_, .int .u64 r123.2.fall_.Keep, .int .i64 r123.2.fall_.Tear, .int .i64 r123.2.acts_, .int .i64 r123.2.falls_] 68, pt b49 ((eInt .i64).all l138).toArray 57, pt r23_b10 #[.pointer (some ⟨r23_b2, 0, none⟩), .int .i64 x113, .int .i64 x114] 47, pt b21 #[.int .u64 x2.Keep, .int .i64 x2.Tear] 55, own e_disk_sector 70 r123_p1 r123_c2 r123.2.sure_, mpo (kInt .i64) (fun x : disk_sector => Value.agg #[.string x.s_, .int .i64 x.at_]) r123_b4 r123.2.wait_] ++ F0))
                      unfold F.law10_GuardWhole.r8 at hF
                      rcases if_some hF with ⟨h162, hF⟩ | ⟨h162, hF⟩
                      · refine cw_cond_t rfl rfl h162 ?_
                        refine cw_region ?_
                        refine ow_vals 3 (j := 3) [0, 7, 9, 10, 13, 14, 131, 133] [(0, .slice p0 x0.length c0), (7, .pointer (some ⟨r23_b2, 0, none⟩)), (9, .pointer (some ⟨b49, 0, none⟩)), (10, .int .i64 x98), (13, .int .i64 x130), (14, .int .i64 x137), (131, .int .i64 x130), (133, .int .i64 (IntKind.i64.wrap (x137 + 1)))] rfl (by kernel_rfl) ?_
                        obtain ⟨y163, h164, hF⟩ := bind_some hF
                        refine ow_pw rfl (pw_quiet (v := .pointer (some ((⟨b49, 0, none⟩ : Addr).add (x130.toNat * 1)))) rfl rfl rfl rfl (q_index_arr (m := 10) (E := 3) (sz := 1) (tot := 10) rfl (by kernel_rfl) rfl rfl h139 h164) (nw_ow ?_))
                        refine ow_pw rfl (pw_store_arr_el 2 (z' := IntKind.i64.wrap (x137 + 1)) rfl rfl rfl rfl rfl rfl rfl (by kernel_rfl) rfl rfl rfl h164 rfl (nw_H (H' := [imm I, pt r23_b2 #[.slice r123_p1 r123.2.sure_.length r123_c2, .map (some r123_b4), .bool r123.2.off_, .bool r123.2.armed_, .int .i64 r123.2.left_, .int .u64 r123.2.fall_.Keep, .int .i64 r123.2.fall_.Tear, .int .i64 r123.2.acts_, .int .i64 r123.2.falls_] 68, pt b49 ((eInt .i64).all (l138.set x130.toNat (IntKind.i64.wrap (x137 + 1)))).toArray 57, pt r23_b10 #[.pointer (some ⟨r23_b2, 0, none⟩), .int .i64 x113, .int .i64 x114] 47, pt b21 #[.int .u64 x2.Keep, .int .i64 x2.Tear] 55, own e_disk_sector 70 r123_p1 r123_c2 r123.2.sure_, mpo (kInt .i64) (fun x : disk_sector => Value.agg #[.string x.s_, .int .i64 x.at_]) r123_b4 r123.2.wait_] ++ F0) rfl (nw_ow ?_)))
                        refine ow_end rfl ?_
                        refine ew_blk ?_
                        refine ew_then ?_
                        refine cw_region ?_
                        refine ow_vals 3 (j := 3) [0, 7, 9, 10, 13, 14] [(0, .slice p0 x0.length c0), (7, .pointer (some ⟨r23_b2, 0, none⟩)), (9, .pointer (some ⟨b49, 0, none⟩)), (10, .int .i64 x98), (13, .int .i64 x130), (14, .int .i64 (IntKind.i64.wrap (x137 + 1)))] rfl (by kernel_rfl) ?_
                        refine ow_end rfl ?_
                        have hR := Option.some.inj hF
                        subst hR
                        have hR := hL136
                        try dsimp only at hR
                        exact fun a w hf hs => ⟨k, Nat.lt_succ_self k, IntKind.i64.wrap (x137 + 1), l138.set x130.toNat (IntKind.i64.wrap (x137 + 1)), hR, (by rw [List.length_set]; exact h139), hf.keep [0, 7, 9, 10, 13, 14], sat_to [0, 0, 0, 0, 0, 0, 0] 0 rfl hs⟩
                      · refine cw_cond_f rfl rfl h162 ?_
                        refine cw_skip ?_
                        refine ew_blk ?_
                        refine ew_then ?_
                        refine cw_region ?_
                        refine ow_vals 3 (j := 3) [0, 7, 9, 10, 13, 14] [(0, .slice p0 x0.length c0), (7, .pointer (some ⟨r23_b2, 0, none⟩)), (9, .pointer (some ⟨b49, 0, none⟩)), (10, .int .i64 x98), (13, .int .i64 x130), (14, .int .i64 (IntKind.i64.wrap (x137 + 1)))] rfl (by kernel_rfl) ?_
                        refine ow_end rfl ?_
                        have hR := Option.some.inj hF
                        subst hR
                        have hR := hL136
                        try dsimp only at hR
                        exact fun a w hf hs => ⟨k, Nat.lt_succ_self k, IntKind.i64.wrap (x137 + 1), l138, hR, h139, hf.keep [0, 7, 9, 10, 13, 14], sat_to [0, 0, 0, 0, 0, 0, 0] 0 rfl hs⟩
                  · refine cw_cond_f rfl rfl h140 ?_
                    refine cw_exit ?_
                    refine ew_then_exit ?_
                    refine ew_then_exit ?_
                    refine ew_blk_exit ?_
                    have hR := Option.some.inj hF
                    subst hR
                    have hR := hL136
                    try dsimp only at hR
                    exact fun a w hf hs => ⟨l138, hR, h139, hf.keep [0, 7, 9, 10, 13], sat_to [0, 0, 0, 0, 0, 0, 0] 0 rfl hs⟩
                · rintro a w ⟨l165, hv, h166, hf, hs⟩
                  subst hv
                  replace hF := hK135
                  clear hK135
                  try dsimp only at hF
                  revert a w
                  show CW _ _ _ 144 [(0, .slice p0 x0.length c0), (7, .pointer (some ⟨r23_b2, 0, none⟩)), (9, .pointer (some ⟨b49, 0, none⟩)), (10, .int .i64 x98), (13, .int .i64 x130)] (SAT w0 ([imm I, pt r23_b2 #[.slice r123_p1 r123.2.sure_.length r123_c2, .map (some r123_b4), .bool r123.2.off_, .bool r123.2.armed_, .int .i64 r123.2.left_, .int .u64 r123.2.fall_.Keep, .int .i64 r123.2.fall_.Tear, .int .i64 r123.2.acts_, .int .i64 r123.2.falls_] 68, pt b49 ((eInt .i64).all l165).toArray 57, pt r23_b10 #[.pointer (some ⟨r23_b2, 0, none⟩), .int .i64 x113, .int .i64 x114] 47, pt b21 #[.int .u64 x2.Keep, .int .i64 x2.Tear] 55, own e_disk_sector 70 r123_p1 r123_c2 r123.2.sure_, mpo (kInt .i64) (fun x : disk_sector => Value.agg #[.string x.s_, .int .i64 x.at_]) r123_b4 r123.2.wait_] ++ F0))
                  unfold F.law10_GuardWhole.r10 at hF
                  refine cw_seq ?_
                  refine cw_region ?_
                  refine ow_vals 4 (j := 4) [0, 7, 9, 10, 13, 135, 136, 137, 138] [(0, .slice p0 x0.length c0), (7, .pointer (some ⟨r23_b2, 0, none⟩)), (9, .pointer (some ⟨b49, 0, none⟩)), (10, .int .i64 x98), (13, .int .i64 x130), (135, .pointer (some ⟨r23_b2, 0, none⟩)), (136, .slice p0 x0.length c0), (137, .int .i64 x130), (138, .int .i64 x130)] rfl (by kernel_rfl) ?_
                  obtain ⟨y167, h168, hF⟩ := bind_some hF
                  refine ow_pw rfl (pw_quiet (v := .pointer (some ((⟨b49, 0, none⟩ : Addr).add (x130.toNat * 1)))) rfl rfl rfl rfl (q_index_arr (m := 10) (E := 3) (sz := 1) (tot := 10) rfl (by kernel_rfl) rfl rfl h166 h168) (nw_ow ?_))
                  refine ow_pw rfl (pw_quiet (v := .int .i64 y167) rfl rfl rfl rfl (q_load_arr_el 2 rfl rfl rfl (by kernel_rfl) rfl h168 rfl) (nw_ow ?_))
                  obtain ⟨r169, h170, hF⟩ := bind_some hF
                  refine ow_pw rfl (pw_call (F := [pt b49 ((eInt .i64).all l165).toArray 57, pt r23_b10 #[.pointer (some ⟨r23_b2, 0, none⟩), .int .i64 x113, .int .i64 x114] 47, pt b21 #[.int .u64 x2.Keep, .int .i64 x2.Tear] 55] ++ F0) rfl rfl rfl rfl rfl rfl rfl (by kernel_rfl) (perm_of_pulls [0, 0, 3, 3] rfl) (c_law10_stands _ x0 x130 y167 r123.2 p0 c0 r123_p1 r123_c2 r123_b4 r23_b2 r169 h170 hr0) ?_)
                  rintro _ _ ⟨rfl, rfl⟩
                  refine nw_H (H' := [imm I, pt r23_b2 #[.slice r123_p1 r123.2.sure_.length r123_c2, .map (some r123_b4), .bool r123.2.off_, .bool r123.2.armed_, .int .i64 r123.2.left_, .int .u64 r123.2.fall_.Keep, .int .i64 r123.2.fall_.Tear, .int .i64 r123.2.acts_, .int .i64 r123.2.falls_] 68, own e_disk_sector 70 r123_p1 r123_c2 r123.2.sure_, mpo (kInt .i64) (fun x : disk_sector => Value.agg #[.string x.s_, .int .i64 x.at_]) r123_b4 r123.2.wait_, pt b49 ((eInt .i64).all l165).toArray 57, pt r23_b10 #[.pointer (some ⟨r23_b2, 0, none⟩), .int .i64 x113, .int .i64 x114] 47, pt b21 #[.int .u64 x2.Keep, .int .i64 x2.Tear] 55] ++ F0) rfl (nw_ow ?_)
                  refine ow_vals 1 (j := 8) [0, 7, 9, 10, 13, 142] [(0, .slice p0 x0.length c0), (7, .pointer (some ⟨r23_b2, 0, none⟩)), (9, .pointer (some ⟨b49, 0, none⟩)), (10, .int .i64 x98), (13, .int .i64 x130), (142, .bool (!r169))] rfl (by kernel_rfl) ?_
                  refine ow_end rfl ?_
                  refine ew_then ?_
                  rcases if_some hF with ⟨h171, hF⟩ | ⟨h171, hF⟩
                  · refine cw_cond_t rfl rfl h171 ?_
                    refine cw_seq ?_
                    refine cw_region ?_
                    refine ow_vals 1 (j := 1) [6] [(6, .bool false)] rfl (by kernel_rfl) ?_
                    refine ow_end rfl ?_
                    refine ew_then ?_
                    refine cw_ret ?_
                    refine ew_blk_ret ?_
                    refine ew_then_ret ?_
                    refine ew_then_ret ?_
                    refine ew_blk_ret ?_
                    refine ew_then_ret ?_
                    have hR := Option.some.inj hF
                    subst hR
                    have hR := hK134
                    try dsimp only [Thru] at hR
                    subst hR
                    have hR := hL129
                    try dsimp only at hR
                    subst hR
                    have hR := hK128
                    try dsimp only [Thru] at hR
                    subst hR
                    exact fin1 (H1 := [imm I]) (fun w hs => sat_to [1, 1, 1, 1, 1, 1, 0] 6 rfl hs) rfl (rr_tmp rfl) ⟨rfl, rfl⟩
                  · refine cw_cond_f rfl rfl h171 ?_
                    refine cw_skip ?_
                    refine ew_blk ?_
                    have hR := Option.some.inj hF
                    exact fun a w hf hs => ⟨l165, hR, h166, hf.keep [0, 7, 9, 10, 13], sat_to [0, 0, 2, 2, 2, 0, 0] 0 rfl hs⟩
              · rintro a w ⟨l172, hv, h173, hf, hs⟩
                subst hv
                replace hF := hK134
                clear hK134
                try dsimp only [Thru] at hF
                revert a w
                show CW _ _ _ 144 [(0, .slice p0 x0.length c0), (7, .pointer (some ⟨r23_b2, 0, none⟩)), (9, .pointer (some ⟨b49, 0, none⟩)), (10, .int .i64 x98), (13, .int .i64 x130)] (SAT w0 ([imm I, pt r23_b2 #[.slice r123_p1 r123.2.sure_.length r123_c2, .map (some r123_b4), .bool r123.2.off_, .bool r123.2.armed_, .int .i64 r123.2.left_, .int .u64 r123.2.fall_.Keep, .int .i64 r123.2.fall_.Tear, .int .i64 r123.2.acts_, .int .i64 r123.2.falls_] 68, pt b49 ((eInt .i64).all l172).toArray 57, pt r23_b10 #[.pointer (some ⟨r23_b2, 0, none⟩), .int .i64 x113, .int .i64 x114] 47, pt b21 #[.int .u64 x2.Keep, .int .i64 x2.Tear] 55, own e_disk_sector 70 r123_p1 r123_c2 r123.2.sure_, mpo (kInt .i64) (fun x : disk_sector => Value.agg #[.string x.s_, .int .i64 x.at_]) r123_b4 r123.2.wait_] ++ F0))
                unfold F.law10_GuardWhole.r11 at hF
                refine cw_region ?_
                refine ow_vals 3 (j := 3) [0, 7, 9, 10, 13] [(0, .slice p0 x0.length c0), (7, .pointer (some ⟨r23_b2, 0, none⟩)), (9, .pointer (some ⟨b49, 0, none⟩)), (10, .int .i64 x98), (13, .int .i64 (IntKind.i64.wrap (x130 + 1)))] rfl (by kernel_rfl) ?_
                refine ow_end rfl ?_
                have hR := Option.some.inj hF
                subst hR
                have hR := hL129
                try dsimp only at hR
                exact fun a w hf hs => ⟨k, Nat.lt_succ_self k, IntKind.i64.wrap (x130 + 1), l172, hR, h173, hf.keep [0, 7, 9, 10, 13], sat_to [0, 0, 0, 0, 0, 0, 0] 0 rfl hs⟩
            · refine cw_cond_f rfl rfl h133 ?_
              refine cw_exit ?_
              refine ew_then_exit ?_
              refine ew_then_exit ?_
              refine ew_blk_exit ?_
              have hR := Option.some.inj hF
              subst hR
              have hR := hL129
              try dsimp only at hR
              exact fun a w hf hs => ⟨l131, hR, h132, hf.keep [], sat_to [0, 0, 0, 0, 0, 0, 0] 0 rfl hs⟩
          · rintro a w ⟨l174, hv, h175, hf, hs⟩
            subst hv
            replace hF := hK128
            clear hK128
            try dsimp only [Thru] at hF
            revert a w
            show CW _ _ _ 144 [] (SAT w0 ([imm I, pt r23_b2 #[.slice r123_p1 r123.2.sure_.length r123_c2, .map (some r123_b4), .bool r123.2.off_, .bool r123.2.armed_, .int .i64 r123.2.left_, .int .u64 r123.2.fall_.Keep, .int .i64 r123.2.fall_.Tear, .int .i64 r123.2.acts_, .int .i64 r123.2.falls_] 68, pt b49 ((eInt .i64).all l174).toArray 57, pt r23_b10 #[.pointer (some ⟨r23_b2, 0, none⟩), .int .i64 x113, .int .i64 x114] 47, pt b21 #[.int .u64 x2.Keep, .int .i64 x2.Tear] 55, own e_disk_sector 70 r123_p1 r123_c2 r123.2.sure_, mpo (kInt .i64) (fun x : disk_sector => Value.agg #[.string x.s_, .int .i64 x.at_]) r123_b4 r123.2.wait_] ++ F0))
            unfold F.law10_GuardWhole.r13 at hF
            refine cw_seq ?_
            refine cw_region ?_
            obtain ⟨r176, h177, hF⟩ := bind_some hF
            refine ow_pw rfl (pw_call (F := [pt r23_b2 #[.slice r123_p1 r123.2.sure_.length r123_c2, .map (some r123_b4), .bool r123.2.off_, .bool r123.2.armed_, .int .i64 r123.2.left_, .int .u64 r123.2.fall_.Keep, .int .i64 r123.2.fall_.Tear, .int .i64 r123.2.acts_, .int .i64 r123.2.falls_] 68, pt b49 ((eInt .i64).all l174).toArray 57, pt r23_b10 #[.pointer (some ⟨r23_b2, 0, none⟩), .int .i64 x113, .int .i64 x114] 47, pt b21 #[.int .u64 x2.Keep, .int .i64 x2.Tear] 55, own e_disk_sector 70 r123_p1 r123_c2 r123.2.sure_, mpo (kInt .i64) (fun x : disk_sector => Value.agg #[.string x.s_, .int .i64 x.at_]) r123_b4 r123.2.wait_] ++ F0) rfl rfl rfl rfl rfl rfl rfl (by kernel_rfl) (perm_of_pulls [0] rfl) (c_law10_awake _ r176 h177) ?_)
            rintro _ _ ⟨rfl, rfl⟩
            refine nw_H (H' := [imm I, pt r23_b2 #[.slice r123_p1 r123.2.sure_.length r123_c2, .map (some r123_b4), .bool r123.2.off_, .bool r123.2.armed_, .int .i64 r123.2.left_, .int .u64 r123.2.fall_.Keep, .int .i64 r123.2.fall_.Tear, .int .i64 r123.2.acts_, .int .i64 r123.2.falls_] 68, pt b49 ((eInt .i64).all l174).toArray 57, pt r23_b10 #[.pointer (some ⟨r23_b2, 0, none⟩), .int .i64 x113, .int .i64 x114] 47, pt b21 #[.int .u64 x2.Keep, .int .i64 x2.Tear] 55, own e_disk_sector 70 r123_p1 r123_c2 r123.2.sure_, mpo (kInt .i64) (fun x : disk_sector => Value.agg #[.string x.s_, .int .i64 x.at_]) r123_b4 r123.2.wait_] ++ F0) rfl (nw_ow ?_)
            refine ow_vals 1 (j := 2) [6] [(6, .bool r176)] rfl (by kernel_rfl) ?_
            refine ow_end rfl ?_
            refine ew_then ?_
            refine cw_ret ?_
            have hR := Option.some.inj hF
            subst hR
            exact fin1 (H1 := [imm I]) (fun w hs => sat_to [1, 1, 1, 1, 1, 1, 0] 6 rfl hs) rfl (rr_tmp rfl) ⟨rfl, rfl⟩

end Go.Proofs.YthebdiboijhjmaaDoor
