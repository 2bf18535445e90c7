/- What the functions compute, and that the code computes it: printed by a program of this claim (wip/tools), for the group Nobody. -/
import Derived.Test.YtbjilfhjclkebaaGDisk
namespace Go.Proofs.Ytbjilfhjclkebaa
set_option linter.all false
open Go Go.RowKit Go.Fw
set_option linter.unusedVariables false

def F.disk_Disk_Calm : Option Unit :=
  some (())
set_option maxRecDepth 100000 in
set_option maxHeartbeats 4000000 in
theorem c_disk_Disk_Calm (I : Hl) (res : Unit) (hF : F.disk_Disk_Calm = some res) : Tr Try.prog 15 [.pointer none] [imm I] (fun r H' => r = .tuple #[] ∧ H' = [imm I]) := by
  unfold F.disk_Disk_Calm at hF
  refine tr_of_cw (fn := Try.f15) Try.func15 rfl (Nat.le_of_ble_eq_true rfl) 7 rfl fun F0 w0 => ?_
  refine cw_keep [0] (L' := [(0, .pointer none)]) rfl ?_
  refine cw_state (S' := SAT w0 ([imm I] ++ F0)) (fun w hs => hs) ?_
  refine cw_seq ?_
  refine cw_region ?_
  refine ow_vals 2 (j := 2) [0, 3] [(0, .pointer none), (3, .bool false)] rfl (by kernel_rfl) ?_
  refine ow_end rfl ?_
  refine ew_then ?_
  refine cw_cond_f rfl rfl rfl ?_
  refine cw_skip ?_
  have hR := Option.some.inj hF
  subst hR
  exact fin0n (H1 := [imm I]) (fun w hs => sat_to [0] 0 rfl hs) rfl  ⟨rfl, rfl⟩


def F.disk_Disk_Calm_1 (m0 : disk_Disk) : Option disk_Disk :=
  some ((⟨m0.sure_, ([] : List (Int × disk_sector)), m0.off_, false, m0.left_, m0.fall_, m0.acts_, m0.falls_⟩ : disk_Disk))
set_option maxRecDepth 100000 in
set_option maxHeartbeats 4000000 in
theorem c_disk_Disk_Calm_1 (I : Hl) (m0 : disk_Disk) (p0 : Option Addr) (c0 : Nat) (b0 : Nat) (res : disk_Disk) (hF : F.disk_Disk_Calm_1 m0 = some res) (hr0 : ro I e_disk_sector p0 c0 m0.sure_) : Tr Try.prog 15 [.pointer (some ⟨b0, 0, none⟩)] [imm I, pt b0 #[.slice p0 m0.sure_.length c0, .map none, .bool m0.off_, .bool m0.armed_, .int .i64 m0.left_, .int .u64 m0.fall_.Keep, .int .i64 m0.fall_.Tear, .int .i64 m0.acts_, .int .i64 m0.falls_] 43] (fun r H' => ∃ (pq1 : Option Addr), ∃ (cq2 : Nat), r = .tuple #[] ∧ H' = [imm I, pt b0 #[.slice pq1 res.sure_.length cq2, .map none, .bool res.off_, .bool res.armed_, .int .i64 res.left_, .int .u64 res.fall_.Keep, .int .i64 res.fall_.Tear, .int .i64 res.acts_, .int .i64 res.falls_] 43] ∧ ro I e_disk_sector pq1 cq2 res.sure_) := by
  unfold F.disk_Disk_Calm_1 at hF
  refine tr_of_cw (fn := Try.f15) Try.func15 rfl (Nat.le_of_ble_eq_true rfl) 7 rfl fun F0 w0 => ?_
  refine cw_keep [0] (L' := [(0, .pointer (some ⟨b0, 0, none⟩))]) rfl ?_
  refine cw_state (S' := SAT w0 ([imm I, pt b0 #[.slice p0 m0.sure_.length c0, .map none, .bool m0.off_, .bool m0.armed_, .int .i64 m0.left_, .int .u64 m0.fall_.Keep, .int .i64 m0.fall_.Tear, .int .i64 m0.acts_, .int .i64 m0.falls_] 43] ++ F0)) (fun w hs => hs) ?_
  refine cw_seq ?_
  refine cw_region ?_
  refine ow_vals 2 (j := 2) [0, 3] [(0, .pointer (some ⟨b0, 0, none⟩)), (3, .bool true)] rfl (by kernel_rfl) ?_
  refine ow_end rfl ?_
  refine ew_then ?_
  refine cw_cond_t rfl rfl rfl ?_
  refine cw_region ?_
  refine ow_vals 3 (j := 3) [6] [(6, .pointer (some ⟨b0, 3, none⟩))] rfl (by kernel_rfl) ?_
  refine ow_pw rfl (pw_store 1 #[.slice p0 m0.sure_.length c0, .map none, .bool m0.off_, .bool false, .int .i64 m0.left_, .int .u64 m0.fall_.Keep, .int .i64 m0.fall_.Tear, .int .i64 m0.acts_, .int .i64 m0.falls_] rfl rfl rfl rfl rfl rfl rfl (by kernel_rfl) (nw_H (H' := [imm I, pt b0 #[.slice p0 m0.sure_.length c0, .map none, .bool m0.off_, .bool false, .int .i64 m0.left_, .int .u64 m0.fall_.Keep, .int .i64 m0.fall_.Tear, .int .i64 m0.acts_, .int .i64 m0.falls_] 43] ++ F0) rfl (nw_ow ?_)))
  refine ow_end rfl ?_
  have hR := Option.some.inj hF
  subst hR
  exact fin0n (H1 := [imm I, pt b0 #[.slice p0 ((⟨m0.sure_, ([] : List (Int × disk_sector)), m0.off_, false, m0.left_, m0.fall_, m0.acts_, m0.falls_⟩ : disk_Disk).sure_).length c0, .map none, .bool ((⟨m0.sure_, ([] : List (Int × disk_sector)), m0.off_, false, m0.left_, m0.fall_, m0.acts_, m0.falls_⟩ : disk_Disk).off_), .bool ((⟨m0.sure_, ([] : List (Int × disk_sector)), m0.off_, false, m0.left_, m0.fall_, m0.acts_, m0.falls_⟩ : disk_Disk).armed_), .int .i64 ((⟨m0.sure_, ([] : List (Int × disk_sector)), m0.off_, false, m0.left_, m0.fall_, m0.acts_, m0.falls_⟩ : disk_Disk).left_), .int .u64 (((⟨m0.sure_, ([] : List (Int × disk_sector)), m0.off_, false, m0.left_, m0.fall_, m0.acts_, m0.falls_⟩ : disk_Disk).fall_).Keep), .int .i64 (((⟨m0.sure_, ([] : List (Int × disk_sector)), m0.off_, false, m0.left_, m0.fall_, m0.acts_, m0.falls_⟩ : disk_Disk).fall_).Tear), .int .i64 ((⟨m0.sure_, ([] : List (Int × disk_sector)), m0.off_, false, m0.left_, m0.fall_, m0.acts_, m0.falls_⟩ : disk_Disk).acts_), .int .i64 ((⟨m0.sure_, ([] : List (Int × disk_sector)), m0.off_, false, m0.left_, m0.fall_, m0.acts_, m0.falls_⟩ : disk_Disk).falls_)] 43]) (fun w hs => sat_to [0, 0] 0 rfl hs) rfl  ⟨p0, c0, rfl, rfl, hr0⟩


def F.disk_Disk_Size_1 : Option Int :=
  some (0)
set_option maxRecDepth 100000 in
set_option maxHeartbeats 4000000 in
theorem c_disk_Disk_Size_1 (I : Hl) (res : Int) (hF : F.disk_Disk_Size_1 = some res) : Tr Try.prog 8 [.pointer none] [imm I] (fun r H' => r = .int .i64 res ∧ H' = [imm I]) := by
  unfold F.disk_Disk_Size_1 at hF
  refine tr_of_cw (fn := Try.f8) Try.func8 rfl (Nat.le_of_ble_eq_true rfl) 10 rfl fun F0 w0 => ?_
  refine cw_keep [0] (L' := [(0, .pointer none)]) rfl ?_
  refine cw_state (S' := SAT w0 ([imm I] ++ F0)) (fun w hs => hs) ?_
  refine cw_seq ?_
  refine cw_region ?_
  refine ow_vals 1 (j := 1) [0] [(0, .pointer none)] rfl (by kernel_rfl) ?_
  refine ow_end rfl ?_
  refine ew_then ?_
  refine cw_seq ?_
  refine cw_seq ?_
  refine cw_region ?_
  refine ow_vals 2 (j := 2) [0, 4] [(0, .pointer none), (4, .bool true)] rfl (by kernel_rfl) ?_
  refine ow_end rfl ?_
  refine ew_then ?_
  refine cw_cond_t rfl rfl rfl ?_
  refine cw_seq ?_
  refine cw_region ?_
  refine ow_vals 1 (j := 1) [2] [(2, .int .i64 0)] rfl (by kernel_rfl) ?_
  refine ow_end rfl ?_
  refine ew_then ?_
  refine cw_ret ?_
  refine ew_then_ret ?_
  have hR := Option.some.inj hF
  subst hR
  exact fin1 (H1 := [imm I]) (fun w hs => sat_to [0] 0 rfl hs) rfl (rr_tmp rfl) ⟨rfl, rfl⟩


def F.disk_Disk_why_1 (x1 : Int) : Option Int :=
  Option.bind (F.disk_Disk_Size_1) (fun (r21 : Int) => if r21 == 0 then (some (9)) else (none))
set_option maxRecDepth 100000 in
set_option maxHeartbeats 4000000 in
theorem c_disk_Disk_why_1 (I : Hl) (x1 : Int) (res : Int) (hF : F.disk_Disk_why_1 x1 = some res) : Tr Try.prog 24 [.pointer none, .int .i64 x1] [imm I] (fun r H' => r = .int .i64 res ∧ H' = [imm I]) := by
  unfold F.disk_Disk_why_1 at hF
  refine tr_of_cw (fn := Try.f24) Try.func24 rfl (Nat.le_of_ble_eq_true rfl) 26 rfl fun F0 w0 => ?_
  refine cw_keep [0, 1] (L' := [(0, .pointer none), (1, .int .i64 x1)]) rfl ?_
  refine cw_state (S' := SAT w0 ([imm I] ++ F0)) (fun w hs => hs) ?_
  refine cw_seq ?_
  refine cw_region ?_
  refine ow_vals 1 (j := 1) [0, 1] [(0, .pointer none), (1, .int .i64 x1)] rfl (by kernel_rfl) ?_
  refine ow_end rfl ?_
  refine ew_then ?_
  refine cw_seq ?_
  refine cw_block ?_
  refine cw_seq ?_
  refine cw_region ?_
  refine ow_vals 1 (j := 1) [0, 1, 6] [(0, .pointer none), (1, .int .i64 x1), (6, .pointer none)] rfl (by kernel_rfl) ?_
  obtain ⟨r21, h22, hF⟩ := bind_some hF
  refine ow_pw rfl (pw_call (F := [] ++ F0) rfl rfl rfl rfl rfl rfl rfl (by kernel_rfl) (perm_of_pulls [0] rfl) (c_disk_Disk_Size_1 _ r21 h22) ?_)
  rintro _ _ ⟨rfl, rfl⟩
  refine nw_H (H' := [imm I] ++ F0) rfl (nw_ow ?_)
  refine ow_vals 2 (j := 4) [0, 1, 5] [(0, .pointer none), (1, .int .i64 x1), (5, .bool (r21 == 0))] rfl (by kernel_rfl) ?_
  refine ow_end rfl ?_
  refine ew_then ?_
  rcases if_some hF with ⟨h23, hF⟩ | ⟨h23, hF⟩
  · refine cw_cond_t rfl rfl h23 ?_
    refine cw_seq ?_
    refine cw_region ?_
    refine ow_vals 1 (j := 1) [4] [(4, .int .i64 9)] rfl (by kernel_rfl) ?_
    refine ow_end rfl ?_
    refine ew_then ?_
    refine cw_ret ?_
    refine ew_blk_ret ?_
    refine ew_then_ret ?_
    have hR := Option.some.inj hF
    subst hR
    exact fin1 (H1 := [imm I]) (fun w hs => sat_to [0] 0 rfl hs) rfl (rr_tmp rfl) ⟨rfl, rfl⟩
  · refine cw_cond_f rfl rfl h23 ?_
    refine cw_seq ?_
    refine cw_region ?_
    refine ow_vals 1 (j := 1) [0, 1, 10] [(0, .pointer none), (1, .int .i64 x1), (10, .pointer none)] rfl (by kernel_rfl) ?_
    cases hF


def F.disk_Disk_Read_1 (x1 : Int) : Option (ByteArray × Int) :=
  Option.bind (F.disk_Disk_why_1 x1) (fun (r21 : Int) => if r21 != 0 then (some (((ByteArray.mk #[]), r21))) else (none))
set_option maxRecDepth 100000 in
set_option maxHeartbeats 4000000 in
theorem c_disk_Disk_Read_1 (I : Hl) (x1 : Int) (res : ByteArray × Int) (hF : F.disk_Disk_Read_1 x1 = some res) : Tr Try.prog 14 [.pointer none, .int .i64 x1] [imm I] (fun r H' => r = .tuple #[.string res.1, .int .i64 res.2] ∧ H' = [imm I]) := by
  unfold F.disk_Disk_Read_1 at hF
  refine tr_of_cw (fn := Try.f14) Try.func14 rfl (Nat.le_of_ble_eq_true rfl) 35 rfl fun F0 w0 => ?_
  refine cw_keep [0, 1] (L' := [(0, .pointer none), (1, .int .i64 x1)]) rfl ?_
  refine cw_state (S' := SAT w0 ([imm I] ++ F0)) (fun w hs => hs) ?_
  refine cw_seq ?_
  refine cw_region ?_
  refine ow_vals 2 (j := 2) [0, 1] [(0, .pointer none), (1, .int .i64 x1)] rfl (by kernel_rfl) ?_
  refine ow_end rfl ?_
  refine ew_then ?_
  refine cw_seq ?_
  refine cw_seq ?_
  refine cw_region ?_
  refine ow_vals 2 (j := 2) [0, 1, 9, 10] [(0, .pointer none), (1, .int .i64 x1), (9, .pointer none), (10, .int .i64 x1)] rfl (by kernel_rfl) ?_
  obtain ⟨r21, h22, hF⟩ := bind_some hF
  refine ow_pw rfl (pw_call (F := [] ++ F0) rfl rfl rfl rfl rfl rfl rfl (by kernel_rfl) (perm_of_pulls [0] rfl) (c_disk_Disk_why_1 _ x1 r21 h22) ?_)
  rintro _ _ ⟨rfl, rfl⟩
  refine nw_H (H' := [imm I] ++ F0) rfl (nw_ow ?_)
  refine ow_vals 1 (j := 4) [0, 1, 6] [(0, .pointer none), (1, .int .i64 x1), (6, .int .i64 r21)] rfl (by kernel_rfl) ?_
  refine ow_end rfl ?_
  refine ew_then ?_
  refine cw_seq ?_
  refine cw_region ?_
  refine ow_vals 2 (j := 2) [0, 1, 6, 13] [(0, .pointer none), (1, .int .i64 x1), (6, .int .i64 r21), (13, .bool (r21 != 0))] rfl (by kernel_rfl) ?_
  refine ow_end rfl ?_
  refine ew_then ?_
  rcases if_some hF with ⟨h23, hF⟩ | ⟨h23, hF⟩
  · refine cw_cond_t rfl rfl h23 ?_
    refine cw_seq ?_
    refine cw_region ?_
    refine ow_vals 3 (j := 3) [4, 5] [(4, .string (ByteArray.mk #[])), (5, .int .i64 r21)] rfl (by kernel_rfl) ?_
    refine ow_end rfl ?_
    refine ew_then ?_
    refine cw_ret ?_
    refine ew_then_ret ?_
    have hR := Option.some.inj hF
    subst hR
    exact fin2 (H1 := [imm I]) (fun w hs => sat_to [0] 0 rfl hs) rfl (rr_tmp rfl) (rr_tmp rfl) ⟨rfl, rfl⟩
  · refine cw_cond_f rfl rfl h23 ?_
    refine cw_skip ?_
    refine ew_then ?_
    refine cw_seq ?_
    refine cw_seq ?_
    refine cw_region ?_
    refine ow_vals 1 (j := 1) [0, 1, 16] [(0, .pointer none), (1, .int .i64 x1), (16, .pointer none)] rfl (by kernel_rfl) ?_
    cases hF


def F.disk_Disk_Size_2 (m0 : disk_Disk) : Option Int :=
  some ((m0.sure_.length : Int))
set_option maxRecDepth 100000 in
set_option maxHeartbeats 4000000 in
theorem c_disk_Disk_Size_2 (I : Hl) (m0 : disk_Disk) (p0 : Option Addr) (c0 : Nat) (b0 : Nat) (res : Int) (hF : F.disk_Disk_Size_2 m0 = some res) (hr0 : ro I e_disk_sector p0 c0 m0.sure_) : Tr Try.prog 8 [.pointer (some ⟨b0, 0, none⟩)] [imm I, pt b0 #[.slice p0 m0.sure_.length c0, .map none, .bool m0.off_, .bool m0.armed_, .int .i64 m0.left_, .int .u64 m0.fall_.Keep, .int .i64 m0.fall_.Tear, .int .i64 m0.acts_, .int .i64 m0.falls_] 43] (fun r H' => r = .int .i64 res ∧ H' = [imm I, pt b0 #[.slice p0 m0.sure_.length c0, .map none, .bool m0.off_, .bool m0.armed_, .int .i64 m0.left_, .int .u64 m0.fall_.Keep, .int .i64 m0.fall_.Tear, .int .i64 m0.acts_, .int .i64 m0.falls_] 43]) := by
  unfold F.disk_Disk_Size_2 at hF
  refine tr_of_cw (fn := Try.f8) Try.func8 rfl (Nat.le_of_ble_eq_true rfl) 10 rfl fun F0 w0 => ?_
  refine cw_keep [0] (L' := [(0, .pointer (some ⟨b0, 0, none⟩))]) rfl ?_
  refine cw_state (S' := SAT w0 ([imm I, pt b0 #[.slice p0 m0.sure_.length c0, .map none, .bool m0.off_, .bool m0.armed_, .int .i64 m0.left_, .int .u64 m0.fall_.Keep, .int .i64 m0.fall_.Tear, .int .i64 m0.acts_, .int .i64 m0.falls_] 43] ++ F0)) (fun w hs => hs) ?_
  refine cw_seq ?_
  refine cw_region ?_
  refine ow_vals 1 (j := 1) [0] [(0, .pointer (some ⟨b0, 0, none⟩))] rfl (by kernel_rfl) ?_
  refine ow_end rfl ?_
  refine ew_then ?_
  refine cw_seq ?_
  refine cw_seq ?_
  refine cw_region ?_
  refine ow_vals 2 (j := 2) [0, 4] [(0, .pointer (some ⟨b0, 0, none⟩)), (4, .bool false)] rfl (by kernel_rfl) ?_
  refine ow_end rfl ?_
  refine ew_then ?_
  refine cw_cond_f rfl rfl rfl ?_
  refine cw_skip ?_
  refine ew_then ?_
  refine cw_seq ?_
  refine cw_region ?_
  refine ow_vals 3 (j := 3) [7] [(7, .pointer (some ⟨b0, 0, none⟩))] rfl (by kernel_rfl) ?_
  refine ow_pw rfl (pw_quiet (v := .slice p0 m0.sure_.length c0) rfl rfl rfl rfl (q_load 1 rfl rfl rfl (by kernel_rfl)) (nw_ow ?_))
  refine ow_vals 2 (j := 6) [2] [(2, .int .i64 (m0.sure_.length : Int))] rfl (by kernel_rfl) ?_
  refine ow_end rfl ?_
  refine ew_then ?_
  refine cw_ret ?_
  have hR := Option.some.inj hF
  subst hR
  exact fin1 (H1 := [imm I, pt b0 #[.slice p0 m0.sure_.length c0, .map none, .bool m0.off_, .bool m0.armed_, .int .i64 m0.left_, .int .u64 m0.fall_.Keep, .int .i64 m0.fall_.Tear, .int .i64 m0.acts_, .int .i64 m0.falls_] 43]) (fun w hs => sat_to [0, 0] 0 rfl hs) rfl (rr_tmp rfl) ⟨rfl, rfl⟩


def F.disk_Disk_why_2 (x1 : Int) (m0 : disk_Disk) : Option (Int × disk_Disk) :=
  Option.bind (F.disk_Disk_Size_2 (⟨m0.sure_, ([] : List (Int × disk_sector)), m0.off_, m0.armed_, m0.left_, m0.fall_, m0.acts_, m0.falls_⟩ : disk_Disk)) (fun (r21 : Int) => if r21 == 0 then (some ((9, (⟨(⟨m0.sure_, ([] : List (Int × disk_sector)), m0.off_, m0.armed_, m0.left_, m0.fall_, m0.acts_, m0.falls_⟩ : disk_Disk).sure_, ([] : List (Int × disk_sector)), (⟨m0.sure_, ([] : List (Int × disk_sector)), m0.off_, m0.armed_, m0.left_, m0.fall_, m0.acts_, m0.falls_⟩ : disk_Disk).off_, (⟨m0.sure_, ([] : List (Int × disk_sector)), m0.off_, m0.armed_, m0.left_, m0.fall_, m0.acts_, m0.falls_⟩ : disk_Disk).armed_, (⟨m0.sure_, ([] : List (Int × disk_sector)), m0.off_, m0.armed_, m0.left_, m0.fall_, m0.acts_, m0.falls_⟩ : disk_Disk).left_, (⟨m0.sure_, ([] : List (Int × disk_sector)), m0.off_, m0.armed_, m0.left_, m0.fall_, m0.acts_, m0.falls_⟩ : disk_Disk).fall_, (⟨m0.sure_, ([] : List (Int × disk_sector)), m0.off_, m0.armed_, m0.left_, m0.fall_, m0.acts_, m0.falls_⟩ : disk_Disk).acts_, (⟨m0.sure_, ([] : List (Int × disk_sector)), m0.off_, m0.armed_, m0.left_, m0.fall_, m0.acts_, m0.falls_⟩ : disk_Disk).falls_⟩ : disk_Disk)))) else (if (⟨m0.sure_, ([] : List (Int × disk_sector)), m0.off_, m0.armed_, m0.left_, m0.fall_, m0.acts_, m0.falls_⟩ : disk_Disk).off_ then (some ((8, (⟨(⟨m0.sure_, ([] : List (Int × disk_sector)), m0.off_, m0.armed_, m0.left_, m0.fall_, m0.acts_, m0.falls_⟩ : disk_Disk).sure_, ([] : List (Int × disk_sector)), (⟨m0.sure_, ([] : List (Int × disk_sector)), m0.off_, m0.armed_, m0.left_, m0.fall_, m0.acts_, m0.falls_⟩ : disk_Disk).off_, (⟨m0.sure_, ([] : List (Int × disk_sector)), m0.off_, m0.armed_, m0.left_, m0.fall_, m0.acts_, m0.falls_⟩ : disk_Disk).armed_, (⟨m0.sure_, ([] : List (Int × disk_sector)), m0.off_, m0.armed_, m0.left_, m0.fall_, m0.acts_, m0.falls_⟩ : disk_Disk).left_, (⟨m0.sure_, ([] : List (Int × disk_sector)), m0.off_, m0.armed_, m0.left_, m0.fall_, m0.acts_, m0.falls_⟩ : disk_Disk).fall_, (⟨m0.sure_, ([] : List (Int × disk_sector)), m0.off_, m0.armed_, m0.left_, m0.fall_, m0.acts_, m0.falls_⟩ : disk_Disk).acts_, (⟨m0.sure_, ([] : List (Int × disk_sector)), m0.off_, m0.armed_, m0.left_, m0.fall_, m0.acts_, m0.falls_⟩ : disk_Disk).falls_⟩ : disk_Disk)))) else (if decide (x1 < 0) then (some ((5, (⟨(⟨m0.sure_, ([] : List (Int × disk_sector)), m0.off_, m0.armed_, m0.left_, m0.fall_, m0.acts_, m0.falls_⟩ : disk_Disk).sure_, ([] : List (Int × disk_sector)), (⟨m0.sure_, ([] : List (Int × disk_sector)), m0.off_, m0.armed_, m0.left_, m0.fall_, m0.acts_, m0.falls_⟩ : disk_Disk).off_, (⟨m0.sure_, ([] : List (Int × disk_sector)), m0.off_, m0.armed_, m0.left_, m0.fall_, m0.acts_, m0.falls_⟩ : disk_Disk).armed_, (⟨m0.sure_, ([] : List (Int × disk_sector)), m0.off_, m0.armed_, m0.left_, m0.fall_, m0.acts_, m0.falls_⟩ : disk_Disk).left_, (⟨m0.sure_, ([] : List (Int × disk_sector)), m0.off_, m0.armed_, m0.left_, m0.fall_, m0.acts_, m0.falls_⟩ : disk_Disk).fall_, (⟨m0.sure_, ([] : List (Int × disk_sector)), m0.off_, m0.armed_, m0.left_, m0.fall_, m0.acts_, m0.falls_⟩ : disk_Disk).acts_, (⟨m0.sure_, ([] : List (Int × disk_sector)), m0.off_, m0.armed_, m0.left_, m0.fall_, m0.acts_, m0.falls_⟩ : disk_Disk).falls_⟩ : disk_Disk)))) else (if decide (x1 ≥ (((⟨m0.sure_, ([] : List (Int × disk_sector)), m0.off_, m0.armed_, m0.left_, m0.fall_, m0.acts_, m0.falls_⟩ : disk_Disk).sure_).length : Int)) then (some ((5, (⟨(⟨m0.sure_, ([] : List (Int × disk_sector)), m0.off_, m0.armed_, m0.left_, m0.fall_, m0.acts_, m0.falls_⟩ : disk_Disk).sure_, ([] : List (Int × disk_sector)), (⟨m0.sure_, ([] : List (Int × disk_sector)), m0.off_, m0.armed_, m0.left_, m0.fall_, m0.acts_, m0.falls_⟩ : disk_Disk).off_, (⟨m0.sure_, ([] : List (Int × disk_sector)), m0.off_, m0.armed_, m0.left_, m0.fall_, m0.acts_, m0.falls_⟩ : disk_Disk).armed_, (⟨m0.sure_, ([] : List (Int × disk_sector)), m0.off_, m0.armed_, m0.left_, m0.fall_, m0.acts_, m0.falls_⟩ : disk_Disk).left_, (⟨m0.sure_, ([] : List (Int × disk_sector)), m0.off_, m0.armed_, m0.left_, m0.fall_, m0.acts_, m0.falls_⟩ : disk_Disk).fall_, (⟨m0.sure_, ([] : List (Int × disk_sector)), m0.off_, m0.armed_, m0.left_, m0.fall_, m0.acts_, m0.falls_⟩ : disk_Disk).acts_, (⟨m0.sure_, ([] : List (Int × disk_sector)), m0.off_, m0.armed_, m0.left_, m0.fall_, m0.acts_, m0.falls_⟩ : disk_Disk).falls_⟩ : disk_Disk)))) else (some ((0, (⟨(⟨m0.sure_, ([] : List (Int × disk_sector)), m0.off_, m0.armed_, m0.left_, m0.fall_, m0.acts_, m0.falls_⟩ : disk_Disk).sure_, ([] : List (Int × disk_sector)), (⟨m0.sure_, ([] : List (Int × disk_sector)), m0.off_, m0.armed_, m0.left_, m0.fall_, m0.acts_, m0.falls_⟩ : disk_Disk).off_, (⟨m0.sure_, ([] : List (Int × disk_sector)), m0.off_, m0.armed_, m0.left_, m0.fall_, m0.acts_, m0.falls_⟩ : disk_Disk).armed_, (⟨m0.sure_, ([] : List (Int × disk_sector)), m0.off_, m0.armed_, m0.left_, m0.fall_, m0.acts_, m0.falls_⟩ : disk_Disk).left_, (⟨m0.sure_, ([] : List (Int × disk_sector)), m0.off_, m0.armed_, m0.left_, m0.fall_, m0.acts_, m0.falls_⟩ : disk_Disk).fall_, (⟨m0.sure_, ([] : List (Int × disk_sector)), m0.off_, m0.armed_, m0.left_, m0.fall_, m0.acts_, m0.falls_⟩ : disk_Disk).acts_, (⟨m0.sure_, ([] : List (Int × disk_sector)), m0.off_, m0.armed_, m0.left_, m0.fall_, m0.acts_, m0.falls_⟩ : disk_Disk).falls_⟩ : disk_Disk))))))))
set_option maxRecDepth 100000 in
set_option maxHeartbeats 4000000 in
theorem c_disk_Disk_why_2 (I : Hl) (x1 : Int) (m0 : disk_Disk) (p0 : Option Addr) (c0 : Nat) (b0 : Nat) (res : Int × disk_Disk) (hF : F.disk_Disk_why_2 x1 m0 = some res) (hr0 : ro I e_disk_sector p0 c0 m0.sure_) : Tr Try.prog 24 [.pointer (some ⟨b0, 0, none⟩), .int .i64 x1] [imm I, pt b0 #[.slice p0 m0.sure_.length c0, .map none, .bool m0.off_, .bool m0.armed_, .int .i64 m0.left_, .int .u64 m0.fall_.Keep, .int .i64 m0.fall_.Tear, .int .i64 m0.acts_, .int .i64 m0.falls_] 43] (fun r H' => ∃ (pq1 : Option Addr), ∃ (cq2 : Nat), r = .int .i64 res.1 ∧ H' = [imm I, pt b0 #[.slice pq1 res.2.sure_.length cq2, .map none, .bool res.2.off_, .bool res.2.armed_, .int .i64 res.2.left_, .int .u64 res.2.fall_.Keep, .int .i64 res.2.fall_.Tear, .int .i64 res.2.acts_, .int .i64 res.2.falls_] 43] ∧ ro I e_disk_sector pq1 cq2 res.2.sure_) := by
  unfold F.disk_Disk_why_2 at hF
  refine tr_of_cw (fn := Try.f24) Try.func24 rfl (Nat.le_of_ble_eq_true rfl) 26 rfl fun F0 w0 => ?_
  refine cw_keep [0, 1] (L' := [(0, .pointer (some ⟨b0, 0, none⟩)), (1, .int .i64 x1)]) rfl ?_
  refine cw_state (S' := SAT w0 ([imm I, pt b0 #[.slice p0 m0.sure_.length c0, .map none, .bool m0.off_, .bool m0.armed_, .int .i64 m0.left_, .int .u64 m0.fall_.Keep, .int .i64 m0.fall_.Tear, .int .i64 m0.acts_, .int .i64 m0.falls_] 43] ++ F0)) (fun w hs => hs) ?_
  refine cw_seq ?_
  refine cw_region ?_
  refine ow_vals 1 (j := 1) [0, 1] [(0, .pointer (some ⟨b0, 0, none⟩)), (1, .int .i64 x1)] rfl (by kernel_rfl) ?_
  refine ow_end rfl ?_
  refine ew_then ?_
  refine cw_seq ?_
  refine cw_block ?_
  refine cw_seq ?_
  refine cw_region ?_
  refine ow_vals 1 (j := 1) [0, 1, 6] [(0, .pointer (some ⟨b0, 0, none⟩)), (1, .int .i64 x1), (6, .pointer (some ⟨b0, 0, none⟩))] rfl (by kernel_rfl) ?_
  obtain ⟨r21, h22, hF⟩ := bind_some hF
  refine ow_pw rfl (pw_call (F := [] ++ F0) rfl rfl rfl rfl rfl rfl rfl (by kernel_rfl) (perm_of_pulls [0, 0] rfl) (c_disk_Disk_Size_2 _ (⟨m0.sure_, ([] : List (Int × disk_sector)), m0.off_, m0.armed_, m0.left_, m0.fall_, m0.acts_, m0.falls_⟩ : disk_Disk) p0 c0 b0 r21 h22 hr0) ?_)
  rintro _ _ ⟨rfl, rfl⟩
  refine nw_H (H' := [imm I, pt b0 #[.slice p0 ((⟨m0.sure_, ([] : List (Int × disk_sector)), m0.off_, m0.armed_, m0.left_, m0.fall_, m0.acts_, m0.falls_⟩ : disk_Disk).sure_).length c0, .map none, .bool ((⟨m0.sure_, ([] : List (Int × disk_sector)), m0.off_, m0.armed_, m0.left_, m0.fall_, m0.acts_, m0.falls_⟩ : disk_Disk).off_), .bool ((⟨m0.sure_, ([] : List (Int × disk_sector)), m0.off_, m0.armed_, m0.left_, m0.fall_, m0.acts_, m0.falls_⟩ : disk_Disk).armed_), .int .i64 ((⟨m0.sure_, ([] : List (Int × disk_sector)), m0.off_, m0.armed_, m0.left_, m0.fall_, m0.acts_, m0.falls_⟩ : disk_Disk).left_), .int .u64 ((⟨m0.sure_, ([] : List (Int × disk_sector)), m0.off_, m0.armed_, m0.left_, m0.fall_, m0.acts_, m0.falls_⟩ : disk_Disk).fall_.Keep), .int .i64 ((⟨m0.sure_, ([] : List (Int × disk_sector)), m0.off_, m0.armed_, m0.left_, m0.fall_, m0.acts_, m0.falls_⟩ : disk_Disk).fall_.Tear), .int .i64 ((⟨m0.sure_, ([] : List (Int × disk_sector)), m0.off_, m0.armed_, m0.left_, m0.fall_, m0.acts_, m0.falls_⟩ : disk_Disk).acts_), .int .i64 ((⟨m0.sure_, ([] : List (Int × disk_sector)), m0.off_, m0.armed_, m0.left_, m0.fall_, m0.acts_, m0.falls_⟩ : disk_Disk).falls_)] 43] ++ F0) rfl (nw_ow ?_)
  refine ow_vals 2 (j := 4) [0, 1, 5] [(0, .pointer (some ⟨b0, 0, none⟩)), (1, .int .i64 x1), (5, .bool (r21 == 0))] rfl (by kernel_rfl) ?_
  refine ow_end rfl ?_
  refine ew_then ?_
  rcases if_some hF with ⟨h23, hF⟩ | ⟨h23, hF⟩
  · refine cw_cond_t rfl rfl h23 ?_
    refine cw_seq ?_
    refine cw_region ?_
    refine ow_vals 1 (j := 1) [4] [(4, .int .i64 9)] rfl (by kernel_rfl) ?_
    refine ow_end rfl ?_
    refine ew_then ?_
    refine cw_ret ?_
    refine ew_blk_ret ?_
    refine ew_then_ret ?_
    have hR := Option.some.inj hF
    subst hR
    exact fin1 (H1 := [imm I, pt b0 #[.slice p0 ((⟨(⟨m0.sure_, ([] : List (Int × disk_sector)), m0.off_, m0.armed_, m0.left_, m0.fall_, m0.acts_, m0.falls_⟩ : disk_Disk).sure_, ([] : List (Int × disk_sector)), (⟨m0.sure_, ([] : List (Int × disk_sector)), m0.off_, m0.armed_, m0.left_, m0.fall_, m0.acts_, m0.falls_⟩ : disk_Disk).off_, (⟨m0.sure_, ([] : List (Int × disk_sector)), m0.off_, m0.armed_, m0.left_, m0.fall_, m0.acts_, m0.falls_⟩ : disk_Disk).armed_, (⟨m0.sure_, ([] : List (Int × disk_sector)), m0.off_, m0.armed_, m0.left_, m0.fall_, m0.acts_, m0.falls_⟩ : disk_Disk).left_, (⟨m0.sure_, ([] : List (Int × disk_sector)), m0.off_, m0.armed_, m0.left_, m0.fall_, m0.acts_, m0.falls_⟩ : disk_Disk).fall_, (⟨m0.sure_, ([] : List (Int × disk_sector)), m0.off_, m0.armed_, m0.left_, m0.fall_, m0.acts_, m0.falls_⟩ : disk_Disk).acts_, (⟨m0.sure_, ([] : List (Int × disk_sector)), m0.off_, m0.armed_, m0.left_, m0.fall_, m0.acts_, m0.falls_⟩ : disk_Disk).falls_⟩ : disk_Disk).sure_).length c0, .map none, .bool ((⟨(⟨m0.sure_, ([] : List (Int × disk_sector)), m0.off_, m0.armed_, m0.left_, m0.fall_, m0.acts_, m0.falls_⟩ : disk_Disk).sure_, ([] : List (Int × disk_sector)), (⟨m0.sure_, ([] : List (Int × disk_sector)), m0.off_, m0.armed_, m0.left_, m0.fall_, m0.acts_, m0.falls_⟩ : disk_Disk).off_, (⟨m0.sure_, ([] : List (Int × disk_sector)), m0.off_, m0.armed_, m0.left_, m0.fall_, m0.acts_, m0.falls_⟩ : disk_Disk).armed_, (⟨m0.sure_, ([] : List (Int × disk_sector)), m0.off_, m0.armed_, m0.left_, m0.fall_, m0.acts_, m0.falls_⟩ : disk_Disk).left_, (⟨m0.sure_, ([] : List (Int × disk_sector)), m0.off_, m0.armed_, m0.left_, m0.fall_, m0.acts_, m0.falls_⟩ : disk_Disk).fall_, (⟨m0.sure_, ([] : List (Int × disk_sector)), m0.off_, m0.armed_, m0.left_, m0.fall_, m0.acts_, m0.falls_⟩ : disk_Disk).acts_, (⟨m0.sure_, ([] : List (Int × disk_sector)), m0.off_, m0.armed_, m0.left_, m0.fall_, m0.acts_, m0.falls_⟩ : disk_Disk).falls_⟩ : disk_Disk).off_), .bool ((⟨(⟨m0.sure_, ([] : List (Int × disk_sector)), m0.off_, m0.armed_, m0.left_, m0.fall_, m0.acts_, m0.falls_⟩ : disk_Disk).sure_, ([] : List (Int × disk_sector)), (⟨m0.sure_, ([] : List (Int × disk_sector)), m0.off_, m0.armed_, m0.left_, m0.fall_, m0.acts_, m0.falls_⟩ : disk_Disk).off_, (⟨m0.sure_, ([] : List (Int × disk_sector)), m0.off_, m0.armed_, m0.left_, m0.fall_, m0.acts_, m0.falls_⟩ : disk_Disk).armed_, (⟨m0.sure_, ([] : List (Int × disk_sector)), m0.off_, m0.armed_, m0.left_, m0.fall_, m0.acts_, m0.falls_⟩ : disk_Disk).left_, (⟨m0.sure_, ([] : List (Int × disk_sector)), m0.off_, m0.armed_, m0.left_, m0.fall_, m0.acts_, m0.falls_⟩ : disk_Disk).fall_, (⟨m0.sure_, ([] : List (Int × disk_sector)), m0.off_, m0.armed_, m0.left_, m0.fall_, m0.acts_, m0.falls_⟩ : disk_Disk).acts_, (⟨m0.sure_, ([] : List (Int × disk_sector)), m0.off_, m0.armed_, m0.left_, m0.fall_, m0.acts_, m0.falls_⟩ : disk_Disk).falls_⟩ : disk_Disk).armed_), .int .i64 ((⟨(⟨m0.sure_, ([] : List (Int × disk_sector)), m0.off_, m0.armed_, m0.left_, m0.fall_, m0.acts_, m0.falls_⟩ : disk_Disk).sure_, ([] : List (Int × disk_sector)), (⟨m0.sure_, ([] : List (Int × disk_sector)), m0.off_, m0.armed_, m0.left_, m0.fall_, m0.acts_, m0.falls_⟩ : disk_Disk).off_, (⟨m0.sure_, ([] : List (Int × disk_sector)), m0.off_, m0.armed_, m0.left_, m0.fall_, m0.acts_, m0.falls_⟩ : disk_Disk).armed_, (⟨m0.sure_, ([] : List (Int × disk_sector)), m0.off_, m0.armed_, m0.left_, m0.fall_, m0.acts_, m0.falls_⟩ : disk_Disk).left_, (⟨m0.sure_, ([] : List (Int × disk_sector)), m0.off_, m0.armed_, m0.left_, m0.fall_, m0.acts_, m0.falls_⟩ : disk_Disk).fall_, (⟨m0.sure_, ([] : List (Int × disk_sector)), m0.off_, m0.armed_, m0.left_, m0.fall_, m0.acts_, m0.falls_⟩ : disk_Disk).acts_, (⟨m0.sure_, ([] : List (Int × disk_sector)), m0.off_, m0.armed_, m0.left_, m0.fall_, m0.acts_, m0.falls_⟩ : disk_Disk).falls_⟩ : disk_Disk).left_), .int .u64 (((⟨(⟨m0.sure_, ([] : List (Int × disk_sector)), m0.off_, m0.armed_, m0.left_, m0.fall_, m0.acts_, m0.falls_⟩ : disk_Disk).sure_, ([] : List (Int × disk_sector)), (⟨m0.sure_, ([] : List (Int × disk_sector)), m0.off_, m0.armed_, m0.left_, m0.fall_, m0.acts_, m0.falls_⟩ : disk_Disk).off_, (⟨m0.sure_, ([] : List (Int × disk_sector)), m0.off_, m0.armed_, m0.left_, m0.fall_, m0.acts_, m0.falls_⟩ : disk_Disk).armed_, (⟨m0.sure_, ([] : List (Int × disk_sector)), m0.off_, m0.armed_, m0.left_, m0.fall_, m0.acts_, m0.falls_⟩ : disk_Disk).left_, (⟨m0.sure_, ([] : List (Int × disk_sector)), m0.off_, m0.armed_, m0.left_, m0.fall_, m0.acts_, m0.falls_⟩ : disk_Disk).fall_, (⟨m0.sure_, ([] : List (Int × disk_sector)), m0.off_, m0.armed_, m0.left_, m0.fall_, m0.acts_, m0.falls_⟩ : disk_Disk).acts_, (⟨m0.sure_, ([] : List (Int × disk_sector)), m0.off_, m0.armed_, m0.left_, m0.fall_, m0.acts_, m0.falls_⟩ : disk_Disk).falls_⟩ : disk_Disk).fall_).Keep), .int .i64 (((⟨(⟨m0.sure_, ([] : List (Int × disk_sector)), m0.off_, m0.armed_, m0.left_, m0.fall_, m0.acts_, m0.falls_⟩ : disk_Disk).sure_, ([] : List (Int × disk_sector)), (⟨m0.sure_, ([] : List (Int × disk_sector)), m0.off_, m0.armed_, m0.left_, m0.fall_, m0.acts_, m0.falls_⟩ : disk_Disk).off_, (⟨m0.sure_, ([] : List (Int × disk_sector)), m0.off_, m0.armed_, m0.left_, m0.fall_, m0.acts_, m0.falls_⟩ : disk_Disk).armed_, (⟨m0.sure_, ([] : List (Int × disk_sector)), m0.off_, m0.armed_, m0.left_, m0.fall_, m0.acts_, m0.falls_⟩ : disk_Disk).left_, (⟨m0.sure_, ([] : List (Int × disk_sector)), m0.off_, m0.armed_, m0.left_, m0.fall_, m0.acts_, m0.falls_⟩ : disk_Disk).fall_, (⟨m0.sure_, ([] : List (Int × disk_sector)), m0.off_, m0.armed_, m0.left_, m0.fall_, m0.acts_, m0.falls_⟩ : disk_Disk).acts_, (⟨m0.sure_, ([] : List (Int × disk_sector)), m0.off_, m0.armed_, m0.left_, m0.fall_, m0.acts_, m0.falls_⟩ : disk_Disk).falls_⟩ : disk_Disk).fall_).Tear), .int .i64 ((⟨(⟨m0.sure_, ([] : List (Int × disk_sector)), m0.off_, m0.armed_, m0.left_, m0.fall_, m0.acts_, m0.falls_⟩ : disk_Disk).sure_, ([] : List (Int × disk_sector)), (⟨m0.sure_, ([] : List (Int × disk_sector)), m0.off_, m0.armed_, m0.left_, m0.fall_, m0.acts_, m0.falls_⟩ : disk_Disk).off_, (⟨m0.sure_, ([] : List (Int × disk_sector)), m0.off_, m0.armed_, m0.left_, m0.fall_, m0.acts_, m0.falls_⟩ : disk_Disk).armed_, (⟨m0.sure_, ([] : List (Int × disk_sector)), m0.off_, m0.armed_, m0.left_, m0.fall_, m0.acts_, m0.falls_⟩ : disk_Disk).left_, (⟨m0.sure_, ([] : List (Int × disk_sector)), m0.off_, m0.armed_, m0.left_, m0.fall_, m0.acts_, m0.falls_⟩ : disk_Disk).fall_, (⟨m0.sure_, ([] : List (Int × disk_sector)), m0.off_, m0.armed_, m0.left_, m0.fall_, m0.acts_, m0.falls_⟩ : disk_Disk).acts_, (⟨m0.sure_, ([] : List (Int × disk_sector)), m0.off_, m0.armed_, m0.left_, m0.fall_, m0.acts_, m0.falls_⟩ : disk_Disk).falls_⟩ : disk_Disk).acts_), .int .i64 ((⟨(⟨m0.sure_, ([] : List (Int × disk_sector)), m0.off_, m0.armed_, m0.left_, m0.fall_, m0.acts_, m0.falls_⟩ : disk_Disk).sure_, ([] : List (Int × disk_sector)), (⟨m0.sure_, ([] : List (Int × disk_sector)), m0.off_, m0.armed_, m0.left_, m0.fall_, m0.acts_, m0.falls_⟩ : disk_Disk).off_, (⟨m0.sure_, ([] : List (Int × disk_sector)), m0.off_, m0.armed_, m0.left_, m0.fall_, m0.acts_, m0.falls_⟩ : disk_Disk).armed_, (⟨m0.sure_, ([] : List (Int × disk_sector)), m0.off_, m0.armed_, m0.left_, m0.fall_, m0.acts_, m0.falls_⟩ : disk_Disk).left_, (⟨m0.sure_, ([] : List (Int × disk_sector)), m0.off_, m0.armed_, m0.left_, m0.fall_, m0.acts_, m0.falls_⟩ : disk_Disk).fall_, (⟨m0.sure_, ([] : List (Int × disk_sector)), m0.off_, m0.armed_, m0.left_, m0.fall_, m0.acts_, m0.falls_⟩ : disk_Disk).acts_, (⟨m0.sure_, ([] : List (Int × disk_sector)), m0.off_, m0.armed_, m0.left_, m0.fall_, m0.acts_, m0.falls_⟩ : disk_Disk).falls_⟩ : disk_Disk).falls_)] 43]) (fun w hs => sat_to [0, 0] 0 rfl hs) rfl (rr_tmp rfl) ⟨p0, c0, rfl, rfl, hr0⟩
  · refine cw_cond_f rfl rfl h23 ?_
    refine cw_seq ?_
    refine cw_region ?_
    refine ow_vals 3 (j := 3) [0, 1, 12] [(0, .pointer (some ⟨b0, 0, none⟩)), (1, .int .i64 x1), (12, .pointer (some ⟨b0, 2, none⟩))] rfl (by kernel_rfl) ?_
    refine ow_pw rfl (pw_quiet (v := .bool ((⟨m0.sure_, ([] : List (Int × disk_sector)), m0.off_, m0.armed_, m0.left_, m0.fall_, m0.acts_, m0.falls_⟩ : disk_Disk).off_)) rfl rfl rfl rfl (q_load 1 rfl rfl rfl (by kernel_rfl)) (nw_ow ?_))
    refine ow_vals 1 (j := 5) [0, 1, 9] [(0, .pointer (some ⟨b0, 0, none⟩)), (1, .int .i64 x1), (9, .bool ((⟨m0.sure_, ([] : List (Int × disk_sector)), m0.off_, m0.armed_, m0.left_, m0.fall_, m0.acts_, m0.falls_⟩ : disk_Disk).off_))] rfl (by kernel_rfl) ?_
    refine ow_end rfl ?_
    refine ew_then ?_
    rcases if_some hF with ⟨h24, hF⟩ | ⟨h24, hF⟩
    · refine cw_cond_t rfl rfl h24 ?_
      refine cw_seq ?_
      refine cw_region ?_
      refine ow_vals 1 (j := 1) [4] [(4, .int .i64 8)] rfl (by kernel_rfl) ?_
      refine ow_end rfl ?_
      refine ew_then ?_
      refine cw_ret ?_
      refine ew_blk_ret ?_
      refine ew_then_ret ?_
      have hR := Option.some.inj hF
      subst hR
      exact fin1 (H1 := [imm I, pt b0 #[.slice p0 ((⟨(⟨m0.sure_, ([] : List (Int × disk_sector)), m0.off_, m0.armed_, m0.left_, m0.fall_, m0.acts_, m0.falls_⟩ : disk_Disk).sure_, ([] : List (Int × disk_sector)), (⟨m0.sure_, ([] : List (Int × disk_sector)), m0.off_, m0.armed_, m0.left_, m0.fall_, m0.acts_, m0.falls_⟩ : disk_Disk).off_, (⟨m0.sure_, ([] : List (Int × disk_sector)), m0.off_, m0.armed_, m0.left_, m0.fall_, m0.acts_, m0.falls_⟩ : disk_Disk).armed_, (⟨m0.sure_, ([] : List (Int × disk_sector)), m0.off_, m0.armed_, m0.left_, m0.fall_, m0.acts_, m0.falls_⟩ : disk_Disk).left_, (⟨m0.sure_, ([] : List (Int × disk_sector)), m0.off_, m0.armed_, m0.left_, m0.fall_, m0.acts_, m0.falls_⟩ : disk_Disk).fall_, (⟨m0.sure_, ([] : List (Int × disk_sector)), m0.off_, m0.armed_, m0.left_, m0.fall_, m0.acts_, m0.falls_⟩ : disk_Disk).acts_, (⟨m0.sure_, ([] : List (Int × disk_sector)), m0.off_, m0.armed_, m0.left_, m0.fall_, m0.acts_, m0.falls_⟩ : disk_Disk).falls_⟩ : disk_Disk).sure_).length c0, .map none, .bool ((⟨(⟨m0.sure_, ([] : List (Int × disk_sector)), m0.off_, m0.armed_, m0.left_, m0.fall_, m0.acts_, m0.falls_⟩ : disk_Disk).sure_, ([] : List (Int × disk_sector)), (⟨m0.sure_, ([] : List (Int × disk_sector)), m0.off_, m0.armed_, m0.left_, m0.fall_, m0.acts_, m0.falls_⟩ : disk_Disk).off_, (⟨m0.sure_, ([] : List (Int × disk_sector)), m0.off_, m0.armed_, m0.left_, m0.fall_, m0.acts_, m0.falls_⟩ : disk_Disk).armed_, (⟨m0.sure_, ([] : List (Int × disk_sector)), m0.off_, m0.armed_, m0.left_, m0.fall_, m0.acts_, m0.falls_⟩ : disk_Disk).left_, (⟨m0.sure_, ([] : List (Int × disk_sector)), m0.off_, m0.armed_, m0.left_, m0.fall_, m0.acts_, m0.falls_⟩ : disk_Disk).fall_, (⟨m0.sure_, ([] : List (Int × disk_sector)), m0.off_, m0.armed_, m0.left_, m0.fall_, m0.acts_, m0.falls_⟩ : disk_Disk).acts_, (⟨m0.sure_, ([] : List (Int × disk_sector)), m0.off_, m0.armed_, m0.left_, m0.fall_, m0.acts_, m0.falls_⟩ : disk_Disk).falls_⟩ : disk_Disk).off_), .bool ((⟨(⟨m0.sure_, ([] : List (Int × disk_sector)), m0.off_, m0.armed_, m0.left_, m0.fall_, m0.acts_, m0.falls_⟩ : disk_Disk).sure_, ([] : List (Int × disk_sector)), (⟨m0.sure_, ([] : List (Int × disk_sector)), m0.off_, m0.armed_, m0.left_, m0.fall_, m0.acts_, m0.falls_⟩ : disk_Disk).off_, (⟨m0.sure_, ([] : List (Int × disk_sector)), m0.off_, m0.armed_, m0.left_, m0.fall_, m0.acts_, m0.falls_⟩ : disk_Disk).armed_, (⟨m0.sure_, ([] : List (Int × disk_sector)), m0.off_, m0.armed_, m0.left_, m0.fall_, m0.acts_, m0.falls_⟩ : disk_Disk).left_, (⟨m0.sure_, ([] : List (Int × disk_sector)), m0.off_, m0.armed_, m0.left_, m0.fall_, m0.acts_, m0.falls_⟩ : disk_Disk).fall_, (⟨m0.sure_, ([] : List (Int × disk_sector)), m0.off_, m0.armed_, m0.left_, m0.fall_, m0.acts_, m0.falls_⟩ : disk_Disk).acts_, (⟨m0.sure_, ([] : List (Int × disk_sector)), m0.off_, m0.armed_, m0.left_, m0.fall_, m0.acts_, m0.falls_⟩ : disk_Disk).falls_⟩ : disk_Disk).armed_), .int .i64 ((⟨(⟨m0.sure_, ([] : List (Int × disk_sector)), m0.off_, m0.armed_, m0.left_, m0.fall_, m0.acts_, m0.falls_⟩ : disk_Disk).sure_, ([] : List (Int × disk_sector)), (⟨m0.sure_, ([] : List (Int × disk_sector)), m0.off_, m0.armed_, m0.left_, m0.fall_, m0.acts_, m0.falls_⟩ : disk_Disk).off_, (⟨m0.sure_, ([] : List (Int × disk_sector)), m0.off_, m0.armed_, m0.left_, m0.fall_, m0.acts_, m0.falls_⟩ : disk_Disk).armed_, (⟨m0.sure_, ([] : List (Int × disk_sector)), m0.off_, m0.armed_, m0.left_, m0.fall_, m0.acts_, m0.falls_⟩ : disk_Disk).left_, (⟨m0.sure_, ([] : List (Int × disk_sector)), m0.off_, m0.armed_, m0.left_, m0.fall_, m0.acts_, m0.falls_⟩ : disk_Disk).fall_, (⟨m0.sure_, ([] : List (Int × disk_sector)), m0.off_, m0.armed_, m0.left_, m0.fall_, m0.acts_, m0.falls_⟩ : disk_Disk).acts_, (⟨m0.sure_, ([] : List (Int × disk_sector)), m0.off_, m0.armed_, m0.left_, m0.fall_, m0.acts_, m0.falls_⟩ : disk_Disk).falls_⟩ : disk_Disk).left_), .int .u64 (((⟨(⟨m0.sure_, ([] : List (Int × disk_sector)), m0.off_, m0.armed_, m0.left_, m0.fall_, m0.acts_, m0.falls_⟩ : disk_Disk).sure_, ([] : List (Int × disk_sector)), (⟨m0.sure_, ([] : List (Int × disk_sector)), m0.off_, m0.armed_, m0.left_, m0.fall_, m0.acts_, m0.falls_⟩ : disk_Disk).off_, (⟨m0.sure_, ([] : List (Int × disk_sector)), m0.off_, m0.armed_, m0.left_, m0.fall_, m0.acts_, m0.falls_⟩ : disk_Disk).armed_, (⟨m0.sure_, ([] : List (Int × disk_sector)), m0.off_, m0.armed_, m0.left_, m0.fall_, m0.acts_, m0.falls_⟩ : disk_Disk).left_, (⟨m0.sure_, ([] : List (Int × disk_sector)), m0.off_, m0.armed_, m0.left_, m0.fall_, m0.acts_, m0.falls_⟩ : disk_Disk).fall_, (⟨m0.sure_, ([] : List (Int × disk_sector)), m0.off_, m0.armed_, m0.left_, m0.fall_, m0.acts_, m0.falls_⟩ : disk_Disk).acts_, (⟨m0.sure_, ([] : List (Int × disk_sector)), m0.off_, m0.armed_, m0.left_, m0.fall_, m0.acts_, m0.falls_⟩ : disk_Disk).falls_⟩ : disk_Disk).fall_).Keep), .int .i64 (((⟨(⟨m0.sure_, ([] : List (Int × disk_sector)), m0.off_, m0.armed_, m0.left_, m0.fall_, m0.acts_, m0.falls_⟩ : disk_Disk).sure_, ([] : List (Int × disk_sector)), (⟨m0.sure_, ([] : List (Int × disk_sector)), m0.off_, m0.armed_, m0.left_, m0.fall_, m0.acts_, m0.falls_⟩ : disk_Disk).off_, (⟨m0.sure_, ([] : List (Int × disk_sector)), m0.off_, m0.armed_, m0.left_, m0.fall_, m0.acts_, m0.falls_⟩ : disk_Disk).armed_, (⟨m0.sure_, ([] : List (Int × disk_sector)), m0.off_, m0.armed_, m0.left_, m0.fall_, m0.acts_, m0.falls_⟩ : disk_Disk).left_, (⟨m0.sure_, ([] : List (Int × disk_sector)), m0.off_, m0.armed_, m0.left_, m0.fall_, m0.acts_, m0.falls_⟩ : disk_Disk).fall_, (⟨m0.sure_, ([] : List (Int × disk_sector)), m0.off_, m0.armed_, m0.left_, m0.fall_, m0.acts_, m0.falls_⟩ : disk_Disk).acts_, (⟨m0.sure_, ([] : List (Int × disk_sector)), m0.off_, m0.armed_, m0.left_, m0.fall_, m0.acts_, m0.falls_⟩ : disk_Disk).falls_⟩ : disk_Disk).fall_).Tear), .int .i64 ((⟨(⟨m0.sure_, ([] : List (Int × disk_sector)), m0.off_, m0.armed_, m0.left_, m0.fall_, m0.acts_, m0.falls_⟩ : disk_Disk).sure_, ([] : List (Int × disk_sector)), (⟨m0.sure_, ([] : List (Int × disk_sector)), m0.off_, m0.armed_, m0.left_, m0.fall_, m0.acts_, m0.falls_⟩ : disk_Disk).off_, (⟨m0.sure_, ([] : List (Int × disk_sector)), m0.off_, m0.armed_, m0.left_, m0.fall_, m0.acts_, m0.falls_⟩ : disk_Disk).armed_, (⟨m0.sure_, ([] : List (Int × disk_sector)), m0.off_, m0.armed_, m0.left_, m0.fall_, m0.acts_, m0.falls_⟩ : disk_Disk).left_, (⟨m0.sure_, ([] : List (Int × disk_sector)), m0.off_, m0.armed_, m0.left_, m0.fall_, m0.acts_, m0.falls_⟩ : disk_Disk).fall_, (⟨m0.sure_, ([] : List (Int × disk_sector)), m0.off_, m0.armed_, m0.left_, m0.fall_, m0.acts_, m0.falls_⟩ : disk_Disk).acts_, (⟨m0.sure_, ([] : List (Int × disk_sector)), m0.off_, m0.armed_, m0.left_, m0.fall_, m0.acts_, m0.falls_⟩ : disk_Disk).falls_⟩ : disk_Disk).acts_), .int .i64 ((⟨(⟨m0.sure_, ([] : List (Int × disk_sector)), m0.off_, m0.armed_, m0.left_, m0.fall_, m0.acts_, m0.falls_⟩ : disk_Disk).sure_, ([] : List (Int × disk_sector)), (⟨m0.sure_, ([] : List (Int × disk_sector)), m0.off_, m0.armed_, m0.left_, m0.fall_, m0.acts_, m0.falls_⟩ : disk_Disk).off_, (⟨m0.sure_, ([] : List (Int × disk_sector)), m0.off_, m0.armed_, m0.left_, m0.fall_, m0.acts_, m0.falls_⟩ : disk_Disk).armed_, (⟨m0.sure_, ([] : List (Int × disk_sector)), m0.off_, m0.armed_, m0.left_, m0.fall_, m0.acts_, m0.falls_⟩ : disk_Disk).left_, (⟨m0.sure_, ([] : List (Int × disk_sector)), m0.off_, m0.armed_, m0.left_, m0.fall_, m0.acts_, m0.falls_⟩ : disk_Disk).fall_, (⟨m0.sure_, ([] : List (Int × disk_sector)), m0.off_, m0.armed_, m0.left_, m0.fall_, m0.acts_, m0.falls_⟩ : disk_Disk).acts_, (⟨m0.sure_, ([] : List (Int × disk_sector)), m0.off_, m0.armed_, m0.left_, m0.fall_, m0.acts_, m0.falls_⟩ : disk_Disk).falls_⟩ : disk_Disk).falls_)] 43]) (fun w hs => sat_to [0, 0] 0 rfl hs) rfl (rr_tmp rfl) ⟨p0, c0, rfl, rfl, hr0⟩
    · refine cw_cond_f rfl rfl h24 ?_
      refine cw_seq ?_
      refine cw_region ?_
      refine ow_vals 3 (j := 3) [0, 1, 17] [(0, .pointer (some ⟨b0, 0, none⟩)), (1, .int .i64 x1), (17, .bool (decide (x1 < 0)))] rfl (by kernel_rfl) ?_
      rcases if_some hF with ⟨h25, hF⟩ | ⟨h25, hF⟩
      · refine ow_slots (L' := [(0, .pointer (some ⟨b0, 0, none⟩)), (1, .int .i64 x1), (17, .bool true)]) (by rw [h25]) ?_
        refine ow_vals 9 (j := 12) [14] [(14, .bool true)] rfl (by kernel_rfl) ?_
        refine ow_end rfl ?_
        refine ew_then ?_
        refine cw_cond_t rfl rfl rfl ?_
        refine cw_seq ?_
        refine cw_region ?_
        refine ow_vals 1 (j := 1) [4] [(4, .int .i64 5)] rfl (by kernel_rfl) ?_
        refine ow_end rfl ?_
        refine ew_then ?_
        refine cw_ret ?_
        refine ew_blk_ret ?_
        refine ew_then_ret ?_
        have hR := Option.some.inj hF
        subst hR
        exact fin1 (H1 := [imm I, pt b0 #[.slice p0 ((⟨(⟨m0.sure_, ([] : List (Int × disk_sector)), m0.off_, m0.armed_, m0.left_, m0.fall_, m0.acts_, m0.falls_⟩ : disk_Disk).sure_, ([] : List (Int × disk_sector)), (⟨m0.sure_, ([] : List (Int × disk_sector)), m0.off_, m0.armed_, m0.left_, m0.fall_, m0.acts_, m0.falls_⟩ : disk_Disk).off_, (⟨m0.sure_, ([] : List (Int × disk_sector)), m0.off_, m0.armed_, m0.left_, m0.fall_, m0.acts_, m0.falls_⟩ : disk_Disk).armed_, (⟨m0.sure_, ([] : List (Int × disk_sector)), m0.off_, m0.armed_, m0.left_, m0.fall_, m0.acts_, m0.falls_⟩ : disk_Disk).left_, (⟨m0.sure_, ([] : List (Int × disk_sector)), m0.off_, m0.armed_, m0.left_, m0.fall_, m0.acts_, m0.falls_⟩ : disk_Disk).fall_, (⟨m0.sure_, ([] : List (Int × disk_sector)), m0.off_, m0.armed_, m0.left_, m0.fall_, m0.acts_, m0.falls_⟩ : disk_Disk).acts_, (⟨m0.sure_, ([] : List (Int × disk_sector)), m0.off_, m0.armed_, m0.left_, m0.fall_, m0.acts_, m0.falls_⟩ : disk_Disk).falls_⟩ : disk_Disk).sure_).length c0, .map none, .bool ((⟨(⟨m0.sure_, ([] : List (Int × disk_sector)), m0.off_, m0.armed_, m0.left_, m0.fall_, m0.acts_, m0.falls_⟩ : disk_Disk).sure_, ([] : List (Int × disk_sector)), (⟨m0.sure_, ([] : List (Int × disk_sector)), m0.off_, m0.armed_, m0.left_, m0.fall_, m0.acts_, m0.falls_⟩ : disk_Disk).off_, (⟨m0.sure_, ([] : List (Int × disk_sector)), m0.off_, m0.armed_, m0.left_, m0.fall_, m0.acts_, m0.falls_⟩ : disk_Disk).armed_, (⟨m0.sure_, ([] : List (Int × disk_sector)), m0.off_, m0.armed_, m0.left_, m0.fall_, m0.acts_, m0.falls_⟩ : disk_Disk).left_, (⟨m0.sure_, ([] : List (Int × disk_sector)), m0.off_, m0.armed_, m0.left_, m0.fall_, m0.acts_, m0.falls_⟩ : disk_Disk).fall_, (⟨m0.sure_, ([] : List (Int × disk_sector)), m0.off_, m0.armed_, m0.left_, m0.fall_, m0.acts_, m0.falls_⟩ : disk_Disk).acts_, (⟨m0.sure_, ([] : List (Int × disk_sector)), m0.off_, m0.armed_, m0.left_, m0.fall_, m0.acts_, m0.falls_⟩ : disk_Disk).falls_⟩ : disk_Disk).off_), .bool ((⟨(⟨m0.sure_, ([] : List (Int × disk_sector)), m0.off_, m0.armed_, m0.left_, m0.fall_, m0.acts_, m0.falls_⟩ : disk_Disk).sure_, ([] : List (Int × disk_sector)), (⟨m0.sure_, ([] : List (Int × disk_sector)), m0.off_, m0.armed_, m0.left_, m0.fall_, m0.acts_, m0.falls_⟩ : disk_Disk).off_, (⟨m0.sure_, ([] : List (Int × disk_sector)), m0.off_, m0.armed_, m0.left_, m0.fall_, m0.acts_, m0.falls_⟩ : disk_Disk).armed_, (⟨m0.sure_, ([] : List (Int × disk_sector)), m0.off_, m0.armed_, m0.left_, m0.fall_, m0.acts_, m0.falls_⟩ : disk_Disk).left_, (⟨m0.sure_, ([] : List (Int × disk_sector)), m0.off_, m0.armed_, m0.left_, m0.fall_, m0.acts_, m0.falls_⟩ : disk_Disk).fall_, (⟨m0.sure_, ([] : List (Int × disk_sector)), m0.off_, m0.armed_, m0.left_, m0.fall_, m0.acts_, m0.falls_⟩ : disk_Disk).acts_, (⟨m0.sure_, ([] : List (Int × disk_sector)), m0.off_, m0.armed_, m0.left_, m0.fall_, m0.acts_, m0.falls_⟩ : disk_Disk).falls_⟩ : disk_Disk).armed_), .int .i64 ((⟨(⟨m0.sure_, ([] : List (Int × disk_sector)), m0.off_, m0.armed_, m0.left_, m0.fall_, m0.acts_, m0.falls_⟩ : disk_Disk).sure_, ([] : List (Int × disk_sector)), (⟨m0.sure_, ([] : List (Int × disk_sector)), m0.off_, m0.armed_, m0.left_, m0.fall_, m0.acts_, m0.falls_⟩ : disk_Disk).off_, (⟨m0.sure_, ([] : List (Int × disk_sector)), m0.off_, m0.armed_, m0.left_, m0.fall_, m0.acts_, m0.falls_⟩ : disk_Disk).armed_, (⟨m0.sure_, ([] : List (Int × disk_sector)), m0.off_, m0.armed_, m0.left_, m0.fall_, m0.acts_, m0.falls_⟩ : disk_Disk).left_, (⟨m0.sure_, ([] : List (Int × disk_sector)), m0.off_, m0.armed_, m0.left_, m0.fall_, m0.acts_, m0.falls_⟩ : disk_Disk).fall_, (⟨m0.sure_, ([] : List (Int × disk_sector)), m0.off_, m0.armed_, m0.left_, m0.fall_, m0.acts_, m0.falls_⟩ : disk_Disk).acts_, (⟨m0.sure_, ([] : List (Int × disk_sector)), m0.off_, m0.armed_, m0.left_, m0.fall_, m0.acts_, m0.falls_⟩ : disk_Disk).falls_⟩ : disk_Disk).left_), .int .u64 (((⟨(⟨m0.sure_, ([] : List (Int × disk_sector)), m0.off_, m0.armed_, m0.left_, m0.fall_, m0.acts_, m0.falls_⟩ : disk_Disk).sure_, ([] : List (Int × disk_sector)), (⟨m0.sure_, ([] : List (Int × disk_sector)), m0.off_, m0.armed_, m0.left_, m0.fall_, m0.acts_, m0.falls_⟩ : disk_Disk).off_, (⟨m0.sure_, ([] : List (Int × disk_sector)), m0.off_, m0.armed_, m0.left_, m0.fall_, m0.acts_, m0.falls_⟩ : disk_Disk).armed_, (⟨m0.sure_, ([] : List (Int × disk_sector)), m0.off_, m0.armed_, m0.left_, m0.fall_, m0.acts_, m0.falls_⟩ : disk_Disk).left_, (⟨m0.sure_, ([] : List (Int × disk_sector)), m0.off_, m0.armed_, m0.left_, m0.fall_, m0.acts_, m0.falls_⟩ : disk_Disk).fall_, (⟨m0.sure_, ([] : List (Int × disk_sector)), m0.off_, m0.armed_, m0.left_, m0.fall_, m0.acts_, m0.falls_⟩ : disk_Disk).acts_, (⟨m0.sure_, ([] : List (Int × disk_sector)), m0.off_, m0.armed_, m0.left_, m0.fall_, m0.acts_, m0.falls_⟩ : disk_Disk).falls_⟩ : disk_Disk).fall_).Keep), .int .i64 (((⟨(⟨m0.sure_, ([] : List (Int × disk_sector)), m0.off_, m0.armed_, m0.left_, m0.fall_, m0.acts_, m0.falls_⟩ : disk_Disk).sure_, ([] : List (Int × disk_sector)), (⟨m0.sure_, ([] : List (Int × disk_sector)), m0.off_, m0.armed_, m0.left_, m0.fall_, m0.acts_, m0.falls_⟩ : disk_Disk).off_, (⟨m0.sure_, ([] : List (Int × disk_sector)), m0.off_, m0.armed_, m0.left_, m0.fall_, m0.acts_, m0.falls_⟩ : disk_Disk).armed_, (⟨m0.sure_, ([] : List (Int × disk_sector)), m0.off_, m0.armed_, m0.left_, m0.fall_, m0.acts_, m0.falls_⟩ : disk_Disk).left_, (⟨m0.sure_, ([] : List (Int × disk_sector)), m0.off_, m0.armed_, m0.left_, m0.fall_, m0.acts_, m0.falls_⟩ : disk_Disk).fall_, (⟨m0.sure_, ([] : List (Int × disk_sector)), m0.off_, m0.armed_, m0.left_, m0.fall_, m0.acts_, m0.falls_⟩ : disk_Disk).acts_, (⟨m0.sure_, ([] : List (Int × disk_sector)), m0.off_, m0.armed_, m0.left_, m0.fall_, m0.acts_, m0.falls_⟩ : disk_Disk).falls_⟩ : disk_Disk).fall_).Tear), .int .i64 ((⟨(⟨m0.sure_, ([] : List (Int × disk_sector)), m0.off_, m0.armed_, m0.left_, m0.fall_, m0.acts_, m0.falls_⟩ : disk_Disk).sure_, ([] : List (Int × disk_sector)), (⟨m0.sure_, ([] : List (Int × disk_sector)), m0.off_, m0.armed_, m0.left_, m0.fall_, m0.acts_, m0.falls_⟩ : disk_Disk).off_, (⟨m0.sure_, ([] : List (Int × disk_sector)), m0.off_, m0.armed_, m0.left_, m0.fall_, m0.acts_, m0.falls_⟩ : disk_Disk).armed_, (⟨m0.sure_, ([] : List (Int × disk_sector)), m0.off_, m0.armed_, m0.left_, m0.fall_, m0.acts_, m0.falls_⟩ : disk_Disk).left_, (⟨m0.sure_, ([] : List (Int × disk_sector)), m0.off_, m0.armed_, m0.left_, m0.fall_, m0.acts_, m0.falls_⟩ : disk_Disk).fall_, (⟨m0.sure_, ([] : List (Int × disk_sector)), m0.off_, m0.armed_, m0.left_, m0.fall_, m0.acts_, m0.falls_⟩ : disk_Disk).acts_, (⟨m0.sure_, ([] : List (Int × disk_sector)), m0.off_, m0.armed_, m0.left_, m0.fall_, m0.acts_, m0.falls_⟩ : disk_Disk).falls_⟩ : disk_Disk).acts_), .int .i64 ((⟨(⟨m0.sure_, ([] : List (Int × disk_sector)), m0.off_, m0.armed_, m0.left_, m0.fall_, m0.acts_, m0.falls_⟩ : disk_Disk).sure_, ([] : List (Int × disk_sector)), (⟨m0.sure_, ([] : List (Int × disk_sector)), m0.off_, m0.armed_, m0.left_, m0.fall_, m0.acts_, m0.falls_⟩ : disk_Disk).off_, (⟨m0.sure_, ([] : List (Int × disk_sector)), m0.off_, m0.armed_, m0.left_, m0.fall_, m0.acts_, m0.falls_⟩ : disk_Disk).armed_, (⟨m0.sure_, ([] : List (Int × disk_sector)), m0.off_, m0.armed_, m0.left_, m0.fall_, m0.acts_, m0.falls_⟩ : disk_Disk).left_, (⟨m0.sure_, ([] : List (Int × disk_sector)), m0.off_, m0.armed_, m0.left_, m0.fall_, m0.acts_, m0.falls_⟩ : disk_Disk).fall_, (⟨m0.sure_, ([] : List (Int × disk_sector)), m0.off_, m0.armed_, m0.left_, m0.fall_, m0.acts_, m0.falls_⟩ : disk_Disk).acts_, (⟨m0.sure_, ([] : List (Int × disk_sector)), m0.off_, m0.armed_, m0.left_, m0.fall_, m0.acts_, m0.falls_⟩ : disk_Disk).falls_⟩ : disk_Disk).falls_)] 43]) (fun w hs => sat_to [0, 0] 0 rfl hs) rfl (rr_tmp rfl) ⟨p0, c0, rfl, rfl, hr0⟩
      · refine ow_slots (L' := [(0, .pointer (some ⟨b0, 0, none⟩)), (1, .int .i64 x1), (17, .bool false)]) (by rw [h25]) ?_
        refine ow_vals 4 (j := 7) [17, 18, 21] [(17, .bool false), (18, .int .i64 x1), (21, .pointer (some ⟨b0, 0, none⟩))] rfl (by kernel_rfl) ?_
        refine ow_pw rfl (pw_quiet (v := .slice p0 ((⟨m0.sure_, ([] : List (Int × disk_sector)), m0.off_, m0.armed_, m0.left_, m0.fall_, m0.acts_, m0.falls_⟩ : disk_Disk).sure_).length c0) rfl rfl rfl rfl (q_load 1 rfl rfl rfl (by kernel_rfl)) (nw_ow ?_))
        refine ow_vals 4 (j := 12) [14] [(14, .bool (decide (x1 ≥ (((⟨m0.sure_, ([] : List (Int × disk_sector)), m0.off_, m0.armed_, m0.left_, m0.fall_, m0.acts_, m0.falls_⟩ : disk_Disk).sure_).length : Int))))] rfl (by kernel_rfl) ?_
        refine ow_end rfl ?_
        refine ew_then ?_
        rcases if_some hF with ⟨h26, hF⟩ | ⟨h26, hF⟩
        · refine cw_cond_t rfl rfl h26 ?_
          refine cw_seq ?_
          refine cw_region ?_
          refine ow_vals 1 (j := 1) [4] [(4, .int .i64 5)] rfl (by kernel_rfl) ?_
          refine ow_end rfl ?_
          refine ew_then ?_
          refine cw_ret ?_
          refine ew_blk_ret ?_
          refine ew_then_ret ?_
          have hR := Option.some.inj hF
          subst hR
          exact fin1 (H1 := [imm I, pt b0 #[.slice p0 ((⟨(⟨m0.sure_, ([] : List (Int × disk_sector)), m0.off_, m0.armed_, m0.left_, m0.fall_, m0.acts_, m0.falls_⟩ : disk_Disk).sure_, ([] : List (Int × disk_sector)), (⟨m0.sure_, ([] : List (Int × disk_sector)), m0.off_, m0.armed_, m0.left_, m0.fall_, m0.acts_, m0.falls_⟩ : disk_Disk).off_, (⟨m0.sure_, ([] : List (Int × disk_sector)), m0.off_, m0.armed_, m0.left_, m0.fall_, m0.acts_, m0.falls_⟩ : disk_Disk).armed_, (⟨m0.sure_, ([] : List (Int × disk_sector)), m0.off_, m0.armed_, m0.left_, m0.fall_, m0.acts_, m0.falls_⟩ : disk_Disk).left_, (⟨m0.sure_, ([] : List (Int × disk_sector)), m0.off_, m0.armed_, m0.left_, m0.fall_, m0.acts_, m0.falls_⟩ : disk_Disk).fall_, (⟨m0.sure_, ([] : List (Int × disk_sector)), m0.off_, m0.armed_, m0.left_, m0.fall_, m0.acts_, m0.falls_⟩ : disk_Disk).acts_, (⟨m0.sure_, ([] : List (Int × disk_sector)), m0.off_, m0.armed_, m0.left_, m0.fall_, m0.acts_, m0.falls_⟩ : disk_Disk).falls_⟩ : disk_Disk).sure_).length c0, .map none, .bool ((⟨(⟨m0.sure_, ([] : List (Int × disk_sector)), m0.off_, m0.armed_, m0.left_, m0.fall_, m0.acts_, m0.falls_⟩ : disk_Disk).sure_, ([] : List (Int × disk_sector)), (⟨m0.sure_, ([] : List (Int × disk_sector)), m0.off_, m0.armed_, m0.left_, m0.fall_, m0.acts_, m0.falls_⟩ : disk_Disk).off_, (⟨m0.sure_, ([] : List (Int × disk_sector)), m0.off_, m0.armed_, m0.left_, m0.fall_, m0.acts_, m0.falls_⟩ : disk_Disk).armed_, (⟨m0.sure_, ([] : List (Int × disk_sector)), m0.off_, m0.armed_, m0.left_, m0.fall_, m0.acts_, m0.falls_⟩ : disk_Disk).left_, (⟨m0.sure_, ([] : List (Int × disk_sector)), m0.off_, m0.armed_, m0.left_, m0.fall_, m0.acts_, m0.falls_⟩ : disk_Disk).fall_, (⟨m0.sure_, ([] : List (Int × disk_sector)), m0.off_, m0.armed_, m0.left_, m0.fall_, m0.acts_, m0.falls_⟩ : disk_Disk).acts_, (⟨m0.sure_, ([] : List (Int × disk_sector)), m0.off_, m0.armed_, m0.left_, m0.fall_, m0.acts_, m0.falls_⟩ : disk_Disk).falls_⟩ : disk_Disk).off_), .bool ((⟨(⟨m0.sure_, ([] : List (Int × disk_sector)), m0.off_, m0.armed_, m0.left_, m0.fall_, m0.acts_, m0.falls_⟩ : disk_Disk).sure_, ([] : List (Int × disk_sector)), (⟨m0.sure_, ([] : List (Int × disk_sector)), m0.off_, m0.armed_, m0.left_, m0.fall_, m0.acts_, m0.falls_⟩ : disk_Disk).off_, (⟨m0.sure_, ([] : List (Int × disk_sector)), m0.off_, m0.armed_, m0.left_, m0.fall_, m0.acts_, m0.falls_⟩ : disk_Disk).armed_, (⟨m0.sure_, ([] : List (Int × disk_sector)), m0.off_, m0.armed_, m0.left_, m0.fall_, m0.acts_, m0.falls_⟩ : disk_Disk).left_, (⟨m0.sure_, ([] : List (Int × disk_sector)), m0.off_, m0.armed_, m0.left_, m0.fall_, m0.acts_, m0.falls_⟩ : disk_Disk).fall_, (⟨m0.sure_, ([] : List (Int × disk_sector)), m0.off_, m0.armed_, m0.left_, m0.fall_, m0.acts_, m0.falls_⟩ : disk_Disk).acts_, (⟨m0.sure_, ([] : List (Int × disk_sector)), m0.off_, m0.armed_, m0.left_, m0.fall_, m0.acts_, m0.falls_⟩ : disk_Disk).falls_⟩ : disk_Disk).armed_), .int .i64 ((⟨(⟨m0.sure_, ([] : List (Int × disk_sector)), m0.off_, m0.armed_, m0.left_, m0.fall_, m0.acts_, m0.falls_⟩ : disk_Disk).sure_, ([] : List (Int × disk_sector)), (⟨m0.sure_, ([] : List (Int × disk_sector)), m0.off_, m0.armed_, m0.left_, m0.fall_, m0.acts_, m0.falls_⟩ : disk_Disk).off_, (⟨m0.sure_, ([] : List (Int × disk_sector)), m0.off_, m0.armed_, m0.left_, m0.fall_, m0.acts_, m0.falls_⟩ : disk_Disk).armed_, (⟨m0.sure_, ([] : List (Int × disk_sector)), m0.off_, m0.armed_, m0.left_, m0.fall_, m0.acts_, m0.falls_⟩ : disk_Disk).left_, (⟨m0.sure_, ([] : List (Int × disk_sector)), m0.off_, m0.armed_, m0.left_, m0.fall_, m0.acts_, m0.falls_⟩ : disk_Disk).fall_, (⟨m0.sure_, ([] : List (Int × disk_sector)), m0.off_, m0.armed_, m0.left_, m0.fall_, m0.acts_, m0.falls_⟩ : disk_Disk).acts_, (⟨m0.sure_, ([] : List (Int × disk_sector)), m0.off_, m0.armed_, m0.left_, m0.fall_, m0.acts_, m0.falls_⟩ : disk_Disk).falls_⟩ : disk_Disk).left_), .int .u64 (((⟨(⟨m0.sure_, ([] : List (Int × disk_sector)), m0.off_, m0.armed_, m0.left_, m0.fall_, m0.acts_, m0.falls_⟩ : disk_Disk).sure_, ([] : List (Int × disk_sector)), (⟨m0.sure_, ([] : List (Int × disk_sector)), m0.off_, m0.armed_, m0.left_, m0.fall_, m0.acts_, m0.falls_⟩ : disk_Disk).off_, (⟨m0.sure_, ([] : List (Int × disk_sector)), m0.off_, m0.armed_, m0.left_, m0.fall_, m0.acts_, m0.falls_⟩ : disk_Disk).armed_, (⟨m0.sure_, ([] : List (Int × disk_sector)), m0.off_, m0.armed_, m0.left_, m0.fall_, m0.acts_, m0.falls_⟩ : disk_Disk).left_, (⟨m0.sure_, ([] : List (Int × disk_sector)), m0.off_, m0.armed_, m0.left_, m0.fall_, m0.acts_, m0.falls_⟩ : disk_Disk).fall_, (⟨m0.sure_, ([] : List (Int × disk_sector)), m0.off_, m0.armed_, m0.left_, m0.fall_, m0.acts_, m0.falls_⟩ : disk_Disk).acts_, (⟨m0.sure_, ([] : List (Int × disk_sector)), m0.off_, m0.armed_, m0.left_, m0.fall_, m0.acts_, m0.falls_⟩ : disk_Disk).falls_⟩ : disk_Disk).fall_).Keep), .int .i64 (((⟨(⟨m0.sure_, ([] : List (Int × disk_sector)), m0.off_, m0.armed_, m0.left_, m0.fall_, m0.acts_, m0.falls_⟩ : disk_Disk).sure_, ([] : List (Int × disk_sector)), (⟨m0.sure_, ([] : List (Int × disk_sector)), m0.off_, m0.armed_, m0.left_, m0.fall_, m0.acts_, m0.falls_⟩ : disk_Disk).off_, (⟨m0.sure_, ([] : List (Int × disk_sector)), m0.off_, m0.armed_, m0.left_, m0.fall_, m0.acts_, m0.falls_⟩ : disk_Disk).armed_, (⟨m0.sure_, ([] : List (Int × disk_sector)), m0.off_, m0.armed_, m0.left_, m0.fall_, m0.acts_, m0.falls_⟩ : disk_Disk).left_, (⟨m0.sure_, ([] : List (Int × disk_sector)), m0.off_, m0.armed_, m0.left_, m0.fall_, m0.acts_, m0.falls_⟩ : disk_Disk).fall_, (⟨m0.sure_, ([] : List (Int × disk_sector)), m0.off_, m0.armed_, m0.left_, m0.fall_, m0.acts_, m0.falls_⟩ : disk_Disk).acts_, (⟨m0.sure_, ([] : List (Int × disk_sector)), m0.off_, m0.armed_, m0.left_, m0.fall_, m0.acts_, m0.falls_⟩ : disk_Disk).falls_⟩ : disk_Disk).fall_).Tear), .int .i64 ((⟨(⟨m0.sure_, ([] : List (Int × disk_sector)), m0.off_, m0.armed_, m0.left_, m0.fall_, m0.acts_, m0.falls_⟩ : disk_Disk).sure_, ([] : List (Int × disk_sector)), (⟨m0.sure_, ([] : List (Int × disk_sector)), m0.off_, m0.armed_, m0.left_, m0.fall_, m0.acts_, m0.falls_⟩ : disk_Disk).off_, (⟨m0.sure_, ([] : List (Int × disk_sector)), m0.off_, m0.armed_, m0.left_, m0.fall_, m0.acts_, m0.falls_⟩ : disk_Disk).armed_, (⟨m0.sure_, ([] : List (Int × disk_sector)), m0.off_, m0.armed_, m0.left_, m0.fall_, m0.acts_, m0.falls_⟩ : disk_Disk).left_, (⟨m0.sure_, ([] : List (Int × disk_sector)), m0.off_, m0.armed_, m0.left_, m0.fall_, m0.acts_, m0.falls_⟩ : disk_Disk).fall_, (⟨m0.sure_, ([] : List (Int × disk_sector)), m0.off_, m0.armed_, m0.left_, m0.fall_, m0.acts_, m0.falls_⟩ : disk_Disk).acts_, (⟨m0.sure_, ([] : List (Int × disk_sector)), m0.off_, m0.armed_, m0.left_, m0.fall_, m0.acts_, m0.falls_⟩ : disk_Disk).falls_⟩ : disk_Disk).acts_), .int .i64 ((⟨(⟨m0.sure_, ([] : List (Int × disk_sector)), m0.off_, m0.armed_, m0.left_, m0.fall_, m0.acts_, m0.falls_⟩ : disk_Disk).sure_, ([] : List (Int × disk_sector)), (⟨m0.sure_, ([] : List (Int × disk_sector)), m0.off_, m0.armed_, m0.left_, m0.fall_, m0.acts_, m0.falls_⟩ : disk_Disk).off_, (⟨m0.sure_, ([] : List (Int × disk_sector)), m0.off_, m0.armed_, m0.left_, m0.fall_, m0.acts_, m0.falls_⟩ : disk_Disk).armed_, (⟨m0.sure_, ([] : List (Int × disk_sector)), m0.off_, m0.armed_, m0.left_, m0.fall_, m0.acts_, m0.falls_⟩ : disk_Disk).left_, (⟨m0.sure_, ([] : List (Int × disk_sector)), m0.off_, m0.armed_, m0.left_, m0.fall_, m0.acts_, m0.falls_⟩ : disk_Disk).fall_, (⟨m0.sure_, ([] : List (Int × disk_sector)), m0.off_, m0.armed_, m0.left_, m0.fall_, m0.acts_, m0.falls_⟩ : disk_Disk).acts_, (⟨m0.sure_, ([] : List (Int × disk_sector)), m0.off_, m0.armed_, m0.left_, m0.fall_, m0.acts_, m0.falls_⟩ : disk_Disk).falls_⟩ : disk_Disk).falls_)] 43]) (fun w hs => sat_to [0, 0] 0 rfl hs) rfl (rr_tmp rfl) ⟨p0, c0, rfl, rfl, hr0⟩
        · refine cw_cond_f rfl rfl h26 ?_
          refine cw_skip ?_
          refine ew_blk ?_
          refine ew_then ?_
          refine cw_seq ?_
          refine cw_region ?_
          refine ow_vals 1 (j := 1) [4] [(4, .int .i64 0)] rfl (by kernel_rfl) ?_
          refine ow_end rfl ?_
          refine ew_then ?_
          refine cw_ret ?_
          have hR := Option.some.inj hF
          subst hR
          exact fin1 (H1 := [imm I, pt b0 #[.slice p0 ((⟨(⟨m0.sure_, ([] : List (Int × disk_sector)), m0.off_, m0.armed_, m0.left_, m0.fall_, m0.acts_, m0.falls_⟩ : disk_Disk).sure_, ([] : List (Int × disk_sector)), (⟨m0.sure_, ([] : List (Int × disk_sector)), m0.off_, m0.armed_, m0.left_, m0.fall_, m0.acts_, m0.falls_⟩ : disk_Disk).off_, (⟨m0.sure_, ([] : List (Int × disk_sector)), m0.off_, m0.armed_, m0.left_, m0.fall_, m0.acts_, m0.falls_⟩ : disk_Disk).armed_, (⟨m0.sure_, ([] : List (Int × disk_sector)), m0.off_, m0.armed_, m0.left_, m0.fall_, m0.acts_, m0.falls_⟩ : disk_Disk).left_, (⟨m0.sure_, ([] : List (Int × disk_sector)), m0.off_, m0.armed_, m0.left_, m0.fall_, m0.acts_, m0.falls_⟩ : disk_Disk).fall_, (⟨m0.sure_, ([] : List (Int × disk_sector)), m0.off_, m0.armed_, m0.left_, m0.fall_, m0.acts_, m0.falls_⟩ : disk_Disk).acts_, (⟨m0.sure_, ([] : List (Int × disk_sector)), m0.off_, m0.armed_, m0.left_, m0.fall_, m0.acts_, m0.falls_⟩ : disk_Disk).falls_⟩ : disk_Disk).sure_).length c0, .map none, .bool ((⟨(⟨m0.sure_, ([] : List (Int × disk_sector)), m0.off_, m0.armed_, m0.left_, m0.fall_, m0.acts_, m0.falls_⟩ : disk_Disk).sure_, ([] : List (Int × disk_sector)), (⟨m0.sure_, ([] : List (Int × disk_sector)), m0.off_, m0.armed_, m0.left_, m0.fall_, m0.acts_, m0.falls_⟩ : disk_Disk).off_, (⟨m0.sure_, ([] : List (Int × disk_sector)), m0.off_, m0.armed_, m0.left_, m0.fall_, m0.acts_, m0.falls_⟩ : disk_Disk).armed_, (⟨m0.sure_, ([] : List (Int × disk_sector)), m0.off_, m0.armed_, m0.left_, m0.fall_, m0.acts_, m0.falls_⟩ : disk_Disk).left_, (⟨m0.sure_, ([] : List (Int × disk_sector)), m0.off_, m0.armed_, m0.left_, m0.fall_, m0.acts_, m0.falls_⟩ : disk_Disk).fall_, (⟨m0.sure_, ([] : List (Int × disk_sector)), m0.off_, m0.armed_, m0.left_, m0.fall_, m0.acts_, m0.falls_⟩ : disk_Disk).acts_, (⟨m0.sure_, ([] : List (Int × disk_sector)), m0.off_, m0.armed_, m0.left_, m0.fall_, m0.acts_, m0.falls_⟩ : disk_Disk).falls_⟩ : disk_Disk).off_), .bool ((⟨(⟨m0.sure_, ([] : List (Int × disk_sector)), m0.off_, m0.armed_, m0.left_, m0.fall_, m0.acts_, m0.falls_⟩ : disk_Disk).sure_, ([] : List (Int × disk_sector)), (⟨m0.sure_, ([] : List (Int × disk_sector)), m0.off_, m0.armed_, m0.left_, m0.fall_, m0.acts_, m0.falls_⟩ : disk_Disk).off_, (⟨m0.sure_, ([] : List (Int × disk_sector)), m0.off_, m0.armed_, m0.left_, m0.fall_, m0.acts_, m0.falls_⟩ : disk_Disk).armed_, (⟨m0.sure_, ([] : List (Int × disk_sector)), m0.off_, m0.armed_, m0.left_, m0.fall_, m0.acts_, m0.falls_⟩ : disk_Disk).left_, (⟨m0.sure_, ([] : List (Int × disk_sector)), m0.off_, m0.armed_, m0.left_, m0.fall_, m0.acts_, m0.falls_⟩ : disk_Disk).fall_, (⟨m0.sure_, ([] : List (Int × disk_sector)), m0.off_, m0.armed_, m0.left_, m0.fall_, m0.acts_, m0.falls_⟩ : disk_Disk).acts_, (⟨m0.sure_, ([] : List (Int × disk_sector)), m0.off_, m0.armed_, m0.left_, m0.fall_, m0.acts_, m0.falls_⟩ : disk_Disk).falls_⟩ : disk_Disk).armed_), .int .i64 ((⟨(⟨m0.sure_, ([] : List (Int × disk_sector)), m0.off_, m0.armed_, m0.left_, m0.fall_, m0.acts_, m0.falls_⟩ : disk_Disk).sure_, ([] : List (Int × disk_sector)), (⟨m0.sure_, ([] : List (Int × disk_sector)), m0.off_, m0.armed_, m0.left_, m0.fall_, m0.acts_, m0.falls_⟩ : disk_Disk).off_, (⟨m0.sure_, ([] : List (Int × disk_sector)), m0.off_, m0.armed_, m0.left_, m0.fall_, m0.acts_, m0.falls_⟩ : disk_Disk).armed_, (⟨m0.sure_, ([] : List (Int × disk_sector)), m0.off_, m0.armed_, m0.left_, m0.fall_, m0.acts_, m0.falls_⟩ : disk_Disk).left_, (⟨m0.sure_, ([] : List (Int × disk_sector)), m0.off_, m0.armed_, m0.left_, m0.fall_, m0.acts_, m0.falls_⟩ : disk_Disk).fall_, (⟨m0.sure_, ([] : List (Int × disk_sector)), m0.off_, m0.armed_, m0.left_, m0.fall_, m0.acts_, m0.falls_⟩ : disk_Disk).acts_, (⟨m0.sure_, ([] : List (Int × disk_sector)), m0.off_, m0.armed_, m0.left_, m0.fall_, m0.acts_, m0.falls_⟩ : disk_Disk).falls_⟩ : disk_Disk).left_), .int .u64 (((⟨(⟨m0.sure_, ([] : List (Int × disk_sector)), m0.off_, m0.armed_, m0.left_, m0.fall_, m0.acts_, m0.falls_⟩ : disk_Disk).sure_, ([] : List (Int × disk_sector)), (⟨m0.sure_, ([] : List (Int × disk_sector)), m0.off_, m0.armed_, m0.left_, m0.fall_, m0.acts_, m0.falls_⟩ : disk_Disk).off_, (⟨m0.sure_, ([] : List (Int × disk_sector)), m0.off_, m0.armed_, m0.left_, m0.fall_, m0.acts_, m0.falls_⟩ : disk_Disk).armed_, (⟨m0.sure_, ([] : List (Int × disk_sector)), m0.off_, m0.armed_, m0.left_, m0.fall_, m0.acts_, m0.falls_⟩ : disk_Disk).left_, (⟨m0.sure_, ([] : List (Int × disk_sector)), m0.off_, m0.armed_, m0.left_, m0.fall_, m0.acts_, m0.falls_⟩ : disk_Disk).fall_, (⟨m0.sure_, ([] : List (Int × disk_sector)), m0.off_, m0.armed_, m0.left_, m0.fall_, m0.acts_, m0.falls_⟩ : disk_Disk).acts_, (⟨m0.sure_, ([] : List (Int × disk_sector)), m0.off_, m0.armed_, m0.left_, m0.fall_, m0.acts_, m0.falls_⟩ : disk_Disk).falls_⟩ : disk_Disk).fall_).Keep), .int .i64 (((⟨(⟨m0.sure_, ([] : List (Int × disk_sector)), m0.off_, m0.armed_, m0.left_, m0.fall_, m0.acts_, m0.falls_⟩ : disk_Disk).sure_, ([] : List (Int × disk_sector)), (⟨m0.sure_, ([] : List (Int × disk_sector)), m0.off_, m0.armed_, m0.left_, m0.fall_, m0.acts_, m0.falls_⟩ : disk_Disk).off_, (⟨m0.sure_, ([] : List (Int × disk_sector)), m0.off_, m0.armed_, m0.left_, m0.fall_, m0.acts_, m0.falls_⟩ : disk_Disk).armed_, (⟨m0.sure_, ([] : List (Int × disk_sector)), m0.off_, m0.armed_, m0.left_, m0.fall_, m0.acts_, m0.falls_⟩ : disk_Disk).left_, (⟨m0.sure_, ([] : List (Int × disk_sector)), m0.off_, m0.armed_, m0.left_, m0.fall_, m0.acts_, m0.falls_⟩ : disk_Disk).fall_, (⟨m0.sure_, ([] : List (Int × disk_sector)), m0.off_, m0.armed_, m0.left_, m0.fall_, m0.acts_, m0.falls_⟩ : disk_Disk).acts_, (⟨m0.sure_, ([] : List (Int × disk_sector)), m0.off_, m0.armed_, m0.left_, m0.fall_, m0.acts_, m0.falls_⟩ : disk_Disk).falls_⟩ : disk_Disk).fall_).Tear), .int .i64 ((⟨(⟨m0.sure_, ([] : List (Int × disk_sector)), m0.off_, m0.armed_, m0.left_, m0.fall_, m0.acts_, m0.falls_⟩ : disk_Disk).sure_, ([] : List (Int × disk_sector)), (⟨m0.sure_, ([] : List (Int × disk_sector)), m0.off_, m0.armed_, m0.left_, m0.fall_, m0.acts_, m0.falls_⟩ : disk_Disk).off_, (⟨m0.sure_, ([] : List (Int × disk_sector)), m0.off_, m0.armed_, m0.left_, m0.fall_, m0.acts_, m0.falls_⟩ : disk_Disk).armed_, (⟨m0.sure_, ([] : List (Int × disk_sector)), m0.off_, m0.armed_, m0.left_, m0.fall_, m0.acts_, m0.falls_⟩ : disk_Disk).left_, (⟨m0.sure_, ([] : List (Int × disk_sector)), m0.off_, m0.armed_, m0.left_, m0.fall_, m0.acts_, m0.falls_⟩ : disk_Disk).fall_, (⟨m0.sure_, ([] : List (Int × disk_sector)), m0.off_, m0.armed_, m0.left_, m0.fall_, m0.acts_, m0.falls_⟩ : disk_Disk).acts_, (⟨m0.sure_, ([] : List (Int × disk_sector)), m0.off_, m0.armed_, m0.left_, m0.fall_, m0.acts_, m0.falls_⟩ : disk_Disk).falls_⟩ : disk_Disk).acts_), .int .i64 ((⟨(⟨m0.sure_, ([] : List (Int × disk_sector)), m0.off_, m0.armed_, m0.left_, m0.fall_, m0.acts_, m0.falls_⟩ : disk_Disk).sure_, ([] : List (Int × disk_sector)), (⟨m0.sure_, ([] : List (Int × disk_sector)), m0.off_, m0.armed_, m0.left_, m0.fall_, m0.acts_, m0.falls_⟩ : disk_Disk).off_, (⟨m0.sure_, ([] : List (Int × disk_sector)), m0.off_, m0.armed_, m0.left_, m0.fall_, m0.acts_, m0.falls_⟩ : disk_Disk).armed_, (⟨m0.sure_, ([] : List (Int × disk_sector)), m0.off_, m0.armed_, m0.left_, m0.fall_, m0.acts_, m0.falls_⟩ : disk_Disk).left_, (⟨m0.sure_, ([] : List (Int × disk_sector)), m0.off_, m0.armed_, m0.left_, m0.fall_, m0.acts_, m0.falls_⟩ : disk_Disk).fall_, (⟨m0.sure_, ([] : List (Int × disk_sector)), m0.off_, m0.armed_, m0.left_, m0.fall_, m0.acts_, m0.falls_⟩ : disk_Disk).acts_, (⟨m0.sure_, ([] : List (Int × disk_sector)), m0.off_, m0.armed_, m0.left_, m0.fall_, m0.acts_, m0.falls_⟩ : disk_Disk).falls_⟩ : disk_Disk).falls_)] 43]) (fun w hs => sat_to [0, 0] 0 rfl hs) rfl (rr_tmp rfl) ⟨p0, c0, rfl, rfl, hr0⟩


def F.disk_Disk_Read_2 (x1 : Int) (m0 : disk_Disk) : Option (ByteArray × Int × disk_Disk) :=
  Option.bind (F.disk_Disk_why_2 x1 (⟨m0.sure_, ([] : List (Int × disk_sector)), m0.off_, m0.armed_, m0.left_, m0.fall_, m0.acts_, m0.falls_⟩ : disk_Disk)) (fun (r21 : Int × disk_Disk) => if r21.1 != 0 then (some (((ByteArray.mk #[]), r21.1, (⟨r21.2.sure_, ([] : List (Int × disk_sector)), r21.2.off_, r21.2.armed_, r21.2.left_, r21.2.fall_, r21.2.acts_, r21.2.falls_⟩ : disk_Disk)))) else (Option.bind (at_ r21.2.sure_ x1) (fun (y26 : disk_sector) => some ((y26.s_, 0, (⟨r21.2.sure_, ([] : List (Int × disk_sector)), r21.2.off_, r21.2.armed_, r21.2.left_, r21.2.fall_, r21.2.acts_, r21.2.falls_⟩ : disk_Disk))))))
set_option maxRecDepth 100000 in
set_option maxHeartbeats 4000000 in
theorem c_disk_Disk_Read_2 (I : Hl) (x1 : Int) (m0 : disk_Disk) (p0 : Option Addr) (c0 : Nat) (b0 : Nat) (res : ByteArray × Int × disk_Disk) (hF : F.disk_Disk_Read_2 x1 m0 = some res) (hr0 : ro I e_disk_sector p0 c0 m0.sure_) : Tr Try.prog 14 [.pointer (some ⟨b0, 0, none⟩), .int .i64 x1] [imm I, pt b0 #[.slice p0 m0.sure_.length c0, .map none, .bool m0.off_, .bool m0.armed_, .int .i64 m0.left_, .int .u64 m0.fall_.Keep, .int .i64 m0.fall_.Tear, .int .i64 m0.acts_, .int .i64 m0.falls_] 43] (fun r H' => ∃ (pq1 : Option Addr), ∃ (cq2 : Nat), r = .tuple #[.string res.1, .int .i64 res.2.1] ∧ H' = [imm I, pt b0 #[.slice pq1 res.2.2.sure_.length cq2, .map none, .bool res.2.2.off_, .bool res.2.2.armed_, .int .i64 res.2.2.left_, .int .u64 res.2.2.fall_.Keep, .int .i64 res.2.2.fall_.Tear, .int .i64 res.2.2.acts_, .int .i64 res.2.2.falls_] 43] ∧ ro I e_disk_sector pq1 cq2 res.2.2.sure_) := by
  unfold F.disk_Disk_Read_2 at hF
  refine tr_of_cw (fn := Try.f14) Try.func14 rfl (Nat.le_of_ble_eq_true rfl) 35 rfl fun F0 w0 => ?_
  refine cw_keep [0, 1] (L' := [(0, .pointer (some ⟨b0, 0, none⟩)), (1, .int .i64 x1)]) rfl ?_
  refine cw_state (S' := SAT w0 ([imm I, pt b0 #[.slice p0 m0.sure_.length c0, .map none, .bool m0.off_, .bool m0.armed_, .int .i64 m0.left_, .int .u64 m0.fall_.Keep, .int .i64 m0.fall_.Tear, .int .i64 m0.acts_, .int .i64 m0.falls_] 43] ++ F0)) (fun w hs => hs) ?_
  refine cw_seq ?_
  refine cw_region ?_
  refine ow_vals 2 (j := 2) [0, 1] [(0, .pointer (some ⟨b0, 0, none⟩)), (1, .int .i64 x1)] rfl (by kernel_rfl) ?_
  refine ow_end rfl ?_
  refine ew_then ?_
  refine cw_seq ?_
  refine cw_seq ?_
  refine cw_region ?_
  refine ow_vals 2 (j := 2) [0, 1, 9, 10] [(0, .pointer (some ⟨b0, 0, none⟩)), (1, .int .i64 x1), (9, .pointer (some ⟨b0, 0, none⟩)), (10, .int .i64 x1)] rfl (by kernel_rfl) ?_
  obtain ⟨r21, h22, hF⟩ := bind_some hF
  refine ow_pw rfl (pw_call (F := [] ++ F0) rfl rfl rfl rfl rfl rfl rfl (by kernel_rfl) (perm_of_pulls [0, 0] rfl) (c_disk_Disk_why_2 _ x1 (⟨m0.sure_, ([] : List (Int × disk_sector)), m0.off_, m0.armed_, m0.left_, m0.fall_, m0.acts_, m0.falls_⟩ : disk_Disk) p0 c0 b0 r21 h22 hr0) ?_)
  rintro _ _ ⟨r21_p1, r21_c2, rfl, rfl, r21_h3⟩
  refine nw_H (H' := [imm I, pt b0 #[.slice r21_p1 r21.2.sure_.length r21_c2, .map none, .bool r21.2.off_, .bool r21.2.armed_, .int .i64 r21.2.left_, .int .u64 r21.2.fall_.Keep, .int .i64 r21.2.fall_.Tear, .int .i64 r21.2.acts_, .int .i64 r21.2.falls_] 43] ++ F0) rfl (nw_ow ?_)
  refine ow_vals 1 (j := 4) [0, 1, 6] [(0, .pointer (some ⟨b0, 0, none⟩)), (1, .int .i64 x1), (6, .int .i64 r21.1)] rfl (by kernel_rfl) ?_
  refine ow_end rfl ?_
  refine ew_then ?_
  refine cw_seq ?_
  refine cw_region ?_
  refine ow_vals 2 (j := 2) [0, 1, 6, 13] [(0, .pointer (some ⟨b0, 0, none⟩)), (1, .int .i64 x1), (6, .int .i64 r21.1), (13, .bool (r21.1 != 0))] rfl (by kernel_rfl) ?_
  refine ow_end rfl ?_
  refine ew_then ?_
  rcases if_some hF with ⟨h23, hF⟩ | ⟨h23, hF⟩
  · refine cw_cond_t rfl rfl h23 ?_
    refine cw_seq ?_
    refine cw_region ?_
    refine ow_vals 3 (j := 3) [4, 5] [(4, .string (ByteArray.mk #[])), (5, .int .i64 r21.1)] rfl (by kernel_rfl) ?_
    refine ow_end rfl ?_
    refine ew_then ?_
    refine cw_ret ?_
    refine ew_then_ret ?_
    have hR := Option.some.inj hF
    subst hR
    exact fin2 (H1 := [imm I, pt b0 #[.slice r21_p1 ((⟨r21.2.sure_, ([] : List (Int × disk_sector)), r21.2.off_, r21.2.armed_, r21.2.left_, r21.2.fall_, r21.2.acts_, r21.2.falls_⟩ : disk_Disk).sure_).length r21_c2, .map none, .bool ((⟨r21.2.sure_, ([] : List (Int × disk_sector)), r21.2.off_, r21.2.armed_, r21.2.left_, r21.2.fall_, r21.2.acts_, r21.2.falls_⟩ : disk_Disk).off_), .bool ((⟨r21.2.sure_, ([] : List (Int × disk_sector)), r21.2.off_, r21.2.armed_, r21.2.left_, r21.2.fall_, r21.2.acts_, r21.2.falls_⟩ : disk_Disk).armed_), .int .i64 ((⟨r21.2.sure_, ([] : List (Int × disk_sector)), r21.2.off_, r21.2.armed_, r21.2.left_, r21.2.fall_, r21.2.acts_, r21.2.falls_⟩ : disk_Disk).left_), .int .u64 (((⟨r21.2.sure_, ([] : List (Int × disk_sector)), r21.2.off_, r21.2.armed_, r21.2.left_, r21.2.fall_, r21.2.acts_, r21.2.falls_⟩ : disk_Disk).fall_).Keep), .int .i64 (((⟨r21.2.sure_, ([] : List (Int × disk_sector)), r21.2.off_, r21.2.armed_, r21.2.left_, r21.2.fall_, r21.2.acts_, r21.2.falls_⟩ : disk_Disk).fall_).Tear), .int .i64 ((⟨r21.2.sure_, ([] : List (Int × disk_sector)), r21.2.off_, r21.2.armed_, r21.2.left_, r21.2.fall_, r21.2.acts_, r21.2.falls_⟩ : disk_Disk).acts_), .int .i64 ((⟨r21.2.sure_, ([] : List (Int × disk_sector)), r21.2.off_, r21.2.armed_, r21.2.left_, r21.2.fall_, r21.2.acts_, r21.2.falls_⟩ : disk_Disk).falls_)] 43]) (fun w hs => sat_to [0, 0] 0 rfl hs) rfl (rr_tmp rfl) (rr_tmp rfl) ⟨r21_p1, r21_c2, rfl, rfl, r21_h3⟩
  · refine cw_cond_f rfl rfl h23 ?_
    refine cw_skip ?_
    refine ew_then ?_
    refine cw_seq ?_
    refine cw_seq ?_
    refine cw_region ?_
    refine ow_vals 3 (j := 3) [0, 1, 18] [(0, .pointer (some ⟨b0, 0, none⟩)), (1, .int .i64 x1), (18, .pointer (some ⟨b0, 1, none⟩))] rfl (by kernel_rfl) ?_
    refine ow_pw rfl (pw_quiet (v := .map none) rfl rfl rfl rfl (q_load 1 rfl rfl rfl (by kernel_rfl)) (nw_ow ?_))
    refine ow_vals 1 (j := 5) [0, 1, 19, 20] [(0, .pointer (some ⟨b0, 0, none⟩)), (1, .int .i64 x1), (19, .map none), (20, .int .i64 x1)] rfl (by kernel_rfl) ?_
    refine ow_pw rfl (pw_quiet (v := .tuple #[.agg #[.string ((⟨(ByteArray.mk #[]), 0⟩ : disk_sector).s_), .int .i64 ((⟨(ByteArray.mk #[]), 0⟩ : disk_sector).at_)], .bool false]) rfl rfl rfl rfl (q_lookup_nil2 (kf := (kInt .i64)) (vf := (fun x : disk_sector => Value.agg #[.string x.s_, .int .i64 x.at_])) (key := x1) (⟨(ByteArray.mk #[]), 0⟩ : disk_sector) (mkey_int (by kernel_rfl)) rfl rfl rfl rfl (by kernel_rfl)) (nw_ow ?_))
    refine ow_vals 3 (j := 9) [0, 1, 22, 23] [(0, .pointer (some ⟨b0, 0, none⟩)), (1, .int .i64 x1), (22, .agg #[.string ((⟨(ByteArray.mk #[]), 0⟩ : disk_sector).s_), .int .i64 ((⟨(ByteArray.mk #[]), 0⟩ : disk_sector).at_)]), (23, .bool false)] rfl (by kernel_rfl) ?_
    refine ow_pw rfl (pw_alloc (cs := #[.string (ByteArray.mk #[]), .int .i64 0]) rfl rfl rfl rfl rfl (by kernel_rfl) fun b24 => nw_ow ?_)
    refine ow_pw rfl (pw_store 0 #[.string ((⟨(ByteArray.mk #[]), 0⟩ : disk_sector).s_), .int .i64 ((⟨(ByteArray.mk #[]), 0⟩ : disk_sector).at_)] rfl rfl rfl rfl rfl rfl rfl (by kernel_rfl) (nw_H (H' := [pt b24 #[.string ((⟨(ByteArray.mk #[]), 0⟩ : disk_sector).s_), .int .i64 ((⟨(ByteArray.mk #[]), 0⟩ : disk_sector).at_)] 51, imm I, pt b0 #[.slice r21_p1 r21.2.sure_.length r21_c2, .map none, .bool r21.2.off_, .bool r21.2.armed_, .int .i64 r21.2.left_, .int .u64 r21.2.fall_.Keep, .int .i64 r21.2.fall_.Tear, .int .i64 r21.2.acts_, .int .i64 r21.2.falls_] 43] ++ F0) rfl (nw_ow ?_)))
    refine ow_vals 1 (j := 12) [0, 1, 7, 8] [(0, .pointer (some ⟨b0, 0, none⟩)), (1, .int .i64 x1), (7, .pointer (some ⟨b24, 0, none⟩)), (8, .bool false)] rfl (by kernel_rfl) ?_
    refine ow_end rfl ?_
    refine ew_then ?_
    refine cw_seq ?_
    refine cw_region ?_
    refine ow_vals 1 (j := 1) [0, 1, 7, 24] [(0, .pointer (some ⟨b0, 0, none⟩)), (1, .int .i64 x1), (7, .pointer (some ⟨b24, 0, none⟩)), (24, .bool false)] rfl (by kernel_rfl) ?_
    refine ow_end rfl ?_
    refine ew_then ?_
    refine cw_cond_f rfl rfl rfl ?_
    refine cw_skip ?_
    refine ew_then ?_
    refine cw_seq ?_
    refine cw_region ?_
    refine ow_vals 3 (j := 3) [1, 29] [(1, .int .i64 x1), (29, .pointer (some ⟨b0, 0, none⟩))] rfl (by kernel_rfl) ?_
    refine ow_pw rfl (pw_quiet (v := .slice r21_p1 r21.2.sure_.length r21_c2) rfl rfl rfl rfl (q_load 2 rfl rfl rfl (by kernel_rfl)) (nw_ow ?_))
    refine ow_vals 1 (j := 5) [30, 31] [(30, .slice r21_p1 r21.2.sure_.length r21_c2), (31, .int .i64 x1)] rfl (by kernel_rfl) ?_
    obtain ⟨y26, h27, hF⟩ := bind_some hF
    refine ow_pw rfl (pw_index_ro (E := 51) 2 r21_h3 rfl rfl rfl rfl rfl (by kernel_rfl) rfl rfl rfl h27 fun q28 h29 => nw_ow ?_)
    refine ow_vals 1 (j := 7) [33] [(33, .pointer (some (q28.add 0)))] rfl (by kernel_rfl) ?_
    refine ow_pw rfl (pw_quiet (v := .string y26.s_) rfl rfl rfl rfl (q_load_el 1 rfl h29 rfl rfl (by kernel_rfl)) (nw_ow ?_))
    refine ow_vals 2 (j := 10) [4, 5] [(4, .string y26.s_), (5, .int .i64 0)] rfl (by kernel_rfl) ?_
    refine ow_end rfl ?_
    refine ew_then ?_
    refine cw_ret ?_
    have hR := Option.some.inj hF
    subst hR
    exact fin2 (H1 := [imm I, pt b0 #[.slice r21_p1 ((⟨r21.2.sure_, ([] : List (Int × disk_sector)), r21.2.off_, r21.2.armed_, r21.2.left_, r21.2.fall_, r21.2.acts_, r21.2.falls_⟩ : disk_Disk).sure_).length r21_c2, .map none, .bool ((⟨r21.2.sure_, ([] : List (Int × disk_sector)), r21.2.off_, r21.2.armed_, r21.2.left_, r21.2.fall_, r21.2.acts_, r21.2.falls_⟩ : disk_Disk).off_), .bool ((⟨r21.2.sure_, ([] : List (Int × disk_sector)), r21.2.off_, r21.2.armed_, r21.2.left_, r21.2.fall_, r21.2.acts_, r21.2.falls_⟩ : disk_Disk).armed_), .int .i64 ((⟨r21.2.sure_, ([] : List (Int × disk_sector)), r21.2.off_, r21.2.armed_, r21.2.left_, r21.2.fall_, r21.2.acts_, r21.2.falls_⟩ : disk_Disk).left_), .int .u64 (((⟨r21.2.sure_, ([] : List (Int × disk_sector)), r21.2.off_, r21.2.armed_, r21.2.left_, r21.2.fall_, r21.2.acts_, r21.2.falls_⟩ : disk_Disk).fall_).Keep), .int .i64 (((⟨r21.2.sure_, ([] : List (Int × disk_sector)), r21.2.off_, r21.2.armed_, r21.2.left_, r21.2.fall_, r21.2.acts_, r21.2.falls_⟩ : disk_Disk).fall_).Tear), .int .i64 ((⟨r21.2.sure_, ([] : List (Int × disk_sector)), r21.2.off_, r21.2.armed_, r21.2.left_, r21.2.fall_, r21.2.acts_, r21.2.falls_⟩ : disk_Disk).acts_), .int .i64 ((⟨r21.2.sure_, ([] : List (Int × disk_sector)), r21.2.off_, r21.2.armed_, r21.2.left_, r21.2.fall_, r21.2.acts_, r21.2.falls_⟩ : disk_Disk).falls_)] 43]) (fun w hs => sat_to [0, 0, 0] 1 rfl hs) rfl (rr_tmp rfl) (rr_tmp rfl) ⟨r21_p1, r21_c2, rfl, rfl, r21_h3⟩


def F.disk_Disk_act_1 : Option Int :=
  none
set_option maxRecDepth 100000 in
set_option maxHeartbeats 4000000 in
theorem c_disk_Disk_act_1 (I : Hl) (res : Int) (hF : F.disk_Disk_act_1 = some res) : Tr Try.prog 25 [.pointer none] [imm I] (fun r H' => r = .int .i64 res ∧ H' = [imm I]) := by
  unfold F.disk_Disk_act_1 at hF
  refine tr_of_cw (fn := Try.f25) Try.func25 rfl (Nat.le_of_ble_eq_true rfl) 34 rfl fun F0 w0 => ?_
  refine cw_keep [0] (L' := [(0, .pointer none)]) rfl ?_
  refine cw_state (S' := SAT w0 ([imm I] ++ F0)) (fun w hs => hs) ?_
  refine cw_seq ?_
  refine cw_region ?_
  refine ow_vals 1 (j := 1) [0] [(0, .pointer none)] rfl (by kernel_rfl) ?_
  refine ow_end rfl ?_
  refine ew_then ?_
  refine cw_seq ?_
  refine cw_seq ?_
  refine cw_region ?_
  refine ow_vals 1 (j := 1) [0, 3] [(0, .pointer none), (3, .pointer none)] rfl (by kernel_rfl) ?_
  cases hF


def F.disk_Disk_Write_1 (x1 : Int) (x2 : ByteArray) : Option Int :=
  Option.bind (F.disk_Disk_why_1 x1) (fun (r21 : Int) => if r21 != 0 then (some (r21)) else (if (x2.size : Int) != 64 then (some (1)) else (Option.bind (F.disk_Disk_act_1) (fun (r25 : Int) => if r25 != 0 then (some (r25)) else (none)))))
set_option maxRecDepth 100000 in
set_option maxHeartbeats 4000000 in
theorem c_disk_Disk_Write_1 (I : Hl) (x1 : Int) (x2 : ByteArray) (res : Int) (hF : F.disk_Disk_Write_1 x1 x2 = some res) : Tr Try.prog 9 [.pointer none, .int .i64 x1, .string x2] [imm I] (fun r H' => r = .int .i64 res ∧ H' = [imm I]) := by
  unfold F.disk_Disk_Write_1 at hF
  refine tr_of_cw (fn := Try.f9) Try.func9 rfl (Nat.le_of_ble_eq_true rfl) 34 rfl fun F0 w0 => ?_
  refine cw_keep [0, 1, 2] (L' := [(0, .pointer none), (1, .int .i64 x1), (2, .string x2)]) rfl ?_
  refine cw_state (S' := SAT w0 ([imm I] ++ F0)) (fun w hs => hs) ?_
  refine cw_seq ?_
  refine cw_region ?_
  refine ow_vals 1 (j := 1) [0, 1, 2] [(0, .pointer none), (1, .int .i64 x1), (2, .string x2)] rfl (by kernel_rfl) ?_
  refine ow_end rfl ?_
  refine ew_then ?_
  refine cw_seq ?_
  refine cw_seq ?_
  refine cw_region ?_
  refine ow_vals 2 (j := 2) [0, 1, 2, 9, 10] [(0, .pointer none), (1, .int .i64 x1), (2, .string x2), (9, .pointer none), (10, .int .i64 x1)] rfl (by kernel_rfl) ?_
  obtain ⟨r21, h22, hF⟩ := bind_some hF
  refine ow_pw rfl (pw_call (F := [] ++ F0) rfl rfl rfl rfl rfl rfl rfl (by kernel_rfl) (perm_of_pulls [0] rfl) (c_disk_Disk_why_1 _ x1 r21 h22) ?_)
  rintro _ _ ⟨rfl, rfl⟩
  refine nw_H (H' := [imm I] ++ F0) rfl (nw_ow ?_)
  refine ow_vals 1 (j := 4) [0, 1, 2, 7] [(0, .pointer none), (1, .int .i64 x1), (2, .string x2), (7, .int .i64 r21)] rfl (by kernel_rfl) ?_
  refine ow_end rfl ?_
  refine ew_then ?_
  refine cw_seq ?_
  refine cw_region ?_
  refine ow_vals 2 (j := 2) [0, 1, 2, 7, 13] [(0, .pointer none), (1, .int .i64 x1), (2, .string x2), (7, .int .i64 r21), (13, .bool (r21 != 0))] rfl (by kernel_rfl) ?_
  refine ow_end rfl ?_
  refine ew_then ?_
  rcases if_some hF with ⟨h23, hF⟩ | ⟨h23, hF⟩
  · refine cw_cond_t rfl rfl h23 ?_
    refine cw_seq ?_
    refine cw_region ?_
    refine ow_vals 2 (j := 2) [6] [(6, .int .i64 r21)] rfl (by kernel_rfl) ?_
    refine ow_end rfl ?_
    refine ew_then ?_
    refine cw_ret ?_
    refine ew_then_ret ?_
    have hR := Option.some.inj hF
    subst hR
    exact fin1 (H1 := [imm I]) (fun w hs => sat_to [0] 0 rfl hs) rfl (rr_tmp rfl) ⟨rfl, rfl⟩
  · refine cw_cond_f rfl rfl h23 ?_
    refine cw_skip ?_
    refine ew_then ?_
    refine cw_seq ?_
    refine cw_seq ?_
    refine cw_region ?_
    refine ow_vals 3 (j := 3) [0, 1, 2, 17] [(0, .pointer none), (1, .int .i64 x1), (2, .string x2), (17, .bool ((x2.size : Int) != 64))] rfl (by kernel_rfl) ?_
    refine ow_end rfl ?_
    refine ew_then ?_
    rcases if_some hF with ⟨h24, hF⟩ | ⟨h24, hF⟩
    · refine cw_cond_t rfl rfl h24 ?_
      refine cw_seq ?_
      refine cw_region ?_
      refine ow_vals 1 (j := 1) [6] [(6, .int .i64 1)] rfl (by kernel_rfl) ?_
      refine ow_end rfl ?_
      refine ew_then ?_
      refine cw_ret ?_
      refine ew_then_ret ?_
      have hR := Option.some.inj hF
      subst hR
      exact fin1 (H1 := [imm I]) (fun w hs => sat_to [0] 0 rfl hs) rfl (rr_tmp rfl) ⟨rfl, rfl⟩
    · refine cw_cond_f rfl rfl h24 ?_
      refine cw_skip ?_
      refine ew_then ?_
      refine cw_seq ?_
      refine cw_seq ?_
      refine cw_region ?_
      refine ow_vals 1 (j := 1) [0, 1, 2, 18] [(0, .pointer none), (1, .int .i64 x1), (2, .string x2), (18, .pointer none)] rfl (by kernel_rfl) ?_
      obtain ⟨r25, h26, hF⟩ := bind_some hF
      refine ow_pw rfl (pw_call (F := [] ++ F0) rfl rfl rfl rfl rfl rfl rfl (by kernel_rfl) (perm_of_pulls [0] rfl) (c_disk_Disk_act_1 _ r25 h26) ?_)
      rintro _ _ ⟨rfl, rfl⟩
      refine nw_H (H' := [imm I] ++ F0) rfl (nw_ow ?_)
      refine ow_vals 1 (j := 3) [0, 1, 2, 8] [(0, .pointer none), (1, .int .i64 x1), (2, .string x2), (8, .int .i64 r25)] rfl (by kernel_rfl) ?_
      refine ow_end rfl ?_
      refine ew_then ?_
      refine cw_seq ?_
      refine cw_region ?_
      refine ow_vals 2 (j := 2) [0, 1, 2, 8, 21] [(0, .pointer none), (1, .int .i64 x1), (2, .string x2), (8, .int .i64 r25), (21, .bool (r25 != 0))] rfl (by kernel_rfl) ?_
      refine ow_end rfl ?_
      refine ew_then ?_
      rcases if_some hF with ⟨h27, hF⟩ | ⟨h27, hF⟩
      · refine cw_cond_t rfl rfl h27 ?_
        refine cw_seq ?_
        refine cw_region ?_
        refine ow_vals 2 (j := 2) [6] [(6, .int .i64 r25)] rfl (by kernel_rfl) ?_
        refine ow_end rfl ?_
        refine ew_then ?_
        refine cw_ret ?_
        refine ew_then_ret ?_
        have hR := Option.some.inj hF
        subst hR
        exact fin1 (H1 := [imm I]) (fun w hs => sat_to [0] 0 rfl hs) rfl (rr_tmp rfl) ⟨rfl, rfl⟩
      · refine cw_cond_f rfl rfl h27 ?_
        refine cw_skip ?_
        refine ew_then ?_
        refine cw_seq ?_
        refine cw_open 12 (SAT w0 ([imm I])) (by kernel_rfl) (f := 12) rfl (fun w hs => sat_drew hs) ?_
        refine aw_vals [0] (f' := 11) (m' := 1) [0, 1, 2, 23] [(0, .pointer none), (1, .int .i64 x1), (2, .string x2), (23, .pointer none)] (fun _ _ _ _ _ h => calm_fin (P := Try.prog) (fn := Try.f9) _ _ _ _ _ h) (fun w hs => sat_pulls [0] (G := [] ++ F0) rfl hs) rfl (by kernel_rfl) ?_
        cases hF


def F.disk_Disk_Waiting_1 (m0 : disk_Disk) : Option ((List Int) × disk_Disk) :=
  Option.bind (F.disk_Disk_Size_2 (⟨m0.sure_, ([] : List (Int × disk_sector)), m0.off_, m0.armed_, m0.left_, m0.fall_, m0.acts_, m0.falls_⟩ : disk_Disk)) (fun (r21 : Int) => if r21 == 0 then (some ((([] : List Int), (⟨(⟨m0.sure_, ([] : List (Int × disk_sector)), m0.off_, m0.armed_, m0.left_, m0.fall_, m0.acts_, m0.falls_⟩ : disk_Disk).sure_, ([] : List (Int × disk_sector)), (⟨m0.sure_, ([] : List (Int × disk_sector)), m0.off_, m0.armed_, m0.left_, m0.fall_, m0.acts_, m0.falls_⟩ : disk_Disk).off_, (⟨m0.sure_, ([] : List (Int × disk_sector)), m0.off_, m0.armed_, m0.left_, m0.fall_, m0.acts_, m0.falls_⟩ : disk_Disk).armed_, (⟨m0.sure_, ([] : List (Int × disk_sector)), m0.off_, m0.armed_, m0.left_, m0.fall_, m0.acts_, m0.falls_⟩ : disk_Disk).left_, (⟨m0.sure_, ([] : List (Int × disk_sector)), m0.off_, m0.armed_, m0.left_, m0.fall_, m0.acts_, m0.falls_⟩ : disk_Disk).fall_, (⟨m0.sure_, ([] : List (Int × disk_sector)), m0.off_, m0.armed_, m0.left_, m0.fall_, m0.acts_, m0.falls_⟩ : disk_Disk).acts_, (⟨m0.sure_, ([] : List (Int × disk_sector)), m0.off_, m0.armed_, m0.left_, m0.fall_, m0.acts_, m0.falls_⟩ : disk_Disk).falls_⟩ : disk_Disk)))) else (none))
set_option maxRecDepth 100000 in
set_option maxHeartbeats 4000000 in
theorem c_disk_Disk_Waiting_1 (I : Hl) (m0 : disk_Disk) (p0 : Option Addr) (c0 : Nat) (b0 : Nat) (res : (List Int) × disk_Disk) (hF : F.disk_Disk_Waiting_1 m0 = some res) (hr0 : ro I e_disk_sector p0 c0 m0.sure_) : Tr Try.prog 22 [.pointer (some ⟨b0, 0, none⟩)] [imm I, pt b0 #[.slice p0 m0.sure_.length c0, .map none, .bool m0.off_, .bool m0.armed_, .int .i64 m0.left_, .int .u64 m0.fall_.Keep, .int .i64 m0.fall_.Tear, .int .i64 m0.acts_, .int .i64 m0.falls_] 43] (fun r H' => ∃ (pq1 : Option Addr), ∃ (cq2 : Nat), ∃ (pq4 : Option Addr), ∃ (cq5 : Nat), r = .slice pq1 res.1.length cq2 ∧ H' = [imm I, pt b0 #[.slice pq4 res.2.sure_.length cq5, .map none, .bool res.2.off_, .bool res.2.armed_, .int .i64 res.2.left_, .int .u64 res.2.fall_.Keep, .int .i64 res.2.fall_.Tear, .int .i64 res.2.acts_, .int .i64 res.2.falls_] 43, own (eInt .i64) 3 pq1 cq2 res.1] ∧ ro I e_disk_sector pq4 cq5 res.2.sure_) := by
  unfold F.disk_Disk_Waiting_1 at hF
  refine tr_of_cw (fn := Try.f22) Try.func22 rfl (Nat.le_of_ble_eq_true rfl) 24 rfl fun F0 w0 => ?_
  refine cw_keep [0] (L' := [(0, .pointer (some ⟨b0, 0, none⟩))]) rfl ?_
  refine cw_state (S' := SAT w0 ([imm I, pt b0 #[.slice p0 m0.sure_.length c0, .map none, .bool m0.off_, .bool m0.armed_, .int .i64 m0.left_, .int .u64 m0.fall_.Keep, .int .i64 m0.fall_.Tear, .int .i64 m0.acts_, .int .i64 m0.falls_] 43] ++ F0)) (fun w hs => hs) ?_
  refine cw_seq ?_
  refine cw_region ?_
  refine ow_vals 1 (j := 1) [0] [(0, .pointer (some ⟨b0, 0, none⟩))] rfl (by kernel_rfl) ?_
  refine ow_end rfl ?_
  refine ew_then ?_
  refine cw_seq ?_
  refine cw_seq ?_
  refine cw_region ?_
  refine ow_vals 1 (j := 1) [0, 5] [(0, .pointer (some ⟨b0, 0, none⟩)), (5, .pointer (some ⟨b0, 0, none⟩))] rfl (by kernel_rfl) ?_
  obtain ⟨r21, h22, hF⟩ := bind_some hF
  refine ow_pw rfl (pw_call (F := [] ++ F0) rfl rfl rfl rfl rfl rfl rfl (by kernel_rfl) (perm_of_pulls [0, 0] rfl) (c_disk_Disk_Size_2 _ (⟨m0.sure_, ([] : List (Int × disk_sector)), m0.off_, m0.armed_, m0.left_, m0.fall_, m0.acts_, m0.falls_⟩ : disk_Disk) p0 c0 b0 r21 h22 hr0) ?_)
  rintro _ _ ⟨rfl, rfl⟩
  refine nw_H (H' := [imm I, pt b0 #[.slice p0 ((⟨m0.sure_, ([] : List (Int × disk_sector)), m0.off_, m0.armed_, m0.left_, m0.fall_, m0.acts_, m0.falls_⟩ : disk_Disk).sure_).length c0, .map none, .bool ((⟨m0.sure_, ([] : List (Int × disk_sector)), m0.off_, m0.armed_, m0.left_, m0.fall_, m0.acts_, m0.falls_⟩ : disk_Disk).off_), .bool ((⟨m0.sure_, ([] : List (Int × disk_sector)), m0.off_, m0.armed_, m0.left_, m0.fall_, m0.acts_, m0.falls_⟩ : disk_Disk).armed_), .int .i64 ((⟨m0.sure_, ([] : List (Int × disk_sector)), m0.off_, m0.armed_, m0.left_, m0.fall_, m0.acts_, m0.falls_⟩ : disk_Disk).left_), .int .u64 ((⟨m0.sure_, ([] : List (Int × disk_sector)), m0.off_, m0.armed_, m0.left_, m0.fall_, m0.acts_, m0.falls_⟩ : disk_Disk).fall_.Keep), .int .i64 ((⟨m0.sure_, ([] : List (Int × disk_sector)), m0.off_, m0.armed_, m0.left_, m0.fall_, m0.acts_, m0.falls_⟩ : disk_Disk).fall_.Tear), .int .i64 ((⟨m0.sure_, ([] : List (Int × disk_sector)), m0.off_, m0.armed_, m0.left_, m0.fall_, m0.acts_, m0.falls_⟩ : disk_Disk).acts_), .int .i64 ((⟨m0.sure_, ([] : List (Int × disk_sector)), m0.off_, m0.armed_, m0.left_, m0.fall_, m0.acts_, m0.falls_⟩ : disk_Disk).falls_)] 43] ++ F0) rfl (nw_ow ?_)
  refine ow_vals 1 (j := 3) [0, 7] [(0, .pointer (some ⟨b0, 0, none⟩)), (7, .bool (r21 == 0))] rfl (by kernel_rfl) ?_
  refine ow_end rfl ?_
  refine ew_then ?_
  rcases if_some hF with ⟨h23, hF⟩ | ⟨h23, hF⟩
  · refine cw_cond_t rfl rfl h23 ?_
    refine cw_seq ?_
    refine cw_region ?_
    refine ow_vals 1 (j := 1) [2] [(2, .slice none 0 0)] rfl (by kernel_rfl) ?_
    refine ow_end rfl ?_
    refine ew_then ?_
    refine cw_ret ?_
    refine ew_then_ret ?_
    have hR := Option.some.inj hF
    subst hR
    exact fin1 (H1 := [imm I, pt b0 #[.slice p0 ((⟨(⟨m0.sure_, ([] : List (Int × disk_sector)), m0.off_, m0.armed_, m0.left_, m0.fall_, m0.acts_, m0.falls_⟩ : disk_Disk).sure_, ([] : List (Int × disk_sector)), (⟨m0.sure_, ([] : List (Int × disk_sector)), m0.off_, m0.armed_, m0.left_, m0.fall_, m0.acts_, m0.falls_⟩ : disk_Disk).off_, (⟨m0.sure_, ([] : List (Int × disk_sector)), m0.off_, m0.armed_, m0.left_, m0.fall_, m0.acts_, m0.falls_⟩ : disk_Disk).armed_, (⟨m0.sure_, ([] : List (Int × disk_sector)), m0.off_, m0.armed_, m0.left_, m0.fall_, m0.acts_, m0.falls_⟩ : disk_Disk).left_, (⟨m0.sure_, ([] : List (Int × disk_sector)), m0.off_, m0.armed_, m0.left_, m0.fall_, m0.acts_, m0.falls_⟩ : disk_Disk).fall_, (⟨m0.sure_, ([] : List (Int × disk_sector)), m0.off_, m0.armed_, m0.left_, m0.fall_, m0.acts_, m0.falls_⟩ : disk_Disk).acts_, (⟨m0.sure_, ([] : List (Int × disk_sector)), m0.off_, m0.armed_, m0.left_, m0.fall_, m0.acts_, m0.falls_⟩ : disk_Disk).falls_⟩ : disk_Disk).sure_).length c0, .map none, .bool ((⟨(⟨m0.sure_, ([] : List (Int × disk_sector)), m0.off_, m0.armed_, m0.left_, m0.fall_, m0.acts_, m0.falls_⟩ : disk_Disk).sure_, ([] : List (Int × disk_sector)), (⟨m0.sure_, ([] : List (Int × disk_sector)), m0.off_, m0.armed_, m0.left_, m0.fall_, m0.acts_, m0.falls_⟩ : disk_Disk).off_, (⟨m0.sure_, ([] : List (Int × disk_sector)), m0.off_, m0.armed_, m0.left_, m0.fall_, m0.acts_, m0.falls_⟩ : disk_Disk).armed_, (⟨m0.sure_, ([] : List (Int × disk_sector)), m0.off_, m0.armed_, m0.left_, m0.fall_, m0.acts_, m0.falls_⟩ : disk_Disk).left_, (⟨m0.sure_, ([] : List (Int × disk_sector)), m0.off_, m0.armed_, m0.left_, m0.fall_, m0.acts_, m0.falls_⟩ : disk_Disk).fall_, (⟨m0.sure_, ([] : List (Int × disk_sector)), m0.off_, m0.armed_, m0.left_, m0.fall_, m0.acts_, m0.falls_⟩ : disk_Disk).acts_, (⟨m0.sure_, ([] : List (Int × disk_sector)), m0.off_, m0.armed_, m0.left_, m0.fall_, m0.acts_, m0.falls_⟩ : disk_Disk).falls_⟩ : disk_Disk).off_), .bool ((⟨(⟨m0.sure_, ([] : List (Int × disk_sector)), m0.off_, m0.armed_, m0.left_, m0.fall_, m0.acts_, m0.falls_⟩ : disk_Disk).sure_, ([] : List (Int × disk_sector)), (⟨m0.sure_, ([] : List (Int × disk_sector)), m0.off_, m0.armed_, m0.left_, m0.fall_, m0.acts_, m0.falls_⟩ : disk_Disk).off_, (⟨m0.sure_, ([] : List (Int × disk_sector)), m0.off_, m0.armed_, m0.left_, m0.fall_, m0.acts_, m0.falls_⟩ : disk_Disk).armed_, (⟨m0.sure_, ([] : List (Int × disk_sector)), m0.off_, m0.armed_, m0.left_, m0.fall_, m0.acts_, m0.falls_⟩ : disk_Disk).left_, (⟨m0.sure_, ([] : List (Int × disk_sector)), m0.off_, m0.armed_, m0.left_, m0.fall_, m0.acts_, m0.falls_⟩ : disk_Disk).fall_, (⟨m0.sure_, ([] : List (Int × disk_sector)), m0.off_, m0.armed_, m0.left_, m0.fall_, m0.acts_, m0.falls_⟩ : disk_Disk).acts_, (⟨m0.sure_, ([] : List (Int × disk_sector)), m0.off_, m0.armed_, m0.left_, m0.fall_, m0.acts_, m0.falls_⟩ : disk_Disk).falls_⟩ : disk_Disk).armed_), .int .i64 ((⟨(⟨m0.sure_, ([] : List (Int × disk_sector)), m0.off_, m0.armed_, m0.left_, m0.fall_, m0.acts_, m0.falls_⟩ : disk_Disk).sure_, ([] : List (Int × disk_sector)), (⟨m0.sure_, ([] : List (Int × disk_sector)), m0.off_, m0.armed_, m0.left_, m0.fall_, m0.acts_, m0.falls_⟩ : disk_Disk).off_, (⟨m0.sure_, ([] : List (Int × disk_sector)), m0.off_, m0.armed_, m0.left_, m0.fall_, m0.acts_, m0.falls_⟩ : disk_Disk).armed_, (⟨m0.sure_, ([] : List (Int × disk_sector)), m0.off_, m0.armed_, m0.left_, m0.fall_, m0.acts_, m0.falls_⟩ : disk_Disk).left_, (⟨m0.sure_, ([] : List (Int × disk_sector)), m0.off_, m0.armed_, m0.left_, m0.fall_, m0.acts_, m0.falls_⟩ : disk_Disk).fall_, (⟨m0.sure_, ([] : List (Int × disk_sector)), m0.off_, m0.armed_, m0.left_, m0.fall_, m0.acts_, m0.falls_⟩ : disk_Disk).acts_, (⟨m0.sure_, ([] : List (Int × disk_sector)), m0.off_, m0.armed_, m0.left_, m0.fall_, m0.acts_, m0.falls_⟩ : disk_Disk).falls_⟩ : disk_Disk).left_), .int .u64 (((⟨(⟨m0.sure_, ([] : List (Int × disk_sector)), m0.off_, m0.armed_, m0.left_, m0.fall_, m0.acts_, m0.falls_⟩ : disk_Disk).sure_, ([] : List (Int × disk_sector)), (⟨m0.sure_, ([] : List (Int × disk_sector)), m0.off_, m0.armed_, m0.left_, m0.fall_, m0.acts_, m0.falls_⟩ : disk_Disk).off_, (⟨m0.sure_, ([] : List (Int × disk_sector)), m0.off_, m0.armed_, m0.left_, m0.fall_, m0.acts_, m0.falls_⟩ : disk_Disk).armed_, (⟨m0.sure_, ([] : List (Int × disk_sector)), m0.off_, m0.armed_, m0.left_, m0.fall_, m0.acts_, m0.falls_⟩ : disk_Disk).left_, (⟨m0.sure_, ([] : List (Int × disk_sector)), m0.off_, m0.armed_, m0.left_, m0.fall_, m0.acts_, m0.falls_⟩ : disk_Disk).fall_, (⟨m0.sure_, ([] : List (Int × disk_sector)), m0.off_, m0.armed_, m0.left_, m0.fall_, m0.acts_, m0.falls_⟩ : disk_Disk).acts_, (⟨m0.sure_, ([] : List (Int × disk_sector)), m0.off_, m0.armed_, m0.left_, m0.fall_, m0.acts_, m0.falls_⟩ : disk_Disk).falls_⟩ : disk_Disk).fall_).Keep), .int .i64 (((⟨(⟨m0.sure_, ([] : List (Int × disk_sector)), m0.off_, m0.armed_, m0.left_, m0.fall_, m0.acts_, m0.falls_⟩ : disk_Disk).sure_, ([] : List (Int × disk_sector)), (⟨m0.sure_, ([] : List (Int × disk_sector)), m0.off_, m0.armed_, m0.left_, m0.fall_, m0.acts_, m0.falls_⟩ : disk_Disk).off_, (⟨m0.sure_, ([] : List (Int × disk_sector)), m0.off_, m0.armed_, m0.left_, m0.fall_, m0.acts_, m0.falls_⟩ : disk_Disk).armed_, (⟨m0.sure_, ([] : List (Int × disk_sector)), m0.off_, m0.armed_, m0.left_, m0.fall_, m0.acts_, m0.falls_⟩ : disk_Disk).left_, (⟨m0.sure_, ([] : List (Int × disk_sector)), m0.off_, m0.armed_, m0.left_, m0.fall_, m0.acts_, m0.falls_⟩ : disk_Disk).fall_, (⟨m0.sure_, ([] : List (Int × disk_sector)), m0.off_, m0.armed_, m0.left_, m0.fall_, m0.acts_, m0.falls_⟩ : disk_Disk).acts_, (⟨m0.sure_, ([] : List (Int × disk_sector)), m0.off_, m0.armed_, m0.left_, m0.fall_, m0.acts_, m0.falls_⟩ : disk_Disk).falls_⟩ : disk_Disk).fall_).Tear), .int .i64 ((⟨(⟨m0.sure_, ([] : List (Int × disk_sector)), m0.off_, m0.armed_, m0.left_, m0.fall_, m0.acts_, m0.falls_⟩ : disk_Disk).sure_, ([] : List (Int × disk_sector)), (⟨m0.sure_, ([] : List (Int × disk_sector)), m0.off_, m0.armed_, m0.left_, m0.fall_, m0.acts_, m0.falls_⟩ : disk_Disk).off_, (⟨m0.sure_, ([] : List (Int × disk_sector)), m0.off_, m0.armed_, m0.left_, m0.fall_, m0.acts_, m0.falls_⟩ : disk_Disk).armed_, (⟨m0.sure_, ([] : List (Int × disk_sector)), m0.off_, m0.armed_, m0.left_, m0.fall_, m0.acts_, m0.falls_⟩ : disk_Disk).left_, (⟨m0.sure_, ([] : List (Int × disk_sector)), m0.off_, m0.armed_, m0.left_, m0.fall_, m0.acts_, m0.falls_⟩ : disk_Disk).fall_, (⟨m0.sure_, ([] : List (Int × disk_sector)), m0.off_, m0.armed_, m0.left_, m0.fall_, m0.acts_, m0.falls_⟩ : disk_Disk).acts_, (⟨m0.sure_, ([] : List (Int × disk_sector)), m0.off_, m0.armed_, m0.left_, m0.fall_, m0.acts_, m0.falls_⟩ : disk_Disk).falls_⟩ : disk_Disk).acts_), .int .i64 ((⟨(⟨m0.sure_, ([] : List (Int × disk_sector)), m0.off_, m0.armed_, m0.left_, m0.fall_, m0.acts_, m0.falls_⟩ : disk_Disk).sure_, ([] : List (Int × disk_sector)), (⟨m0.sure_, ([] : List (Int × disk_sector)), m0.off_, m0.armed_, m0.left_, m0.fall_, m0.acts_, m0.falls_⟩ : disk_Disk).off_, (⟨m0.sure_, ([] : List (Int × disk_sector)), m0.off_, m0.armed_, m0.left_, m0.fall_, m0.acts_, m0.falls_⟩ : disk_Disk).armed_, (⟨m0.sure_, ([] : List (Int × disk_sector)), m0.off_, m0.armed_, m0.left_, m0.fall_, m0.acts_, m0.falls_⟩ : disk_Disk).left_, (⟨m0.sure_, ([] : List (Int × disk_sector)), m0.off_, m0.armed_, m0.left_, m0.fall_, m0.acts_, m0.falls_⟩ : disk_Disk).fall_, (⟨m0.sure_, ([] : List (Int × disk_sector)), m0.off_, m0.armed_, m0.left_, m0.fall_, m0.acts_, m0.falls_⟩ : disk_Disk).acts_, (⟨m0.sure_, ([] : List (Int × disk_sector)), m0.off_, m0.armed_, m0.left_, m0.fall_, m0.acts_, m0.falls_⟩ : disk_Disk).falls_⟩ : disk_Disk).falls_)] 43, own (eInt .i64) 3 none 0 ([] : List Int)]) (fun w hs => sat_to [1, 1, 0] 0 rfl (sat_own_nil (eInt .i64) 3 hs)) rfl (rr_tmp rfl) ⟨none, 0, p0, c0, rfl, rfl, hr0⟩
  · refine cw_cond_f rfl rfl h23 ?_
    refine cw_skip ?_
    refine ew_then ?_
    refine cw_seq ?_
    refine cw_region ?_
    refine ow_vals 1 (j := 1) [0, 3] [(0, .pointer (some ⟨b0, 0, none⟩)), (3, .slice none 0 0)] rfl (by kernel_rfl) ?_
    refine ow_end rfl ?_
    refine ew_then ?_
    refine cw_seq ?_
    refine cw_seq ?_
    refine cw_region ?_
    refine ow_vals 3 (j := 3) [3, 10] [(3, .slice none 0 0), (10, .pointer (some ⟨b0, 1, none⟩))] rfl (by kernel_rfl) ?_
    refine ow_pw rfl (pw_quiet (v := .map none) rfl rfl rfl rfl (q_load 1 rfl rfl rfl (by kernel_rfl)) (nw_ow ?_))
    cases hF


def F.disk_Disk_drop_1.r2 (x1 : disk_Fall) (r24 : (List Int) × disk_Disk) (x28 : Int) (y30 : Int) (x43 : Bool) : Option ((Int) ⊕ ((List disk_sector) × Bool × Bool × Int × Int × Int × Int × Int)) :=
  if x43 then (chk (0 ≤ (0 : Int) ∧ (0 : Int) ≤ (x1.Tear.tmod 64) ∧ (x1.Tear.tmod 64) ≤ (((⟨(ByteArray.mk #[]), 0⟩ : disk_sector).s_).size : Int)) (Option.bind (at_ r24.2.sure_ y30) (fun (y46 : disk_sector) => chk (0 ≤ (x1.Tear.tmod 64) ∧ (x1.Tear.tmod 64) ≤ (y46.s_.size : Int) ∧ (y46.s_.size : Int) ≤ (y46.s_.size : Int)) (chk ((((⟨(ByteArray.mk #[]), 0⟩ : disk_sector).s_).extract (0 : Int).toNat (x1.Tear.tmod 64).toNat).size + (y46.s_.extract (x1.Tear.tmod 64).toNat (y46.s_.size : Int).toNat).size ≤ 9223372036854775807) (Option.bind (at_ r24.2.sure_ y30) (fun (y52 : disk_sector) => none)))))) else (some (.inl (IntKind.i64.wrap (x28 + 1))))
def F.disk_Disk_drop_1.r1 (x1 : disk_Fall) (r24 : (List Int) × disk_Disk) (x28 : Int) (y30 : Int) : Option ((Int) ⊕ ((List disk_sector) × Bool × Bool × Int × Int × Int × Int × Int)) :=
  Option.bind (if decide (x1.Tear ≥ 0) then (some (((IntKind.i64.wrap (x1.Tear.tdiv 64)) == x28))) else (some (false))) (fun x => F.disk_Disk_drop_1.r2 x1 r24 x28 y30 x)
def F.disk_Disk_drop_1.l3 (x1 : disk_Fall) (r24 : (List Int) × disk_Disk) (x28 : Int) : Option ((Int) ⊕ ((List disk_sector) × Bool × Bool × Int × Int × Int × Int × Int)) :=
  if decide (x28 < (r24.1.length : Int)) then (Option.bind (at_ r24.1 x28) (fun (y30 : Int) => Option.bind (chk (0 ≤ (x28.tmod 64)) (if (iand .u64 (x1.Keep.fdiv ((2 : Int) ^ (min (x28.tmod 64).toNat 64))) 1) == 1 then (Option.bind (at_ r24.2.sure_ y30) (fun (y37 : disk_sector) => none)) else (some (())))) (fun x => F.disk_Disk_drop_1.r1 x1 r24 x28 y30))) else (some (.inr ((r24.2.sure_, r24.2.off_, r24.2.armed_, r24.2.left_, r24.2.fall_.Keep, r24.2.fall_.Tear, r24.2.acts_, r24.2.falls_))))
def F.disk_Disk_drop_1.r4 (l56 : List disk_sector) (x60 : Bool) (x61 : Bool) (x62 : Int) (x63 : Int) (x64 : Int) (x65 : Int) (x66 : Int) : Option (Unit) :=
  none
def F.disk_Disk_drop_1 (x1 : disk_Fall) (m0 : disk_Disk) : Option Unit :=
  Option.bind (Option.bind (F.disk_Disk_Waiting_1 (⟨m0.sure_, ([] : List (Int × disk_sector)), m0.off_, m0.armed_, m0.left_, m0.fall_, m0.acts_, m0.falls_⟩ : disk_Disk)) (fun (r24 : (List Int) × disk_Disk) => iter (fun x => F.disk_Disk_drop_1.l3 x1 r24 x) FUEL 0)) (fun x => F.disk_Disk_drop_1.r4 x.1 x.2.1 x.2.2.1 x.2.2.2.1 x.2.2.2.2.1 x.2.2.2.2.2.1 x.2.2.2.2.2.2.1 x.2.2.2.2.2.2.2)
set_option maxRecDepth 100000 in
set_option maxHeartbeats 4000000 in
theorem c_disk_Disk_drop_1 (I : Hl) (x1 : disk_Fall) (m0 : disk_Disk) (p0 : Option Addr) (c0 : Nat) (b0 : Nat) (res : Unit) (hF : F.disk_Disk_drop_1 x1 m0 = some res) (hr0 : ro I e_disk_sector p0 c0 m0.sure_) : Tr Try.prog 26 [.pointer (some ⟨b0, 0, none⟩), .agg #[.int .u64 x1.Keep, .int .i64 x1.Tear]] [imm I, pt b0 #[.slice p0 m0.sure_.length c0, .map none, .bool m0.off_, .bool m0.armed_, .int .i64 m0.left_, .int .u64 m0.fall_.Keep, .int .i64 m0.fall_.Tear, .int .i64 m0.acts_, .int .i64 m0.falls_] 43] (fun r H' => r = .tuple #[] ∧ H' = [imm I, pt b0 #[.slice p0 m0.sure_.length c0, .map none, .bool m0.off_, .bool m0.armed_, .int .i64 m0.left_, .int .u64 m0.fall_.Keep, .int .i64 m0.fall_.Tear, .int .i64 m0.acts_, .int .i64 m0.falls_] 43]) := by
  unfold F.disk_Disk_drop_1 at hF
  refine tr_of_cw (fn := Try.f26) Try.func26 rfl (Nat.le_of_ble_eq_true rfl) 91 rfl fun F0 w0 => ?_
  refine cw_keep [0, 1] (L' := [(0, .pointer (some ⟨b0, 0, none⟩)), (1, .agg #[.int .u64 x1.Keep, .int .i64 x1.Tear])]) rfl ?_
  refine cw_state (S' := SAT w0 ([imm I, pt b0 #[.slice p0 m0.sure_.length c0, .map none, .bool m0.off_, .bool m0.armed_, .int .i64 m0.left_, .int .u64 m0.fall_.Keep, .int .i64 m0.fall_.Tear, .int .i64 m0.acts_, .int .i64 m0.falls_] 43] ++ F0)) (fun w hs => hs) ?_
  refine cw_seq ?_
  refine cw_region ?_
  refine ow_pw rfl (pw_box (cs := #[.int .u64 x1.Keep, .int .i64 x1.Tear]) rfl rfl rfl rfl rfl rfl fun b21 => nw_ow ?_)
  refine ow_end rfl ?_
  refine ew_then ?_
  obtain ⟨v23, hF, hK23⟩ := bind_some hF
  refine cw_mid (fun a w => ∃ (l56 : List disk_sector), ∃ (x60 : Bool), ∃ (x61 : Bool), ∃ (x62 : Int), ∃ (x63 : Int), ∃ (x64 : Int), ∃ (x65 : Int), ∃ (x66 : Int), ∃ (p57 : Option Addr), ∃ (c58 : Nat), (l56, x60, x61, x62, x63, x64, x65, x66) = v23 ∧ ro I e_disk_sector p57 c58 l56 ∧ Fr 91 [(0, .pointer (some ⟨b0, 0, none⟩))] a ∧ SAT w0 ([imm I, pt b0 #[.slice p57 l56.length c58, .map none, .bool x60, .bool x61, .int .i64 x62, .int .u64 x63, .int .i64 x64, .int .i64 x65, .int .i64 x66] 43, pt b21 #[.int .u64 x1.Keep, .int .i64 x1.Tear] 34] ++ F0) w) ?_ ?_
  · refine cw_seq ?_
    refine cw_region ?_
    refine ow_vals 1 (j := 1) [0, 3, 8] [(0, .pointer (some ⟨b0, 0, none⟩)), (3, .pointer (some ⟨b21, 0, none⟩)), (8, .pointer (some ⟨b0, 0, none⟩))] rfl (by kernel_rfl) ?_
    obtain ⟨r24, h25, hF⟩ := bind_some hF
    refine ow_pw rfl (pw_call (F := [pt b21 #[.int .u64 x1.Keep, .int .i64 x1.Tear] 34] ++ F0) rfl rfl rfl rfl rfl rfl rfl (by kernel_rfl) (perm_of_pulls [1, 1] rfl) (c_disk_Disk_Waiting_1 _ (⟨m0.sure_, ([] : List (Int × disk_sector)), m0.off_, m0.armed_, m0.left_, m0.fall_, m0.acts_, m0.falls_⟩ : disk_Disk) p0 c0 b0 r24 h25 hr0) ?_)
    rintro _ _ ⟨r24_p1, r24_c2, r24_p4, r24_c5, rfl, rfl, r24_h6⟩
    refine nw_H (H' := [imm I, pt b0 #[.slice r24_p4 r24.2.sure_.length r24_c5, .map none, .bool r24.2.off_, .bool r24.2.armed_, .int .i64 r24.2.left_, .int .u64 r24.2.fall_.Keep, .int .i64 r24.2.fall_.Tear, .int .i64 r24.2.acts_, .int .i64 r24.2.falls_] 43, own (eInt .i64) 3 r24_p1 r24_c2 r24.1, pt b21 #[.int .u64 x1.Keep, .int .i64 x1.Tear] 34] ++ F0) rfl (nw_ow ?_)
    refine ow_vals 2 (j := 4) [0, 3, 9, 10, 11] [(0, .pointer (some ⟨b0, 0, none⟩)), (3, .pointer (some ⟨b21, 0, none⟩)), (9, .slice r24_p1 r24.1.length r24_c2), (10, .int .i64 (r24.1.length : Int)), (11, .int .i64 0)] rfl (by kernel_rfl) ?_
    refine ow_end rfl ?_
    refine ew_then ?_
    refine cw_block ?_
    refine fun a w hf hs => wp_rounds (fun k a w => ∃ (x28 : Int), iter (fun x => F.disk_Disk_drop_1.l3 x1 r24 x) k x28 = some v23 ∧ Fr 91 [(0, .pointer (some ⟨b0, 0, none⟩)), (3, .pointer (some ⟨b21, 0, none⟩)), (9, .slice r24_p1 r24.1.length r24_c2), (10, .int .i64 (r24.1.length : Int)), (11, .int .i64 x28)] a ∧ SAT w0 ([imm I, pt b0 #[.slice r24_p4 r24.2.sure_.length r24_c5, .map none, .bool r24.2.off_, .bool r24.2.armed_, .int .i64 r24.2.left_, .int .u64 r24.2.fall_.Keep, .int .i64 r24.2.fall_.Tear, .int .i64 r24.2.acts_, .int .i64 r24.2.falls_] 43, pt b21 #[.int .u64 x1.Keep, .int .i64 x1.Tear] 34, own (eInt .i64) 3 r24_p1 r24_c2 r24.1] ++ F0) w) ?_ FUEL a w ⟨0, hF, hf.keep [0, 3, 9, 10, 11], sat_to [0, 0, 1, 0] 0 rfl hs⟩
    clear hf hs
    clear a w hF
    rintro k a w ⟨x28, hF2, hf, hs⟩
    obtain ⟨k, r27, rfl, hF, hL27⟩ := iter_some hF2
    clear hF2
    revert a w
    show CW _ _ _ 91 [(0, .pointer (some ⟨b0, 0, none⟩)), (3, .pointer (some ⟨b21, 0, none⟩)), (9, .slice r24_p1 r24.1.length r24_c2), (10, .int .i64 (r24.1.length : Int)), (11, .int .i64 x28)] (SAT w0 ([imm I, pt b0 #[.slice r24_p4 r24.2.sure_.length r24_c5, .map none, .bool r24.2.off_, .bool r24.2.armed_, .int .i64 r24.2.left_, .int .u64 r24.2.fall_.Keep, .int .i64 r24.2.fall_.Tear, .int .i64 r24.2.acts_, .int .i64 r24.2.falls_] 43, pt b21 #[.int .u64 x1.Keep, .int .i64 x1.Tear] 34, own (eInt .i64) 3 r24_p1 r24_c2 r24.1] ++ F0))
    try dsimp only at hF
    unfold F.disk_Disk_drop_1.l3 at hF
    refine cw_seq ?_
    refine cw_region ?_
    refine ow_vals 1 (j := 1) [0, 3, 9, 10, 11, 12] [(0, .pointer (some ⟨b0, 0, none⟩)), (3, .pointer (some ⟨b21, 0, none⟩)), (9, .slice r24_p1 r24.1.length r24_c2), (10, .int .i64 (r24.1.length : Int)), (11, .int .i64 x28), (12, .bool (decide (x28 < (r24.1.length : Int))))] rfl (by kernel_rfl) ?_
    refine ow_end rfl ?_
    refine ew_then ?_
    refine cw_seq ?_
    rcases if_some hF with ⟨h29, hF⟩ | ⟨h29, hF⟩
    · refine cw_cond_t rfl rfl h29 ?_
      refine cw_skip ?_
      refine ew_then ?_
      refine cw_seq ?_
      refine cw_block ?_
      refine cw_seq ?_
      refine cw_region ?_
      refine ow_vals 1 (j := 1) [0, 3, 9, 10, 11, 13] [(0, .pointer (some ⟨b0, 0, none⟩)), (3, .pointer (some ⟨b21, 0, none⟩)), (9, .slice r24_p1 r24.1.length r24_c2), (10, .int .i64 (r24.1.length : Int)), (11, .int .i64 x28), (13, .int .i64 x28)] rfl (by kernel_rfl) ?_
      obtain ⟨y30, h31, hF⟩ := bind_some hF
      refine ow_pw rfl (pw_quiet (v := .pointer (some ((base r24_p1).add (x28.toNat * 1)))) rfl rfl rfl rfl (q_index_own 3 1 rfl rfl (by kernel_rfl) rfl rfl (at_some h31).1 (at_lt h31)) (nw_ow ?_))
      refine ow_pw rfl (pw_quiet (v := .int .i64 y30) rfl rfl rfl rfl (q_load_own0 3 1 rfl rfl rfl rfl (at_some h31).2 (by kernel_rfl)) (nw_ow ?_))
      refine ow_vals 2 (j := 5) [0, 3, 4, 5, 9, 10, 11] [(0, .pointer (some ⟨b0, 0, none⟩)), (3, .pointer (some ⟨b21, 0, none⟩)), (4, .int .i64 x28), (5, .int .i64 y30), (9, .slice r24_p1 r24.1.length r24_c2), (10, .int .i64 (r24.1.length : Int)), (11, .int .i64 x28)] rfl (by kernel_rfl) ?_
      refine ow_end rfl ?_
      refine ew_then ?_
      refine cw_seq ?_
      refine cw_region ?_
      refine ow_vals 3 (j := 3) [0, 3, 4, 5, 9, 10, 11, 18] [(0, .pointer (some ⟨b0, 0, none⟩)), (3, .pointer (some ⟨b21, 0, none⟩)), (4, .int .i64 x28), (5, .int .i64 y30), (9, .slice r24_p1 r24.1.length r24_c2), (10, .int .i64 (r24.1.length : Int)), (11, .int .i64 x28), (18, .pointer (some ⟨b0, 1, none⟩))] rfl (by kernel_rfl) ?_
      refine ow_pw rfl (pw_quiet (v := .map none) rfl rfl rfl rfl (q_load 1 rfl rfl rfl (by kernel_rfl)) (nw_ow ?_))
      refine ow_vals 1 (j := 5) [0, 3, 4, 5, 9, 10, 11, 19, 20] [(0, .pointer (some ⟨b0, 0, none⟩)), (3, .pointer (some ⟨b21, 0, none⟩)), (4, .int .i64 x28), (5, .int .i64 y30), (9, .slice r24_p1 r24.1.length r24_c2), (10, .int .i64 (r24.1.length : Int)), (11, .int .i64 x28), (19, .map none), (20, .int .i64 y30)] rfl (by kernel_rfl) ?_
      refine ow_pw rfl (pw_quiet (v := .agg #[.string ((⟨(ByteArray.mk #[]), 0⟩ : disk_sector).s_), .int .i64 ((⟨(ByteArray.mk #[]), 0⟩ : disk_sector).at_)]) rfl rfl rfl rfl (q_lookup_nil1 (kf := (kInt .i64)) (vf := (fun x : disk_sector => Value.agg #[.string x.s_, .int .i64 x.at_])) (key := y30) (⟨(ByteArray.mk #[]), 0⟩ : disk_sector) (mkey_int (by kernel_rfl)) rfl rfl rfl rfl (by kernel_rfl)) (nw_ow ?_))
      refine ow_pw rfl (pw_alloc (cs := #[.string (ByteArray.mk #[]), .int .i64 0]) rfl rfl rfl rfl rfl (by kernel_rfl) fun b32 => nw_ow ?_)
      refine ow_pw rfl (pw_store 0 #[.string ((⟨(ByteArray.mk #[]), 0⟩ : disk_sector).s_), .int .i64 ((⟨(ByteArray.mk #[]), 0⟩ : disk_sector).at_)] rfl rfl rfl rfl rfl rfl rfl (by kernel_rfl) (nw_H (H' := [pt b32 #[.string ((⟨(ByteArray.mk #[]), 0⟩ : disk_sector).s_), .int .i64 ((⟨(ByteArray.mk #[]), 0⟩ : disk_sector).at_)] 51, imm I, pt b0 #[.slice r24_p4 r24.2.sure_.length r24_c5, .map none, .bool r24.2.off_, .bool r24.2.armed_, .int .i64 r24.2.left_, .int .u64 r24.2.fall_.Keep, .int .i64 r24.2.fall_.Tear, .int .i64 r24.2.acts_, .int .i64 r24.2.falls_] 43, pt b21 #[.int .u64 x1.Keep, .int .i64 x1.Tear] 34, own (eInt .i64) 3 r24_p1 r24_c2 r24.1] ++ F0) rfl (nw_ow ?_)))
      refine ow_end rfl ?_
      refine ew_then ?_
      obtain ⟨v34, hF, hK34⟩ := bind_some hF
      refine cw_mid (fun a w => () = v34 ∧ Fr 91 [(0, .pointer (some ⟨b0, 0, none⟩)), (3, .pointer (some ⟨b21, 0, none⟩)), (4, .int .i64 x28), (5, .int .i64 y30), (6, .pointer (some ⟨b32, 0, none⟩)), (9, .slice r24_p1 r24.1.length r24_c2), (10, .int .i64 (r24.1.length : Int)), (11, .int .i64 x28)] a ∧ SAT w0 ([imm I, pt b32 #[.string ((⟨(ByteArray.mk #[]), 0⟩ : disk_sector).s_), .int .i64 ((⟨(ByteArray.mk #[]), 0⟩ : disk_sector).at_)] 51, pt b0 #[.slice r24_p4 r24.2.sure_.length r24_c5, .map none, .bool r24.2.off_, .bool r24.2.armed_, .int .i64 r24.2.left_, .int .u64 r24.2.fall_.Keep, .int .i64 r24.2.fall_.Tear, .int .i64 r24.2.acts_, .int .i64 r24.2.falls_] 43, pt b21 #[.int .u64 x1.Keep, .int .i64 x1.Tear] 34, own (eInt .i64) 3 r24_p1 r24_c2 r24.1] ++ F0) w) ?_ ?_
      · refine cw_seq ?_
        refine cw_region ?_
        refine ow_vals 1 (j := 1) [0, 3, 4, 5, 6, 9, 10, 11, 22] [(0, .pointer (some ⟨b0, 0, none⟩)), (3, .pointer (some ⟨b21, 0, none⟩)), (4, .int .i64 x28), (5, .int .i64 y30), (6, .pointer (some ⟨b32, 0, none⟩)), (9, .slice r24_p1 r24.1.length r24_c2), (10, .int .i64 (r24.1.length : Int)), (11, .int .i64 x28), (22, .pointer (some ⟨b21, 0, none⟩))] rfl (by kernel_rfl) ?_
        refine ow_pw rfl (pw_quiet (v := .int .u64 x1.Keep) rfl rfl rfl rfl (q_load 3 rfl rfl rfl (by kernel_rfl)) (nw_ow ?_))
        refine ow_vals 2 (j := 4) [0, 3, 4, 5, 6, 9, 10, 11, 23, 25] [(0, .pointer (some ⟨b0, 0, none⟩)), (3, .pointer (some ⟨b21, 0, none⟩)), (4, .int .i64 x28), (5, .int .i64 y30), (6, .pointer (some ⟨b32, 0, none⟩)), (9, .slice r24_p1 r24.1.length r24_c2), (10, .int .i64 (r24.1.length : Int)), (11, .int .i64 x28), (23, .int .u64 x1.Keep), (25, .int .i64 (x28.tmod 64))] rfl (by kernel_rfl) ?_
        obtain ⟨h35, hF⟩ := chk_some hF
        refine ow_pw rfl (pw_quiet (v := .int .u64 (x1.Keep.fdiv ((2 : Int) ^ (min (x28.tmod 64).toNat 64)))) rfl rfl rfl rfl (q_shift_shr rfl rfl rfl h35) (nw_ow ?_))
        refine ow_vals 2 (j := 7) [0, 3, 4, 5, 6, 9, 10, 11, 28] [(0, .pointer (some ⟨b0, 0, none⟩)), (3, .pointer (some ⟨b21, 0, none⟩)), (4, .int .i64 x28), (5, .int .i64 y30), (6, .pointer (some ⟨b32, 0, none⟩)), (9, .slice r24_p1 r24.1.length r24_c2), (10, .int .i64 (r24.1.length : Int)), (11, .int .i64 x28), (28, .bool ((iand .u64 (x1.Keep.fdiv ((2 : Int) ^ (min (x28.tmod 64).toNat 64))) 1) == 1))] rfl (by kernel_rfl) ?_
        refine ow_end rfl ?_
        refine ew_then ?_
        rcases if_some hF with ⟨h36, hF⟩ | ⟨h36, hF⟩
        · refine cw_cond_t rfl rfl h36 ?_
          refine cw_open 8 (SAT w0 ([pt b32 #[.string ((⟨(ByteArray.mk #[]), 0⟩ : disk_sector).s_), .int .i64 ((⟨(ByteArray.mk #[]), 0⟩ : disk_sector).at_)] 51, imm I, pt b0 #[.slice r24_p4 r24.2.sure_.length r24_c5, .map none, .bool r24.2.off_, .bool r24.2.armed_, .int .i64 r24.2.left_, .int .u64 r24.2.fall_.Keep, .int .i64 r24.2.fall_.Tear, .int .i64 r24.2.acts_, .int .i64 r24.2.falls_] 43, pt b21 #[.int .u64 x1.Keep, .int .i64 x1.Tear] 34, own (eInt .i64) 3 r24_p1 r24_c2 r24.1])) (by kernel_rfl) (f := 8) rfl (fun w hs => sat_drew hs) ?_
          refine aw_vals [0, 1, 2, 4] (f' := 4) (m' := 23) [0, 3, 4, 5, 6, 9, 10, 11, 31, 33] [(0, .pointer (some ⟨b0, 0, none⟩)), (3, .pointer (some ⟨b21, 0, none⟩)), (4, .int .i64 x28), (5, .int .i64 y30), (6, .pointer (some ⟨b32, 0, none⟩)), (9, .slice r24_p1 r24.1.length r24_c2), (10, .int .i64 (r24.1.length : Int)), (11, .int .i64 x28), (31, .pointer (some ⟨b0, 0, none⟩)), (33, .int .i64 y30)] (fun _ _ _ _ _ h => calm_fin (P := Try.prog) (fn := Try.f26) _ _ _ _ _ h) (fun w hs => sat_pulls [0, 0, 0, 0, 0] (G := [] ++ F0) rfl hs) rfl (by kernel_rfl) ?_
          refine aw_quiet 3 (m' := 31) (v := .slice r24_p4 r24.2.sure_.length r24_c5) 0 [] rfl rfl rfl rfl (by kernel_rfl) (by kernel_rfl) (by kernel_rfl) (fun _ _ _ _ _ h => calm_fin (P := Try.prog) (fn := Try.f26) _ _ _ _ _ h) (fun w hs => sat_pulls [0, 0, 0, 0, 0] (G := [] ++ F0) rfl hs) (q_load 2 rfl rfl rfl (by kernel_rfl)) ?_
          refine aw_quiet 5 (m' := 63) (v := .agg #[.string ((⟨(ByteArray.mk #[]), 0⟩ : disk_sector).s_), .int .i64 ((⟨(ByteArray.mk #[]), 0⟩ : disk_sector).at_)]) 0 [] rfl rfl rfl rfl (by kernel_rfl) (by kernel_rfl) (by kernel_rfl) (fun _ _ _ _ _ h => calm_fin (P := Try.prog) (fn := Try.f26) _ _ _ _ _ h) (fun w hs => sat_pulls [0, 0, 0, 0, 0] (G := [] ++ F0) rfl hs) (q_load 0 rfl rfl rfl (by kernel_rfl)) ?_
          obtain ⟨y37, h38, hF⟩ := bind_some hF
          refine aw_index_ro (E := 51) 6 (m' := 127) 2 r24_h6 rfl rfl rfl rfl rfl (by kernel_rfl) (by kernel_rfl) (fun _ _ _ _ _ h => calm_fin (P := Try.prog) (fn := Try.f26) _ _ _ _ _ h) (fun w hs => sat_pulls [0, 0, 0, 0, 0] (G := [] ++ F0) rfl hs) (by kernel_rfl) rfl rfl rfl h38 fun q39 h40 => ?_
          cases hF
        · refine cw_cond_f rfl rfl h36 ?_
          refine cw_skip ?_
          have hR := Option.some.inj hF
          exact fun a w hf hs => ⟨hR, hf.keep [0, 3, 4, 5, 6, 9, 10, 11], sat_to [1, 0, 0, 0, 0] 0 rfl hs⟩
      · rintro a w ⟨hv, hf, hs⟩
        subst hv
        replace hF := hK34
        clear hK34
        try dsimp only at hF
        revert a w
        show CW _ _ _ 91 [(0, .pointer (some ⟨b0, 0, none⟩)), (3, .pointer (some ⟨b21, 0, none⟩)), (4, .int .i64 x28), (5, .int .i64 y30), (6, .pointer (some ⟨b32, 0, none⟩)), (9, .slice r24_p1 r24.1.length r24_c2), (10, .int .i64 (r24.1.length : Int)), (11, .int .i64 x28)] (SAT w0 ([imm I, pt b32 #[.string ((⟨(ByteArray.mk #[]), 0⟩ : disk_sector).s_), .int .i64 ((⟨(ByteArray.mk #[]), 0⟩ : disk_sector).at_)] 51, pt b0 #[.slice r24_p4 r24.2.sure_.length r24_c5, .map none, .bool r24.2.off_, .bool r24.2.armed_, .int .i64 r24.2.left_, .int .u64 r24.2.fall_.Keep, .int .i64 r24.2.fall_.Tear, .int .i64 r24.2.acts_, .int .i64 r24.2.falls_] 43, pt b21 #[.int .u64 x1.Keep, .int .i64 x1.Tear] 34, own (eInt .i64) 3 r24_p1 r24_c2 r24.1] ++ F0))
        unfold F.disk_Disk_drop_1.r1 at hF
        obtain ⟨v41, hF, hK41⟩ := bind_some hF
        refine cw_mid (fun a w => ∃ (x43 : Bool), x43 = v41 ∧ Fr 91 [(0, .pointer (some ⟨b0, 0, none⟩)), (3, .pointer (some ⟨b21, 0, none⟩)), (5, .int .i64 y30), (6, .pointer (some ⟨b32, 0, none⟩)), (9, .slice r24_p1 r24.1.length r24_c2), (10, .int .i64 (r24.1.length : Int)), (11, .int .i64 x28), (45, .bool x43)] a ∧ SAT w0 ([imm I, pt b32 #[.string ((⟨(ByteArray.mk #[]), 0⟩ : disk_sector).s_), .int .i64 ((⟨(ByteArray.mk #[]), 0⟩ : disk_sector).at_)] 51, pt b0 #[.slice r24_p4 r24.2.sure_.length r24_c5, .map none, .bool r24.2.off_, .bool r24.2.armed_, .int .i64 r24.2.left_, .int .u64 r24.2.fall_.Keep, .int .i64 r24.2.fall_.Tear, .int .i64 r24.2.acts_, .int .i64 r24.2.falls_] 43, pt b21 #[.int .u64 x1.Keep, .int .i64 x1.Tear] 34, own (eInt .i64) 3 r24_p1 r24_c2 r24.1] ++ F0) w) ?_ ?_
        · refine cw_region ?_
          refine ow_vals 1 (j := 1) [0, 3, 4, 5, 6, 9, 10, 11, 36] [(0, .pointer (some ⟨b0, 0, none⟩)), (3, .pointer (some ⟨b21, 0, none⟩)), (4, .int .i64 x28), (5, .int .i64 y30), (6, .pointer (some ⟨b32, 0, none⟩)), (9, .slice r24_p1 r24.1.length r24_c2), (10, .int .i64 (r24.1.length : Int)), (11, .int .i64 x28), (36, .pointer (some ⟨b21, 1, none⟩))] rfl (by kernel_rfl) ?_
          refine ow_pw rfl (pw_quiet (v := .int .i64 x1.Tear) rfl rfl rfl rfl (q_load 3 rfl rfl rfl (by kernel_rfl)) (nw_ow ?_))
          refine ow_vals 2 (j := 4) [0, 3, 4, 5, 6, 9, 10, 11, 39] [(0, .pointer (some ⟨b0, 0, none⟩)), (3, .pointer (some ⟨b21, 0, none⟩)), (4, .int .i64 x28), (5, .int .i64 y30), (6, .pointer (some ⟨b32, 0, none⟩)), (9, .slice r24_p1 r24.1.length r24_c2), (10, .int .i64 (r24.1.length : Int)), (11, .int .i64 x28), (39, .bool (decide (x1.Tear ≥ 0)))] rfl (by kernel_rfl) ?_
          rcases if_some hF with ⟨h42, hF⟩ | ⟨h42, hF⟩
          · refine ow_slots (L' := [(0, .pointer (some ⟨b0, 0, none⟩)), (3, .pointer (some ⟨b21, 0, none⟩)), (4, .int .i64 x28), (5, .int .i64 y30), (6, .pointer (some ⟨b32, 0, none⟩)), (9, .slice r24_p1 r24.1.length r24_c2), (10, .int .i64 (r24.1.length : Int)), (11, .int .i64 x28), (39, .bool true)]) (by rw [h42]) ?_
            refine ow_vals 1 (j := 5) [0, 3, 4, 5, 6, 9, 10, 11, 39, 40] [(0, .pointer (some ⟨b0, 0, none⟩)), (3, .pointer (some ⟨b21, 0, none⟩)), (4, .int .i64 x28), (5, .int .i64 y30), (6, .pointer (some ⟨b32, 0, none⟩)), (9, .slice r24_p1 r24.1.length r24_c2), (10, .int .i64 (r24.1.length : Int)), (11, .int .i64 x28), (39, .bool true), (40, .pointer (some ⟨b21, 1, none⟩))] rfl (by kernel_rfl) ?_
            refine ow_pw rfl (pw_quiet (v := .int .i64 x1.Tear) rfl rfl rfl rfl (q_load 3 rfl rfl rfl (by kernel_rfl)) (nw_ow ?_))
            refine ow_vals 4 (j := 10) [0, 3, 5, 6, 9, 10, 11, 45] [(0, .pointer (some ⟨b0, 0, none⟩)), (3, .pointer (some ⟨b21, 0, none⟩)), (5, .int .i64 y30), (6, .pointer (some ⟨b32, 0, none⟩)), (9, .slice r24_p1 r24.1.length r24_c2), (10, .int .i64 (r24.1.length : Int)), (11, .int .i64 x28), (45, .bool ((IntKind.i64.wrap (x1.Tear.tdiv 64)) == x28))] rfl (by kernel_rfl) ?_
            refine ow_end rfl ?_
            have hR := Option.some.inj hF
            exact fun a w hf hs => ⟨(IntKind.i64.wrap (x1.Tear.tdiv 64)) == x28, hR, hf.keep [0, 3, 5, 6, 9, 10, 11, 45], sat_to [0, 0, 0, 0, 0] 0 rfl hs⟩
          · refine ow_slots (L' := [(0, .pointer (some ⟨b0, 0, none⟩)), (3, .pointer (some ⟨b21, 0, none⟩)), (4, .int .i64 x28), (5, .int .i64 y30), (6, .pointer (some ⟨b32, 0, none⟩)), (9, .slice r24_p1 r24.1.length r24_c2), (10, .int .i64 (r24.1.length : Int)), (11, .int .i64 x28), (39, .bool false)]) (by rw [h42]) ?_
            refine ow_vals 6 (j := 10) [0, 3, 5, 6, 9, 10, 11, 45] [(0, .pointer (some ⟨b0, 0, none⟩)), (3, .pointer (some ⟨b21, 0, none⟩)), (5, .int .i64 y30), (6, .pointer (some ⟨b32, 0, none⟩)), (9, .slice r24_p1 r24.1.length r24_c2), (10, .int .i64 (r24.1.length : Int)), (11, .int .i64 x28), (45, .bool false)] rfl (by kernel_rfl) ?_
            refine ow_end rfl ?_
            have hR := Option.some.inj hF
            exact fun a w hf hs => ⟨false, hR, hf.keep [0, 3, 5, 6, 9, 10, 11, 45], sat_to [0, 0, 0, 0, 0] 0 rfl hs⟩
        · rintro a w ⟨x43, hv, hf, hs⟩
          subst hv
          replace hF := hK41
          clear hK41
          try dsimp only at hF
          revert a w
          show CW _ _ _ 91 [(0, .pointer (some ⟨b0, 0, none⟩)), (3, .pointer (some ⟨b21, 0, none⟩)), (5, .int .i64 y30), (6, .pointer (some ⟨b32, 0, none⟩)), (9, .slice r24_p1 r24.1.length r24_c2), (10, .int .i64 (r24.1.length : Int)), (11, .int .i64 x28), (45, .bool x43)] (SAT w0 ([imm I, pt b32 #[.string ((⟨(ByteArray.mk #[]), 0⟩ : disk_sector).s_), .int .i64 ((⟨(ByteArray.mk #[]), 0⟩ : disk_sector).at_)] 51, pt b0 #[.slice r24_p4 r24.2.sure_.length r24_c5, .map none, .bool r24.2.off_, .bool r24.2.armed_, .int .i64 r24.2.left_, .int .u64 r24.2.fall_.Keep, .int .i64 r24.2.fall_.Tear, .int .i64 r24.2.acts_, .int .i64 r24.2.falls_] 43, pt b21 #[.int .u64 x1.Keep, .int .i64 x1.Tear] 34, own (eInt .i64) 3 r24_p1 r24_c2 r24.1] ++ F0))
          unfold F.disk_Disk_drop_1.r2 at hF
          rcases if_some hF with ⟨h44, hF⟩ | ⟨h44, hF⟩
          · refine cw_cond_t rfl rfl h44 ?_
            refine cw_seq ?_
            refine cw_region ?_
            refine ow_vals 1 (j := 1) [0, 3, 5, 6, 9, 10, 11, 46] [(0, .pointer (some ⟨b0, 0, none⟩)), (3, .pointer (some ⟨b21, 0, none⟩)), (5, .int .i64 y30), (6, .pointer (some ⟨b32, 0, none⟩)), (9, .slice r24_p1 r24.1.length r24_c2), (10, .int .i64 (r24.1.length : Int)), (11, .int .i64 x28), (46, .pointer (some ⟨b21, 1, none⟩))] rfl (by kernel_rfl) ?_
            refine ow_pw rfl (pw_quiet (v := .int .i64 x1.Tear) rfl rfl rfl rfl (q_load 3 rfl rfl rfl (by kernel_rfl)) (nw_ow ?_))
            refine ow_vals 2 (j := 4) [0, 3, 5, 6, 7, 9, 10, 11] [(0, .pointer (some ⟨b0, 0, none⟩)), (3, .pointer (some ⟨b21, 0, none⟩)), (5, .int .i64 y30), (6, .pointer (some ⟨b32, 0, none⟩)), (7, .int .i64 (x1.Tear.tmod 64)), (9, .slice r24_p1 r24.1.length r24_c2), (10, .int .i64 (r24.1.length : Int)), (11, .int .i64 x28)] rfl (by kernel_rfl) ?_
            refine ow_end rfl ?_
            refine ew_then ?_
            refine cw_open 25 (SAT w0 ([imm I, pt b32 #[.string ((⟨(ByteArray.mk #[]), 0⟩ : disk_sector).s_), .int .i64 ((⟨(ByteArray.mk #[]), 0⟩ : disk_sector).at_)] 51, pt b0 #[.slice r24_p4 r24.2.sure_.length r24_c5, .map none, .bool r24.2.off_, .bool r24.2.armed_, .int .i64 r24.2.left_, .int .u64 r24.2.fall_.Keep, .int .i64 r24.2.fall_.Tear, .int .i64 r24.2.acts_, .int .i64 r24.2.falls_] 43, pt b21 #[.int .u64 x1.Keep, .int .i64 x1.Tear] 34, own (eInt .i64) 3 r24_p1 r24_c2 r24.1])) (by kernel_rfl) (f := 25) rfl (fun w hs => sat_drew hs) ?_
            refine aw_vals [0, 1, 2, 4, 5, 7, 9, 10, 11, 13, 17, 20] (f' := 13) (m' := 1191607) [0, 3, 9, 10, 11, 51, 53, 54, 56, 60, 62, 66, 69] [(0, .pointer (some ⟨b0, 0, none⟩)), (3, .pointer (some ⟨b21, 0, none⟩)), (9, .slice r24_p1 r24.1.length r24_c2), (10, .int .i64 (r24.1.length : Int)), (11, .int .i64 x28), (51, .pointer (some ⟨b0, 0, none⟩)), (53, .int .i64 y30), (54, .pointer (some ⟨b32, 0, none⟩)), (56, .int .i64 (x1.Tear.tmod 64)), (60, .pointer (some ⟨b0, 0, none⟩)), (62, .int .i64 y30), (66, .int .i64 (x1.Tear.tmod 64)), (69, .pointer (some ⟨b32, 1, none⟩))] (fun _ _ _ _ _ h => calm_fin (P := Try.prog) (fn := Try.f26) _ _ _ _ _ h) (fun w hs => sat_pulls [0, 0, 0, 0, 0] (G := [] ++ F0) rfl hs) rfl (by kernel_rfl) ?_
            refine aw_quiet 3 (m' := 1191615) (v := .slice r24_p4 r24.2.sure_.length r24_c5) 0 [] rfl rfl rfl rfl (by kernel_rfl) (by kernel_rfl) (by kernel_rfl) (fun _ _ _ _ _ h => calm_fin (P := Try.prog) (fn := Try.f26) _ _ _ _ _ h) (fun w hs => sat_pulls [0, 0, 0, 0, 0] (G := [] ++ F0) rfl hs) (q_load 2 rfl rfl rfl (by kernel_rfl)) ?_
            refine aw_quiet 6 (m' := 1191679) (v := .string ((⟨(ByteArray.mk #[]), 0⟩ : disk_sector).s_)) 0 [] rfl rfl rfl rfl (by kernel_rfl) (by kernel_rfl) (by kernel_rfl) (fun _ _ _ _ _ h => calm_fin (P := Try.prog) (fn := Try.f26) _ _ _ _ _ h) (fun w hs => sat_pulls [0, 0, 0, 0, 0] (G := [] ++ F0) rfl hs) (q_load 1 rfl rfl rfl (by kernel_rfl)) ?_
            obtain ⟨h45, hF⟩ := chk_some hF
            refine aw_pure 8 (m' := 1191935) (v := .string (((⟨(ByteArray.mk #[]), 0⟩ : disk_sector).s_).extract (0 : Int).toNat (x1.Tear.tmod 64).toNat)) rfl rfl rfl rfl (by kernel_rfl) (by kernel_rfl) (fun _ _ _ _ _ h => calm_fin (P := Try.prog) (fn := Try.f26) _ _ _ _ _ h) (fun w hs => sat_pulls [0, 0, 0, 0, 0] (G := [] ++ F0) rfl hs) (q_slice_str rfl (by kernel_rfl) rfl rfl rfl h45.1 h45.2.1 h45.2.2) ?_
            refine aw_quiet 12 (m' := 1196031) (v := .slice r24_p4 r24.2.sure_.length r24_c5) 0 [] rfl rfl rfl rfl (by kernel_rfl) (by kernel_rfl) (by kernel_rfl) (fun _ _ _ _ _ h => calm_fin (P := Try.prog) (fn := Try.f26) _ _ _ _ _ h) (fun w hs => sat_pulls [0, 0, 0, 0, 0] (G := [] ++ F0) rfl hs) (q_load 2 rfl rfl rfl (by kernel_rfl)) ?_
            obtain ⟨y46, h47, hF⟩ := bind_some hF
            refine aw_index_ro (E := 51) 14 (m' := 1212415) 2 r24_h6 rfl rfl rfl rfl rfl (by kernel_rfl) (by kernel_rfl) (fun _ _ _ _ _ h => calm_fin (P := Try.prog) (fn := Try.f26) _ _ _ _ _ h) (fun w hs => sat_pulls [0, 0, 0, 0, 0] (G := [] ++ F0) rfl hs) (by kernel_rfl) rfl rfl rfl h47 fun q48 h49 => ?_
            refine aw_vals [15] (f' := 7) (m' := 1245183) [0, 3, 9, 10, 11, 52, 53, 57, 64, 66, 69] [(0, .pointer (some ⟨b0, 0, none⟩)), (3, .pointer (some ⟨b21, 0, none⟩)), (9, .slice r24_p1 r24.1.length r24_c2), (10, .int .i64 (r24.1.length : Int)), (11, .int .i64 x28), (52, .slice r24_p4 r24.2.sure_.length r24_c5), (53, .int .i64 y30), (57, .string (((⟨(ByteArray.mk #[]), 0⟩ : disk_sector).s_).extract (0 : Int).toNat (x1.Tear.tmod 64).toNat)), (64, .pointer (some (q48.add 0))), (66, .int .i64 (x1.Tear.tmod 64)), (69, .pointer (some ⟨b32, 1, none⟩))] (fun _ _ _ _ _ h => calm_fin (P := Try.prog) (fn := Try.f26) _ _ _ _ _ h) (fun w hs => sat_pulls [0, 0, 0, 0, 0] (G := [] ++ F0) rfl hs) rfl (by kernel_rfl) ?_
            refine aw_quiet 16 (m' := 1310719) (v := .string y46.s_) 0 [] rfl rfl rfl rfl (by kernel_rfl) (by kernel_rfl) (by kernel_rfl) (fun _ _ _ _ _ h => calm_fin (P := Try.prog) (fn := Try.f26) _ _ _ _ _ h) (fun w hs => sat_pulls [0, 0, 0, 0, 0] (G := [] ++ F0) rfl hs) (q_load_el 0 rfl h49 rfl rfl (by kernel_rfl)) ?_
            obtain ⟨h50, hF⟩ := chk_some hF
            refine aw_pure 18 (m' := 1572863) (v := .string (y46.s_.extract (x1.Tear.tmod 64).toNat (y46.s_.size : Int).toNat)) rfl rfl rfl rfl (by kernel_rfl) (by kernel_rfl) (fun _ _ _ _ _ h => calm_fin (P := Try.prog) (fn := Try.f26) _ _ _ _ _ h) (fun w hs => sat_pulls [0, 0, 0, 0, 0] (G := [] ++ F0) rfl hs) (q_slice_str rfl (by kernel_rfl) rfl rfl rfl h50.1 h50.2.1 h50.2.2) ?_
            obtain ⟨h51, hF⟩ := chk_some hF
            refine aw_pure 19 (m' := 2097151) (v := .string ((((⟨(ByteArray.mk #[]), 0⟩ : disk_sector).s_).extract (0 : Int).toNat (x1.Tear.tmod 64).toNat) ++ (y46.s_.extract (x1.Tear.tmod 64).toNat (y46.s_.size : Int).toNat))) rfl rfl rfl rfl (by kernel_rfl) (by kernel_rfl) (fun _ _ _ _ _ h => calm_fin (P := Try.prog) (fn := Try.f26) _ _ _ _ _ h) (fun w hs => sat_pulls [0, 0, 0, 0, 0] (G := [] ++ F0) rfl hs) (q_concat rfl rfl rfl h51) ?_
            refine aw_quiet 21 (m' := 4194303) (v := .int .i64 ((⟨(ByteArray.mk #[]), 0⟩ : disk_sector).at_)) 0 [] rfl rfl rfl rfl (by kernel_rfl) (by kernel_rfl) (by kernel_rfl) (fun _ _ _ _ _ h => calm_fin (P := Try.prog) (fn := Try.f26) _ _ _ _ _ h) (fun w hs => sat_pulls [0, 0, 0, 0, 0] (G := [] ++ F0) rfl hs) (q_load 1 rfl rfl rfl (by kernel_rfl)) ?_
            refine aw_vals [22] (f' := 2) (m' := 8388607) [0, 3, 9, 10, 11, 52, 53, 71] [(0, .pointer (some ⟨b0, 0, none⟩)), (3, .pointer (some ⟨b21, 0, none⟩)), (9, .slice r24_p1 r24.1.length r24_c2), (10, .int .i64 (r24.1.length : Int)), (11, .int .i64 x28), (52, .slice r24_p4 r24.2.sure_.length r24_c5), (53, .int .i64 y30), (71, .agg #[.string ((((⟨(ByteArray.mk #[]), 0⟩ : disk_sector).s_).extract (0 : Int).toNat (x1.Tear.tmod 64).toNat) ++ (y46.s_.extract (x1.Tear.tmod 64).toNat (y46.s_.size : Int).toNat)), .int .i64 ((⟨(ByteArray.mk #[]), 0⟩ : disk_sector).at_)])] (fun _ _ _ _ _ h => calm_fin (P := Try.prog) (fn := Try.f26) _ _ _ _ _ h) (fun w hs => sat_pulls [0, 0, 0, 0, 0] (G := [] ++ F0) rfl hs) rfl (by kernel_rfl) ?_
            obtain ⟨y52, h53, hF⟩ := bind_some hF
            refine aw_index_ro (E := 51) 23 (m' := 16777215) 2 r24_h6 rfl rfl rfl rfl rfl (by kernel_rfl) (by kernel_rfl) (fun _ _ _ _ _ h => calm_fin (P := Try.prog) (fn := Try.f26) _ _ _ _ _ h) (fun w hs => sat_pulls [0, 0, 0, 0, 0] (G := [] ++ F0) rfl hs) (by kernel_rfl) rfl rfl rfl h53 fun q54 h55 => ?_
            cases hF
          · refine cw_cond_f rfl rfl h44 ?_
            refine cw_skip ?_
            refine ew_blk ?_
            refine ew_then ?_
            refine cw_region ?_
            refine ow_vals 2 (j := 2) [0, 3, 9, 10, 11] [(0, .pointer (some ⟨b0, 0, none⟩)), (3, .pointer (some ⟨b21, 0, none⟩)), (9, .slice r24_p1 r24.1.length r24_c2), (10, .int .i64 (r24.1.length : Int)), (11, .int .i64 (IntKind.i64.wrap (x28 + 1)))] rfl (by kernel_rfl) ?_
            refine ow_end rfl ?_
            have hR := Option.some.inj hF
            subst hR
            have hR := hL27
            try dsimp only at hR
            exact fun a w hf hs => ⟨k, Nat.lt_succ_self k, IntKind.i64.wrap (x28 + 1), hR, hf.keep [0, 3, 9, 10, 11], sat_to [1, 0, 0, 0, 0] 1 rfl hs⟩
    · refine cw_cond_f rfl rfl h29 ?_
      refine cw_exit ?_
      refine ew_then_exit ?_
      refine ew_then_exit ?_
      refine ew_blk_exit ?_
      have hR := Option.some.inj hF
      subst hR
      have hR := hL27
      try dsimp only at hR
      exact fun a w hf hs => ⟨r24.2.sure_, r24.2.off_, r24.2.armed_, r24.2.left_, r24.2.fall_.Keep, r24.2.fall_.Tear, r24.2.acts_, r24.2.falls_, r24_p4, r24_c5, hR, r24_h6, hf.keep [0], sat_to [3, 0, 0, 0] 1 rfl hs⟩
  · rintro a w ⟨l56, x60, x61, x62, x63, x64, x65, x66, p57, c58, hv, h59, hf, hs⟩
    subst hv
    replace hF := hK23
    clear hK23
    try dsimp only at hF
    revert a w
    show CW _ _ _ 91 [(0, .pointer (some ⟨b0, 0, none⟩))] (SAT w0 ([imm I, pt b0 #[.slice p57 l56.length c58, .map none, .bool x60, .bool x61, .int .i64 x62, .int .u64 x63, .int .i64 x64, .int .i64 x65, .int .i64 x66] 43, pt b21 #[.int .u64 x1.Keep, .int .i64 x1.Tear] 34] ++ F0))
    unfold F.disk_Disk_drop_1.r4 at hF
    refine cw_seq ?_
    refine cw_region ?_
    refine ow_vals 3 (j := 3) [0, 76] [(0, .pointer (some ⟨b0, 0, none⟩)), (76, .pointer (some ⟨b0, 1, none⟩))] rfl (by kernel_rfl) ?_
    refine ow_pw rfl (pw_quiet (v := .map none) rfl rfl rfl rfl (q_load 1 rfl rfl rfl (by kernel_rfl)) (nw_ow ?_))
    cases hF


def F.disk_Disk_act_2.r1 (m0 : disk_Disk) (x24 : Bool) : Option ((Unit) ⊕ (Int × disk_Disk)) :=
  if x24 then (Option.bind (F.disk_Disk_drop_1 m0.fall_ (⟨m0.sure_, ([] : List (Int × disk_sector)), m0.off_, m0.armed_, m0.left_, m0.fall_, m0.acts_, m0.falls_⟩ : disk_Disk)) (fun (r26 : Unit) => some (.inr ((8, (⟨(⟨m0.sure_, ([] : List (Int × disk_sector)), m0.off_, m0.armed_, m0.left_, m0.fall_, m0.acts_, m0.falls_⟩ : disk_Disk).sure_, ([] : List (Int × disk_sector)), (⟨m0.sure_, ([] : List (Int × disk_sector)), m0.off_, m0.armed_, m0.left_, m0.fall_, m0.acts_, m0.falls_⟩ : disk_Disk).off_, (⟨m0.sure_, ([] : List (Int × disk_sector)), m0.off_, m0.armed_, m0.left_, m0.fall_, m0.acts_, m0.falls_⟩ : disk_Disk).armed_, (⟨m0.sure_, ([] : List (Int × disk_sector)), m0.off_, m0.armed_, m0.left_, m0.fall_, m0.acts_, m0.falls_⟩ : disk_Disk).left_, (⟨m0.sure_, ([] : List (Int × disk_sector)), m0.off_, m0.armed_, m0.left_, m0.fall_, m0.acts_, m0.falls_⟩ : disk_Disk).fall_, (⟨m0.sure_, ([] : List (Int × disk_sector)), m0.off_, m0.armed_, m0.left_, m0.fall_, m0.acts_, m0.falls_⟩ : disk_Disk).acts_, (⟨m0.sure_, ([] : List (Int × disk_sector)), m0.off_, m0.armed_, m0.left_, m0.fall_, m0.acts_, m0.falls_⟩ : disk_Disk).falls_⟩ : disk_Disk)))))) else (some (.inl ()))
def F.disk_Disk_act_2.r2 (m0 : disk_Disk) : Option (Int × disk_Disk) :=
  some ((0, (⟨m0.sure_, ([] : List (Int × disk_sector)), m0.off_, m0.armed_, IntKind.i64.wrap (m0.left_ - 1), m0.fall_, IntKind.i64.wrap (m0.acts_ + 1), m0.falls_⟩ : disk_Disk)))
def F.disk_Disk_act_2 (m0 : disk_Disk) : Option (Int × disk_Disk) :=
  thru (Option.bind (if m0.armed_ then (some ((m0.left_ == 0))) else (some (false))) (fun x => F.disk_Disk_act_2.r1 m0 x)) (fun x => F.disk_Disk_act_2.r2 m0)
set_option maxRecDepth 100000 in
set_option maxHeartbeats 4000000 in
theorem c_disk_Disk_act_2 (I : Hl) (m0 : disk_Disk) (p0 : Option Addr) (c0 : Nat) (b0 : Nat) (res : Int × disk_Disk) (hF : F.disk_Disk_act_2 m0 = some res) (hr0 : ro I e_disk_sector p0 c0 m0.sure_) : Tr Try.prog 25 [.pointer (some ⟨b0, 0, none⟩)] [imm I, pt b0 #[.slice p0 m0.sure_.length c0, .map none, .bool m0.off_, .bool m0.armed_, .int .i64 m0.left_, .int .u64 m0.fall_.Keep, .int .i64 m0.fall_.Tear, .int .i64 m0.acts_, .int .i64 m0.falls_] 43] (fun r H' => ∃ (pq1 : Option Addr), ∃ (cq2 : Nat), r = .int .i64 res.1 ∧ H' = [imm I, pt b0 #[.slice pq1 res.2.sure_.length cq2, .map none, .bool res.2.off_, .bool res.2.armed_, .int .i64 res.2.left_, .int .u64 res.2.fall_.Keep, .int .i64 res.2.fall_.Tear, .int .i64 res.2.acts_, .int .i64 res.2.falls_] 43] ∧ ro I e_disk_sector pq1 cq2 res.2.sure_) := by
  unfold F.disk_Disk_act_2 at hF
  refine tr_of_cw (fn := Try.f25) Try.func25 rfl (Nat.le_of_ble_eq_true rfl) 34 rfl fun F0 w0 => ?_
  refine cw_keep [0] (L' := [(0, .pointer (some ⟨b0, 0, none⟩))]) rfl ?_
  refine cw_state (S' := SAT w0 ([imm I, pt b0 #[.slice p0 m0.sure_.length c0, .map none, .bool m0.off_, .bool m0.armed_, .int .i64 m0.left_, .int .u64 m0.fall_.Keep, .int .i64 m0.fall_.Tear, .int .i64 m0.acts_, .int .i64 m0.falls_] 43] ++ F0)) (fun w hs => hs) ?_
  refine cw_seq ?_
  refine cw_region ?_
  refine ow_vals 1 (j := 1) [0] [(0, .pointer (some ⟨b0, 0, none⟩))] rfl (by kernel_rfl) ?_
  refine ow_end rfl ?_
  refine ew_then ?_
  obtain ⟨v21, hF, hK21⟩ := thru_some hF
  refine cw_mid (fun a w => .inl () = v21 ∧ Fr 34 [(0, .pointer (some ⟨b0, 0, none⟩))] a ∧ SAT w0 ([imm I, pt b0 #[.slice p0 m0.sure_.length c0, .map none, .bool m0.off_, .bool m0.armed_, .int .i64 m0.left_, .int .u64 m0.fall_.Keep, .int .i64 m0.fall_.Tear, .int .i64 m0.acts_, .int .i64 m0.falls_] 43] ++ F0) w) ?_ ?_
  · obtain ⟨v22, hF, hK22⟩ := bind_some hF
    refine cw_mid (fun a w => ∃ (x24 : Bool), x24 = v22 ∧ Fr 34 [(0, .pointer (some ⟨b0, 0, none⟩)), (13, .bool x24)] a ∧ SAT w0 ([imm I, pt b0 #[.slice p0 m0.sure_.length c0, .map none, .bool m0.off_, .bool m0.armed_, .int .i64 m0.left_, .int .u64 m0.fall_.Keep, .int .i64 m0.fall_.Tear, .int .i64 m0.acts_, .int .i64 m0.falls_] 43] ++ F0) w) ?_ ?_
    · refine cw_region ?_
      refine ow_vals 3 (j := 3) [0, 5] [(0, .pointer (some ⟨b0, 0, none⟩)), (5, .pointer (some ⟨b0, 3, none⟩))] rfl (by kernel_rfl) ?_
      refine ow_pw rfl (pw_quiet (v := .bool m0.armed_) rfl rfl rfl rfl (q_load 1 rfl rfl rfl (by kernel_rfl)) (nw_ow ?_))
      refine ow_vals 1 (j := 5) [0, 7] [(0, .pointer (some ⟨b0, 0, none⟩)), (7, .bool m0.armed_)] rfl (by kernel_rfl) ?_
      rcases if_some hF with ⟨h23, hF⟩ | ⟨h23, hF⟩
      · refine ow_slots (L' := [(0, .pointer (some ⟨b0, 0, none⟩)), (7, .bool true)]) (by rw [h23]) ?_
        refine ow_vals 3 (j := 8) [0, 7, 10] [(0, .pointer (some ⟨b0, 0, none⟩)), (7, .bool true), (10, .pointer (some ⟨b0, 4, none⟩))] rfl (by kernel_rfl) ?_
        refine ow_pw rfl (pw_quiet (v := .int .i64 m0.left_) rfl rfl rfl rfl (q_load 1 rfl rfl rfl (by kernel_rfl)) (nw_ow ?_))
        refine ow_vals 2 (j := 11) [0, 13] [(0, .pointer (some ⟨b0, 0, none⟩)), (13, .bool (m0.left_ == 0))] rfl (by kernel_rfl) ?_
        refine ow_end rfl ?_
        have hR := Option.some.inj hF
        exact fun a w hf hs => ⟨m0.left_ == 0, hR, hf.keep [0, 13], sat_to [0, 0] 0 rfl hs⟩
      · refine ow_slots (L' := [(0, .pointer (some ⟨b0, 0, none⟩)), (7, .bool false)]) (by rw [h23]) ?_
        refine ow_vals 6 (j := 11) [0, 13] [(0, .pointer (some ⟨b0, 0, none⟩)), (13, .bool false)] rfl (by kernel_rfl) ?_
        refine ow_end rfl ?_
        have hR := Option.some.inj hF
        exact fun a w hf hs => ⟨false, hR, hf.keep [0, 13], sat_to [0, 0] 0 rfl hs⟩
    · rintro a w ⟨x24, hv, hf, hs⟩
      subst hv
      replace hF := hK22
      clear hK22
      try dsimp only at hF
      revert a w
      show CW _ _ _ 34 [(0, .pointer (some ⟨b0, 0, none⟩)), (13, .bool x24)] (SAT w0 ([imm I, pt b0 #[.slice p0 m0.sure_.length c0, .map none, .bool m0.off_, .bool m0.armed_, .int .i64 m0.left_, .int .u64 m0.fall_.Keep, .int .i64 m0.fall_.Tear, .int .i64 m0.acts_, .int .i64 m0.falls_] 43] ++ F0))
      unfold F.disk_Disk_act_2.r1 at hF
      rcases if_some hF with ⟨h25, hF⟩ | ⟨h25, hF⟩
      · refine cw_cond_t rfl rfl h25 ?_
        refine cw_seq ?_
        refine cw_region ?_
        refine ow_vals 4 (j := 4) [14, 17] [(14, .pointer (some ⟨b0, 0, none⟩)), (17, .pointer (some ⟨b0, 5, none⟩))] rfl (by kernel_rfl) ?_
        refine ow_pw rfl (pw_quiet (v := .agg #[.int .u64 m0.fall_.Keep, .int .i64 m0.fall_.Tear]) rfl rfl rfl rfl (q_load 1 rfl rfl rfl (by kernel_rfl)) (nw_ow ?_))
        obtain ⟨r26, h27, hF⟩ := bind_some hF
        refine ow_pw rfl (pw_call (F := [] ++ F0) rfl rfl rfl rfl rfl rfl rfl (by kernel_rfl) (perm_of_pulls [0, 0] rfl) (c_disk_Disk_drop_1 _ m0.fall_ (⟨m0.sure_, ([] : List (Int × disk_sector)), m0.off_, m0.armed_, m0.left_, m0.fall_, m0.acts_, m0.falls_⟩ : disk_Disk) p0 c0 b0 r26 h27 hr0) ?_)
        rintro _ _ ⟨rfl, rfl⟩
        refine nw_H (H' := [imm I, pt b0 #[.slice p0 ((⟨m0.sure_, ([] : List (Int × disk_sector)), m0.off_, m0.armed_, m0.left_, m0.fall_, m0.acts_, m0.falls_⟩ : disk_Disk).sure_).length c0, .map none, .bool ((⟨m0.sure_, ([] : List (Int × disk_sector)), m0.off_, m0.armed_, m0.left_, m0.fall_, m0.acts_, m0.falls_⟩ : disk_Disk).off_), .bool ((⟨m0.sure_, ([] : List (Int × disk_sector)), m0.off_, m0.armed_, m0.left_, m0.fall_, m0.acts_, m0.falls_⟩ : disk_Disk).armed_), .int .i64 ((⟨m0.sure_, ([] : List (Int × disk_sector)), m0.off_, m0.armed_, m0.left_, m0.fall_, m0.acts_, m0.falls_⟩ : disk_Disk).left_), .int .u64 ((⟨m0.sure_, ([] : List (Int × disk_sector)), m0.off_, m0.armed_, m0.left_, m0.fall_, m0.acts_, m0.falls_⟩ : disk_Disk).fall_.Keep), .int .i64 ((⟨m0.sure_, ([] : List (Int × disk_sector)), m0.off_, m0.armed_, m0.left_, m0.fall_, m0.acts_, m0.falls_⟩ : disk_Disk).fall_.Tear), .int .i64 ((⟨m0.sure_, ([] : List (Int × disk_sector)), m0.off_, m0.armed_, m0.left_, m0.fall_, m0.acts_, m0.falls_⟩ : disk_Disk).acts_), .int .i64 ((⟨m0.sure_, ([] : List (Int × disk_sector)), m0.off_, m0.armed_, m0.left_, m0.fall_, m0.acts_, m0.falls_⟩ : disk_Disk).falls_)] 43] ++ F0) rfl (nw_ow ?_)
        refine ow_end rfl ?_
        refine ew_then ?_
        refine cw_seq ?_
        refine cw_region ?_
        refine ow_vals 1 (j := 1) [2] [(2, .int .i64 8)] rfl (by kernel_rfl) ?_
        refine ow_end rfl ?_
        refine ew_then ?_
        refine cw_ret ?_
        refine ew_then_ret ?_
        have hR := Option.some.inj hF
        subst hR
        have hR := hK21
        try dsimp only [Thru] at hR
        subst hR
        exact fin1 (H1 := [imm I, pt b0 #[.slice p0 ((⟨(⟨m0.sure_, ([] : List (Int × disk_sector)), m0.off_, m0.armed_, m0.left_, m0.fall_, m0.acts_, m0.falls_⟩ : disk_Disk).sure_, ([] : List (Int × disk_sector)), (⟨m0.sure_, ([] : List (Int × disk_sector)), m0.off_, m0.armed_, m0.left_, m0.fall_, m0.acts_, m0.falls_⟩ : disk_Disk).off_, (⟨m0.sure_, ([] : List (Int × disk_sector)), m0.off_, m0.armed_, m0.left_, m0.fall_, m0.acts_, m0.falls_⟩ : disk_Disk).armed_, (⟨m0.sure_, ([] : List (Int × disk_sector)), m0.off_, m0.armed_, m0.left_, m0.fall_, m0.acts_, m0.falls_⟩ : disk_Disk).left_, (⟨m0.sure_, ([] : List (Int × disk_sector)), m0.off_, m0.armed_, m0.left_, m0.fall_, m0.acts_, m0.falls_⟩ : disk_Disk).fall_, (⟨m0.sure_, ([] : List (Int × disk_sector)), m0.off_, m0.armed_, m0.left_, m0.fall_, m0.acts_, m0.falls_⟩ : disk_Disk).acts_, (⟨m0.sure_, ([] : List (Int × disk_sector)), m0.off_, m0.armed_, m0.left_, m0.fall_, m0.acts_, m0.falls_⟩ : disk_Disk).falls_⟩ : disk_Disk).sure_).length c0, .map none, .bool ((⟨(⟨m0.sure_, ([] : List (Int × disk_sector)), m0.off_, m0.armed_, m0.left_, m0.fall_, m0.acts_, m0.falls_⟩ : disk_Disk).sure_, ([] : List (Int × disk_sector)), (⟨m0.sure_, ([] : List (Int × disk_sector)), m0.off_, m0.armed_, m0.left_, m0.fall_, m0.acts_, m0.falls_⟩ : disk_Disk).off_, (⟨m0.sure_, ([] : List (Int × disk_sector)), m0.off_, m0.armed_, m0.left_, m0.fall_, m0.acts_, m0.falls_⟩ : disk_Disk).armed_, (⟨m0.sure_, ([] : List (Int × disk_sector)), m0.off_, m0.armed_, m0.left_, m0.fall_, m0.acts_, m0.falls_⟩ : disk_Disk).left_, (⟨m0.sure_, ([] : List (Int × disk_sector)), m0.off_, m0.armed_, m0.left_, m0.fall_, m0.acts_, m0.falls_⟩ : disk_Disk).fall_, (⟨m0.sure_, ([] : List (Int × disk_sector)), m0.off_, m0.armed_, m0.left_, m0.fall_, m0.acts_, m0.falls_⟩ : disk_Disk).acts_, (⟨m0.sure_, ([] : List (Int × disk_sector)), m0.off_, m0.armed_, m0.left_, m0.fall_, m0.acts_, m0.falls_⟩ : disk_Disk).falls_⟩ : disk_Disk).off_), .bool ((⟨(⟨m0.sure_, ([] : List (Int × disk_sector)), m0.off_, m0.armed_, m0.left_, m0.fall_, m0.acts_, m0.falls_⟩ : disk_Disk).sure_, ([] : List (Int × disk_sector)), (⟨m0.sure_, ([] : List (Int × disk_sector)), m0.off_, m0.armed_, m0.left_, m0.fall_, m0.acts_, m0.falls_⟩ : disk_Disk).off_, (⟨m0.sure_, ([] : List (Int × disk_sector)), m0.off_, m0.armed_, m0.left_, m0.fall_, m0.acts_, m0.falls_⟩ : disk_Disk).armed_, (⟨m0.sure_, ([] : List (Int × disk_sector)), m0.off_, m0.armed_, m0.left_, m0.fall_, m0.acts_, m0.falls_⟩ : disk_Disk).left_, (⟨m0.sure_, ([] : List (Int × disk_sector)), m0.off_, m0.armed_, m0.left_, m0.fall_, m0.acts_, m0.falls_⟩ : disk_Disk).fall_, (⟨m0.sure_, ([] : List (Int × disk_sector)), m0.off_, m0.armed_, m0.left_, m0.fall_, m0.acts_, m0.falls_⟩ : disk_Disk).acts_, (⟨m0.sure_, ([] : List (Int × disk_sector)), m0.off_, m0.armed_, m0.left_, m0.fall_, m0.acts_, m0.falls_⟩ : disk_Disk).falls_⟩ : disk_Disk).armed_), .int .i64 ((⟨(⟨m0.sure_, ([] : List (Int × disk_sector)), m0.off_, m0.armed_, m0.left_, m0.fall_, m0.acts_, m0.falls_⟩ : disk_Disk).sure_, ([] : List (Int × disk_sector)), (⟨m0.sure_, ([] : List (Int × disk_sector)), m0.off_, m0.armed_, m0.left_, m0.fall_, m0.acts_, m0.falls_⟩ : disk_Disk).off_, (⟨m0.sure_, ([] : List (Int × disk_sector)), m0.off_, m0.armed_, m0.left_, m0.fall_, m0.acts_, m0.falls_⟩ : disk_Disk).armed_, (⟨m0.sure_, ([] : List (Int × disk_sector)), m0.off_, m0.armed_, m0.left_, m0.fall_, m0.acts_, m0.falls_⟩ : disk_Disk).left_, (⟨m0.sure_, ([] : List (Int × disk_sector)), m0.off_, m0.armed_, m0.left_, m0.fall_, m0.acts_, m0.falls_⟩ : disk_Disk).fall_, (⟨m0.sure_, ([] : List (Int × disk_sector)), m0.off_, m0.armed_, m0.left_, m0.fall_, m0.acts_, m0.falls_⟩ : disk_Disk).acts_, (⟨m0.sure_, ([] : List (Int × disk_sector)), m0.off_, m0.armed_, m0.left_, m0.fall_, m0.acts_, m0.falls_⟩ : disk_Disk).falls_⟩ : disk_Disk).left_), .int .u64 (((⟨(⟨m0.sure_, ([] : List (Int × disk_sector)), m0.off_, m0.armed_, m0.left_, m0.fall_, m0.acts_, m0.falls_⟩ : disk_Disk).sure_, ([] : List (Int × disk_sector)), (⟨m0.sure_, ([] : List (Int × disk_sector)), m0.off_, m0.armed_, m0.left_, m0.fall_, m0.acts_, m0.falls_⟩ : disk_Disk).off_, (⟨m0.sure_, ([] : List (Int × disk_sector)), m0.off_, m0.armed_, m0.left_, m0.fall_, m0.acts_, m0.falls_⟩ : disk_Disk).armed_, (⟨m0.sure_, ([] : List (Int × disk_sector)), m0.off_, m0.armed_, m0.left_, m0.fall_, m0.acts_, m0.falls_⟩ : disk_Disk).left_, (⟨m0.sure_, ([] : List (Int × disk_sector)), m0.off_, m0.armed_, m0.left_, m0.fall_, m0.acts_, m0.falls_⟩ : disk_Disk).fall_, (⟨m0.sure_, ([] : List (Int × disk_sector)), m0.off_, m0.armed_, m0.left_, m0.fall_, m0.acts_, m0.falls_⟩ : disk_Disk).acts_, (⟨m0.sure_, ([] : List (Int × disk_sector)), m0.off_, m0.armed_, m0.left_, m0.fall_, m0.acts_, m0.falls_⟩ : disk_Disk).falls_⟩ : disk_Disk).fall_).Keep), .int .i64 (((⟨(⟨m0.sure_, ([] : List (Int × disk_sector)), m0.off_, m0.armed_, m0.left_, m0.fall_, m0.acts_, m0.falls_⟩ : disk_Disk).sure_, ([] : List (Int × disk_sector)), (⟨m0.sure_, ([] : List (Int × disk_sector)), m0.off_, m0.armed_, m0.left_, m0.fall_, m0.acts_, m0.falls_⟩ : disk_Disk).off_, (⟨m0.sure_, ([] : List (Int × disk_sector)), m0.off_, m0.armed_, m0.left_, m0.fall_, m0.acts_, m0.falls_⟩ : disk_Disk).armed_, (⟨m0.sure_, ([] : List (Int × disk_sector)), m0.off_, m0.armed_, m0.left_, m0.fall_, m0.acts_, m0.falls_⟩ : disk_Disk).left_, (⟨m0.sure_, ([] : List (Int × disk_sector)), m0.off_, m0.armed_, m0.left_, m0.fall_, m0.acts_, m0.falls_⟩ : disk_Disk).fall_, (⟨m0.sure_, ([] : List (Int × disk_sector)), m0.off_, m0.armed_, m0.left_, m0.fall_, m0.acts_, m0.falls_⟩ : disk_Disk).acts_, (⟨m0.sure_, ([] : List (Int × disk_sector)), m0.off_, m0.armed_, m0.left_, m0.fall_, m0.acts_, m0.falls_⟩ : disk_Disk).falls_⟩ : disk_Disk).fall_).Tear), .int .i64 ((⟨(⟨m0.sure_, ([] : List (Int × disk_sector)), m0.off_, m0.armed_, m0.left_, m0.fall_, m0.acts_, m0.falls_⟩ : disk_Disk).sure_, ([] : List (Int × disk_sector)), (⟨m0.sure_, ([] : List (Int × disk_sector)), m0.off_, m0.armed_, m0.left_, m0.fall_, m0.acts_, m0.falls_⟩ : disk_Disk).off_, (⟨m0.sure_, ([] : List (Int × disk_sector)), m0.off_, m0.armed_, m0.left_, m0.fall_, m0.acts_, m0.falls_⟩ : disk_Disk).armed_, (⟨m0.sure_, ([] : List (Int × disk_sector)), m0.off_, m0.armed_, m0.left_, m0.fall_, m0.acts_, m0.falls_⟩ : disk_Disk).left_, (⟨m0.sure_, ([] : List (Int × disk_sector)), m0.off_, m0.armed_, m0.left_, m0.fall_, m0.acts_, m0.falls_⟩ : disk_Disk).fall_, (⟨m0.sure_, ([] : List (Int × disk_sector)), m0.off_, m0.armed_, m0.left_, m0.fall_, m0.acts_, m0.falls_⟩ : disk_Disk).acts_, (⟨m0.sure_, ([] : List (Int × disk_sector)), m0.off_, m0.armed_, m0.left_, m0.fall_, m0.acts_, m0.falls_⟩ : disk_Disk).falls_⟩ : disk_Disk).acts_), .int .i64 ((⟨(⟨m0.sure_, ([] : List (Int × disk_sector)), m0.off_, m0.armed_, m0.left_, m0.fall_, m0.acts_, m0.falls_⟩ : disk_Disk).sure_, ([] : List (Int × disk_sector)), (⟨m0.sure_, ([] : List (Int × disk_sector)), m0.off_, m0.armed_, m0.left_, m0.fall_, m0.acts_, m0.falls_⟩ : disk_Disk).off_, (⟨m0.sure_, ([] : List (Int × disk_sector)), m0.off_, m0.armed_, m0.left_, m0.fall_, m0.acts_, m0.falls_⟩ : disk_Disk).armed_, (⟨m0.sure_, ([] : List (Int × disk_sector)), m0.off_, m0.armed_, m0.left_, m0.fall_, m0.acts_, m0.falls_⟩ : disk_Disk).left_, (⟨m0.sure_, ([] : List (Int × disk_sector)), m0.off_, m0.armed_, m0.left_, m0.fall_, m0.acts_, m0.falls_⟩ : disk_Disk).fall_, (⟨m0.sure_, ([] : List (Int × disk_sector)), m0.off_, m0.armed_, m0.left_, m0.fall_, m0.acts_, m0.falls_⟩ : disk_Disk).acts_, (⟨m0.sure_, ([] : List (Int × disk_sector)), m0.off_, m0.armed_, m0.left_, m0.fall_, m0.acts_, m0.falls_⟩ : disk_Disk).falls_⟩ : disk_Disk).falls_)] 43]) (fun w hs => sat_to [0, 0] 0 rfl hs) rfl (rr_tmp rfl) ⟨p0, c0, rfl, rfl, hr0⟩
      · refine cw_cond_f rfl rfl h25 ?_
        refine cw_skip ?_
        have hR := Option.some.inj hF
        exact fun a w hf hs => ⟨hR, hf.keep [0], sat_to [0, 0] 0 rfl hs⟩
  · rintro a w ⟨hv, hf, hs⟩
    subst hv
    replace hF := hK21
    clear hK21
    try dsimp only [Thru] at hF
    revert a w
    show CW _ _ _ 34 [(0, .pointer (some ⟨b0, 0, none⟩))] (SAT w0 ([imm I, pt b0 #[.slice p0 m0.sure_.length c0, .map none, .bool m0.off_, .bool m0.armed_, .int .i64 m0.left_, .int .u64 m0.fall_.Keep, .int .i64 m0.fall_.Tear, .int .i64 m0.acts_, .int .i64 m0.falls_] 43] ++ F0))
    unfold F.disk_Disk_act_2.r2 at hF
    refine cw_seq ?_
    refine cw_region ?_
    refine ow_vals 3 (j := 3) [0, 20, 22] [(0, .pointer (some ⟨b0, 0, none⟩)), (20, .pointer (some ⟨b0, 0, none⟩)), (22, .pointer (some ⟨b0, 4, none⟩))] rfl (by kernel_rfl) ?_
    refine ow_pw rfl (pw_quiet (v := .int .i64 m0.left_) rfl rfl rfl rfl (q_load 1 rfl rfl rfl (by kernel_rfl)) (nw_ow ?_))
    refine ow_vals 3 (j := 7) [0, 24, 26] [(0, .pointer (some ⟨b0, 0, none⟩)), (24, .int .i64 (IntKind.i64.wrap (m0.left_ - 1))), (26, .pointer (some ⟨b0, 4, none⟩))] rfl (by kernel_rfl) ?_
    refine ow_pw rfl (pw_store 1 #[.slice p0 m0.sure_.length c0, .map none, .bool m0.off_, .bool m0.armed_, .int .i64 (IntKind.i64.wrap (m0.left_ - 1)), .int .u64 m0.fall_.Keep, .int .i64 m0.fall_.Tear, .int .i64 m0.acts_, .int .i64 m0.falls_] rfl rfl rfl rfl rfl rfl rfl (by kernel_rfl) (nw_H (H' := [imm I, pt b0 #[.slice p0 m0.sure_.length c0, .map none, .bool m0.off_, .bool m0.armed_, .int .i64 (IntKind.i64.wrap (m0.left_ - 1)), .int .u64 m0.fall_.Keep, .int .i64 m0.fall_.Tear, .int .i64 m0.acts_, .int .i64 m0.falls_] 43] ++ F0) rfl (nw_ow ?_)))
    refine ow_end rfl ?_
    refine ew_then ?_
    refine cw_seq ?_
    refine cw_region ?_
    refine ow_vals 3 (j := 3) [27, 29] [(27, .pointer (some ⟨b0, 0, none⟩)), (29, .pointer (some ⟨b0, 7, none⟩))] rfl (by kernel_rfl) ?_
    refine ow_pw rfl (pw_quiet (v := .int .i64 m0.acts_) rfl rfl rfl rfl (q_load 1 rfl rfl rfl (by kernel_rfl)) (nw_ow ?_))
    refine ow_vals 3 (j := 7) [31, 33] [(31, .int .i64 (IntKind.i64.wrap (m0.acts_ + 1))), (33, .pointer (some ⟨b0, 7, none⟩))] rfl (by kernel_rfl) ?_
    refine ow_pw rfl (pw_store 1 #[.slice p0 m0.sure_.length c0, .map none, .bool m0.off_, .bool m0.armed_, .int .i64 (IntKind.i64.wrap (m0.left_ - 1)), .int .u64 m0.fall_.Keep, .int .i64 m0.fall_.Tear, .int .i64 (IntKind.i64.wrap (m0.acts_ + 1)), .int .i64 m0.falls_] rfl rfl rfl rfl rfl rfl rfl (by kernel_rfl) (nw_H (H' := [imm I, pt b0 #[.slice p0 m0.sure_.length c0, .map none, .bool m0.off_, .bool m0.armed_, .int .i64 (IntKind.i64.wrap (m0.left_ - 1)), .int .u64 m0.fall_.Keep, .int .i64 m0.fall_.Tear, .int .i64 (IntKind.i64.wrap (m0.acts_ + 1)), .int .i64 m0.falls_] 43] ++ F0) rfl (nw_ow ?_)))
    refine ow_end rfl ?_
    refine ew_then ?_
    refine cw_seq ?_
    refine cw_region ?_
    refine ow_vals 1 (j := 1) [2] [(2, .int .i64 0)] rfl (by kernel_rfl) ?_
    refine ow_end rfl ?_
    refine ew_then ?_
    refine cw_ret ?_
    have hR := Option.some.inj hF
    subst hR
    exact fin1 (H1 := [imm I, pt b0 #[.slice p0 ((⟨m0.sure_, ([] : List (Int × disk_sector)), m0.off_, m0.armed_, IntKind.i64.wrap (m0.left_ - 1), m0.fall_, IntKind.i64.wrap (m0.acts_ + 1), m0.falls_⟩ : disk_Disk).sure_).length c0, .map none, .bool ((⟨m0.sure_, ([] : List (Int × disk_sector)), m0.off_, m0.armed_, IntKind.i64.wrap (m0.left_ - 1), m0.fall_, IntKind.i64.wrap (m0.acts_ + 1), m0.falls_⟩ : disk_Disk).off_), .bool ((⟨m0.sure_, ([] : List (Int × disk_sector)), m0.off_, m0.armed_, IntKind.i64.wrap (m0.left_ - 1), m0.fall_, IntKind.i64.wrap (m0.acts_ + 1), m0.falls_⟩ : disk_Disk).armed_), .int .i64 ((⟨m0.sure_, ([] : List (Int × disk_sector)), m0.off_, m0.armed_, IntKind.i64.wrap (m0.left_ - 1), m0.fall_, IntKind.i64.wrap (m0.acts_ + 1), m0.falls_⟩ : disk_Disk).left_), .int .u64 (((⟨m0.sure_, ([] : List (Int × disk_sector)), m0.off_, m0.armed_, IntKind.i64.wrap (m0.left_ - 1), m0.fall_, IntKind.i64.wrap (m0.acts_ + 1), m0.falls_⟩ : disk_Disk).fall_).Keep), .int .i64 (((⟨m0.sure_, ([] : List (Int × disk_sector)), m0.off_, m0.armed_, IntKind.i64.wrap (m0.left_ - 1), m0.fall_, IntKind.i64.wrap (m0.acts_ + 1), m0.falls_⟩ : disk_Disk).fall_).Tear), .int .i64 ((⟨m0.sure_, ([] : List (Int × disk_sector)), m0.off_, m0.armed_, IntKind.i64.wrap (m0.left_ - 1), m0.fall_, IntKind.i64.wrap (m0.acts_ + 1), m0.falls_⟩ : disk_Disk).acts_), .int .i64 ((⟨m0.sure_, ([] : List (Int × disk_sector)), m0.off_, m0.armed_, IntKind.i64.wrap (m0.left_ - 1), m0.fall_, IntKind.i64.wrap (m0.acts_ + 1), m0.falls_⟩ : disk_Disk).falls_)] 43]) (fun w hs => sat_to [0, 0] 0 rfl hs) rfl (rr_tmp rfl) ⟨p0, c0, rfl, rfl, hr0⟩


def F.disk_Disk_Flush_1 (m0 : disk_Disk) : Option (Int × disk_Disk) :=
  Option.bind (F.disk_Disk_why_2 0 (⟨m0.sure_, ([] : List (Int × disk_sector)), m0.off_, m0.armed_, m0.left_, m0.fall_, m0.acts_, m0.falls_⟩ : disk_Disk)) (fun (r21 : Int × disk_Disk) => if r21.1 != 0 then (some ((r21.1, (⟨r21.2.sure_, ([] : List (Int × disk_sector)), r21.2.off_, r21.2.armed_, r21.2.left_, r21.2.fall_, r21.2.acts_, r21.2.falls_⟩ : disk_Disk)))) else (Option.bind (F.disk_Disk_act_2 (⟨r21.2.sure_, ([] : List (Int × disk_sector)), r21.2.off_, r21.2.armed_, r21.2.left_, r21.2.fall_, r21.2.acts_, r21.2.falls_⟩ : disk_Disk)) (fun (r24 : Int × disk_Disk) => if r24.1 != 0 then (some ((r24.1, (⟨r24.2.sure_, ([] : List (Int × disk_sector)), r24.2.off_, r24.2.armed_, r24.2.left_, r24.2.fall_, r24.2.acts_, r24.2.falls_⟩ : disk_Disk)))) else (none))))
set_option maxRecDepth 100000 in
set_option maxHeartbeats 4000000 in
theorem c_disk_Disk_Flush_1 (I : Hl) (m0 : disk_Disk) (p0 : Option Addr) (c0 : Nat) (b0 : Nat) (res : Int × disk_Disk) (hF : F.disk_Disk_Flush_1 m0 = some res) (hr0 : ro I e_disk_sector p0 c0 m0.sure_) : Tr Try.prog 11 [.pointer (some ⟨b0, 0, none⟩)] [imm I, pt b0 #[.slice p0 m0.sure_.length c0, .map none, .bool m0.off_, .bool m0.armed_, .int .i64 m0.left_, .int .u64 m0.fall_.Keep, .int .i64 m0.fall_.Tear, .int .i64 m0.acts_, .int .i64 m0.falls_] 43] (fun r H' => ∃ (pq1 : Option Addr), ∃ (cq2 : Nat), r = .int .i64 res.1 ∧ H' = [imm I, pt b0 #[.slice pq1 res.2.sure_.length cq2, .map none, .bool res.2.off_, .bool res.2.armed_, .int .i64 res.2.left_, .int .u64 res.2.fall_.Keep, .int .i64 res.2.fall_.Tear, .int .i64 res.2.acts_, .int .i64 res.2.falls_] 43] ∧ ro I e_disk_sector pq1 cq2 res.2.sure_) := by
  unfold F.disk_Disk_Flush_1 at hF
  refine tr_of_cw (fn := Try.f11) Try.func11 rfl (Nat.le_of_ble_eq_true rfl) 39 rfl fun F0 w0 => ?_
  refine cw_keep [0] (L' := [(0, .pointer (some ⟨b0, 0, none⟩))]) rfl ?_
  refine cw_state (S' := SAT w0 ([imm I, pt b0 #[.slice p0 m0.sure_.length c0, .map none, .bool m0.off_, .bool m0.armed_, .int .i64 m0.left_, .int .u64 m0.fall_.Keep, .int .i64 m0.fall_.Tear, .int .i64 m0.acts_, .int .i64 m0.falls_] 43] ++ F0)) (fun w hs => hs) ?_
  refine cw_seq ?_
  refine cw_region ?_
  refine ow_vals 1 (j := 1) [0] [(0, .pointer (some ⟨b0, 0, none⟩))] rfl (by kernel_rfl) ?_
  refine ow_end rfl ?_
  refine ew_then ?_
  refine cw_seq ?_
  refine cw_seq ?_
  refine cw_region ?_
  refine ow_vals 1 (j := 1) [0, 7] [(0, .pointer (some ⟨b0, 0, none⟩)), (7, .pointer (some ⟨b0, 0, none⟩))] rfl (by kernel_rfl) ?_
  obtain ⟨r21, h22, hF⟩ := bind_some hF
  refine ow_pw rfl (pw_call (F := [] ++ F0) rfl rfl rfl rfl rfl rfl rfl (by kernel_rfl) (perm_of_pulls [0, 0] rfl) (c_disk_Disk_why_2 _ 0 (⟨m0.sure_, ([] : List (Int × disk_sector)), m0.off_, m0.armed_, m0.left_, m0.fall_, m0.acts_, m0.falls_⟩ : disk_Disk) p0 c0 b0 r21 h22 hr0) ?_)
  rintro _ _ ⟨r21_p1, r21_c2, rfl, rfl, r21_h3⟩
  refine nw_H (H' := [imm I, pt b0 #[.slice r21_p1 r21.2.sure_.length r21_c2, .map none, .bool r21.2.off_, .bool r21.2.armed_, .int .i64 r21.2.left_, .int .u64 r21.2.fall_.Keep, .int .i64 r21.2.fall_.Tear, .int .i64 r21.2.acts_, .int .i64 r21.2.falls_] 43] ++ F0) rfl (nw_ow ?_)
  refine ow_vals 1 (j := 3) [0, 3] [(0, .pointer (some ⟨b0, 0, none⟩)), (3, .int .i64 r21.1)] rfl (by kernel_rfl) ?_
  refine ow_end rfl ?_
  refine ew_then ?_
  refine cw_seq ?_
  refine cw_region ?_
  refine ow_vals 2 (j := 2) [0, 3, 10] [(0, .pointer (some ⟨b0, 0, none⟩)), (3, .int .i64 r21.1), (10, .bool (r21.1 != 0))] rfl (by kernel_rfl) ?_
  refine ow_end rfl ?_
  refine ew_then ?_
  rcases if_some hF with ⟨h23, hF⟩ | ⟨h23, hF⟩
  · refine cw_cond_t rfl rfl h23 ?_
    refine cw_seq ?_
    refine cw_region ?_
    refine ow_vals 2 (j := 2) [2] [(2, .int .i64 r21.1)] rfl (by kernel_rfl) ?_
    refine ow_end rfl ?_
    refine ew_then ?_
    refine cw_ret ?_
    refine ew_then_ret ?_
    have hR := Option.some.inj hF
    subst hR
    exact fin1 (H1 := [imm I, pt b0 #[.slice r21_p1 ((⟨r21.2.sure_, ([] : List (Int × disk_sector)), r21.2.off_, r21.2.armed_, r21.2.left_, r21.2.fall_, r21.2.acts_, r21.2.falls_⟩ : disk_Disk).sure_).length r21_c2, .map none, .bool ((⟨r21.2.sure_, ([] : List (Int × disk_sector)), r21.2.off_, r21.2.armed_, r21.2.left_, r21.2.fall_, r21.2.acts_, r21.2.falls_⟩ : disk_Disk).off_), .bool ((⟨r21.2.sure_, ([] : List (Int × disk_sector)), r21.2.off_, r21.2.armed_, r21.2.left_, r21.2.fall_, r21.2.acts_, r21.2.falls_⟩ : disk_Disk).armed_), .int .i64 ((⟨r21.2.sure_, ([] : List (Int × disk_sector)), r21.2.off_, r21.2.armed_, r21.2.left_, r21.2.fall_, r21.2.acts_, r21.2.falls_⟩ : disk_Disk).left_), .int .u64 (((⟨r21.2.sure_, ([] : List (Int × disk_sector)), r21.2.off_, r21.2.armed_, r21.2.left_, r21.2.fall_, r21.2.acts_, r21.2.falls_⟩ : disk_Disk).fall_).Keep), .int .i64 (((⟨r21.2.sure_, ([] : List (Int × disk_sector)), r21.2.off_, r21.2.armed_, r21.2.left_, r21.2.fall_, r21.2.acts_, r21.2.falls_⟩ : disk_Disk).fall_).Tear), .int .i64 ((⟨r21.2.sure_, ([] : List (Int × disk_sector)), r21.2.off_, r21.2.armed_, r21.2.left_, r21.2.fall_, r21.2.acts_, r21.2.falls_⟩ : disk_Disk).acts_), .int .i64 ((⟨r21.2.sure_, ([] : List (Int × disk_sector)), r21.2.off_, r21.2.armed_, r21.2.left_, r21.2.fall_, r21.2.acts_, r21.2.falls_⟩ : disk_Disk).falls_)] 43]) (fun w hs => sat_to [0, 0] 0 rfl hs) rfl (rr_tmp rfl) ⟨r21_p1, r21_c2, rfl, rfl, r21_h3⟩
  · refine cw_cond_f rfl rfl h23 ?_
    refine cw_skip ?_
    refine ew_then ?_
    refine cw_seq ?_
    refine cw_seq ?_
    refine cw_region ?_
    refine ow_vals 1 (j := 1) [0, 12] [(0, .pointer (some ⟨b0, 0, none⟩)), (12, .pointer (some ⟨b0, 0, none⟩))] rfl (by kernel_rfl) ?_
    obtain ⟨r24, h25, hF⟩ := bind_some hF
    refine ow_pw rfl (pw_call (F := [] ++ F0) rfl rfl rfl rfl rfl rfl rfl (by kernel_rfl) (perm_of_pulls [0, 0] rfl) (c_disk_Disk_act_2 _ (⟨r21.2.sure_, ([] : List (Int × disk_sector)), r21.2.off_, r21.2.armed_, r21.2.left_, r21.2.fall_, r21.2.acts_, r21.2.falls_⟩ : disk_Disk) r21_p1 r21_c2 b0 r24 h25 r21_h3) ?_)
    rintro _ _ ⟨r24_p1, r24_c2, rfl, rfl, r24_h3⟩
    refine nw_H (H' := [imm I, pt b0 #[.slice r24_p1 r24.2.sure_.length r24_c2, .map none, .bool r24.2.off_, .bool r24.2.armed_, .int .i64 r24.2.left_, .int .u64 r24.2.fall_.Keep, .int .i64 r24.2.fall_.Tear, .int .i64 r24.2.acts_, .int .i64 r24.2.falls_] 43] ++ F0) rfl (nw_ow ?_)
    refine ow_vals 1 (j := 3) [0, 4] [(0, .pointer (some ⟨b0, 0, none⟩)), (4, .int .i64 r24.1)] rfl (by kernel_rfl) ?_
    refine ow_end rfl ?_
    refine ew_then ?_
    refine cw_seq ?_
    refine cw_region ?_
    refine ow_vals 2 (j := 2) [0, 4, 15] [(0, .pointer (some ⟨b0, 0, none⟩)), (4, .int .i64 r24.1), (15, .bool (r24.1 != 0))] rfl (by kernel_rfl) ?_
    refine ow_end rfl ?_
    refine ew_then ?_
    rcases if_some hF with ⟨h26, hF⟩ | ⟨h26, hF⟩
    · refine cw_cond_t rfl rfl h26 ?_
      refine cw_seq ?_
      refine cw_region ?_
      refine ow_vals 2 (j := 2) [2] [(2, .int .i64 r24.1)] rfl (by kernel_rfl) ?_
      refine ow_end rfl ?_
      refine ew_then ?_
      refine cw_ret ?_
      refine ew_then_ret ?_
      have hR := Option.some.inj hF
      subst hR
      exact fin1 (H1 := [imm I, pt b0 #[.slice r24_p1 ((⟨r24.2.sure_, ([] : List (Int × disk_sector)), r24.2.off_, r24.2.armed_, r24.2.left_, r24.2.fall_, r24.2.acts_, r24.2.falls_⟩ : disk_Disk).sure_).length r24_c2, .map none, .bool ((⟨r24.2.sure_, ([] : List (Int × disk_sector)), r24.2.off_, r24.2.armed_, r24.2.left_, r24.2.fall_, r24.2.acts_, r24.2.falls_⟩ : disk_Disk).off_), .bool ((⟨r24.2.sure_, ([] : List (Int × disk_sector)), r24.2.off_, r24.2.armed_, r24.2.left_, r24.2.fall_, r24.2.acts_, r24.2.falls_⟩ : disk_Disk).armed_), .int .i64 ((⟨r24.2.sure_, ([] : List (Int × disk_sector)), r24.2.off_, r24.2.armed_, r24.2.left_, r24.2.fall_, r24.2.acts_, r24.2.falls_⟩ : disk_Disk).left_), .int .u64 (((⟨r24.2.sure_, ([] : List (Int × disk_sector)), r24.2.off_, r24.2.armed_, r24.2.left_, r24.2.fall_, r24.2.acts_, r24.2.falls_⟩ : disk_Disk).fall_).Keep), .int .i64 (((⟨r24.2.sure_, ([] : List (Int × disk_sector)), r24.2.off_, r24.2.armed_, r24.2.left_, r24.2.fall_, r24.2.acts_, r24.2.falls_⟩ : disk_Disk).fall_).Tear), .int .i64 ((⟨r24.2.sure_, ([] : List (Int × disk_sector)), r24.2.off_, r24.2.armed_, r24.2.left_, r24.2.fall_, r24.2.acts_, r24.2.falls_⟩ : disk_Disk).acts_), .int .i64 ((⟨r24.2.sure_, ([] : List (Int × disk_sector)), r24.2.off_, r24.2.armed_, r24.2.left_, r24.2.fall_, r24.2.acts_, r24.2.falls_⟩ : disk_Disk).falls_)] 43]) (fun w hs => sat_to [0, 0] 0 rfl hs) rfl (rr_tmp rfl) ⟨r24_p1, r24_c2, rfl, rfl, r24_h3⟩
    · refine cw_cond_f rfl rfl h26 ?_
      refine cw_skip ?_
      refine ew_then ?_
      refine cw_seq ?_
      refine cw_seq ?_
      refine cw_region ?_
      refine ow_vals 3 (j := 3) [0, 19] [(0, .pointer (some ⟨b0, 0, none⟩)), (19, .pointer (some ⟨b0, 1, none⟩))] rfl (by kernel_rfl) ?_
      refine ow_pw rfl (pw_quiet (v := .map none) rfl rfl rfl rfl (q_load 1 rfl rfl rfl (by kernel_rfl)) (nw_ow ?_))
      cases hF


def F.disk_Disk_Waiting_2 : Option (List Int) :=
  Option.bind (F.disk_Disk_Size_1) (fun (r21 : Int) => if r21 == 0 then (some (([] : List Int))) else (none))
set_option maxRecDepth 100000 in
set_option maxHeartbeats 4000000 in
theorem c_disk_Disk_Waiting_2 (I : Hl) (res : (List Int)) (hF : F.disk_Disk_Waiting_2 = some res) : Tr Try.prog 22 [.pointer none] [imm I] (fun r H' => ∃ (pq1 : Option Addr), ∃ (cq2 : Nat), r = .slice pq1 res.length cq2 ∧ H' = [imm I, own (eInt .i64) 3 pq1 cq2 res]) := by
  unfold F.disk_Disk_Waiting_2 at hF
  refine tr_of_cw (fn := Try.f22) Try.func22 rfl (Nat.le_of_ble_eq_true rfl) 24 rfl fun F0 w0 => ?_
  refine cw_keep [0] (L' := [(0, .pointer none)]) rfl ?_
  refine cw_state (S' := SAT w0 ([imm I] ++ F0)) (fun w hs => hs) ?_
  refine cw_seq ?_
  refine cw_region ?_
  refine ow_vals 1 (j := 1) [0] [(0, .pointer none)] rfl (by kernel_rfl) ?_
  refine ow_end rfl ?_
  refine ew_then ?_
  refine cw_seq ?_
  refine cw_seq ?_
  refine cw_region ?_
  refine ow_vals 1 (j := 1) [0, 5] [(0, .pointer none), (5, .pointer none)] rfl (by kernel_rfl) ?_
  obtain ⟨r21, h22, hF⟩ := bind_some hF
  refine ow_pw rfl (pw_call (F := [] ++ F0) rfl rfl rfl rfl rfl rfl rfl (by kernel_rfl) (perm_of_pulls [0] rfl) (c_disk_Disk_Size_1 _ r21 h22) ?_)
  rintro _ _ ⟨rfl, rfl⟩
  refine nw_H (H' := [imm I] ++ F0) rfl (nw_ow ?_)
  refine ow_vals 1 (j := 3) [0, 7] [(0, .pointer none), (7, .bool (r21 == 0))] rfl (by kernel_rfl) ?_
  refine ow_end rfl ?_
  refine ew_then ?_
  rcases if_some hF with ⟨h23, hF⟩ | ⟨h23, hF⟩
  · refine cw_cond_t rfl rfl h23 ?_
    refine cw_seq ?_
    refine cw_region ?_
    refine ow_vals 1 (j := 1) [2] [(2, .slice none 0 0)] rfl (by kernel_rfl) ?_
    refine ow_end rfl ?_
    refine ew_then ?_
    refine cw_ret ?_
    refine ew_then_ret ?_
    have hR := Option.some.inj hF
    subst hR
    exact fin1 (H1 := [imm I, own (eInt .i64) 3 none 0 ([] : List Int)]) (fun w hs => sat_to [1, 0] 0 rfl (sat_own_nil (eInt .i64) 3 hs)) rfl (rr_tmp rfl) ⟨none, 0, rfl, rfl⟩
  · refine cw_cond_f rfl rfl h23 ?_
    refine cw_skip ?_
    refine ew_then ?_
    refine cw_seq ?_
    refine cw_region ?_
    refine ow_vals 1 (j := 1) [0, 3] [(0, .pointer none), (3, .slice none 0 0)] rfl (by kernel_rfl) ?_
    refine ow_end rfl ?_
    refine ew_then ?_
    refine cw_seq ?_
    refine cw_seq ?_
    refine cw_region ?_
    refine ow_vals 1 (j := 1) [3, 8] [(3, .slice none 0 0), (8, .pointer none)] rfl (by kernel_rfl) ?_
    cases hF


def F.disk_Disk_drop_2.l1 (r24 : (List Int)) : Option ((Unit) ⊕ (Unit)) :=
  if decide ((0 : Int) < (r24.length : Int)) then (Option.bind (at_ r24 0) (fun (y29 : Int) => none)) else (some (.inr (())))
def F.disk_Disk_drop_2.r2 : Option (Unit) :=
  none
def F.disk_Disk_drop_2 (x1 : disk_Fall) : Option Unit :=
  Option.bind (Option.bind (F.disk_Disk_Waiting_2) (fun (r24 : (List Int)) => iter (fun x => F.disk_Disk_drop_2.l1 r24) FUEL ())) (fun x => F.disk_Disk_drop_2.r2)
set_option maxRecDepth 100000 in
set_option maxHeartbeats 4000000 in
theorem c_disk_Disk_drop_2 (I : Hl) (x1 : disk_Fall) (res : Unit) (hF : F.disk_Disk_drop_2 x1 = some res) : Tr Try.prog 26 [.pointer none, .agg #[.int .u64 x1.Keep, .int .i64 x1.Tear]] [imm I] (fun r H' => r = .tuple #[] ∧ H' = [imm I]) := by
  unfold F.disk_Disk_drop_2 at hF
  refine tr_of_cw (fn := Try.f26) Try.func26 rfl (Nat.le_of_ble_eq_true rfl) 91 rfl fun F0 w0 => ?_
  refine cw_keep [0, 1] (L' := [(0, .pointer none), (1, .agg #[.int .u64 x1.Keep, .int .i64 x1.Tear])]) rfl ?_
  refine cw_state (S' := SAT w0 ([imm I] ++ F0)) (fun w hs => hs) ?_
  refine cw_seq ?_
  refine cw_region ?_
  refine ow_pw rfl (pw_box (cs := #[.int .u64 x1.Keep, .int .i64 x1.Tear]) rfl rfl rfl rfl rfl rfl fun b21 => nw_ow ?_)
  refine ow_end rfl ?_
  refine ew_then ?_
  obtain ⟨v23, hF, hK23⟩ := bind_some hF
  refine cw_mid (fun a w => () = v23 ∧ Fr 91 [(0, .pointer none)] a ∧ SAT w0 ([imm I, pt b21 #[.int .u64 x1.Keep, .int .i64 x1.Tear] 34] ++ F0) w) ?_ ?_
  · refine cw_seq ?_
    refine cw_region ?_
    refine ow_vals 1 (j := 1) [0, 3, 8] [(0, .pointer none), (3, .pointer (some ⟨b21, 0, none⟩)), (8, .pointer none)] rfl (by kernel_rfl) ?_
    obtain ⟨r24, h25, hF⟩ := bind_some hF
    refine ow_pw rfl (pw_call (F := [pt b21 #[.int .u64 x1.Keep, .int .i64 x1.Tear] 34] ++ F0) rfl rfl rfl rfl rfl rfl rfl (by kernel_rfl) (perm_of_pulls [1] rfl) (c_disk_Disk_Waiting_2 _ r24 h25) ?_)
    rintro _ _ ⟨r24_p1, r24_c2, rfl, rfl⟩
    refine nw_H (H' := [imm I, own (eInt .i64) 3 r24_p1 r24_c2 r24, pt b21 #[.int .u64 x1.Keep, .int .i64 x1.Tear] 34] ++ F0) rfl (nw_ow ?_)
    refine ow_vals 2 (j := 4) [0, 3, 9, 10, 11] [(0, .pointer none), (3, .pointer (some ⟨b21, 0, none⟩)), (9, .slice r24_p1 r24.length r24_c2), (10, .int .i64 (r24.length : Int)), (11, .int .i64 0)] rfl (by kernel_rfl) ?_
    refine ow_end rfl ?_
    refine ew_then ?_
    refine cw_block ?_
    refine fun a w hf hs => wp_rounds (fun k a w => iter (fun x => F.disk_Disk_drop_2.l1 r24) k () = some v23 ∧ Fr 91 [(0, .pointer none), (3, .pointer (some ⟨b21, 0, none⟩)), (9, .slice r24_p1 r24.length r24_c2), (10, .int .i64 (r24.length : Int)), (11, .int .i64 0)] a ∧ SAT w0 ([imm I, pt b21 #[.int .u64 x1.Keep, .int .i64 x1.Tear] 34, own (eInt .i64) 3 r24_p1 r24_c2 r24] ++ F0) w) ?_ FUEL a w ⟨hF, hf.keep [0, 3, 9, 10, 11], sat_to [0, 1, 0] 0 rfl hs⟩
    clear hf hs
    clear a w hF
    rintro k a w ⟨hF2, hf, hs⟩
    obtain ⟨k, r27, rfl, hF, hL27⟩ := iter_some hF2
    clear hF2
    revert a w
    show CW _ _ _ 91 [(0, .pointer none), (3, .pointer (some ⟨b21, 0, none⟩)), (9, .slice r24_p1 r24.length r24_c2), (10, .int .i64 (r24.length : Int)), (11, .int .i64 0)] (SAT w0 ([imm I, pt b21 #[.int .u64 x1.Keep, .int .i64 x1.Tear] 34, own (eInt .i64) 3 r24_p1 r24_c2 r24] ++ F0))
    try dsimp only at hF
    unfold F.disk_Disk_drop_2.l1 at hF
    refine cw_seq ?_
    refine cw_region ?_
    refine ow_vals 1 (j := 1) [0, 3, 9, 10, 11, 12] [(0, .pointer none), (3, .pointer (some ⟨b21, 0, none⟩)), (9, .slice r24_p1 r24.length r24_c2), (10, .int .i64 (r24.length : Int)), (11, .int .i64 0), (12, .bool (decide ((0 : Int) < (r24.length : Int))))] rfl (by kernel_rfl) ?_
    refine ow_end rfl ?_
    refine ew_then ?_
    refine cw_seq ?_
    rcases if_some hF with ⟨h28, hF⟩ | ⟨h28, hF⟩
    · refine cw_cond_t rfl rfl h28 ?_
      refine cw_skip ?_
      refine ew_then ?_
      refine cw_seq ?_
      refine cw_block ?_
      refine cw_seq ?_
      refine cw_region ?_
      refine ow_vals 1 (j := 1) [0, 3, 9, 10, 11, 13] [(0, .pointer none), (3, .pointer (some ⟨b21, 0, none⟩)), (9, .slice r24_p1 r24.length r24_c2), (10, .int .i64 (r24.length : Int)), (11, .int .i64 0), (13, .int .i64 0)] rfl (by kernel_rfl) ?_
      obtain ⟨y29, h30, hF⟩ := bind_some hF
      refine ow_pw rfl (pw_quiet (v := .pointer (some ((base r24_p1).add ((0 : Int).toNat * 1)))) rfl rfl rfl rfl (q_index_own 2 1 rfl rfl (by kernel_rfl) rfl rfl (at_some h30).1 (at_lt h30)) (nw_ow ?_))
      refine ow_pw rfl (pw_quiet (v := .int .i64 y29) rfl rfl rfl rfl (q_load_own0 2 1 rfl rfl rfl rfl (at_some h30).2 (by kernel_rfl)) (nw_ow ?_))
      refine ow_vals 2 (j := 5) [0, 3, 4, 5, 9, 10, 11] [(0, .pointer none), (3, .pointer (some ⟨b21, 0, none⟩)), (4, .int .i64 0), (5, .int .i64 y29), (9, .slice r24_p1 r24.length r24_c2), (10, .int .i64 (r24.length : Int)), (11, .int .i64 0)] rfl (by kernel_rfl) ?_
      refine ow_end rfl ?_
      refine ew_then ?_
      refine cw_seq ?_
      refine cw_region ?_
      refine ow_vals 1 (j := 1) [0, 3, 4, 5, 9, 10, 11, 16] [(0, .pointer none), (3, .pointer (some ⟨b21, 0, none⟩)), (4, .int .i64 0), (5, .int .i64 y29), (9, .slice r24_p1 r24.length r24_c2), (10, .int .i64 (r24.length : Int)), (11, .int .i64 0), (16, .pointer none)] rfl (by kernel_rfl) ?_
      cases hF
    · refine cw_cond_f rfl rfl h28 ?_
      refine cw_exit ?_
      refine ew_then_exit ?_
      refine ew_then_exit ?_
      refine ew_blk_exit ?_
      have hR := Option.some.inj hF
      subst hR
      have hR := hL27
      try dsimp only at hR
      exact fun a w hf hs => ⟨hR, hf.keep [0], sat_to [2, 0, 0] 1 rfl hs⟩
  · rintro a w ⟨hv, hf, hs⟩
    subst hv
    replace hF := hK23
    clear hK23
    try dsimp only at hF
    revert a w
    show CW _ _ _ 91 [(0, .pointer none)] (SAT w0 ([imm I, pt b21 #[.int .u64 x1.Keep, .int .i64 x1.Tear] 34] ++ F0))
    unfold F.disk_Disk_drop_2.r2 at hF
    refine cw_seq ?_
    refine cw_region ?_
    refine ow_vals 1 (j := 1) [0, 74] [(0, .pointer none), (74, .pointer none)] rfl (by kernel_rfl) ?_
    cases hF


def F.disk_Disk_Crash_1 (x1 : disk_Fall) : Option Int :=
  Option.bind (F.disk_Disk_why_1 0) (fun (r23 : Int) => if r23 != 0 then (some (r23)) else (Option.bind (F.disk_Disk_drop_2 x1) (fun (r26 : Unit) => some (0))))
set_option maxRecDepth 100000 in
set_option maxHeartbeats 4000000 in
theorem c_disk_Disk_Crash_1 (I : Hl) (x1 : disk_Fall) (res : Int) (hF : F.disk_Disk_Crash_1 x1 = some res) : Tr Try.prog 12 [.pointer none, .agg #[.int .u64 x1.Keep, .int .i64 x1.Tear]] [imm I] (fun r H' => r = .int .i64 res ∧ H' = [imm I]) := by
  unfold F.disk_Disk_Crash_1 at hF
  refine tr_of_cw (fn := Try.f12) Try.func12 rfl (Nat.le_of_ble_eq_true rfl) 14 rfl fun F0 w0 => ?_
  refine cw_keep [0, 1] (L' := [(0, .pointer none), (1, .agg #[.int .u64 x1.Keep, .int .i64 x1.Tear])]) rfl ?_
  refine cw_state (S' := SAT w0 ([imm I] ++ F0)) (fun w hs => hs) ?_
  refine cw_seq ?_
  refine cw_region ?_
  refine ow_pw rfl (pw_box (cs := #[.int .u64 x1.Keep, .int .i64 x1.Tear]) rfl rfl rfl rfl rfl rfl fun b21 => nw_ow ?_)
  refine ow_vals 1 (j := 2) [0, 3] [(0, .pointer none), (3, .pointer (some ⟨b21, 0, none⟩))] rfl (by kernel_rfl) ?_
  refine ow_end rfl ?_
  refine ew_then ?_
  refine cw_seq ?_
  refine cw_seq ?_
  refine cw_region ?_
  refine ow_vals 1 (j := 1) [0, 3, 6] [(0, .pointer none), (3, .pointer (some ⟨b21, 0, none⟩)), (6, .pointer none)] rfl (by kernel_rfl) ?_
  obtain ⟨r23, h24, hF⟩ := bind_some hF
  refine ow_pw rfl (pw_call (F := [pt b21 #[.int .u64 x1.Keep, .int .i64 x1.Tear] 34] ++ F0) rfl rfl rfl rfl rfl rfl rfl (by kernel_rfl) (perm_of_pulls [1] rfl) (c_disk_Disk_why_1 _ 0 r23 h24) ?_)
  rintro _ _ ⟨rfl, rfl⟩
  refine nw_H (H' := [imm I, pt b21 #[.int .u64 x1.Keep, .int .i64 x1.Tear] 34] ++ F0) rfl (nw_ow ?_)
  refine ow_vals 1 (j := 3) [0, 3, 5] [(0, .pointer none), (3, .pointer (some ⟨b21, 0, none⟩)), (5, .int .i64 r23)] rfl (by kernel_rfl) ?_
  refine ow_end rfl ?_
  refine ew_then ?_
  refine cw_seq ?_
  refine cw_region ?_
  refine ow_vals 2 (j := 2) [0, 3, 5, 9] [(0, .pointer none), (3, .pointer (some ⟨b21, 0, none⟩)), (5, .int .i64 r23), (9, .bool (r23 != 0))] rfl (by kernel_rfl) ?_
  refine ow_end rfl ?_
  refine ew_then ?_
  rcases if_some hF with ⟨h25, hF⟩ | ⟨h25, hF⟩
  · refine cw_cond_t rfl rfl h25 ?_
    refine cw_seq ?_
    refine cw_region ?_
    refine ow_vals 2 (j := 2) [4] [(4, .int .i64 r23)] rfl (by kernel_rfl) ?_
    refine ow_end rfl ?_
    refine ew_then ?_
    refine cw_ret ?_
    refine ew_then_ret ?_
    have hR := Option.some.inj hF
    subst hR
    exact fin1 (H1 := [imm I]) (fun w hs => sat_to [1, 0] 1 rfl hs) rfl (rr_tmp rfl) ⟨rfl, rfl⟩
  · refine cw_cond_f rfl rfl h25 ?_
    refine cw_skip ?_
    refine ew_then ?_
    refine cw_seq ?_
    refine cw_region ?_
    refine ow_vals 1 (j := 1) [3, 11] [(3, .pointer (some ⟨b21, 0, none⟩)), (11, .pointer none)] rfl (by kernel_rfl) ?_
    refine ow_pw rfl (pw_quiet (v := .agg #[.int .u64 x1.Keep, .int .i64 x1.Tear]) rfl rfl rfl rfl (q_load 1 rfl rfl rfl (by kernel_rfl)) (nw_ow ?_))
    obtain ⟨r26, h27, hF⟩ := bind_some hF
    refine ow_pw rfl (pw_call (F := [pt b21 #[.int .u64 x1.Keep, .int .i64 x1.Tear] 34] ++ F0) rfl rfl rfl rfl rfl rfl rfl (by kernel_rfl) (perm_of_pulls [0] rfl) (c_disk_Disk_drop_2 _ x1 r26 h27) ?_)
    rintro _ _ ⟨rfl, rfl⟩
    refine nw_H (H' := [imm I, pt b21 #[.int .u64 x1.Keep, .int .i64 x1.Tear] 34] ++ F0) rfl (nw_ow ?_)
    refine ow_end rfl ?_
    refine ew_then ?_
    refine cw_seq ?_
    refine cw_region ?_
    refine ow_vals 1 (j := 1) [4] [(4, .int .i64 0)] rfl (by kernel_rfl) ?_
    refine ow_end rfl ?_
    refine ew_then ?_
    refine cw_ret ?_
    have hR := Option.some.inj hF
    subst hR
    exact fin1 (H1 := [imm I]) (fun w hs => sat_to [1, 0] 1 rfl hs) rfl (rr_tmp rfl) ⟨rfl, rfl⟩


def F.disk_Disk_Arm (x1 : Int) (x2 : disk_Fall) (m0 : disk_Disk) : Option (Int × disk_Disk) :=
  Option.bind (F.disk_Disk_why_2 0 (⟨m0.sure_, ([] : List (Int × disk_sector)), m0.off_, m0.armed_, m0.left_, m0.fall_, m0.acts_, m0.falls_⟩ : disk_Disk)) (fun (r23 : Int × disk_Disk) => if r23.1 != 0 then (some ((r23.1, (⟨r23.2.sure_, ([] : List (Int × disk_sector)), r23.2.off_, r23.2.armed_, r23.2.left_, r23.2.fall_, r23.2.acts_, r23.2.falls_⟩ : disk_Disk)))) else (if decide (x1 < 0) then (some ((1, (⟨r23.2.sure_, ([] : List (Int × disk_sector)), r23.2.off_, r23.2.armed_, r23.2.left_, r23.2.fall_, r23.2.acts_, r23.2.falls_⟩ : disk_Disk)))) else (some ((0, (⟨r23.2.sure_, ([] : List (Int × disk_sector)), r23.2.off_, true, x1, x2, r23.2.acts_, r23.2.falls_⟩ : disk_Disk))))))
set_option maxRecDepth 100000 in
set_option maxHeartbeats 4000000 in
theorem c_disk_Disk_Arm (I : Hl) (x1 : Int) (x2 : disk_Fall) (m0 : disk_Disk) (p0 : Option Addr) (c0 : Nat) (b0 : Nat) (res : Int × disk_Disk) (hF : F.disk_Disk_Arm x1 x2 m0 = some res) (hr0 : ro I e_disk_sector p0 c0 m0.sure_) : Tr Try.prog 16 [.pointer (some ⟨b0, 0, none⟩), .int .i64 x1, .agg #[.int .u64 x2.Keep, .int .i64 x2.Tear]] [imm I, pt b0 #[.slice p0 m0.sure_.length c0, .map none, .bool m0.off_, .bool m0.armed_, .int .i64 m0.left_, .int .u64 m0.fall_.Keep, .int .i64 m0.fall_.Tear, .int .i64 m0.acts_, .int .i64 m0.falls_] 43] (fun r H' => ∃ (pq1 : Option Addr), ∃ (cq2 : Nat), r = .int .i64 res.1 ∧ H' = [imm I, pt b0 #[.slice pq1 res.2.sure_.length cq2, .map none, .bool res.2.off_, .bool res.2.armed_, .int .i64 res.2.left_, .int .u64 res.2.fall_.Keep, .int .i64 res.2.fall_.Tear, .int .i64 res.2.acts_, .int .i64 res.2.falls_] 43] ∧ ro I e_disk_sector pq1 cq2 res.2.sure_) := by
  unfold F.disk_Disk_Arm at hF
  refine tr_of_cw (fn := Try.f16) Try.func16 rfl (Nat.le_of_ble_eq_true rfl) 26 rfl fun F0 w0 => ?_
  refine cw_keep [0, 1, 2] (L' := [(0, .pointer (some ⟨b0, 0, none⟩)), (1, .int .i64 x1), (2, .agg #[.int .u64 x2.Keep, .int .i64 x2.Tear])]) rfl ?_
  refine cw_state (S' := SAT w0 ([imm I, pt b0 #[.slice p0 m0.sure_.length c0, .map none, .bool m0.off_, .bool m0.armed_, .int .i64 m0.left_, .int .u64 m0.fall_.Keep, .int .i64 m0.fall_.Tear, .int .i64 m0.acts_, .int .i64 m0.falls_] 43] ++ F0)) (fun w hs => hs) ?_
  refine cw_seq ?_
  refine cw_region ?_
  refine ow_pw rfl (pw_box (cs := #[.int .u64 x2.Keep, .int .i64 x2.Tear]) rfl rfl rfl rfl rfl rfl fun b21 => nw_ow ?_)
  refine ow_vals 1 (j := 2) [0, 1, 5] [(0, .pointer (some ⟨b0, 0, none⟩)), (1, .int .i64 x1), (5, .pointer (some ⟨b21, 0, none⟩))] rfl (by kernel_rfl) ?_
  refine ow_end rfl ?_
  refine ew_then ?_
  refine cw_seq ?_
  refine cw_seq ?_
  refine cw_region ?_
  refine ow_vals 1 (j := 1) [0, 1, 5, 8] [(0, .pointer (some ⟨b0, 0, none⟩)), (1, .int .i64 x1), (5, .pointer (some ⟨b21, 0, none⟩)), (8, .pointer (some ⟨b0, 0, none⟩))] rfl (by kernel_rfl) ?_
  obtain ⟨r23, h24, hF⟩ := bind_some hF
  refine ow_pw rfl (pw_call (F := [pt b21 #[.int .u64 x2.Keep, .int .i64 x2.Tear] 34] ++ F0) rfl rfl rfl rfl rfl rfl rfl (by kernel_rfl) (perm_of_pulls [1, 1] rfl) (c_disk_Disk_why_2 _ 0 (⟨m0.sure_, ([] : List (Int × disk_sector)), m0.off_, m0.armed_, m0.left_, m0.fall_, m0.acts_, m0.falls_⟩ : disk_Disk) p0 c0 b0 r23 h24 hr0) ?_)
  rintro _ _ ⟨r23_p1, r23_c2, rfl, rfl, r23_h3⟩
  refine nw_H (H' := [imm I, pt b0 #[.slice r23_p1 r23.2.sure_.length r23_c2, .map none, .bool r23.2.off_, .bool r23.2.armed_, .int .i64 r23.2.left_, .int .u64 r23.2.fall_.Keep, .int .i64 r23.2.fall_.Tear, .int .i64 r23.2.acts_, .int .i64 r23.2.falls_] 43, pt b21 #[.int .u64 x2.Keep, .int .i64 x2.Tear] 34] ++ F0) rfl (nw_ow ?_)
  refine ow_vals 1 (j := 3) [0, 1, 5, 7] [(0, .pointer (some ⟨b0, 0, none⟩)), (1, .int .i64 x1), (5, .pointer (some ⟨b21, 0, none⟩)), (7, .int .i64 r23.1)] rfl (by kernel_rfl) ?_
  refine ow_end rfl ?_
  refine ew_then ?_
  refine cw_seq ?_
  refine cw_region ?_
  refine ow_vals 2 (j := 2) [0, 1, 5, 7, 11] [(0, .pointer (some ⟨b0, 0, none⟩)), (1, .int .i64 x1), (5, .pointer (some ⟨b21, 0, none⟩)), (7, .int .i64 r23.1), (11, .bool (r23.1 != 0))] rfl (by kernel_rfl) ?_
  refine ow_end rfl ?_
  refine ew_then ?_
  rcases if_some hF with ⟨h25, hF⟩ | ⟨h25, hF⟩
  · refine cw_cond_t rfl rfl h25 ?_
    refine cw_seq ?_
    refine cw_region ?_
    refine ow_vals 2 (j := 2) [6] [(6, .int .i64 r23.1)] rfl (by kernel_rfl) ?_
    refine ow_end rfl ?_
    refine ew_then ?_
    refine cw_ret ?_
    refine ew_then_ret ?_
    have hR := Option.some.inj hF
    subst hR
    exact fin1 (H1 := [imm I, pt b0 #[.slice r23_p1 ((⟨r23.2.sure_, ([] : List (Int × disk_sector)), r23.2.off_, r23.2.armed_, r23.2.left_, r23.2.fall_, r23.2.acts_, r23.2.falls_⟩ : disk_Disk).sure_).length r23_c2, .map none, .bool ((⟨r23.2.sure_, ([] : List (Int × disk_sector)), r23.2.off_, r23.2.armed_, r23.2.left_, r23.2.fall_, r23.2.acts_, r23.2.falls_⟩ : disk_Disk).off_), .bool ((⟨r23.2.sure_, ([] : List (Int × disk_sector)), r23.2.off_, r23.2.armed_, r23.2.left_, r23.2.fall_, r23.2.acts_, r23.2.falls_⟩ : disk_Disk).armed_), .int .i64 ((⟨r23.2.sure_, ([] : List (Int × disk_sector)), r23.2.off_, r23.2.armed_, r23.2.left_, r23.2.fall_, r23.2.acts_, r23.2.falls_⟩ : disk_Disk).left_), .int .u64 (((⟨r23.2.sure_, ([] : List (Int × disk_sector)), r23.2.off_, r23.2.armed_, r23.2.left_, r23.2.fall_, r23.2.acts_, r23.2.falls_⟩ : disk_Disk).fall_).Keep), .int .i64 (((⟨r23.2.sure_, ([] : List (Int × disk_sector)), r23.2.off_, r23.2.armed_, r23.2.left_, r23.2.fall_, r23.2.acts_, r23.2.falls_⟩ : disk_Disk).fall_).Tear), .int .i64 ((⟨r23.2.sure_, ([] : List (Int × disk_sector)), r23.2.off_, r23.2.armed_, r23.2.left_, r23.2.fall_, r23.2.acts_, r23.2.falls_⟩ : disk_Disk).acts_), .int .i64 ((⟨r23.2.sure_, ([] : List (Int × disk_sector)), r23.2.off_, r23.2.armed_, r23.2.left_, r23.2.fall_, r23.2.acts_, r23.2.falls_⟩ : disk_Disk).falls_)] 43]) (fun w hs => sat_to [2, 0, 0] 1 rfl hs) rfl (rr_tmp rfl) ⟨r23_p1, r23_c2, rfl, rfl, r23_h3⟩
  · refine cw_cond_f rfl rfl h25 ?_
    refine cw_skip ?_
    refine ew_then ?_
    refine cw_seq ?_
    refine cw_seq ?_
    refine cw_region ?_
    refine ow_vals 2 (j := 2) [0, 1, 5, 14] [(0, .pointer (some ⟨b0, 0, none⟩)), (1, .int .i64 x1), (5, .pointer (some ⟨b21, 0, none⟩)), (14, .bool (decide (x1 < 0)))] rfl (by kernel_rfl) ?_
    refine ow_end rfl ?_
    refine ew_then ?_
    rcases if_some hF with ⟨h26, hF⟩ | ⟨h26, hF⟩
    · refine cw_cond_t rfl rfl h26 ?_
      refine cw_seq ?_
      refine cw_region ?_
      refine ow_vals 1 (j := 1) [6] [(6, .int .i64 1)] rfl (by kernel_rfl) ?_
      refine ow_end rfl ?_
      refine ew_then ?_
      refine cw_ret ?_
      refine ew_then_ret ?_
      have hR := Option.some.inj hF
      subst hR
      exact fin1 (H1 := [imm I, pt b0 #[.slice r23_p1 ((⟨r23.2.sure_, ([] : List (Int × disk_sector)), r23.2.off_, r23.2.armed_, r23.2.left_, r23.2.fall_, r23.2.acts_, r23.2.falls_⟩ : disk_Disk).sure_).length r23_c2, .map none, .bool ((⟨r23.2.sure_, ([] : List (Int × disk_sector)), r23.2.off_, r23.2.armed_, r23.2.left_, r23.2.fall_, r23.2.acts_, r23.2.falls_⟩ : disk_Disk).off_), .bool ((⟨r23.2.sure_, ([] : List (Int × disk_sector)), r23.2.off_, r23.2.armed_, r23.2.left_, r23.2.fall_, r23.2.acts_, r23.2.falls_⟩ : disk_Disk).armed_), .int .i64 ((⟨r23.2.sure_, ([] : List (Int × disk_sector)), r23.2.off_, r23.2.armed_, r23.2.left_, r23.2.fall_, r23.2.acts_, r23.2.falls_⟩ : disk_Disk).left_), .int .u64 (((⟨r23.2.sure_, ([] : List (Int × disk_sector)), r23.2.off_, r23.2.armed_, r23.2.left_, r23.2.fall_, r23.2.acts_, r23.2.falls_⟩ : disk_Disk).fall_).Keep), .int .i64 (((⟨r23.2.sure_, ([] : List (Int × disk_sector)), r23.2.off_, r23.2.armed_, r23.2.left_, r23.2.fall_, r23.2.acts_, r23.2.falls_⟩ : disk_Disk).fall_).Tear), .int .i64 ((⟨r23.2.sure_, ([] : List (Int × disk_sector)), r23.2.off_, r23.2.armed_, r23.2.left_, r23.2.fall_, r23.2.acts_, r23.2.falls_⟩ : disk_Disk).acts_), .int .i64 ((⟨r23.2.sure_, ([] : List (Int × disk_sector)), r23.2.off_, r23.2.armed_, r23.2.left_, r23.2.fall_, r23.2.acts_, r23.2.falls_⟩ : disk_Disk).falls_)] 43]) (fun w hs => sat_to [2, 0, 0] 1 rfl hs) rfl (rr_tmp rfl) ⟨r23_p1, r23_c2, rfl, rfl, r23_h3⟩
    · refine cw_cond_f rfl rfl h26 ?_
      refine cw_skip ?_
      refine ew_then ?_
      refine cw_seq ?_
      refine cw_open 13 (SAT w0 ([imm I, pt b21 #[.int .u64 x2.Keep, .int .i64 x2.Tear] 34])) (by kernel_rfl) (f := 14) rfl (fun w hs => sat_drew hs) ?_
      refine aw_vals [0, 1, 2, 3, 5, 6] (f' := 8) (m' := 111) [5, 16, 17, 18, 21] [(5, .pointer (some ⟨b21, 0, none⟩)), (16, .pointer (some ⟨b0, 0, none⟩)), (17, .pointer (some ⟨b0, 0, none⟩)), (18, .int .i64 x1), (21, .pointer (some ⟨b0, 3, none⟩))] (fun _ _ _ _ _ h => calm_fin (P := Try.prog) (fn := Try.f16) _ _ _ _ _ h) (fun w hs => sat_pulls [0, 1] (G := [pt b0 #[.slice r23_p1 r23.2.sure_.length r23_c2, .map none, .bool r23.2.off_, .bool r23.2.armed_, .int .i64 r23.2.left_, .int .u64 r23.2.fall_.Keep, .int .i64 r23.2.fall_.Tear, .int .i64 r23.2.acts_, .int .i64 r23.2.falls_] 43] ++ F0) rfl hs) rfl (by kernel_rfl) ?_
      refine aw_quiet 4 (m' := 127) (v := .agg #[.int .u64 x2.Keep, .int .i64 x2.Tear]) 4 [] rfl rfl rfl rfl (by kernel_rfl) (by kernel_rfl) (by kernel_rfl) (fun _ _ _ _ _ h => calm_fin (P := Try.prog) (fn := Try.f16) _ _ _ _ _ h) (fun w hs => sat_pulls [0, 1] (G := [pt b0 #[.slice r23_p1 r23.2.sure_.length r23_c2, .map none, .bool r23.2.off_, .bool r23.2.armed_, .int .i64 r23.2.left_, .int .u64 r23.2.fall_.Keep, .int .i64 r23.2.fall_.Tear, .int .i64 r23.2.acts_, .int .i64 r23.2.falls_] 43] ++ F0) rfl hs) (q_load 1 rfl rfl rfl (by kernel_rfl)) ?_
      refine aw_only 7 (m' := 255) (by kernel_rfl) (by kernel_rfl) (pw_store 1 #[.slice r23_p1 r23.2.sure_.length r23_c2, .map none, .bool r23.2.off_, .bool true, .int .i64 r23.2.left_, .int .u64 r23.2.fall_.Keep, .int .i64 r23.2.fall_.Tear, .int .i64 r23.2.acts_, .int .i64 r23.2.falls_] rfl rfl rfl rfl rfl rfl rfl (by kernel_rfl) (nw_H (H' := [imm I, pt b0 #[.slice r23_p1 r23.2.sure_.length r23_c2, .map none, .bool r23.2.off_, .bool true, .int .i64 r23.2.left_, .int .u64 r23.2.fall_.Keep, .int .i64 r23.2.fall_.Tear, .int .i64 r23.2.acts_, .int .i64 r23.2.falls_] 43, pt b21 #[.int .u64 x2.Keep, .int .i64 x2.Tear] 34] ++ F0) rfl (aw_next (fun w hs => sat_pulls [0, 1] (G := [pt b0 #[.slice r23_p1 r23.2.sure_.length r23_c2, .map none, .bool r23.2.off_, .bool true, .int .i64 r23.2.left_, .int .u64 r23.2.fall_.Keep, .int .i64 r23.2.fall_.Tear, .int .i64 r23.2.acts_, .int .i64 r23.2.falls_] 43] ++ F0) rfl hs) ?_)))
      refine aw_vals [8, 9] (f' := 4) (m' := 1023) [17, 18, 19, 23] [(17, .pointer (some ⟨b0, 0, none⟩)), (18, .int .i64 x1), (19, .agg #[.int .u64 x2.Keep, .int .i64 x2.Tear]), (23, .pointer (some ⟨b0, 4, none⟩))] (fun _ _ _ _ _ h => calm_fin (P := Try.prog) (fn := Try.f16) _ _ _ _ _ h) (fun w hs => sat_pulls [0, 1] (G := [pt b0 #[.slice r23_p1 r23.2.sure_.length r23_c2, .map none, .bool r23.2.off_, .bool true, .int .i64 r23.2.left_, .int .u64 r23.2.fall_.Keep, .int .i64 r23.2.fall_.Tear, .int .i64 r23.2.acts_, .int .i64 r23.2.falls_] 43] ++ F0) rfl hs) rfl (by kernel_rfl) ?_
      refine aw_only 10 (m' := 2047) (by kernel_rfl) (by kernel_rfl) (pw_store 1 #[.slice r23_p1 r23.2.sure_.length r23_c2, .map none, .bool r23.2.off_, .bool true, .int .i64 x1, .int .u64 r23.2.fall_.Keep, .int .i64 r23.2.fall_.Tear, .int .i64 r23.2.acts_, .int .i64 r23.2.falls_] rfl rfl rfl rfl rfl rfl rfl (by kernel_rfl) (nw_H (H' := [imm I, pt b0 #[.slice r23_p1 r23.2.sure_.length r23_c2, .map none, .bool r23.2.off_, .bool true, .int .i64 x1, .int .u64 r23.2.fall_.Keep, .int .i64 r23.2.fall_.Tear, .int .i64 r23.2.acts_, .int .i64 r23.2.falls_] 43, pt b21 #[.int .u64 x2.Keep, .int .i64 x2.Tear] 34] ++ F0) rfl (aw_next (fun w hs => sat_pulls [0, 1] (G := [pt b0 #[.slice r23_p1 r23.2.sure_.length r23_c2, .map none, .bool r23.2.off_, .bool true, .int .i64 x1, .int .u64 r23.2.fall_.Keep, .int .i64 r23.2.fall_.Tear, .int .i64 r23.2.acts_, .int .i64 r23.2.falls_] 43] ++ F0) rfl hs) ?_)))
      refine aw_vals [11, 12] (f' := 1) (m' := 8191) [19, 25] [(19, .agg #[.int .u64 x2.Keep, .int .i64 x2.Tear]), (25, .pointer (some ⟨b0, 5, none⟩))] (fun _ _ _ _ _ h => calm_fin (P := Try.prog) (fn := Try.f16) _ _ _ _ _ h) (fun w hs => sat_pulls [0, 1] (G := [pt b0 #[.slice r23_p1 r23.2.sure_.length r23_c2, .map none, .bool r23.2.off_, .bool true, .int .i64 x1, .int .u64 r23.2.fall_.Keep, .int .i64 r23.2.fall_.Tear, .int .i64 r23.2.acts_, .int .i64 r23.2.falls_] 43] ++ F0) rfl hs) rfl (by kernel_rfl) ?_
      refine aw_only 13 (m' := 16383) (by kernel_rfl) (by kernel_rfl) (pw_store 1 #[.slice r23_p1 r23.2.sure_.length r23_c2, .map none, .bool r23.2.off_, .bool true, .int .i64 x1, .int .u64 x2.Keep, .int .i64 x2.Tear, .int .i64 r23.2.acts_, .int .i64 r23.2.falls_] rfl rfl rfl rfl rfl rfl rfl (by kernel_rfl) (nw_H (H' := [imm I, pt b0 #[.slice r23_p1 r23.2.sure_.length r23_c2, .map none, .bool r23.2.off_, .bool true, .int .i64 x1, .int .u64 x2.Keep, .int .i64 x2.Tear, .int .i64 r23.2.acts_, .int .i64 r23.2.falls_] 43, pt b21 #[.int .u64 x2.Keep, .int .i64 x2.Tear] 34] ++ F0) rfl (aw_last (by kernel_rfl) ?_)))
      refine aw_keep [] (L' := []) rfl ?_
      refine aw_end (by kernel_rfl) ?_
      refine ew_then ?_
      refine cw_seq ?_
      refine cw_region ?_
      refine ow_vals 1 (j := 1) [6] [(6, .int .i64 0)] rfl (by kernel_rfl) ?_
      refine ow_end rfl ?_
      refine ew_then ?_
      refine cw_ret ?_
      have hR := Option.some.inj hF
      subst hR
      exact fin1 (H1 := [imm I, pt b0 #[.slice r23_p1 ((⟨r23.2.sure_, ([] : List (Int × disk_sector)), r23.2.off_, true, x1, x2, r23.2.acts_, r23.2.falls_⟩ : disk_Disk).sure_).length r23_c2, .map none, .bool ((⟨r23.2.sure_, ([] : List (Int × disk_sector)), r23.2.off_, true, x1, x2, r23.2.acts_, r23.2.falls_⟩ : disk_Disk).off_), .bool ((⟨r23.2.sure_, ([] : List (Int × disk_sector)), r23.2.off_, true, x1, x2, r23.2.acts_, r23.2.falls_⟩ : disk_Disk).armed_), .int .i64 ((⟨r23.2.sure_, ([] : List (Int × disk_sector)), r23.2.off_, true, x1, x2, r23.2.acts_, r23.2.falls_⟩ : disk_Disk).left_), .int .u64 (((⟨r23.2.sure_, ([] : List (Int × disk_sector)), r23.2.off_, true, x1, x2, r23.2.acts_, r23.2.falls_⟩ : disk_Disk).fall_).Keep), .int .i64 (((⟨r23.2.sure_, ([] : List (Int × disk_sector)), r23.2.off_, true, x1, x2, r23.2.acts_, r23.2.falls_⟩ : disk_Disk).fall_).Tear), .int .i64 ((⟨r23.2.sure_, ([] : List (Int × disk_sector)), r23.2.off_, true, x1, x2, r23.2.acts_, r23.2.falls_⟩ : disk_Disk).acts_), .int .i64 ((⟨r23.2.sure_, ([] : List (Int × disk_sector)), r23.2.off_, true, x1, x2, r23.2.acts_, r23.2.falls_⟩ : disk_Disk).falls_)] 43]) (fun w hs => sat_to [2, 0, 0] 1 rfl hs) rfl (rr_tmp rfl) ⟨r23_p1, r23_c2, rfl, rfl, r23_h3⟩


def F.disk_Disk_Start_1 : Option Int :=
  Option.bind (F.disk_Disk_Size_1) (fun (r21 : Int) => if r21 == 0 then (some (9)) else (none))
set_option maxRecDepth 100000 in
set_option maxHeartbeats 4000000 in
theorem c_disk_Disk_Start_1 (I : Hl) (res : Int) (hF : F.disk_Disk_Start_1 = some res) : Tr Try.prog 13 [.pointer none] [imm I] (fun r H' => r = .int .i64 res ∧ H' = [imm I]) := by
  unfold F.disk_Disk_Start_1 at hF
  refine tr_of_cw (fn := Try.f13) Try.func13 rfl (Nat.le_of_ble_eq_true rfl) 16 rfl fun F0 w0 => ?_
  refine cw_keep [0] (L' := [(0, .pointer none)]) rfl ?_
  refine cw_state (S' := SAT w0 ([imm I] ++ F0)) (fun w hs => hs) ?_
  refine cw_seq ?_
  refine cw_region ?_
  refine ow_vals 1 (j := 1) [0] [(0, .pointer none)] rfl (by kernel_rfl) ?_
  refine ow_end rfl ?_
  refine ew_then ?_
  refine cw_seq ?_
  refine cw_block ?_
  refine cw_seq ?_
  refine cw_region ?_
  refine ow_vals 1 (j := 1) [0, 4] [(0, .pointer none), (4, .pointer none)] rfl (by kernel_rfl) ?_
  obtain ⟨r21, h22, hF⟩ := bind_some hF
  refine ow_pw rfl (pw_call (F := [] ++ F0) rfl rfl rfl rfl rfl rfl rfl (by kernel_rfl) (perm_of_pulls [0] rfl) (c_disk_Disk_Size_1 _ r21 h22) ?_)
  rintro _ _ ⟨rfl, rfl⟩
  refine nw_H (H' := [imm I] ++ F0) rfl (nw_ow ?_)
  refine ow_vals 2 (j := 4) [0, 3] [(0, .pointer none), (3, .bool (r21 == 0))] rfl (by kernel_rfl) ?_
  refine ow_end rfl ?_
  refine ew_then ?_
  rcases if_some hF with ⟨h23, hF⟩ | ⟨h23, hF⟩
  · refine cw_cond_t rfl rfl h23 ?_
    refine cw_seq ?_
    refine cw_region ?_
    refine ow_vals 1 (j := 1) [2] [(2, .int .i64 9)] rfl (by kernel_rfl) ?_
    refine ow_end rfl ?_
    refine ew_then ?_
    refine cw_ret ?_
    refine ew_blk_ret ?_
    refine ew_then_ret ?_
    have hR := Option.some.inj hF
    subst hR
    exact fin1 (H1 := [imm I]) (fun w hs => sat_to [0] 0 rfl hs) rfl (rr_tmp rfl) ⟨rfl, rfl⟩
  · refine cw_cond_f rfl rfl h23 ?_
    refine cw_seq ?_
    refine cw_region ?_
    refine ow_vals 1 (j := 1) [0, 8] [(0, .pointer none), (8, .pointer none)] rfl (by kernel_rfl) ?_
    cases hF


def F.disk_Disk_Up (m0 : disk_Disk) : Option (Bool × disk_Disk) :=
  Option.bind (F.disk_Disk_Size_2 (⟨m0.sure_, ([] : List (Int × disk_sector)), m0.off_, m0.armed_, m0.left_, m0.fall_, m0.acts_, m0.falls_⟩ : disk_Disk)) (fun (r21 : Int) => if decide (r21 > 0) then (some ((!((⟨m0.sure_, ([] : List (Int × disk_sector)), m0.off_, m0.armed_, m0.left_, m0.fall_, m0.acts_, m0.falls_⟩ : disk_Disk).off_), (⟨(⟨m0.sure_, ([] : List (Int × disk_sector)), m0.off_, m0.armed_, m0.left_, m0.fall_, m0.acts_, m0.falls_⟩ : disk_Disk).sure_, ([] : List (Int × disk_sector)), (⟨m0.sure_, ([] : List (Int × disk_sector)), m0.off_, m0.armed_, m0.left_, m0.fall_, m0.acts_, m0.falls_⟩ : disk_Disk).off_, (⟨m0.sure_, ([] : List (Int × disk_sector)), m0.off_, m0.armed_, m0.left_, m0.fall_, m0.acts_, m0.falls_⟩ : disk_Disk).armed_, (⟨m0.sure_, ([] : List (Int × disk_sector)), m0.off_, m0.armed_, m0.left_, m0.fall_, m0.acts_, m0.falls_⟩ : disk_Disk).left_, (⟨m0.sure_, ([] : List (Int × disk_sector)), m0.off_, m0.armed_, m0.left_, m0.fall_, m0.acts_, m0.falls_⟩ : disk_Disk).fall_, (⟨m0.sure_, ([] : List (Int × disk_sector)), m0.off_, m0.armed_, m0.left_, m0.fall_, m0.acts_, m0.falls_⟩ : disk_Disk).acts_, (⟨m0.sure_, ([] : List (Int × disk_sector)), m0.off_, m0.armed_, m0.left_, m0.fall_, m0.acts_, m0.falls_⟩ : disk_Disk).falls_⟩ : disk_Disk)))) else (some ((false, (⟨(⟨m0.sure_, ([] : List (Int × disk_sector)), m0.off_, m0.armed_, m0.left_, m0.fall_, m0.acts_, m0.falls_⟩ : disk_Disk).sure_, ([] : List (Int × disk_sector)), (⟨m0.sure_, ([] : List (Int × disk_sector)), m0.off_, m0.armed_, m0.left_, m0.fall_, m0.acts_, m0.falls_⟩ : disk_Disk).off_, (⟨m0.sure_, ([] : List (Int × disk_sector)), m0.off_, m0.armed_, m0.left_, m0.fall_, m0.acts_, m0.falls_⟩ : disk_Disk).armed_, (⟨m0.sure_, ([] : List (Int × disk_sector)), m0.off_, m0.armed_, m0.left_, m0.fall_, m0.acts_, m0.falls_⟩ : disk_Disk).left_, (⟨m0.sure_, ([] : List (Int × disk_sector)), m0.off_, m0.armed_, m0.left_, m0.fall_, m0.acts_, m0.falls_⟩ : disk_Disk).fall_, (⟨m0.sure_, ([] : List (Int × disk_sector)), m0.off_, m0.armed_, m0.left_, m0.fall_, m0.acts_, m0.falls_⟩ : disk_Disk).acts_, (⟨m0.sure_, ([] : List (Int × disk_sector)), m0.off_, m0.armed_, m0.left_, m0.fall_, m0.acts_, m0.falls_⟩ : disk_Disk).falls_⟩ : disk_Disk)))))
set_option maxRecDepth 100000 in
set_option maxHeartbeats 4000000 in
theorem c_disk_Disk_Up (I : Hl) (m0 : disk_Disk) (p0 : Option Addr) (c0 : Nat) (b0 : Nat) (res : Bool × disk_Disk) (hF : F.disk_Disk_Up m0 = some res) (hr0 : ro I e_disk_sector p0 c0 m0.sure_) : Tr Try.prog 17 [.pointer (some ⟨b0, 0, none⟩)] [imm I, pt b0 #[.slice p0 m0.sure_.length c0, .map none, .bool m0.off_, .bool m0.armed_, .int .i64 m0.left_, .int .u64 m0.fall_.Keep, .int .i64 m0.fall_.Tear, .int .i64 m0.acts_, .int .i64 m0.falls_] 43] (fun r H' => ∃ (pq1 : Option Addr), ∃ (cq2 : Nat), r = .bool res.1 ∧ H' = [imm I, pt b0 #[.slice pq1 res.2.sure_.length cq2, .map none, .bool res.2.off_, .bool res.2.armed_, .int .i64 res.2.left_, .int .u64 res.2.fall_.Keep, .int .i64 res.2.fall_.Tear, .int .i64 res.2.acts_, .int .i64 res.2.falls_] 43] ∧ ro I e_disk_sector pq1 cq2 res.2.sure_) := by
  unfold F.disk_Disk_Up at hF
  refine tr_of_cw (fn := Try.f17) Try.func17 rfl (Nat.le_of_ble_eq_true rfl) 13 rfl fun F0 w0 => ?_
  refine cw_keep [0] (L' := [(0, .pointer (some ⟨b0, 0, none⟩))]) rfl ?_
  refine cw_state (S' := SAT w0 ([imm I, pt b0 #[.slice p0 m0.sure_.length c0, .map none, .bool m0.off_, .bool m0.armed_, .int .i64 m0.left_, .int .u64 m0.fall_.Keep, .int .i64 m0.fall_.Tear, .int .i64 m0.acts_, .int .i64 m0.falls_] 43] ++ F0)) (fun w hs => hs) ?_
  refine cw_seq ?_
  refine cw_region ?_
  refine ow_vals 1 (j := 1) [0] [(0, .pointer (some ⟨b0, 0, none⟩))] rfl (by kernel_rfl) ?_
  refine ow_end rfl ?_
  refine ew_then ?_
  refine cw_seq ?_
  refine cw_region ?_
  refine ow_vals 1 (j := 1) [0, 3] [(0, .pointer (some ⟨b0, 0, none⟩)), (3, .pointer (some ⟨b0, 0, none⟩))] rfl (by kernel_rfl) ?_
  obtain ⟨r21, h22, hF⟩ := bind_some hF
  refine ow_pw rfl (pw_call (F := [] ++ F0) rfl rfl rfl rfl rfl rfl rfl (by kernel_rfl) (perm_of_pulls [0, 0] rfl) (c_disk_Disk_Size_2 _ (⟨m0.sure_, ([] : List (Int × disk_sector)), m0.off_, m0.armed_, m0.left_, m0.fall_, m0.acts_, m0.falls_⟩ : disk_Disk) p0 c0 b0 r21 h22 hr0) ?_)
  rintro _ _ ⟨rfl, rfl⟩
  refine nw_H (H' := [imm I, pt b0 #[.slice p0 ((⟨m0.sure_, ([] : List (Int × disk_sector)), m0.off_, m0.armed_, m0.left_, m0.fall_, m0.acts_, m0.falls_⟩ : disk_Disk).sure_).length c0, .map none, .bool ((⟨m0.sure_, ([] : List (Int × disk_sector)), m0.off_, m0.armed_, m0.left_, m0.fall_, m0.acts_, m0.falls_⟩ : disk_Disk).off_), .bool ((⟨m0.sure_, ([] : List (Int × disk_sector)), m0.off_, m0.armed_, m0.left_, m0.fall_, m0.acts_, m0.falls_⟩ : disk_Disk).armed_), .int .i64 ((⟨m0.sure_, ([] : List (Int × disk_sector)), m0.off_, m0.armed_, m0.left_, m0.fall_, m0.acts_, m0.falls_⟩ : disk_Disk).left_), .int .u64 ((⟨m0.sure_, ([] : List (Int × disk_sector)), m0.off_, m0.armed_, m0.left_, m0.fall_, m0.acts_, m0.falls_⟩ : disk_Disk).fall_.Keep), .int .i64 ((⟨m0.sure_, ([] : List (Int × disk_sector)), m0.off_, m0.armed_, m0.left_, m0.fall_, m0.acts_, m0.falls_⟩ : disk_Disk).fall_.Tear), .int .i64 ((⟨m0.sure_, ([] : List (Int × disk_sector)), m0.off_, m0.armed_, m0.left_, m0.fall_, m0.acts_, m0.falls_⟩ : disk_Disk).acts_), .int .i64 ((⟨m0.sure_, ([] : List (Int × disk_sector)), m0.off_, m0.armed_, m0.left_, m0.fall_, m0.acts_, m0.falls_⟩ : disk_Disk).falls_)] 43] ++ F0) rfl (nw_ow ?_)
  refine ow_vals 2 (j := 4) [0, 6] [(0, .pointer (some ⟨b0, 0, none⟩)), (6, .bool (decide (r21 > 0)))] rfl (by kernel_rfl) ?_
  rcases if_some hF with ⟨h23, hF⟩ | ⟨h23, hF⟩
  · refine ow_slots (L' := [(0, .pointer (some ⟨b0, 0, none⟩)), (6, .bool true)]) (by rw [h23]) ?_
    refine ow_vals 3 (j := 7) [6, 9] [(6, .bool true), (9, .pointer (some ⟨b0, 2, none⟩))] rfl (by kernel_rfl) ?_
    refine ow_pw rfl (pw_quiet (v := .bool ((⟨m0.sure_, ([] : List (Int × disk_sector)), m0.off_, m0.armed_, m0.left_, m0.fall_, m0.acts_, m0.falls_⟩ : disk_Disk).off_)) rfl rfl rfl rfl (q_load 1 rfl rfl rfl (by kernel_rfl)) (nw_ow ?_))
    refine ow_vals 3 (j := 11) [2] [(2, .bool (!((⟨m0.sure_, ([] : List (Int × disk_sector)), m0.off_, m0.armed_, m0.left_, m0.fall_, m0.acts_, m0.falls_⟩ : disk_Disk).off_)))] rfl (by kernel_rfl) ?_
    refine ow_end rfl ?_
    refine ew_then ?_
    refine cw_ret ?_
    have hR := Option.some.inj hF
    subst hR
    exact fin1 (H1 := [imm I, pt b0 #[.slice p0 ((⟨(⟨m0.sure_, ([] : List (Int × disk_sector)), m0.off_, m0.armed_, m0.left_, m0.fall_, m0.acts_, m0.falls_⟩ : disk_Disk).sure_, ([] : List (Int × disk_sector)), (⟨m0.sure_, ([] : List (Int × disk_sector)), m0.off_, m0.armed_, m0.left_, m0.fall_, m0.acts_, m0.falls_⟩ : disk_Disk).off_, (⟨m0.sure_, ([] : List (Int × disk_sector)), m0.off_, m0.armed_, m0.left_, m0.fall_, m0.acts_, m0.falls_⟩ : disk_Disk).armed_, (⟨m0.sure_, ([] : List (Int × disk_sector)), m0.off_, m0.armed_, m0.left_, m0.fall_, m0.acts_, m0.falls_⟩ : disk_Disk).left_, (⟨m0.sure_, ([] : List (Int × disk_sector)), m0.off_, m0.armed_, m0.left_, m0.fall_, m0.acts_, m0.falls_⟩ : disk_Disk).fall_, (⟨m0.sure_, ([] : List (Int × disk_sector)), m0.off_, m0.armed_, m0.left_, m0.fall_, m0.acts_, m0.falls_⟩ : disk_Disk).acts_, (⟨m0.sure_, ([] : List (Int × disk_sector)), m0.off_, m0.armed_, m0.left_, m0.fall_, m0.acts_, m0.falls_⟩ : disk_Disk).falls_⟩ : disk_Disk).sure_).length c0, .map none, .bool ((⟨(⟨m0.sure_, ([] : List (Int × disk_sector)), m0.off_, m0.armed_, m0.left_, m0.fall_, m0.acts_, m0.falls_⟩ : disk_Disk).sure_, ([] : List (Int × disk_sector)), (⟨m0.sure_, ([] : List (Int × disk_sector)), m0.off_, m0.armed_, m0.left_, m0.fall_, m0.acts_, m0.falls_⟩ : disk_Disk).off_, (⟨m0.sure_, ([] : List (Int × disk_sector)), m0.off_, m0.armed_, m0.left_, m0.fall_, m0.acts_, m0.falls_⟩ : disk_Disk).armed_, (⟨m0.sure_, ([] : List (Int × disk_sector)), m0.off_, m0.armed_, m0.left_, m0.fall_, m0.acts_, m0.falls_⟩ : disk_Disk).left_, (⟨m0.sure_, ([] : List (Int × disk_sector)), m0.off_, m0.armed_, m0.left_, m0.fall_, m0.acts_, m0.falls_⟩ : disk_Disk).fall_, (⟨m0.sure_, ([] : List (Int × disk_sector)), m0.off_, m0.armed_, m0.left_, m0.fall_, m0.acts_, m0.falls_⟩ : disk_Disk).acts_, (⟨m0.sure_, ([] : List (Int × disk_sector)), m0.off_, m0.armed_, m0.left_, m0.fall_, m0.acts_, m0.falls_⟩ : disk_Disk).falls_⟩ : disk_Disk).off_), .bool ((⟨(⟨m0.sure_, ([] : List (Int × disk_sector)), m0.off_, m0.armed_, m0.left_, m0.fall_, m0.acts_, m0.falls_⟩ : disk_Disk).sure_, ([] : List (Int × disk_sector)), (⟨m0.sure_, ([] : List (Int × disk_sector)), m0.off_, m0.armed_, m0.left_, m0.fall_, m0.acts_, m0.falls_⟩ : disk_Disk).off_, (⟨m0.sure_, ([] : List (Int × disk_sector)), m0.off_, m0.armed_, m0.left_, m0.fall_, m0.acts_, m0.falls_⟩ : disk_Disk).armed_, (⟨m0.sure_, ([] : List (Int × disk_sector)), m0.off_, m0.armed_, m0.left_, m0.fall_, m0.acts_, m0.falls_⟩ : disk_Disk).left_, (⟨m0.sure_, ([] : List (Int × disk_sector)), m0.off_, m0.armed_, m0.left_, m0.fall_, m0.acts_, m0.falls_⟩ : disk_Disk).fall_, (⟨m0.sure_, ([] : List (Int × disk_sector)), m0.off_, m0.armed_, m0.left_, m0.fall_, m0.acts_, m0.falls_⟩ : disk_Disk).acts_, (⟨m0.sure_, ([] : List (Int × disk_sector)), m0.off_, m0.armed_, m0.left_, m0.fall_, m0.acts_, m0.falls_⟩ : disk_Disk).falls_⟩ : disk_Disk).armed_), .int .i64 ((⟨(⟨m0.sure_, ([] : List (Int × disk_sector)), m0.off_, m0.armed_, m0.left_, m0.fall_, m0.acts_, m0.falls_⟩ : disk_Disk).sure_, ([] : List (Int × disk_sector)), (⟨m0.sure_, ([] : List (Int × disk_sector)), m0.off_, m0.armed_, m0.left_, m0.fall_, m0.acts_, m0.falls_⟩ : disk_Disk).off_, (⟨m0.sure_, ([] : List (Int × disk_sector)), m0.off_, m0.armed_, m0.left_, m0.fall_, m0.acts_, m0.falls_⟩ : disk_Disk).armed_, (⟨m0.sure_, ([] : List (Int × disk_sector)), m0.off_, m0.armed_, m0.left_, m0.fall_, m0.acts_, m0.falls_⟩ : disk_Disk).left_, (⟨m0.sure_, ([] : List (Int × disk_sector)), m0.off_, m0.armed_, m0.left_, m0.fall_, m0.acts_, m0.falls_⟩ : disk_Disk).fall_, (⟨m0.sure_, ([] : List (Int × disk_sector)), m0.off_, m0.armed_, m0.left_, m0.fall_, m0.acts_, m0.falls_⟩ : disk_Disk).acts_, (⟨m0.sure_, ([] : List (Int × disk_sector)), m0.off_, m0.armed_, m0.left_, m0.fall_, m0.acts_, m0.falls_⟩ : disk_Disk).falls_⟩ : disk_Disk).left_), .int .u64 (((⟨(⟨m0.sure_, ([] : List (Int × disk_sector)), m0.off_, m0.armed_, m0.left_, m0.fall_, m0.acts_, m0.falls_⟩ : disk_Disk).sure_, ([] : List (Int × disk_sector)), (⟨m0.sure_, ([] : List (Int × disk_sector)), m0.off_, m0.armed_, m0.left_, m0.fall_, m0.acts_, m0.falls_⟩ : disk_Disk).off_, (⟨m0.sure_, ([] : List (Int × disk_sector)), m0.off_, m0.armed_, m0.left_, m0.fall_, m0.acts_, m0.falls_⟩ : disk_Disk).armed_, (⟨m0.sure_, ([] : List (Int × disk_sector)), m0.off_, m0.armed_, m0.left_, m0.fall_, m0.acts_, m0.falls_⟩ : disk_Disk).left_, (⟨m0.sure_, ([] : List (Int × disk_sector)), m0.off_, m0.armed_, m0.left_, m0.fall_, m0.acts_, m0.falls_⟩ : disk_Disk).fall_, (⟨m0.sure_, ([] : List (Int × disk_sector)), m0.off_, m0.armed_, m0.left_, m0.fall_, m0.acts_, m0.falls_⟩ : disk_Disk).acts_, (⟨m0.sure_, ([] : List (Int × disk_sector)), m0.off_, m0.armed_, m0.left_, m0.fall_, m0.acts_, m0.falls_⟩ : disk_Disk).falls_⟩ : disk_Disk).fall_).Keep), .int .i64 (((⟨(⟨m0.sure_, ([] : List (Int × disk_sector)), m0.off_, m0.armed_, m0.left_, m0.fall_, m0.acts_, m0.falls_⟩ : disk_Disk).sure_, ([] : List (Int × disk_sector)), (⟨m0.sure_, ([] : List (Int × disk_sector)), m0.off_, m0.armed_, m0.left_, m0.fall_, m0.acts_, m0.falls_⟩ : disk_Disk).off_, (⟨m0.sure_, ([] : List (Int × disk_sector)), m0.off_, m0.armed_, m0.left_, m0.fall_, m0.acts_, m0.falls_⟩ : disk_Disk).armed_, (⟨m0.sure_, ([] : List (Int × disk_sector)), m0.off_, m0.armed_, m0.left_, m0.fall_, m0.acts_, m0.falls_⟩ : disk_Disk).left_, (⟨m0.sure_, ([] : List (Int × disk_sector)), m0.off_, m0.armed_, m0.left_, m0.fall_, m0.acts_, m0.falls_⟩ : disk_Disk).fall_, (⟨m0.sure_, ([] : List (Int × disk_sector)), m0.off_, m0.armed_, m0.left_, m0.fall_, m0.acts_, m0.falls_⟩ : disk_Disk).acts_, (⟨m0.sure_, ([] : List (Int × disk_sector)), m0.off_, m0.armed_, m0.left_, m0.fall_, m0.acts_, m0.falls_⟩ : disk_Disk).falls_⟩ : disk_Disk).fall_).Tear), .int .i64 ((⟨(⟨m0.sure_, ([] : List (Int × disk_sector)), m0.off_, m0.armed_, m0.left_, m0.fall_, m0.acts_, m0.falls_⟩ : disk_Disk).sure_, ([] : List (Int × disk_sector)), (⟨m0.sure_, ([] : List (Int × disk_sector)), m0.off_, m0.armed_, m0.left_, m0.fall_, m0.acts_, m0.falls_⟩ : disk_Disk).off_, (⟨m0.sure_, ([] : List (Int × disk_sector)), m0.off_, m0.armed_, m0.left_, m0.fall_, m0.acts_, m0.falls_⟩ : disk_Disk).armed_, (⟨m0.sure_, ([] : List (Int × disk_sector)), m0.off_, m0.armed_, m0.left_, m0.fall_, m0.acts_, m0.falls_⟩ : disk_Disk).left_, (⟨m0.sure_, ([] : List (Int × disk_sector)), m0.off_, m0.armed_, m0.left_, m0.fall_, m0.acts_, m0.falls_⟩ : disk_Disk).fall_, (⟨m0.sure_, ([] : List (Int × disk_sector)), m0.off_, m0.armed_, m0.left_, m0.fall_, m0.acts_, m0.falls_⟩ : disk_Disk).acts_, (⟨m0.sure_, ([] : List (Int × disk_sector)), m0.off_, m0.armed_, m0.left_, m0.fall_, m0.acts_, m0.falls_⟩ : disk_Disk).falls_⟩ : disk_Disk).acts_), .int .i64 ((⟨(⟨m0.sure_, ([] : List (Int × disk_sector)), m0.off_, m0.armed_, m0.left_, m0.fall_, m0.acts_, m0.falls_⟩ : disk_Disk).sure_, ([] : List (Int × disk_sector)), (⟨m0.sure_, ([] : List (Int × disk_sector)), m0.off_, m0.armed_, m0.left_, m0.fall_, m0.acts_, m0.falls_⟩ : disk_Disk).off_, (⟨m0.sure_, ([] : List (Int × disk_sector)), m0.off_, m0.armed_, m0.left_, m0.fall_, m0.acts_, m0.falls_⟩ : disk_Disk).armed_, (⟨m0.sure_, ([] : List (Int × disk_sector)), m0.off_, m0.armed_, m0.left_, m0.fall_, m0.acts_, m0.falls_⟩ : disk_Disk).left_, (⟨m0.sure_, ([] : List (Int × disk_sector)), m0.off_, m0.armed_, m0.left_, m0.fall_, m0.acts_, m0.falls_⟩ : disk_Disk).fall_, (⟨m0.sure_, ([] : List (Int × disk_sector)), m0.off_, m0.armed_, m0.left_, m0.fall_, m0.acts_, m0.falls_⟩ : disk_Disk).acts_, (⟨m0.sure_, ([] : List (Int × disk_sector)), m0.off_, m0.armed_, m0.left_, m0.fall_, m0.acts_, m0.falls_⟩ : disk_Disk).falls_⟩ : disk_Disk).falls_)] 43]) (fun w hs => sat_to [0, 0] 0 rfl hs) rfl (rr_tmp rfl) ⟨p0, c0, rfl, rfl, hr0⟩
  · refine ow_slots (L' := [(0, .pointer (some ⟨b0, 0, none⟩)), (6, .bool false)]) (by rw [h23]) ?_
    refine ow_vals 7 (j := 11) [2] [(2, .bool false)] rfl (by kernel_rfl) ?_
    refine ow_end rfl ?_
    refine ew_then ?_
    refine cw_ret ?_
    have hR := Option.some.inj hF
    subst hR
    exact fin1 (H1 := [imm I, pt b0 #[.slice p0 ((⟨(⟨m0.sure_, ([] : List (Int × disk_sector)), m0.off_, m0.armed_, m0.left_, m0.fall_, m0.acts_, m0.falls_⟩ : disk_Disk).sure_, ([] : List (Int × disk_sector)), (⟨m0.sure_, ([] : List (Int × disk_sector)), m0.off_, m0.armed_, m0.left_, m0.fall_, m0.acts_, m0.falls_⟩ : disk_Disk).off_, (⟨m0.sure_, ([] : List (Int × disk_sector)), m0.off_, m0.armed_, m0.left_, m0.fall_, m0.acts_, m0.falls_⟩ : disk_Disk).armed_, (⟨m0.sure_, ([] : List (Int × disk_sector)), m0.off_, m0.armed_, m0.left_, m0.fall_, m0.acts_, m0.falls_⟩ : disk_Disk).left_, (⟨m0.sure_, ([] : List (Int × disk_sector)), m0.off_, m0.armed_, m0.left_, m0.fall_, m0.acts_, m0.falls_⟩ : disk_Disk).fall_, (⟨m0.sure_, ([] : List (Int × disk_sector)), m0.off_, m0.armed_, m0.left_, m0.fall_, m0.acts_, m0.falls_⟩ : disk_Disk).acts_, (⟨m0.sure_, ([] : List (Int × disk_sector)), m0.off_, m0.armed_, m0.left_, m0.fall_, m0.acts_, m0.falls_⟩ : disk_Disk).falls_⟩ : disk_Disk).sure_).length c0, .map none, .bool ((⟨(⟨m0.sure_, ([] : List (Int × disk_sector)), m0.off_, m0.armed_, m0.left_, m0.fall_, m0.acts_, m0.falls_⟩ : disk_Disk).sure_, ([] : List (Int × disk_sector)), (⟨m0.sure_, ([] : List (Int × disk_sector)), m0.off_, m0.armed_, m0.left_, m0.fall_, m0.acts_, m0.falls_⟩ : disk_Disk).off_, (⟨m0.sure_, ([] : List (Int × disk_sector)), m0.off_, m0.armed_, m0.left_, m0.fall_, m0.acts_, m0.falls_⟩ : disk_Disk).armed_, (⟨m0.sure_, ([] : List (Int × disk_sector)), m0.off_, m0.armed_, m0.left_, m0.fall_, m0.acts_, m0.falls_⟩ : disk_Disk).left_, (⟨m0.sure_, ([] : List (Int × disk_sector)), m0.off_, m0.armed_, m0.left_, m0.fall_, m0.acts_, m0.falls_⟩ : disk_Disk).fall_, (⟨m0.sure_, ([] : List (Int × disk_sector)), m0.off_, m0.armed_, m0.left_, m0.fall_, m0.acts_, m0.falls_⟩ : disk_Disk).acts_, (⟨m0.sure_, ([] : List (Int × disk_sector)), m0.off_, m0.armed_, m0.left_, m0.fall_, m0.acts_, m0.falls_⟩ : disk_Disk).falls_⟩ : disk_Disk).off_), .bool ((⟨(⟨m0.sure_, ([] : List (Int × disk_sector)), m0.off_, m0.armed_, m0.left_, m0.fall_, m0.acts_, m0.falls_⟩ : disk_Disk).sure_, ([] : List (Int × disk_sector)), (⟨m0.sure_, ([] : List (Int × disk_sector)), m0.off_, m0.armed_, m0.left_, m0.fall_, m0.acts_, m0.falls_⟩ : disk_Disk).off_, (⟨m0.sure_, ([] : List (Int × disk_sector)), m0.off_, m0.armed_, m0.left_, m0.fall_, m0.acts_, m0.falls_⟩ : disk_Disk).armed_, (⟨m0.sure_, ([] : List (Int × disk_sector)), m0.off_, m0.armed_, m0.left_, m0.fall_, m0.acts_, m0.falls_⟩ : disk_Disk).left_, (⟨m0.sure_, ([] : List (Int × disk_sector)), m0.off_, m0.armed_, m0.left_, m0.fall_, m0.acts_, m0.falls_⟩ : disk_Disk).fall_, (⟨m0.sure_, ([] : List (Int × disk_sector)), m0.off_, m0.armed_, m0.left_, m0.fall_, m0.acts_, m0.falls_⟩ : disk_Disk).acts_, (⟨m0.sure_, ([] : List (Int × disk_sector)), m0.off_, m0.armed_, m0.left_, m0.fall_, m0.acts_, m0.falls_⟩ : disk_Disk).falls_⟩ : disk_Disk).armed_), .int .i64 ((⟨(⟨m0.sure_, ([] : List (Int × disk_sector)), m0.off_, m0.armed_, m0.left_, m0.fall_, m0.acts_, m0.falls_⟩ : disk_Disk).sure_, ([] : List (Int × disk_sector)), (⟨m0.sure_, ([] : List (Int × disk_sector)), m0.off_, m0.armed_, m0.left_, m0.fall_, m0.acts_, m0.falls_⟩ : disk_Disk).off_, (⟨m0.sure_, ([] : List (Int × disk_sector)), m0.off_, m0.armed_, m0.left_, m0.fall_, m0.acts_, m0.falls_⟩ : disk_Disk).armed_, (⟨m0.sure_, ([] : List (Int × disk_sector)), m0.off_, m0.armed_, m0.left_, m0.fall_, m0.acts_, m0.falls_⟩ : disk_Disk).left_, (⟨m0.sure_, ([] : List (Int × disk_sector)), m0.off_, m0.armed_, m0.left_, m0.fall_, m0.acts_, m0.falls_⟩ : disk_Disk).fall_, (⟨m0.sure_, ([] : List (Int × disk_sector)), m0.off_, m0.armed_, m0.left_, m0.fall_, m0.acts_, m0.falls_⟩ : disk_Disk).acts_, (⟨m0.sure_, ([] : List (Int × disk_sector)), m0.off_, m0.armed_, m0.left_, m0.fall_, m0.acts_, m0.falls_⟩ : disk_Disk).falls_⟩ : disk_Disk).left_), .int .u64 (((⟨(⟨m0.sure_, ([] : List (Int × disk_sector)), m0.off_, m0.armed_, m0.left_, m0.fall_, m0.acts_, m0.falls_⟩ : disk_Disk).sure_, ([] : List (Int × disk_sector)), (⟨m0.sure_, ([] : List (Int × disk_sector)), m0.off_, m0.armed_, m0.left_, m0.fall_, m0.acts_, m0.falls_⟩ : disk_Disk).off_, (⟨m0.sure_, ([] : List (Int × disk_sector)), m0.off_, m0.armed_, m0.left_, m0.fall_, m0.acts_, m0.falls_⟩ : disk_Disk).armed_, (⟨m0.sure_, ([] : List (Int × disk_sector)), m0.off_, m0.armed_, m0.left_, m0.fall_, m0.acts_, m0.falls_⟩ : disk_Disk).left_, (⟨m0.sure_, ([] : List (Int × disk_sector)), m0.off_, m0.armed_, m0.left_, m0.fall_, m0.acts_, m0.falls_⟩ : disk_Disk).fall_, (⟨m0.sure_, ([] : List (Int × disk_sector)), m0.off_, m0.armed_, m0.left_, m0.fall_, m0.acts_, m0.falls_⟩ : disk_Disk).acts_, (⟨m0.sure_, ([] : List (Int × disk_sector)), m0.off_, m0.armed_, m0.left_, m0.fall_, m0.acts_, m0.falls_⟩ : disk_Disk).falls_⟩ : disk_Disk).fall_).Keep), .int .i64 (((⟨(⟨m0.sure_, ([] : List (Int × disk_sector)), m0.off_, m0.armed_, m0.left_, m0.fall_, m0.acts_, m0.falls_⟩ : disk_Disk).sure_, ([] : List (Int × disk_sector)), (⟨m0.sure_, ([] : List (Int × disk_sector)), m0.off_, m0.armed_, m0.left_, m0.fall_, m0.acts_, m0.falls_⟩ : disk_Disk).off_, (⟨m0.sure_, ([] : List (Int × disk_sector)), m0.off_, m0.armed_, m0.left_, m0.fall_, m0.acts_, m0.falls_⟩ : disk_Disk).armed_, (⟨m0.sure_, ([] : List (Int × disk_sector)), m0.off_, m0.armed_, m0.left_, m0.fall_, m0.acts_, m0.falls_⟩ : disk_Disk).left_, (⟨m0.sure_, ([] : List (Int × disk_sector)), m0.off_, m0.armed_, m0.left_, m0.fall_, m0.acts_, m0.falls_⟩ : disk_Disk).fall_, (⟨m0.sure_, ([] : List (Int × disk_sector)), m0.off_, m0.armed_, m0.left_, m0.fall_, m0.acts_, m0.falls_⟩ : disk_Disk).acts_, (⟨m0.sure_, ([] : List (Int × disk_sector)), m0.off_, m0.armed_, m0.left_, m0.fall_, m0.acts_, m0.falls_⟩ : disk_Disk).falls_⟩ : disk_Disk).fall_).Tear), .int .i64 ((⟨(⟨m0.sure_, ([] : List (Int × disk_sector)), m0.off_, m0.armed_, m0.left_, m0.fall_, m0.acts_, m0.falls_⟩ : disk_Disk).sure_, ([] : List (Int × disk_sector)), (⟨m0.sure_, ([] : List (Int × disk_sector)), m0.off_, m0.armed_, m0.left_, m0.fall_, m0.acts_, m0.falls_⟩ : disk_Disk).off_, (⟨m0.sure_, ([] : List (Int × disk_sector)), m0.off_, m0.armed_, m0.left_, m0.fall_, m0.acts_, m0.falls_⟩ : disk_Disk).armed_, (⟨m0.sure_, ([] : List (Int × disk_sector)), m0.off_, m0.armed_, m0.left_, m0.fall_, m0.acts_, m0.falls_⟩ : disk_Disk).left_, (⟨m0.sure_, ([] : List (Int × disk_sector)), m0.off_, m0.armed_, m0.left_, m0.fall_, m0.acts_, m0.falls_⟩ : disk_Disk).fall_, (⟨m0.sure_, ([] : List (Int × disk_sector)), m0.off_, m0.armed_, m0.left_, m0.fall_, m0.acts_, m0.falls_⟩ : disk_Disk).acts_, (⟨m0.sure_, ([] : List (Int × disk_sector)), m0.off_, m0.armed_, m0.left_, m0.fall_, m0.acts_, m0.falls_⟩ : disk_Disk).falls_⟩ : disk_Disk).acts_), .int .i64 ((⟨(⟨m0.sure_, ([] : List (Int × disk_sector)), m0.off_, m0.armed_, m0.left_, m0.fall_, m0.acts_, m0.falls_⟩ : disk_Disk).sure_, ([] : List (Int × disk_sector)), (⟨m0.sure_, ([] : List (Int × disk_sector)), m0.off_, m0.armed_, m0.left_, m0.fall_, m0.acts_, m0.falls_⟩ : disk_Disk).off_, (⟨m0.sure_, ([] : List (Int × disk_sector)), m0.off_, m0.armed_, m0.left_, m0.fall_, m0.acts_, m0.falls_⟩ : disk_Disk).armed_, (⟨m0.sure_, ([] : List (Int × disk_sector)), m0.off_, m0.armed_, m0.left_, m0.fall_, m0.acts_, m0.falls_⟩ : disk_Disk).left_, (⟨m0.sure_, ([] : List (Int × disk_sector)), m0.off_, m0.armed_, m0.left_, m0.fall_, m0.acts_, m0.falls_⟩ : disk_Disk).fall_, (⟨m0.sure_, ([] : List (Int × disk_sector)), m0.off_, m0.armed_, m0.left_, m0.fall_, m0.acts_, m0.falls_⟩ : disk_Disk).acts_, (⟨m0.sure_, ([] : List (Int × disk_sector)), m0.off_, m0.armed_, m0.left_, m0.fall_, m0.acts_, m0.falls_⟩ : disk_Disk).falls_⟩ : disk_Disk).falls_)] 43]) (fun w hs => sat_to [0, 0] 0 rfl hs) rfl (rr_tmp rfl) ⟨p0, c0, rfl, rfl, hr0⟩


def F.disk_Disk_Image : Option ByteArray :=
  Option.bind (F.disk_Disk_Size_1) (fun (r21 : Int) => if r21 == 0 then (some ((ByteArray.mk #[]))) else (none))
set_option maxRecDepth 100000 in
set_option maxHeartbeats 4000000 in
theorem c_disk_Disk_Image (I : Hl) (res : ByteArray) (hF : F.disk_Disk_Image = some res) : Tr Try.prog 18 [.pointer none] [imm I] (fun r H' => r = .string res ∧ H' = [imm I]) := by
  unfold F.disk_Disk_Image at hF
  refine tr_of_cw (fn := Try.f18) Try.func18 rfl (Nat.le_of_ble_eq_true rfl) 23 rfl fun F0 w0 => ?_
  refine cw_keep [0] (L' := [(0, .pointer none)]) rfl ?_
  refine cw_state (S' := SAT w0 ([imm I] ++ F0)) (fun w hs => hs) ?_
  refine cw_seq ?_
  refine cw_region ?_
  refine ow_vals 1 (j := 1) [0] [(0, .pointer none)] rfl (by kernel_rfl) ?_
  refine ow_end rfl ?_
  refine ew_then ?_
  refine cw_seq ?_
  refine cw_seq ?_
  refine cw_region ?_
  refine ow_vals 1 (j := 1) [0, 6] [(0, .pointer none), (6, .pointer none)] rfl (by kernel_rfl) ?_
  obtain ⟨r21, h22, hF⟩ := bind_some hF
  refine ow_pw rfl (pw_call (F := [] ++ F0) rfl rfl rfl rfl rfl rfl rfl (by kernel_rfl) (perm_of_pulls [0] rfl) (c_disk_Disk_Size_1 _ r21 h22) ?_)
  rintro _ _ ⟨rfl, rfl⟩
  refine nw_H (H' := [imm I] ++ F0) rfl (nw_ow ?_)
  refine ow_vals 1 (j := 3) [0, 8] [(0, .pointer none), (8, .bool (r21 == 0))] rfl (by kernel_rfl) ?_
  refine ow_end rfl ?_
  refine ew_then ?_
  rcases if_some hF with ⟨h23, hF⟩ | ⟨h23, hF⟩
  · refine cw_cond_t rfl rfl h23 ?_
    refine cw_seq ?_
    refine cw_region ?_
    refine ow_vals 1 (j := 1) [2] [(2, .string (ByteArray.mk #[]))] rfl (by kernel_rfl) ?_
    refine ow_end rfl ?_
    refine ew_then ?_
    refine cw_ret ?_
    refine ew_then_ret ?_
    have hR := Option.some.inj hF
    subst hR
    exact fin1 (H1 := [imm I]) (fun w hs => sat_to [0] 0 rfl hs) rfl (rr_tmp rfl) ⟨rfl, rfl⟩
  · refine cw_cond_f rfl rfl h23 ?_
    refine cw_skip ?_
    refine ew_then ?_
    refine cw_seq ?_
    refine cw_region ?_
    refine ow_pw rfl (pw_alloc (cs := #[.pointer none, .slice none 0 0]) rfl rfl rfl rfl rfl (by kernel_rfl) fun b24 => nw_state (S' := SAT w0 ([bld 57 5 b24 ByteArray.empty, imm I] ++ F0)) (fun w hs => bld_new hs) (nw_ow ?_))
    refine ow_end rfl ?_
    refine ew_then ?_
    refine cw_seq ?_
    refine cw_seq ?_
    refine cw_region ?_
    refine ow_vals 1 (j := 1) [3, 9] [(3, .pointer (some ⟨b24, 0, none⟩)), (9, .pointer none)] rfl (by kernel_rfl) ?_
    cases hF


def F.disk_Disk_Stamp.r1 (x1 : Int) (m0 : disk_Disk) : Option (Int × disk_Disk) :=
  Option.bind (at_ ((⟨m0.sure_, ([] : List (Int × disk_sector)), m0.off_, m0.armed_, m0.left_, m0.fall_, m0.acts_, m0.falls_⟩ : disk_Disk).sure_) x1) (fun (y26 : disk_sector) => some ((y26.at_, (⟨(⟨m0.sure_, ([] : List (Int × disk_sector)), m0.off_, m0.armed_, m0.left_, m0.fall_, m0.acts_, m0.falls_⟩ : disk_Disk).sure_, ([] : List (Int × disk_sector)), (⟨m0.sure_, ([] : List (Int × disk_sector)), m0.off_, m0.armed_, m0.left_, m0.fall_, m0.acts_, m0.falls_⟩ : disk_Disk).off_, (⟨m0.sure_, ([] : List (Int × disk_sector)), m0.off_, m0.armed_, m0.left_, m0.fall_, m0.acts_, m0.falls_⟩ : disk_Disk).armed_, (⟨m0.sure_, ([] : List (Int × disk_sector)), m0.off_, m0.armed_, m0.left_, m0.fall_, m0.acts_, m0.falls_⟩ : disk_Disk).left_, (⟨m0.sure_, ([] : List (Int × disk_sector)), m0.off_, m0.armed_, m0.left_, m0.fall_, m0.acts_, m0.falls_⟩ : disk_Disk).fall_, (⟨m0.sure_, ([] : List (Int × disk_sector)), m0.off_, m0.armed_, m0.left_, m0.fall_, m0.acts_, m0.falls_⟩ : disk_Disk).acts_, (⟨m0.sure_, ([] : List (Int × disk_sector)), m0.off_, m0.armed_, m0.left_, m0.fall_, m0.acts_, m0.falls_⟩ : disk_Disk).falls_⟩ : disk_Disk))))
def F.disk_Disk_Stamp (x1 : Int) (m0 : disk_Disk) : Option (Int × disk_Disk) :=
  thru (if decide (x1 < 0) then (some (.inr ((0, (⟨m0.sure_, ([] : List (Int × disk_sector)), m0.off_, m0.armed_, m0.left_, m0.fall_, m0.acts_, m0.falls_⟩ : disk_Disk))))) else (Option.bind (F.disk_Disk_Size_2 (⟨m0.sure_, ([] : List (Int × disk_sector)), m0.off_, m0.armed_, m0.left_, m0.fall_, m0.acts_, m0.falls_⟩ : disk_Disk)) (fun (r23 : Int) => if decide (x1 ≥ r23) then (some (.inr ((0, (⟨(⟨m0.sure_, ([] : List (Int × disk_sector)), m0.off_, m0.armed_, m0.left_, m0.fall_, m0.acts_, m0.falls_⟩ : disk_Disk).sure_, ([] : List (Int × disk_sector)), (⟨m0.sure_, ([] : List (Int × disk_sector)), m0.off_, m0.armed_, m0.left_, m0.fall_, m0.acts_, m0.falls_⟩ : disk_Disk).off_, (⟨m0.sure_, ([] : List (Int × disk_sector)), m0.off_, m0.armed_, m0.left_, m0.fall_, m0.acts_, m0.falls_⟩ : disk_Disk).armed_, (⟨m0.sure_, ([] : List (Int × disk_sector)), m0.off_, m0.armed_, m0.left_, m0.fall_, m0.acts_, m0.falls_⟩ : disk_Disk).left_, (⟨m0.sure_, ([] : List (Int × disk_sector)), m0.off_, m0.armed_, m0.left_, m0.fall_, m0.acts_, m0.falls_⟩ : disk_Disk).fall_, (⟨m0.sure_, ([] : List (Int × disk_sector)), m0.off_, m0.armed_, m0.left_, m0.fall_, m0.acts_, m0.falls_⟩ : disk_Disk).acts_, (⟨m0.sure_, ([] : List (Int × disk_sector)), m0.off_, m0.armed_, m0.left_, m0.fall_, m0.acts_, m0.falls_⟩ : disk_Disk).falls_⟩ : disk_Disk))))) else (some (.inl ()))))) (fun x => F.disk_Disk_Stamp.r1 x1 m0)
set_option maxRecDepth 100000 in
set_option maxHeartbeats 4000000 in
theorem c_disk_Disk_Stamp (I : Hl) (x1 : Int) (m0 : disk_Disk) (p0 : Option Addr) (c0 : Nat) (b0 : Nat) (res : Int × disk_Disk) (hF : F.disk_Disk_Stamp x1 m0 = some res) (hr0 : ro I e_disk_sector p0 c0 m0.sure_) : Tr Try.prog 19 [.pointer (some ⟨b0, 0, none⟩), .int .i64 x1] [imm I, pt b0 #[.slice p0 m0.sure_.length c0, .map none, .bool m0.off_, .bool m0.armed_, .int .i64 m0.left_, .int .u64 m0.fall_.Keep, .int .i64 m0.fall_.Tear, .int .i64 m0.acts_, .int .i64 m0.falls_] 43] (fun r H' => ∃ (pq1 : Option Addr), ∃ (cq2 : Nat), r = .int .i64 res.1 ∧ H' = [imm I, pt b0 #[.slice pq1 res.2.sure_.length cq2, .map none, .bool res.2.off_, .bool res.2.armed_, .int .i64 res.2.left_, .int .u64 res.2.fall_.Keep, .int .i64 res.2.fall_.Tear, .int .i64 res.2.acts_, .int .i64 res.2.falls_] 43] ∧ ro I e_disk_sector pq1 cq2 res.2.sure_) := by
  unfold F.disk_Disk_Stamp at hF
  refine tr_of_cw (fn := Try.f19) Try.func19 rfl (Nat.le_of_ble_eq_true rfl) 21 rfl fun F0 w0 => ?_
  refine cw_keep [0, 1] (L' := [(0, .pointer (some ⟨b0, 0, none⟩)), (1, .int .i64 x1)]) rfl ?_
  refine cw_state (S' := SAT w0 ([imm I, pt b0 #[.slice p0 m0.sure_.length c0, .map none, .bool m0.off_, .bool m0.armed_, .int .i64 m0.left_, .int .u64 m0.fall_.Keep, .int .i64 m0.fall_.Tear, .int .i64 m0.acts_, .int .i64 m0.falls_] 43] ++ F0)) (fun w hs => hs) ?_
  refine cw_seq ?_
  refine cw_region ?_
  refine ow_vals 1 (j := 1) [0, 1] [(0, .pointer (some ⟨b0, 0, none⟩)), (1, .int .i64 x1)] rfl (by kernel_rfl) ?_
  refine ow_end rfl ?_
  refine ew_then ?_
  obtain ⟨v21, hF, hK21⟩ := thru_some hF
  refine cw_mid (fun a w => .inl () = v21 ∧ Fr 21 [(0, .pointer (some ⟨b0, 0, none⟩)), (1, .int .i64 x1)] a ∧ SAT w0 ([imm I, pt b0 #[.slice p0 ((⟨m0.sure_, ([] : List (Int × disk_sector)), m0.off_, m0.armed_, m0.left_, m0.fall_, m0.acts_, m0.falls_⟩ : disk_Disk).sure_).length c0, .map none, .bool ((⟨m0.sure_, ([] : List (Int × disk_sector)), m0.off_, m0.armed_, m0.left_, m0.fall_, m0.acts_, m0.falls_⟩ : disk_Disk).off_), .bool ((⟨m0.sure_, ([] : List (Int × disk_sector)), m0.off_, m0.armed_, m0.left_, m0.fall_, m0.acts_, m0.falls_⟩ : disk_Disk).armed_), .int .i64 ((⟨m0.sure_, ([] : List (Int × disk_sector)), m0.off_, m0.armed_, m0.left_, m0.fall_, m0.acts_, m0.falls_⟩ : disk_Disk).left_), .int .u64 ((⟨m0.sure_, ([] : List (Int × disk_sector)), m0.off_, m0.armed_, m0.left_, m0.fall_, m0.acts_, m0.falls_⟩ : disk_Disk).fall_.Keep), .int .i64 ((⟨m0.sure_, ([] : List (Int × disk_sector)), m0.off_, m0.armed_, m0.left_, m0.fall_, m0.acts_, m0.falls_⟩ : disk_Disk).fall_.Tear), .int .i64 ((⟨m0.sure_, ([] : List (Int × disk_sector)), m0.off_, m0.armed_, m0.left_, m0.fall_, m0.acts_, m0.falls_⟩ : disk_Disk).acts_), .int .i64 ((⟨m0.sure_, ([] : List (Int × disk_sector)), m0.off_, m0.armed_, m0.left_, m0.fall_, m0.acts_, m0.falls_⟩ : disk_Disk).falls_)] 43] ++ F0) w) ?_ ?_
  · refine cw_seq ?_
    refine cw_region ?_
    refine ow_vals 3 (j := 3) [0, 1, 7] [(0, .pointer (some ⟨b0, 0, none⟩)), (1, .int .i64 x1), (7, .bool (decide (x1 < 0)))] rfl (by kernel_rfl) ?_
    rcases if_some hF with ⟨h22, hF⟩ | ⟨h22, hF⟩
    · refine ow_slots (L' := [(0, .pointer (some ⟨b0, 0, none⟩)), (1, .int .i64 x1), (7, .bool true)]) (by rw [h22]) ?_
      refine ow_vals 5 (j := 8) [0, 1, 12] [(0, .pointer (some ⟨b0, 0, none⟩)), (1, .int .i64 x1), (12, .bool true)] rfl (by kernel_rfl) ?_
      refine ow_end rfl ?_
      refine ew_then ?_
      refine cw_cond_t rfl rfl rfl ?_
      refine cw_seq ?_
      refine cw_region ?_
      refine ow_vals 1 (j := 1) [4] [(4, .int .i64 0)] rfl (by kernel_rfl) ?_
      refine ow_end rfl ?_
      refine ew_then ?_
      refine cw_ret ?_
      refine ew_then_ret ?_
      have hR := Option.some.inj hF
      subst hR
      have hR := hK21
      try dsimp only [Thru] at hR
      subst hR
      exact fin1 (H1 := [imm I, pt b0 #[.slice p0 ((⟨m0.sure_, ([] : List (Int × disk_sector)), m0.off_, m0.armed_, m0.left_, m0.fall_, m0.acts_, m0.falls_⟩ : disk_Disk).sure_).length c0, .map none, .bool ((⟨m0.sure_, ([] : List (Int × disk_sector)), m0.off_, m0.armed_, m0.left_, m0.fall_, m0.acts_, m0.falls_⟩ : disk_Disk).off_), .bool ((⟨m0.sure_, ([] : List (Int × disk_sector)), m0.off_, m0.armed_, m0.left_, m0.fall_, m0.acts_, m0.falls_⟩ : disk_Disk).armed_), .int .i64 ((⟨m0.sure_, ([] : List (Int × disk_sector)), m0.off_, m0.armed_, m0.left_, m0.fall_, m0.acts_, m0.falls_⟩ : disk_Disk).left_), .int .u64 (((⟨m0.sure_, ([] : List (Int × disk_sector)), m0.off_, m0.armed_, m0.left_, m0.fall_, m0.acts_, m0.falls_⟩ : disk_Disk).fall_).Keep), .int .i64 (((⟨m0.sure_, ([] : List (Int × disk_sector)), m0.off_, m0.armed_, m0.left_, m0.fall_, m0.acts_, m0.falls_⟩ : disk_Disk).fall_).Tear), .int .i64 ((⟨m0.sure_, ([] : List (Int × disk_sector)), m0.off_, m0.armed_, m0.left_, m0.fall_, m0.acts_, m0.falls_⟩ : disk_Disk).acts_), .int .i64 ((⟨m0.sure_, ([] : List (Int × disk_sector)), m0.off_, m0.armed_, m0.left_, m0.fall_, m0.acts_, m0.falls_⟩ : disk_Disk).falls_)] 43]) (fun w hs => sat_to [0, 0] 0 rfl hs) rfl (rr_tmp rfl) ⟨p0, c0, rfl, rfl, hr0⟩
    · refine ow_slots (L' := [(0, .pointer (some ⟨b0, 0, none⟩)), (1, .int .i64 x1), (7, .bool false)]) (by rw [h22]) ?_
      refine ow_vals 2 (j := 5) [0, 1, 7, 8, 9] [(0, .pointer (some ⟨b0, 0, none⟩)), (1, .int .i64 x1), (7, .bool false), (8, .int .i64 x1), (9, .pointer (some ⟨b0, 0, none⟩))] rfl (by kernel_rfl) ?_
      obtain ⟨r23, h24, hF⟩ := bind_some hF
      refine ow_pw rfl (pw_call (F := [] ++ F0) rfl rfl rfl rfl rfl rfl rfl (by kernel_rfl) (perm_of_pulls [0, 0] rfl) (c_disk_Disk_Size_2 _ (⟨m0.sure_, ([] : List (Int × disk_sector)), m0.off_, m0.armed_, m0.left_, m0.fall_, m0.acts_, m0.falls_⟩ : disk_Disk) p0 c0 b0 r23 h24 hr0) ?_)
      rintro _ _ ⟨rfl, rfl⟩
      refine nw_H (H' := [imm I, pt b0 #[.slice p0 ((⟨m0.sure_, ([] : List (Int × disk_sector)), m0.off_, m0.armed_, m0.left_, m0.fall_, m0.acts_, m0.falls_⟩ : disk_Disk).sure_).length c0, .map none, .bool ((⟨m0.sure_, ([] : List (Int × disk_sector)), m0.off_, m0.armed_, m0.left_, m0.fall_, m0.acts_, m0.falls_⟩ : disk_Disk).off_), .bool ((⟨m0.sure_, ([] : List (Int × disk_sector)), m0.off_, m0.armed_, m0.left_, m0.fall_, m0.acts_, m0.falls_⟩ : disk_Disk).armed_), .int .i64 ((⟨m0.sure_, ([] : List (Int × disk_sector)), m0.off_, m0.armed_, m0.left_, m0.fall_, m0.acts_, m0.falls_⟩ : disk_Disk).left_), .int .u64 ((⟨m0.sure_, ([] : List (Int × disk_sector)), m0.off_, m0.armed_, m0.left_, m0.fall_, m0.acts_, m0.falls_⟩ : disk_Disk).fall_.Keep), .int .i64 ((⟨m0.sure_, ([] : List (Int × disk_sector)), m0.off_, m0.armed_, m0.left_, m0.fall_, m0.acts_, m0.falls_⟩ : disk_Disk).fall_.Tear), .int .i64 ((⟨m0.sure_, ([] : List (Int × disk_sector)), m0.off_, m0.armed_, m0.left_, m0.fall_, m0.acts_, m0.falls_⟩ : disk_Disk).acts_), .int .i64 ((⟨m0.sure_, ([] : List (Int × disk_sector)), m0.off_, m0.armed_, m0.left_, m0.fall_, m0.acts_, m0.falls_⟩ : disk_Disk).falls_)] 43] ++ F0) rfl (nw_ow ?_)
      refine ow_vals 2 (j := 8) [0, 1, 12] [(0, .pointer (some ⟨b0, 0, none⟩)), (1, .int .i64 x1), (12, .bool (decide (x1 ≥ r23)))] rfl (by kernel_rfl) ?_
      refine ow_end rfl ?_
      refine ew_then ?_
      rcases if_some hF with ⟨h25, hF⟩ | ⟨h25, hF⟩
      · refine cw_cond_t rfl rfl h25 ?_
        refine cw_seq ?_
        refine cw_region ?_
        refine ow_vals 1 (j := 1) [4] [(4, .int .i64 0)] rfl (by kernel_rfl) ?_
        refine ow_end rfl ?_
        refine ew_then ?_
        refine cw_ret ?_
        refine ew_then_ret ?_
        have hR := Option.some.inj hF
        subst hR
        have hR := hK21
        try dsimp only [Thru] at hR
        subst hR
        exact fin1 (H1 := [imm I, pt b0 #[.slice p0 ((⟨(⟨m0.sure_, ([] : List (Int × disk_sector)), m0.off_, m0.armed_, m0.left_, m0.fall_, m0.acts_, m0.falls_⟩ : disk_Disk).sure_, ([] : List (Int × disk_sector)), (⟨m0.sure_, ([] : List (Int × disk_sector)), m0.off_, m0.armed_, m0.left_, m0.fall_, m0.acts_, m0.falls_⟩ : disk_Disk).off_, (⟨m0.sure_, ([] : List (Int × disk_sector)), m0.off_, m0.armed_, m0.left_, m0.fall_, m0.acts_, m0.falls_⟩ : disk_Disk).armed_, (⟨m0.sure_, ([] : List (Int × disk_sector)), m0.off_, m0.armed_, m0.left_, m0.fall_, m0.acts_, m0.falls_⟩ : disk_Disk).left_, (⟨m0.sure_, ([] : List (Int × disk_sector)), m0.off_, m0.armed_, m0.left_, m0.fall_, m0.acts_, m0.falls_⟩ : disk_Disk).fall_, (⟨m0.sure_, ([] : List (Int × disk_sector)), m0.off_, m0.armed_, m0.left_, m0.fall_, m0.acts_, m0.falls_⟩ : disk_Disk).acts_, (⟨m0.sure_, ([] : List (Int × disk_sector)), m0.off_, m0.armed_, m0.left_, m0.fall_, m0.acts_, m0.falls_⟩ : disk_Disk).falls_⟩ : disk_Disk).sure_).length c0, .map none, .bool ((⟨(⟨m0.sure_, ([] : List (Int × disk_sector)), m0.off_, m0.armed_, m0.left_, m0.fall_, m0.acts_, m0.falls_⟩ : disk_Disk).sure_, ([] : List (Int × disk_sector)), (⟨m0.sure_, ([] : List (Int × disk_sector)), m0.off_, m0.armed_, m0.left_, m0.fall_, m0.acts_, m0.falls_⟩ : disk_Disk).off_, (⟨m0.sure_, ([] : List (Int × disk_sector)), m0.off_, m0.armed_, m0.left_, m0.fall_, m0.acts_, m0.falls_⟩ : disk_Disk).armed_, (⟨m0.sure_, ([] : List (Int × disk_sector)), m0.off_, m0.armed_, m0.left_, m0.fall_, m0.acts_, m0.falls_⟩ : disk_Disk).left_, (⟨m0.sure_, ([] : List (Int × disk_sector)), m0.off_, m0.armed_, m0.left_, m0.fall_, m0.acts_, m0.falls_⟩ : disk_Disk).fall_, (⟨m0.sure_, ([] : List (Int × disk_sector)), m0.off_, m0.armed_, m0.left_, m0.fall_, m0.acts_, m0.falls_⟩ : disk_Disk).acts_, (⟨m0.sure_, ([] : List (Int × disk_sector)), m0.off_, m0.armed_, m0.left_, m0.fall_, m0.acts_, m0.falls_⟩ : disk_Disk).falls_⟩ : disk_Disk).off_), .bool ((⟨(⟨m0.sure_, ([] : List (Int × disk_sector)), m0.off_, m0.armed_, m0.left_, m0.fall_, m0.acts_, m0.falls_⟩ : disk_Disk).sure_, ([] : List (Int × disk_sector)), (⟨m0.sure_, ([] : List (Int × disk_sector)), m0.off_, m0.armed_, m0.left_, m0.fall_, m0.acts_, m0.falls_⟩ : disk_Disk).off_, (⟨m0.sure_, ([] : List (Int × disk_sector)), m0.off_, m0.armed_, m0.left_, m0.fall_, m0.acts_, m0.falls_⟩ : disk_Disk).armed_, (⟨m0.sure_, ([] : List (Int × disk_sector)), m0.off_, m0.armed_, m0.left_, m0.fall_, m0.acts_, m0.falls_⟩ : disk_Disk).left_, (⟨m0.sure_, ([] : List (Int × disk_sector)), m0.off_, m0.armed_, m0.left_, m0.fall_, m0.acts_, m0.falls_⟩ : disk_Disk).fall_, (⟨m0.sure_, ([] : List (Int × disk_sector)), m0.off_, m0.armed_, m0.left_, m0.fall_, m0.acts_, m0.falls_⟩ : disk_Disk).acts_, (⟨m0.sure_, ([] : List (Int × disk_sector)), m0.off_, m0.armed_, m0.left_, m0.fall_, m0.acts_, m0.falls_⟩ : disk_Disk).falls_⟩ : disk_Disk).armed_), .int .i64 ((⟨(⟨m0.sure_, ([] : List (Int × disk_sector)), m0.off_, m0.armed_, m0.left_, m0.fall_, m0.acts_, m0.falls_⟩ : disk_Disk).sure_, ([] : List (Int × disk_sector)), (⟨m0.sure_, ([] : List (Int × disk_sector)), m0.off_, m0.armed_, m0.left_, m0.fall_, m0.acts_, m0.falls_⟩ : disk_Disk).off_, (⟨m0.sure_, ([] : List (Int × disk_sector)), m0.off_, m0.armed_, m0.left_, m0.fall_, m0.acts_, m0.falls_⟩ : disk_Disk).armed_, (⟨m0.sure_, ([] : List (Int × disk_sector)), m0.off_, m0.armed_, m0.left_, m0.fall_, m0.acts_, m0.falls_⟩ : disk_Disk).left_, (⟨m0.sure_, ([] : List (Int × disk_sector)), m0.off_, m0.armed_, m0.left_, m0.fall_, m0.acts_, m0.falls_⟩ : disk_Disk).fall_, (⟨m0.sure_, ([] : List (Int × disk_sector)), m0.off_, m0.armed_, m0.left_, m0.fall_, m0.acts_, m0.falls_⟩ : disk_Disk).acts_, (⟨m0.sure_, ([] : List (Int × disk_sector)), m0.off_, m0.armed_, m0.left_, m0.fall_, m0.acts_, m0.falls_⟩ : disk_Disk).falls_⟩ : disk_Disk).left_), .int .u64 (((⟨(⟨m0.sure_, ([] : List (Int × disk_sector)), m0.off_, m0.armed_, m0.left_, m0.fall_, m0.acts_, m0.falls_⟩ : disk_Disk).sure_, ([] : List (Int × disk_sector)), (⟨m0.sure_, ([] : List (Int × disk_sector)), m0.off_, m0.armed_, m0.left_, m0.fall_, m0.acts_, m0.falls_⟩ : disk_Disk).off_, (⟨m0.sure_, ([] : List (Int × disk_sector)), m0.off_, m0.armed_, m0.left_, m0.fall_, m0.acts_, m0.falls_⟩ : disk_Disk).armed_, (⟨m0.sure_, ([] : List (Int × disk_sector)), m0.off_, m0.armed_, m0.left_, m0.fall_, m0.acts_, m0.falls_⟩ : disk_Disk).left_, (⟨m0.sure_, ([] : List (Int × disk_sector)), m0.off_, m0.armed_, m0.left_, m0.fall_, m0.acts_, m0.falls_⟩ : disk_Disk).fall_, (⟨m0.sure_, ([] : List (Int × disk_sector)), m0.off_, m0.armed_, m0.left_, m0.fall_, m0.acts_, m0.falls_⟩ : disk_Disk).acts_, (⟨m0.sure_, ([] : List (Int × disk_sector)), m0.off_, m0.armed_, m0.left_, m0.fall_, m0.acts_, m0.falls_⟩ : disk_Disk).falls_⟩ : disk_Disk).fall_).Keep), .int .i64 (((⟨(⟨m0.sure_, ([] : List (Int × disk_sector)), m0.off_, m0.armed_, m0.left_, m0.fall_, m0.acts_, m0.falls_⟩ : disk_Disk).sure_, ([] : List (Int × disk_sector)), (⟨m0.sure_, ([] : List (Int × disk_sector)), m0.off_, m0.armed_, m0.left_, m0.fall_, m0.acts_, m0.falls_⟩ : disk_Disk).off_, (⟨m0.sure_, ([] : List (Int × disk_sector)), m0.off_, m0.armed_, m0.left_, m0.fall_, m0.acts_, m0.falls_⟩ : disk_Disk).armed_, (⟨m0.sure_, ([] : List (Int × disk_sector)), m0.off_, m0.armed_, m0.left_, m0.fall_, m0.acts_, m0.falls_⟩ : disk_Disk).left_, (⟨m0.sure_, ([] : List (Int × disk_sector)), m0.off_, m0.armed_, m0.left_, m0.fall_, m0.acts_, m0.falls_⟩ : disk_Disk).fall_, (⟨m0.sure_, ([] : List (Int × disk_sector)), m0.off_, m0.armed_, m0.left_, m0.fall_, m0.acts_, m0.falls_⟩ : disk_Disk).acts_, (⟨m0.sure_, ([] : List (Int × disk_sector)), m0.off_, m0.armed_, m0.left_, m0.fall_, m0.acts_, m0.falls_⟩ : disk_Disk).falls_⟩ : disk_Disk).fall_).Tear), .int .i64 ((⟨(⟨m0.sure_, ([] : List (Int × disk_sector)), m0.off_, m0.armed_, m0.left_, m0.fall_, m0.acts_, m0.falls_⟩ : disk_Disk).sure_, ([] : List (Int × disk_sector)), (⟨m0.sure_, ([] : List (Int × disk_sector)), m0.off_, m0.armed_, m0.left_, m0.fall_, m0.acts_, m0.falls_⟩ : disk_Disk).off_, (⟨m0.sure_, ([] : List (Int × disk_sector)), m0.off_, m0.armed_, m0.left_, m0.fall_, m0.acts_, m0.falls_⟩ : disk_Disk).armed_, (⟨m0.sure_, ([] : List (Int × disk_sector)), m0.off_, m0.armed_, m0.left_, m0.fall_, m0.acts_, m0.falls_⟩ : disk_Disk).left_, (⟨m0.sure_, ([] : List (Int × disk_sector)), m0.off_, m0.armed_, m0.left_, m0.fall_, m0.acts_, m0.falls_⟩ : disk_Disk).fall_, (⟨m0.sure_, ([] : List (Int × disk_sector)), m0.off_, m0.armed_, m0.left_, m0.fall_, m0.acts_, m0.falls_⟩ : disk_Disk).acts_, (⟨m0.sure_, ([] : List (Int × disk_sector)), m0.off_, m0.armed_, m0.left_, m0.fall_, m0.acts_, m0.falls_⟩ : disk_Disk).falls_⟩ : disk_Disk).acts_), .int .i64 ((⟨(⟨m0.sure_, ([] : List (Int × disk_sector)), m0.off_, m0.armed_, m0.left_, m0.fall_, m0.acts_, m0.falls_⟩ : disk_Disk).sure_, ([] : List (Int × disk_sector)), (⟨m0.sure_, ([] : List (Int × disk_sector)), m0.off_, m0.armed_, m0.left_, m0.fall_, m0.acts_, m0.falls_⟩ : disk_Disk).off_, (⟨m0.sure_, ([] : List (Int × disk_sector)), m0.off_, m0.armed_, m0.left_, m0.fall_, m0.acts_, m0.falls_⟩ : disk_Disk).armed_, (⟨m0.sure_, ([] : List (Int × disk_sector)), m0.off_, m0.armed_, m0.left_, m0.fall_, m0.acts_, m0.falls_⟩ : disk_Disk).left_, (⟨m0.sure_, ([] : List (Int × disk_sector)), m0.off_, m0.armed_, m0.left_, m0.fall_, m0.acts_, m0.falls_⟩ : disk_Disk).fall_, (⟨m0.sure_, ([] : List (Int × disk_sector)), m0.off_, m0.armed_, m0.left_, m0.fall_, m0.acts_, m0.falls_⟩ : disk_Disk).acts_, (⟨m0.sure_, ([] : List (Int × disk_sector)), m0.off_, m0.armed_, m0.left_, m0.fall_, m0.acts_, m0.falls_⟩ : disk_Disk).falls_⟩ : disk_Disk).falls_)] 43]) (fun w hs => sat_to [0, 0] 0 rfl hs) rfl (rr_tmp rfl) ⟨p0, c0, rfl, rfl, hr0⟩
      · refine cw_cond_f rfl rfl h25 ?_
        refine cw_skip ?_
        have hR := Option.some.inj hF
        exact fun a w hf hs => ⟨hR, hf.keep [0, 1], sat_to [0, 0] 0 rfl hs⟩
  · rintro a w ⟨hv, hf, hs⟩
    subst hv
    replace hF := hK21
    clear hK21
    try dsimp only [Thru] at hF
    revert a w
    show CW _ _ _ 21 [(0, .pointer (some ⟨b0, 0, none⟩)), (1, .int .i64 x1)] (SAT w0 ([imm I, pt b0 #[.slice p0 ((⟨m0.sure_, ([] : List (Int × disk_sector)), m0.off_, m0.armed_, m0.left_, m0.fall_, m0.acts_, m0.falls_⟩ : disk_Disk).sure_).length c0, .map none, .bool ((⟨m0.sure_, ([] : List (Int × disk_sector)), m0.off_, m0.armed_, m0.left_, m0.fall_, m0.acts_, m0.falls_⟩ : disk_Disk).off_), .bool ((⟨m0.sure_, ([] : List (Int × disk_sector)), m0.off_, m0.armed_, m0.left_, m0.fall_, m0.acts_, m0.falls_⟩ : disk_Disk).armed_), .int .i64 ((⟨m0.sure_, ([] : List (Int × disk_sector)), m0.off_, m0.armed_, m0.left_, m0.fall_, m0.acts_, m0.falls_⟩ : disk_Disk).left_), .int .u64 ((⟨m0.sure_, ([] : List (Int × disk_sector)), m0.off_, m0.armed_, m0.left_, m0.fall_, m0.acts_, m0.falls_⟩ : disk_Disk).fall_.Keep), .int .i64 ((⟨m0.sure_, ([] : List (Int × disk_sector)), m0.off_, m0.armed_, m0.left_, m0.fall_, m0.acts_, m0.falls_⟩ : disk_Disk).fall_.Tear), .int .i64 ((⟨m0.sure_, ([] : List (Int × disk_sector)), m0.off_, m0.armed_, m0.left_, m0.fall_, m0.acts_, m0.falls_⟩ : disk_Disk).acts_), .int .i64 ((⟨m0.sure_, ([] : List (Int × disk_sector)), m0.off_, m0.armed_, m0.left_, m0.fall_, m0.acts_, m0.falls_⟩ : disk_Disk).falls_)] 43] ++ F0))
    unfold F.disk_Disk_Stamp.r1 at hF
    refine cw_seq ?_
    refine cw_region ?_
    refine ow_vals 3 (j := 3) [1, 15] [(1, .int .i64 x1), (15, .pointer (some ⟨b0, 0, none⟩))] rfl (by kernel_rfl) ?_
    refine ow_pw rfl (pw_quiet (v := .slice p0 ((⟨m0.sure_, ([] : List (Int × disk_sector)), m0.off_, m0.armed_, m0.left_, m0.fall_, m0.acts_, m0.falls_⟩ : disk_Disk).sure_).length c0) rfl rfl rfl rfl (q_load 1 rfl rfl rfl (by kernel_rfl)) (nw_ow ?_))
    refine ow_vals 1 (j := 5) [16, 17] [(16, .slice p0 ((⟨m0.sure_, ([] : List (Int × disk_sector)), m0.off_, m0.armed_, m0.left_, m0.fall_, m0.acts_, m0.falls_⟩ : disk_Disk).sure_).length c0), (17, .int .i64 x1)] rfl (by kernel_rfl) ?_
    obtain ⟨y26, h27, hF⟩ := bind_some hF
    refine ow_pw rfl (pw_index_ro (E := 51) 2 hr0 rfl rfl rfl rfl rfl (by kernel_rfl) rfl rfl rfl h27 fun q28 h29 => nw_ow ?_)
    refine ow_vals 1 (j := 7) [19] [(19, .pointer (some (q28.add 1)))] rfl (by kernel_rfl) ?_
    refine ow_pw rfl (pw_quiet (v := .int .i64 y26.at_) rfl rfl rfl rfl (q_load_el 0 rfl h29 rfl rfl (by kernel_rfl)) (nw_ow ?_))
    refine ow_vals 1 (j := 9) [4] [(4, .int .i64 y26.at_)] rfl (by kernel_rfl) ?_
    refine ow_end rfl ?_
    refine ew_then ?_
    refine cw_ret ?_
    have hR := Option.some.inj hF
    subst hR
    exact fin1 (H1 := [imm I, pt b0 #[.slice p0 ((⟨(⟨m0.sure_, ([] : List (Int × disk_sector)), m0.off_, m0.armed_, m0.left_, m0.fall_, m0.acts_, m0.falls_⟩ : disk_Disk).sure_, ([] : List (Int × disk_sector)), (⟨m0.sure_, ([] : List (Int × disk_sector)), m0.off_, m0.armed_, m0.left_, m0.fall_, m0.acts_, m0.falls_⟩ : disk_Disk).off_, (⟨m0.sure_, ([] : List (Int × disk_sector)), m0.off_, m0.armed_, m0.left_, m0.fall_, m0.acts_, m0.falls_⟩ : disk_Disk).armed_, (⟨m0.sure_, ([] : List (Int × disk_sector)), m0.off_, m0.armed_, m0.left_, m0.fall_, m0.acts_, m0.falls_⟩ : disk_Disk).left_, (⟨m0.sure_, ([] : List (Int × disk_sector)), m0.off_, m0.armed_, m0.left_, m0.fall_, m0.acts_, m0.falls_⟩ : disk_Disk).fall_, (⟨m0.sure_, ([] : List (Int × disk_sector)), m0.off_, m0.armed_, m0.left_, m0.fall_, m0.acts_, m0.falls_⟩ : disk_Disk).acts_, (⟨m0.sure_, ([] : List (Int × disk_sector)), m0.off_, m0.armed_, m0.left_, m0.fall_, m0.acts_, m0.falls_⟩ : disk_Disk).falls_⟩ : disk_Disk).sure_).length c0, .map none, .bool ((⟨(⟨m0.sure_, ([] : List (Int × disk_sector)), m0.off_, m0.armed_, m0.left_, m0.fall_, m0.acts_, m0.falls_⟩ : disk_Disk).sure_, ([] : List (Int × disk_sector)), (⟨m0.sure_, ([] : List (Int × disk_sector)), m0.off_, m0.armed_, m0.left_, m0.fall_, m0.acts_, m0.falls_⟩ : disk_Disk).off_, (⟨m0.sure_, ([] : List (Int × disk_sector)), m0.off_, m0.armed_, m0.left_, m0.fall_, m0.acts_, m0.falls_⟩ : disk_Disk).armed_, (⟨m0.sure_, ([] : List (Int × disk_sector)), m0.off_, m0.armed_, m0.left_, m0.fall_, m0.acts_, m0.falls_⟩ : disk_Disk).left_, (⟨m0.sure_, ([] : List (Int × disk_sector)), m0.off_, m0.armed_, m0.left_, m0.fall_, m0.acts_, m0.falls_⟩ : disk_Disk).fall_, (⟨m0.sure_, ([] : List (Int × disk_sector)), m0.off_, m0.armed_, m0.left_, m0.fall_, m0.acts_, m0.falls_⟩ : disk_Disk).acts_, (⟨m0.sure_, ([] : List (Int × disk_sector)), m0.off_, m0.armed_, m0.left_, m0.fall_, m0.acts_, m0.falls_⟩ : disk_Disk).falls_⟩ : disk_Disk).off_), .bool ((⟨(⟨m0.sure_, ([] : List (Int × disk_sector)), m0.off_, m0.armed_, m0.left_, m0.fall_, m0.acts_, m0.falls_⟩ : disk_Disk).sure_, ([] : List (Int × disk_sector)), (⟨m0.sure_, ([] : List (Int × disk_sector)), m0.off_, m0.armed_, m0.left_, m0.fall_, m0.acts_, m0.falls_⟩ : disk_Disk).off_, (⟨m0.sure_, ([] : List (Int × disk_sector)), m0.off_, m0.armed_, m0.left_, m0.fall_, m0.acts_, m0.falls_⟩ : disk_Disk).armed_, (⟨m0.sure_, ([] : List (Int × disk_sector)), m0.off_, m0.armed_, m0.left_, m0.fall_, m0.acts_, m0.falls_⟩ : disk_Disk).left_, (⟨m0.sure_, ([] : List (Int × disk_sector)), m0.off_, m0.armed_, m0.left_, m0.fall_, m0.acts_, m0.falls_⟩ : disk_Disk).fall_, (⟨m0.sure_, ([] : List (Int × disk_sector)), m0.off_, m0.armed_, m0.left_, m0.fall_, m0.acts_, m0.falls_⟩ : disk_Disk).acts_, (⟨m0.sure_, ([] : List (Int × disk_sector)), m0.off_, m0.armed_, m0.left_, m0.fall_, m0.acts_, m0.falls_⟩ : disk_Disk).falls_⟩ : disk_Disk).armed_), .int .i64 ((⟨(⟨m0.sure_, ([] : List (Int × disk_sector)), m0.off_, m0.armed_, m0.left_, m0.fall_, m0.acts_, m0.falls_⟩ : disk_Disk).sure_, ([] : List (Int × disk_sector)), (⟨m0.sure_, ([] : List (Int × disk_sector)), m0.off_, m0.armed_, m0.left_, m0.fall_, m0.acts_, m0.falls_⟩ : disk_Disk).off_, (⟨m0.sure_, ([] : List (Int × disk_sector)), m0.off_, m0.armed_, m0.left_, m0.fall_, m0.acts_, m0.falls_⟩ : disk_Disk).armed_, (⟨m0.sure_, ([] : List (Int × disk_sector)), m0.off_, m0.armed_, m0.left_, m0.fall_, m0.acts_, m0.falls_⟩ : disk_Disk).left_, (⟨m0.sure_, ([] : List (Int × disk_sector)), m0.off_, m0.armed_, m0.left_, m0.fall_, m0.acts_, m0.falls_⟩ : disk_Disk).fall_, (⟨m0.sure_, ([] : List (Int × disk_sector)), m0.off_, m0.armed_, m0.left_, m0.fall_, m0.acts_, m0.falls_⟩ : disk_Disk).acts_, (⟨m0.sure_, ([] : List (Int × disk_sector)), m0.off_, m0.armed_, m0.left_, m0.fall_, m0.acts_, m0.falls_⟩ : disk_Disk).falls_⟩ : disk_Disk).left_), .int .u64 (((⟨(⟨m0.sure_, ([] : List (Int × disk_sector)), m0.off_, m0.armed_, m0.left_, m0.fall_, m0.acts_, m0.falls_⟩ : disk_Disk).sure_, ([] : List (Int × disk_sector)), (⟨m0.sure_, ([] : List (Int × disk_sector)), m0.off_, m0.armed_, m0.left_, m0.fall_, m0.acts_, m0.falls_⟩ : disk_Disk).off_, (⟨m0.sure_, ([] : List (Int × disk_sector)), m0.off_, m0.armed_, m0.left_, m0.fall_, m0.acts_, m0.falls_⟩ : disk_Disk).armed_, (⟨m0.sure_, ([] : List (Int × disk_sector)), m0.off_, m0.armed_, m0.left_, m0.fall_, m0.acts_, m0.falls_⟩ : disk_Disk).left_, (⟨m0.sure_, ([] : List (Int × disk_sector)), m0.off_, m0.armed_, m0.left_, m0.fall_, m0.acts_, m0.falls_⟩ : disk_Disk).fall_, (⟨m0.sure_, ([] : List (Int × disk_sector)), m0.off_, m0.armed_, m0.left_, m0.fall_, m0.acts_, m0.falls_⟩ : disk_Disk).acts_, (⟨m0.sure_, ([] : List (Int × disk_sector)), m0.off_, m0.armed_, m0.left_, m0.fall_, m0.acts_, m0.falls_⟩ : disk_Disk).falls_⟩ : disk_Disk).fall_).Keep), .int .i64 (((⟨(⟨m0.sure_, ([] : List (Int × disk_sector)), m0.off_, m0.armed_, m0.left_, m0.fall_, m0.acts_, m0.falls_⟩ : disk_Disk).sure_, ([] : List (Int × disk_sector)), (⟨m0.sure_, ([] : List (Int × disk_sector)), m0.off_, m0.armed_, m0.left_, m0.fall_, m0.acts_, m0.falls_⟩ : disk_Disk).off_, (⟨m0.sure_, ([] : List (Int × disk_sector)), m0.off_, m0.armed_, m0.left_, m0.fall_, m0.acts_, m0.falls_⟩ : disk_Disk).armed_, (⟨m0.sure_, ([] : List (Int × disk_sector)), m0.off_, m0.armed_, m0.left_, m0.fall_, m0.acts_, m0.falls_⟩ : disk_Disk).left_, (⟨m0.sure_, ([] : List (Int × disk_sector)), m0.off_, m0.armed_, m0.left_, m0.fall_, m0.acts_, m0.falls_⟩ : disk_Disk).fall_, (⟨m0.sure_, ([] : List (Int × disk_sector)), m0.off_, m0.armed_, m0.left_, m0.fall_, m0.acts_, m0.falls_⟩ : disk_Disk).acts_, (⟨m0.sure_, ([] : List (Int × disk_sector)), m0.off_, m0.armed_, m0.left_, m0.fall_, m0.acts_, m0.falls_⟩ : disk_Disk).falls_⟩ : disk_Disk).fall_).Tear), .int .i64 ((⟨(⟨m0.sure_, ([] : List (Int × disk_sector)), m0.off_, m0.armed_, m0.left_, m0.fall_, m0.acts_, m0.falls_⟩ : disk_Disk).sure_, ([] : List (Int × disk_sector)), (⟨m0.sure_, ([] : List (Int × disk_sector)), m0.off_, m0.armed_, m0.left_, m0.fall_, m0.acts_, m0.falls_⟩ : disk_Disk).off_, (⟨m0.sure_, ([] : List (Int × disk_sector)), m0.off_, m0.armed_, m0.left_, m0.fall_, m0.acts_, m0.falls_⟩ : disk_Disk).armed_, (⟨m0.sure_, ([] : List (Int × disk_sector)), m0.off_, m0.armed_, m0.left_, m0.fall_, m0.acts_, m0.falls_⟩ : disk_Disk).left_, (⟨m0.sure_, ([] : List (Int × disk_sector)), m0.off_, m0.armed_, m0.left_, m0.fall_, m0.acts_, m0.falls_⟩ : disk_Disk).fall_, (⟨m0.sure_, ([] : List (Int × disk_sector)), m0.off_, m0.armed_, m0.left_, m0.fall_, m0.acts_, m0.falls_⟩ : disk_Disk).acts_, (⟨m0.sure_, ([] : List (Int × disk_sector)), m0.off_, m0.armed_, m0.left_, m0.fall_, m0.acts_, m0.falls_⟩ : disk_Disk).falls_⟩ : disk_Disk).acts_), .int .i64 ((⟨(⟨m0.sure_, ([] : List (Int × disk_sector)), m0.off_, m0.armed_, m0.left_, m0.fall_, m0.acts_, m0.falls_⟩ : disk_Disk).sure_, ([] : List (Int × disk_sector)), (⟨m0.sure_, ([] : List (Int × disk_sector)), m0.off_, m0.armed_, m0.left_, m0.fall_, m0.acts_, m0.falls_⟩ : disk_Disk).off_, (⟨m0.sure_, ([] : List (Int × disk_sector)), m0.off_, m0.armed_, m0.left_, m0.fall_, m0.acts_, m0.falls_⟩ : disk_Disk).armed_, (⟨m0.sure_, ([] : List (Int × disk_sector)), m0.off_, m0.armed_, m0.left_, m0.fall_, m0.acts_, m0.falls_⟩ : disk_Disk).left_, (⟨m0.sure_, ([] : List (Int × disk_sector)), m0.off_, m0.armed_, m0.left_, m0.fall_, m0.acts_, m0.falls_⟩ : disk_Disk).fall_, (⟨m0.sure_, ([] : List (Int × disk_sector)), m0.off_, m0.armed_, m0.left_, m0.fall_, m0.acts_, m0.falls_⟩ : disk_Disk).acts_, (⟨m0.sure_, ([] : List (Int × disk_sector)), m0.off_, m0.armed_, m0.left_, m0.fall_, m0.acts_, m0.falls_⟩ : disk_Disk).falls_⟩ : disk_Disk).falls_)] 43]) (fun w hs => sat_to [0, 0] 0 rfl hs) rfl (rr_tmp rfl) ⟨p0, c0, rfl, rfl, hr0⟩


def F.disk_Disk_Acts : Option Int :=
  some (0)
set_option maxRecDepth 100000 in
set_option maxHeartbeats 4000000 in
theorem c_disk_Disk_Acts (I : Hl) (res : Int) (hF : F.disk_Disk_Acts = some res) : Tr Try.prog 20 [.pointer none] [imm I] (fun r H' => r = .int .i64 res ∧ H' = [imm I]) := by
  unfold F.disk_Disk_Acts at hF
  refine tr_of_cw (fn := Try.f20) Try.func20 rfl (Nat.le_of_ble_eq_true rfl) 9 rfl fun F0 w0 => ?_
  refine cw_keep [0] (L' := [(0, .pointer none)]) rfl ?_
  refine cw_state (S' := SAT w0 ([imm I] ++ F0)) (fun w hs => hs) ?_
  refine cw_seq ?_
  refine cw_region ?_
  refine ow_vals 1 (j := 1) [0] [(0, .pointer none)] rfl (by kernel_rfl) ?_
  refine ow_end rfl ?_
  refine ew_then ?_
  refine cw_seq ?_
  refine cw_seq ?_
  refine cw_region ?_
  refine ow_vals 2 (j := 2) [0, 4] [(0, .pointer none), (4, .bool true)] rfl (by kernel_rfl) ?_
  refine ow_end rfl ?_
  refine ew_then ?_
  refine cw_cond_t rfl rfl rfl ?_
  refine cw_seq ?_
  refine cw_region ?_
  refine ow_vals 1 (j := 1) [2] [(2, .int .i64 0)] rfl (by kernel_rfl) ?_
  refine ow_end rfl ?_
  refine ew_then ?_
  refine cw_ret ?_
  refine ew_then_ret ?_
  have hR := Option.some.inj hF
  subst hR
  exact fin1 (H1 := [imm I]) (fun w hs => sat_to [0] 0 rfl hs) rfl (rr_tmp rfl) ⟨rfl, rfl⟩


def F.disk_Disk_Falls (m0 : disk_Disk) : Option Int :=
  some (m0.falls_)
set_option maxRecDepth 100000 in
set_option maxHeartbeats 4000000 in
theorem c_disk_Disk_Falls (I : Hl) (m0 : disk_Disk) (p0 : Option Addr) (c0 : Nat) (b0 : Nat) (res : Int) (hF : F.disk_Disk_Falls m0 = some res) (hr0 : ro I e_disk_sector p0 c0 m0.sure_) : Tr Try.prog 21 [.pointer (some ⟨b0, 0, none⟩)] [imm I, pt b0 #[.slice p0 m0.sure_.length c0, .map none, .bool m0.off_, .bool m0.armed_, .int .i64 m0.left_, .int .u64 m0.fall_.Keep, .int .i64 m0.fall_.Tear, .int .i64 m0.acts_, .int .i64 m0.falls_] 43] (fun r H' => r = .int .i64 res ∧ H' = [imm I, pt b0 #[.slice p0 m0.sure_.length c0, .map none, .bool m0.off_, .bool m0.armed_, .int .i64 m0.left_, .int .u64 m0.fall_.Keep, .int .i64 m0.fall_.Tear, .int .i64 m0.acts_, .int .i64 m0.falls_] 43]) := by
  unfold F.disk_Disk_Falls at hF
  refine tr_of_cw (fn := Try.f21) Try.func21 rfl (Nat.le_of_ble_eq_true rfl) 9 rfl fun F0 w0 => ?_
  refine cw_keep [0] (L' := [(0, .pointer (some ⟨b0, 0, none⟩))]) rfl ?_
  refine cw_state (S' := SAT w0 ([imm I, pt b0 #[.slice p0 m0.sure_.length c0, .map none, .bool m0.off_, .bool m0.armed_, .int .i64 m0.left_, .int .u64 m0.fall_.Keep, .int .i64 m0.fall_.Tear, .int .i64 m0.acts_, .int .i64 m0.falls_] 43] ++ F0)) (fun w hs => hs) ?_
  refine cw_seq ?_
  refine cw_region ?_
  refine ow_vals 1 (j := 1) [0] [(0, .pointer (some ⟨b0, 0, none⟩))] rfl (by kernel_rfl) ?_
  refine ow_end rfl ?_
  refine ew_then ?_
  refine cw_seq ?_
  refine cw_seq ?_
  refine cw_region ?_
  refine ow_vals 2 (j := 2) [0, 4] [(0, .pointer (some ⟨b0, 0, none⟩)), (4, .bool false)] rfl (by kernel_rfl) ?_
  refine ow_end rfl ?_
  refine ew_then ?_
  refine cw_cond_f rfl rfl rfl ?_
  refine cw_skip ?_
  refine ew_then ?_
  refine cw_seq ?_
  refine cw_region ?_
  refine ow_vals 3 (j := 3) [7] [(7, .pointer (some ⟨b0, 8, none⟩))] rfl (by kernel_rfl) ?_
  refine ow_pw rfl (pw_quiet (v := .int .i64 m0.falls_) rfl rfl rfl rfl (q_load 1 rfl rfl rfl (by kernel_rfl)) (nw_ow ?_))
  refine ow_vals 1 (j := 5) [2] [(2, .int .i64 m0.falls_)] rfl (by kernel_rfl) ?_
  refine ow_end rfl ?_
  refine ew_then ?_
  refine cw_ret ?_
  have hR := Option.some.inj hF
  subst hR
  exact fin1 (H1 := [imm I, pt b0 #[.slice p0 m0.sure_.length c0, .map none, .bool m0.off_, .bool m0.armed_, .int .i64 m0.left_, .int .u64 m0.fall_.Keep, .int .i64 m0.fall_.Tear, .int .i64 m0.acts_, .int .i64 m0.falls_] 43]) (fun w hs => sat_to [0, 0] 0 rfl hs) rfl (rr_tmp rfl) ⟨rfl, rfl⟩

end Go.Proofs.Ytbjilfhjclkebaa
