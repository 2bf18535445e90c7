/- What the functions compute, and that the code computes it: printed by a program of this claim (wip/tools), for the group Nobody. -/
import Derived.Test.YtbjilfhjclkebaaGNobody
namespace Go.Proofs.Ytbjilfhjclkebaa
set_option linter.all false
open Go Go.RowKit Go.Fw
set_option linter.unusedVariables false

def F.law09_DiskNobody (x0 : Int) (x1 : disk_Fall) : Option Bool :=
  Option.bind (F.disk_Disk_Calm) (fun (r25 : Unit) => Option.bind (F.disk_Disk_Calm_1 (⟨([] : List disk_sector), ([] : List (Int × disk_sector)), false, false, 0, (⟨0, 0⟩ : disk_Fall), 0, 0⟩ : disk_Disk)) (fun (r27 : disk_Disk) => Option.bind (F.disk_Disk_Read_1 x0) (fun (r29 : ByteArray × Int) => Option.bind (F.disk_Disk_Read_2 x0 (⟨r27.sure_, ([] : List (Int × disk_sector)), r27.off_, r27.armed_, r27.left_, r27.fall_, r27.acts_, r27.falls_⟩ : disk_Disk)) (fun (r31 : ByteArray × Int × disk_Disk) => if r29.2 == 9 then (if r31.2.1 == 9 then (Option.bind (F.disk_Disk_Write_1 x0 (ByteArray.mk #[])) (fun (r35 : Int) => if r35 == 9 then (Option.bind (F.disk_Disk_Flush_1 (⟨r31.2.2.sure_, ([] : List (Int × disk_sector)), r31.2.2.off_, r31.2.2.armed_, r31.2.2.left_, r31.2.2.fall_, r31.2.2.acts_, r31.2.2.falls_⟩ : disk_Disk)) (fun (r38 : Int × disk_Disk) => if r38.1 == 9 then (Option.bind (F.disk_Disk_Crash_1 x1) (fun (r41 : Int) => if r41 == 9 then (Option.bind (F.disk_Disk_Arm x0 x1 (⟨r38.2.sure_, ([] : List (Int × disk_sector)), r38.2.off_, r38.2.armed_, r38.2.left_, r38.2.fall_, r38.2.acts_, r38.2.falls_⟩ : disk_Disk)) (fun (r44 : Int × disk_Disk) => if r44.1 == 9 then (Option.bind (F.disk_Disk_Start_1) (fun (r47 : Int) => if r47 == 9 then (Option.bind (F.disk_Disk_Up (⟨r44.2.sure_, ([] : List (Int × disk_sector)), r44.2.off_, r44.2.armed_, r44.2.left_, r44.2.fall_, r44.2.acts_, r44.2.falls_⟩ : disk_Disk)) (fun (r50 : Bool × disk_Disk) => if !r50.1 then (Option.bind (F.disk_Disk_Image) (fun (r53 : ByteArray) => if seqB r53 (ByteArray.mk #[]) then (Option.bind (F.disk_Disk_Stamp x0 (⟨r50.2.sure_, ([] : List (Int × disk_sector)), r50.2.off_, r50.2.armed_, r50.2.left_, r50.2.fall_, r50.2.acts_, r50.2.falls_⟩ : disk_Disk)) (fun (r56 : Int × disk_Disk) => Option.bind (F.disk_Disk_Acts) (fun (r58 : Int) => Option.bind (F.disk_Disk_Falls (⟨r56.2.sure_, ([] : List (Int × disk_sector)), r56.2.off_, r56.2.armed_, r56.2.left_, r56.2.fall_, r56.2.acts_, r56.2.falls_⟩ : disk_Disk)) (fun (r60 : Int) => Option.bind (F.disk_Disk_Size_1) (fun (r62 : Int) => Option.bind (F.disk_Disk_Waiting_1 (⟨(⟨r56.2.sure_, ([] : List (Int × disk_sector)), r56.2.off_, r56.2.armed_, r56.2.left_, r56.2.fall_, r56.2.acts_, r56.2.falls_⟩ : disk_Disk).sure_, ([] : List (Int × disk_sector)), (⟨r56.2.sure_, ([] : List (Int × disk_sector)), r56.2.off_, r56.2.armed_, r56.2.left_, r56.2.fall_, r56.2.acts_, r56.2.falls_⟩ : disk_Disk).off_, (⟨r56.2.sure_, ([] : List (Int × disk_sector)), r56.2.off_, r56.2.armed_, r56.2.left_, r56.2.fall_, r56.2.acts_, r56.2.falls_⟩ : disk_Disk).armed_, (⟨r56.2.sure_, ([] : List (Int × disk_sector)), r56.2.off_, r56.2.armed_, r56.2.left_, r56.2.fall_, r56.2.acts_, r56.2.falls_⟩ : disk_Disk).left_, (⟨r56.2.sure_, ([] : List (Int × disk_sector)), r56.2.off_, r56.2.armed_, r56.2.left_, r56.2.fall_, r56.2.acts_, r56.2.falls_⟩ : disk_Disk).fall_, (⟨r56.2.sure_, ([] : List (Int × disk_sector)), r56.2.off_, r56.2.armed_, r56.2.left_, r56.2.fall_, r56.2.acts_, r56.2.falls_⟩ : disk_Disk).acts_, (⟨r56.2.sure_, ([] : List (Int × disk_sector)), r56.2.off_, r56.2.armed_, r56.2.left_, r56.2.fall_, r56.2.acts_, r56.2.falls_⟩ : disk_Disk).falls_⟩ : disk_Disk)) (fun (r64 : (List Int) × disk_Disk) => if (IntKind.i64.wrap ((IntKind.i64.wrap ((IntKind.i64.wrap ((IntKind.i64.wrap (r56.1 + r58)) + r60)) + r62)) + (r64.1.length : Int))) == 0 then (Option.bind (F.law09_awake) (fun (r68 : Bool) => some (r68))) else (some (false)))))))) else (some (false)))) else (some (false)))) else (some (false)))) else (some (false)))) else (some (false)))) else (some (false)))) else (some (false)))) else (some (false))) else (some (false))))))
set_option maxRecDepth 100000 in
set_option maxHeartbeats 4000000 in
theorem c_law09_DiskNobody (I : Hl) (x0 : Int) (x1 : disk_Fall) (res : Bool) (hF : F.law09_DiskNobody x0 x1 = some res) : Tr Try.prog 5 [.int .i64 x0, .agg #[.int .u64 x1.Keep, .int .i64 x1.Tear]] [imm I] (fun r H' => r = .bool res ∧ H' = [imm I]) := by
  unfold F.law09_DiskNobody at hF
  refine tr_of_cw (fn := Try.f5) Try.func5 rfl (Nat.le_of_ble_eq_true rfl) 86 rfl fun F0 w0 => ?_
  refine cw_keep [0, 1] (L' := [(0, .int .i64 x0), (1, .agg #[.int .u64 x1.Keep, .int .i64 x1.Tear])]) rfl ?_
  refine cw_state (S' := SAT w0 ([imm I] ++ F0)) (fun w hs => hs) ?_
  refine cw_seq ?_
  refine cw_region ?_
  refine ow_pw rfl (pw_box (cs := #[.int .u64 x1.Keep, .int .i64 x1.Tear]) rfl rfl rfl rfl rfl rfl fun b21 => nw_ow ?_)
  refine ow_vals 1 (j := 2) [0, 3] [(0, .int .i64 x0), (3, .pointer (some ⟨b21, 0, none⟩))] rfl (by kernel_rfl) ?_
  refine ow_end rfl ?_
  refine ew_then ?_
  refine cw_seq ?_
  refine cw_region ?_
  refine ow_vals 1 (j := 1) [0, 3, 5] [(0, .int .i64 x0), (3, .pointer (some ⟨b21, 0, none⟩)), (5, .pointer none)] rfl (by kernel_rfl) ?_
  refine ow_end rfl ?_
  refine ew_then ?_
  refine cw_seq ?_
  refine cw_region ?_
  refine ow_pw rfl (pw_alloc (cs := #[.slice none 0 0, .map none, .bool false, .bool false, .int .i64 0, .int .u64 0, .int .i64 0, .int .i64 0, .int .i64 0]) rfl rfl rfl rfl rfl (by kernel_rfl) fun b23 => nw_ow ?_)
  refine ow_end rfl ?_
  refine ew_then ?_
  refine cw_seq ?_
  refine cw_region ?_
  refine ow_vals 1 (j := 1) [0, 3, 5, 6, 11] [(0, .int .i64 x0), (3, .pointer (some ⟨b21, 0, none⟩)), (5, .pointer none), (6, .pointer (some ⟨b23, 0, none⟩)), (11, .pointer none)] rfl (by kernel_rfl) ?_
  obtain ⟨r25, h26, hF⟩ := bind_some hF
  refine ow_pw rfl (pw_call (F := [pt b23 #[.slice none 0 0, .map none, .bool false, .bool false, .int .i64 0, .int .u64 0, .int .i64 0, .int .i64 0, .int .i64 0] 43, pt b21 #[.int .u64 x1.Keep, .int .i64 x1.Tear] 34] ++ F0) rfl rfl rfl rfl rfl rfl rfl (by kernel_rfl) (perm_of_pulls [2] rfl) (c_disk_Disk_Calm _ r25 h26) ?_)
  rintro _ _ ⟨rfl, rfl⟩
  refine nw_H (H' := [imm I, pt b23 #[.slice none 0 0, .map none, .bool false, .bool false, .int .i64 0, .int .u64 0, .int .i64 0, .int .i64 0, .int .i64 0] 43, pt b21 #[.int .u64 x1.Keep, .int .i64 x1.Tear] 34] ++ F0) rfl (nw_ow ?_)
  refine ow_end rfl ?_
  refine ew_then ?_
  refine cw_seq ?_
  refine cw_region ?_
  obtain ⟨r27, h28, hF⟩ := bind_some hF
  refine ow_pw rfl (pw_call (F := [pt b21 #[.int .u64 x1.Keep, .int .i64 x1.Tear] 34] ++ F0) rfl rfl rfl rfl rfl rfl rfl (by kernel_rfl) (perm_of_pulls [0, 0] rfl) (c_disk_Disk_Calm_1 _ (⟨([] : List disk_sector), ([] : List (Int × disk_sector)), false, false, 0, (⟨0, 0⟩ : disk_Fall), 0, 0⟩ : disk_Disk) none 0 b23 r27 h28 (ro_nil _ _)) ?_)
  rintro _ _ ⟨r27_p1, r27_c2, rfl, rfl, r27_h3⟩
  refine nw_H (H' := [imm I, pt b23 #[.slice r27_p1 r27.sure_.length r27_c2, .map none, .bool r27.off_, .bool r27.armed_, .int .i64 r27.left_, .int .u64 r27.fall_.Keep, .int .i64 r27.fall_.Tear, .int .i64 r27.acts_, .int .i64 r27.falls_] 43, pt b21 #[.int .u64 x1.Keep, .int .i64 x1.Tear] 34] ++ F0) rfl (nw_ow ?_)
  refine ow_end rfl ?_
  refine ew_then ?_
  refine cw_seq ?_
  refine cw_region ?_
  refine ow_vals 2 (j := 2) [0, 3, 5, 6, 15, 16] [(0, .int .i64 x0), (3, .pointer (some ⟨b21, 0, none⟩)), (5, .pointer none), (6, .pointer (some ⟨b23, 0, none⟩)), (15, .pointer none), (16, .int .i64 x0)] rfl (by kernel_rfl) ?_
  obtain ⟨r29, h30, hF⟩ := bind_some hF
  refine ow_pw rfl (pw_call (F := [pt b23 #[.slice r27_p1 r27.sure_.length r27_c2, .map none, .bool r27.off_, .bool r27.armed_, .int .i64 r27.left_, .int .u64 r27.fall_.Keep, .int .i64 r27.fall_.Tear, .int .i64 r27.acts_, .int .i64 r27.falls_] 43, pt b21 #[.int .u64 x1.Keep, .int .i64 x1.Tear] 34] ++ F0) rfl rfl rfl rfl rfl rfl rfl (by kernel_rfl) (perm_of_pulls [0] rfl) (c_disk_Disk_Read_1 _ x0 r29 h30) ?_)
  rintro _ _ ⟨rfl, rfl⟩
  refine nw_H (H' := [imm I, pt b23 #[.slice r27_p1 r27.sure_.length r27_c2, .map none, .bool r27.off_, .bool r27.armed_, .int .i64 r27.left_, .int .u64 r27.fall_.Keep, .int .i64 r27.fall_.Tear, .int .i64 r27.acts_, .int .i64 r27.falls_] 43, pt b21 #[.int .u64 x1.Keep, .int .i64 x1.Tear] 34] ++ F0) rfl (nw_ow ?_)
  refine ow_vals 5 (j := 8) [0, 3, 5, 6, 8] [(0, .int .i64 x0), (3, .pointer (some ⟨b21, 0, none⟩)), (5, .pointer none), (6, .pointer (some ⟨b23, 0, none⟩)), (8, .int .i64 r29.2)] rfl (by kernel_rfl) ?_
  refine ow_end rfl ?_
  refine ew_then ?_
  refine cw_seq ?_
  refine cw_region ?_
  refine ow_vals 1 (j := 1) [0, 3, 5, 6, 8, 21] [(0, .int .i64 x0), (3, .pointer (some ⟨b21, 0, none⟩)), (5, .pointer none), (6, .pointer (some ⟨b23, 0, none⟩)), (8, .int .i64 r29.2), (21, .int .i64 x0)] rfl (by kernel_rfl) ?_
  obtain ⟨r31, h32, hF⟩ := bind_some hF
  refine ow_pw rfl (pw_call (F := [pt b21 #[.int .u64 x1.Keep, .int .i64 x1.Tear] 34] ++ F0) rfl rfl rfl rfl rfl rfl rfl (by kernel_rfl) (perm_of_pulls [0, 0] rfl) (c_disk_Disk_Read_2 _ x0 (⟨r27.sure_, ([] : List (Int × disk_sector)), r27.off_, r27.armed_, r27.left_, r27.fall_, r27.acts_, r27.falls_⟩ : disk_Disk) r27_p1 r27_c2 b23 r31 h32 r27_h3) ?_)
  rintro _ _ ⟨r31_p1, r31_c2, rfl, rfl, r31_h3⟩
  refine nw_H (H' := [imm I, pt b23 #[.slice r31_p1 r31.2.2.sure_.length r31_c2, .map none, .bool r31.2.2.off_, .bool r31.2.2.armed_, .int .i64 r31.2.2.left_, .int .u64 r31.2.2.fall_.Keep, .int .i64 r31.2.2.fall_.Tear, .int .i64 r31.2.2.acts_, .int .i64 r31.2.2.falls_] 43, pt b21 #[.int .u64 x1.Keep, .int .i64 x1.Tear] 34] ++ F0) rfl (nw_ow ?_)
  refine ow_vals 5 (j := 7) [0, 3, 5, 6, 8, 10] [(0, .int .i64 x0), (3, .pointer (some ⟨b21, 0, none⟩)), (5, .pointer none), (6, .pointer (some ⟨b23, 0, none⟩)), (8, .int .i64 r29.2), (10, .int .i64 r31.2.1)] rfl (by kernel_rfl) ?_
  refine ow_end rfl ?_
  refine ew_then ?_
  refine cw_seq ?_
  refine cw_region ?_
  refine ow_vals 3 (j := 3) [0, 3, 5, 6, 10, 27] [(0, .int .i64 x0), (3, .pointer (some ⟨b21, 0, none⟩)), (5, .pointer none), (6, .pointer (some ⟨b23, 0, none⟩)), (10, .int .i64 r31.2.1), (27, .bool (r29.2 == 9))] rfl (by kernel_rfl) ?_
  rcases if_some hF with ⟨h33, hF⟩ | ⟨h33, hF⟩
  · refine ow_slots (L' := [(0, .int .i64 x0), (3, .pointer (some ⟨b21, 0, none⟩)), (5, .pointer none), (6, .pointer (some ⟨b23, 0, none⟩)), (10, .int .i64 r31.2.1), (27, .bool true)]) (by rw [h33]) ?_
    refine ow_vals 4 (j := 7) [0, 3, 5, 6, 31] [(0, .int .i64 x0), (3, .pointer (some ⟨b21, 0, none⟩)), (5, .pointer none), (6, .pointer (some ⟨b23, 0, none⟩)), (31, .bool (r31.2.1 == 9))] rfl (by kernel_rfl) ?_
    rcases if_some hF with ⟨h34, hF⟩ | ⟨h34, hF⟩
    · refine ow_slots (L' := [(0, .int .i64 x0), (3, .pointer (some ⟨b21, 0, none⟩)), (5, .pointer none), (6, .pointer (some ⟨b23, 0, none⟩)), (31, .bool true)]) (by rw [h34]) ?_
      refine ow_vals 2 (j := 9) [0, 3, 5, 6, 31, 32, 33] [(0, .int .i64 x0), (3, .pointer (some ⟨b21, 0, none⟩)), (5, .pointer none), (6, .pointer (some ⟨b23, 0, none⟩)), (31, .bool true), (32, .pointer none), (33, .int .i64 x0)] rfl (by kernel_rfl) ?_
      obtain ⟨r35, h36, hF⟩ := bind_some hF
      refine ow_pw rfl (pw_call (F := [pt b23 #[.slice r31_p1 r31.2.2.sure_.length r31_c2, .map none, .bool r31.2.2.off_, .bool r31.2.2.armed_, .int .i64 r31.2.2.left_, .int .u64 r31.2.2.fall_.Keep, .int .i64 r31.2.2.fall_.Tear, .int .i64 r31.2.2.acts_, .int .i64 r31.2.2.falls_] 43, pt b21 #[.int .u64 x1.Keep, .int .i64 x1.Tear] 34] ++ F0) rfl rfl rfl rfl rfl rfl rfl (by kernel_rfl) (perm_of_pulls [0] rfl) (c_disk_Disk_Write_1 _ x0 (ByteArray.mk #[]) r35 h36) ?_)
      rintro _ _ ⟨rfl, rfl⟩
      refine nw_H (H' := [imm I, pt b23 #[.slice r31_p1 r31.2.2.sure_.length r31_c2, .map none, .bool r31.2.2.off_, .bool r31.2.2.armed_, .int .i64 r31.2.2.left_, .int .u64 r31.2.2.fall_.Keep, .int .i64 r31.2.2.fall_.Tear, .int .i64 r31.2.2.acts_, .int .i64 r31.2.2.falls_] 43, pt b21 #[.int .u64 x1.Keep, .int .i64 x1.Tear] 34] ++ F0) rfl (nw_ow ?_)
      refine ow_vals 3 (j := 13) [0, 3, 5, 6, 37] [(0, .int .i64 x0), (3, .pointer (some ⟨b21, 0, none⟩)), (5, .pointer none), (6, .pointer (some ⟨b23, 0, none⟩)), (37, .bool (r35 == 9))] rfl (by kernel_rfl) ?_
      rcases if_some hF with ⟨h37, hF⟩ | ⟨h37, hF⟩
      · refine ow_slots (L' := [(0, .int .i64 x0), (3, .pointer (some ⟨b21, 0, none⟩)), (5, .pointer none), (6, .pointer (some ⟨b23, 0, none⟩)), (37, .bool true)]) (by rw [h37]) ?_
        obtain ⟨r38, h39, hF⟩ := bind_some hF
        refine ow_pw rfl (pw_call (F := [pt b21 #[.int .u64 x1.Keep, .int .i64 x1.Tear] 34] ++ F0) rfl rfl rfl rfl rfl rfl rfl (by kernel_rfl) (perm_of_pulls [0, 0] rfl) (c_disk_Disk_Flush_1 _ (⟨r31.2.2.sure_, ([] : List (Int × disk_sector)), r31.2.2.off_, r31.2.2.armed_, r31.2.2.left_, r31.2.2.fall_, r31.2.2.acts_, r31.2.2.falls_⟩ : disk_Disk) r31_p1 r31_c2 b23 r38 h39 r31_h3) ?_)
        rintro _ _ ⟨r38_p1, r38_c2, rfl, rfl, r38_h3⟩
        refine nw_H (H' := [imm I, pt b23 #[.slice r38_p1 r38.2.sure_.length r38_c2, .map none, .bool r38.2.off_, .bool r38.2.armed_, .int .i64 r38.2.left_, .int .u64 r38.2.fall_.Keep, .int .i64 r38.2.fall_.Tear, .int .i64 r38.2.acts_, .int .i64 r38.2.falls_] 43, pt b21 #[.int .u64 x1.Keep, .int .i64 x1.Tear] 34] ++ F0) rfl (nw_ow ?_)
        refine ow_vals 3 (j := 17) [0, 3, 5, 6, 41] [(0, .int .i64 x0), (3, .pointer (some ⟨b21, 0, none⟩)), (5, .pointer none), (6, .pointer (some ⟨b23, 0, none⟩)), (41, .bool (r38.1 == 9))] rfl (by kernel_rfl) ?_
        rcases if_some hF with ⟨h40, hF⟩ | ⟨h40, hF⟩
        · refine ow_slots (L' := [(0, .int .i64 x0), (3, .pointer (some ⟨b21, 0, none⟩)), (5, .pointer none), (6, .pointer (some ⟨b23, 0, none⟩)), (41, .bool true)]) (by rw [h40]) ?_
          refine ow_vals 1 (j := 18) [0, 3, 5, 6, 41, 42] [(0, .int .i64 x0), (3, .pointer (some ⟨b21, 0, none⟩)), (5, .pointer none), (6, .pointer (some ⟨b23, 0, none⟩)), (41, .bool true), (42, .pointer none)] rfl (by kernel_rfl) ?_
          refine ow_pw rfl (pw_quiet (v := .agg #[.int .u64 x1.Keep, .int .i64 x1.Tear]) rfl rfl rfl rfl (q_load 2 rfl rfl rfl (by kernel_rfl)) (nw_ow ?_))
          obtain ⟨r41, h42, hF⟩ := bind_some hF
          refine ow_pw rfl (pw_call (F := [pt b23 #[.slice r38_p1 r38.2.sure_.length r38_c2, .map none, .bool r38.2.off_, .bool r38.2.armed_, .int .i64 r38.2.left_, .int .u64 r38.2.fall_.Keep, .int .i64 r38.2.fall_.Tear, .int .i64 r38.2.acts_, .int .i64 r38.2.falls_] 43, pt b21 #[.int .u64 x1.Keep, .int .i64 x1.Tear] 34] ++ F0) rfl rfl rfl rfl rfl rfl rfl (by kernel_rfl) (perm_of_pulls [0] rfl) (c_disk_Disk_Crash_1 _ x1 r41 h42) ?_)
          rintro _ _ ⟨rfl, rfl⟩
          refine nw_H (H' := [imm I, pt b23 #[.slice r38_p1 r38.2.sure_.length r38_c2, .map none, .bool r38.2.off_, .bool r38.2.armed_, .int .i64 r38.2.left_, .int .u64 r38.2.fall_.Keep, .int .i64 r38.2.fall_.Tear, .int .i64 r38.2.acts_, .int .i64 r38.2.falls_] 43, pt b21 #[.int .u64 x1.Keep, .int .i64 x1.Tear] 34] ++ F0) rfl (nw_ow ?_)
          refine ow_vals 3 (j := 23) [0, 3, 5, 6, 47] [(0, .int .i64 x0), (3, .pointer (some ⟨b21, 0, none⟩)), (5, .pointer none), (6, .pointer (some ⟨b23, 0, none⟩)), (47, .bool (r41 == 9))] rfl (by kernel_rfl) ?_
          rcases if_some hF with ⟨h43, hF⟩ | ⟨h43, hF⟩
          · refine ow_slots (L' := [(0, .int .i64 x0), (3, .pointer (some ⟨b21, 0, none⟩)), (5, .pointer none), (6, .pointer (some ⟨b23, 0, none⟩)), (47, .bool true)]) (by rw [h43]) ?_
            refine ow_vals 1 (j := 24) [0, 3, 5, 6, 47, 48] [(0, .int .i64 x0), (3, .pointer (some ⟨b21, 0, none⟩)), (5, .pointer none), (6, .pointer (some ⟨b23, 0, none⟩)), (47, .bool true), (48, .int .i64 x0)] rfl (by kernel_rfl) ?_
            refine ow_pw rfl (pw_quiet (v := .agg #[.int .u64 x1.Keep, .int .i64 x1.Tear]) rfl rfl rfl rfl (q_load 2 rfl rfl rfl (by kernel_rfl)) (nw_ow ?_))
            obtain ⟨r44, h45, hF⟩ := bind_some hF
            refine ow_pw rfl (pw_call (F := [pt b21 #[.int .u64 x1.Keep, .int .i64 x1.Tear] 34] ++ F0) rfl rfl rfl rfl rfl rfl rfl (by kernel_rfl) (perm_of_pulls [0, 0] rfl) (c_disk_Disk_Arm _ x0 x1 (⟨r38.2.sure_, ([] : List (Int × disk_sector)), r38.2.off_, r38.2.armed_, r38.2.left_, r38.2.fall_, r38.2.acts_, r38.2.falls_⟩ : disk_Disk) r38_p1 r38_c2 b23 r44 h45 r38_h3) ?_)
            rintro _ _ ⟨r44_p1, r44_c2, rfl, rfl, r44_h3⟩
            refine nw_H (H' := [imm I, pt b23 #[.slice r44_p1 r44.2.sure_.length r44_c2, .map none, .bool r44.2.off_, .bool r44.2.armed_, .int .i64 r44.2.left_, .int .u64 r44.2.fall_.Keep, .int .i64 r44.2.fall_.Tear, .int .i64 r44.2.acts_, .int .i64 r44.2.falls_] 43, pt b21 #[.int .u64 x1.Keep, .int .i64 x1.Tear] 34] ++ F0) rfl (nw_ow ?_)
            refine ow_vals 3 (j := 29) [0, 5, 6, 53] [(0, .int .i64 x0), (5, .pointer none), (6, .pointer (some ⟨b23, 0, none⟩)), (53, .bool (r44.1 == 9))] rfl (by kernel_rfl) ?_
            rcases if_some hF with ⟨h46, hF⟩ | ⟨h46, hF⟩
            · refine ow_slots (L' := [(0, .int .i64 x0), (5, .pointer none), (6, .pointer (some ⟨b23, 0, none⟩)), (53, .bool true)]) (by rw [h46]) ?_
              refine ow_vals 1 (j := 30) [0, 5, 6, 53, 54] [(0, .int .i64 x0), (5, .pointer none), (6, .pointer (some ⟨b23, 0, none⟩)), (53, .bool true), (54, .pointer none)] rfl (by kernel_rfl) ?_
              obtain ⟨r47, h48, hF⟩ := bind_some hF
              refine ow_pw rfl (pw_call (F := [pt b23 #[.slice r44_p1 r44.2.sure_.length r44_c2, .map none, .bool r44.2.off_, .bool r44.2.armed_, .int .i64 r44.2.left_, .int .u64 r44.2.fall_.Keep, .int .i64 r44.2.fall_.Tear, .int .i64 r44.2.acts_, .int .i64 r44.2.falls_] 43, pt b21 #[.int .u64 x1.Keep, .int .i64 x1.Tear] 34] ++ F0) rfl rfl rfl rfl rfl rfl rfl (by kernel_rfl) (perm_of_pulls [0] rfl) (c_disk_Disk_Start_1 _ r47 h48) ?_)
              rintro _ _ ⟨rfl, rfl⟩
              refine nw_H (H' := [imm I, pt b23 #[.slice r44_p1 r44.2.sure_.length r44_c2, .map none, .bool r44.2.off_, .bool r44.2.armed_, .int .i64 r44.2.left_, .int .u64 r44.2.fall_.Keep, .int .i64 r44.2.fall_.Tear, .int .i64 r44.2.acts_, .int .i64 r44.2.falls_] 43, pt b21 #[.int .u64 x1.Keep, .int .i64 x1.Tear] 34] ++ F0) rfl (nw_ow ?_)
              refine ow_vals 3 (j := 34) [0, 5, 6, 58] [(0, .int .i64 x0), (5, .pointer none), (6, .pointer (some ⟨b23, 0, none⟩)), (58, .bool (r47 == 9))] rfl (by kernel_rfl) ?_
              rcases if_some hF with ⟨h49, hF⟩ | ⟨h49, hF⟩
              · refine ow_slots (L' := [(0, .int .i64 x0), (5, .pointer none), (6, .pointer (some ⟨b23, 0, none⟩)), (58, .bool true)]) (by rw [h49]) ?_
                obtain ⟨r50, h51, hF⟩ := bind_some hF
                refine ow_pw rfl (pw_call (F := [pt b21 #[.int .u64 x1.Keep, .int .i64 x1.Tear] 34] ++ F0) rfl rfl rfl rfl rfl rfl rfl (by kernel_rfl) (perm_of_pulls [0, 0] rfl) (c_disk_Disk_Up _ (⟨r44.2.sure_, ([] : List (Int × disk_sector)), r44.2.off_, r44.2.armed_, r44.2.left_, r44.2.fall_, r44.2.acts_, r44.2.falls_⟩ : disk_Disk) r44_p1 r44_c2 b23 r50 h51 r44_h3) ?_)
                rintro _ _ ⟨r50_p1, r50_c2, rfl, rfl, r50_h3⟩
                refine nw_H (H' := [imm I, pt b23 #[.slice r50_p1 r50.2.sure_.length r50_c2, .map none, .bool r50.2.off_, .bool r50.2.armed_, .int .i64 r50.2.left_, .int .u64 r50.2.fall_.Keep, .int .i64 r50.2.fall_.Tear, .int .i64 r50.2.acts_, .int .i64 r50.2.falls_] 43, pt b21 #[.int .u64 x1.Keep, .int .i64 x1.Tear] 34] ++ F0) rfl (nw_ow ?_)
                refine ow_vals 3 (j := 38) [0, 5, 6, 62] [(0, .int .i64 x0), (5, .pointer none), (6, .pointer (some ⟨b23, 0, none⟩)), (62, .bool (!r50.1))] rfl (by kernel_rfl) ?_
                rcases if_some hF with ⟨h52, hF⟩ | ⟨h52, hF⟩
                · refine ow_slots (L' := [(0, .int .i64 x0), (5, .pointer none), (6, .pointer (some ⟨b23, 0, none⟩)), (62, .bool true)]) (by rw [h52]) ?_
                  refine ow_vals 1 (j := 39) [0, 5, 6, 62, 63] [(0, .int .i64 x0), (5, .pointer none), (6, .pointer (some ⟨b23, 0, none⟩)), (62, .bool true), (63, .pointer none)] rfl (by kernel_rfl) ?_
                  obtain ⟨r53, h54, hF⟩ := bind_some hF
                  refine ow_pw rfl (pw_call (F := [pt b23 #[.slice r50_p1 r50.2.sure_.length r50_c2, .map none, .bool r50.2.off_, .bool r50.2.armed_, .int .i64 r50.2.left_, .int .u64 r50.2.fall_.Keep, .int .i64 r50.2.fall_.Tear, .int .i64 r50.2.acts_, .int .i64 r50.2.falls_] 43, pt b21 #[.int .u64 x1.Keep, .int .i64 x1.Tear] 34] ++ F0) rfl rfl rfl rfl rfl rfl rfl (by kernel_rfl) (perm_of_pulls [0] rfl) (c_disk_Disk_Image _ r53 h54) ?_)
                  rintro _ _ ⟨rfl, rfl⟩
                  refine nw_H (H' := [imm I, pt b23 #[.slice r50_p1 r50.2.sure_.length r50_c2, .map none, .bool r50.2.off_, .bool r50.2.armed_, .int .i64 r50.2.left_, .int .u64 r50.2.fall_.Keep, .int .i64 r50.2.fall_.Tear, .int .i64 r50.2.acts_, .int .i64 r50.2.falls_] 43, pt b21 #[.int .u64 x1.Keep, .int .i64 x1.Tear] 34] ++ F0) rfl (nw_ow ?_)
                  refine ow_vals 3 (j := 43) [0, 5, 6, 67] [(0, .int .i64 x0), (5, .pointer none), (6, .pointer (some ⟨b23, 0, none⟩)), (67, .bool (seqB r53 (ByteArray.mk #[])))] rfl (by kernel_rfl) ?_
                  rcases if_some hF with ⟨h55, hF⟩ | ⟨h55, hF⟩
                  · refine ow_slots (L' := [(0, .int .i64 x0), (5, .pointer none), (6, .pointer (some ⟨b23, 0, none⟩)), (67, .bool true)]) (by rw [h55]) ?_
                    refine ow_vals 1 (j := 44) [5, 6, 67, 68] [(5, .pointer none), (6, .pointer (some ⟨b23, 0, none⟩)), (67, .bool true), (68, .int .i64 x0)] rfl (by kernel_rfl) ?_
                    obtain ⟨r56, h57, hF⟩ := bind_some hF
                    refine ow_pw rfl (pw_call (F := [pt b21 #[.int .u64 x1.Keep, .int .i64 x1.Tear] 34] ++ F0) rfl rfl rfl rfl rfl rfl rfl (by kernel_rfl) (perm_of_pulls [0, 0] rfl) (c_disk_Disk_Stamp _ x0 (⟨r50.2.sure_, ([] : List (Int × disk_sector)), r50.2.off_, r50.2.armed_, r50.2.left_, r50.2.fall_, r50.2.acts_, r50.2.falls_⟩ : disk_Disk) r50_p1 r50_c2 b23 r56 h57 r50_h3) ?_)
                    rintro _ _ ⟨r56_p1, r56_c2, rfl, rfl, r56_h3⟩
                    refine nw_H (H' := [imm I, pt b23 #[.slice r56_p1 r56.2.sure_.length r56_c2, .map none, .bool r56.2.off_, .bool r56.2.armed_, .int .i64 r56.2.left_, .int .u64 r56.2.fall_.Keep, .int .i64 r56.2.fall_.Tear, .int .i64 r56.2.acts_, .int .i64 r56.2.falls_] 43, pt b21 #[.int .u64 x1.Keep, .int .i64 x1.Tear] 34] ++ F0) rfl (nw_ow ?_)
                    refine ow_vals 1 (j := 46) [5, 6, 67, 69, 70] [(5, .pointer none), (6, .pointer (some ⟨b23, 0, none⟩)), (67, .bool true), (69, .int .i64 r56.1), (70, .pointer none)] rfl (by kernel_rfl) ?_
                    obtain ⟨r58, h59, hF⟩ := bind_some hF
                    refine ow_pw rfl (pw_call (F := [pt b23 #[.slice r56_p1 r56.2.sure_.length r56_c2, .map none, .bool r56.2.off_, .bool r56.2.armed_, .int .i64 r56.2.left_, .int .u64 r56.2.fall_.Keep, .int .i64 r56.2.fall_.Tear, .int .i64 r56.2.acts_, .int .i64 r56.2.falls_] 43, pt b21 #[.int .u64 x1.Keep, .int .i64 x1.Tear] 34] ++ F0) rfl rfl rfl rfl rfl rfl rfl (by kernel_rfl) (perm_of_pulls [0] rfl) (c_disk_Disk_Acts _ r58 h59) ?_)
                    rintro _ _ ⟨rfl, rfl⟩
                    refine nw_H (H' := [imm I, pt b23 #[.slice r56_p1 r56.2.sure_.length r56_c2, .map none, .bool r56.2.off_, .bool r56.2.armed_, .int .i64 r56.2.left_, .int .u64 r56.2.fall_.Keep, .int .i64 r56.2.fall_.Tear, .int .i64 r56.2.acts_, .int .i64 r56.2.falls_] 43, pt b21 #[.int .u64 x1.Keep, .int .i64 x1.Tear] 34] ++ F0) rfl (nw_ow ?_)
                    refine ow_vals 1 (j := 48) [5, 6, 67, 72] [(5, .pointer none), (6, .pointer (some ⟨b23, 0, none⟩)), (67, .bool true), (72, .int .i64 (IntKind.i64.wrap (r56.1 + r58)))] rfl (by kernel_rfl) ?_
                    obtain ⟨r60, h61, hF⟩ := bind_some hF
                    refine ow_pw rfl (pw_call (F := [pt b21 #[.int .u64 x1.Keep, .int .i64 x1.Tear] 34] ++ F0) rfl rfl rfl rfl rfl rfl rfl (by kernel_rfl) (perm_of_pulls [0, 0] rfl) (c_disk_Disk_Falls _ (⟨r56.2.sure_, ([] : List (Int × disk_sector)), r56.2.off_, r56.2.armed_, r56.2.left_, r56.2.fall_, r56.2.acts_, r56.2.falls_⟩ : disk_Disk) r56_p1 r56_c2 b23 r60 h61 r56_h3) ?_)
                    rintro _ _ ⟨rfl, rfl⟩
                    refine nw_H (H' := [imm I, pt b23 #[.slice r56_p1 ((⟨r56.2.sure_, ([] : List (Int × disk_sector)), r56.2.off_, r56.2.armed_, r56.2.left_, r56.2.fall_, r56.2.acts_, r56.2.falls_⟩ : disk_Disk).sure_).length r56_c2, .map none, .bool ((⟨r56.2.sure_, ([] : List (Int × disk_sector)), r56.2.off_, r56.2.armed_, r56.2.left_, r56.2.fall_, r56.2.acts_, r56.2.falls_⟩ : disk_Disk).off_), .bool ((⟨r56.2.sure_, ([] : List (Int × disk_sector)), r56.2.off_, r56.2.armed_, r56.2.left_, r56.2.fall_, r56.2.acts_, r56.2.falls_⟩ : disk_Disk).armed_), .int .i64 ((⟨r56.2.sure_, ([] : List (Int × disk_sector)), r56.2.off_, r56.2.armed_, r56.2.left_, r56.2.fall_, r56.2.acts_, r56.2.falls_⟩ : disk_Disk).left_), .int .u64 ((⟨r56.2.sure_, ([] : List (Int × disk_sector)), r56.2.off_, r56.2.armed_, r56.2.left_, r56.2.fall_, r56.2.acts_, r56.2.falls_⟩ : disk_Disk).fall_.Keep), .int .i64 ((⟨r56.2.sure_, ([] : List (Int × disk_sector)), r56.2.off_, r56.2.armed_, r56.2.left_, r56.2.fall_, r56.2.acts_, r56.2.falls_⟩ : disk_Disk).fall_.Tear), .int .i64 ((⟨r56.2.sure_, ([] : List (Int × disk_sector)), r56.2.off_, r56.2.armed_, r56.2.left_, r56.2.fall_, r56.2.acts_, r56.2.falls_⟩ : disk_Disk).acts_), .int .i64 ((⟨r56.2.sure_, ([] : List (Int × disk_sector)), r56.2.off_, r56.2.armed_, r56.2.left_, r56.2.fall_, r56.2.acts_, r56.2.falls_⟩ : disk_Disk).falls_)] 43, pt b21 #[.int .u64 x1.Keep, .int .i64 x1.Tear] 34] ++ F0) rfl (nw_ow ?_)
                    refine ow_vals 2 (j := 51) [6, 67, 74, 75] [(6, .pointer (some ⟨b23, 0, none⟩)), (67, .bool true), (74, .int .i64 (IntKind.i64.wrap ((IntKind.i64.wrap (r56.1 + r58)) + r60))), (75, .pointer none)] rfl (by kernel_rfl) ?_
                    obtain ⟨r62, h63, hF⟩ := bind_some hF
                    refine ow_pw rfl (pw_call (F := [pt b23 #[.slice r56_p1 ((⟨r56.2.sure_, ([] : List (Int × disk_sector)), r56.2.off_, r56.2.armed_, r56.2.left_, r56.2.fall_, r56.2.acts_, r56.2.falls_⟩ : disk_Disk).sure_).length r56_c2, .map none, .bool ((⟨r56.2.sure_, ([] : List (Int × disk_sector)), r56.2.off_, r56.2.armed_, r56.2.left_, r56.2.fall_, r56.2.acts_, r56.2.falls_⟩ : disk_Disk).off_), .bool ((⟨r56.2.sure_, ([] : List (Int × disk_sector)), r56.2.off_, r56.2.armed_, r56.2.left_, r56.2.fall_, r56.2.acts_, r56.2.falls_⟩ : disk_Disk).armed_), .int .i64 ((⟨r56.2.sure_, ([] : List (Int × disk_sector)), r56.2.off_, r56.2.armed_, r56.2.left_, r56.2.fall_, r56.2.acts_, r56.2.falls_⟩ : disk_Disk).left_), .int .u64 ((⟨r56.2.sure_, ([] : List (Int × disk_sector)), r56.2.off_, r56.2.armed_, r56.2.left_, r56.2.fall_, r56.2.acts_, r56.2.falls_⟩ : disk_Disk).fall_.Keep), .int .i64 ((⟨r56.2.sure_, ([] : List (Int × disk_sector)), r56.2.off_, r56.2.armed_, r56.2.left_, r56.2.fall_, r56.2.acts_, r56.2.falls_⟩ : disk_Disk).fall_.Tear), .int .i64 ((⟨r56.2.sure_, ([] : List (Int × disk_sector)), r56.2.off_, r56.2.armed_, r56.2.left_, r56.2.fall_, r56.2.acts_, r56.2.falls_⟩ : disk_Disk).acts_), .int .i64 ((⟨r56.2.sure_, ([] : List (Int × disk_sector)), r56.2.off_, r56.2.armed_, r56.2.left_, r56.2.fall_, r56.2.acts_, r56.2.falls_⟩ : disk_Disk).falls_)] 43, pt b21 #[.int .u64 x1.Keep, .int .i64 x1.Tear] 34] ++ F0) rfl rfl rfl rfl rfl rfl rfl (by kernel_rfl) (perm_of_pulls [0] rfl) (c_disk_Disk_Size_1 _ r62 h63) ?_)
                    rintro _ _ ⟨rfl, rfl⟩
                    refine nw_H (H' := [imm I, pt b23 #[.slice r56_p1 ((⟨r56.2.sure_, ([] : List (Int × disk_sector)), r56.2.off_, r56.2.armed_, r56.2.left_, r56.2.fall_, r56.2.acts_, r56.2.falls_⟩ : disk_Disk).sure_).length r56_c2, .map none, .bool ((⟨r56.2.sure_, ([] : List (Int × disk_sector)), r56.2.off_, r56.2.armed_, r56.2.left_, r56.2.fall_, r56.2.acts_, r56.2.falls_⟩ : disk_Disk).off_), .bool ((⟨r56.2.sure_, ([] : List (Int × disk_sector)), r56.2.off_, r56.2.armed_, r56.2.left_, r56.2.fall_, r56.2.acts_, r56.2.falls_⟩ : disk_Disk).armed_), .int .i64 ((⟨r56.2.sure_, ([] : List (Int × disk_sector)), r56.2.off_, r56.2.armed_, r56.2.left_, r56.2.fall_, r56.2.acts_, r56.2.falls_⟩ : disk_Disk).left_), .int .u64 ((⟨r56.2.sure_, ([] : List (Int × disk_sector)), r56.2.off_, r56.2.armed_, r56.2.left_, r56.2.fall_, r56.2.acts_, r56.2.falls_⟩ : disk_Disk).fall_.Keep), .int .i64 ((⟨r56.2.sure_, ([] : List (Int × disk_sector)), r56.2.off_, r56.2.armed_, r56.2.left_, r56.2.fall_, r56.2.acts_, r56.2.falls_⟩ : disk_Disk).fall_.Tear), .int .i64 ((⟨r56.2.sure_, ([] : List (Int × disk_sector)), r56.2.off_, r56.2.armed_, r56.2.left_, r56.2.fall_, r56.2.acts_, r56.2.falls_⟩ : disk_Disk).acts_), .int .i64 ((⟨r56.2.sure_, ([] : List (Int × disk_sector)), r56.2.off_, r56.2.armed_, r56.2.left_, r56.2.fall_, r56.2.acts_, r56.2.falls_⟩ : disk_Disk).falls_)] 43, pt b21 #[.int .u64 x1.Keep, .int .i64 x1.Tear] 34] ++ F0) rfl (nw_ow ?_)
                    refine ow_vals 1 (j := 53) [6, 67, 77] [(6, .pointer (some ⟨b23, 0, none⟩)), (67, .bool true), (77, .int .i64 (IntKind.i64.wrap ((IntKind.i64.wrap ((IntKind.i64.wrap (r56.1 + r58)) + r60)) + r62)))] rfl (by kernel_rfl) ?_
                    obtain ⟨r64, h65, hF⟩ := bind_some hF
                    refine ow_pw rfl (pw_call (F := [pt b21 #[.int .u64 x1.Keep, .int .i64 x1.Tear] 34] ++ F0) rfl rfl rfl rfl rfl rfl rfl (by kernel_rfl) (perm_of_pulls [0, 0] rfl) (c_disk_Disk_Waiting_1 _ (⟨(⟨r56.2.sure_, ([] : List (Int × disk_sector)), r56.2.off_, r56.2.armed_, r56.2.left_, r56.2.fall_, r56.2.acts_, r56.2.falls_⟩ : disk_Disk).sure_, ([] : List (Int × disk_sector)), (⟨r56.2.sure_, ([] : List (Int × disk_sector)), r56.2.off_, r56.2.armed_, r56.2.left_, r56.2.fall_, r56.2.acts_, r56.2.falls_⟩ : disk_Disk).off_, (⟨r56.2.sure_, ([] : List (Int × disk_sector)), r56.2.off_, r56.2.armed_, r56.2.left_, r56.2.fall_, r56.2.acts_, r56.2.falls_⟩ : disk_Disk).armed_, (⟨r56.2.sure_, ([] : List (Int × disk_sector)), r56.2.off_, r56.2.armed_, r56.2.left_, r56.2.fall_, r56.2.acts_, r56.2.falls_⟩ : disk_Disk).left_, (⟨r56.2.sure_, ([] : List (Int × disk_sector)), r56.2.off_, r56.2.armed_, r56.2.left_, r56.2.fall_, r56.2.acts_, r56.2.falls_⟩ : disk_Disk).fall_, (⟨r56.2.sure_, ([] : List (Int × disk_sector)), r56.2.off_, r56.2.armed_, r56.2.left_, r56.2.fall_, r56.2.acts_, r56.2.falls_⟩ : disk_Disk).acts_, (⟨r56.2.sure_, ([] : List (Int × disk_sector)), r56.2.off_, r56.2.armed_, r56.2.left_, r56.2.fall_, r56.2.acts_, r56.2.falls_⟩ : disk_Disk).falls_⟩ : disk_Disk) r56_p1 r56_c2 b23 r64 h65 r56_h3) ?_)
                    rintro _ _ ⟨r64_p1, r64_c2, r64_p4, r64_c5, rfl, rfl, r64_h6⟩
                    refine nw_H (H' := [imm I, pt b23 #[.slice r64_p4 r64.2.sure_.length r64_c5, .map none, .bool r64.2.off_, .bool r64.2.armed_, .int .i64 r64.2.left_, .int .u64 r64.2.fall_.Keep, .int .i64 r64.2.fall_.Tear, .int .i64 r64.2.acts_, .int .i64 r64.2.falls_] 43, own (eInt .i64) 3 r64_p1 r64_c2 r64.1, pt b21 #[.int .u64 x1.Keep, .int .i64 x1.Tear] 34] ++ F0) rfl (nw_ow ?_)
                    refine ow_vals 5 (j := 59) [83] [(83, .bool ((IntKind.i64.wrap ((IntKind.i64.wrap ((IntKind.i64.wrap ((IntKind.i64.wrap (r56.1 + r58)) + r60)) + r62)) + (r64.1.length : Int))) == 0))] rfl (by kernel_rfl) ?_
                    rcases if_some hF with ⟨h67, hF⟩ | ⟨h67, hF⟩
                    · refine ow_slots (L' := [(83, .bool true)]) (by rw [h67]) ?_
                      obtain ⟨r68, h69, hF⟩ := bind_some hF
                      refine ow_pw rfl (pw_call (F := [pt b23 #[.slice r64_p4 r64.2.sure_.length r64_c5, .map none, .bool r64.2.off_, .bool r64.2.armed_, .int .i64 r64.2.left_, .int .u64 r64.2.fall_.Keep, .int .i64 r64.2.fall_.Tear, .int .i64 r64.2.acts_, .int .i64 r64.2.falls_] 43, own (eInt .i64) 3 r64_p1 r64_c2 r64.1, pt b21 #[.int .u64 x1.Keep, .int .i64 x1.Tear] 34] ++ F0) rfl rfl rfl rfl rfl rfl rfl (by kernel_rfl) (perm_of_pulls [0] rfl) (c_law09_awake _ r68 h69) ?_)
                      rintro _ _ ⟨rfl, rfl⟩
                      refine nw_H (H' := [imm I, pt b23 #[.slice r64_p4 r64.2.sure_.length r64_c5, .map none, .bool r64.2.off_, .bool r64.2.armed_, .int .i64 r64.2.left_, .int .u64 r64.2.fall_.Keep, .int .i64 r64.2.fall_.Tear, .int .i64 r64.2.acts_, .int .i64 r64.2.falls_] 43, own (eInt .i64) 3 r64_p1 r64_c2 r64.1, pt b21 #[.int .u64 x1.Keep, .int .i64 x1.Tear] 34] ++ F0) rfl (nw_ow ?_)
                      refine ow_vals 2 (j := 62) [4] [(4, .bool r68)] rfl (by kernel_rfl) ?_
                      refine ow_end rfl ?_
                      refine ew_then ?_
                      refine cw_ret ?_
                      have hR := Option.some.inj hF
                      subst hR
                      exact fin1 (H1 := [imm I]) (fun w hs => sat_to [1, 1, 1, 0] 3 rfl hs) rfl (rr_tmp rfl) ⟨rfl, rfl⟩
                    · refine ow_slots (L' := [(83, .bool false)]) (by rw [h67]) ?_
                      refine ow_vals 3 (j := 62) [4] [(4, .bool false)] rfl (by kernel_rfl) ?_
                      refine ow_end rfl ?_
                      refine ew_then ?_
                      refine cw_ret ?_
                      have hR := Option.some.inj hF
                      subst hR
                      exact fin1 (H1 := [imm I]) (fun w hs => sat_to [1, 1, 1, 0] 3 rfl hs) rfl (rr_tmp rfl) ⟨rfl, rfl⟩
                  · refine ow_slots (L' := [(0, .int .i64 x0), (5, .pointer none), (6, .pointer (some ⟨b23, 0, none⟩)), (67, .bool false)]) (by rw [h55]) ?_
                    refine ow_vals 19 (j := 62) [4] [(4, .bool false)] rfl (by kernel_rfl) ?_
                    refine ow_end rfl ?_
                    refine ew_then ?_
                    refine cw_ret ?_
                    have hR := Option.some.inj hF
                    subst hR
                    exact fin1 (H1 := [imm I]) (fun w hs => sat_to [1, 1, 0] 2 rfl hs) rfl (rr_tmp rfl) ⟨rfl, rfl⟩
                · refine ow_slots (L' := [(0, .int .i64 x0), (5, .pointer none), (6, .pointer (some ⟨b23, 0, none⟩)), (62, .bool false)]) (by rw [h52]) ?_
                  refine ow_vals 24 (j := 62) [4] [(4, .bool false)] rfl (by kernel_rfl) ?_
                  refine ow_end rfl ?_
                  refine ew_then ?_
                  refine cw_ret ?_
                  have hR := Option.some.inj hF
                  subst hR
                  exact fin1 (H1 := [imm I]) (fun w hs => sat_to [1, 1, 0] 2 rfl hs) rfl (rr_tmp rfl) ⟨rfl, rfl⟩
              · refine ow_slots (L' := [(0, .int .i64 x0), (5, .pointer none), (6, .pointer (some ⟨b23, 0, none⟩)), (58, .bool false)]) (by rw [h49]) ?_
                refine ow_vals 28 (j := 62) [4] [(4, .bool false)] rfl (by kernel_rfl) ?_
                refine ow_end rfl ?_
                refine ew_then ?_
                refine cw_ret ?_
                have hR := Option.some.inj hF
                subst hR
                exact fin1 (H1 := [imm I]) (fun w hs => sat_to [1, 1, 0] 2 rfl hs) rfl (rr_tmp rfl) ⟨rfl, rfl⟩
            · refine ow_slots (L' := [(0, .int .i64 x0), (5, .pointer none), (6, .pointer (some ⟨b23, 0, none⟩)), (53, .bool false)]) (by rw [h46]) ?_
              refine ow_vals 33 (j := 62) [4] [(4, .bool false)] rfl (by kernel_rfl) ?_
              refine ow_end rfl ?_
              refine ew_then ?_
              refine cw_ret ?_
              have hR := Option.some.inj hF
              subst hR
              exact fin1 (H1 := [imm I]) (fun w hs => sat_to [1, 1, 0] 2 rfl hs) rfl (rr_tmp rfl) ⟨rfl, rfl⟩
          · refine ow_slots (L' := [(0, .int .i64 x0), (3, .pointer (some ⟨b21, 0, none⟩)), (5, .pointer none), (6, .pointer (some ⟨b23, 0, none⟩)), (47, .bool false)]) (by rw [h43]) ?_
            refine ow_vals 39 (j := 62) [4] [(4, .bool false)] rfl (by kernel_rfl) ?_
            refine ow_end rfl ?_
            refine ew_then ?_
            refine cw_ret ?_
            have hR := Option.some.inj hF
            subst hR
            exact fin1 (H1 := [imm I]) (fun w hs => sat_to [1, 1, 0] 2 rfl hs) rfl (rr_tmp rfl) ⟨rfl, rfl⟩
        · refine ow_slots (L' := [(0, .int .i64 x0), (3, .pointer (some ⟨b21, 0, none⟩)), (5, .pointer none), (6, .pointer (some ⟨b23, 0, none⟩)), (41, .bool false)]) (by rw [h40]) ?_
          refine ow_vals 45 (j := 62) [4] [(4, .bool false)] rfl (by kernel_rfl) ?_
          refine ow_end rfl ?_
          refine ew_then ?_
          refine cw_ret ?_
          have hR := Option.some.inj hF
          subst hR
          exact fin1 (H1 := [imm I]) (fun w hs => sat_to [1, 1, 0] 2 rfl hs) rfl (rr_tmp rfl) ⟨rfl, rfl⟩
      · refine ow_slots (L' := [(0, .int .i64 x0), (3, .pointer (some ⟨b21, 0, none⟩)), (5, .pointer none), (6, .pointer (some ⟨b23, 0, none⟩)), (37, .bool false)]) (by rw [h37]) ?_
        refine ow_vals 49 (j := 62) [4] [(4, .bool false)] rfl (by kernel_rfl) ?_
        refine ow_end rfl ?_
        refine ew_then ?_
        refine cw_ret ?_
        have hR := Option.some.inj hF
        subst hR
        exact fin1 (H1 := [imm I]) (fun w hs => sat_to [1, 1, 0] 2 rfl hs) rfl (rr_tmp rfl) ⟨rfl, rfl⟩
    · refine ow_slots (L' := [(0, .int .i64 x0), (3, .pointer (some ⟨b21, 0, none⟩)), (5, .pointer none), (6, .pointer (some ⟨b23, 0, none⟩)), (31, .bool false)]) (by rw [h34]) ?_
      refine ow_vals 55 (j := 62) [4] [(4, .bool false)] rfl (by kernel_rfl) ?_
      refine ow_end rfl ?_
      refine ew_then ?_
      refine cw_ret ?_
      have hR := Option.some.inj hF
      subst hR
      exact fin1 (H1 := [imm I]) (fun w hs => sat_to [1, 1, 0] 2 rfl hs) rfl (rr_tmp rfl) ⟨rfl, rfl⟩
  · refine ow_slots (L' := [(0, .int .i64 x0), (3, .pointer (some ⟨b21, 0, none⟩)), (5, .pointer none), (6, .pointer (some ⟨b23, 0, none⟩)), (10, .int .i64 r31.2.1), (27, .bool false)]) (by rw [h33]) ?_
    refine ow_vals 59 (j := 62) [4] [(4, .bool false)] rfl (by kernel_rfl) ?_
    refine ow_end rfl ?_
    refine ew_then ?_
    refine cw_ret ?_
    have hR := Option.some.inj hF
    subst hR
    exact fin1 (H1 := [imm I]) (fun w hs => sat_to [1, 1, 0] 2 rfl hs) rfl (rr_tmp rfl) ⟨rfl, rfl⟩

end Go.Proofs.Ytbjilfhjclkebaa
