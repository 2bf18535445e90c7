/- What the functions compute, and that the code computes it: printed by a program of this claim (wip/tools), for the group Most. -/
import Derived.Test.YtbjilfhjclkebaaGDisk
namespace Go.Proofs.Ytbjilfhjclkebaa
set_option linter.all false
open Go Go.RowKit Go.Fw
set_option linter.unusedVariables false

def F.law09_DiskMost.r2 (r28 : (Option disk_Disk) × Int) : Option (Bool) :=
  if r28.2 == 0 then (some (false)) else (some (false))
def F.law09_DiskMost.r3 (x0 : Int) (r28 : (Option disk_Disk) × Int) (r28_s1 : disk_Disk) : Option (Bool) :=
  if r28.2 == 0 then (Option.bind (F.disk_Disk_Size r28_s1) (fun (r42 : Int) => if r42 == (IntKind.i64.wrap (8192 + x0)) then (Option.bind (F.law09_fill 1 64) (fun (r45 : ByteArray) => Option.bind (F.disk_Disk_Write (IntKind.i64.wrap (8191 + x0)) r45 r28_s1) (fun (r47 : Int × disk_Disk) => if r47.1 == 0 then (Option.bind (F.law09_fill 1 64) (fun (r52 : ByteArray) => Option.bind (F.disk_Disk_Write (IntKind.i64.wrap (8192 + x0)) r52 r47.2) (fun (r54 : Int × disk_Disk) => if r54.1 == 5 then (Option.bind (F.law09_awake) (fun (r59 : Bool) => some (r59))) else (some (false))))) else (some (false))))) else (some (false)))) else (some (false))
def F.law09_DiskMost.r1 (x0 : Int) : Option (Bool) :=
  Option.bind (F.disk_New (IntKind.i64.wrap (8192 + x0))) (fun (r28 : (Option disk_Disk) × Int) => optC r28.1 (thru (if x0 == 1 then (if r28.2 == 1 then (Option.bind (F.law09_awake) (fun (r36 : Bool) => some (.inr (r36)))) else (some (.inr (false)))) else (some (.inl ()))) (fun x => F.law09_DiskMost.r2 r28)) (fun (r28_s1 : disk_Disk) => thru (if x0 == 1 then (some (.inr (false))) else (some (.inl ()))) (fun x => F.law09_DiskMost.r3 x0 r28 r28_s1)))
def F.law09_DiskMost (x0 : Int) : Option Bool :=
  thru (if decide (x0 < (-1)) then (Option.bind (F.law09_awake) (fun (r23 : Bool) => some (.inr (r23)))) else (if decide (x0 > 1) then (Option.bind (F.law09_awake) (fun (r26 : Bool) => some (.inr (r26)))) else (some (.inl ())))) (fun x => F.law09_DiskMost.r1 x0)
set_option maxRecDepth 100000 in
set_option maxHeartbeats 4000000 in
theorem c_law09_DiskMost (I : Hl) (x0 : Int) (res : Bool) (hF : F.law09_DiskMost x0 = some res) : Tr Try.prog 3 [.int .i64 x0] [imm I] (fun r H' => r = .bool res ∧ H' = [imm I]) := by
  unfold F.law09_DiskMost at hF
  refine tr_of_cw (fn := Try.f3) Try.func3 rfl (Nat.le_of_ble_eq_true rfl) 61 rfl fun F0 w0 => ?_
  refine cw_keep [0] (L' := [(0, .int .i64 x0)]) rfl ?_
  refine cw_state (S' := SAT w0 ([imm I] ++ F0)) (fun w hs => hs) ?_
  refine cw_seq ?_
  refine cw_region ?_
  refine ow_vals 1 (j := 1) [0] [(0, .int .i64 x0)] rfl (by kernel_rfl) ?_
  refine ow_end rfl ?_
  refine ew_then ?_
  obtain ⟨v21, hF, hK21⟩ := thru_some hF
  refine cw_mid (fun a w => .inl () = v21 ∧ Fr 61 [(0, .int .i64 x0)] a ∧ SAT w0 ([imm I] ++ F0) w) ?_ ?_
  · refine cw_seq ?_
    refine cw_region ?_
    refine ow_vals 3 (j := 3) [0, 7] [(0, .int .i64 x0), (7, .bool (decide (x0 < (-1))))] rfl (by kernel_rfl) ?_
    rcases if_some hF with ⟨h22, hF⟩ | ⟨h22, hF⟩
    · refine ow_slots (L' := [(0, .int .i64 x0), (7, .bool true)]) (by rw [h22]) ?_
      refine ow_vals 3 (j := 6) [0, 10] [(0, .int .i64 x0), (10, .bool true)] rfl (by kernel_rfl) ?_
      refine ow_end rfl ?_
      refine ew_then ?_
      refine cw_cond_t rfl rfl rfl ?_
      refine cw_seq ?_
      refine cw_region ?_
      obtain ⟨r23, h24, hF⟩ := bind_some hF
      refine ow_pw rfl (pw_call (F := [] ++ F0) rfl rfl rfl rfl rfl rfl rfl (by kernel_rfl) (perm_of_pulls [0] rfl) (c_law09_awake _ r23 h24) ?_)
      rintro _ _ ⟨rfl, rfl⟩
      refine nw_H (H' := [imm I] ++ F0) rfl (nw_ow ?_)
      refine ow_vals 1 (j := 2) [2] [(2, .bool r23)] rfl (by kernel_rfl) ?_
      refine ow_end rfl ?_
      refine ew_then ?_
      refine cw_ret ?_
      refine ew_then_ret ?_
      have hR := Option.some.inj hF
      subst hR
      have hR := hK21
      try dsimp only [Thru] at hR
      subst hR
      exact fin1 (H1 := [imm I]) (fun w hs => sat_to [0] 0 rfl hs) rfl (rr_tmp rfl) ⟨rfl, rfl⟩
    · refine ow_slots (L' := [(0, .int .i64 x0), (7, .bool false)]) (by rw [h22]) ?_
      refine ow_vals 3 (j := 6) [0, 10] [(0, .int .i64 x0), (10, .bool (decide (x0 > 1)))] rfl (by kernel_rfl) ?_
      refine ow_end rfl ?_
      refine ew_then ?_
      rcases if_some hF with ⟨h25, hF⟩ | ⟨h25, hF⟩
      · refine cw_cond_t rfl rfl h25 ?_
        refine cw_seq ?_
        refine cw_region ?_
        obtain ⟨r26, h27, hF⟩ := bind_some hF
        refine ow_pw rfl (pw_call (F := [] ++ F0) rfl rfl rfl rfl rfl rfl rfl (by kernel_rfl) (perm_of_pulls [0] rfl) (c_law09_awake _ r26 h27) ?_)
        rintro _ _ ⟨rfl, rfl⟩
        refine nw_H (H' := [imm I] ++ F0) rfl (nw_ow ?_)
        refine ow_vals 1 (j := 2) [2] [(2, .bool r26)] rfl (by kernel_rfl) ?_
        refine ow_end rfl ?_
        refine ew_then ?_
        refine cw_ret ?_
        refine ew_then_ret ?_
        have hR := Option.some.inj hF
        subst hR
        have hR := hK21
        try dsimp only [Thru] at hR
        subst hR
        exact fin1 (H1 := [imm I]) (fun w hs => sat_to [0] 0 rfl hs) rfl (rr_tmp rfl) ⟨rfl, rfl⟩
      · refine cw_cond_f rfl rfl h25 ?_
        refine cw_skip ?_
        have hR := Option.some.inj hF
        exact fun a w hf hs => ⟨hR, hf.keep [0], sat_to [0] 0 rfl hs⟩
  · rintro a w ⟨hv, hf, hs⟩
    subst hv
    replace hF := hK21
    clear hK21
    try dsimp only [Thru] at hF
    revert a w
    show CW _ _ _ 61 [(0, .int .i64 x0)] (SAT w0 ([imm I] ++ F0))
    unfold F.law09_DiskMost.r1 at hF
    refine cw_seq ?_
    refine cw_region ?_
    refine ow_vals 2 (j := 2) [0, 14] [(0, .int .i64 x0), (14, .int .i64 (IntKind.i64.wrap (8192 + x0)))] rfl (by kernel_rfl) ?_
    obtain ⟨r28, h29, hF⟩ := bind_some hF
    refine ow_pw rfl (pw_call (F := [] ++ F0) rfl rfl rfl rfl rfl rfl rfl (by kernel_rfl) (perm_of_pulls [0] rfl) (c_disk_New _ (IntKind.i64.wrap (8192 + x0)) r28 h29) ?_)
    rintro _ _ (⟨hO, rfl, rfl⟩ | ⟨r28_s1, r28_b2, r28_p4, r28_c5, r28_b7, hO, rfl, rfl⟩)
    · rw [hO] at hF
      try dsimp only [optC] at hF
      refine nw_H (H' := [imm I] ++ F0) rfl (nw_ow ?_)
      refine ow_vals 5 (j := 8) [0, 3, 4] [(0, .int .i64 x0), (3, .pointer none), (4, .int .i64 r28.2)] rfl (by kernel_rfl) ?_
      refine ow_end rfl ?_
      refine ew_then ?_
      obtain ⟨v33, hF, hK33⟩ := thru_some hF
      refine cw_mid (fun a w => .inl () = v33 ∧ Fr 61 [(0, .int .i64 x0), (3, .pointer none), (4, .int .i64 r28.2)] a ∧ SAT w0 ([imm I] ++ F0) w) ?_ ?_
      · refine cw_seq ?_
        refine cw_region ?_
        refine ow_vals 2 (j := 2) [0, 3, 4, 19] [(0, .int .i64 x0), (3, .pointer none), (4, .int .i64 r28.2), (19, .bool (x0 == 1))] rfl (by kernel_rfl) ?_
        refine ow_end rfl ?_
        refine ew_then ?_
        rcases if_some hF with ⟨h34, hF⟩ | ⟨h34, hF⟩
        · refine cw_cond_t rfl rfl h34 ?_
          refine cw_seq ?_
          refine cw_region ?_
          refine ow_vals 7 (j := 7) [26] [(26, .bool (r28.2 == 1))] rfl (by kernel_rfl) ?_
          rcases if_some hF with ⟨h35, hF⟩ | ⟨h35, hF⟩
          · refine ow_slots (L' := [(26, .bool true)]) (by rw [h35]) ?_
            obtain ⟨r36, h37, hF⟩ := bind_some hF
            refine ow_pw rfl (pw_call (F := [] ++ F0) rfl rfl rfl rfl rfl rfl rfl (by kernel_rfl) (perm_of_pulls [0] rfl) (c_law09_awake _ r36 h37) ?_)
            rintro _ _ ⟨rfl, rfl⟩
            refine nw_H (H' := [imm I] ++ F0) rfl (nw_ow ?_)
            refine ow_vals 2 (j := 10) [2] [(2, .bool r36)] rfl (by kernel_rfl) ?_
            refine ow_end rfl ?_
            refine ew_then ?_
            refine cw_ret ?_
            refine ew_then_ret ?_
            have hR := Option.some.inj hF
            subst hR
            have hR := hK33
            try dsimp only [Thru] at hR
            subst hR
            exact fin1 (H1 := [imm I]) (fun w hs => sat_to [0] 0 rfl hs) rfl (rr_tmp rfl) ⟨rfl, rfl⟩
          · refine ow_slots (L' := [(26, .bool false)]) (by rw [h35]) ?_
            refine ow_vals 3 (j := 10) [2] [(2, .bool false)] rfl (by kernel_rfl) ?_
            refine ow_end rfl ?_
            refine ew_then ?_
            refine cw_ret ?_
            refine ew_then_ret ?_
            have hR := Option.some.inj hF
            subst hR
            have hR := hK33
            try dsimp only [Thru] at hR
            subst hR
            exact fin1 (H1 := [imm I]) (fun w hs => sat_to [0] 0 rfl hs) rfl (rr_tmp rfl) ⟨rfl, rfl⟩
        · refine cw_cond_f rfl rfl h34 ?_
          refine cw_skip ?_
          have hR := Option.some.inj hF
          exact fun a w hf hs => ⟨hR, hf.keep [0, 3, 4], sat_to [0] 0 rfl hs⟩
      · rintro a w ⟨hv, hf, hs⟩
        subst hv
        replace hF := hK33
        clear hK33
        try dsimp only [Thru] at hF
        revert a w
        show CW _ _ _ 61 [(0, .int .i64 x0), (3, .pointer none), (4, .int .i64 r28.2)] (SAT w0 ([imm I] ++ F0))
        unfold F.law09_DiskMost.r2 at hF
        refine cw_seq ?_
        refine cw_region ?_
        refine ow_vals 3 (j := 3) [0, 3, 31] [(0, .int .i64 x0), (3, .pointer none), (31, .bool (r28.2 == 0))] rfl (by kernel_rfl) ?_
        rcases if_some hF with ⟨h38, hF⟩ | ⟨h38, hF⟩
        · refine ow_slots (L' := [(0, .int .i64 x0), (3, .pointer none), (31, .bool true)]) (by rw [h38]) ?_
          refine ow_vals 30 (j := 33) [2] [(2, .bool false)] rfl (by kernel_rfl) ?_
          refine ow_end rfl ?_
          refine ew_then ?_
          refine cw_ret ?_
          have hR := Option.some.inj hF
          subst hR
          exact fin1 (H1 := [imm I]) (fun w hs => sat_to [0] 0 rfl hs) rfl (rr_tmp rfl) ⟨rfl, rfl⟩
        · refine ow_slots (L' := [(0, .int .i64 x0), (3, .pointer none), (31, .bool false)]) (by rw [h38]) ?_
          refine ow_vals 30 (j := 33) [2] [(2, .bool false)] rfl (by kernel_rfl) ?_
          refine ow_end rfl ?_
          refine ew_then ?_
          refine cw_ret ?_
          have hR := Option.some.inj hF
          subst hR
          exact fin1 (H1 := [imm I]) (fun w hs => sat_to [0] 0 rfl hs) rfl (rr_tmp rfl) ⟨rfl, rfl⟩
    · rw [hO] at hF
      try dsimp only [optC] at hF
      refine nw_H (H' := [imm I, pt r28_b2 #[.slice r28_p4 r28_s1.sure_.length r28_c5, .map (some r28_b7), .bool r28_s1.off_, .bool r28_s1.armed_, .int .i64 r28_s1.left_, .int .u64 r28_s1.fall_.Keep, .int .i64 r28_s1.fall_.Tear, .int .i64 r28_s1.acts_, .int .i64 r28_s1.falls_] 43, own e_disk_sector 51 r28_p4 r28_c5 r28_s1.sure_, mpo (kInt .i64) (fun x : disk_sector => Value.agg #[.string x.s_, .int .i64 x.at_]) r28_b7 r28_s1.wait_] ++ F0) rfl (nw_ow ?_)
      refine ow_vals 5 (j := 8) [0, 3, 4] [(0, .int .i64 x0), (3, .pointer (some ⟨r28_b2, 0, none⟩)), (4, .int .i64 r28.2)] rfl (by kernel_rfl) ?_
      refine ow_end rfl ?_
      refine ew_then ?_
      obtain ⟨v39, hF, hK39⟩ := thru_some hF
      refine cw_mid (fun a w => .inl () = v39 ∧ Fr 61 [(0, .int .i64 x0), (3, .pointer (some ⟨r28_b2, 0, none⟩)), (4, .int .i64 r28.2)] a ∧ SAT w0 ([imm I, pt r28_b2 #[.slice r28_p4 r28_s1.sure_.length r28_c5, .map (some r28_b7), .bool r28_s1.off_, .bool r28_s1.armed_, .int .i64 r28_s1.left_, .int .u64 r28_s1.fall_.Keep, .int .i64 r28_s1.fall_.Tear, .int .i64 r28_s1.acts_, .int .i64 r28_s1.falls_] 43, own e_disk_sector 51 r28_p4 r28_c5 r28_s1.sure_, mpo (kInt .i64) (fun x : disk_sector => Value.agg #[.string x.s_, .int .i64 x.at_]) r28_b7 r28_s1.wait_] ++ F0) w) ?_ ?_
      · refine cw_seq ?_
        refine cw_region ?_
        refine ow_vals 2 (j := 2) [0, 3, 4, 19] [(0, .int .i64 x0), (3, .pointer (some ⟨r28_b2, 0, none⟩)), (4, .int .i64 r28.2), (19, .bool (x0 == 1))] rfl (by kernel_rfl) ?_
        refine ow_end rfl ?_
        refine ew_then ?_
        rcases if_some hF with ⟨h40, hF⟩ | ⟨h40, hF⟩
        · refine cw_cond_t rfl rfl h40 ?_
          refine cw_seq ?_
          refine cw_region ?_
          refine ow_vals 10 (j := 10) [2] [(2, .bool false)] rfl (by kernel_rfl) ?_
          refine ow_end rfl ?_
          refine ew_then ?_
          refine cw_ret ?_
          refine ew_then_ret ?_
          have hR := Option.some.inj hF
          subst hR
          have hR := hK39
          try dsimp only [Thru] at hR
          subst hR
          exact fin1 (H1 := [imm I]) (fun w hs => sat_to [1, 1, 1, 0] 3 rfl hs) rfl (rr_tmp rfl) ⟨rfl, rfl⟩
        · refine cw_cond_f rfl rfl h40 ?_
          refine cw_skip ?_
          have hR := Option.some.inj hF
          exact fun a w hf hs => ⟨hR, hf.keep [0, 3, 4], sat_to [0, 0, 0, 0] 0 rfl hs⟩
      · rintro a w ⟨hv, hf, hs⟩
        subst hv
        replace hF := hK39
        clear hK39
        try dsimp only [Thru] at hF
        revert a w
        show CW _ _ _ 61 [(0, .int .i64 x0), (3, .pointer (some ⟨r28_b2, 0, none⟩)), (4, .int .i64 r28.2)] (SAT w0 ([imm I, pt r28_b2 #[.slice r28_p4 r28_s1.sure_.length r28_c5, .map (some r28_b7), .bool r28_s1.off_, .bool r28_s1.armed_, .int .i64 r28_s1.left_, .int .u64 r28_s1.fall_.Keep, .int .i64 r28_s1.fall_.Tear, .int .i64 r28_s1.acts_, .int .i64 r28_s1.falls_] 43, own e_disk_sector 51 r28_p4 r28_c5 r28_s1.sure_, mpo (kInt .i64) (fun x : disk_sector => Value.agg #[.string x.s_, .int .i64 x.at_]) r28_b7 r28_s1.wait_] ++ F0))
        unfold F.law09_DiskMost.r3 at hF
        refine cw_seq ?_
        refine cw_region ?_
        refine ow_vals 3 (j := 3) [0, 3, 31] [(0, .int .i64 x0), (3, .pointer (some ⟨r28_b2, 0, none⟩)), (31, .bool (r28.2 == 0))] rfl (by kernel_rfl) ?_
        rcases if_some hF with ⟨h41, hF⟩ | ⟨h41, hF⟩
        · refine ow_slots (L' := [(0, .int .i64 x0), (3, .pointer (some ⟨r28_b2, 0, none⟩)), (31, .bool true)]) (by rw [h41]) ?_
          refine ow_vals 5 (j := 8) [0, 3, 35, 36] [(0, .int .i64 x0), (3, .pointer (some ⟨r28_b2, 0, none⟩)), (35, .bool true), (36, .pointer (some ⟨r28_b2, 0, none⟩))] rfl (by kernel_rfl) ?_
          obtain ⟨r42, h43, hF⟩ := bind_some hF
          refine ow_pw rfl (pw_call (F := [] ++ F0) rfl rfl rfl rfl rfl rfl rfl (by kernel_rfl) (perm_of_pulls [0, 0, 0, 0] rfl) (c_disk_Disk_Size _ r28_s1 r28_p4 r28_c5 r28_b7 r28_b2 r42 h43) ?_)
          rintro _ _ ⟨rfl, rfl⟩
          refine nw_H (H' := [imm I, pt r28_b2 #[.slice r28_p4 r28_s1.sure_.length r28_c5, .map (some r28_b7), .bool r28_s1.off_, .bool r28_s1.armed_, .int .i64 r28_s1.left_, .int .u64 r28_s1.fall_.Keep, .int .i64 r28_s1.fall_.Tear, .int .i64 r28_s1.acts_, .int .i64 r28_s1.falls_] 43, own e_disk_sector 51 r28_p4 r28_c5 r28_s1.sure_, mpo (kInt .i64) (fun x : disk_sector => Value.agg #[.string x.s_, .int .i64 x.at_]) r28_b7 r28_s1.wait_] ++ F0) rfl (nw_ow ?_)
          refine ow_vals 5 (j := 14) [0, 3, 42] [(0, .int .i64 x0), (3, .pointer (some ⟨r28_b2, 0, none⟩)), (42, .bool (r42 == (IntKind.i64.wrap (8192 + x0))))] rfl (by kernel_rfl) ?_
          rcases if_some hF with ⟨h44, hF⟩ | ⟨h44, hF⟩
          · refine ow_slots (L' := [(0, .int .i64 x0), (3, .pointer (some ⟨r28_b2, 0, none⟩)), (42, .bool true)]) (by rw [h44]) ?_
            refine ow_vals 3 (j := 17) [0, 3, 42, 43, 45] [(0, .int .i64 x0), (3, .pointer (some ⟨r28_b2, 0, none⟩)), (42, .bool true), (43, .pointer (some ⟨r28_b2, 0, none⟩)), (45, .int .i64 (IntKind.i64.wrap (8191 + x0)))] rfl (by kernel_rfl) ?_
            obtain ⟨r45, h46, hF⟩ := bind_some hF
            refine ow_pw rfl (pw_call (F := [pt r28_b2 #[.slice r28_p4 r28_s1.sure_.length r28_c5, .map (some r28_b7), .bool r28_s1.off_, .bool r28_s1.armed_, .int .i64 r28_s1.left_, .int .u64 r28_s1.fall_.Keep, .int .i64 r28_s1.fall_.Tear, .int .i64 r28_s1.acts_, .int .i64 r28_s1.falls_] 43, own e_disk_sector 51 r28_p4 r28_c5 r28_s1.sure_, mpo (kInt .i64) (fun x : disk_sector => Value.agg #[.string x.s_, .int .i64 x.at_]) r28_b7 r28_s1.wait_] ++ F0) rfl rfl rfl rfl rfl rfl rfl (by kernel_rfl) (perm_of_pulls [0] rfl) (c_law09_fill _ 1 64 r45 h46) ?_)
            rintro _ _ ⟨rfl, rfl⟩
            refine nw_H (H' := [imm I, pt r28_b2 #[.slice r28_p4 r28_s1.sure_.length r28_c5, .map (some r28_b7), .bool r28_s1.off_, .bool r28_s1.armed_, .int .i64 r28_s1.left_, .int .u64 r28_s1.fall_.Keep, .int .i64 r28_s1.fall_.Tear, .int .i64 r28_s1.acts_, .int .i64 r28_s1.falls_] 43, own e_disk_sector 51 r28_p4 r28_c5 r28_s1.sure_, mpo (kInt .i64) (fun x : disk_sector => Value.agg #[.string x.s_, .int .i64 x.at_]) r28_b7 r28_s1.wait_] ++ F0) rfl (nw_ow ?_)
            obtain ⟨r47, h48, hF⟩ := bind_some hF
            refine ow_pw rfl (pw_call (F := [] ++ F0) rfl rfl rfl rfl rfl rfl rfl (by kernel_rfl) (perm_of_pulls [0, 0, 0, 0] rfl) (c_disk_Disk_Write _ (IntKind.i64.wrap (8191 + x0)) r45 r28_s1 r28_p4 r28_c5 r28_b7 r28_b2 r47 h48) ?_)
            rintro _ _ ⟨r47_p1, r47_c2, r47_b4, rfl, rfl⟩
            refine nw_H (H' := [imm I, pt r28_b2 #[.slice r47_p1 r47.2.sure_.length r47_c2, .map (some r47_b4), .bool r47.2.off_, .bool r47.2.armed_, .int .i64 r47.2.left_, .int .u64 r47.2.fall_.Keep, .int .i64 r47.2.fall_.Tear, .int .i64 r47.2.acts_, .int .i64 r47.2.falls_] 43, own e_disk_sector 51 r47_p1 r47_c2 r47.2.sure_, mpo (kInt .i64) (fun x : disk_sector => Value.agg #[.string x.s_, .int .i64 x.at_]) r47_b4 r47.2.wait_] ++ F0) rfl (nw_ow ?_)
            refine ow_vals 3 (j := 22) [0, 3, 50] [(0, .int .i64 x0), (3, .pointer (some ⟨r28_b2, 0, none⟩)), (50, .bool (r47.1 == 0))] rfl (by kernel_rfl) ?_
            rcases if_some hF with ⟨h51, hF⟩ | ⟨h51, hF⟩
            · refine ow_slots (L' := [(0, .int .i64 x0), (3, .pointer (some ⟨r28_b2, 0, none⟩)), (50, .bool true)]) (by rw [h51]) ?_
              refine ow_vals 3 (j := 25) [50, 51, 53] [(50, .bool true), (51, .pointer (some ⟨r28_b2, 0, none⟩)), (53, .int .i64 (IntKind.i64.wrap (8192 + x0)))] rfl (by kernel_rfl) ?_
              obtain ⟨r52, h53, hF⟩ := bind_some hF
              refine ow_pw rfl (pw_call (F := [pt r28_b2 #[.slice r47_p1 r47.2.sure_.length r47_c2, .map (some r47_b4), .bool r47.2.off_, .bool r47.2.armed_, .int .i64 r47.2.left_, .int .u64 r47.2.fall_.Keep, .int .i64 r47.2.fall_.Tear, .int .i64 r47.2.acts_, .int .i64 r47.2.falls_] 43, own e_disk_sector 51 r47_p1 r47_c2 r47.2.sure_, mpo (kInt .i64) (fun x : disk_sector => Value.agg #[.string x.s_, .int .i64 x.at_]) r47_b4 r47.2.wait_] ++ F0) rfl rfl rfl rfl rfl rfl rfl (by kernel_rfl) (perm_of_pulls [0] rfl) (c_law09_fill _ 1 64 r52 h53) ?_)
              rintro _ _ ⟨rfl, rfl⟩
              refine nw_H (H' := [imm I, pt r28_b2 #[.slice r47_p1 r47.2.sure_.length r47_c2, .map (some r47_b4), .bool r47.2.off_, .bool r47.2.armed_, .int .i64 r47.2.left_, .int .u64 r47.2.fall_.Keep, .int .i64 r47.2.fall_.Tear, .int .i64 r47.2.acts_, .int .i64 r47.2.falls_] 43, own e_disk_sector 51 r47_p1 r47_c2 r47.2.sure_, mpo (kInt .i64) (fun x : disk_sector => Value.agg #[.string x.s_, .int .i64 x.at_]) r47_b4 r47.2.wait_] ++ F0) rfl (nw_ow ?_)
              obtain ⟨r54, h55, hF⟩ := bind_some hF
              refine ow_pw rfl (pw_call (F := [] ++ F0) rfl rfl rfl rfl rfl rfl rfl (by kernel_rfl) (perm_of_pulls [0, 0, 0, 0] rfl) (c_disk_Disk_Write _ (IntKind.i64.wrap (8192 + x0)) r52 r47.2 r47_p1 r47_c2 r47_b4 r28_b2 r54 h55) ?_)
              rintro _ _ ⟨r54_p1, r54_c2, r54_b4, rfl, rfl⟩
              refine nw_H (H' := [imm I, pt r28_b2 #[.slice r54_p1 r54.2.sure_.length r54_c2, .map (some r54_b4), .bool r54.2.off_, .bool r54.2.armed_, .int .i64 r54.2.left_, .int .u64 r54.2.fall_.Keep, .int .i64 r54.2.fall_.Tear, .int .i64 r54.2.acts_, .int .i64 r54.2.falls_] 43, own e_disk_sector 51 r54_p1 r54_c2 r54.2.sure_, mpo (kInt .i64) (fun x : disk_sector => Value.agg #[.string x.s_, .int .i64 x.at_]) r54_b4 r54.2.wait_] ++ F0) rfl (nw_ow ?_)
              refine ow_vals 3 (j := 30) [58] [(58, .bool (r54.1 == 5))] rfl (by kernel_rfl) ?_
              rcases if_some hF with ⟨h58, hF⟩ | ⟨h58, hF⟩
              · refine ow_slots (L' := [(58, .bool true)]) (by rw [h58]) ?_
                obtain ⟨r59, h60, hF⟩ := bind_some hF
                refine ow_pw rfl (pw_call (F := [pt r28_b2 #[.slice r54_p1 r54.2.sure_.length r54_c2, .map (some r54_b4), .bool r54.2.off_, .bool r54.2.armed_, .int .i64 r54.2.left_, .int .u64 r54.2.fall_.Keep, .int .i64 r54.2.fall_.Tear, .int .i64 r54.2.acts_, .int .i64 r54.2.falls_] 43, own e_disk_sector 51 r54_p1 r54_c2 r54.2.sure_, mpo (kInt .i64) (fun x : disk_sector => Value.agg #[.string x.s_, .int .i64 x.at_]) r54_b4 r54.2.wait_] ++ F0) rfl rfl rfl rfl rfl rfl rfl (by kernel_rfl) (perm_of_pulls [0] rfl) (c_law09_awake _ r59 h60) ?_)
                rintro _ _ ⟨rfl, rfl⟩
                refine nw_H (H' := [imm I, pt r28_b2 #[.slice r54_p1 r54.2.sure_.length r54_c2, .map (some r54_b4), .bool r54.2.off_, .bool r54.2.armed_, .int .i64 r54.2.left_, .int .u64 r54.2.fall_.Keep, .int .i64 r54.2.fall_.Tear, .int .i64 r54.2.acts_, .int .i64 r54.2.falls_] 43, own e_disk_sector 51 r54_p1 r54_c2 r54.2.sure_, mpo (kInt .i64) (fun x : disk_sector => Value.agg #[.string x.s_, .int .i64 x.at_]) r54_b4 r54.2.wait_] ++ F0) rfl (nw_ow ?_)
                refine ow_vals 2 (j := 33) [2] [(2, .bool r59)] rfl (by kernel_rfl) ?_
                refine ow_end rfl ?_
                refine ew_then ?_
                refine cw_ret ?_
                have hR := Option.some.inj hF
                subst hR
                exact fin1 (H1 := [imm I]) (fun w hs => sat_to [1, 1, 1, 0] 3 rfl hs) rfl (rr_tmp rfl) ⟨rfl, rfl⟩
              · refine ow_slots (L' := [(58, .bool false)]) (by rw [h58]) ?_
                refine ow_vals 3 (j := 33) [2] [(2, .bool false)] rfl (by kernel_rfl) ?_
                refine ow_end rfl ?_
                refine ew_then ?_
                refine cw_ret ?_
                have hR := Option.some.inj hF
                subst hR
                exact fin1 (H1 := [imm I]) (fun w hs => sat_to [1, 1, 1, 0] 3 rfl hs) rfl (rr_tmp rfl) ⟨rfl, rfl⟩
            · refine ow_slots (L' := [(0, .int .i64 x0), (3, .pointer (some ⟨r28_b2, 0, none⟩)), (50, .bool false)]) (by rw [h51]) ?_
              refine ow_vals 11 (j := 33) [2] [(2, .bool false)] rfl (by kernel_rfl) ?_
              refine ow_end rfl ?_
              refine ew_then ?_
              refine cw_ret ?_
              have hR := Option.some.inj hF
              subst hR
              exact fin1 (H1 := [imm I]) (fun w hs => sat_to [1, 1, 1, 0] 3 rfl hs) rfl (rr_tmp rfl) ⟨rfl, rfl⟩
          · refine ow_slots (L' := [(0, .int .i64 x0), (3, .pointer (some ⟨r28_b2, 0, none⟩)), (42, .bool false)]) (by rw [h44]) ?_
            refine ow_vals 19 (j := 33) [2] [(2, .bool false)] rfl (by kernel_rfl) ?_
            refine ow_end rfl ?_
            refine ew_then ?_
            refine cw_ret ?_
            have hR := Option.some.inj hF
            subst hR
            exact fin1 (H1 := [imm I]) (fun w hs => sat_to [1, 1, 1, 0] 3 rfl hs) rfl (rr_tmp rfl) ⟨rfl, rfl⟩
        · refine ow_slots (L' := [(0, .int .i64 x0), (3, .pointer (some ⟨r28_b2, 0, none⟩)), (31, .bool false)]) (by rw [h41]) ?_
          refine ow_vals 30 (j := 33) [2] [(2, .bool false)] rfl (by kernel_rfl) ?_
          refine ow_end rfl ?_
          refine ew_then ?_
          refine cw_ret ?_
          have hR := Option.some.inj hF
          subst hR
          exact fin1 (H1 := [imm I]) (fun w hs => sat_to [1, 1, 1, 0] 3 rfl hs) rfl (rr_tmp rfl) ⟨rfl, rfl⟩

end Go.Proofs.Ytbjilfhjclkebaa
