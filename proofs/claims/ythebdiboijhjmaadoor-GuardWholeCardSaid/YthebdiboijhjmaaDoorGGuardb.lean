/- What the functions compute, and that the code computes it: printed by a program of this claim (wip/tools), for the group Guard. -/
import Derived.Test.YthebdiboijhjmaaDoorGGuard
namespace Go.Proofs.YthebdiboijhjmaaDoor
set_option linter.all false
open Go Go.RowKit Go.Fw
set_option linter.unusedVariables false

def F.law10_awake.r1 (r21_s1 : disk_Disk) (r21_s9 : guard_Guard) : Option (Bool) :=
  Option.bind (F.guard_Guard_Put 0 (ByteArray.mk #[120]) r21_s9 r21_s1) (fun (r33 : Int × Int × guard_Guard × disk_Disk) => Option.bind (F.guard_Guard_Get 0 r33.2.2.1 r33.2.2.2) (fun (r37 : ByteArray × Int × Int) => if r33.1 == 4294967297 then (if r33.2.1 == 0 then (if seqB r37.1 (ByteArray.mk #[120]) then (if r37.2.1 == r33.1 then (some ((r37.2.2 == 0))) else (some (false))) else (some (false))) else (some (false))) else (some (false))))
def F.law10_awake : Option Bool :=
  Option.bind (F.law10_made 1) (fun (r21 : (Option disk_Disk) × (Option guard_Guard)) => optC r21.1 (optC r21.2 (some (false)) (fun _ => none)) (fun (r21_s1 : disk_Disk) => optC r21.2 (some (false)) (fun (r21_s9 : guard_Guard) => Option.bind (some (())) (fun x => F.law10_awake.r1 r21_s1 r21_s9))))
set_option maxRecDepth 100000 in
set_option maxHeartbeats 4000000 in
theorem c_law10_awake (I : Hl) (res : Bool) (hF : F.law10_awake = some res) : Tr Tryd.prog 11 [] [imm I] (fun r H' => r = .bool res ∧ H' = [imm I]) := by
  unfold F.law10_awake at hF
  refine tr_of_cw (fn := Tryd.f11) Tryd.func11 rfl (Nat.le_of_ble_eq_true rfl) 48 rfl fun F0 w0 => ?_
  refine cw_keep [] (L' := []) rfl ?_
  refine cw_state (S' := SAT w0 ([imm I] ++ F0)) (fun w hs => hs) ?_
  refine cw_seq ?_
  refine cw_region ?_
  refine ow_vals 1 (j := 1) [] [] rfl (by kernel_rfl) ?_
  refine ow_end rfl ?_
  refine ew_then ?_
  refine cw_seq ?_
  refine cw_region ?_
  obtain ⟨r21, h22, hF⟩ := bind_some hF
  refine ow_pw rfl (pw_call (F := [] ++ F0) rfl rfl rfl rfl rfl rfl rfl (by kernel_rfl) (perm_of_pulls [0] rfl) (c_law10_made _ 1 r21 h22) ?_)
  rintro _ _ (⟨hO, hO1, rfl, rfl⟩ | ⟨r21_s1, r21_b2, r21_p4, r21_c5, r21_b7, hO, hO1, rfl, rfl⟩ | ⟨r21_s1, r21_b2, r21_p4, r21_c5, r21_b7, r21_s9, r21_b10, hO, hO1, rfl, rfl⟩)
  · rw [hO] at hF
    try dsimp only [optC] at hF
    rw [hO1] at hF
    try dsimp only [optC] at hF
    refine nw_H (H' := [imm I] ++ F0) rfl (nw_ow ?_)
    refine ow_vals 5 (j := 6) [1, 2] [(1, .pointer none), (2, .pointer none)] rfl (by kernel_rfl) ?_
    refine ow_end rfl ?_
    refine ew_then ?_
    refine cw_seq ?_
    refine cw_seq ?_
    refine cw_region ?_
    refine ow_vals 6 (j := 6) [2, 17] [(2, .pointer none), (17, .bool true)] rfl (by kernel_rfl) ?_
    refine ow_end rfl ?_
    refine ew_then ?_
    refine cw_cond_t rfl rfl rfl ?_
    refine cw_seq ?_
    refine cw_region ?_
    refine ow_vals 1 (j := 1) [0] [(0, .bool false)] rfl (by kernel_rfl) ?_
    refine ow_end rfl ?_
    refine ew_then ?_
    refine cw_ret ?_
    refine ew_then_ret ?_
    have hR := Option.some.inj hF
    subst hR
    exact fin1 (H1 := [imm I]) (fun w hs => sat_to [0] 0 rfl hs) rfl (rr_tmp rfl) ⟨rfl, rfl⟩
  · rw [hO] at hF
    try dsimp only [optC] at hF
    rw [hO1] at hF
    try dsimp only [optC] at hF
    refine nw_H (H' := [imm I, pt r21_b2 #[.slice r21_p4 r21_s1.sure_.length r21_c5, .map (some r21_b7), .bool r21_s1.off_, .bool r21_s1.armed_, .int .i64 r21_s1.left_, .int .u64 r21_s1.fall_.Keep, .int .i64 r21_s1.fall_.Tear, .int .i64 r21_s1.acts_, .int .i64 r21_s1.falls_] 68, own e_disk_sector 70 r21_p4 r21_c5 r21_s1.sure_, mpo (kInt .i64) (fun x : disk_sector => Value.agg #[.string x.s_, .int .i64 x.at_]) r21_b7 r21_s1.wait_] ++ F0) rfl (nw_ow ?_)
    refine ow_vals 5 (j := 6) [1, 2] [(1, .pointer (some ⟨r21_b2, 0, none⟩)), (2, .pointer none)] rfl (by kernel_rfl) ?_
    refine ow_end rfl ?_
    refine ew_then ?_
    refine cw_seq ?_
    refine cw_seq ?_
    refine cw_region ?_
    refine ow_vals 6 (j := 6) [2, 17] [(2, .pointer none), (17, .bool true)] rfl (by kernel_rfl) ?_
    refine ow_end rfl ?_
    refine ew_then ?_
    refine cw_cond_t rfl rfl rfl ?_
    refine cw_seq ?_
    refine cw_region ?_
    refine ow_vals 1 (j := 1) [0] [(0, .bool false)] rfl (by kernel_rfl) ?_
    refine ow_end rfl ?_
    refine ew_then ?_
    refine cw_ret ?_
    refine ew_then_ret ?_
    have hR := Option.some.inj hF
    subst hR
    exact fin1 (H1 := [imm I]) (fun w hs => sat_to [1, 1, 1, 0] 3 rfl hs) rfl (rr_tmp rfl) ⟨rfl, rfl⟩
  · rw [hO] at hF
    try dsimp only [optC] at hF
    rw [hO1] at hF
    try dsimp only [optC] at hF
    refine nw_H (H' := [imm I, pt r21_b2 #[.slice r21_p4 r21_s1.sure_.length r21_c5, .map (some r21_b7), .bool r21_s1.off_, .bool r21_s1.armed_, .int .i64 r21_s1.left_, .int .u64 r21_s1.fall_.Keep, .int .i64 r21_s1.fall_.Tear, .int .i64 r21_s1.acts_, .int .i64 r21_s1.falls_] 68, pt r21_b10 #[.pointer (some ⟨r21_b2, 0, none⟩), .int .i64 r21_s9.boot_, .int .i64 r21_s9.n_] 47, own e_disk_sector 70 r21_p4 r21_c5 r21_s1.sure_, mpo (kInt .i64) (fun x : disk_sector => Value.agg #[.string x.s_, .int .i64 x.at_]) r21_b7 r21_s1.wait_] ++ F0) rfl (nw_ow ?_)
    refine ow_vals 5 (j := 6) [1, 2] [(1, .pointer (some ⟨r21_b2, 0, none⟩)), (2, .pointer (some ⟨r21_b10, 0, none⟩))] rfl (by kernel_rfl) ?_
    refine ow_end rfl ?_
    refine ew_then ?_
    obtain ⟨v32, hF, hK32⟩ := bind_some hF
    refine cw_mid (fun a w => () = v32 ∧ Fr 48 [(2, .pointer (some ⟨r21_b10, 0, none⟩))] a ∧ SAT w0 ([imm I, pt r21_b2 #[.slice r21_p4 r21_s1.sure_.length r21_c5, .map (some r21_b7), .bool r21_s1.off_, .bool r21_s1.armed_, .int .i64 r21_s1.left_, .int .u64 r21_s1.fall_.Keep, .int .i64 r21_s1.fall_.Tear, .int .i64 r21_s1.acts_, .int .i64 r21_s1.falls_] 68, pt r21_b10 #[.pointer (some ⟨r21_b2, 0, none⟩), .int .i64 r21_s9.boot_, .int .i64 r21_s9.n_] 47, own e_disk_sector 70 r21_p4 r21_c5 r21_s1.sure_, mpo (kInt .i64) (fun x : disk_sector => Value.agg #[.string x.s_, .int .i64 x.at_]) r21_b7 r21_s1.wait_] ++ F0) w) ?_ ?_
    · refine cw_seq ?_
      refine cw_region ?_
      refine ow_vals 6 (j := 6) [2, 17] [(2, .pointer (some ⟨r21_b10, 0, none⟩)), (17, .bool false)] rfl (by kernel_rfl) ?_
      refine ow_end rfl ?_
      refine ew_then ?_
      refine cw_cond_f rfl rfl rfl ?_
      refine cw_skip ?_
      have hR := Option.some.inj hF
      exact fun a w hf hs => ⟨hR, hf.keep [2], sat_to [0, 0, 0, 0, 0] 0 rfl hs⟩
    · rintro a w ⟨hv, hf, hs⟩
      subst hv
      replace hF := hK32
      clear hK32
      try dsimp only at hF
      revert a w
      show CW _ _ _ 48 [(2, .pointer (some ⟨r21_b10, 0, none⟩))] (SAT w0 ([imm I, pt r21_b2 #[.slice r21_p4 r21_s1.sure_.length r21_c5, .map (some r21_b7), .bool r21_s1.off_, .bool r21_s1.armed_, .int .i64 r21_s1.left_, .int .u64 r21_s1.fall_.Keep, .int .i64 r21_s1.fall_.Tear, .int .i64 r21_s1.acts_, .int .i64 r21_s1.falls_] 68, pt r21_b10 #[.pointer (some ⟨r21_b2, 0, none⟩), .int .i64 r21_s9.boot_, .int .i64 r21_s9.n_] 47, own e_disk_sector 70 r21_p4 r21_c5 r21_s1.sure_, mpo (kInt .i64) (fun x : disk_sector => Value.agg #[.string x.s_, .int .i64 x.at_]) r21_b7 r21_s1.wait_] ++ F0))
      unfold F.law10_awake.r1 at hF
      refine cw_seq ?_
      refine cw_region ?_
      refine ow_vals 1 (j := 1) [2, 19] [(2, .pointer (some ⟨r21_b10, 0, none⟩)), (19, .pointer (some ⟨r21_b10, 0, none⟩))] rfl (by kernel_rfl) ?_
      obtain ⟨r33, h34, hF⟩ := bind_some hF
      refine ow_pw rfl (pw_call (F := [] ++ F0) rfl rfl rfl rfl rfl rfl rfl (by kernel_rfl) (perm_of_pulls [0, 1, 0, 0, 0] rfl) (c_guard_Guard_Put _ 0 (ByteArray.mk #[120]) r21_s9 r21_s1 r21_b10 r21_p4 r21_c5 r21_b7 r21_b2 r33 h34) ?_)
      rintro _ _ ⟨r33_p1, r33_c2, r33_b4, rfl, rfl⟩
      refine nw_H (H' := [imm I, pt r21_b10 #[.pointer (some ⟨r21_b2, 0, none⟩), .int .i64 r33.2.2.1.boot_, .int .i64 r33.2.2.1.n_] 47, pt r21_b2 #[.slice r33_p1 r33.2.2.2.sure_.length r33_c2, .map (some r33_b4), .bool r33.2.2.2.off_, .bool r33.2.2.2.armed_, .int .i64 r33.2.2.2.left_, .int .u64 r33.2.2.2.fall_.Keep, .int .i64 r33.2.2.2.fall_.Tear, .int .i64 r33.2.2.2.acts_, .int .i64 r33.2.2.2.falls_] 68, own e_disk_sector 70 r33_p1 r33_c2 r33.2.2.2.sure_, mpo (kInt .i64) (fun x : disk_sector => Value.agg #[.string x.s_, .int .i64 x.at_]) r33_b4 r33.2.2.2.wait_] ++ F0) rfl (nw_ow ?_)
      refine ow_vals 5 (j := 7) [2, 3, 4] [(2, .pointer (some ⟨r21_b10, 0, none⟩)), (3, .int .i64 r33.1), (4, .int .i64 r33.2.1)] rfl (by kernel_rfl) ?_
      refine ow_end rfl ?_
      refine ew_then ?_
      refine cw_seq ?_
      refine cw_region ?_
      refine ow_vals 1 (j := 1) [3, 4, 24] [(3, .int .i64 r33.1), (4, .int .i64 r33.2.1), (24, .pointer (some ⟨r21_b10, 0, none⟩))] rfl (by kernel_rfl) ?_
      obtain ⟨r37, h38, hF⟩ := bind_some hF
      refine ow_pw rfl (pw_call (F := [] ++ F0) rfl rfl rfl rfl rfl rfl rfl (by kernel_rfl) (perm_of_pulls [0, 0, 0, 0, 0] rfl) (c_guard_Guard_Get _ 0 r33.2.2.1 r33.2.2.2 r21_b10 r33_p1 r33_c2 r33_b4 r21_b2 r37 h38) ?_)
      rintro _ _ ⟨rfl, rfl⟩
      refine nw_H (H' := [imm I, pt r21_b10 #[.pointer (some ⟨r21_b2, 0, none⟩), .int .i64 r33.2.2.1.boot_, .int .i64 r33.2.2.1.n_] 47, pt r21_b2 #[.slice r33_p1 r33.2.2.2.sure_.length r33_c2, .map (some r33_b4), .bool r33.2.2.2.off_, .bool r33.2.2.2.armed_, .int .i64 r33.2.2.2.left_, .int .u64 r33.2.2.2.fall_.Keep, .int .i64 r33.2.2.2.fall_.Tear, .int .i64 r33.2.2.2.acts_, .int .i64 r33.2.2.2.falls_] 68, own e_disk_sector 70 r33_p1 r33_c2 r33.2.2.2.sure_, mpo (kInt .i64) (fun x : disk_sector => Value.agg #[.string x.s_, .int .i64 x.at_]) r33_b4 r33.2.2.2.wait_] ++ F0) rfl (nw_ow ?_)
      refine ow_vals 7 (j := 9) [3, 4, 5, 6, 7] [(3, .int .i64 r33.1), (4, .int .i64 r33.2.1), (5, .string r37.1), (6, .int .i64 r37.2.1), (7, .int .i64 r37.2.2)] rfl (by kernel_rfl) ?_
      refine ow_end rfl ?_
      refine ew_then ?_
      refine cw_seq ?_
      refine cw_region ?_
      refine ow_vals 3 (j := 3) [3, 4, 5, 6, 7, 31] [(3, .int .i64 r33.1), (4, .int .i64 r33.2.1), (5, .string r37.1), (6, .int .i64 r37.2.1), (7, .int .i64 r37.2.2), (31, .bool (r33.1 == 4294967297))] rfl (by kernel_rfl) ?_
      rcases if_some hF with ⟨h39, hF⟩ | ⟨h39, hF⟩
      · refine ow_slots (L' := [(3, .int .i64 r33.1), (4, .int .i64 r33.2.1), (5, .string r37.1), (6, .int .i64 r37.2.1), (7, .int .i64 r37.2.2), (31, .bool true)]) (by rw [h39]) ?_
        refine ow_vals 4 (j := 7) [3, 5, 6, 7, 35] [(3, .int .i64 r33.1), (5, .string r37.1), (6, .int .i64 r37.2.1), (7, .int .i64 r37.2.2), (35, .bool (r33.2.1 == 0))] rfl (by kernel_rfl) ?_
        rcases if_some hF with ⟨h40, hF⟩ | ⟨h40, hF⟩
        · refine ow_slots (L' := [(3, .int .i64 r33.1), (5, .string r37.1), (6, .int .i64 r37.2.1), (7, .int .i64 r37.2.2), (35, .bool true)]) (by rw [h40]) ?_
          refine ow_vals 4 (j := 11) [3, 6, 7, 39] [(3, .int .i64 r33.1), (6, .int .i64 r37.2.1), (7, .int .i64 r37.2.2), (39, .bool (seqB r37.1 (ByteArray.mk #[120])))] rfl (by kernel_rfl) ?_
          rcases if_some hF with ⟨h41, hF⟩ | ⟨h41, hF⟩
          · refine ow_slots (L' := [(3, .int .i64 r33.1), (6, .int .i64 r37.2.1), (7, .int .i64 r37.2.2), (39, .bool true)]) (by rw [h41]) ?_
            refine ow_vals 5 (j := 16) [7, 44] [(7, .int .i64 r37.2.2), (44, .bool (r37.2.1 == r33.1))] rfl (by kernel_rfl) ?_
            rcases if_some hF with ⟨h42, hF⟩ | ⟨h42, hF⟩
            · refine ow_slots (L' := [(7, .int .i64 r37.2.2), (44, .bool true)]) (by rw [h42]) ?_
              refine ow_vals 4 (j := 20) [0] [(0, .bool (r37.2.2 == 0))] rfl (by kernel_rfl) ?_
              refine ow_end rfl ?_
              refine ew_then ?_
              refine cw_ret ?_
              have hR := Option.some.inj hF
              subst hR
              exact fin1 (H1 := [imm I]) (fun w hs => sat_to [1, 1, 1, 1, 0] 4 rfl hs) rfl (rr_tmp rfl) ⟨rfl, rfl⟩
            · refine ow_slots (L' := [(7, .int .i64 r37.2.2), (44, .bool false)]) (by rw [h42]) ?_
              refine ow_vals 4 (j := 20) [0] [(0, .bool false)] rfl (by kernel_rfl) ?_
              refine ow_end rfl ?_
              refine ew_then ?_
              refine cw_ret ?_
              have hR := Option.some.inj hF
              subst hR
              exact fin1 (H1 := [imm I]) (fun w hs => sat_to [1, 1, 1, 1, 0] 4 rfl hs) rfl (rr_tmp rfl) ⟨rfl, rfl⟩
          · refine ow_slots (L' := [(3, .int .i64 r33.1), (6, .int .i64 r37.2.1), (7, .int .i64 r37.2.2), (39, .bool false)]) (by rw [h41]) ?_
            refine ow_vals 9 (j := 20) [0] [(0, .bool false)] rfl (by kernel_rfl) ?_
            refine ow_end rfl ?_
            refine ew_then ?_
            refine cw_ret ?_
            have hR := Option.some.inj hF
            subst hR
            exact fin1 (H1 := [imm I]) (fun w hs => sat_to [1, 1, 1, 1, 0] 4 rfl hs) rfl (rr_tmp rfl) ⟨rfl, rfl⟩
        · refine ow_slots (L' := [(3, .int .i64 r33.1), (5, .string r37.1), (6, .int .i64 r37.2.1), (7, .int .i64 r37.2.2), (35, .bool false)]) (by rw [h40]) ?_
          refine ow_vals 13 (j := 20) [0] [(0, .bool false)] rfl (by kernel_rfl) ?_
          refine ow_end rfl ?_
          refine ew_then ?_
          refine cw_ret ?_
          have hR := Option.some.inj hF
          subst hR
          exact fin1 (H1 := [imm I]) (fun w hs => sat_to [1, 1, 1, 1, 0] 4 rfl hs) rfl (rr_tmp rfl) ⟨rfl, rfl⟩
      · refine ow_slots (L' := [(3, .int .i64 r33.1), (4, .int .i64 r33.2.1), (5, .string r37.1), (6, .int .i64 r37.2.1), (7, .int .i64 r37.2.2), (31, .bool false)]) (by rw [h39]) ?_
        refine ow_vals 17 (j := 20) [0] [(0, .bool false)] rfl (by kernel_rfl) ?_
        refine ow_end rfl ?_
        refine ew_then ?_
        refine cw_ret ?_
        have hR := Option.some.inj hF
        subst hR
        exact fin1 (H1 := [imm I]) (fun w hs => sat_to [1, 1, 1, 1, 0] 4 rfl hs) rfl (rr_tmp rfl) ⟨rfl, rfl⟩

end Go.Proofs.YthebdiboijhjmaaDoor
