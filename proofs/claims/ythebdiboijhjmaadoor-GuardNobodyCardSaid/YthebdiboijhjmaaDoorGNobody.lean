/- What the functions compute, and that the code computes it: printed by a program of this claim (wip/tools), for the group Nobody. -/
import Derived.Test.YthebdiboijhjmaaDoorGGuardb
namespace Go.Proofs.YthebdiboijhjmaaDoor
set_option linter.all false
open Go Go.RowKit Go.Fw
set_option linter.unusedVariables false

def F.guard_Guard_none_1 : Option Bool :=
  some (true)
set_option maxRecDepth 100000 in
set_option maxHeartbeats 4000000 in
theorem c_guard_Guard_none_1 (I : Hl) (res : Bool) (hF : F.guard_Guard_none_1 = some res) : Tr Tryd.prog 37 [.pointer none] [imm I] (fun r H' => r = .bool res ∧ H' = [imm I]) := by
  unfold F.guard_Guard_none_1 at hF
  refine tr_of_cw (fn := Tryd.f37) Tryd.func37 rfl (Nat.le_of_ble_eq_true rfl) 12 rfl fun F0 w0 => ?_
  refine cw_keep [0] (L' := [(0, .pointer none)]) rfl ?_
  refine cw_state (S' := SAT w0 ([imm I] ++ F0)) (fun w hs => hs) ?_
  refine cw_seq ?_
  refine cw_region ?_
  refine ow_vals 1 (j := 1) [0] [(0, .pointer none)] rfl (by kernel_rfl) ?_
  refine ow_end rfl ?_
  refine ew_then ?_
  refine cw_seq ?_
  refine cw_region ?_
  refine ow_vals 10 (j := 10) [2] [(2, .bool true)] rfl (by kernel_rfl) ?_
  refine ow_end rfl ?_
  refine ew_then ?_
  refine cw_ret ?_
  have hR := Option.some.inj hF
  subst hR
  exact fin1 (H1 := [imm I]) (fun w hs => sat_to [0] 0 rfl hs) rfl (rr_tmp rfl) ⟨rfl, rfl⟩


def F.guard_Guard_Put_1 (x1 : Int) (x2 : ByteArray) : Option (Int × Int) :=
  Option.bind (F.guard_Guard_none_1) (fun (r21 : Bool) => if r21 then (some ((0, 9))) else (if decide ((x2.size : Int) > 47) then (some ((0, 3))) else (none)))
set_option maxRecDepth 100000 in
set_option maxHeartbeats 4000000 in
theorem c_guard_Guard_Put_1 (I : Hl) (x1 : Int) (x2 : ByteArray) (res : Int × Int) (hF : F.guard_Guard_Put_1 x1 x2 = some res) : Tr Tryd.prog 17 [.pointer none, .int .i64 x1, .string x2] [imm I] (fun r H' => r = .tuple #[.int .i64 res.1, .int .i64 res.2] ∧ H' = [imm I]) := by
  unfold F.guard_Guard_Put_1 at hF
  refine tr_of_cw (fn := Tryd.f17) Tryd.func17 rfl (Nat.le_of_ble_eq_true rfl) 70 rfl fun F0 w0 => ?_
  refine cw_keep [0, 1, 2] (L' := [(0, .pointer none), (1, .int .i64 x1), (2, .string x2)]) rfl ?_
  refine cw_state (S' := SAT w0 ([imm I] ++ F0)) (fun w hs => hs) ?_
  refine cw_seq ?_
  refine cw_region ?_
  refine ow_vals 2 (j := 2) [0, 1, 2] [(0, .pointer none), (1, .int .i64 x1), (2, .string x2)] rfl (by kernel_rfl) ?_
  refine ow_end rfl ?_
  refine ew_then ?_
  refine cw_seq ?_
  refine cw_block ?_
  refine cw_seq ?_
  refine cw_region ?_
  refine ow_vals 1 (j := 1) [0, 1, 2, 12] [(0, .pointer none), (1, .int .i64 x1), (2, .string x2), (12, .pointer none)] rfl (by kernel_rfl) ?_
  obtain ⟨r21, h22, hF⟩ := bind_some hF
  refine ow_pw rfl (pw_call (F := [] ++ F0) rfl rfl rfl rfl rfl rfl rfl (by kernel_rfl) (perm_of_pulls [0] rfl) (c_guard_Guard_none_1 _ r21 h22) ?_)
  rintro _ _ ⟨rfl, rfl⟩
  refine nw_H (H' := [imm I] ++ F0) rfl (nw_ow ?_)
  refine ow_vals 1 (j := 3) [0, 1, 2, 11] [(0, .pointer none), (1, .int .i64 x1), (2, .string x2), (11, .bool r21)] rfl (by kernel_rfl) ?_
  refine ow_end rfl ?_
  refine ew_then ?_
  rcases if_some hF with ⟨h23, hF⟩ | ⟨h23, hF⟩
  · refine cw_cond_t rfl rfl h23 ?_
    refine cw_seq ?_
    refine cw_region ?_
    refine ow_vals 2 (j := 2) [6, 7] [(6, .int .i64 0), (7, .int .i64 9)] rfl (by kernel_rfl) ?_
    refine ow_end rfl ?_
    refine ew_then ?_
    refine cw_ret ?_
    refine ew_blk_ret ?_
    refine ew_then_ret ?_
    have hR := Option.some.inj hF
    subst hR
    exact fin2 (H1 := [imm I]) (fun w hs => sat_to [0] 0 rfl hs) rfl (rr_tmp rfl) (rr_tmp rfl) ⟨rfl, rfl⟩
  · refine cw_cond_f rfl rfl h23 ?_
    refine cw_seq ?_
    refine cw_region ?_
    refine ow_vals 4 (j := 4) [0, 1, 2, 14] [(0, .pointer none), (1, .int .i64 x1), (2, .string x2), (14, .bool (decide ((x2.size : Int) > 47)))] rfl (by kernel_rfl) ?_
    refine ow_end rfl ?_
    refine ew_then ?_
    rcases if_some hF with ⟨h24, hF⟩ | ⟨h24, hF⟩
    · refine cw_cond_t rfl rfl h24 ?_
      refine cw_seq ?_
      refine cw_region ?_
      refine ow_vals 2 (j := 2) [6, 7] [(6, .int .i64 0), (7, .int .i64 3)] rfl (by kernel_rfl) ?_
      refine ow_end rfl ?_
      refine ew_then ?_
      refine cw_ret ?_
      refine ew_blk_ret ?_
      refine ew_then_ret ?_
      have hR := Option.some.inj hF
      subst hR
      exact fin2 (H1 := [imm I]) (fun w hs => sat_to [0] 0 rfl hs) rfl (rr_tmp rfl) (rr_tmp rfl) ⟨rfl, rfl⟩
    · refine cw_cond_f rfl rfl h24 ?_
      refine cw_seq ?_
      refine cw_region ?_
      refine ow_vals 1 (j := 1) [0, 1, 2, 19] [(0, .pointer none), (1, .int .i64 x1), (2, .string x2), (19, .pointer none)] rfl (by kernel_rfl) ?_
      cases hF


def F.guard_Guard_none_2 (m0 : guard_Guard) : Option Bool :=
  some (true)
set_option maxRecDepth 100000 in
set_option maxHeartbeats 4000000 in
theorem c_guard_Guard_none_2 (I : Hl) (m0 : guard_Guard) (b0 : Nat) (res : Bool) (hF : F.guard_Guard_none_2 m0 = some res) : Tr Tryd.prog 37 [.pointer (some ⟨b0, 0, none⟩)] [imm I, pt b0 #[.pointer none, .int .i64 m0.boot_, .int .i64 m0.n_] 47] (fun r H' => r = .bool res ∧ H' = [imm I, pt b0 #[.pointer none, .int .i64 m0.boot_, .int .i64 m0.n_] 47]) := by
  unfold F.guard_Guard_none_2 at hF
  refine tr_of_cw (fn := Tryd.f37) Tryd.func37 rfl (Nat.le_of_ble_eq_true rfl) 12 rfl fun F0 w0 => ?_
  refine cw_keep [0] (L' := [(0, .pointer (some ⟨b0, 0, none⟩))]) rfl ?_
  refine cw_state (S' := SAT w0 ([imm I, pt b0 #[.pointer none, .int .i64 m0.boot_, .int .i64 m0.n_] 47] ++ F0)) (fun w hs => hs) ?_
  refine cw_seq ?_
  refine cw_region ?_
  refine ow_vals 1 (j := 1) [0] [(0, .pointer (some ⟨b0, 0, none⟩))] rfl (by kernel_rfl) ?_
  refine ow_end rfl ?_
  refine ew_then ?_
  refine cw_seq ?_
  refine cw_region ?_
  refine ow_vals 6 (j := 6) [5, 8] [(5, .bool false), (8, .pointer (some ⟨b0, 0, none⟩))] rfl (by kernel_rfl) ?_
  refine ow_pw rfl (pw_quiet (v := .pointer none) rfl rfl rfl rfl (q_load 1 rfl rfl rfl (by kernel_rfl)) (nw_ow ?_))
  refine ow_vals 3 (j := 10) [2] [(2, .bool true)] rfl (by kernel_rfl) ?_
  refine ow_end rfl ?_
  refine ew_then ?_
  refine cw_ret ?_
  have hR := Option.some.inj hF
  subst hR
  exact fin1 (H1 := [imm I, pt b0 #[.pointer none, .int .i64 m0.boot_, .int .i64 m0.n_] 47]) (fun w hs => sat_to [0, 0] 0 rfl hs) rfl (rr_tmp rfl) ⟨rfl, rfl⟩


def F.disk_Disk_Size_1 : Option Int :=
  some (0)
set_option maxRecDepth 100000 in
set_option maxHeartbeats 4000000 in
theorem c_disk_Disk_Size_1 (I : Hl) (res : Int) (hF : F.disk_Disk_Size_1 = some res) : Tr Tryd.prog 21 [.pointer none] [imm I] (fun r H' => r = .int .i64 res ∧ H' = [imm I]) := by
  unfold F.disk_Disk_Size_1 at hF
  refine tr_of_cw (fn := Tryd.f21) Tryd.func21 rfl (Nat.le_of_ble_eq_true rfl) 10 rfl fun F0 w0 => ?_
  refine cw_keep [0] (L' := [(0, .pointer none)]) rfl ?_
  refine cw_state (S' := SAT w0 ([imm I] ++ F0)) (fun w hs => hs) ?_
  refine cw_seq ?_
  refine cw_region ?_
  refine ow_vals 1 (j := 1) [0] [(0, .pointer none)] rfl (by kernel_rfl) ?_
  refine ow_end rfl ?_
  refine ew_then ?_
  refine cw_seq ?_
  refine cw_seq ?_
  refine cw_region ?_
  refine ow_vals 2 (j := 2) [0, 4] [(0, .pointer none), (4, .bool true)] rfl (by kernel_rfl) ?_
  refine ow_end rfl ?_
  refine ew_then ?_
  refine cw_cond_t rfl rfl rfl ?_
  refine cw_seq ?_
  refine cw_region ?_
  refine ow_vals 1 (j := 1) [2] [(2, .int .i64 0)] rfl (by kernel_rfl) ?_
  refine ow_end rfl ?_
  refine ew_then ?_
  refine cw_ret ?_
  refine ew_then_ret ?_
  have hR := Option.some.inj hF
  subst hR
  exact fin1 (H1 := [imm I]) (fun w hs => sat_to [0] 0 rfl hs) rfl (rr_tmp rfl) ⟨rfl, rfl⟩


def F.disk_Disk_why_1 (x1 : Int) : Option Int :=
  Option.bind (F.disk_Disk_Size_1) (fun (r21 : Int) => if r21 == 0 then (some (9)) else (none))
set_option maxRecDepth 100000 in
set_option maxHeartbeats 4000000 in
theorem c_disk_Disk_why_1 (I : Hl) (x1 : Int) (res : Int) (hF : F.disk_Disk_why_1 x1 = some res) : Tr Tryd.prog 33 [.pointer none, .int .i64 x1] [imm I] (fun r H' => r = .int .i64 res ∧ H' = [imm I]) := by
  unfold F.disk_Disk_why_1 at hF
  refine tr_of_cw (fn := Tryd.f33) Tryd.func33 rfl (Nat.le_of_ble_eq_true rfl) 26 rfl fun F0 w0 => ?_
  refine cw_keep [0, 1] (L' := [(0, .pointer none), (1, .int .i64 x1)]) rfl ?_
  refine cw_state (S' := SAT w0 ([imm I] ++ F0)) (fun w hs => hs) ?_
  refine cw_seq ?_
  refine cw_region ?_
  refine ow_vals 1 (j := 1) [0, 1] [(0, .pointer none), (1, .int .i64 x1)] rfl (by kernel_rfl) ?_
  refine ow_end rfl ?_
  refine ew_then ?_
  refine cw_seq ?_
  refine cw_block ?_
  refine cw_seq ?_
  refine cw_region ?_
  refine ow_vals 1 (j := 1) [0, 1, 6] [(0, .pointer none), (1, .int .i64 x1), (6, .pointer none)] rfl (by kernel_rfl) ?_
  obtain ⟨r21, h22, hF⟩ := bind_some hF
  refine ow_pw rfl (pw_call (F := [] ++ F0) rfl rfl rfl rfl rfl rfl rfl (by kernel_rfl) (perm_of_pulls [0] rfl) (c_disk_Disk_Size_1 _ r21 h22) ?_)
  rintro _ _ ⟨rfl, rfl⟩
  refine nw_H (H' := [imm I] ++ F0) rfl (nw_ow ?_)
  refine ow_vals 2 (j := 4) [0, 1, 5] [(0, .pointer none), (1, .int .i64 x1), (5, .bool (r21 == 0))] rfl (by kernel_rfl) ?_
  refine ow_end rfl ?_
  refine ew_then ?_
  rcases if_some hF with ⟨h23, hF⟩ | ⟨h23, hF⟩
  · refine cw_cond_t rfl rfl h23 ?_
    refine cw_seq ?_
    refine cw_region ?_
    refine ow_vals 1 (j := 1) [4] [(4, .int .i64 9)] rfl (by kernel_rfl) ?_
    refine ow_end rfl ?_
    refine ew_then ?_
    refine cw_ret ?_
    refine ew_blk_ret ?_
    refine ew_then_ret ?_
    have hR := Option.some.inj hF
    subst hR
    exact fin1 (H1 := [imm I]) (fun w hs => sat_to [0] 0 rfl hs) rfl (rr_tmp rfl) ⟨rfl, rfl⟩
  · refine cw_cond_f rfl rfl h23 ?_
    refine cw_seq ?_
    refine cw_region ?_
    refine ow_vals 1 (j := 1) [0, 1, 10] [(0, .pointer none), (1, .int .i64 x1), (10, .pointer none)] rfl (by kernel_rfl) ?_
    cases hF


def F.disk_Disk_Read_1 (x1 : Int) : Option (ByteArray × Int) :=
  Option.bind (F.disk_Disk_why_1 x1) (fun (r21 : Int) => if r21 != 0 then (some (((ByteArray.mk #[]), r21))) else (none))
set_option maxRecDepth 100000 in
set_option maxHeartbeats 4000000 in
theorem c_disk_Disk_Read_1 (I : Hl) (x1 : Int) (res : ByteArray × Int) (hF : F.disk_Disk_Read_1 x1 = some res) : Tr Tryd.prog 18 [.pointer none, .int .i64 x1] [imm I] (fun r H' => r = .tuple #[.string res.1, .int .i64 res.2] ∧ H' = [imm I]) := by
  unfold F.disk_Disk_Read_1 at hF
  refine tr_of_cw (fn := Tryd.f18) Tryd.func18 rfl (Nat.le_of_ble_eq_true rfl) 35 rfl fun F0 w0 => ?_
  refine cw_keep [0, 1] (L' := [(0, .pointer none), (1, .int .i64 x1)]) rfl ?_
  refine cw_state (S' := SAT w0 ([imm I] ++ F0)) (fun w hs => hs) ?_
  refine cw_seq ?_
  refine cw_region ?_
  refine ow_vals 2 (j := 2) [0, 1] [(0, .pointer none), (1, .int .i64 x1)] rfl (by kernel_rfl) ?_
  refine ow_end rfl ?_
  refine ew_then ?_
  refine cw_seq ?_
  refine cw_seq ?_
  refine cw_region ?_
  refine ow_vals 2 (j := 2) [0, 1, 9, 10] [(0, .pointer none), (1, .int .i64 x1), (9, .pointer none), (10, .int .i64 x1)] rfl (by kernel_rfl) ?_
  obtain ⟨r21, h22, hF⟩ := bind_some hF
  refine ow_pw rfl (pw_call (F := [] ++ F0) rfl rfl rfl rfl rfl rfl rfl (by kernel_rfl) (perm_of_pulls [0] rfl) (c_disk_Disk_why_1 _ x1 r21 h22) ?_)
  rintro _ _ ⟨rfl, rfl⟩
  refine nw_H (H' := [imm I] ++ F0) rfl (nw_ow ?_)
  refine ow_vals 1 (j := 4) [0, 1, 6] [(0, .pointer none), (1, .int .i64 x1), (6, .int .i64 r21)] rfl (by kernel_rfl) ?_
  refine ow_end rfl ?_
  refine ew_then ?_
  refine cw_seq ?_
  refine cw_region ?_
  refine ow_vals 2 (j := 2) [0, 1, 6, 13] [(0, .pointer none), (1, .int .i64 x1), (6, .int .i64 r21), (13, .bool (r21 != 0))] rfl (by kernel_rfl) ?_
  refine ow_end rfl ?_
  refine ew_then ?_
  rcases if_some hF with ⟨h23, hF⟩ | ⟨h23, hF⟩
  · refine cw_cond_t rfl rfl h23 ?_
    refine cw_seq ?_
    refine cw_region ?_
    refine ow_vals 3 (j := 3) [4, 5] [(4, .string (ByteArray.mk #[])), (5, .int .i64 r21)] rfl (by kernel_rfl) ?_
    refine ow_end rfl ?_
    refine ew_then ?_
    refine cw_ret ?_
    refine ew_then_ret ?_
    have hR := Option.some.inj hF
    subst hR
    exact fin2 (H1 := [imm I]) (fun w hs => sat_to [0] 0 rfl hs) rfl (rr_tmp rfl) (rr_tmp rfl) ⟨rfl, rfl⟩
  · refine cw_cond_f rfl rfl h23 ?_
    refine cw_skip ?_
    refine ew_then ?_
    refine cw_seq ?_
    refine cw_seq ?_
    refine cw_region ?_
    refine ow_vals 1 (j := 1) [0, 1, 16] [(0, .pointer none), (1, .int .i64 x1), (16, .pointer none)] rfl (by kernel_rfl) ?_
    cases hF


def F.guard_Read_1.r1 (r21 : ByteArray × Int) (r30 : Int) : Option (ByteArray × Int × Int) :=
  chk (0 ≤ (9 : Int) ∧ (9 : Int) ≤ (IntKind.i64.wrap (9 + (IntKind.i64.wrap (bt r21.1 8)))) ∧ (IntKind.i64.wrap (9 + (IntKind.i64.wrap (bt r21.1 8)))) ≤ (r21.1.size : Int)) (some ((r21.1.extract (9 : Int).toNat (IntKind.i64.wrap (9 + (IntKind.i64.wrap (bt r21.1 8)))).toNat, r30, 0)))
def F.guard_Read_1 (x1 : Int) : Option (ByteArray × Int × Int) :=
  Option.bind (F.disk_Disk_Read_1 x1) (fun (r21 : ByteArray × Int) => if r21.2 != 0 then (some (((ByteArray.mk #[]), 0, r21.2))) else (Option.bind (F.strings_Repeat (ByteArray.mk #[0]) 64) (fun (r24 : ByteArray) => if seqB r21.1 r24 then (some (((ByteArray.mk #[]), 0, 7))) else (chk (0 ≤ (0 : Int) ∧ (0 : Int) ≤ (8 : Int) ∧ (8 : Int) ≤ (r21.1.size : Int)) (chk (0 ≤ (56 : Int) ∧ (56 : Int) ≤ (r21.1.size : Int) ∧ (r21.1.size : Int) ≤ (r21.1.size : Int)) (chk (0 ≤ (8 : Int) ∧ 8 < (r21.1.size : Int)) (Option.bind (F.guard_Number (r21.1.extract (0 : Int).toNat (8 : Int).toNat)) (fun (r30 : Int) => thru (if !(seqB (r21.1.extract (0 : Int).toNat (8 : Int).toNat) (r21.1.extract (56 : Int).toNat (r21.1.size : Int).toNat)) then (some (.inr (((ByteArray.mk #[]), 0, 17)))) else (if decide (r30 < 4294967296) then (some (.inr (((ByteArray.mk #[]), 0, 17)))) else (if decide ((IntKind.i64.wrap (bt r21.1 8)) > 47) then (some (.inr (((ByteArray.mk #[]), 0, 17)))) else (chk (0 ≤ (IntKind.i64.wrap (9 + (IntKind.i64.wrap (bt r21.1 8)))) ∧ (IntKind.i64.wrap (9 + (IntKind.i64.wrap (bt r21.1 8)))) ≤ (56 : Int) ∧ (56 : Int) ≤ (r21.1.size : Int)) (Option.bind (F.strings_Trim (r21.1.extract (IntKind.i64.wrap (9 + (IntKind.i64.wrap (bt r21.1 8)))).toNat (56 : Int).toNat) (ByteArray.mk #[0])) (fun (r37 : ByteArray) => if !(seqB r37 (ByteArray.mk #[])) then (some (.inr (((ByteArray.mk #[]), 0, 17)))) else (some (.inl ())))))))) (fun x => F.guard_Read_1.r1 r21 r30)))))))))
set_option maxRecDepth 100000 in
set_option maxHeartbeats 4000000 in
theorem c_guard_Read_1 (I : Hl) (x1 : Int) (res : ByteArray × Int × Int) (hF : F.guard_Read_1 x1 = some res) : Tr Tryd.prog 14 [.pointer none, .int .i64 x1] [imm I] (fun r H' => r = .tuple #[.string res.1, .int .i64 res.2.1, .int .i64 res.2.2] ∧ H' = [imm I]) := by
  unfold F.guard_Read_1 at hF
  refine tr_of_cw (fn := Tryd.f14) Tryd.func14 rfl (Nat.le_of_ble_eq_true rfl) 58 rfl fun F0 w0 => ?_
  refine cw_keep [0, 1] (L' := [(0, .pointer none), (1, .int .i64 x1)]) rfl ?_
  refine cw_state (S' := SAT w0 ([imm I] ++ F0)) (fun w hs => hs) ?_
  refine cw_seq ?_
  refine cw_region ?_
  refine ow_vals 3 (j := 3) [0, 1] [(0, .pointer none), (1, .int .i64 x1)] rfl (by kernel_rfl) ?_
  refine ow_end rfl ?_
  refine ew_then ?_
  refine cw_seq ?_
  refine cw_region ?_
  refine ow_vals 2 (j := 2) [14, 15] [(14, .pointer none), (15, .int .i64 x1)] rfl (by kernel_rfl) ?_
  obtain ⟨r21, h22, hF⟩ := bind_some hF
  refine ow_pw rfl (pw_call (F := [] ++ F0) rfl rfl rfl rfl rfl rfl rfl (by kernel_rfl) (perm_of_pulls [0] rfl) (c_disk_Disk_Read_1 _ x1 r21 h22) ?_)
  rintro _ _ ⟨rfl, rfl⟩
  refine nw_H (H' := [imm I] ++ F0) rfl (nw_ow ?_)
  refine ow_vals 5 (j := 8) [7, 8] [(7, .string r21.1), (8, .int .i64 r21.2)] rfl (by kernel_rfl) ?_
  refine ow_end rfl ?_
  refine ew_then ?_
  refine cw_seq ?_
  refine cw_seq ?_
  refine cw_region ?_
  refine ow_vals 2 (j := 2) [7, 8, 20] [(7, .string r21.1), (8, .int .i64 r21.2), (20, .bool (r21.2 != 0))] rfl (by kernel_rfl) ?_
  refine ow_end rfl ?_
  refine ew_then ?_
  rcases if_some hF with ⟨h23, hF⟩ | ⟨h23, hF⟩
  · refine cw_cond_t rfl rfl h23 ?_
    refine cw_seq ?_
    refine cw_region ?_
    refine ow_vals 4 (j := 4) [4, 5, 6] [(4, .string (ByteArray.mk #[])), (5, .int .i64 0), (6, .int .i64 r21.2)] rfl (by kernel_rfl) ?_
    refine ow_end rfl ?_
    refine ew_then ?_
    refine cw_ret ?_
    refine ew_then_ret ?_
    have hR := Option.some.inj hF
    subst hR
    exact fin3 (H1 := [imm I]) (fun w hs => sat_to [0] 0 rfl hs) rfl (rr_tmp rfl) (rr_tmp rfl) (rr_tmp rfl) ⟨rfl, rfl⟩
  · refine cw_cond_f rfl rfl h23 ?_
    refine cw_skip ?_
    refine ew_then ?_
    refine cw_seq ?_
    refine cw_seq ?_
    refine cw_region ?_
    refine ow_vals 1 (j := 1) [7, 22] [(7, .string r21.1), (22, .string r21.1)] rfl (by kernel_rfl) ?_
    obtain ⟨r24, h25, hF⟩ := bind_some hF
    refine ow_pw rfl (pw_call (F := [] ++ F0) rfl rfl rfl rfl rfl rfl rfl (by kernel_rfl) (perm_of_pulls [0] rfl) (c_strings_Repeat _ (ByteArray.mk #[0]) 64 r24 h25) ?_)
    rintro _ _ ⟨rfl, rfl⟩
    refine nw_H (H' := [imm I] ++ F0) rfl (nw_ow ?_)
    refine ow_vals 1 (j := 3) [7, 24] [(7, .string r21.1), (24, .bool (seqB r21.1 r24))] rfl (by kernel_rfl) ?_
    refine ow_end rfl ?_
    refine ew_then ?_
    rcases if_some hF with ⟨h26, hF⟩ | ⟨h26, hF⟩
    · refine cw_cond_t rfl rfl h26 ?_
      refine cw_seq ?_
      refine cw_region ?_
      refine ow_vals 3 (j := 3) [4, 5, 6] [(4, .string (ByteArray.mk #[])), (5, .int .i64 0), (6, .int .i64 7)] rfl (by kernel_rfl) ?_
      refine ow_end rfl ?_
      refine ew_then ?_
      refine cw_ret ?_
      refine ew_then_ret ?_
      have hR := Option.some.inj hF
      subst hR
      exact fin3 (H1 := [imm I]) (fun w hs => sat_to [0] 0 rfl hs) rfl (rr_tmp rfl) (rr_tmp rfl) (rr_tmp rfl) ⟨rfl, rfl⟩
    · refine cw_cond_f rfl rfl h26 ?_
      refine cw_skip ?_
      refine ew_then ?_
      refine cw_seq ?_
      refine cw_open 6 (SAT w0 ([imm I])) (by kernel_rfl) (f := 6) rfl (fun w hs => sat_drew hs) ?_
      refine aw_vals [0, 2] (f' := 4) (m' := 5) [7, 25, 27] [(7, .string r21.1), (25, .string r21.1), (27, .string r21.1)] (fun _ _ _ _ _ h => calm_fin (P := Tryd.prog) (fn := Tryd.f14) _ _ _ _ _ h) (fun w hs => sat_pulls [0] (G := [] ++ F0) rfl hs) rfl (by kernel_rfl) ?_
      obtain ⟨h27, hF⟩ := chk_some hF
      refine aw_pure 1 (m' := 7) (v := .string (r21.1.extract (0 : Int).toNat (8 : Int).toNat)) rfl rfl rfl rfl (by kernel_rfl) (by kernel_rfl) (fun _ _ _ _ _ h => calm_fin (P := Tryd.prog) (fn := Tryd.f14) _ _ _ _ _ h) (fun w hs => sat_pulls [0] (G := [] ++ F0) rfl hs) (q_slice_str rfl (by kernel_rfl) rfl rfl rfl h27.1 h27.2.1 h27.2.2) ?_
      refine aw_vals [4] (f' := 2) (m' := 23) [7, 9, 27] [(7, .string r21.1), (9, .string (r21.1.extract (0 : Int).toNat (8 : Int).toNat)), (27, .string r21.1)] (fun _ _ _ _ _ h => calm_fin (P := Tryd.prog) (fn := Tryd.f14) _ _ _ _ _ h) (fun w hs => sat_pulls [0] (G := [] ++ F0) rfl hs) rfl (by kernel_rfl) ?_
      obtain ⟨h28, hF⟩ := chk_some hF
      refine aw_pure 3 (m' := 31) (v := .string (r21.1.extract (56 : Int).toNat (r21.1.size : Int).toNat)) rfl rfl rfl rfl (by kernel_rfl) (by kernel_rfl) (fun _ _ _ _ _ h => calm_fin (P := Tryd.prog) (fn := Tryd.f14) _ _ _ _ _ h) (fun w hs => sat_pulls [0] (G := [] ++ F0) rfl hs) (q_slice_str rfl (by kernel_rfl) rfl rfl rfl h28.1 h28.2.1 h28.2.2) ?_
      refine aw_vals [5] (f' := 0) (m' := 63) [7, 9, 10] [(7, .string r21.1), (9, .string (r21.1.extract (0 : Int).toNat (8 : Int).toNat)), (10, .string (r21.1.extract (56 : Int).toNat (r21.1.size : Int).toNat))] (fun _ _ _ _ _ h => calm_fin (P := Tryd.prog) (fn := Tryd.f14) _ _ _ _ _ h) (fun w hs => sat_pulls [0] (G := [] ++ F0) rfl hs) rfl (by kernel_rfl) ?_
      refine aw_keep [7, 9, 10] (L' := [(7, .string r21.1), (9, .string (r21.1.extract (0 : Int).toNat (8 : Int).toNat)), (10, .string (r21.1.extract (56 : Int).toNat (r21.1.size : Int).toNat))]) rfl ?_
      refine aw_end (by kernel_rfl) ?_
      refine ew_then ?_
      refine cw_seq ?_
      refine cw_region ?_
      refine ow_vals 1 (j := 1) [7, 9, 10, 29] [(7, .string r21.1), (9, .string (r21.1.extract (0 : Int).toNat (8 : Int).toNat)), (10, .string (r21.1.extract (56 : Int).toNat (r21.1.size : Int).toNat)), (29, .string r21.1)] rfl (by kernel_rfl) ?_
      obtain ⟨h29, hF⟩ := chk_some hF
      refine ow_pw rfl (pw_quiet (v := .int .u8 (bt r21.1 8)) rfl rfl rfl rfl (q_index_str rfl (by kernel_rfl) rfl rfl h29.1 h29.2) (nw_ow ?_))
      refine ow_vals 2 (j := 4) [7, 9, 10, 11] [(7, .string r21.1), (9, .string (r21.1.extract (0 : Int).toNat (8 : Int).toNat)), (10, .string (r21.1.extract (56 : Int).toNat (r21.1.size : Int).toNat)), (11, .int .i64 (IntKind.i64.wrap (bt r21.1 8)))] rfl (by kernel_rfl) ?_
      refine ow_end rfl ?_
      refine ew_then ?_
      refine cw_seq ?_
      refine cw_region ?_
      refine ow_vals 1 (j := 1) [7, 9, 10, 11, 32] [(7, .string r21.1), (9, .string (r21.1.extract (0 : Int).toNat (8 : Int).toNat)), (10, .string (r21.1.extract (56 : Int).toNat (r21.1.size : Int).toNat)), (11, .int .i64 (IntKind.i64.wrap (bt r21.1 8))), (32, .string (r21.1.extract (0 : Int).toNat (8 : Int).toNat))] rfl (by kernel_rfl) ?_
      obtain ⟨r30, h31, hF⟩ := bind_some hF
      refine ow_pw rfl (pw_call (F := [] ++ F0) rfl rfl rfl rfl rfl rfl rfl (by kernel_rfl) (perm_of_pulls [0] rfl) (c_guard_Number _ (r21.1.extract (0 : Int).toNat (8 : Int).toNat) r30 h31) ?_)
      rintro _ _ ⟨rfl, rfl⟩
      refine nw_H (H' := [imm I] ++ F0) rfl (nw_ow ?_)
      refine ow_vals 1 (j := 3) [7, 9, 10, 11, 12] [(7, .string r21.1), (9, .string (r21.1.extract (0 : Int).toNat (8 : Int).toNat)), (10, .string (r21.1.extract (56 : Int).toNat (r21.1.size : Int).toNat)), (11, .int .i64 (IntKind.i64.wrap (bt r21.1 8))), (12, .int .i64 r30)] rfl (by kernel_rfl) ?_
      refine ow_end rfl ?_
      refine ew_then ?_
      obtain ⟨v32, hF, hK32⟩ := thru_some hF
      refine cw_mid (fun a w => .inl () = v32 ∧ Fr 58 [(7, .string r21.1), (11, .int .i64 (IntKind.i64.wrap (bt r21.1 8))), (12, .int .i64 r30)] a ∧ SAT w0 ([imm I] ++ F0) w) ?_ ?_
      · refine cw_seq ?_
        refine cw_region ?_
        refine ow_vals 4 (j := 4) [7, 11, 12, 37] [(7, .string r21.1), (11, .int .i64 (IntKind.i64.wrap (bt r21.1 8))), (12, .int .i64 r30), (37, .bool (!(seqB (r21.1.extract (0 : Int).toNat (8 : Int).toNat) (r21.1.extract (56 : Int).toNat (r21.1.size : Int).toNat))))] rfl (by kernel_rfl) ?_
        rcases if_some hF with ⟨h33, hF⟩ | ⟨h33, hF⟩
        · refine ow_slots (L' := [(7, .string r21.1), (11, .int .i64 (IntKind.i64.wrap (bt r21.1 8))), (12, .int .i64 r30), (37, .bool true)]) (by rw [h33]) ?_
          refine ow_vals 15 (j := 19) [7, 11, 12, 52] [(7, .string r21.1), (11, .int .i64 (IntKind.i64.wrap (bt r21.1 8))), (12, .int .i64 r30), (52, .bool true)] rfl (by kernel_rfl) ?_
          refine ow_end rfl ?_
          refine ew_then ?_
          refine cw_cond_t rfl rfl rfl ?_
          refine cw_seq ?_
          refine cw_region ?_
          refine ow_vals 3 (j := 3) [4, 5, 6] [(4, .string (ByteArray.mk #[])), (5, .int .i64 0), (6, .int .i64 17)] rfl (by kernel_rfl) ?_
          refine ow_end rfl ?_
          refine ew_then ?_
          refine cw_ret ?_
          refine ew_then_ret ?_
          have hR := Option.some.inj hF
          subst hR
          have hR := hK32
          try dsimp only [Thru] at hR
          subst hR
          exact fin3 (H1 := [imm I]) (fun w hs => sat_to [0] 0 rfl hs) rfl (rr_tmp rfl) (rr_tmp rfl) (rr_tmp rfl) ⟨rfl, rfl⟩
        · refine ow_slots (L' := [(7, .string r21.1), (11, .int .i64 (IntKind.i64.wrap (bt r21.1 8))), (12, .int .i64 r30), (37, .bool false)]) (by rw [h33]) ?_
          refine ow_vals 4 (j := 8) [7, 11, 12, 41] [(7, .string r21.1), (11, .int .i64 (IntKind.i64.wrap (bt r21.1 8))), (12, .int .i64 r30), (41, .bool (decide (r30 < 4294967296)))] rfl (by kernel_rfl) ?_
          rcases if_some hF with ⟨h34, hF⟩ | ⟨h34, hF⟩
          · refine ow_slots (L' := [(7, .string r21.1), (11, .int .i64 (IntKind.i64.wrap (bt r21.1 8))), (12, .int .i64 r30), (41, .bool true)]) (by rw [h34]) ?_
            refine ow_vals 11 (j := 19) [7, 11, 12, 52] [(7, .string r21.1), (11, .int .i64 (IntKind.i64.wrap (bt r21.1 8))), (12, .int .i64 r30), (52, .bool true)] rfl (by kernel_rfl) ?_
            refine ow_end rfl ?_
            refine ew_then ?_
            refine cw_cond_t rfl rfl rfl ?_
            refine cw_seq ?_
            refine cw_region ?_
            refine ow_vals 3 (j := 3) [4, 5, 6] [(4, .string (ByteArray.mk #[])), (5, .int .i64 0), (6, .int .i64 17)] rfl (by kernel_rfl) ?_
            refine ow_end rfl ?_
            refine ew_then ?_
            refine cw_ret ?_
            refine ew_then_ret ?_
            have hR := Option.some.inj hF
            subst hR
            have hR := hK32
            try dsimp only [Thru] at hR
            subst hR
            exact fin3 (H1 := [imm I]) (fun w hs => sat_to [0] 0 rfl hs) rfl (rr_tmp rfl) (rr_tmp rfl) (rr_tmp rfl) ⟨rfl, rfl⟩
          · refine ow_slots (L' := [(7, .string r21.1), (11, .int .i64 (IntKind.i64.wrap (bt r21.1 8))), (12, .int .i64 r30), (41, .bool false)]) (by rw [h34]) ?_
            refine ow_vals 4 (j := 12) [7, 11, 12, 45] [(7, .string r21.1), (11, .int .i64 (IntKind.i64.wrap (bt r21.1 8))), (12, .int .i64 r30), (45, .bool (decide ((IntKind.i64.wrap (bt r21.1 8)) > 47)))] rfl (by kernel_rfl) ?_
            rcases if_some hF with ⟨h35, hF⟩ | ⟨h35, hF⟩
            · refine ow_slots (L' := [(7, .string r21.1), (11, .int .i64 (IntKind.i64.wrap (bt r21.1 8))), (12, .int .i64 r30), (45, .bool true)]) (by rw [h35]) ?_
              refine ow_vals 7 (j := 19) [7, 11, 12, 52] [(7, .string r21.1), (11, .int .i64 (IntKind.i64.wrap (bt r21.1 8))), (12, .int .i64 r30), (52, .bool true)] rfl (by kernel_rfl) ?_
              refine ow_end rfl ?_
              refine ew_then ?_
              refine cw_cond_t rfl rfl rfl ?_
              refine cw_seq ?_
              refine cw_region ?_
              refine ow_vals 3 (j := 3) [4, 5, 6] [(4, .string (ByteArray.mk #[])), (5, .int .i64 0), (6, .int .i64 17)] rfl (by kernel_rfl) ?_
              refine ow_end rfl ?_
              refine ew_then ?_
              refine cw_ret ?_
              refine ew_then_ret ?_
              have hR := Option.some.inj hF
              subst hR
              have hR := hK32
              try dsimp only [Thru] at hR
              subst hR
              exact fin3 (H1 := [imm I]) (fun w hs => sat_to [0] 0 rfl hs) rfl (rr_tmp rfl) (rr_tmp rfl) (rr_tmp rfl) ⟨rfl, rfl⟩
            · refine ow_slots (L' := [(7, .string r21.1), (11, .int .i64 (IntKind.i64.wrap (bt r21.1 8))), (12, .int .i64 r30), (45, .bool false)]) (by rw [h35]) ?_
              refine ow_vals 3 (j := 15) [7, 11, 12, 45, 46, 48] [(7, .string r21.1), (11, .int .i64 (IntKind.i64.wrap (bt r21.1 8))), (12, .int .i64 r30), (45, .bool false), (46, .string r21.1), (48, .int .i64 (IntKind.i64.wrap (9 + (IntKind.i64.wrap (bt r21.1 8)))))] rfl (by kernel_rfl) ?_
              obtain ⟨h36, hF⟩ := chk_some hF
              refine ow_pw rfl (pw_quiet (v := .string (r21.1.extract (IntKind.i64.wrap (9 + (IntKind.i64.wrap (bt r21.1 8)))).toNat (56 : Int).toNat)) rfl rfl rfl rfl (q_slice_str rfl (by kernel_rfl) rfl rfl rfl h36.1 h36.2.1 h36.2.2) (nw_ow ?_))
              obtain ⟨r37, h38, hF⟩ := bind_some hF
              refine ow_pw rfl (pw_call (F := [] ++ F0) rfl rfl rfl rfl rfl rfl rfl (by kernel_rfl) (perm_of_pulls [0] rfl) (c_strings_Trim _ (r21.1.extract (IntKind.i64.wrap (9 + (IntKind.i64.wrap (bt r21.1 8)))).toNat (56 : Int).toNat) (ByteArray.mk #[0]) r37 h38) ?_)
              rintro _ _ ⟨rfl, rfl⟩
              refine nw_H (H' := [imm I] ++ F0) rfl (nw_ow ?_)
              refine ow_vals 2 (j := 19) [7, 11, 12, 52] [(7, .string r21.1), (11, .int .i64 (IntKind.i64.wrap (bt r21.1 8))), (12, .int .i64 r30), (52, .bool (!(seqB r37 (ByteArray.mk #[]))))] rfl (by kernel_rfl) ?_
              refine ow_end rfl ?_
              refine ew_then ?_
              rcases if_some hF with ⟨h39, hF⟩ | ⟨h39, hF⟩
              · refine cw_cond_t rfl rfl h39 ?_
                refine cw_seq ?_
                refine cw_region ?_
                refine ow_vals 3 (j := 3) [4, 5, 6] [(4, .string (ByteArray.mk #[])), (5, .int .i64 0), (6, .int .i64 17)] rfl (by kernel_rfl) ?_
                refine ow_end rfl ?_
                refine ew_then ?_
                refine cw_ret ?_
                refine ew_then_ret ?_
                have hR := Option.some.inj hF
                subst hR
                have hR := hK32
                try dsimp only [Thru] at hR
                subst hR
                exact fin3 (H1 := [imm I]) (fun w hs => sat_to [0] 0 rfl hs) rfl (rr_tmp rfl) (rr_tmp rfl) (rr_tmp rfl) ⟨rfl, rfl⟩
              · refine cw_cond_f rfl rfl h39 ?_
                refine cw_skip ?_
                have hR := Option.some.inj hF
                exact fun a w hf hs => ⟨hR, hf.keep [7, 11, 12], sat_to [0] 0 rfl hs⟩
      · rintro a w ⟨hv, hf, hs⟩
        subst hv
        replace hF := hK32
        clear hK32
        try dsimp only [Thru] at hF
        revert a w
        show CW _ _ _ 58 [(7, .string r21.1), (11, .int .i64 (IntKind.i64.wrap (bt r21.1 8))), (12, .int .i64 r30)] (SAT w0 ([imm I] ++ F0))
        unfold F.guard_Read_1.r1 at hF
        refine cw_seq ?_
        refine cw_region ?_
        refine ow_vals 3 (j := 3) [12, 53, 55] [(12, .int .i64 r30), (53, .string r21.1), (55, .int .i64 (IntKind.i64.wrap (9 + (IntKind.i64.wrap (bt r21.1 8)))))] rfl (by kernel_rfl) ?_
        obtain ⟨h40, hF⟩ := chk_some hF
        refine ow_pw rfl (pw_quiet (v := .string (r21.1.extract (9 : Int).toNat (IntKind.i64.wrap (9 + (IntKind.i64.wrap (bt r21.1 8)))).toNat)) rfl rfl rfl rfl (q_slice_str rfl (by kernel_rfl) rfl rfl rfl h40.1 h40.2.1 h40.2.2) (nw_ow ?_))
        refine ow_vals 4 (j := 8) [4, 5, 6] [(4, .string (r21.1.extract (9 : Int).toNat (IntKind.i64.wrap (9 + (IntKind.i64.wrap (bt r21.1 8)))).toNat)), (5, .int .i64 r30), (6, .int .i64 0)] rfl (by kernel_rfl) ?_
        refine ow_end rfl ?_
        refine ew_then ?_
        refine cw_ret ?_
        have hR := Option.some.inj hF
        subst hR
        exact fin3 (H1 := [imm I]) (fun w hs => sat_to [0] 0 rfl hs) rfl (rr_tmp rfl) (rr_tmp rfl) (rr_tmp rfl) ⟨rfl, rfl⟩


def F.guard_Guard_Get_1 (x1 : Int) (m0 : guard_Guard) : Option (ByteArray × Int × Int) :=
  Option.bind (F.guard_Guard_none_2 m0) (fun (r21 : Bool) => if r21 then (some (((ByteArray.mk #[]), 0, 9))) else (Option.bind (F.guard_Read_1 x1) (fun (r24 : ByteArray × Int × Int) => some ((r24.1, r24.2.1, r24.2.2)))))
set_option maxRecDepth 100000 in
set_option maxHeartbeats 4000000 in
theorem c_guard_Guard_Get_1 (I : Hl) (x1 : Int) (m0 : guard_Guard) (b0 : Nat) (res : ByteArray × Int × Int) (hF : F.guard_Guard_Get_1 x1 m0 = some res) : Tr Tryd.prog 19 [.pointer (some ⟨b0, 0, none⟩), .int .i64 x1] [imm I, pt b0 #[.pointer none, .int .i64 m0.boot_, .int .i64 m0.n_] 47] (fun r H' => r = .tuple #[.string res.1, .int .i64 res.2.1, .int .i64 res.2.2] ∧ H' = [imm I, pt b0 #[.pointer none, .int .i64 m0.boot_, .int .i64 m0.n_] 47]) := by
  unfold F.guard_Guard_Get_1 at hF
  refine tr_of_cw (fn := Tryd.f19) Tryd.func19 rfl (Nat.le_of_ble_eq_true rfl) 18 rfl fun F0 w0 => ?_
  refine cw_keep [0, 1] (L' := [(0, .pointer (some ⟨b0, 0, none⟩)), (1, .int .i64 x1)]) rfl ?_
  refine cw_state (S' := SAT w0 ([imm I, pt b0 #[.pointer none, .int .i64 m0.boot_, .int .i64 m0.n_] 47] ++ F0)) (fun w hs => hs) ?_
  refine cw_seq ?_
  refine cw_region ?_
  refine ow_vals 3 (j := 3) [0, 1] [(0, .pointer (some ⟨b0, 0, none⟩)), (1, .int .i64 x1)] rfl (by kernel_rfl) ?_
  refine ow_end rfl ?_
  refine ew_then ?_
  refine cw_seq ?_
  refine cw_seq ?_
  refine cw_region ?_
  refine ow_vals 1 (j := 1) [0, 1, 7] [(0, .pointer (some ⟨b0, 0, none⟩)), (1, .int .i64 x1), (7, .pointer (some ⟨b0, 0, none⟩))] rfl (by kernel_rfl) ?_
  obtain ⟨r21, h22, hF⟩ := bind_some hF
  refine ow_pw rfl (pw_call (F := [] ++ F0) rfl rfl rfl rfl rfl rfl rfl (by kernel_rfl) (perm_of_pulls [0, 0] rfl) (c_guard_Guard_none_2 _ m0 b0 r21 h22) ?_)
  rintro _ _ ⟨rfl, rfl⟩
  refine nw_H (H' := [imm I, pt b0 #[.pointer none, .int .i64 m0.boot_, .int .i64 m0.n_] 47] ++ F0) rfl (nw_ow ?_)
  refine ow_end rfl ?_
  refine ew_then ?_
  rcases if_some hF with ⟨h23, hF⟩ | ⟨h23, hF⟩
  · refine cw_cond_t rfl rfl h23 ?_
    refine cw_seq ?_
    refine cw_region ?_
    refine ow_vals 3 (j := 3) [4, 5, 6] [(4, .string (ByteArray.mk #[])), (5, .int .i64 0), (6, .int .i64 9)] rfl (by kernel_rfl) ?_
    refine ow_end rfl ?_
    refine ew_then ?_
    refine cw_ret ?_
    refine ew_then_ret ?_
    have hR := Option.some.inj hF
    subst hR
    exact fin3 (H1 := [imm I, pt b0 #[.pointer none, .int .i64 m0.boot_, .int .i64 m0.n_] 47]) (fun w hs => sat_to [0, 0] 0 rfl hs) rfl (rr_tmp rfl) (rr_tmp rfl) (rr_tmp rfl) ⟨rfl, rfl⟩
  · refine cw_cond_f rfl rfl h23 ?_
    refine cw_skip ?_
    refine ew_then ?_
    refine cw_seq ?_
    refine cw_region ?_
    refine ow_vals 3 (j := 3) [1, 11] [(1, .int .i64 x1), (11, .pointer (some ⟨b0, 0, none⟩))] rfl (by kernel_rfl) ?_
    refine ow_pw rfl (pw_quiet (v := .pointer none) rfl rfl rfl rfl (q_load 1 rfl rfl rfl (by kernel_rfl)) (nw_ow ?_))
    refine ow_vals 1 (j := 5) [12, 13] [(12, .pointer none), (13, .int .i64 x1)] rfl (by kernel_rfl) ?_
    obtain ⟨r24, h25, hF⟩ := bind_some hF
    refine ow_pw rfl (pw_call (F := [pt b0 #[.pointer none, .int .i64 m0.boot_, .int .i64 m0.n_] 47] ++ F0) rfl rfl rfl rfl rfl rfl rfl (by kernel_rfl) (perm_of_pulls [0] rfl) (c_guard_Read_1 _ x1 r24 h25) ?_)
    rintro _ _ ⟨rfl, rfl⟩
    refine nw_H (H' := [imm I, pt b0 #[.pointer none, .int .i64 m0.boot_, .int .i64 m0.n_] 47] ++ F0) rfl (nw_ow ?_)
    refine ow_vals 6 (j := 12) [4, 5, 6] [(4, .string r24.1), (5, .int .i64 r24.2.1), (6, .int .i64 r24.2.2)] rfl (by kernel_rfl) ?_
    refine ow_end rfl ?_
    refine ew_then ?_
    refine cw_ret ?_
    have hR := Option.some.inj hF
    subst hR
    exact fin3 (H1 := [imm I, pt b0 #[.pointer none, .int .i64 m0.boot_, .int .i64 m0.n_] 47]) (fun w hs => sat_to [0, 0] 0 rfl hs) rfl (rr_tmp rfl) (rr_tmp rfl) (rr_tmp rfl) ⟨rfl, rfl⟩


def F.guard_New_1.r1 (x1 : Int) : Option ((Option guard_Guard) × Int) :=
  some ((some (⟨x1, 0⟩ : guard_Guard), 0))
def F.guard_New_1 (x1 : Int) : Option ((Option guard_Guard) × Int) :=
  thru (Option.bind (F.disk_Disk_Size_1) (fun (r22 : Int) => if r22 == 0 then (some (.inr ((none, 1)))) else (if decide (x1 < 1) then (some (.inr ((none, 1)))) else (if decide (x1 > 2147483647) then (some (.inr ((none, 1)))) else (some (.inl ())))))) (fun x => F.guard_New_1.r1 x1)
set_option maxRecDepth 100000 in
set_option maxHeartbeats 4000000 in
theorem c_guard_New_1 (I : Hl) (x1 : Int) (res : (Option guard_Guard) × Int) (hF : F.guard_New_1 x1 = some res) : Tr Tryd.prog 23 [.pointer none, .int .i64 x1] [imm I] (fun r H' => (res.1 = none ∧ r = .tuple #[.pointer none, .int .i64 res.2] ∧ H' = [imm I]) ∨ (∃ (sq1 : guard_Guard), ∃ (bq2 : Nat), res.1 = some sq1 ∧ r = .tuple #[.pointer (some ⟨bq2, 0, none⟩), .int .i64 res.2] ∧ H' = [imm I, pt bq2 #[.pointer none, .int .i64 sq1.boot_, .int .i64 sq1.n_] 47])) := by
  unfold F.guard_New_1 at hF
  refine tr_of_cw (fn := Tryd.f23) Tryd.func23 rfl (Nat.le_of_ble_eq_true rfl) 21 rfl fun F0 w0 => ?_
  refine cw_keep [0, 1] (L' := [(0, .pointer none), (1, .int .i64 x1)]) rfl ?_
  refine cw_state (S' := SAT w0 ([imm I] ++ F0)) (fun w hs => hs) ?_
  refine cw_seq ?_
  refine cw_region ?_
  refine ow_vals 2 (j := 2) [0, 1] [(0, .pointer none), (1, .int .i64 x1)] rfl (by kernel_rfl) ?_
  refine ow_end rfl ?_
  refine ew_then ?_
  obtain ⟨v21, hF, hK21⟩ := thru_some hF
  refine cw_mid (fun a w => .inl () = v21 ∧ Fr 21 [(0, .pointer none), (1, .int .i64 x1)] a ∧ SAT w0 ([imm I] ++ F0) w) ?_ ?_
  · refine cw_seq ?_
    refine cw_region ?_
    refine ow_vals 1 (j := 1) [0, 1, 6] [(0, .pointer none), (1, .int .i64 x1), (6, .pointer none)] rfl (by kernel_rfl) ?_
    obtain ⟨r22, h23, hF⟩ := bind_some hF
    refine ow_pw rfl (pw_call (F := [] ++ F0) rfl rfl rfl rfl rfl rfl rfl (by kernel_rfl) (perm_of_pulls [0] rfl) (c_disk_Disk_Size_1 _ r22 h23) ?_)
    rintro _ _ ⟨rfl, rfl⟩
    refine nw_H (H' := [imm I] ++ F0) rfl (nw_ow ?_)
    refine ow_vals 2 (j := 4) [0, 1, 9] [(0, .pointer none), (1, .int .i64 x1), (9, .bool (r22 == 0))] rfl (by kernel_rfl) ?_
    rcases if_some hF with ⟨h24, hF⟩ | ⟨h24, hF⟩
    · refine ow_slots (L' := [(0, .pointer none), (1, .int .i64 x1), (9, .bool true)]) (by rw [h24]) ?_
      refine ow_vals 7 (j := 11) [0, 1, 16] [(0, .pointer none), (1, .int .i64 x1), (16, .bool true)] rfl (by kernel_rfl) ?_
      refine ow_end rfl ?_
      refine ew_then ?_
      refine cw_cond_t rfl rfl rfl ?_
      refine cw_seq ?_
      refine cw_region ?_
      refine ow_vals 2 (j := 2) [4, 5] [(4, .pointer none), (5, .int .i64 1)] rfl (by kernel_rfl) ?_
      refine ow_end rfl ?_
      refine ew_then ?_
      refine cw_ret ?_
      refine ew_then_ret ?_
      have hR := Option.some.inj hF
      subst hR
      have hR := hK21
      try dsimp only [Thru] at hR
      subst hR
      exact fin2 (H1 := [imm I]) (fun w hs => sat_to [0] 0 rfl hs) rfl (rr_tmp rfl) (rr_tmp rfl) (.inl ⟨rfl, rfl, rfl⟩)
    · refine ow_slots (L' := [(0, .pointer none), (1, .int .i64 x1), (9, .bool false)]) (by rw [h24]) ?_
      refine ow_vals 4 (j := 8) [0, 1, 13] [(0, .pointer none), (1, .int .i64 x1), (13, .bool (decide (x1 < 1)))] rfl (by kernel_rfl) ?_
      rcases if_some hF with ⟨h25, hF⟩ | ⟨h25, hF⟩
      · refine ow_slots (L' := [(0, .pointer none), (1, .int .i64 x1), (13, .bool true)]) (by rw [h25]) ?_
        refine ow_vals 3 (j := 11) [0, 1, 16] [(0, .pointer none), (1, .int .i64 x1), (16, .bool true)] rfl (by kernel_rfl) ?_
        refine ow_end rfl ?_
        refine ew_then ?_
        refine cw_cond_t rfl rfl rfl ?_
        refine cw_seq ?_
        refine cw_region ?_
        refine ow_vals 2 (j := 2) [4, 5] [(4, .pointer none), (5, .int .i64 1)] rfl (by kernel_rfl) ?_
        refine ow_end rfl ?_
        refine ew_then ?_
        refine cw_ret ?_
        refine ew_then_ret ?_
        have hR := Option.some.inj hF
        subst hR
        have hR := hK21
        try dsimp only [Thru] at hR
        subst hR
        exact fin2 (H1 := [imm I]) (fun w hs => sat_to [0] 0 rfl hs) rfl (rr_tmp rfl) (rr_tmp rfl) (.inl ⟨rfl, rfl, rfl⟩)
      · refine ow_slots (L' := [(0, .pointer none), (1, .int .i64 x1), (13, .bool false)]) (by rw [h25]) ?_
        refine ow_vals 3 (j := 11) [0, 1, 16] [(0, .pointer none), (1, .int .i64 x1), (16, .bool (decide (x1 > 2147483647)))] rfl (by kernel_rfl) ?_
        refine ow_end rfl ?_
        refine ew_then ?_
        rcases if_some hF with ⟨h26, hF⟩ | ⟨h26, hF⟩
        · refine cw_cond_t rfl rfl h26 ?_
          refine cw_seq ?_
          refine cw_region ?_
          refine ow_vals 2 (j := 2) [4, 5] [(4, .pointer none), (5, .int .i64 1)] rfl (by kernel_rfl) ?_
          refine ow_end rfl ?_
          refine ew_then ?_
          refine cw_ret ?_
          refine ew_then_ret ?_
          have hR := Option.some.inj hF
          subst hR
          have hR := hK21
          try dsimp only [Thru] at hR
          subst hR
          exact fin2 (H1 := [imm I]) (fun w hs => sat_to [0] 0 rfl hs) rfl (rr_tmp rfl) (rr_tmp rfl) (.inl ⟨rfl, rfl, rfl⟩)
        · refine cw_cond_f rfl rfl h26 ?_
          refine cw_skip ?_
          have hR := Option.some.inj hF
          exact fun a w hf hs => ⟨hR, hf.keep [0, 1], sat_to [0] 0 rfl hs⟩
  · rintro a w ⟨hv, hf, hs⟩
    subst hv
    replace hF := hK21
    clear hK21
    try dsimp only [Thru] at hF
    revert a w
    show CW _ _ _ 21 [(0, .pointer none), (1, .int .i64 x1)] (SAT w0 ([imm I] ++ F0))
    unfold F.guard_New_1.r1 at hF
    refine cw_seq ?_
    refine cw_region ?_
    refine ow_vals 3 (j := 3) [19] [(19, .agg #[.pointer none, .int .i64 x1, .int .i64 0])] rfl (by kernel_rfl) ?_
    refine ow_pw rfl (pw_box (cs := #[.pointer none, .int .i64 x1, .int .i64 0]) rfl rfl rfl rfl rfl rfl fun b27 => nw_ow ?_)
    refine ow_vals 2 (j := 6) [4, 5] [(4, .pointer (some ⟨b27, 0, none⟩)), (5, .int .i64 0)] rfl (by kernel_rfl) ?_
    refine ow_end rfl ?_
    refine ew_then ?_
    refine cw_ret ?_
    have hR := Option.some.inj hF
    subst hR
    exact fin2 (H1 := [imm I, pt b27 #[.pointer none, .int .i64 (⟨x1, 0⟩ : guard_Guard).boot_, .int .i64 (⟨x1, 0⟩ : guard_Guard).n_] 47]) (fun w hs => sat_to [1, 0] 0 rfl hs) rfl (rr_tmp rfl) (rr_tmp rfl) (.inr ⟨(⟨x1, 0⟩ : guard_Guard), b27, rfl, rfl, rfl⟩)


def F.guard_Guard_Erase (x1 : Int) : Option Int :=
  Option.bind (F.guard_Guard_none_1) (fun (r21 : Bool) => if r21 then (some (9)) else (none))
set_option maxRecDepth 100000 in
set_option maxHeartbeats 4000000 in
theorem c_guard_Guard_Erase (I : Hl) (x1 : Int) (res : Int) (hF : F.guard_Guard_Erase x1 = some res) : Tr Tryd.prog 24 [.pointer none, .int .i64 x1] [imm I] (fun r H' => r = .int .i64 res ∧ H' = [imm I]) := by
  unfold F.guard_Guard_Erase at hF
  refine tr_of_cw (fn := Tryd.f24) Tryd.func24 rfl (Nat.le_of_ble_eq_true rfl) 14 rfl fun F0 w0 => ?_
  refine cw_keep [0, 1] (L' := [(0, .pointer none), (1, .int .i64 x1)]) rfl ?_
  refine cw_state (S' := SAT w0 ([imm I] ++ F0)) (fun w hs => hs) ?_
  refine cw_seq ?_
  refine cw_region ?_
  refine ow_vals 1 (j := 1) [0, 1] [(0, .pointer none), (1, .int .i64 x1)] rfl (by kernel_rfl) ?_
  refine ow_end rfl ?_
  refine ew_then ?_
  refine cw_seq ?_
  refine cw_seq ?_
  refine cw_region ?_
  refine ow_vals 1 (j := 1) [0, 1, 5] [(0, .pointer none), (1, .int .i64 x1), (5, .pointer none)] rfl (by kernel_rfl) ?_
  obtain ⟨r21, h22, hF⟩ := bind_some hF
  refine ow_pw rfl (pw_call (F := [] ++ F0) rfl rfl rfl rfl rfl rfl rfl (by kernel_rfl) (perm_of_pulls [0] rfl) (c_guard_Guard_none_1 _ r21 h22) ?_)
  rintro _ _ ⟨rfl, rfl⟩
  refine nw_H (H' := [imm I] ++ F0) rfl (nw_ow ?_)
  refine ow_end rfl ?_
  refine ew_then ?_
  rcases if_some hF with ⟨h23, hF⟩ | ⟨h23, hF⟩
  · refine cw_cond_t rfl rfl h23 ?_
    refine cw_seq ?_
    refine cw_region ?_
    refine ow_vals 1 (j := 1) [4] [(4, .int .i64 9)] rfl (by kernel_rfl) ?_
    refine ow_end rfl ?_
    refine ew_then ?_
    refine cw_ret ?_
    refine ew_then_ret ?_
    have hR := Option.some.inj hF
    subst hR
    exact fin1 (H1 := [imm I]) (fun w hs => sat_to [0] 0 rfl hs) rfl (rr_tmp rfl) ⟨rfl, rfl⟩
  · refine cw_cond_f rfl rfl h23 ?_
    refine cw_skip ?_
    refine ew_then ?_
    refine cw_seq ?_
    refine cw_open 8 (SAT w0 ([imm I])) (by kernel_rfl) (f := 8) rfl (fun w hs => sat_drew hs) ?_
    refine aw_vals [0] (f' := 7) (m' := 1) [1, 7] [(1, .int .i64 x1), (7, .pointer none)] (fun _ _ _ _ _ h => calm_fin (P := Tryd.prog) (fn := Tryd.f24) _ _ _ _ _ h) (fun w hs => sat_pulls [0] (G := [] ++ F0) rfl hs) rfl (by kernel_rfl) ?_
    cases hF


def F.disk_Disk_act_1 : Option Int :=
  none
set_option maxRecDepth 100000 in
set_option maxHeartbeats 4000000 in
theorem c_disk_Disk_act_1 (I : Hl) (res : Int) (hF : F.disk_Disk_act_1 = some res) : Tr Tryd.prog 34 [.pointer none] [imm I] (fun r H' => r = .int .i64 res ∧ H' = [imm I]) := by
  unfold F.disk_Disk_act_1 at hF
  refine tr_of_cw (fn := Tryd.f34) Tryd.func34 rfl (Nat.le_of_ble_eq_true rfl) 34 rfl fun F0 w0 => ?_
  refine cw_keep [0] (L' := [(0, .pointer none)]) rfl ?_
  refine cw_state (S' := SAT w0 ([imm I] ++ F0)) (fun w hs => hs) ?_
  refine cw_seq ?_
  refine cw_region ?_
  refine ow_vals 1 (j := 1) [0] [(0, .pointer none)] rfl (by kernel_rfl) ?_
  refine ow_end rfl ?_
  refine ew_then ?_
  refine cw_seq ?_
  refine cw_seq ?_
  refine cw_region ?_
  refine ow_vals 1 (j := 1) [0, 3] [(0, .pointer none), (3, .pointer none)] rfl (by kernel_rfl) ?_
  cases hF


def F.disk_Disk_Flush : Option Int :=
  Option.bind (F.disk_Disk_why_1 0) (fun (r21 : Int) => if r21 != 0 then (some (r21)) else (Option.bind (F.disk_Disk_act_1) (fun (r24 : Int) => if r24 != 0 then (some (r24)) else (none))))
set_option maxRecDepth 100000 in
set_option maxHeartbeats 4000000 in
theorem c_disk_Disk_Flush (I : Hl) (res : Int) (hF : F.disk_Disk_Flush = some res) : Tr Tryd.prog 38 [.pointer none] [imm I] (fun r H' => r = .int .i64 res ∧ H' = [imm I]) := by
  unfold F.disk_Disk_Flush at hF
  refine tr_of_cw (fn := Tryd.f38) Tryd.func38 rfl (Nat.le_of_ble_eq_true rfl) 39 rfl fun F0 w0 => ?_
  refine cw_keep [0] (L' := [(0, .pointer none)]) rfl ?_
  refine cw_state (S' := SAT w0 ([imm I] ++ F0)) (fun w hs => hs) ?_
  refine cw_seq ?_
  refine cw_region ?_
  refine ow_vals 1 (j := 1) [0] [(0, .pointer none)] rfl (by kernel_rfl) ?_
  refine ow_end rfl ?_
  refine ew_then ?_
  refine cw_seq ?_
  refine cw_seq ?_
  refine cw_region ?_
  refine ow_vals 1 (j := 1) [0, 7] [(0, .pointer none), (7, .pointer none)] rfl (by kernel_rfl) ?_
  obtain ⟨r21, h22, hF⟩ := bind_some hF
  refine ow_pw rfl (pw_call (F := [] ++ F0) rfl rfl rfl rfl rfl rfl rfl (by kernel_rfl) (perm_of_pulls [0] rfl) (c_disk_Disk_why_1 _ 0 r21 h22) ?_)
  rintro _ _ ⟨rfl, rfl⟩
  refine nw_H (H' := [imm I] ++ F0) rfl (nw_ow ?_)
  refine ow_vals 1 (j := 3) [0, 3] [(0, .pointer none), (3, .int .i64 r21)] rfl (by kernel_rfl) ?_
  refine ow_end rfl ?_
  refine ew_then ?_
  refine cw_seq ?_
  refine cw_region ?_
  refine ow_vals 2 (j := 2) [0, 3, 10] [(0, .pointer none), (3, .int .i64 r21), (10, .bool (r21 != 0))] rfl (by kernel_rfl) ?_
  refine ow_end rfl ?_
  refine ew_then ?_
  rcases if_some hF with ⟨h23, hF⟩ | ⟨h23, hF⟩
  · refine cw_cond_t rfl rfl h23 ?_
    refine cw_seq ?_
    refine cw_region ?_
    refine ow_vals 2 (j := 2) [2] [(2, .int .i64 r21)] rfl (by kernel_rfl) ?_
    refine ow_end rfl ?_
    refine ew_then ?_
    refine cw_ret ?_
    refine ew_then_ret ?_
    have hR := Option.some.inj hF
    subst hR
    exact fin1 (H1 := [imm I]) (fun w hs => sat_to [0] 0 rfl hs) rfl (rr_tmp rfl) ⟨rfl, rfl⟩
  · refine cw_cond_f rfl rfl h23 ?_
    refine cw_skip ?_
    refine ew_then ?_
    refine cw_seq ?_
    refine cw_seq ?_
    refine cw_region ?_
    refine ow_vals 1 (j := 1) [0, 12] [(0, .pointer none), (12, .pointer none)] rfl (by kernel_rfl) ?_
    obtain ⟨r24, h25, hF⟩ := bind_some hF
    refine ow_pw rfl (pw_call (F := [] ++ F0) rfl rfl rfl rfl rfl rfl rfl (by kernel_rfl) (perm_of_pulls [0] rfl) (c_disk_Disk_act_1 _ r24 h25) ?_)
    rintro _ _ ⟨rfl, rfl⟩
    refine nw_H (H' := [imm I] ++ F0) rfl (nw_ow ?_)
    refine ow_vals 1 (j := 3) [0, 4] [(0, .pointer none), (4, .int .i64 r24)] rfl (by kernel_rfl) ?_
    refine ow_end rfl ?_
    refine ew_then ?_
    refine cw_seq ?_
    refine cw_region ?_
    refine ow_vals 2 (j := 2) [0, 4, 15] [(0, .pointer none), (4, .int .i64 r24), (15, .bool (r24 != 0))] rfl (by kernel_rfl) ?_
    refine ow_end rfl ?_
    refine ew_then ?_
    rcases if_some hF with ⟨h26, hF⟩ | ⟨h26, hF⟩
    · refine cw_cond_t rfl rfl h26 ?_
      refine cw_seq ?_
      refine cw_region ?_
      refine ow_vals 2 (j := 2) [2] [(2, .int .i64 r24)] rfl (by kernel_rfl) ?_
      refine ow_end rfl ?_
      refine ew_then ?_
      refine cw_ret ?_
      refine ew_then_ret ?_
      have hR := Option.some.inj hF
      subst hR
      exact fin1 (H1 := [imm I]) (fun w hs => sat_to [0] 0 rfl hs) rfl (rr_tmp rfl) ⟨rfl, rfl⟩
    · refine cw_cond_f rfl rfl h26 ?_
      refine cw_skip ?_
      refine ew_then ?_
      refine cw_seq ?_
      refine cw_seq ?_
      refine cw_region ?_
      refine ow_vals 1 (j := 1) [0, 17] [(0, .pointer none), (17, .pointer none)] rfl (by kernel_rfl) ?_
      cases hF


def F.guard_Guard_Flush (m0 : guard_Guard) : Option Int :=
  Option.bind (F.guard_Guard_none_2 m0) (fun (r21 : Bool) => if r21 then (some (9)) else (Option.bind (F.disk_Disk_Flush) (fun (r24 : Int) => some (r24))))
set_option maxRecDepth 100000 in
set_option maxHeartbeats 4000000 in
theorem c_guard_Guard_Flush (I : Hl) (m0 : guard_Guard) (b0 : Nat) (res : Int) (hF : F.guard_Guard_Flush m0 = some res) : Tr Tryd.prog 25 [.pointer (some ⟨b0, 0, none⟩)] [imm I, pt b0 #[.pointer none, .int .i64 m0.boot_, .int .i64 m0.n_] 47] (fun r H' => r = .int .i64 res ∧ H' = [imm I, pt b0 #[.pointer none, .int .i64 m0.boot_, .int .i64 m0.n_] 47]) := by
  unfold F.guard_Guard_Flush at hF
  refine tr_of_cw (fn := Tryd.f25) Tryd.func25 rfl (Nat.le_of_ble_eq_true rfl) 10 rfl fun F0 w0 => ?_
  refine cw_keep [0] (L' := [(0, .pointer (some ⟨b0, 0, none⟩))]) rfl ?_
  refine cw_state (S' := SAT w0 ([imm I, pt b0 #[.pointer none, .int .i64 m0.boot_, .int .i64 m0.n_] 47] ++ F0)) (fun w hs => hs) ?_
  refine cw_seq ?_
  refine cw_region ?_
  refine ow_vals 1 (j := 1) [0] [(0, .pointer (some ⟨b0, 0, none⟩))] rfl (by kernel_rfl) ?_
  refine ow_end rfl ?_
  refine ew_then ?_
  refine cw_seq ?_
  refine cw_seq ?_
  refine cw_region ?_
  refine ow_vals 1 (j := 1) [0, 3] [(0, .pointer (some ⟨b0, 0, none⟩)), (3, .pointer (some ⟨b0, 0, none⟩))] rfl (by kernel_rfl) ?_
  obtain ⟨r21, h22, hF⟩ := bind_some hF
  refine ow_pw rfl (pw_call (F := [] ++ F0) rfl rfl rfl rfl rfl rfl rfl (by kernel_rfl) (perm_of_pulls [0, 0] rfl) (c_guard_Guard_none_2 _ m0 b0 r21 h22) ?_)
  rintro _ _ ⟨rfl, rfl⟩
  refine nw_H (H' := [imm I, pt b0 #[.pointer none, .int .i64 m0.boot_, .int .i64 m0.n_] 47] ++ F0) rfl (nw_ow ?_)
  refine ow_end rfl ?_
  refine ew_then ?_
  rcases if_some hF with ⟨h23, hF⟩ | ⟨h23, hF⟩
  · refine cw_cond_t rfl rfl h23 ?_
    refine cw_seq ?_
    refine cw_region ?_
    refine ow_vals 1 (j := 1) [2] [(2, .int .i64 9)] rfl (by kernel_rfl) ?_
    refine ow_end rfl ?_
    refine ew_then ?_
    refine cw_ret ?_
    refine ew_then_ret ?_
    have hR := Option.some.inj hF
    subst hR
    exact fin1 (H1 := [imm I, pt b0 #[.pointer none, .int .i64 m0.boot_, .int .i64 m0.n_] 47]) (fun w hs => sat_to [0, 0] 0 rfl hs) rfl (rr_tmp rfl) ⟨rfl, rfl⟩
  · refine cw_cond_f rfl rfl h23 ?_
    refine cw_skip ?_
    refine ew_then ?_
    refine cw_seq ?_
    refine cw_region ?_
    refine ow_vals 3 (j := 3) [7] [(7, .pointer (some ⟨b0, 0, none⟩))] rfl (by kernel_rfl) ?_
    refine ow_pw rfl (pw_quiet (v := .pointer none) rfl rfl rfl rfl (q_load 1 rfl rfl rfl (by kernel_rfl)) (nw_ow ?_))
    obtain ⟨r24, h25, hF⟩ := bind_some hF
    refine ow_pw rfl (pw_call (F := [pt b0 #[.pointer none, .int .i64 m0.boot_, .int .i64 m0.n_] 47] ++ F0) rfl rfl rfl rfl rfl rfl rfl (by kernel_rfl) (perm_of_pulls [0] rfl) (c_disk_Disk_Flush _ r24 h25) ?_)
    rintro _ _ ⟨rfl, rfl⟩
    refine nw_H (H' := [imm I, pt b0 #[.pointer none, .int .i64 m0.boot_, .int .i64 m0.n_] 47] ++ F0) rfl (nw_ow ?_)
    refine ow_vals 1 (j := 6) [2] [(2, .int .i64 r24)] rfl (by kernel_rfl) ?_
    refine ow_end rfl ?_
    refine ew_then ?_
    refine cw_ret ?_
    have hR := Option.some.inj hF
    subst hR
    exact fin1 (H1 := [imm I, pt b0 #[.pointer none, .int .i64 m0.boot_, .int .i64 m0.n_] 47]) (fun w hs => sat_to [0, 0] 0 rfl hs) rfl (rr_tmp rfl) ⟨rfl, rfl⟩


def F.guard_Guard_Get_2 (x1 : Int) : Option (ByteArray × Int × Int) :=
  Option.bind (F.guard_Guard_none_1) (fun (r21 : Bool) => if r21 then (some (((ByteArray.mk #[]), 0, 9))) else (none))
set_option maxRecDepth 100000 in
set_option maxHeartbeats 4000000 in
theorem c_guard_Guard_Get_2 (I : Hl) (x1 : Int) (res : ByteArray × Int × Int) (hF : F.guard_Guard_Get_2 x1 = some res) : Tr Tryd.prog 19 [.pointer none, .int .i64 x1] [imm I] (fun r H' => r = .tuple #[.string res.1, .int .i64 res.2.1, .int .i64 res.2.2] ∧ H' = [imm I]) := by
  unfold F.guard_Guard_Get_2 at hF
  refine tr_of_cw (fn := Tryd.f19) Tryd.func19 rfl (Nat.le_of_ble_eq_true rfl) 18 rfl fun F0 w0 => ?_
  refine cw_keep [0, 1] (L' := [(0, .pointer none), (1, .int .i64 x1)]) rfl ?_
  refine cw_state (S' := SAT w0 ([imm I] ++ F0)) (fun w hs => hs) ?_
  refine cw_seq ?_
  refine cw_region ?_
  refine ow_vals 3 (j := 3) [0, 1] [(0, .pointer none), (1, .int .i64 x1)] rfl (by kernel_rfl) ?_
  refine ow_end rfl ?_
  refine ew_then ?_
  refine cw_seq ?_
  refine cw_seq ?_
  refine cw_region ?_
  refine ow_vals 1 (j := 1) [0, 1, 7] [(0, .pointer none), (1, .int .i64 x1), (7, .pointer none)] rfl (by kernel_rfl) ?_
  obtain ⟨r21, h22, hF⟩ := bind_some hF
  refine ow_pw rfl (pw_call (F := [] ++ F0) rfl rfl rfl rfl rfl rfl rfl (by kernel_rfl) (perm_of_pulls [0] rfl) (c_guard_Guard_none_1 _ r21 h22) ?_)
  rintro _ _ ⟨rfl, rfl⟩
  refine nw_H (H' := [imm I] ++ F0) rfl (nw_ow ?_)
  refine ow_end rfl ?_
  refine ew_then ?_
  rcases if_some hF with ⟨h23, hF⟩ | ⟨h23, hF⟩
  · refine cw_cond_t rfl rfl h23 ?_
    refine cw_seq ?_
    refine cw_region ?_
    refine ow_vals 3 (j := 3) [4, 5, 6] [(4, .string (ByteArray.mk #[])), (5, .int .i64 0), (6, .int .i64 9)] rfl (by kernel_rfl) ?_
    refine ow_end rfl ?_
    refine ew_then ?_
    refine cw_ret ?_
    refine ew_then_ret ?_
    have hR := Option.some.inj hF
    subst hR
    exact fin3 (H1 := [imm I]) (fun w hs => sat_to [0] 0 rfl hs) rfl (rr_tmp rfl) (rr_tmp rfl) (rr_tmp rfl) ⟨rfl, rfl⟩
  · refine cw_cond_f rfl rfl h23 ?_
    refine cw_skip ?_
    refine ew_then ?_
    refine cw_seq ?_
    refine cw_region ?_
    refine ow_vals 1 (j := 1) [1, 9] [(1, .int .i64 x1), (9, .pointer none)] rfl (by kernel_rfl) ?_
    cases hF


def F.guard_Guard_Blank_1 (x1 : Int) : Option Bool :=
  Option.bind (F.guard_Guard_none_1) (fun (r21 : Bool) => if r21 then (some (false)) else (Option.bind (F.guard_Guard_Get_2 x1) (fun (r24 : ByteArray × Int × Int) => some ((r24.2.2 == 7)))))
set_option maxRecDepth 100000 in
set_option maxHeartbeats 4000000 in
theorem c_guard_Guard_Blank_1 (I : Hl) (x1 : Int) (res : Bool) (hF : F.guard_Guard_Blank_1 x1 = some res) : Tr Tryd.prog 16 [.pointer none, .int .i64 x1] [imm I] (fun r H' => r = .bool res ∧ H' = [imm I]) := by
  unfold F.guard_Guard_Blank_1 at hF
  refine tr_of_cw (fn := Tryd.f16) Tryd.func16 rfl (Nat.le_of_ble_eq_true rfl) 19 rfl fun F0 w0 => ?_
  refine cw_keep [0, 1] (L' := [(0, .pointer none), (1, .int .i64 x1)]) rfl ?_
  refine cw_state (S' := SAT w0 ([imm I] ++ F0)) (fun w hs => hs) ?_
  refine cw_seq ?_
  refine cw_region ?_
  refine ow_vals 1 (j := 1) [0, 1] [(0, .pointer none), (1, .int .i64 x1)] rfl (by kernel_rfl) ?_
  refine ow_end rfl ?_
  refine ew_then ?_
  refine cw_seq ?_
  refine cw_seq ?_
  refine cw_region ?_
  refine ow_vals 1 (j := 1) [0, 1, 8] [(0, .pointer none), (1, .int .i64 x1), (8, .pointer none)] rfl (by kernel_rfl) ?_
  obtain ⟨r21, h22, hF⟩ := bind_some hF
  refine ow_pw rfl (pw_call (F := [] ++ F0) rfl rfl rfl rfl rfl rfl rfl (by kernel_rfl) (perm_of_pulls [0] rfl) (c_guard_Guard_none_1 _ r21 h22) ?_)
  rintro _ _ ⟨rfl, rfl⟩
  refine nw_H (H' := [imm I] ++ F0) rfl (nw_ow ?_)
  refine ow_end rfl ?_
  refine ew_then ?_
  rcases if_some hF with ⟨h23, hF⟩ | ⟨h23, hF⟩
  · refine cw_cond_t rfl rfl h23 ?_
    refine cw_seq ?_
    refine cw_region ?_
    refine ow_vals 1 (j := 1) [4] [(4, .bool false)] rfl (by kernel_rfl) ?_
    refine ow_end rfl ?_
    refine ew_then ?_
    refine cw_ret ?_
    refine ew_then_ret ?_
    have hR := Option.some.inj hF
    subst hR
    exact fin1 (H1 := [imm I]) (fun w hs => sat_to [0] 0 rfl hs) rfl (rr_tmp rfl) ⟨rfl, rfl⟩
  · refine cw_cond_f rfl rfl h23 ?_
    refine cw_skip ?_
    refine ew_then ?_
    refine cw_seq ?_
    refine cw_region ?_
    refine ow_vals 2 (j := 2) [11, 12] [(11, .pointer none), (12, .int .i64 x1)] rfl (by kernel_rfl) ?_
    obtain ⟨r24, h25, hF⟩ := bind_some hF
    refine ow_pw rfl (pw_call (F := [] ++ F0) rfl rfl rfl rfl rfl rfl rfl (by kernel_rfl) (perm_of_pulls [0] rfl) (c_guard_Guard_Get_2 _ x1 r24 h25) ?_)
    rintro _ _ ⟨rfl, rfl⟩
    refine nw_H (H' := [imm I] ++ F0) rfl (nw_ow ?_)
    refine ow_vals 7 (j := 10) [7] [(7, .int .i64 r24.2.2)] rfl (by kernel_rfl) ?_
    refine ow_end rfl ?_
    refine ew_then ?_
    refine cw_seq ?_
    refine cw_region ?_
    refine ow_vals 3 (j := 3) [4] [(4, .bool (r24.2.2 == 7))] rfl (by kernel_rfl) ?_
    refine ow_end rfl ?_
    refine ew_then ?_
    refine cw_ret ?_
    have hR := Option.some.inj hF
    subst hR
    exact fin1 (H1 := [imm I]) (fun w hs => sat_to [0] 0 rfl hs) rfl (rr_tmp rfl) ⟨rfl, rfl⟩


def F.guard_Guard_Disk_1 (m0 : guard_Guard) : Option Unit :=
  Option.bind (F.guard_Guard_none_2 m0) (fun (r21 : Bool) => if r21 then (some (())) else (some (())))
set_option maxRecDepth 100000 in
set_option maxHeartbeats 4000000 in
theorem c_guard_Guard_Disk_1 (I : Hl) (m0 : guard_Guard) (b0 : Nat) (res : Unit) (hF : F.guard_Guard_Disk_1 m0 = some res) : Tr Tryd.prog 20 [.pointer (some ⟨b0, 0, none⟩)] [imm I, pt b0 #[.pointer none, .int .i64 m0.boot_, .int .i64 m0.n_] 47] (fun r H' => r = .pointer none ∧ H' = [imm I, pt b0 #[.pointer none, .int .i64 m0.boot_, .int .i64 m0.n_] 47]) := by
  unfold F.guard_Guard_Disk_1 at hF
  refine tr_of_cw (fn := Tryd.f20) Tryd.func20 rfl (Nat.le_of_ble_eq_true rfl) 9 rfl fun F0 w0 => ?_
  refine cw_keep [0] (L' := [(0, .pointer (some ⟨b0, 0, none⟩))]) rfl ?_
  refine cw_state (S' := SAT w0 ([imm I, pt b0 #[.pointer none, .int .i64 m0.boot_, .int .i64 m0.n_] 47] ++ F0)) (fun w hs => hs) ?_
  refine cw_seq ?_
  refine cw_region ?_
  refine ow_vals 1 (j := 1) [0] [(0, .pointer (some ⟨b0, 0, none⟩))] rfl (by kernel_rfl) ?_
  refine ow_end rfl ?_
  refine ew_then ?_
  refine cw_seq ?_
  refine cw_seq ?_
  refine cw_region ?_
  refine ow_vals 1 (j := 1) [0, 3] [(0, .pointer (some ⟨b0, 0, none⟩)), (3, .pointer (some ⟨b0, 0, none⟩))] rfl (by kernel_rfl) ?_
  obtain ⟨r21, h22, hF⟩ := bind_some hF
  refine ow_pw rfl (pw_call (F := [] ++ F0) rfl rfl rfl rfl rfl rfl rfl (by kernel_rfl) (perm_of_pulls [0, 0] rfl) (c_guard_Guard_none_2 _ m0 b0 r21 h22) ?_)
  rintro _ _ ⟨rfl, rfl⟩
  refine nw_H (H' := [imm I, pt b0 #[.pointer none, .int .i64 m0.boot_, .int .i64 m0.n_] 47] ++ F0) rfl (nw_ow ?_)
  refine ow_end rfl ?_
  refine ew_then ?_
  rcases if_some hF with ⟨h23, hF⟩ | ⟨h23, hF⟩
  · refine cw_cond_t rfl rfl h23 ?_
    refine cw_seq ?_
    refine cw_region ?_
    refine ow_vals 1 (j := 1) [2] [(2, .pointer none)] rfl (by kernel_rfl) ?_
    refine ow_end rfl ?_
    refine ew_then ?_
    refine cw_ret ?_
    refine ew_then_ret ?_
    have hR := Option.some.inj hF
    subst hR
    exact fin1 (H1 := [imm I, pt b0 #[.pointer none, .int .i64 m0.boot_, .int .i64 m0.n_] 47]) (fun w hs => sat_to [0, 0] 0 rfl hs) rfl (rr_tmp rfl) ⟨rfl, rfl⟩
  · refine cw_cond_f rfl rfl h23 ?_
    refine cw_skip ?_
    refine ew_then ?_
    refine cw_seq ?_
    refine cw_region ?_
    refine ow_vals 3 (j := 3) [7] [(7, .pointer (some ⟨b0, 0, none⟩))] rfl (by kernel_rfl) ?_
    refine ow_pw rfl (pw_quiet (v := .pointer none) rfl rfl rfl rfl (q_load 1 rfl rfl rfl (by kernel_rfl)) (nw_ow ?_))
    refine ow_vals 1 (j := 5) [2] [(2, .pointer none)] rfl (by kernel_rfl) ?_
    refine ow_end rfl ?_
    refine ew_then ?_
    refine cw_ret ?_
    have hR := Option.some.inj hF
    subst hR
    exact fin1 (H1 := [imm I, pt b0 #[.pointer none, .int .i64 m0.boot_, .int .i64 m0.n_] 47]) (fun w hs => sat_to [0, 0] 0 rfl hs) rfl (rr_tmp rfl) ⟨rfl, rfl⟩


def F.law10_GuardNobody (x0 : Int) (x1 : ByteArray) : Option Bool :=
  Option.bind (F.guard_Guard_Put_1 x0 x1) (fun (r23 : Int × Int) => Option.bind (F.guard_Guard_Get_1 x0 (⟨0, 0⟩ : guard_Guard)) (fun (r25 : ByteArray × Int × Int) => Option.bind (F.guard_New_1 1) (fun (r27 : (Option guard_Guard) × Int) => optC r27.1 (if r23.2 == 9 then (if r25.2.2 == 9 then (if r27.2 == 1 then (Option.bind (F.guard_Guard_Erase x0) (fun (r33 : Int) => if r33 == 9 then (Option.bind (F.guard_Guard_Flush (⟨0, 0⟩ : guard_Guard)) (fun (r36 : Int) => if r36 == 9 then (Option.bind (F.guard_Guard_Blank_1 x0) (fun (r39 : Bool) => if !r39 then (Option.bind (F.guard_Guard_Disk_1 (⟨0, 0⟩ : guard_Guard)) (fun (r42 : Unit) => Option.bind (F.law10_awake) (fun (r44 : Bool) => some (r44)))) else (some (false)))) else (some (false)))) else (some (false)))) else (some (false))) else (some (false))) else (some (false))) (fun (r27_s1 : guard_Guard) => if r23.2 == 9 then (if r25.2.2 == 9 then (if r27.2 == 1 then (Option.bind (F.guard_Guard_Erase x0) (fun (r49 : Int) => if r49 == 9 then (Option.bind (F.guard_Guard_Flush (⟨0, 0⟩ : guard_Guard)) (fun (r52 : Int) => if r52 == 9 then (Option.bind (F.guard_Guard_Blank_1 x0) (fun (r55 : Bool) => if !r55 then (Option.bind (F.guard_Guard_Disk_1 (⟨0, 0⟩ : guard_Guard)) (fun (r58 : Unit) => Option.bind (F.law10_awake) (fun (r60 : Bool) => some (r60)))) else (some (false)))) else (some (false)))) else (some (false)))) else (some (false))) else (some (false))) else (some (false))))))
set_option maxRecDepth 100000 in
set_option maxHeartbeats 4000000 in
theorem c_law10_GuardNobody (I : Hl) (x0 : Int) (x1 : ByteArray) (res : Bool) (hF : F.law10_GuardNobody x0 x1 = some res) : Tr Tryd.prog 6 [.int .i64 x0, .string x1] [imm I] (fun r H' => r = .bool res ∧ H' = [imm I]) := by
  unfold F.law10_GuardNobody at hF
  refine tr_of_cw (fn := Tryd.f6) Tryd.func6 rfl (Nat.le_of_ble_eq_true rfl) 68 rfl fun F0 w0 => ?_
  refine cw_keep [0, 1] (L' := [(0, .int .i64 x0), (1, .string x1)]) rfl ?_
  refine cw_state (S' := SAT w0 ([imm I] ++ F0)) (fun w hs => hs) ?_
  refine cw_seq ?_
  refine cw_region ?_
  refine ow_vals 1 (j := 1) [0, 1] [(0, .int .i64 x0), (1, .string x1)] rfl (by kernel_rfl) ?_
  refine ow_end rfl ?_
  refine ew_then ?_
  refine cw_seq ?_
  refine cw_region ?_
  refine ow_vals 1 (j := 1) [0, 1, 5] [(0, .int .i64 x0), (1, .string x1), (5, .pointer none)] rfl (by kernel_rfl) ?_
  refine ow_end rfl ?_
  refine ew_then ?_
  refine cw_seq ?_
  refine cw_region ?_
  refine ow_pw rfl (pw_alloc (cs := #[.pointer none, .int .i64 0, .int .i64 0]) rfl rfl rfl rfl rfl (by kernel_rfl) fun b21 => nw_ow ?_)
  refine ow_end rfl ?_
  refine ew_then ?_
  refine cw_seq ?_
  refine cw_region ?_
  refine ow_vals 3 (j := 3) [0, 5, 6, 15, 16, 17] [(0, .int .i64 x0), (5, .pointer none), (6, .pointer (some ⟨b21, 0, none⟩)), (15, .pointer none), (16, .int .i64 x0), (17, .string x1)] rfl (by kernel_rfl) ?_
  obtain ⟨r23, h24, hF⟩ := bind_some hF
  refine ow_pw rfl (pw_call (F := [pt b21 #[.pointer none, .int .i64 0, .int .i64 0] 47] ++ F0) rfl rfl rfl rfl rfl rfl rfl (by kernel_rfl) (perm_of_pulls [1] rfl) (c_guard_Guard_Put_1 _ x0 x1 r23 h24) ?_)
  rintro _ _ ⟨rfl, rfl⟩
  refine nw_H (H' := [imm I, pt b21 #[.pointer none, .int .i64 0, .int .i64 0] 47] ++ F0) rfl (nw_ow ?_)
  refine ow_vals 5 (j := 9) [0, 5, 6, 8] [(0, .int .i64 x0), (5, .pointer none), (6, .pointer (some ⟨b21, 0, none⟩)), (8, .int .i64 r23.2)] rfl (by kernel_rfl) ?_
  refine ow_end rfl ?_
  refine ew_then ?_
  refine cw_seq ?_
  refine cw_region ?_
  refine ow_vals 1 (j := 1) [0, 5, 6, 8, 22] [(0, .int .i64 x0), (5, .pointer none), (6, .pointer (some ⟨b21, 0, none⟩)), (8, .int .i64 r23.2), (22, .int .i64 x0)] rfl (by kernel_rfl) ?_
  obtain ⟨r25, h26, hF⟩ := bind_some hF
  refine ow_pw rfl (pw_call (F := [] ++ F0) rfl rfl rfl rfl rfl rfl rfl (by kernel_rfl) (perm_of_pulls [0, 0] rfl) (c_guard_Guard_Get_1 _ x0 (⟨0, 0⟩ : guard_Guard) b21 r25 h26) ?_)
  rintro _ _ ⟨rfl, rfl⟩
  refine nw_H (H' := [imm I, pt b21 #[.pointer none, .int .i64 ((⟨0, 0⟩ : guard_Guard).boot_), .int .i64 ((⟨0, 0⟩ : guard_Guard).n_)] 47] ++ F0) rfl (nw_ow ?_)
  refine ow_vals 7 (j := 9) [0, 5, 6, 8, 11] [(0, .int .i64 x0), (5, .pointer none), (6, .pointer (some ⟨b21, 0, none⟩)), (8, .int .i64 r23.2), (11, .int .i64 r25.2.2)] rfl (by kernel_rfl) ?_
  refine ow_end rfl ?_
  refine ew_then ?_
  refine cw_seq ?_
  refine cw_region ?_
  obtain ⟨r27, h28, hF⟩ := bind_some hF
  refine ow_pw rfl (pw_call (F := [pt b21 #[.pointer none, .int .i64 ((⟨0, 0⟩ : guard_Guard).boot_), .int .i64 ((⟨0, 0⟩ : guard_Guard).n_)] 47] ++ F0) rfl rfl rfl rfl rfl rfl rfl (by kernel_rfl) (perm_of_pulls [0] rfl) (c_guard_New_1 _ 1 r27 h28) ?_)
  rintro _ _ (⟨hO, rfl, rfl⟩ | ⟨r27_s1, r27_b2, hO, rfl, rfl⟩)
  · rw [hO] at hF
    try dsimp only [optC] at hF
    refine nw_H (H' := [imm I, pt b21 #[.pointer none, .int .i64 ((⟨0, 0⟩ : guard_Guard).boot_), .int .i64 ((⟨0, 0⟩ : guard_Guard).n_)] 47] ++ F0) rfl (nw_ow ?_)
    refine ow_vals 5 (j := 6) [0, 5, 6, 8, 11, 13] [(0, .int .i64 x0), (5, .pointer none), (6, .pointer (some ⟨b21, 0, none⟩)), (8, .int .i64 r23.2), (11, .int .i64 r25.2.2), (13, .int .i64 r27.2)] rfl (by kernel_rfl) ?_
    refine ow_end rfl ?_
    refine ew_then ?_
    refine cw_seq ?_
    refine cw_region ?_
    refine ow_vals 3 (j := 3) [0, 5, 6, 11, 13, 33] [(0, .int .i64 x0), (5, .pointer none), (6, .pointer (some ⟨b21, 0, none⟩)), (11, .int .i64 r25.2.2), (13, .int .i64 r27.2), (33, .bool (r23.2 == 9))] rfl (by kernel_rfl) ?_
    rcases if_some hF with ⟨h30, hF⟩ | ⟨h30, hF⟩
    · refine ow_slots (L' := [(0, .int .i64 x0), (5, .pointer none), (6, .pointer (some ⟨b21, 0, none⟩)), (11, .int .i64 r25.2.2), (13, .int .i64 r27.2), (33, .bool true)]) (by rw [h30]) ?_
      refine ow_vals 4 (j := 7) [0, 5, 6, 13, 37] [(0, .int .i64 x0), (5, .pointer none), (6, .pointer (some ⟨b21, 0, none⟩)), (13, .int .i64 r27.2), (37, .bool (r25.2.2 == 9))] rfl (by kernel_rfl) ?_
      rcases if_some hF with ⟨h31, hF⟩ | ⟨h31, hF⟩
      · refine ow_slots (L' := [(0, .int .i64 x0), (5, .pointer none), (6, .pointer (some ⟨b21, 0, none⟩)), (13, .int .i64 r27.2), (37, .bool true)]) (by rw [h31]) ?_
        refine ow_vals 4 (j := 11) [0, 5, 6, 41] [(0, .int .i64 x0), (5, .pointer none), (6, .pointer (some ⟨b21, 0, none⟩)), (41, .bool (r27.2 == 1))] rfl (by kernel_rfl) ?_
        rcases if_some hF with ⟨h32, hF⟩ | ⟨h32, hF⟩
        · refine ow_slots (L' := [(0, .int .i64 x0), (5, .pointer none), (6, .pointer (some ⟨b21, 0, none⟩)), (41, .bool true)]) (by rw [h32]) ?_
          refine ow_vals 2 (j := 13) [0, 5, 6, 41, 42, 43] [(0, .int .i64 x0), (5, .pointer none), (6, .pointer (some ⟨b21, 0, none⟩)), (41, .bool true), (42, .pointer none), (43, .int .i64 x0)] rfl (by kernel_rfl) ?_
          obtain ⟨r33, h34, hF⟩ := bind_some hF
          refine ow_pw rfl (pw_call (F := [pt b21 #[.pointer none, .int .i64 ((⟨0, 0⟩ : guard_Guard).boot_), .int .i64 ((⟨0, 0⟩ : guard_Guard).n_)] 47] ++ F0) rfl rfl rfl rfl rfl rfl rfl (by kernel_rfl) (perm_of_pulls [0] rfl) (c_guard_Guard_Erase _ x0 r33 h34) ?_)
          rintro _ _ ⟨rfl, rfl⟩
          refine nw_H (H' := [imm I, pt b21 #[.pointer none, .int .i64 ((⟨0, 0⟩ : guard_Guard).boot_), .int .i64 ((⟨0, 0⟩ : guard_Guard).n_)] 47] ++ F0) rfl (nw_ow ?_)
          refine ow_vals 3 (j := 17) [0, 5, 6, 47] [(0, .int .i64 x0), (5, .pointer none), (6, .pointer (some ⟨b21, 0, none⟩)), (47, .bool (r33 == 9))] rfl (by kernel_rfl) ?_
          rcases if_some hF with ⟨h35, hF⟩ | ⟨h35, hF⟩
          · refine ow_slots (L' := [(0, .int .i64 x0), (5, .pointer none), (6, .pointer (some ⟨b21, 0, none⟩)), (47, .bool true)]) (by rw [h35]) ?_
            obtain ⟨r36, h37, hF⟩ := bind_some hF
            refine ow_pw rfl (pw_call (F := [] ++ F0) rfl rfl rfl rfl rfl rfl rfl (by kernel_rfl) (perm_of_pulls [0, 0] rfl) (c_guard_Guard_Flush _ (⟨0, 0⟩ : guard_Guard) b21 r36 h37) ?_)
            rintro _ _ ⟨rfl, rfl⟩
            refine nw_H (H' := [imm I, pt b21 #[.pointer none, .int .i64 ((⟨0, 0⟩ : guard_Guard).boot_), .int .i64 ((⟨0, 0⟩ : guard_Guard).n_)] 47] ++ F0) rfl (nw_ow ?_)
            refine ow_vals 3 (j := 21) [0, 5, 6, 51] [(0, .int .i64 x0), (5, .pointer none), (6, .pointer (some ⟨b21, 0, none⟩)), (51, .bool (r36 == 9))] rfl (by kernel_rfl) ?_
            rcases if_some hF with ⟨h38, hF⟩ | ⟨h38, hF⟩
            · refine ow_slots (L' := [(0, .int .i64 x0), (5, .pointer none), (6, .pointer (some ⟨b21, 0, none⟩)), (51, .bool true)]) (by rw [h38]) ?_
              refine ow_vals 2 (j := 23) [6, 51, 52, 53] [(6, .pointer (some ⟨b21, 0, none⟩)), (51, .bool true), (52, .pointer none), (53, .int .i64 x0)] rfl (by kernel_rfl) ?_
              obtain ⟨r39, h40, hF⟩ := bind_some hF
              refine ow_pw rfl (pw_call (F := [pt b21 #[.pointer none, .int .i64 ((⟨0, 0⟩ : guard_Guard).boot_), .int .i64 ((⟨0, 0⟩ : guard_Guard).n_)] 47] ++ F0) rfl rfl rfl rfl rfl rfl rfl (by kernel_rfl) (perm_of_pulls [0] rfl) (c_guard_Guard_Blank_1 _ x0 r39 h40) ?_)
              rintro _ _ ⟨rfl, rfl⟩
              refine nw_H (H' := [imm I, pt b21 #[.pointer none, .int .i64 ((⟨0, 0⟩ : guard_Guard).boot_), .int .i64 ((⟨0, 0⟩ : guard_Guard).n_)] 47] ++ F0) rfl (nw_ow ?_)
              refine ow_vals 3 (j := 27) [6, 57] [(6, .pointer (some ⟨b21, 0, none⟩)), (57, .bool (!r39))] rfl (by kernel_rfl) ?_
              rcases if_some hF with ⟨h41, hF⟩ | ⟨h41, hF⟩
              · refine ow_slots (L' := [(6, .pointer (some ⟨b21, 0, none⟩)), (57, .bool true)]) (by rw [h41]) ?_
                obtain ⟨r42, h43, hF⟩ := bind_some hF
                refine ow_pw rfl (pw_call (F := [] ++ F0) rfl rfl rfl rfl rfl rfl rfl (by kernel_rfl) (perm_of_pulls [0, 0] rfl) (c_guard_Guard_Disk_1 _ (⟨0, 0⟩ : guard_Guard) b21 r42 h43) ?_)
                rintro _ _ ⟨rfl, rfl⟩
                refine nw_H (H' := [imm I, pt b21 #[.pointer none, .int .i64 ((⟨0, 0⟩ : guard_Guard).boot_), .int .i64 ((⟨0, 0⟩ : guard_Guard).n_)] 47] ++ F0) rfl (nw_ow ?_)
                refine ow_vals 7 (j := 35) [65] [(65, .bool true)] rfl (by kernel_rfl) ?_
                obtain ⟨r44, h45, hF⟩ := bind_some hF
                refine ow_pw rfl (pw_call (F := [pt b21 #[.pointer none, .int .i64 ((⟨0, 0⟩ : guard_Guard).boot_), .int .i64 ((⟨0, 0⟩ : guard_Guard).n_)] 47] ++ F0) rfl rfl rfl rfl rfl rfl rfl (by kernel_rfl) (perm_of_pulls [0] rfl) (c_law10_awake _ r44 h45) ?_)
                rintro _ _ ⟨rfl, rfl⟩
                refine nw_H (H' := [imm I, pt b21 #[.pointer none, .int .i64 ((⟨0, 0⟩ : guard_Guard).boot_), .int .i64 ((⟨0, 0⟩ : guard_Guard).n_)] 47] ++ F0) rfl (nw_ow ?_)
                refine ow_vals 2 (j := 38) [4] [(4, .bool r44)] rfl (by kernel_rfl) ?_
                refine ow_end rfl ?_
                refine ew_then ?_
                refine cw_ret ?_
                have hR := Option.some.inj hF
                subst hR
                exact fin1 (H1 := [imm I]) (fun w hs => sat_to [1, 0] 1 rfl hs) rfl (rr_tmp rfl) ⟨rfl, rfl⟩
              · refine ow_slots (L' := [(6, .pointer (some ⟨b21, 0, none⟩)), (57, .bool false)]) (by rw [h41]) ?_
                refine ow_vals 11 (j := 38) [4] [(4, .bool false)] rfl (by kernel_rfl) ?_
                refine ow_end rfl ?_
                refine ew_then ?_
                refine cw_ret ?_
                have hR := Option.some.inj hF
                subst hR
                exact fin1 (H1 := [imm I]) (fun w hs => sat_to [1, 0] 1 rfl hs) rfl (rr_tmp rfl) ⟨rfl, rfl⟩
            · refine ow_slots (L' := [(0, .int .i64 x0), (5, .pointer none), (6, .pointer (some ⟨b21, 0, none⟩)), (51, .bool false)]) (by rw [h38]) ?_
              refine ow_vals 17 (j := 38) [4] [(4, .bool false)] rfl (by kernel_rfl) ?_
              refine ow_end rfl ?_
              refine ew_then ?_
              refine cw_ret ?_
              have hR := Option.some.inj hF
              subst hR
              exact fin1 (H1 := [imm I]) (fun w hs => sat_to [1, 0] 1 rfl hs) rfl (rr_tmp rfl) ⟨rfl, rfl⟩
          · refine ow_slots (L' := [(0, .int .i64 x0), (5, .pointer none), (6, .pointer (some ⟨b21, 0, none⟩)), (47, .bool false)]) (by rw [h35]) ?_
            refine ow_vals 21 (j := 38) [4] [(4, .bool false)] rfl (by kernel_rfl) ?_
            refine ow_end rfl ?_
            refine ew_then ?_
            refine cw_ret ?_
            have hR := Option.some.inj hF
            subst hR
            exact fin1 (H1 := [imm I]) (fun w hs => sat_to [1, 0] 1 rfl hs) rfl (rr_tmp rfl) ⟨rfl, rfl⟩
        · refine ow_slots (L' := [(0, .int .i64 x0), (5, .pointer none), (6, .pointer (some ⟨b21, 0, none⟩)), (41, .bool false)]) (by rw [h32]) ?_
          refine ow_vals 27 (j := 38) [4] [(4, .bool false)] rfl (by kernel_rfl) ?_
          refine ow_end rfl ?_
          refine ew_then ?_
          refine cw_ret ?_
          have hR := Option.some.inj hF
          subst hR
          exact fin1 (H1 := [imm I]) (fun w hs => sat_to [1, 0] 1 rfl hs) rfl (rr_tmp rfl) ⟨rfl, rfl⟩
      · refine ow_slots (L' := [(0, .int .i64 x0), (5, .pointer none), (6, .pointer (some ⟨b21, 0, none⟩)), (13, .int .i64 r27.2), (37, .bool false)]) (by rw [h31]) ?_
        refine ow_vals 31 (j := 38) [4] [(4, .bool false)] rfl (by kernel_rfl) ?_
        refine ow_end rfl ?_
        refine ew_then ?_
        refine cw_ret ?_
        have hR := Option.some.inj hF
        subst hR
        exact fin1 (H1 := [imm I]) (fun w hs => sat_to [1, 0] 1 rfl hs) rfl (rr_tmp rfl) ⟨rfl, rfl⟩
    · refine ow_slots (L' := [(0, .int .i64 x0), (5, .pointer none), (6, .pointer (some ⟨b21, 0, none⟩)), (11, .int .i64 r25.2.2), (13, .int .i64 r27.2), (33, .bool false)]) (by rw [h30]) ?_
      refine ow_vals 35 (j := 38) [4] [(4, .bool false)] rfl (by kernel_rfl) ?_
      refine ow_end rfl ?_
      refine ew_then ?_
      refine cw_ret ?_
      have hR := Option.some.inj hF
      subst hR
      exact fin1 (H1 := [imm I]) (fun w hs => sat_to [1, 0] 1 rfl hs) rfl (rr_tmp rfl) ⟨rfl, rfl⟩
  · rw [hO] at hF
    try dsimp only [optC] at hF
    refine nw_H (H' := [imm I, pt r27_b2 #[.pointer none, .int .i64 r27_s1.boot_, .int .i64 r27_s1.n_] 47, pt b21 #[.pointer none, .int .i64 ((⟨0, 0⟩ : guard_Guard).boot_), .int .i64 ((⟨0, 0⟩ : guard_Guard).n_)] 47] ++ F0) rfl (nw_ow ?_)
    refine ow_vals 5 (j := 6) [0, 5, 6, 8, 11, 13] [(0, .int .i64 x0), (5, .pointer none), (6, .pointer (some ⟨b21, 0, none⟩)), (8, .int .i64 r23.2), (11, .int .i64 r25.2.2), (13, .int .i64 r27.2)] rfl (by kernel_rfl) ?_
    refine ow_end rfl ?_
    refine ew_then ?_
    refine cw_seq ?_
    refine cw_region ?_
    refine ow_vals 3 (j := 3) [0, 5, 6, 11, 13, 33] [(0, .int .i64 x0), (5, .pointer none), (6, .pointer (some ⟨b21, 0, none⟩)), (11, .int .i64 r25.2.2), (13, .int .i64 r27.2), (33, .bool (r23.2 == 9))] rfl (by kernel_rfl) ?_
    rcases if_some hF with ⟨h46, hF⟩ | ⟨h46, hF⟩
    · refine ow_slots (L' := [(0, .int .i64 x0), (5, .pointer none), (6, .pointer (some ⟨b21, 0, none⟩)), (11, .int .i64 r25.2.2), (13, .int .i64 r27.2), (33, .bool true)]) (by rw [h46]) ?_
      refine ow_vals 4 (j := 7) [0, 5, 6, 13, 37] [(0, .int .i64 x0), (5, .pointer none), (6, .pointer (some ⟨b21, 0, none⟩)), (13, .int .i64 r27.2), (37, .bool (r25.2.2 == 9))] rfl (by kernel_rfl) ?_
      rcases if_some hF with ⟨h47, hF⟩ | ⟨h47, hF⟩
      · refine ow_slots (L' := [(0, .int .i64 x0), (5, .pointer none), (6, .pointer (some ⟨b21, 0, none⟩)), (13, .int .i64 r27.2), (37, .bool true)]) (by rw [h47]) ?_
        refine ow_vals 4 (j := 11) [0, 5, 6, 41] [(0, .int .i64 x0), (5, .pointer none), (6, .pointer (some ⟨b21, 0, none⟩)), (41, .bool (r27.2 == 1))] rfl (by kernel_rfl) ?_
        rcases if_some hF with ⟨h48, hF⟩ | ⟨h48, hF⟩
        · refine ow_slots (L' := [(0, .int .i64 x0), (5, .pointer none), (6, .pointer (some ⟨b21, 0, none⟩)), (41, .bool true)]) (by rw [h48]) ?_
          refine ow_vals 2 (j := 13) [0, 5, 6, 41, 42, 43] [(0, .int .i64 x0), (5, .pointer none), (6, .pointer (some ⟨b21, 0, none⟩)), (41, .bool true), (42, .pointer none), (43, .int .i64 x0)] rfl (by kernel_rfl) ?_
          obtain ⟨r49, h50, hF⟩ := bind_some hF
          refine ow_pw rfl (pw_call (F := [pt r27_b2 #[.pointer none, .int .i64 r27_s1.boot_, .int .i64 r27_s1.n_] 47, pt b21 #[.pointer none, .int .i64 ((⟨0, 0⟩ : guard_Guard).boot_), .int .i64 ((⟨0, 0⟩ : guard_Guard).n_)] 47] ++ F0) rfl rfl rfl rfl rfl rfl rfl (by kernel_rfl) (perm_of_pulls [0] rfl) (c_guard_Guard_Erase _ x0 r49 h50) ?_)
          rintro _ _ ⟨rfl, rfl⟩
          refine nw_H (H' := [imm I, pt r27_b2 #[.pointer none, .int .i64 r27_s1.boot_, .int .i64 r27_s1.n_] 47, pt b21 #[.pointer none, .int .i64 ((⟨0, 0⟩ : guard_Guard).boot_), .int .i64 ((⟨0, 0⟩ : guard_Guard).n_)] 47] ++ F0) rfl (nw_ow ?_)
          refine ow_vals 3 (j := 17) [0, 5, 6, 47] [(0, .int .i64 x0), (5, .pointer none), (6, .pointer (some ⟨b21, 0, none⟩)), (47, .bool (r49 == 9))] rfl (by kernel_rfl) ?_
          rcases if_some hF with ⟨h51, hF⟩ | ⟨h51, hF⟩
          · refine ow_slots (L' := [(0, .int .i64 x0), (5, .pointer none), (6, .pointer (some ⟨b21, 0, none⟩)), (47, .bool true)]) (by rw [h51]) ?_
            obtain ⟨r52, h53, hF⟩ := bind_some hF
            refine ow_pw rfl (pw_call (F := [pt r27_b2 #[.pointer none, .int .i64 r27_s1.boot_, .int .i64 r27_s1.n_] 47] ++ F0) rfl rfl rfl rfl rfl rfl rfl (by kernel_rfl) (perm_of_pulls [0, 1] rfl) (c_guard_Guard_Flush _ (⟨0, 0⟩ : guard_Guard) b21 r52 h53) ?_)
            rintro _ _ ⟨rfl, rfl⟩
            refine nw_H (H' := [imm I, pt b21 #[.pointer none, .int .i64 ((⟨0, 0⟩ : guard_Guard).boot_), .int .i64 ((⟨0, 0⟩ : guard_Guard).n_)] 47, pt r27_b2 #[.pointer none, .int .i64 r27_s1.boot_, .int .i64 r27_s1.n_] 47] ++ F0) rfl (nw_ow ?_)
            refine ow_vals 3 (j := 21) [0, 5, 6, 51] [(0, .int .i64 x0), (5, .pointer none), (6, .pointer (some ⟨b21, 0, none⟩)), (51, .bool (r52 == 9))] rfl (by kernel_rfl) ?_
            rcases if_some hF with ⟨h54, hF⟩ | ⟨h54, hF⟩
            · refine ow_slots (L' := [(0, .int .i64 x0), (5, .pointer none), (6, .pointer (some ⟨b21, 0, none⟩)), (51, .bool true)]) (by rw [h54]) ?_
              refine ow_vals 2 (j := 23) [6, 51, 52, 53] [(6, .pointer (some ⟨b21, 0, none⟩)), (51, .bool true), (52, .pointer none), (53, .int .i64 x0)] rfl (by kernel_rfl) ?_
              obtain ⟨r55, h56, hF⟩ := bind_some hF
              refine ow_pw rfl (pw_call (F := [pt b21 #[.pointer none, .int .i64 ((⟨0, 0⟩ : guard_Guard).boot_), .int .i64 ((⟨0, 0⟩ : guard_Guard).n_)] 47, pt r27_b2 #[.pointer none, .int .i64 r27_s1.boot_, .int .i64 r27_s1.n_] 47] ++ F0) rfl rfl rfl rfl rfl rfl rfl (by kernel_rfl) (perm_of_pulls [0] rfl) (c_guard_Guard_Blank_1 _ x0 r55 h56) ?_)
              rintro _ _ ⟨rfl, rfl⟩
              refine nw_H (H' := [imm I, pt b21 #[.pointer none, .int .i64 ((⟨0, 0⟩ : guard_Guard).boot_), .int .i64 ((⟨0, 0⟩ : guard_Guard).n_)] 47, pt r27_b2 #[.pointer none, .int .i64 r27_s1.boot_, .int .i64 r27_s1.n_] 47] ++ F0) rfl (nw_ow ?_)
              refine ow_vals 3 (j := 27) [6, 57] [(6, .pointer (some ⟨b21, 0, none⟩)), (57, .bool (!r55))] rfl (by kernel_rfl) ?_
              rcases if_some hF with ⟨h57, hF⟩ | ⟨h57, hF⟩
              · refine ow_slots (L' := [(6, .pointer (some ⟨b21, 0, none⟩)), (57, .bool true)]) (by rw [h57]) ?_
                obtain ⟨r58, h59, hF⟩ := bind_some hF
                refine ow_pw rfl (pw_call (F := [pt r27_b2 #[.pointer none, .int .i64 r27_s1.boot_, .int .i64 r27_s1.n_] 47] ++ F0) rfl rfl rfl rfl rfl rfl rfl (by kernel_rfl) (perm_of_pulls [0, 0] rfl) (c_guard_Guard_Disk_1 _ (⟨0, 0⟩ : guard_Guard) b21 r58 h59) ?_)
                rintro _ _ ⟨rfl, rfl⟩
                refine nw_H (H' := [imm I, pt b21 #[.pointer none, .int .i64 ((⟨0, 0⟩ : guard_Guard).boot_), .int .i64 ((⟨0, 0⟩ : guard_Guard).n_)] 47, pt r27_b2 #[.pointer none, .int .i64 r27_s1.boot_, .int .i64 r27_s1.n_] 47] ++ F0) rfl (nw_ow ?_)
                refine ow_vals 7 (j := 35) [65] [(65, .bool true)] rfl (by kernel_rfl) ?_
                obtain ⟨r60, h61, hF⟩ := bind_some hF
                refine ow_pw rfl (pw_call (F := [pt b21 #[.pointer none, .int .i64 ((⟨0, 0⟩ : guard_Guard).boot_), .int .i64 ((⟨0, 0⟩ : guard_Guard).n_)] 47, pt r27_b2 #[.pointer none, .int .i64 r27_s1.boot_, .int .i64 r27_s1.n_] 47] ++ F0) rfl rfl rfl rfl rfl rfl rfl (by kernel_rfl) (perm_of_pulls [0] rfl) (c_law10_awake _ r60 h61) ?_)
                rintro _ _ ⟨rfl, rfl⟩
                refine nw_H (H' := [imm I, pt b21 #[.pointer none, .int .i64 ((⟨0, 0⟩ : guard_Guard).boot_), .int .i64 ((⟨0, 0⟩ : guard_Guard).n_)] 47, pt r27_b2 #[.pointer none, .int .i64 r27_s1.boot_, .int .i64 r27_s1.n_] 47] ++ F0) rfl (nw_ow ?_)
                refine ow_vals 2 (j := 38) [4] [(4, .bool r60)] rfl (by kernel_rfl) ?_
                refine ow_end rfl ?_
                refine ew_then ?_
                refine cw_ret ?_
                have hR := Option.some.inj hF
                subst hR
                exact fin1 (H1 := [imm I]) (fun w hs => sat_to [1, 1, 0] 2 rfl hs) rfl (rr_tmp rfl) ⟨rfl, rfl⟩
              · refine ow_slots (L' := [(6, .pointer (some ⟨b21, 0, none⟩)), (57, .bool false)]) (by rw [h57]) ?_
                refine ow_vals 11 (j := 38) [4] [(4, .bool false)] rfl (by kernel_rfl) ?_
                refine ow_end rfl ?_
                refine ew_then ?_
                refine cw_ret ?_
                have hR := Option.some.inj hF
                subst hR
                exact fin1 (H1 := [imm I]) (fun w hs => sat_to [1, 1, 0] 2 rfl hs) rfl (rr_tmp rfl) ⟨rfl, rfl⟩
            · refine ow_slots (L' := [(0, .int .i64 x0), (5, .pointer none), (6, .pointer (some ⟨b21, 0, none⟩)), (51, .bool false)]) (by rw [h54]) ?_
              refine ow_vals 17 (j := 38) [4] [(4, .bool false)] rfl (by kernel_rfl) ?_
              refine ow_end rfl ?_
              refine ew_then ?_
              refine cw_ret ?_
              have hR := Option.some.inj hF
              subst hR
              exact fin1 (H1 := [imm I]) (fun w hs => sat_to [1, 1, 0] 2 rfl hs) rfl (rr_tmp rfl) ⟨rfl, rfl⟩
          · refine ow_slots (L' := [(0, .int .i64 x0), (5, .pointer none), (6, .pointer (some ⟨b21, 0, none⟩)), (47, .bool false)]) (by rw [h51]) ?_
            refine ow_vals 21 (j := 38) [4] [(4, .bool false)] rfl (by kernel_rfl) ?_
            refine ow_end rfl ?_
            refine ew_then ?_
            refine cw_ret ?_
            have hR := Option.some.inj hF
            subst hR
            exact fin1 (H1 := [imm I]) (fun w hs => sat_to [1, 1, 0] 2 rfl hs) rfl (rr_tmp rfl) ⟨rfl, rfl⟩
        · refine ow_slots (L' := [(0, .int .i64 x0), (5, .pointer none), (6, .pointer (some ⟨b21, 0, none⟩)), (41, .bool false)]) (by rw [h48]) ?_
          refine ow_vals 27 (j := 38) [4] [(4, .bool false)] rfl (by kernel_rfl) ?_
          refine ow_end rfl ?_
          refine ew_then ?_
          refine cw_ret ?_
          have hR := Option.some.inj hF
          subst hR
          exact fin1 (H1 := [imm I]) (fun w hs => sat_to [1, 1, 0] 2 rfl hs) rfl (rr_tmp rfl) ⟨rfl, rfl⟩
      · refine ow_slots (L' := [(0, .int .i64 x0), (5, .pointer none), (6, .pointer (some ⟨b21, 0, none⟩)), (13, .int .i64 r27.2), (37, .bool false)]) (by rw [h47]) ?_
        refine ow_vals 31 (j := 38) [4] [(4, .bool false)] rfl (by kernel_rfl) ?_
        refine ow_end rfl ?_
        refine ew_then ?_
        refine cw_ret ?_
        have hR := Option.some.inj hF
        subst hR
        exact fin1 (H1 := [imm I]) (fun w hs => sat_to [1, 1, 0] 2 rfl hs) rfl (rr_tmp rfl) ⟨rfl, rfl⟩
    · refine ow_slots (L' := [(0, .int .i64 x0), (5, .pointer none), (6, .pointer (some ⟨b21, 0, none⟩)), (11, .int .i64 r25.2.2), (13, .int .i64 r27.2), (33, .bool false)]) (by rw [h46]) ?_
      refine ow_vals 35 (j := 38) [4] [(4, .bool false)] rfl (by kernel_rfl) ?_
      refine ow_end rfl ?_
      refine ew_then ?_
      refine cw_ret ?_
      have hR := Option.some.inj hF
      subst hR
      exact fin1 (H1 := [imm I]) (fun w hs => sat_to [1, 1, 0] 2 rfl hs) rfl (rr_tmp rfl) ⟨rfl, rfl⟩

end Go.Proofs.YthebdiboijhjmaaDoor
