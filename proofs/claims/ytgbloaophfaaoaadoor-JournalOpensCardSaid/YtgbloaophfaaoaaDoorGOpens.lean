/- What the functions compute, and that the code computes it: printed by a program of this claim (wip/tools), for the group Opens. -/
import Derived.Test.YtgbloaophfaaoaaDoorGSectorsd
namespace Go.Proofs.YtgbloaophfaaoaaDoor
set_option linter.all false
open Go Go.RowKit Go.Fw
set_option linter.unusedVariables false

def F.disk_Disk_Size_1 : Option Int :=
  some (0)
set_option maxRecDepth 100000 in
set_option maxHeartbeats 4000000 in
theorem c_disk_Disk_Size_1 (I : Hl) (res : Int) (hF : F.disk_Disk_Size_1 = some res) : Tr Tryd.prog 34 [.pointer none] [imm I] (fun r H' => r = .int .i64 res ∧ H' = [imm I]) := by
  unfold F.disk_Disk_Size_1 at hF
  refine tr_of_cw (fn := Tryd.f34) Tryd.func34 rfl (Nat.le_of_ble_eq_true rfl) 10 rfl fun F0 w0 => ?_
  refine cw_keep [0] (L' := [(0, .pointer none)]) rfl ?_
  refine cw_state (S' := SAT w0 ([imm I] ++ F0)) (fun w hs => hs) ?_
  refine cw_seq ?_
  refine cw_region ?_
  refine ow_vals 1 (j := 1) [0] [(0, .pointer none)] rfl (by kernel_rfl) ?_
  refine ow_end rfl ?_
  refine ew_then ?_
  refine cw_seq ?_
  refine cw_seq ?_
  refine cw_region ?_
  refine ow_vals 2 (j := 2) [0, 4] [(0, .pointer none), (4, .bool true)] rfl (by kernel_rfl) ?_
  refine ow_end rfl ?_
  refine ew_then ?_
  refine cw_cond_t rfl rfl rfl ?_
  refine cw_seq ?_
  refine cw_region ?_
  refine ow_vals 1 (j := 1) [2] [(2, .int .i64 0)] rfl (by kernel_rfl) ?_
  refine ow_end rfl ?_
  refine ew_then ?_
  refine cw_ret ?_
  refine ew_then_ret ?_
  have hR := Option.some.inj hF
  subst hR
  exact fin1 (H1 := [imm I]) (fun w hs => sat_to [0] 0 rfl hs) rfl (rr_tmp rfl) ⟨rfl, rfl⟩


def F.guard_New_1.r1 (x1 : Int) : Option ((Option guard_Guard) × Int) :=
  some ((some (⟨x1, 0⟩ : guard_Guard), 0))
def F.guard_New_1 (x1 : Int) : Option ((Option guard_Guard) × Int) :=
  thru (Option.bind (F.disk_Disk_Size_1) (fun (r22 : Int) => if r22 == 0 then (some (.inr ((none, 1)))) else (if decide (x1 < 1) then (some (.inr ((none, 1)))) else (if decide (x1 > 2147483647) then (some (.inr ((none, 1)))) else (some (.inl ())))))) (fun x => F.guard_New_1.r1 x1)
set_option maxRecDepth 100000 in
set_option maxHeartbeats 4000000 in
theorem c_guard_New_1 (I : Hl) (x1 : Int) (res : (Option guard_Guard) × Int) (hF : F.guard_New_1 x1 = some res) : Tr Tryd.prog 19 [.pointer none, .int .i64 x1] [imm I] (fun r H' => (res.1 = none ∧ r = .tuple #[.pointer none, .int .i64 1] ∧ H' = [imm I]) ∨ (∃ (sq1 : guard_Guard), ∃ (bq2 : Nat), res.1 = some sq1 ∧ r = .tuple #[.pointer (some ⟨bq2, 0, none⟩), .int .i64 0] ∧ H' = [imm I, pt bq2 #[.pointer none, .int .i64 sq1.boot_, .int .i64 sq1.n_] 72])) := by
  unfold F.guard_New_1 at hF
  refine tr_of_cw (fn := Tryd.f19) Tryd.func19 rfl (Nat.le_of_ble_eq_true rfl) 21 rfl fun F0 w0 => ?_
  refine cw_keep [0, 1] (L' := [(0, .pointer none), (1, .int .i64 x1)]) rfl ?_
  refine cw_state (S' := SAT w0 ([imm I] ++ F0)) (fun w hs => hs) ?_
  refine cw_seq ?_
  refine cw_region ?_
  refine ow_vals 2 (j := 2) [0, 1] [(0, .pointer none), (1, .int .i64 x1)] rfl (by kernel_rfl) ?_
  refine ow_end rfl ?_
  refine ew_then ?_
  obtain ⟨v21, hF, hK21⟩ := thru_some hF
  refine cw_mid (fun a w => .inl () = v21 ∧ Fr 21 [(0, .pointer none), (1, .int .i64 x1)] a ∧ SAT w0 ([imm I] ++ F0) w) ?_ ?_
  · refine cw_seq ?_
    refine cw_region ?_
    refine ow_vals 1 (j := 1) [0, 1, 6] [(0, .pointer none), (1, .int .i64 x1), (6, .pointer none)] rfl (by kernel_rfl) ?_
    obtain ⟨r22, h23, hF⟩ := bind_some hF
    refine ow_pw rfl (pw_call (F := [] ++ F0) rfl rfl rfl rfl rfl rfl rfl (by kernel_rfl) (perm_of_pulls [0] rfl) (c_disk_Disk_Size_1 _ r22 h23) ?_)
    rintro _ _ ⟨rfl, rfl⟩
    refine nw_H (H' := [imm I] ++ F0) rfl (nw_ow ?_)
    refine ow_vals 2 (j := 4) [0, 1, 9] [(0, .pointer none), (1, .int .i64 x1), (9, .bool (r22 == 0))] rfl (by kernel_rfl) ?_
    rcases if_some hF with ⟨h24, hF⟩ | ⟨h24, hF⟩
    · refine ow_slots (L' := [(0, .pointer none), (1, .int .i64 x1), (9, .bool true)]) (by rw [h24]) ?_
      refine ow_vals 7 (j := 11) [0, 1, 16] [(0, .pointer none), (1, .int .i64 x1), (16, .bool true)] rfl (by kernel_rfl) ?_
      refine ow_end rfl ?_
      refine ew_then ?_
      refine cw_cond_t rfl rfl rfl ?_
      refine cw_seq ?_
      refine cw_region ?_
      refine ow_vals 2 (j := 2) [4, 5] [(4, .pointer none), (5, .int .i64 1)] rfl (by kernel_rfl) ?_
      refine ow_end rfl ?_
      refine ew_then ?_
      refine cw_ret ?_
      refine ew_then_ret ?_
      have hR := Option.some.inj hF
      subst hR
      have hR := hK21
      try dsimp only [Thru] at hR
      subst hR
      exact fin2 (H1 := [imm I]) (fun w hs => sat_to [0] 0 rfl hs) rfl (rr_tmp rfl) (rr_tmp rfl) (.inl ⟨rfl, rfl, rfl⟩)
    refine ow_slots (L' := [(0, .pointer none), (1, .int .i64 x1), (9, .bool false)]) (by rw [h24]) ?_
    refine ow_vals 4 (j := 8) [0, 1, 13] [(0, .pointer none), (1, .int .i64 x1), (13, .bool (decide (x1 < 1)))] rfl (by kernel_rfl) ?_
    rcases if_some hF with ⟨h25, hF⟩ | ⟨h25, hF⟩
    · refine ow_slots (L' := [(0, .pointer none), (1, .int .i64 x1), (13, .bool true)]) (by rw [h25]) ?_
      refine ow_vals 3 (j := 11) [0, 1, 16] [(0, .pointer none), (1, .int .i64 x1), (16, .bool true)] rfl (by kernel_rfl) ?_
      refine ow_end rfl ?_
      refine ew_then ?_
      refine cw_cond_t rfl rfl rfl ?_
      refine cw_seq ?_
      refine cw_region ?_
      refine ow_vals 2 (j := 2) [4, 5] [(4, .pointer none), (5, .int .i64 1)] rfl (by kernel_rfl) ?_
      refine ow_end rfl ?_
      refine ew_then ?_
      refine cw_ret ?_
      refine ew_then_ret ?_
      have hR := Option.some.inj hF
      subst hR
      have hR := hK21
      try dsimp only [Thru] at hR
      subst hR
      exact fin2 (H1 := [imm I]) (fun w hs => sat_to [0] 0 rfl hs) rfl (rr_tmp rfl) (rr_tmp rfl) (.inl ⟨rfl, rfl, rfl⟩)
    refine ow_slots (L' := [(0, .pointer none), (1, .int .i64 x1), (13, .bool false)]) (by rw [h25]) ?_
    refine ow_vals 3 (j := 11) [0, 1, 16] [(0, .pointer none), (1, .int .i64 x1), (16, .bool (decide (x1 > 2147483647)))] rfl (by kernel_rfl) ?_
    refine ow_end rfl ?_
    refine ew_then ?_
    rcases if_some hF with ⟨h26, hF⟩ | ⟨h26, hF⟩
    · refine cw_cond_t rfl rfl h26 ?_
      refine cw_seq ?_
      refine cw_region ?_
      refine ow_vals 2 (j := 2) [4, 5] [(4, .pointer none), (5, .int .i64 1)] rfl (by kernel_rfl) ?_
      refine ow_end rfl ?_
      refine ew_then ?_
      refine cw_ret ?_
      refine ew_then_ret ?_
      have hR := Option.some.inj hF
      subst hR
      have hR := hK21
      try dsimp only [Thru] at hR
      subst hR
      exact fin2 (H1 := [imm I]) (fun w hs => sat_to [0] 0 rfl hs) rfl (rr_tmp rfl) (rr_tmp rfl) (.inl ⟨rfl, rfl, rfl⟩)
    refine cw_cond_f rfl rfl h26 ?_
    refine cw_skip ?_
    have hR := Option.some.inj hF
    exact fun a w hf hs => ⟨hR, hf.keep [0, 1], sat_to [0] 0 rfl hs⟩
  rintro a w ⟨hv, hf, hs⟩
  subst hv
  replace hF := hK21
  clear hK21
  try dsimp only [Thru] at hF
  revert a w
  show CW _ _ _ 21 [(0, .pointer none), (1, .int .i64 x1)] (SAT w0 ([imm I] ++ F0))
  unfold F.guard_New_1.r1 at hF
  refine cw_seq ?_
  refine cw_region ?_
  refine ow_vals 3 (j := 3) [19] [(19, .agg #[.pointer none, .int .i64 x1, .int .i64 0])] rfl (by kernel_rfl) ?_
  refine ow_pw rfl (pw_box (cs := #[.pointer none, .int .i64 x1, .int .i64 0]) rfl rfl rfl rfl rfl rfl fun b27 => nw_ow ?_)
  refine ow_vals 2 (j := 6) [4, 5] [(4, .pointer (some ⟨b27, 0, none⟩)), (5, .int .i64 0)] rfl (by kernel_rfl) ?_
  refine ow_end rfl ?_
  refine ew_then ?_
  refine cw_ret ?_
  have hR := Option.some.inj hF
  subst hR
  exact fin2 (H1 := [imm I, pt b27 #[.pointer none, .int .i64 (⟨x1, 0⟩ : guard_Guard).boot_, .int .i64 (⟨x1, 0⟩ : guard_Guard).n_] 72]) (fun w hs => sat_to [1, 0] 0 rfl hs) rfl (rr_tmp rfl) (rr_tmp rfl) (.inr ⟨(⟨x1, 0⟩ : guard_Guard), b27, rfl, rfl, rfl⟩)


def F.guard_Guard_none_1 : Option Unit :=
  some (())
set_option maxRecDepth 100000 in
set_option maxHeartbeats 4000000 in
theorem c_guard_Guard_none_1 (I : Hl) (res : Unit) (hF : F.guard_Guard_none_1 = some res) : Tr Tryd.prog 37 [.pointer none] [imm I] (fun r H' => r = .bool true ∧ H' = [imm I]) := by
  unfold F.guard_Guard_none_1 at hF
  refine tr_of_cw (fn := Tryd.f37) Tryd.func37 rfl (Nat.le_of_ble_eq_true rfl) 12 rfl fun F0 w0 => ?_
  refine cw_keep [0] (L' := [(0, .pointer none)]) rfl ?_
  refine cw_state (S' := SAT w0 ([imm I] ++ F0)) (fun w hs => hs) ?_
  refine cw_seq ?_
  refine cw_region ?_
  refine ow_vals 1 (j := 1) [0] [(0, .pointer none)] rfl (by kernel_rfl) ?_
  refine ow_end rfl ?_
  refine ew_then ?_
  refine cw_seq ?_
  refine cw_region ?_
  refine ow_vals 10 (j := 10) [2] [(2, .bool true)] rfl (by kernel_rfl) ?_
  refine ow_end rfl ?_
  refine ew_then ?_
  refine cw_ret ?_
  have hR := Option.some.inj hF
  subst hR
  exact fin1 (H1 := [imm I]) (fun w hs => sat_to [0] 0 rfl hs) rfl (rr_tmp rfl) ⟨rfl, rfl⟩


def F.guard_Guard_Disk_1 : Option Unit :=
  Option.bind (F.guard_Guard_none_1) (fun (r21 : Unit) => some (()))
set_option maxRecDepth 100000 in
set_option maxHeartbeats 4000000 in
theorem c_guard_Guard_Disk_1 (I : Hl) (res : Unit) (hF : F.guard_Guard_Disk_1 = some res) : Tr Tryd.prog 35 [.pointer none] [imm I] (fun r H' => r = .pointer none ∧ H' = [imm I]) := by
  unfold F.guard_Guard_Disk_1 at hF
  refine tr_of_cw (fn := Tryd.f35) Tryd.func35 rfl (Nat.le_of_ble_eq_true rfl) 9 rfl fun F0 w0 => ?_
  refine cw_keep [0] (L' := [(0, .pointer none)]) rfl ?_
  refine cw_state (S' := SAT w0 ([imm I] ++ F0)) (fun w hs => hs) ?_
  refine cw_seq ?_
  refine cw_region ?_
  refine ow_vals 1 (j := 1) [0] [(0, .pointer none)] rfl (by kernel_rfl) ?_
  refine ow_end rfl ?_
  refine ew_then ?_
  refine cw_seq ?_
  refine cw_seq ?_
  refine cw_region ?_
  refine ow_vals 1 (j := 1) [0, 3] [(0, .pointer none), (3, .pointer none)] rfl (by kernel_rfl) ?_
  obtain ⟨r21, h22, hF⟩ := bind_some hF
  refine ow_pw rfl (pw_call (F := [] ++ F0) rfl rfl rfl rfl rfl rfl rfl (by kernel_rfl) (perm_of_pulls [0] rfl) (c_guard_Guard_none_1 _ r21 h22) ?_)
  rintro _ _ ⟨rfl, rfl⟩
  refine nw_H (H' := [imm I] ++ F0) rfl (nw_ow ?_)
  refine ow_end rfl ?_
  refine ew_then ?_
  refine cw_cond_t rfl rfl rfl ?_
  refine cw_seq ?_
  refine cw_region ?_
  refine ow_vals 1 (j := 1) [2] [(2, .pointer none)] rfl (by kernel_rfl) ?_
  refine ow_end rfl ?_
  refine ew_then ?_
  refine cw_ret ?_
  refine ew_then_ret ?_
  have hR := Option.some.inj hF
  subst hR
  exact fin1 (H1 := [imm I]) (fun w hs => sat_to [0] 0 rfl hs) rfl (rr_tmp rfl) ⟨rfl, rfl⟩


def F.journal_Open_1.r1 : Option (Int) :=
  some (1)
def F.journal_Open_1 (x1 : Int) (x2 : Int) (x3 : Int) : Option Int :=
  Option.bind (Option.bind (F.guard_Guard_Disk_1) (fun (r23 : Unit) => some (()))) (fun x => F.journal_Open_1.r1)
set_option maxRecDepth 100000 in
set_option maxHeartbeats 4000000 in
theorem c_journal_Open_1 (I : Hl) (x1 : Int) (x2 : Int) (x3 : Int) (res : Int) (hF : F.journal_Open_1 x1 x2 x3 = some res) : Tr Tryd.prog 20 [.pointer none, .int .i64 x1, .int .i64 x2, .int .i64 x3] [imm I] (fun r H' => r = .tuple #[.pointer none, .int .i64 res] ∧ H' = [imm I]) := by
  unfold F.journal_Open_1 at hF
  refine tr_of_cw (fn := Tryd.f20) Tryd.func20 rfl (Nat.le_of_ble_eq_true rfl) 108 rfl fun F0 w0 => ?_
  refine cw_keep [0, 1, 2, 3] (L' := [(0, .pointer none), (1, .int .i64 x1), (2, .int .i64 x2), (3, .int .i64 x3)]) rfl ?_
  refine cw_state (S' := SAT w0 ([imm I] ++ F0)) (fun w hs => hs) ?_
  refine cw_seq ?_
  refine cw_region ?_
  refine ow_vals 2 (j := 2) [0, 1, 2, 3] [(0, .pointer none), (1, .int .i64 x1), (2, .int .i64 x2), (3, .int .i64 x3)] rfl (by kernel_rfl) ?_
  refine ow_end rfl ?_
  refine ew_then ?_
  refine cw_seq ?_
  refine cw_block ?_
  obtain ⟨v22, hF, hK22⟩ := bind_some hF
  refine cw_mid (fun a w => () = v22 ∧ Fr 108 [(0, .pointer none), (1, .int .i64 x1), (2, .int .i64 x2), (3, .int .i64 x3), (15, .bool true)] a ∧ SAT w0 ([imm I] ++ F0) w) ?_ ?_
  · refine cw_region ?_
    refine ow_vals 1 (j := 1) [0, 1, 2, 3, 16] [(0, .pointer none), (1, .int .i64 x1), (2, .int .i64 x2), (3, .int .i64 x3), (16, .pointer none)] rfl (by kernel_rfl) ?_
    obtain ⟨r23, h24, hF⟩ := bind_some hF
    refine ow_pw rfl (pw_call (F := [] ++ F0) rfl rfl rfl rfl rfl rfl rfl (by kernel_rfl) (perm_of_pulls [0] rfl) (c_guard_Guard_Disk_1 _ r23 h24) ?_)
    rintro _ _ ⟨rfl, rfl⟩
    refine nw_H (H' := [imm I] ++ F0) rfl (nw_ow ?_)
    refine ow_vals 18 (j := 20) [0, 1, 2, 3, 15] [(0, .pointer none), (1, .int .i64 x1), (2, .int .i64 x2), (3, .int .i64 x3), (15, .bool true)] rfl (by kernel_rfl) ?_
    refine ow_end rfl ?_
    have hR := Option.some.inj hF
    exact fun a w hf hs => ⟨hR, hf.keep [0, 1, 2, 3, 15], sat_to [0] 0 rfl hs⟩
  rintro a w ⟨hv, hf, hs⟩
  subst hv
  replace hF := hK22
  clear hK22
  try dsimp only at hF
  revert a w
  show CW _ _ _ 108 [(0, .pointer none), (1, .int .i64 x1), (2, .int .i64 x2), (3, .int .i64 x3), (15, .bool true)] (SAT w0 ([imm I] ++ F0))
  unfold F.journal_Open_1.r1 at hF
  refine cw_cond_t rfl rfl rfl ?_
  refine cw_seq ?_
  refine cw_region ?_
  refine ow_vals 2 (j := 2) [8, 9] [(8, .pointer none), (9, .int .i64 1)] rfl (by kernel_rfl) ?_
  refine ow_end rfl ?_
  refine ew_then ?_
  refine cw_ret ?_
  refine ew_blk_ret ?_
  refine ew_then_ret ?_
  have hR := Option.some.inj hF
  subst hR
  exact fin2 (H1 := [imm I]) (fun w hs => sat_to [0] 0 rfl hs) rfl (rr_tmp rfl) (rr_tmp rfl) ⟨rfl, rfl⟩


def F.journal_Journal_none_1 : Option Bool :=
  some (true)
set_option maxRecDepth 100000 in
set_option maxHeartbeats 4000000 in
theorem c_journal_Journal_none_1 (I : Hl) (res : Bool) (hF : F.journal_Journal_none_1 = some res) : Tr Tryd.prog 28 [.pointer none] [imm I] (fun r H' => r = .bool res ∧ H' = [imm I]) := by
  unfold F.journal_Journal_none_1 at hF
  refine tr_of_cw (fn := Tryd.f28) Tryd.func28 rfl (Nat.le_of_ble_eq_true rfl) 12 rfl fun F0 w0 => ?_
  refine cw_keep [0] (L' := [(0, .pointer none)]) rfl ?_
  refine cw_state (S' := SAT w0 ([imm I] ++ F0)) (fun w hs => hs) ?_
  refine cw_seq ?_
  refine cw_region ?_
  refine ow_vals 1 (j := 1) [0] [(0, .pointer none)] rfl (by kernel_rfl) ?_
  refine ow_end rfl ?_
  refine ew_then ?_
  refine cw_seq ?_
  refine cw_region ?_
  refine ow_vals 10 (j := 10) [2] [(2, .bool true)] rfl (by kernel_rfl) ?_
  refine ow_end rfl ?_
  refine ew_then ?_
  refine cw_ret ?_
  have hR := Option.some.inj hF
  subst hR
  exact fin1 (H1 := [imm I]) (fun w hs => sat_to [0] 0 rfl hs) rfl (rr_tmp rfl) ⟨rfl, rfl⟩


def F.journal_Journal_Records : Option (List ByteArray) :=
  Option.bind (F.journal_Journal_none_1) (fun (r21 : Bool) => if r21 then (some (([] : List ByteArray))) else (none))
set_option maxRecDepth 100000 in
set_option maxHeartbeats 4000000 in
theorem c_journal_Journal_Records (I : Hl) (res : (List ByteArray)) (hF : F.journal_Journal_Records = some res) : Tr Tryd.prog 9 [.pointer none] [imm I] (fun r H' => ∃ (pq1 : Option Addr), ∃ (cq2 : Nat), r = .slice pq1 res.length cq2 ∧ H' = [imm I, own eStr 9 pq1 cq2 res]) := by
  unfold F.journal_Journal_Records at hF
  refine tr_of_cw (fn := Tryd.f9) Tryd.func9 rfl (Nat.le_of_ble_eq_true rfl) 10 rfl fun F0 w0 => ?_
  refine cw_keep [0] (L' := [(0, .pointer none)]) rfl ?_
  refine cw_state (S' := SAT w0 ([imm I] ++ F0)) (fun w hs => hs) ?_
  refine cw_seq ?_
  refine cw_region ?_
  refine ow_vals 1 (j := 1) [0] [(0, .pointer none)] rfl (by kernel_rfl) ?_
  refine ow_end rfl ?_
  refine ew_then ?_
  refine cw_seq ?_
  refine cw_seq ?_
  refine cw_region ?_
  refine ow_vals 1 (j := 1) [0, 3] [(0, .pointer none), (3, .pointer none)] rfl (by kernel_rfl) ?_
  obtain ⟨r21, h22, hF⟩ := bind_some hF
  refine ow_pw rfl (pw_call (F := [] ++ F0) rfl rfl rfl rfl rfl rfl rfl (by kernel_rfl) (perm_of_pulls [0] rfl) (c_journal_Journal_none_1 _ r21 h22) ?_)
  rintro _ _ ⟨rfl, rfl⟩
  refine nw_H (H' := [imm I] ++ F0) rfl (nw_ow ?_)
  refine ow_end rfl ?_
  refine ew_then ?_
  rcases if_some hF with ⟨h23, hF⟩ | ⟨h23, hF⟩
  · refine cw_cond_t rfl rfl h23 ?_
    refine cw_seq ?_
    refine cw_region ?_
    refine ow_vals 1 (j := 1) [2] [(2, .slice none 0 0)] rfl (by kernel_rfl) ?_
    refine ow_end rfl ?_
    refine ew_then ?_
    refine cw_ret ?_
    refine ew_then_ret ?_
    have hR := Option.some.inj hF
    subst hR
    exact fin1 (H1 := [imm I, own eStr 9 none 0 ([] : List ByteArray)]) (fun w hs => sat_to [1, 0] 0 rfl (sat_own_nil eStr 9 hs)) rfl (rr_tmp rfl) ⟨none, 0, rfl, rfl⟩
  refine cw_cond_f rfl rfl h23 ?_
  refine cw_skip ?_
  refine ew_then ?_
  refine cw_seq ?_
  refine cw_region ?_
  refine ow_vals 1 (j := 1) [5] [(5, .pointer none)] rfl (by kernel_rfl) ?_
  cases hF


def F.journal_Journal_Left_1 : Option Int :=
  Option.bind (F.journal_Journal_none_1) (fun (r21 : Bool) => if r21 then (some (0)) else (none))
set_option maxRecDepth 100000 in
set_option maxHeartbeats 4000000 in
theorem c_journal_Journal_Left_1 (I : Hl) (res : Int) (hF : F.journal_Journal_Left_1 = some res) : Tr Tryd.prog 12 [.pointer none] [imm I] (fun r H' => r = .int .i64 res ∧ H' = [imm I]) := by
  unfold F.journal_Journal_Left_1 at hF
  refine tr_of_cw (fn := Tryd.f12) Tryd.func12 rfl (Nat.le_of_ble_eq_true rfl) 14 rfl fun F0 w0 => ?_
  refine cw_keep [0] (L' := [(0, .pointer none)]) rfl ?_
  refine cw_state (S' := SAT w0 ([imm I] ++ F0)) (fun w hs => hs) ?_
  refine cw_seq ?_
  refine cw_region ?_
  refine ow_vals 1 (j := 1) [0] [(0, .pointer none)] rfl (by kernel_rfl) ?_
  refine ow_end rfl ?_
  refine ew_then ?_
  refine cw_seq ?_
  refine cw_seq ?_
  refine cw_region ?_
  refine ow_vals 1 (j := 1) [0, 3] [(0, .pointer none), (3, .pointer none)] rfl (by kernel_rfl) ?_
  obtain ⟨r21, h22, hF⟩ := bind_some hF
  refine ow_pw rfl (pw_call (F := [] ++ F0) rfl rfl rfl rfl rfl rfl rfl (by kernel_rfl) (perm_of_pulls [0] rfl) (c_journal_Journal_none_1 _ r21 h22) ?_)
  rintro _ _ ⟨rfl, rfl⟩
  refine nw_H (H' := [imm I] ++ F0) rfl (nw_ow ?_)
  refine ow_end rfl ?_
  refine ew_then ?_
  rcases if_some hF with ⟨h23, hF⟩ | ⟨h23, hF⟩
  · refine cw_cond_t rfl rfl h23 ?_
    refine cw_seq ?_
    refine cw_region ?_
    refine ow_vals 1 (j := 1) [2] [(2, .int .i64 0)] rfl (by kernel_rfl) ?_
    refine ow_end rfl ?_
    refine ew_then ?_
    refine cw_ret ?_
    refine ew_then_ret ?_
    have hR := Option.some.inj hF
    subst hR
    exact fin1 (H1 := [imm I]) (fun w hs => sat_to [0] 0 rfl hs) rfl (rr_tmp rfl) ⟨rfl, rfl⟩
  refine cw_cond_f rfl rfl h23 ?_
  refine cw_skip ?_
  refine ew_then ?_
  refine cw_seq ?_
  refine cw_open 10 (SAT w0 ([imm I])) (by kernel_rfl) (f := 10) rfl (fun w hs => sat_drew hs) ?_
  refine aw_vals [0] (f' := 9) (m' := 1) [0, 5] [(0, .pointer none), (5, .pointer none)] (fun _ _ _ _ _ h => calm_fin (P := Tryd.prog) (fn := Tryd.f12) _ _ _ _ _ h) (fun w hs => sat_pulls [0] (G := [] ++ F0) rfl hs) rfl (by kernel_rfl) ?_
  cases hF


def F.journal_Journal_Used_1 : Option Int :=
  Option.bind (F.journal_Journal_none_1) (fun (r21 : Bool) => if r21 then (some (0)) else (none))
set_option maxRecDepth 100000 in
set_option maxHeartbeats 4000000 in
theorem c_journal_Journal_Used_1 (I : Hl) (res : Int) (hF : F.journal_Journal_Used_1 = some res) : Tr Tryd.prog 11 [.pointer none] [imm I] (fun r H' => r = .int .i64 res ∧ H' = [imm I]) := by
  unfold F.journal_Journal_Used_1 at hF
  refine tr_of_cw (fn := Tryd.f11) Tryd.func11 rfl (Nat.le_of_ble_eq_true rfl) 9 rfl fun F0 w0 => ?_
  refine cw_keep [0] (L' := [(0, .pointer none)]) rfl ?_
  refine cw_state (S' := SAT w0 ([imm I] ++ F0)) (fun w hs => hs) ?_
  refine cw_seq ?_
  refine cw_region ?_
  refine ow_vals 1 (j := 1) [0] [(0, .pointer none)] rfl (by kernel_rfl) ?_
  refine ow_end rfl ?_
  refine ew_then ?_
  refine cw_seq ?_
  refine cw_seq ?_
  refine cw_region ?_
  refine ow_vals 1 (j := 1) [0, 3] [(0, .pointer none), (3, .pointer none)] rfl (by kernel_rfl) ?_
  obtain ⟨r21, h22, hF⟩ := bind_some hF
  refine ow_pw rfl (pw_call (F := [] ++ F0) rfl rfl rfl rfl rfl rfl rfl (by kernel_rfl) (perm_of_pulls [0] rfl) (c_journal_Journal_none_1 _ r21 h22) ?_)
  rintro _ _ ⟨rfl, rfl⟩
  refine nw_H (H' := [imm I] ++ F0) rfl (nw_ow ?_)
  refine ow_end rfl ?_
  refine ew_then ?_
  rcases if_some hF with ⟨h23, hF⟩ | ⟨h23, hF⟩
  · refine cw_cond_t rfl rfl h23 ?_
    refine cw_seq ?_
    refine cw_region ?_
    refine ow_vals 1 (j := 1) [2] [(2, .int .i64 0)] rfl (by kernel_rfl) ?_
    refine ow_end rfl ?_
    refine ew_then ?_
    refine cw_ret ?_
    refine ew_then_ret ?_
    have hR := Option.some.inj hF
    subst hR
    exact fin1 (H1 := [imm I]) (fun w hs => sat_to [0] 0 rfl hs) rfl (rr_tmp rfl) ⟨rfl, rfl⟩
  refine cw_cond_f rfl rfl h23 ?_
  refine cw_skip ?_
  refine ew_then ?_
  refine cw_seq ?_
  refine cw_region ?_
  refine ow_vals 1 (j := 1) [5] [(5, .pointer none)] rfl (by kernel_rfl) ?_
  cases hF


def F.journal_Journal_Records_1 (m0 : journal_Journal) (m1 : guard_Guard) (m2 : disk_Disk) : Option (List ByteArray) :=
  Option.bind (F.journal_Journal_none m0 m1 m2) (fun (r21 : Bool) => if r21 then (some (([] : List ByteArray))) else (chk (room (([] : List ByteArray).length + m0.list_.length) 16) (some ((([] : List ByteArray) ++ m0.list_)))))
set_option maxRecDepth 100000 in
set_option maxHeartbeats 4000000 in
theorem c_journal_Journal_Records_1 (I : Hl) (m0 : journal_Journal) (m1 : guard_Guard) (m2 : disk_Disk) (p0 : Option Addr) (c0 : Nat) (b0 : Nat) (b1 : Nat) (p1 : Option Addr) (c1 : Nat) (p2 : Nat) (b2 : Nat) (res : (List ByteArray)) (hF : F.journal_Journal_Records_1 m0 m1 m2 = some res) : Tr Tryd.prog 9 [.pointer (some ⟨b0, 0, none⟩)] [imm I, pt b0 #[.pointer (some ⟨b1, 0, none⟩), .int .i64 m0.base_, .int .i64 m0.size_, .int .i64 m0.next_, .int .i64 m0.last_, .slice p0 m0.list_.length c0, .int .i64 m0.sure_, .bool m0.dead_] 26, pt b1 #[.pointer (some ⟨b2, 0, none⟩), .int .i64 m1.boot_, .int .i64 m1.n_] 72, pt b2 #[.slice p1 m2.sure_.length c1, .map (some p2), .bool m2.off_, .bool m2.armed_, .int .i64 m2.left_, .int .u64 m2.fall_.Keep, .int .i64 m2.fall_.Tear, .int .i64 m2.acts_, .int .i64 m2.falls_] 62, own eStr 9 p0 c0 m0.list_, own e_disk_sector 65 p1 c1 m2.sure_, mpo (kInt .i64) (fun x : disk_sector => Value.agg #[.string x.s_, .int .i64 x.at_]) p2 m2.wait_] (fun r H' => ∃ (pq1 : Option Addr), ∃ (cq2 : Nat), r = .slice pq1 res.length cq2 ∧ H' = [imm I, pt b0 #[.pointer (some ⟨b1, 0, none⟩), .int .i64 m0.base_, .int .i64 m0.size_, .int .i64 m0.next_, .int .i64 m0.last_, .slice p0 m0.list_.length c0, .int .i64 m0.sure_, .bool m0.dead_] 26, pt b1 #[.pointer (some ⟨b2, 0, none⟩), .int .i64 m1.boot_, .int .i64 m1.n_] 72, pt b2 #[.slice p1 m2.sure_.length c1, .map (some p2), .bool m2.off_, .bool m2.armed_, .int .i64 m2.left_, .int .u64 m2.fall_.Keep, .int .i64 m2.fall_.Tear, .int .i64 m2.acts_, .int .i64 m2.falls_] 62, own eStr 9 pq1 cq2 res, own eStr 9 p0 c0 m0.list_, own e_disk_sector 65 p1 c1 m2.sure_, mpo (kInt .i64) (fun x : disk_sector => Value.agg #[.string x.s_, .int .i64 x.at_]) p2 m2.wait_]) := by
  unfold F.journal_Journal_Records_1 at hF
  refine tr_of_cw (fn := Tryd.f9) Tryd.func9 rfl (Nat.le_of_ble_eq_true rfl) 10 rfl fun F0 w0 => ?_
  refine cw_keep [0] (L' := [(0, .pointer (some ⟨b0, 0, none⟩))]) rfl ?_
  refine cw_state (S' := SAT w0 ([imm I, pt b0 #[.pointer (some ⟨b1, 0, none⟩), .int .i64 m0.base_, .int .i64 m0.size_, .int .i64 m0.next_, .int .i64 m0.last_, .slice p0 m0.list_.length c0, .int .i64 m0.sure_, .bool m0.dead_] 26, pt b1 #[.pointer (some ⟨b2, 0, none⟩), .int .i64 m1.boot_, .int .i64 m1.n_] 72, pt b2 #[.slice p1 m2.sure_.length c1, .map (some p2), .bool m2.off_, .bool m2.armed_, .int .i64 m2.left_, .int .u64 m2.fall_.Keep, .int .i64 m2.fall_.Tear, .int .i64 m2.acts_, .int .i64 m2.falls_] 62, own eStr 9 p0 c0 m0.list_, own e_disk_sector 65 p1 c1 m2.sure_, mpo (kInt .i64) (fun x : disk_sector => Value.agg #[.string x.s_, .int .i64 x.at_]) p2 m2.wait_] ++ F0)) (fun w hs => hs) ?_
  refine cw_seq ?_
  refine cw_region ?_
  refine ow_vals 1 (j := 1) [0] [(0, .pointer (some ⟨b0, 0, none⟩))] rfl (by kernel_rfl) ?_
  refine ow_end rfl ?_
  refine ew_then ?_
  refine cw_seq ?_
  refine cw_seq ?_
  refine cw_region ?_
  refine ow_vals 1 (j := 1) [0, 3] [(0, .pointer (some ⟨b0, 0, none⟩)), (3, .pointer (some ⟨b0, 0, none⟩))] rfl (by kernel_rfl) ?_
  obtain ⟨r21, h22, hF⟩ := bind_some hF
  refine ow_pw rfl (pw_call (F := [] ++ F0) rfl rfl rfl rfl rfl rfl rfl (by kernel_rfl) (perm_of_pulls [0, 0, 0, 0, 0, 0, 0] rfl) (c_journal_Journal_none _ m0 m1 m2 p0 c0 b0 b1 p1 c1 p2 b2 r21 h22) ?_)
  rintro _ _ ⟨rfl, rfl⟩
  refine nw_H (H' := [imm I, pt b0 #[.pointer (some ⟨b1, 0, none⟩), .int .i64 m0.base_, .int .i64 m0.size_, .int .i64 m0.next_, .int .i64 m0.last_, .slice p0 m0.list_.length c0, .int .i64 m0.sure_, .bool m0.dead_] 26, pt b1 #[.pointer (some ⟨b2, 0, none⟩), .int .i64 m1.boot_, .int .i64 m1.n_] 72, pt b2 #[.slice p1 m2.sure_.length c1, .map (some p2), .bool m2.off_, .bool m2.armed_, .int .i64 m2.left_, .int .u64 m2.fall_.Keep, .int .i64 m2.fall_.Tear, .int .i64 m2.acts_, .int .i64 m2.falls_] 62, own eStr 9 p0 c0 m0.list_, own e_disk_sector 65 p1 c1 m2.sure_, mpo (kInt .i64) (fun x : disk_sector => Value.agg #[.string x.s_, .int .i64 x.at_]) p2 m2.wait_] ++ F0) rfl (nw_ow ?_)
  refine ow_end rfl ?_
  refine ew_then ?_
  rcases if_some hF with ⟨h23, hF⟩ | ⟨h23, hF⟩
  · refine cw_cond_t rfl rfl h23 ?_
    refine cw_seq ?_
    refine cw_region ?_
    refine ow_vals 1 (j := 1) [2] [(2, .slice none 0 0)] rfl (by kernel_rfl) ?_
    refine ow_end rfl ?_
    refine ew_then ?_
    refine cw_ret ?_
    refine ew_then_ret ?_
    have hR := Option.some.inj hF
    subst hR
    exact fin1 (H1 := [imm I, pt b0 #[.pointer (some ⟨b1, 0, none⟩), .int .i64 m0.base_, .int .i64 m0.size_, .int .i64 m0.next_, .int .i64 m0.last_, .slice p0 m0.list_.length c0, .int .i64 m0.sure_, .bool m0.dead_] 26, pt b1 #[.pointer (some ⟨b2, 0, none⟩), .int .i64 m1.boot_, .int .i64 m1.n_] 72, pt b2 #[.slice p1 m2.sure_.length c1, .map (some p2), .bool m2.off_, .bool m2.armed_, .int .i64 m2.left_, .int .u64 m2.fall_.Keep, .int .i64 m2.fall_.Tear, .int .i64 m2.acts_, .int .i64 m2.falls_] 62, own eStr 9 none 0 ([] : List ByteArray), own eStr 9 p0 c0 m0.list_, own e_disk_sector 65 p1 c1 m2.sure_, mpo (kInt .i64) (fun x : disk_sector => Value.agg #[.string x.s_, .int .i64 x.at_]) p2 m2.wait_]) (fun w hs => sat_to [1, 1, 1, 1, 0, 0, 0, 0] 0 rfl (sat_own_nil eStr 9 hs)) rfl (rr_tmp rfl) ⟨none, 0, rfl, rfl⟩
  refine cw_cond_f rfl rfl h23 ?_
  refine cw_skip ?_
  refine ew_then ?_
  refine cw_seq ?_
  refine cw_region ?_
  refine ow_vals 3 (j := 3) [7] [(7, .pointer (some ⟨b0, 5, none⟩))] rfl (by kernel_rfl) ?_
  refine ow_pw rfl (pw_quiet (v := .slice p0 m0.list_.length c0) rfl rfl rfl rfl (q_load 1 rfl rfl rfl (by kernel_rfl)) (nw_ow ?_))
  refine ow_state (S' := SAT w0 ([own eStr 9 none 0 ([] : List ByteArray), imm I, pt b0 #[.pointer (some ⟨b1, 0, none⟩), .int .i64 m0.base_, .int .i64 m0.size_, .int .i64 m0.next_, .int .i64 m0.last_, .slice p0 m0.list_.length c0, .int .i64 m0.sure_, .bool m0.dead_] 26, pt b1 #[.pointer (some ⟨b2, 0, none⟩), .int .i64 m1.boot_, .int .i64 m1.n_] 72, pt b2 #[.slice p1 m2.sure_.length c1, .map (some p2), .bool m2.off_, .bool m2.armed_, .int .i64 m2.left_, .int .u64 m2.fall_.Keep, .int .i64 m2.fall_.Tear, .int .i64 m2.acts_, .int .i64 m2.falls_] 62, own eStr 9 p0 c0 m0.list_, own e_disk_sector 65 p1 c1 m2.sure_, mpo (kInt .i64) (fun x : disk_sector => Value.agg #[.string x.s_, .int .i64 x.at_]) p2 m2.wait_] ++ F0)) (fun w hs => sat_own_nil eStr 9 hs) ?_
  obtain ⟨h25, hF⟩ := chk_some hF
  refine ow_pw rfl (pw_append 0 (l' := m0.list_) rfl rfl rfl rfl rfl rfl (by kernel_rfl) (by kernel_rfl) rfl rfl rfl (src_own (E' := 9) 5 rfl (by kernel_rfl) rfl) rfl h25.1 h25.2 fun p26 c27 => nw_H (H' := [own eStr 9 p26 c27 (([] : List ByteArray) ++ m0.list_), imm I, pt b0 #[.pointer (some ⟨b1, 0, none⟩), .int .i64 m0.base_, .int .i64 m0.size_, .int .i64 m0.next_, .int .i64 m0.last_, .slice p0 m0.list_.length c0, .int .i64 m0.sure_, .bool m0.dead_] 26, pt b1 #[.pointer (some ⟨b2, 0, none⟩), .int .i64 m1.boot_, .int .i64 m1.n_] 72, pt b2 #[.slice p1 m2.sure_.length c1, .map (some p2), .bool m2.off_, .bool m2.armed_, .int .i64 m2.left_, .int .u64 m2.fall_.Keep, .int .i64 m2.fall_.Tear, .int .i64 m2.acts_, .int .i64 m2.falls_] 62, own eStr 9 p0 c0 m0.list_, own e_disk_sector 65 p1 c1 m2.sure_, mpo (kInt .i64) (fun x : disk_sector => Value.agg #[.string x.s_, .int .i64 x.at_]) p2 m2.wait_] ++ F0) rfl (nw_ow ?_))
  refine ow_vals 1 (j := 6) [2] [(2, .slice p26 (([] : List ByteArray) ++ m0.list_).length c27)] rfl (by kernel_rfl) ?_
  refine ow_end rfl ?_
  refine ew_then ?_
  refine cw_ret ?_
  have hR := Option.some.inj hF
  subst hR
  exact fin1 (H1 := [imm I, pt b0 #[.pointer (some ⟨b1, 0, none⟩), .int .i64 m0.base_, .int .i64 m0.size_, .int .i64 m0.next_, .int .i64 m0.last_, .slice p0 m0.list_.length c0, .int .i64 m0.sure_, .bool m0.dead_] 26, pt b1 #[.pointer (some ⟨b2, 0, none⟩), .int .i64 m1.boot_, .int .i64 m1.n_] 72, pt b2 #[.slice p1 m2.sure_.length c1, .map (some p2), .bool m2.off_, .bool m2.armed_, .int .i64 m2.left_, .int .u64 m2.fall_.Keep, .int .i64 m2.fall_.Tear, .int .i64 m2.acts_, .int .i64 m2.falls_] 62, own eStr 9 p26 c27 (([] : List ByteArray) ++ m0.list_), own eStr 9 p0 c0 m0.list_, own e_disk_sector 65 p1 c1 m2.sure_, mpo (kInt .i64) (fun x : disk_sector => Value.agg #[.string x.s_, .int .i64 x.at_]) p2 m2.wait_]) (fun w hs => sat_to [1, 1, 1, 1, 0, 0, 0, 0] 0 rfl hs) rfl (rr_tmp rfl) ⟨p26, c27, rfl, rfl⟩

end Go.Proofs.YtgbloaophfaaoaaDoor
