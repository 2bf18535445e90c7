/- What the functions compute, and that the code computes it: printed by a program of this claim (wip/tools), for the group News. -/
import Derived.Test.YtilpkebkhibpeaaDoorGRingb
namespace Go.Proofs.YtilpkebkhibpeaaDoor
set_option linter.all false
open Go Go.RowKit Go.Fw
set_option linter.unusedVariables false

def F.disk_Disk_Size_1 : Option Int :=
  some (0)
set_option maxRecDepth 100000 in
set_option maxHeartbeats 4000000 in
theorem c_disk_Disk_Size_1 (I : Hl) (res : Int) (hF : F.disk_Disk_Size_1 = some res) : Tr Tryd.prog 25 [.pointer none] [imm I] (fun r H' => r = .int .i64 res ∧ H' = [imm I]) := by
  unfold F.disk_Disk_Size_1 at hF
  refine tr_of_cw (fn := Tryd.f25) Tryd.func25 rfl (Nat.le_of_ble_eq_true rfl) 10 rfl fun F0 w0 => ?_
  refine cw_keep [0] (L' := [(0, .pointer none)]) rfl ?_
  refine cw_state (S' := SAT w0 ([imm I] ++ F0)) (fun w hs => hs) ?_
  refine cw_seq ?_
  refine cw_region ?_
  refine ow_vals 1 (j := 1) [0] [(0, .pointer none)] rfl (by kernel_rfl) ?_
  refine ow_end rfl ?_
  refine ew_then ?_
  refine cw_seq ?_
  refine cw_seq ?_
  refine cw_region ?_
  refine ow_vals 2 (j := 2) [0, 4] [(0, .pointer none), (4, .bool true)] rfl (by kernel_rfl) ?_
  refine ow_end rfl ?_
  refine ew_then ?_
  refine cw_cond_t rfl rfl rfl ?_
  refine cw_seq ?_
  refine cw_region ?_
  refine ow_vals 1 (j := 1) [2] [(2, .int .i64 0)] rfl (by kernel_rfl) ?_
  refine ow_end rfl ?_
  refine ew_then ?_
  refine cw_ret ?_
  refine ew_then_ret ?_
  have hR := Option.some.inj hF
  subst hR
  exact fin1 (H1 := [imm I]) (fun w hs => sat_to [0] 0 rfl hs) rfl (rr_tmp rfl) ⟨rfl, rfl⟩


def F.guard_New_1.r1 (x1 : Int) : Option ((Option guard_Guard) × Int) :=
  some ((some (⟨x1, 0⟩ : guard_Guard), 0))
def F.guard_New_1 (x1 : Int) : Option ((Option guard_Guard) × Int) :=
  thru (Option.bind (F.disk_Disk_Size_1) (fun (r22 : Int) => if r22 == 0 then (some (.inr ((none, 1)))) else (if decide (x1 < 1) then (some (.inr ((none, 1)))) else (if decide (x1 > 2147483647) then (some (.inr ((none, 1)))) else (some (.inl ())))))) (fun x => F.guard_New_1.r1 x1)
set_option maxRecDepth 100000 in
set_option maxHeartbeats 4000000 in
theorem c_guard_New_1 (I : Hl) (x1 : Int) (res : (Option guard_Guard) × Int) (hF : F.guard_New_1 x1 = some res) : Tr Tryd.prog 8 [.pointer none, .int .i64 x1] [imm I] (fun r H' => (res.1 = none ∧ r = .tuple #[.pointer none, .int .i64 res.2] ∧ H' = [imm I]) ∨ (∃ (sq1 : guard_Guard), ∃ (bq2 : Nat), res.1 = some sq1 ∧ r = .tuple #[.pointer (some ⟨bq2, 0, none⟩), .int .i64 res.2] ∧ H' = [imm I, pt bq2 #[.pointer none, .int .i64 sq1.boot_, .int .i64 sq1.n_] 64])) := by
  unfold F.guard_New_1 at hF
  refine tr_of_cw (fn := Tryd.f8) Tryd.func8 rfl (Nat.le_of_ble_eq_true rfl) 21 rfl fun F0 w0 => ?_
  refine cw_keep [0, 1] (L' := [(0, .pointer none), (1, .int .i64 x1)]) rfl ?_
  refine cw_state (S' := SAT w0 ([imm I] ++ F0)) (fun w hs => hs) ?_
  refine cw_seq ?_
  refine cw_region ?_
  refine ow_vals 2 (j := 2) [0, 1] [(0, .pointer none), (1, .int .i64 x1)] rfl (by kernel_rfl) ?_
  refine ow_end rfl ?_
  refine ew_then ?_
  obtain ⟨v21, hF, hK21⟩ := thru_some hF
  refine cw_mid (fun a w => .inl () = v21 ∧ Fr 21 [(0, .pointer none), (1, .int .i64 x1)] a ∧ SAT w0 ([imm I] ++ F0) w) ?_ ?_
  · refine cw_seq ?_
    refine cw_region ?_
    refine ow_vals 1 (j := 1) [0, 1, 6] [(0, .pointer none), (1, .int .i64 x1), (6, .pointer none)] rfl (by kernel_rfl) ?_
    obtain ⟨r22, h23, hF⟩ := bind_some hF
    refine ow_pw rfl (pw_call (F := [] ++ F0) rfl rfl rfl rfl rfl rfl rfl (by kernel_rfl) (perm_of_pulls [0] rfl) (c_disk_Disk_Size_1 _ r22 h23) ?_)
    rintro _ _ ⟨rfl, rfl⟩
    refine nw_H (H' := [imm I] ++ F0) rfl (nw_ow ?_)
    refine ow_vals 2 (j := 4) [0, 1, 9] [(0, .pointer none), (1, .int .i64 x1), (9, .bool (r22 == 0))] rfl (by kernel_rfl) ?_
    rcases if_some hF with ⟨h24, hF⟩ | ⟨h24, hF⟩
    · refine ow_slots (L' := [(0, .pointer none), (1, .int .i64 x1), (9, .bool true)]) (by rw [h24]) ?_
      refine ow_vals 7 (j := 11) [0, 1, 16] [(0, .pointer none), (1, .int .i64 x1), (16, .bool true)] rfl (by kernel_rfl) ?_
      refine ow_end rfl ?_
      refine ew_then ?_
      refine cw_cond_t rfl rfl rfl ?_
      refine cw_seq ?_
      refine cw_region ?_
      refine ow_vals 2 (j := 2) [4, 5] [(4, .pointer none), (5, .int .i64 1)] rfl (by kernel_rfl) ?_
      refine ow_end rfl ?_
      refine ew_then ?_
      refine cw_ret ?_
      refine ew_then_ret ?_
      have hR := Option.some.inj hF
      subst hR
      have hR := hK21
      try dsimp only [Thru] at hR
      subst hR
      exact fin2 (H1 := [imm I]) (fun w hs => sat_to [0] 0 rfl hs) rfl (rr_tmp rfl) (rr_tmp rfl) (.inl ⟨rfl, rfl, rfl⟩)
    · refine ow_slots (L' := [(0, .pointer none), (1, .int .i64 x1), (9, .bool false)]) (by rw [h24]) ?_
      refine ow_vals 4 (j := 8) [0, 1, 13] [(0, .pointer none), (1, .int .i64 x1), (13, .bool (decide (x1 < 1)))] rfl (by kernel_rfl) ?_
      rcases if_some hF with ⟨h25, hF⟩ | ⟨h25, hF⟩
      · refine ow_slots (L' := [(0, .pointer none), (1, .int .i64 x1), (13, .bool true)]) (by rw [h25]) ?_
        refine ow_vals 3 (j := 11) [0, 1, 16] [(0, .pointer none), (1, .int .i64 x1), (16, .bool true)] rfl (by kernel_rfl) ?_
        refine ow_end rfl ?_
        refine ew_then ?_
        refine cw_cond_t rfl rfl rfl ?_
        refine cw_seq ?_
        refine cw_region ?_
        refine ow_vals 2 (j := 2) [4, 5] [(4, .pointer none), (5, .int .i64 1)] rfl (by kernel_rfl) ?_
        refine ow_end rfl ?_
        refine ew_then ?_
        refine cw_ret ?_
        refine ew_then_ret ?_
        have hR := Option.some.inj hF
        subst hR
        have hR := hK21
        try dsimp only [Thru] at hR
        subst hR
        exact fin2 (H1 := [imm I]) (fun w hs => sat_to [0] 0 rfl hs) rfl (rr_tmp rfl) (rr_tmp rfl) (.inl ⟨rfl, rfl, rfl⟩)
      · refine ow_slots (L' := [(0, .pointer none), (1, .int .i64 x1), (13, .bool false)]) (by rw [h25]) ?_
        refine ow_vals 3 (j := 11) [0, 1, 16] [(0, .pointer none), (1, .int .i64 x1), (16, .bool (decide (x1 > 2147483647)))] rfl (by kernel_rfl) ?_
        refine ow_end rfl ?_
        refine ew_then ?_
        rcases if_some hF with ⟨h26, hF⟩ | ⟨h26, hF⟩
        · refine cw_cond_t rfl rfl h26 ?_
          refine cw_seq ?_
          refine cw_region ?_
          refine ow_vals 2 (j := 2) [4, 5] [(4, .pointer none), (5, .int .i64 1)] rfl (by kernel_rfl) ?_
          refine ow_end rfl ?_
          refine ew_then ?_
          refine cw_ret ?_
          refine ew_then_ret ?_
          have hR := Option.some.inj hF
          subst hR
          have hR := hK21
          try dsimp only [Thru] at hR
          subst hR
          exact fin2 (H1 := [imm I]) (fun w hs => sat_to [0] 0 rfl hs) rfl (rr_tmp rfl) (rr_tmp rfl) (.inl ⟨rfl, rfl, rfl⟩)
        · refine cw_cond_f rfl rfl h26 ?_
          refine cw_skip ?_
          have hR := Option.some.inj hF
          exact fun a w hf hs => ⟨hR, hf.keep [0, 1], sat_to [0] 0 rfl hs⟩
  · rintro a w ⟨hv, hf, hs⟩
    subst hv
    replace hF := hK21
    clear hK21
    try dsimp only [Thru] at hF
    revert a w
    show CW _ _ _ 21 [(0, .pointer none), (1, .int .i64 x1)] (SAT w0 ([imm I] ++ F0))
    unfold F.guard_New_1.r1 at hF
    refine cw_seq ?_
    refine cw_region ?_
    refine ow_vals 3 (j := 3) [19] [(19, .agg #[.pointer none, .int .i64 x1, .int .i64 0])] rfl (by kernel_rfl) ?_
    refine ow_pw rfl (pw_box (cs := #[.pointer none, .int .i64 x1, .int .i64 0]) rfl rfl rfl rfl rfl rfl fun b27 => nw_ow ?_)
    refine ow_vals 2 (j := 6) [4, 5] [(4, .pointer (some ⟨b27, 0, none⟩)), (5, .int .i64 0)] rfl (by kernel_rfl) ?_
    refine ow_end rfl ?_
    refine ew_then ?_
    refine cw_ret ?_
    have hR := Option.some.inj hF
    subst hR
    exact fin2 (H1 := [imm I, pt b27 #[.pointer none, .int .i64 (⟨x1, 0⟩ : guard_Guard).boot_, .int .i64 (⟨x1, 0⟩ : guard_Guard).n_] 64]) (fun w hs => sat_to [1, 0] 0 rfl hs) rfl (rr_tmp rfl) (rr_tmp rfl) (.inr ⟨(⟨x1, 0⟩ : guard_Guard), b27, rfl, rfl, rfl⟩)


def F.guard_Guard_none_2 (m0 : guard_Guard) : Option Unit :=
  some (())
set_option maxRecDepth 100000 in
set_option maxHeartbeats 4000000 in
theorem c_guard_Guard_none_2 (I : Hl) (m0 : guard_Guard) (b0 : Nat) (res : Unit) (hF : F.guard_Guard_none_2 m0 = some res) : Tr Tryd.prog 39 [.pointer (some ⟨b0, 0, none⟩)] [imm I, pt b0 #[.pointer none, .int .i64 m0.boot_, .int .i64 m0.n_] 64] (fun r H' => r = .bool true ∧ H' = [imm I, pt b0 #[.pointer none, .int .i64 m0.boot_, .int .i64 m0.n_] 64]) := by
  unfold F.guard_Guard_none_2 at hF
  refine tr_of_cw (fn := Tryd.f39) Tryd.func39 rfl (Nat.le_of_ble_eq_true rfl) 12 rfl fun F0 w0 => ?_
  refine cw_keep [0] (L' := [(0, .pointer (some ⟨b0, 0, none⟩))]) rfl ?_
  refine cw_state (S' := SAT w0 ([imm I, pt b0 #[.pointer none, .int .i64 m0.boot_, .int .i64 m0.n_] 64] ++ F0)) (fun w hs => hs) ?_
  refine cw_seq ?_
  refine cw_region ?_
  refine ow_vals 1 (j := 1) [0] [(0, .pointer (some ⟨b0, 0, none⟩))] rfl (by kernel_rfl) ?_
  refine ow_end rfl ?_
  refine ew_then ?_
  refine cw_seq ?_
  refine cw_region ?_
  refine ow_vals 6 (j := 6) [5, 8] [(5, .bool false), (8, .pointer (some ⟨b0, 0, none⟩))] rfl (by kernel_rfl) ?_
  refine ow_pw rfl (pw_quiet (v := .pointer none) rfl rfl rfl rfl (q_load 1 rfl rfl rfl (by kernel_rfl)) (nw_ow ?_))
  refine ow_vals 3 (j := 10) [2] [(2, .bool true)] rfl (by kernel_rfl) ?_
  refine ow_end rfl ?_
  refine ew_then ?_
  refine cw_ret ?_
  have hR := Option.some.inj hF
  subst hR
  exact fin1 (H1 := [imm I, pt b0 #[.pointer none, .int .i64 m0.boot_, .int .i64 m0.n_] 64]) (fun w hs => sat_to [0, 0] 0 rfl hs) rfl (rr_tmp rfl) ⟨rfl, rfl⟩


def F.guard_Guard_Disk_2 (m0 : guard_Guard) : Option Unit :=
  Option.bind (F.guard_Guard_none_2 m0) (fun (r21 : Unit) => some (()))
set_option maxRecDepth 100000 in
set_option maxHeartbeats 4000000 in
theorem c_guard_Guard_Disk_2 (I : Hl) (m0 : guard_Guard) (b0 : Nat) (res : Unit) (hF : F.guard_Guard_Disk_2 m0 = some res) : Tr Tryd.prog 26 [.pointer (some ⟨b0, 0, none⟩)] [imm I, pt b0 #[.pointer none, .int .i64 m0.boot_, .int .i64 m0.n_] 64] (fun r H' => r = .pointer none ∧ H' = [imm I, pt b0 #[.pointer none, .int .i64 m0.boot_, .int .i64 m0.n_] 64]) := by
  unfold F.guard_Guard_Disk_2 at hF
  refine tr_of_cw (fn := Tryd.f26) Tryd.func26 rfl (Nat.le_of_ble_eq_true rfl) 9 rfl fun F0 w0 => ?_
  refine cw_keep [0] (L' := [(0, .pointer (some ⟨b0, 0, none⟩))]) rfl ?_
  refine cw_state (S' := SAT w0 ([imm I, pt b0 #[.pointer none, .int .i64 m0.boot_, .int .i64 m0.n_] 64] ++ F0)) (fun w hs => hs) ?_
  refine cw_seq ?_
  refine cw_region ?_
  refine ow_vals 1 (j := 1) [0] [(0, .pointer (some ⟨b0, 0, none⟩))] rfl (by kernel_rfl) ?_
  refine ow_end rfl ?_
  refine ew_then ?_
  refine cw_seq ?_
  refine cw_seq ?_
  refine cw_region ?_
  refine ow_vals 1 (j := 1) [0, 3] [(0, .pointer (some ⟨b0, 0, none⟩)), (3, .pointer (some ⟨b0, 0, none⟩))] rfl (by kernel_rfl) ?_
  obtain ⟨r21, h22, hF⟩ := bind_some hF
  refine ow_pw rfl (pw_call (F := [] ++ F0) rfl rfl rfl rfl rfl rfl rfl (by kernel_rfl) (perm_of_pulls [0, 0] rfl) (c_guard_Guard_none_2 _ m0 b0 r21 h22) ?_)
  rintro _ _ ⟨rfl, rfl⟩
  refine nw_H (H' := [imm I, pt b0 #[.pointer none, .int .i64 m0.boot_, .int .i64 m0.n_] 64] ++ F0) rfl (nw_ow ?_)
  refine ow_end rfl ?_
  refine ew_then ?_
  refine cw_cond_t rfl rfl rfl ?_
  refine cw_seq ?_
  refine cw_region ?_
  refine ow_vals 1 (j := 1) [2] [(2, .pointer none)] rfl (by kernel_rfl) ?_
  refine ow_end rfl ?_
  refine ew_then ?_
  refine cw_ret ?_
  refine ew_then_ret ?_
  have hR := Option.some.inj hF
  subst hR
  exact fin1 (H1 := [imm I, pt b0 #[.pointer none, .int .i64 m0.boot_, .int .i64 m0.n_] 64]) (fun w hs => sat_to [0, 0] 0 rfl hs) rfl (rr_tmp rfl) ⟨rfl, rfl⟩


def F.keyring_New_2.r1 : Option (Int) :=
  some (1)
def F.keyring_New_2 (x1 : Int) (x2 : Int) (m0 : guard_Guard) : Option Int :=
  Option.bind (Option.bind (F.guard_Guard_Disk_2 m0) (fun (r23 : Unit) => some (()))) (fun x => F.keyring_New_2.r1)
set_option maxRecDepth 100000 in
set_option maxHeartbeats 4000000 in
theorem c_keyring_New_2 (I : Hl) (x1 : Int) (x2 : Int) (m0 : guard_Guard) (b0 : Nat) (res : Int) (hF : F.keyring_New_2 x1 x2 m0 = some res) : Tr Tryd.prog 9 [.pointer (some ⟨b0, 0, none⟩), .int .i64 x1, .int .i64 x2] [imm I, pt b0 #[.pointer none, .int .i64 m0.boot_, .int .i64 m0.n_] 64] (fun r H' => r = .tuple #[.pointer none, .int .i64 res] ∧ H' = [imm I, pt b0 #[.pointer none, .int .i64 m0.boot_, .int .i64 m0.n_] 64]) := by
  unfold F.keyring_New_2 at hF
  refine tr_of_cw (fn := Tryd.f9) Tryd.func9 rfl (Nat.le_of_ble_eq_true rfl) 44 rfl fun F0 w0 => ?_
  refine cw_keep [0, 1, 2] (L' := [(0, .pointer (some ⟨b0, 0, none⟩)), (1, .int .i64 x1), (2, .int .i64 x2)]) rfl ?_
  refine cw_state (S' := SAT w0 ([imm I, pt b0 #[.pointer none, .int .i64 m0.boot_, .int .i64 m0.n_] 64] ++ F0)) (fun w hs => hs) ?_
  refine cw_seq ?_
  refine cw_region ?_
  refine ow_vals 2 (j := 2) [0, 1, 2] [(0, .pointer (some ⟨b0, 0, none⟩)), (1, .int .i64 x1), (2, .int .i64 x2)] rfl (by kernel_rfl) ?_
  refine ow_end rfl ?_
  refine ew_then ?_
  refine cw_seq ?_
  refine cw_block ?_
  obtain ⟨v22, hF, hK22⟩ := bind_some hF
  refine cw_mid (fun a w => () = v22 ∧ Fr 44 [(0, .pointer (some ⟨b0, 0, none⟩)), (1, .int .i64 x1), (2, .int .i64 x2), (8, .bool true)] a ∧ SAT w0 ([imm I, pt b0 #[.pointer none, .int .i64 m0.boot_, .int .i64 m0.n_] 64] ++ F0) w) ?_ ?_
  · refine cw_region ?_
    refine ow_vals 1 (j := 1) [0, 1, 2, 9] [(0, .pointer (some ⟨b0, 0, none⟩)), (1, .int .i64 x1), (2, .int .i64 x2), (9, .pointer (some ⟨b0, 0, none⟩))] rfl (by kernel_rfl) ?_
    obtain ⟨r23, h24, hF⟩ := bind_some hF
    refine ow_pw rfl (pw_call (F := [] ++ F0) rfl rfl rfl rfl rfl rfl rfl (by kernel_rfl) (perm_of_pulls [0, 0] rfl) (c_guard_Guard_Disk_2 _ m0 b0 r23 h24) ?_)
    rintro _ _ ⟨rfl, rfl⟩
    refine nw_H (H' := [imm I, pt b0 #[.pointer none, .int .i64 m0.boot_, .int .i64 m0.n_] 64] ++ F0) rfl (nw_ow ?_)
    refine ow_vals 14 (j := 16) [0, 1, 2, 8] [(0, .pointer (some ⟨b0, 0, none⟩)), (1, .int .i64 x1), (2, .int .i64 x2), (8, .bool true)] rfl (by kernel_rfl) ?_
    refine ow_end rfl ?_
    have hR := Option.some.inj hF
    exact fun a w hf hs => ⟨hR, hf.keep [0, 1, 2, 8], sat_to [0, 0] 0 rfl hs⟩
  · rintro a w ⟨hv, hf, hs⟩
    subst hv
    replace hF := hK22
    clear hK22
    try dsimp only at hF
    revert a w
    show CW _ _ _ 44 [(0, .pointer (some ⟨b0, 0, none⟩)), (1, .int .i64 x1), (2, .int .i64 x2), (8, .bool true)] (SAT w0 ([imm I, pt b0 #[.pointer none, .int .i64 m0.boot_, .int .i64 m0.n_] 64] ++ F0))
    unfold F.keyring_New_2.r1 at hF
    refine cw_cond_t rfl rfl rfl ?_
    refine cw_seq ?_
    refine cw_region ?_
    refine ow_vals 2 (j := 2) [6, 7] [(6, .pointer none), (7, .int .i64 1)] rfl (by kernel_rfl) ?_
    refine ow_end rfl ?_
    refine ew_then ?_
    refine cw_ret ?_
    refine ew_blk_ret ?_
    refine ew_then_ret ?_
    have hR := Option.some.inj hF
    subst hR
    exact fin2 (H1 := [imm I, pt b0 #[.pointer none, .int .i64 m0.boot_, .int .i64 m0.n_] 64]) (fun w hs => sat_to [0, 0] 0 rfl hs) rfl (rr_tmp rfl) (rr_tmp rfl) ⟨rfl, rfl⟩


def F.keyring_Ring_Slots (m0 : keyring_Ring) (m1 : guard_Guard) (m2 : disk_Disk) : Option Int :=
  some (m0.slots_)
set_option maxRecDepth 100000 in
set_option maxHeartbeats 4000000 in
theorem c_keyring_Ring_Slots (I : Hl) (m0 : keyring_Ring) (m1 : guard_Guard) (m2 : disk_Disk) (b0 : Nat) (b1 : Nat) (p0 : Option Addr) (c0 : Nat) (p1 : Nat) (b2 : Nat) (res : Int) (hF : F.keyring_Ring_Slots m0 m1 m2 = some res) : Tr Tryd.prog 10 [.pointer (some ⟨b0, 0, none⟩)] [imm I, pt b0 #[.pointer (some ⟨b1, 0, none⟩), .int .i64 m0.base_, .int .i64 m0.slots_, .int .i64 m0.shred_] 51, pt b1 #[.pointer (some ⟨b2, 0, none⟩), .int .i64 m1.boot_, .int .i64 m1.n_] 64, pt b2 #[.slice p0 m2.sure_.length c0, .map (some p1), .bool m2.off_, .bool m2.armed_, .int .i64 m2.left_, .int .u64 m2.fall_.Keep, .int .i64 m2.fall_.Tear, .int .i64 m2.acts_, .int .i64 m2.falls_] 60, own e_disk_sector 62 p0 c0 m2.sure_, mpo (kInt .i64) (fun x : disk_sector => Value.agg #[.string x.s_, .int .i64 x.at_]) p1 m2.wait_] (fun r H' => r = .int .i64 res ∧ H' = [imm I, pt b0 #[.pointer (some ⟨b1, 0, none⟩), .int .i64 m0.base_, .int .i64 m0.slots_, .int .i64 m0.shred_] 51, pt b1 #[.pointer (some ⟨b2, 0, none⟩), .int .i64 m1.boot_, .int .i64 m1.n_] 64, pt b2 #[.slice p0 m2.sure_.length c0, .map (some p1), .bool m2.off_, .bool m2.armed_, .int .i64 m2.left_, .int .u64 m2.fall_.Keep, .int .i64 m2.fall_.Tear, .int .i64 m2.acts_, .int .i64 m2.falls_] 60, own e_disk_sector 62 p0 c0 m2.sure_, mpo (kInt .i64) (fun x : disk_sector => Value.agg #[.string x.s_, .int .i64 x.at_]) p1 m2.wait_]) := by
  unfold F.keyring_Ring_Slots at hF
  refine tr_of_cw (fn := Tryd.f10) Tryd.func10 rfl (Nat.le_of_ble_eq_true rfl) 9 rfl fun F0 w0 => ?_
  refine cw_keep [0] (L' := [(0, .pointer (some ⟨b0, 0, none⟩))]) rfl ?_
  refine cw_state (S' := SAT w0 ([imm I, pt b0 #[.pointer (some ⟨b1, 0, none⟩), .int .i64 m0.base_, .int .i64 m0.slots_, .int .i64 m0.shred_] 51, pt b1 #[.pointer (some ⟨b2, 0, none⟩), .int .i64 m1.boot_, .int .i64 m1.n_] 64, pt b2 #[.slice p0 m2.sure_.length c0, .map (some p1), .bool m2.off_, .bool m2.armed_, .int .i64 m2.left_, .int .u64 m2.fall_.Keep, .int .i64 m2.fall_.Tear, .int .i64 m2.acts_, .int .i64 m2.falls_] 60, own e_disk_sector 62 p0 c0 m2.sure_, mpo (kInt .i64) (fun x : disk_sector => Value.agg #[.string x.s_, .int .i64 x.at_]) p1 m2.wait_] ++ F0)) (fun w hs => hs) ?_
  refine cw_seq ?_
  refine cw_region ?_
  refine ow_vals 1 (j := 1) [0] [(0, .pointer (some ⟨b0, 0, none⟩))] rfl (by kernel_rfl) ?_
  refine ow_end rfl ?_
  refine ew_then ?_
  refine cw_seq ?_
  refine cw_seq ?_
  refine cw_region ?_
  refine ow_vals 2 (j := 2) [0, 4] [(0, .pointer (some ⟨b0, 0, none⟩)), (4, .bool false)] rfl (by kernel_rfl) ?_
  refine ow_end rfl ?_
  refine ew_then ?_
  refine cw_cond_f rfl rfl rfl ?_
  refine cw_skip ?_
  refine ew_then ?_
  refine cw_seq ?_
  refine cw_region ?_
  refine ow_vals 3 (j := 3) [7] [(7, .pointer (some ⟨b0, 2, none⟩))] rfl (by kernel_rfl) ?_
  refine ow_pw rfl (pw_quiet (v := .int .i64 m0.slots_) rfl rfl rfl rfl (q_load 1 rfl rfl rfl (by kernel_rfl)) (nw_ow ?_))
  refine ow_vals 1 (j := 5) [2] [(2, .int .i64 m0.slots_)] rfl (by kernel_rfl) ?_
  refine ow_end rfl ?_
  refine ew_then ?_
  refine cw_ret ?_
  have hR := Option.some.inj hF
  subst hR
  exact fin1 (H1 := [imm I, pt b0 #[.pointer (some ⟨b1, 0, none⟩), .int .i64 m0.base_, .int .i64 m0.slots_, .int .i64 m0.shred_] 51, pt b1 #[.pointer (some ⟨b2, 0, none⟩), .int .i64 m1.boot_, .int .i64 m1.n_] 64, pt b2 #[.slice p0 m2.sure_.length c0, .map (some p1), .bool m2.off_, .bool m2.armed_, .int .i64 m2.left_, .int .u64 m2.fall_.Keep, .int .i64 m2.fall_.Tear, .int .i64 m2.acts_, .int .i64 m2.falls_] 60, own e_disk_sector 62 p0 c0 m2.sure_, mpo (kInt .i64) (fun x : disk_sector => Value.agg #[.string x.s_, .int .i64 x.at_]) p1 m2.wait_]) (fun w hs => sat_to [0, 0, 0, 0, 0, 0] 0 rfl hs) rfl (rr_tmp rfl) ⟨rfl, rfl⟩


def F.law13_KeyringNews.r3 (r39 : Int) (x48 : Bool) : Option ((Unit) ⊕ (Bool)) :=
  if x48 then (if r39 == 1 then (Option.bind (F.law13_awake) (fun (r51 : Bool) => some (.inr (r51)))) else (some (.inr (false)))) else (some (.inl ()))
def F.law13_KeyringNews.r5 (r39 : Int) (x56 : Bool) : Option ((Unit) ⊕ (Bool)) :=
  if x56 then (if r39 == 5 then (Option.bind (F.law13_awake) (fun (r59 : Bool) => some (.inr (r59)))) else (some (.inr (false)))) else (some (.inl ()))
def F.law13_KeyringNews.r6 : Option (Bool) :=
  some (false)
def F.law13_KeyringNews.r4 (x0 : Int) (x1 : Int) (x2 : Int) (r39 : Int) : Option (Bool) :=
  thru (Option.bind (if decide (x1 > x0) then (some (true)) else (some ((decide (x2 > (IntKind.i64.wrap (x0 - x1))))))) (fun x => F.law13_KeyringNews.r5 r39 x)) (fun x => F.law13_KeyringNews.r6)
def F.law13_KeyringNews.r2 (x0 : Int) (x1 : Int) (x2 : Int) : Option (Bool) :=
  Option.bind (F.keyring_New x1 x2) (fun (r39 : Int) => Option.bind (F.keyring_New x1 x2) (fun (r41 : Int) => if r41 != 1 then (some (false)) else (thru (Option.bind (if decide (x1 < 0) then (some (true)) else (if decide (x2 < 1) then (some (true)) else (some ((decide (x2 > 64)))))) (fun x => F.law13_KeyringNews.r3 r39 x)) (fun x => F.law13_KeyringNews.r4 x0 x1 x2 r39))))
def F.law13_KeyringNews.r8 (r64 : Int) (x73 : Bool) : Option ((Unit) ⊕ (Bool)) :=
  if x73 then (if r64 == 1 then (Option.bind (F.law13_awake) (fun (r76 : Bool) => some (.inr (r76)))) else (some (.inr (false)))) else (some (.inl ()))
def F.law13_KeyringNews.r10 (r64 : Int) (x81 : Bool) : Option ((Unit) ⊕ (Bool)) :=
  if x81 then (if r64 == 5 then (Option.bind (F.law13_awake) (fun (r84 : Bool) => some (.inr (r84)))) else (some (.inr (false)))) else (some (.inl ()))
def F.law13_KeyringNews.r11 : Option (Bool) :=
  some (false)
def F.law13_KeyringNews.r9 (x0 : Int) (x1 : Int) (x2 : Int) (r64 : Int) : Option (Bool) :=
  thru (Option.bind (if decide (x1 > x0) then (some (true)) else (some ((decide (x2 > (IntKind.i64.wrap (x0 - x1))))))) (fun x => F.law13_KeyringNews.r10 r64 x)) (fun x => F.law13_KeyringNews.r11)
def F.law13_KeyringNews.r7 (x0 : Int) (x1 : Int) (x2 : Int) (r33_s1 : guard_Guard) : Option (Bool) :=
  Option.bind (F.keyring_New_2 x1 x2 r33_s1) (fun (r64 : Int) => Option.bind (F.keyring_New x1 x2) (fun (r66 : Int) => if r66 != 1 then (some (false)) else (thru (Option.bind (if decide (x1 < 0) then (some (true)) else (if decide (x2 < 1) then (some (true)) else (some ((decide (x2 > 64)))))) (fun x => F.law13_KeyringNews.r8 r64 x)) (fun x => F.law13_KeyringNews.r9 x0 x1 x2 r64))))
def F.law13_KeyringNews.r13 (r92 : Int) (x101 : Bool) : Option ((Unit) ⊕ (Bool)) :=
  if x101 then (if r92 == 1 then (Option.bind (F.law13_awake) (fun (r104 : Bool) => some (.inr (r104)))) else (some (.inr (false)))) else (some (.inl ()))
def F.law13_KeyringNews.r15 (r92 : Int) (x109 : Bool) : Option ((Unit) ⊕ (Bool)) :=
  if x109 then (if r92 == 5 then (Option.bind (F.law13_awake) (fun (r112 : Bool) => some (.inr (r112)))) else (some (.inr (false)))) else (some (.inl ()))
def F.law13_KeyringNews.r16 : Option (Bool) :=
  some (false)
def F.law13_KeyringNews.r14 (x0 : Int) (x1 : Int) (x2 : Int) (r92 : Int) : Option (Bool) :=
  thru (Option.bind (if decide (x1 > x0) then (some (true)) else (some ((decide (x2 > (IntKind.i64.wrap (x0 - x1))))))) (fun x => F.law13_KeyringNews.r15 r92 x)) (fun x => F.law13_KeyringNews.r16)
def F.law13_KeyringNews.r12 (x0 : Int) (x1 : Int) (x2 : Int) : Option (Bool) :=
  Option.bind (F.keyring_New x1 x2) (fun (r92 : Int) => Option.bind (F.keyring_New x1 x2) (fun (r94 : Int) => if r94 != 1 then (some (false)) else (thru (Option.bind (if decide (x1 < 0) then (some (true)) else (if decide (x2 < 1) then (some (true)) else (some ((decide (x2 > 64)))))) (fun x => F.law13_KeyringNews.r13 r92 x)) (fun x => F.law13_KeyringNews.r14 x0 x1 x2 r92))))
def F.law13_KeyringNews.r18 (r117 : (Option keyring_Ring) × Int) (x127 : Bool) : Option ((Unit) ⊕ (Bool)) :=
  if x127 then (if r117.2 == 1 then (Option.bind (F.law13_awake) (fun (r130 : Bool) => some (.inr (r130)))) else (some (.inr (false)))) else (some (.inl ()))
def F.law13_KeyringNews.r20 (r117 : (Option keyring_Ring) × Int) (x135 : Bool) : Option ((Unit) ⊕ (Bool)) :=
  if x135 then (if r117.2 == 5 then (Option.bind (F.law13_awake) (fun (r138 : Bool) => some (.inr (r138)))) else (some (.inr (false)))) else (some (.inl ()))
def F.law13_KeyringNews.r21 : Option (Bool) :=
  some (false)
def F.law13_KeyringNews.r19 (x0 : Int) (x1 : Int) (x2 : Int) (r117 : (Option keyring_Ring) × Int) : Option (Bool) :=
  thru (Option.bind (if decide (x1 > x0) then (some (true)) else (some ((decide (x2 > (IntKind.i64.wrap (x0 - x1))))))) (fun x => F.law13_KeyringNews.r20 r117 x)) (fun x => F.law13_KeyringNews.r21)
def F.law13_KeyringNews.r22 (x147 : Bool) : Option ((Unit) ⊕ (Bool)) :=
  if x147 then (some (.inr (false))) else (some (.inl ()))
def F.law13_KeyringNews.r24 (x152 : Bool) : Option ((Unit) ⊕ (Bool)) :=
  if x152 then (some (.inr (false))) else (some (.inl ()))
def F.law13_KeyringNews.r25 (x2 : Int) (r28_s1 : disk_Disk) (r86_s1 : guard_Guard) (r117 : (Option keyring_Ring) × Int) (r117_s1 : keyring_Ring) : Option (Bool) :=
  if r117.2 == 0 then (Option.bind (F.keyring_Ring_Slots r117_s1 r86_s1 r28_s1) (fun (r155 : Int) => if r155 == x2 then (Option.bind (F.keyring_Ring_Free (IntKind.i64.wrap (x2 - 1)) r117_s1 r86_s1 r28_s1) (fun (r158 : Bool) => if r158 then (Option.bind (F.keyring_Ring_Free x2 r117_s1 r86_s1 r28_s1) (fun (r161 : Bool) => if !r161 then (Option.bind (F.keyring_Ring_Free (-1) r117_s1 r86_s1 r28_s1) (fun (r164 : Bool) => if !r164 then (Option.bind (F.disk_Disk_Waiting r28_s1) (fun (r167 : (List Int)) => if (r167.length : Int) == 0 then (Option.bind (F.law13_awake) (fun (r171 : Bool) => some (r171))) else (some (false)))) else (some (false)))) else (some (false)))) else (some (false)))) else (some (false)))) else (some (false))
def F.law13_KeyringNews.r23 (x0 : Int) (x1 : Int) (x2 : Int) (r28_s1 : disk_Disk) (r86_s1 : guard_Guard) (r117 : (Option keyring_Ring) × Int) (r117_s1 : keyring_Ring) : Option (Bool) :=
  thru (Option.bind (if decide (x1 > x0) then (some (true)) else (some ((decide (x2 > (IntKind.i64.wrap (x0 - x1))))))) (fun x => F.law13_KeyringNews.r24 x)) (fun x => F.law13_KeyringNews.r25 x2 r28_s1 r86_s1 r117 r117_s1)
def F.law13_KeyringNews.r17 (x0 : Int) (x1 : Int) (x2 : Int) (r28_s1 : disk_Disk) (r86_s1 : guard_Guard) : Option (Bool) :=
  Option.bind (F.keyring_New_1 x1 x2 r86_s1 r28_s1) (fun (r117 : (Option keyring_Ring) × Int) => optC r117.1 (Option.bind (F.keyring_New x1 x2) (fun (r120 : Int) => if r120 != 1 then (some (false)) else (thru (Option.bind (if decide (x1 < 0) then (some (true)) else (if decide (x2 < 1) then (some (true)) else (some ((decide (x2 > 64)))))) (fun x => F.law13_KeyringNews.r18 r117 x)) (fun x => F.law13_KeyringNews.r19 x0 x1 x2 r117)))) (fun (r117_s1 : keyring_Ring) => Option.bind (F.keyring_New x1 x2) (fun (r140 : Int) => if r140 != 1 then (some (false)) else (thru (Option.bind (if decide (x1 < 0) then (some (true)) else (if decide (x2 < 1) then (some (true)) else (some ((decide (x2 > 64)))))) (fun x => F.law13_KeyringNews.r22 x)) (fun x => F.law13_KeyringNews.r23 x0 x1 x2 r28_s1 r86_s1 r117 r117_s1)))))
def F.law13_KeyringNews.r1 (x0 : Int) (x1 : Int) (x2 : Int) : Option (Bool) :=
  Option.bind (F.disk_New x0) (fun (r28 : (Option disk_Disk) × Int) => optC r28.1 (Option.bind (F.guard_New_1 1) (fun (r33 : (Option guard_Guard) × Int) => optC r33.1 (thru (if r28.2 != 0 then (some (.inr (false))) else (if r33.2 != 0 then (some (.inr (false))) else (some (.inl ())))) (fun x => F.law13_KeyringNews.r2 x0 x1 x2)) (fun (r33_s1 : guard_Guard) => thru (if r28.2 != 0 then (some (.inr (false))) else (if r33.2 != 0 then (some (.inr (false))) else (some (.inl ())))) (fun x => F.law13_KeyringNews.r7 x0 x1 x2 r33_s1)))) (fun (r28_s1 : disk_Disk) => Option.bind (F.guard_New 1 r28_s1) (fun (r86 : (Option guard_Guard) × Int) => optC r86.1 (thru (if r28.2 != 0 then (some (.inr (false))) else (if r86.2 != 0 then (some (.inr (false))) else (some (.inl ())))) (fun x => F.law13_KeyringNews.r12 x0 x1 x2)) (fun (r86_s1 : guard_Guard) => thru (if r28.2 != 0 then (some (.inr (false))) else (if r86.2 != 0 then (some (.inr (false))) else (some (.inl ())))) (fun x => F.law13_KeyringNews.r17 x0 x1 x2 r28_s1 r86_s1)))))
def F.law13_KeyringNews (x0 : Int) (x1 : Int) (x2 : Int) : Option Bool :=
  thru (if decide (x0 < 1) then (Option.bind (F.law13_awake) (fun (r23 : Bool) => some (.inr (r23)))) else (if decide (x0 > 100) then (Option.bind (F.law13_awake) (fun (r26 : Bool) => some (.inr (r26)))) else (some (.inl ())))) (fun x => F.law13_KeyringNews.r1 x0 x1 x2)
set_option maxRecDepth 100000 in
set_option maxHeartbeats 4000000 in
theorem c_law13_KeyringNews (I : Hl) (x0 : Int) (x1 : Int) (x2 : Int) (res : Bool) (hF : F.law13_KeyringNews x0 x1 x2 = some res) : Tr Tryd.prog 3 [.int .i64 x0, .int .i64 x1, .int .i64 x2] [imm I] (fun r H' => r = .bool res ∧ H' = [imm I]) := by
  unfold F.law13_KeyringNews at hF
  refine tr_of_cw (fn := Tryd.f3) Tryd.func3 rfl (Nat.le_of_ble_eq_true rfl) 129 rfl fun F0 w0 => ?_
  refine cw_keep [0, 1, 2] (L' := [(0, .int .i64 x0), (1, .int .i64 x1), (2, .int .i64 x2)]) rfl ?_
  refine cw_state (S' := SAT w0 ([imm I] ++ F0)) (fun w hs => hs) ?_
  refine cw_seq ?_
  refine cw_region ?_
  refine ow_vals 1 (j := 1) [0, 1, 2] [(0, .int .i64 x0), (1, .int .i64 x1), (2, .int .i64 x2)] rfl (by kernel_rfl) ?_
  refine ow_end rfl ?_
  refine ew_then ?_
  obtain ⟨v21, hF, hK21⟩ := thru_some hF
  refine cw_mid (fun a w => .inl () = v21 ∧ Fr 129 [(0, .int .i64 x0), (1, .int .i64 x1), (2, .int .i64 x2)] a ∧ SAT w0 ([imm I] ++ F0) w) ?_ ?_
  · refine cw_seq ?_
    refine cw_region ?_
    refine ow_vals 3 (j := 3) [0, 1, 2, 17] [(0, .int .i64 x0), (1, .int .i64 x1), (2, .int .i64 x2), (17, .bool (decide (x0 < 1)))] rfl (by kernel_rfl) ?_
    rcases if_some hF with ⟨h22, hF⟩ | ⟨h22, hF⟩
    · refine ow_slots (L' := [(0, .int .i64 x0), (1, .int .i64 x1), (2, .int .i64 x2), (17, .bool true)]) (by rw [h22]) ?_
      refine ow_vals 3 (j := 6) [0, 1, 2, 20] [(0, .int .i64 x0), (1, .int .i64 x1), (2, .int .i64 x2), (20, .bool true)] rfl (by kernel_rfl) ?_
      refine ow_end rfl ?_
      refine ew_then ?_
      refine cw_cond_t rfl rfl rfl ?_
      refine cw_seq ?_
      refine cw_region ?_
      obtain ⟨r23, h24, hF⟩ := bind_some hF
      refine ow_pw rfl (pw_call (F := [] ++ F0) rfl rfl rfl rfl rfl rfl rfl (by kernel_rfl) (perm_of_pulls [0] rfl) (c_law13_awake _ r23 h24) ?_)
      rintro _ _ ⟨rfl, rfl⟩
      refine nw_H (H' := [imm I] ++ F0) rfl (nw_ow ?_)
      refine ow_vals 1 (j := 2) [6] [(6, .bool r23)] rfl (by kernel_rfl) ?_
      refine ow_end rfl ?_
      refine ew_then ?_
      refine cw_ret ?_
      refine ew_then_ret ?_
      have hR := Option.some.inj hF
      subst hR
      have hR := hK21
      try dsimp only [Thru] at hR
      subst hR
      exact fin1 (H1 := [imm I]) (fun w hs => sat_to [0] 0 rfl hs) rfl (rr_tmp rfl) ⟨rfl, rfl⟩
    · refine ow_slots (L' := [(0, .int .i64 x0), (1, .int .i64 x1), (2, .int .i64 x2), (17, .bool false)]) (by rw [h22]) ?_
      refine ow_vals 3 (j := 6) [0, 1, 2, 20] [(0, .int .i64 x0), (1, .int .i64 x1), (2, .int .i64 x2), (20, .bool (decide (x0 > 100)))] rfl (by kernel_rfl) ?_
      refine ow_end rfl ?_
      refine ew_then ?_
      rcases if_some hF with ⟨h25, hF⟩ | ⟨h25, hF⟩
      · refine cw_cond_t rfl rfl h25 ?_
        refine cw_seq ?_
        refine cw_region ?_
        obtain ⟨r26, h27, hF⟩ := bind_some hF
        refine ow_pw rfl (pw_call (F := [] ++ F0) rfl rfl rfl rfl rfl rfl rfl (by kernel_rfl) (perm_of_pulls [0] rfl) (c_law13_awake _ r26 h27) ?_)
        rintro _ _ ⟨rfl, rfl⟩
        refine nw_H (H' := [imm I] ++ F0) rfl (nw_ow ?_)
        refine ow_vals 1 (j := 2) [6] [(6, .bool r26)] rfl (by kernel_rfl) ?_
        refine ow_end rfl ?_
        refine ew_then ?_
        refine cw_ret ?_
        refine ew_then_ret ?_
        have hR := Option.some.inj hF
        subst hR
        have hR := hK21
        try dsimp only [Thru] at hR
        subst hR
        exact fin1 (H1 := [imm I]) (fun w hs => sat_to [0] 0 rfl hs) rfl (rr_tmp rfl) ⟨rfl, rfl⟩
      · refine cw_cond_f rfl rfl h25 ?_
        refine cw_skip ?_
        have hR := Option.some.inj hF
        exact fun a w hf hs => ⟨hR, hf.keep [0, 1, 2], sat_to [0] 0 rfl hs⟩
  · rintro a w ⟨hv, hf, hs⟩
    subst hv
    replace hF := hK21
    clear hK21
    try dsimp only [Thru] at hF
    revert a w
    show CW _ _ _ 129 [(0, .int .i64 x0), (1, .int .i64 x1), (2, .int .i64 x2)] (SAT w0 ([imm I] ++ F0))
    unfold F.law13_KeyringNews.r1 at hF
    refine cw_seq ?_
    refine cw_region ?_
    refine ow_vals 1 (j := 1) [0, 1, 2, 23] [(0, .int .i64 x0), (1, .int .i64 x1), (2, .int .i64 x2), (23, .int .i64 x0)] rfl (by kernel_rfl) ?_
    obtain ⟨r28, h29, hF⟩ := bind_some hF
    refine ow_pw rfl (pw_call (F := [] ++ F0) rfl rfl rfl rfl rfl rfl rfl (by kernel_rfl) (perm_of_pulls [0] rfl) (c_disk_New _ x0 r28 h29) ?_)
    rintro _ _ (⟨hO, rfl, rfl⟩ | ⟨r28_s1, r28_b2, r28_p4, r28_c5, r28_b7, hO, rfl, rfl⟩)
    · rw [hO] at hF
      try dsimp only [optC] at hF
      refine nw_H (H' := [imm I] ++ F0) rfl (nw_ow ?_)
      refine ow_vals 5 (j := 7) [0, 1, 2, 7, 8] [(0, .int .i64 x0), (1, .int .i64 x1), (2, .int .i64 x2), (7, .pointer none), (8, .int .i64 r28.2)] rfl (by kernel_rfl) ?_
      refine ow_end rfl ?_
      refine ew_then ?_
      refine cw_seq ?_
      refine cw_region ?_
      refine ow_vals 1 (j := 1) [0, 1, 2, 7, 8, 28] [(0, .int .i64 x0), (1, .int .i64 x1), (2, .int .i64 x2), (7, .pointer none), (8, .int .i64 r28.2), (28, .pointer none)] rfl (by kernel_rfl) ?_
      obtain ⟨r33, h34, hF⟩ := bind_some hF
      refine ow_pw rfl (pw_call (F := [] ++ F0) rfl rfl rfl rfl rfl rfl rfl (by kernel_rfl) (perm_of_pulls [0] rfl) (c_guard_New_1 _ 1 r33 h34) ?_)
      rintro _ _ (⟨hO, rfl, rfl⟩ | ⟨r33_s1, r33_b2, hO, rfl, rfl⟩)
      · rw [hO] at hF
        try dsimp only [optC] at hF
        refine nw_H (H' := [imm I] ++ F0) rfl (nw_ow ?_)
        refine ow_vals 5 (j := 7) [0, 1, 2, 7, 8, 9, 10] [(0, .int .i64 x0), (1, .int .i64 x1), (2, .int .i64 x2), (7, .pointer none), (8, .int .i64 r28.2), (9, .pointer none), (10, .int .i64 r33.2)] rfl (by kernel_rfl) ?_
        refine ow_end rfl ?_
        refine ew_then ?_
        obtain ⟨v36, hF, hK36⟩ := thru_some hF
        refine cw_mid (fun a w => .inl () = v36 ∧ Fr 129 [(0, .int .i64 x0), (1, .int .i64 x1), (2, .int .i64 x2), (7, .pointer none), (9, .pointer none)] a ∧ SAT w0 ([imm I] ++ F0) w) ?_ ?_
        · refine cw_seq ?_
          refine cw_region ?_
          refine ow_vals 3 (j := 3) [0, 1, 2, 7, 9, 10, 34] [(0, .int .i64 x0), (1, .int .i64 x1), (2, .int .i64 x2), (7, .pointer none), (9, .pointer none), (10, .int .i64 r33.2), (34, .bool (r28.2 != 0))] rfl (by kernel_rfl) ?_
          rcases if_some hF with ⟨h37, hF⟩ | ⟨h37, hF⟩
          · refine ow_slots (L' := [(0, .int .i64 x0), (1, .int .i64 x1), (2, .int .i64 x2), (7, .pointer none), (9, .pointer none), (10, .int .i64 r33.2), (34, .bool true)]) (by rw [h37]) ?_
            refine ow_vals 3 (j := 6) [0, 1, 2, 7, 9, 37] [(0, .int .i64 x0), (1, .int .i64 x1), (2, .int .i64 x2), (7, .pointer none), (9, .pointer none), (37, .bool true)] rfl (by kernel_rfl) ?_
            refine ow_end rfl ?_
            refine ew_then ?_
            refine cw_cond_t rfl rfl rfl ?_
            refine cw_seq ?_
            refine cw_region ?_
            refine ow_vals 1 (j := 1) [6] [(6, .bool false)] rfl (by kernel_rfl) ?_
            refine ow_end rfl ?_
            refine ew_then ?_
            refine cw_ret ?_
            refine ew_then_ret ?_
            have hR := Option.some.inj hF
            subst hR
            have hR := hK36
            try dsimp only [Thru] at hR
            subst hR
            exact fin1 (H1 := [imm I]) (fun w hs => sat_to [0] 0 rfl hs) rfl (rr_tmp rfl) ⟨rfl, rfl⟩
          · refine ow_slots (L' := [(0, .int .i64 x0), (1, .int .i64 x1), (2, .int .i64 x2), (7, .pointer none), (9, .pointer none), (10, .int .i64 r33.2), (34, .bool false)]) (by rw [h37]) ?_
            refine ow_vals 3 (j := 6) [0, 1, 2, 7, 9, 37] [(0, .int .i64 x0), (1, .int .i64 x1), (2, .int .i64 x2), (7, .pointer none), (9, .pointer none), (37, .bool (r33.2 != 0))] rfl (by kernel_rfl) ?_
            refine ow_end rfl ?_
            refine ew_then ?_
            rcases if_some hF with ⟨h38, hF⟩ | ⟨h38, hF⟩
            · refine cw_cond_t rfl rfl h38 ?_
              refine cw_seq ?_
              refine cw_region ?_
              refine ow_vals 1 (j := 1) [6] [(6, .bool false)] rfl (by kernel_rfl) ?_
              refine ow_end rfl ?_
              refine ew_then ?_
              refine cw_ret ?_
              refine ew_then_ret ?_
              have hR := Option.some.inj hF
              subst hR
              have hR := hK36
              try dsimp only [Thru] at hR
              subst hR
              exact fin1 (H1 := [imm I]) (fun w hs => sat_to [0] 0 rfl hs) rfl (rr_tmp rfl) ⟨rfl, rfl⟩
            · refine cw_cond_f rfl rfl h38 ?_
              refine cw_skip ?_
              have hR := Option.some.inj hF
              exact fun a w hf hs => ⟨hR, hf.keep [0, 1, 2, 7, 9], sat_to [0] 0 rfl hs⟩
        · rintro a w ⟨hv, hf, hs⟩
          subst hv
          replace hF := hK36
          clear hK36
          try dsimp only [Thru] at hF
          revert a w
          show CW _ _ _ 129 [(0, .int .i64 x0), (1, .int .i64 x1), (2, .int .i64 x2), (7, .pointer none), (9, .pointer none)] (SAT w0 ([imm I] ++ F0))
          unfold F.law13_KeyringNews.r2 at hF
          refine cw_seq ?_
          refine cw_region ?_
          refine ow_vals 3 (j := 3) [0, 1, 2, 7, 39, 40, 41] [(0, .int .i64 x0), (1, .int .i64 x1), (2, .int .i64 x2), (7, .pointer none), (39, .pointer none), (40, .int .i64 x1), (41, .int .i64 x2)] rfl (by kernel_rfl) ?_
          obtain ⟨r39, h40, hF⟩ := bind_some hF
          refine ow_pw rfl (pw_call (F := [] ++ F0) rfl rfl rfl rfl rfl rfl rfl (by kernel_rfl) (perm_of_pulls [0] rfl) (c_keyring_New _ x1 x2 r39 h40) ?_)
          rintro _ _ ⟨rfl, rfl⟩
          refine nw_H (H' := [imm I] ++ F0) rfl (nw_ow ?_)
          refine ow_vals 5 (j := 9) [0, 1, 2, 7, 11, 12] [(0, .int .i64 x0), (1, .int .i64 x1), (2, .int .i64 x2), (7, .pointer none), (11, .pointer none), (12, .int .i64 r39)] rfl (by kernel_rfl) ?_
          refine ow_end rfl ?_
          refine ew_then ?_
          refine cw_seq ?_
          refine cw_region ?_
          refine ow_vals 2 (j := 2) [0, 1, 2, 7, 11, 12, 46, 47] [(0, .int .i64 x0), (1, .int .i64 x1), (2, .int .i64 x2), (7, .pointer none), (11, .pointer none), (12, .int .i64 r39), (46, .int .i64 x1), (47, .int .i64 x2)] rfl (by kernel_rfl) ?_
          obtain ⟨r41, h42, hF⟩ := bind_some hF
          refine ow_pw rfl (pw_call (F := [] ++ F0) rfl rfl rfl rfl rfl rfl rfl (by kernel_rfl) (perm_of_pulls [0] rfl) (c_keyring_New _ x1 x2 r41 h42) ?_)
          rintro _ _ ⟨rfl, rfl⟩
          refine nw_H (H' := [imm I] ++ F0) rfl (nw_ow ?_)
          refine ow_vals 5 (j := 8) [0, 1, 2, 7, 11, 12, 14] [(0, .int .i64 x0), (1, .int .i64 x1), (2, .int .i64 x2), (7, .pointer none), (11, .pointer none), (12, .int .i64 r39), (14, .int .i64 r41)] rfl (by kernel_rfl) ?_
          refine ow_end rfl ?_
          refine ew_then ?_
          refine cw_seq ?_
          refine cw_seq ?_
          refine cw_region ?_
          refine ow_vals 2 (j := 2) [0, 1, 2, 7, 11, 12, 52] [(0, .int .i64 x0), (1, .int .i64 x1), (2, .int .i64 x2), (7, .pointer none), (11, .pointer none), (12, .int .i64 r39), (52, .bool (r41 != 1))] rfl (by kernel_rfl) ?_
          refine ow_end rfl ?_
          refine ew_then ?_
          rcases if_some hF with ⟨h43, hF⟩ | ⟨h43, hF⟩
          · refine cw_cond_t rfl rfl h43 ?_
            refine cw_seq ?_
            refine cw_region ?_
            refine ow_vals 1 (j := 1) [6] [(6, .bool false)] rfl (by kernel_rfl) ?_
            refine ow_end rfl ?_
            refine ew_then ?_
            refine cw_ret ?_
            refine ew_then_ret ?_
            have hR := Option.some.inj hF
            subst hR
            exact fin1 (H1 := [imm I]) (fun w hs => sat_to [0] 0 rfl hs) rfl (rr_tmp rfl) ⟨rfl, rfl⟩
          · refine cw_cond_f rfl rfl h43 ?_
            refine cw_skip ?_
            refine ew_then ?_
            obtain ⟨v44, hF, hK44⟩ := thru_some hF
            refine cw_mid (fun a w => .inl () = v44 ∧ Fr 129 [(0, .int .i64 x0), (1, .int .i64 x1), (2, .int .i64 x2), (7, .pointer none), (11, .pointer none), (12, .int .i64 r39)] a ∧ SAT w0 ([imm I] ++ F0) w) ?_ ?_
            · obtain ⟨v45, hF, hK45⟩ := bind_some hF
              refine cw_mid (fun a w => ∃ (x48 : Bool), x48 = v45 ∧ Fr 129 [(0, .int .i64 x0), (1, .int .i64 x1), (2, .int .i64 x2), (7, .pointer none), (11, .pointer none), (12, .int .i64 r39), (62, .bool x48)] a ∧ SAT w0 ([imm I] ++ F0) w) ?_ ?_
              · refine cw_region ?_
                refine ow_vals 3 (j := 3) [0, 1, 2, 7, 11, 12, 55] [(0, .int .i64 x0), (1, .int .i64 x1), (2, .int .i64 x2), (7, .pointer none), (11, .pointer none), (12, .int .i64 r39), (55, .bool (decide (x1 < 0)))] rfl (by kernel_rfl) ?_
                rcases if_some hF with ⟨h46, hF⟩ | ⟨h46, hF⟩
                · refine ow_slots (L' := [(0, .int .i64 x0), (1, .int .i64 x1), (2, .int .i64 x2), (7, .pointer none), (11, .pointer none), (12, .int .i64 r39), (55, .bool true)]) (by rw [h46]) ?_
                  refine ow_vals 7 (j := 10) [0, 1, 2, 7, 11, 12, 62] [(0, .int .i64 x0), (1, .int .i64 x1), (2, .int .i64 x2), (7, .pointer none), (11, .pointer none), (12, .int .i64 r39), (62, .bool true)] rfl (by kernel_rfl) ?_
                  refine ow_end rfl ?_
                  have hR := Option.some.inj hF
                  exact fun a w hf hs => ⟨true, hR, hf.keep [0, 1, 2, 7, 11, 12, 62], sat_to [0] 0 rfl hs⟩
                · refine ow_slots (L' := [(0, .int .i64 x0), (1, .int .i64 x1), (2, .int .i64 x2), (7, .pointer none), (11, .pointer none), (12, .int .i64 r39), (55, .bool false)]) (by rw [h46]) ?_
                  refine ow_vals 4 (j := 7) [0, 1, 2, 7, 11, 12, 59] [(0, .int .i64 x0), (1, .int .i64 x1), (2, .int .i64 x2), (7, .pointer none), (11, .pointer none), (12, .int .i64 r39), (59, .bool (decide (x2 < 1)))] rfl (by kernel_rfl) ?_
                  rcases if_some hF with ⟨h47, hF⟩ | ⟨h47, hF⟩
                  · refine ow_slots (L' := [(0, .int .i64 x0), (1, .int .i64 x1), (2, .int .i64 x2), (7, .pointer none), (11, .pointer none), (12, .int .i64 r39), (59, .bool true)]) (by rw [h47]) ?_
                    refine ow_vals 3 (j := 10) [0, 1, 2, 7, 11, 12, 62] [(0, .int .i64 x0), (1, .int .i64 x1), (2, .int .i64 x2), (7, .pointer none), (11, .pointer none), (12, .int .i64 r39), (62, .bool true)] rfl (by kernel_rfl) ?_
                    refine ow_end rfl ?_
                    have hR := Option.some.inj hF
                    exact fun a w hf hs => ⟨true, hR, hf.keep [0, 1, 2, 7, 11, 12, 62], sat_to [0] 0 rfl hs⟩
                  · refine ow_slots (L' := [(0, .int .i64 x0), (1, .int .i64 x1), (2, .int .i64 x2), (7, .pointer none), (11, .pointer none), (12, .int .i64 r39), (59, .bool false)]) (by rw [h47]) ?_
                    refine ow_vals 3 (j := 10) [0, 1, 2, 7, 11, 12, 62] [(0, .int .i64 x0), (1, .int .i64 x1), (2, .int .i64 x2), (7, .pointer none), (11, .pointer none), (12, .int .i64 r39), (62, .bool (decide (x2 > 64)))] rfl (by kernel_rfl) ?_
                    refine ow_end rfl ?_
                    have hR := Option.some.inj hF
                    exact fun a w hf hs => ⟨decide (x2 > 64), hR, hf.keep [0, 1, 2, 7, 11, 12, 62], sat_to [0] 0 rfl hs⟩
              · rintro a w ⟨x48, hv, hf, hs⟩
                subst hv
                replace hF := hK45
                clear hK45
                try dsimp only at hF
                revert a w
                show CW _ _ _ 129 [(0, .int .i64 x0), (1, .int .i64 x1), (2, .int .i64 x2), (7, .pointer none), (11, .pointer none), (12, .int .i64 r39), (62, .bool x48)] (SAT w0 ([imm I] ++ F0))
                unfold F.law13_KeyringNews.r3 at hF
                rcases if_some hF with ⟨h49, hF⟩ | ⟨h49, hF⟩
                · refine cw_cond_t rfl rfl h49 ?_
                  refine cw_seq ?_
                  refine cw_region ?_
                  refine ow_vals 7 (j := 7) [69] [(69, .bool (r39 == 1))] rfl (by kernel_rfl) ?_
                  rcases if_some hF with ⟨h50, hF⟩ | ⟨h50, hF⟩
                  · refine ow_slots (L' := [(69, .bool true)]) (by rw [h50]) ?_
                    obtain ⟨r51, h52, hF⟩ := bind_some hF
                    refine ow_pw rfl (pw_call (F := [] ++ F0) rfl rfl rfl rfl rfl rfl rfl (by kernel_rfl) (perm_of_pulls [0] rfl) (c_law13_awake _ r51 h52) ?_)
                    rintro _ _ ⟨rfl, rfl⟩
                    refine nw_H (H' := [imm I] ++ F0) rfl (nw_ow ?_)
                    refine ow_vals 2 (j := 10) [6] [(6, .bool r51)] rfl (by kernel_rfl) ?_
                    refine ow_end rfl ?_
                    refine ew_then ?_
                    refine cw_ret ?_
                    refine ew_then_ret ?_
                    have hR := Option.some.inj hF
                    subst hR
                    have hR := hK44
                    try dsimp only [Thru] at hR
                    subst hR
                    exact fin1 (H1 := [imm I]) (fun w hs => sat_to [0] 0 rfl hs) rfl (rr_tmp rfl) ⟨rfl, rfl⟩
                  · refine ow_slots (L' := [(69, .bool false)]) (by rw [h50]) ?_
                    refine ow_vals 3 (j := 10) [6] [(6, .bool false)] rfl (by kernel_rfl) ?_
                    refine ow_end rfl ?_
                    refine ew_then ?_
                    refine cw_ret ?_
                    refine ew_then_ret ?_
                    have hR := Option.some.inj hF
                    subst hR
                    have hR := hK44
                    try dsimp only [Thru] at hR
                    subst hR
                    exact fin1 (H1 := [imm I]) (fun w hs => sat_to [0] 0 rfl hs) rfl (rr_tmp rfl) ⟨rfl, rfl⟩
                · refine cw_cond_f rfl rfl h49 ?_
                  refine cw_skip ?_
                  have hR := Option.some.inj hF
                  exact fun a w hf hs => ⟨hR, hf.keep [0, 1, 2, 7, 11, 12], sat_to [0] 0 rfl hs⟩
            · rintro a w ⟨hv, hf, hs⟩
              subst hv
              replace hF := hK44
              clear hK44
              try dsimp only [Thru] at hF
              revert a w
              show CW _ _ _ 129 [(0, .int .i64 x0), (1, .int .i64 x1), (2, .int .i64 x2), (7, .pointer none), (11, .pointer none), (12, .int .i64 r39)] (SAT w0 ([imm I] ++ F0))
              unfold F.law13_KeyringNews.r4 at hF
              obtain ⟨v53, hF, hK53⟩ := thru_some hF
              refine cw_mid (fun a w => .inl () = v53 ∧ Fr 129 [(2, .int .i64 x2), (7, .pointer none), (11, .pointer none), (12, .int .i64 r39)] a ∧ SAT w0 ([imm I] ++ F0) w) ?_ ?_
              · obtain ⟨v54, hF, hK54⟩ := bind_some hF
                refine cw_mid (fun a w => ∃ (x56 : Bool), x56 = v54 ∧ Fr 129 [(2, .int .i64 x2), (7, .pointer none), (11, .pointer none), (12, .int .i64 r39), (81, .bool x56)] a ∧ SAT w0 ([imm I] ++ F0) w) ?_ ?_
                · refine cw_region ?_
                  refine ow_vals 4 (j := 4) [0, 1, 2, 7, 11, 12, 75] [(0, .int .i64 x0), (1, .int .i64 x1), (2, .int .i64 x2), (7, .pointer none), (11, .pointer none), (12, .int .i64 r39), (75, .bool (decide (x1 > x0)))] rfl (by kernel_rfl) ?_
                  rcases if_some hF with ⟨h55, hF⟩ | ⟨h55, hF⟩
                  · refine ow_slots (L' := [(0, .int .i64 x0), (1, .int .i64 x1), (2, .int .i64 x2), (7, .pointer none), (11, .pointer none), (12, .int .i64 r39), (75, .bool true)]) (by rw [h55]) ?_
                    refine ow_vals 6 (j := 10) [2, 7, 11, 12, 81] [(2, .int .i64 x2), (7, .pointer none), (11, .pointer none), (12, .int .i64 r39), (81, .bool true)] rfl (by kernel_rfl) ?_
                    refine ow_end rfl ?_
                    have hR := Option.some.inj hF
                    exact fun a w hf hs => ⟨true, hR, hf.keep [2, 7, 11, 12, 81], sat_to [0] 0 rfl hs⟩
                  · refine ow_slots (L' := [(0, .int .i64 x0), (1, .int .i64 x1), (2, .int .i64 x2), (7, .pointer none), (11, .pointer none), (12, .int .i64 r39), (75, .bool false)]) (by rw [h55]) ?_
                    refine ow_vals 6 (j := 10) [2, 7, 11, 12, 81] [(2, .int .i64 x2), (7, .pointer none), (11, .pointer none), (12, .int .i64 r39), (81, .bool (decide (x2 > (IntKind.i64.wrap (x0 - x1)))))] rfl (by kernel_rfl) ?_
                    refine ow_end rfl ?_
                    have hR := Option.some.inj hF
                    exact fun a w hf hs => ⟨decide (x2 > (IntKind.i64.wrap (x0 - x1))), hR, hf.keep [2, 7, 11, 12, 81], sat_to [0] 0 rfl hs⟩
                · rintro a w ⟨x56, hv, hf, hs⟩
                  subst hv
                  replace hF := hK54
                  clear hK54
                  try dsimp only at hF
                  revert a w
                  show CW _ _ _ 129 [(2, .int .i64 x2), (7, .pointer none), (11, .pointer none), (12, .int .i64 r39), (81, .bool x56)] (SAT w0 ([imm I] ++ F0))
                  unfold F.law13_KeyringNews.r5 at hF
                  rcases if_some hF with ⟨h57, hF⟩ | ⟨h57, hF⟩
                  · refine cw_cond_t rfl rfl h57 ?_
                    refine cw_seq ?_
                    refine cw_region ?_
                    refine ow_vals 7 (j := 7) [88] [(88, .bool (r39 == 5))] rfl (by kernel_rfl) ?_
                    rcases if_some hF with ⟨h58, hF⟩ | ⟨h58, hF⟩
                    · refine ow_slots (L' := [(88, .bool true)]) (by rw [h58]) ?_
                      obtain ⟨r59, h60, hF⟩ := bind_some hF
                      refine ow_pw rfl (pw_call (F := [] ++ F0) rfl rfl rfl rfl rfl rfl rfl (by kernel_rfl) (perm_of_pulls [0] rfl) (c_law13_awake _ r59 h60) ?_)
                      rintro _ _ ⟨rfl, rfl⟩
                      refine nw_H (H' := [imm I] ++ F0) rfl (nw_ow ?_)
                      refine ow_vals 2 (j := 10) [6] [(6, .bool r59)] rfl (by kernel_rfl) ?_
                      refine ow_end rfl ?_
                      refine ew_then ?_
                      refine cw_ret ?_
                      refine ew_then_ret ?_
                      have hR := Option.some.inj hF
                      subst hR
                      have hR := hK53
                      try dsimp only [Thru] at hR
                      subst hR
                      exact fin1 (H1 := [imm I]) (fun w hs => sat_to [0] 0 rfl hs) rfl (rr_tmp rfl) ⟨rfl, rfl⟩
                    · refine ow_slots (L' := [(88, .bool false)]) (by rw [h58]) ?_
                      refine ow_vals 3 (j := 10) [6] [(6, .bool false)] rfl (by kernel_rfl) ?_
                      refine ow_end rfl ?_
                      refine ew_then ?_
                      refine cw_ret ?_
                      refine ew_then_ret ?_
                      have hR := Option.some.inj hF
                      subst hR
                      have hR := hK53
                      try dsimp only [Thru] at hR
                      subst hR
                      exact fin1 (H1 := [imm I]) (fun w hs => sat_to [0] 0 rfl hs) rfl (rr_tmp rfl) ⟨rfl, rfl⟩
                  · refine cw_cond_f rfl rfl h57 ?_
                    refine cw_skip ?_
                    have hR := Option.some.inj hF
                    exact fun a w hf hs => ⟨hR, hf.keep [2, 7, 11, 12], sat_to [0] 0 rfl hs⟩
              · rintro a w ⟨hv, hf, hs⟩
                subst hv
                replace hF := hK53
                clear hK53
                try dsimp only [Thru] at hF
                revert a w
                show CW _ _ _ 129 [(2, .int .i64 x2), (7, .pointer none), (11, .pointer none), (12, .int .i64 r39)] (SAT w0 ([imm I] ++ F0))
                unfold F.law13_KeyringNews.r6 at hF
                refine cw_seq ?_
                refine cw_region ?_
                refine ow_vals 39 (j := 39) [6] [(6, .bool false)] rfl (by kernel_rfl) ?_
                refine ow_end rfl ?_
                refine ew_then ?_
                refine cw_ret ?_
                have hR := Option.some.inj hF
                subst hR
                exact fin1 (H1 := [imm I]) (fun w hs => sat_to [0] 0 rfl hs) rfl (rr_tmp rfl) ⟨rfl, rfl⟩
      · rw [hO] at hF
        try dsimp only [optC] at hF
        refine nw_H (H' := [imm I, pt r33_b2 #[.pointer none, .int .i64 r33_s1.boot_, .int .i64 r33_s1.n_] 64] ++ F0) rfl (nw_ow ?_)
        refine ow_vals 5 (j := 7) [0, 1, 2, 7, 8, 9, 10] [(0, .int .i64 x0), (1, .int .i64 x1), (2, .int .i64 x2), (7, .pointer none), (8, .int .i64 r28.2), (9, .pointer (some ⟨r33_b2, 0, none⟩)), (10, .int .i64 r33.2)] rfl (by kernel_rfl) ?_
        refine ow_end rfl ?_
        refine ew_then ?_
        obtain ⟨v61, hF, hK61⟩ := thru_some hF
        refine cw_mid (fun a w => .inl () = v61 ∧ Fr 129 [(0, .int .i64 x0), (1, .int .i64 x1), (2, .int .i64 x2), (7, .pointer none), (9, .pointer (some ⟨r33_b2, 0, none⟩))] a ∧ SAT w0 ([imm I, pt r33_b2 #[.pointer none, .int .i64 r33_s1.boot_, .int .i64 r33_s1.n_] 64] ++ F0) w) ?_ ?_
        · refine cw_seq ?_
          refine cw_region ?_
          refine ow_vals 3 (j := 3) [0, 1, 2, 7, 9, 10, 34] [(0, .int .i64 x0), (1, .int .i64 x1), (2, .int .i64 x2), (7, .pointer none), (9, .pointer (some ⟨r33_b2, 0, none⟩)), (10, .int .i64 r33.2), (34, .bool (r28.2 != 0))] rfl (by kernel_rfl) ?_
          rcases if_some hF with ⟨h62, hF⟩ | ⟨h62, hF⟩
          · refine ow_slots (L' := [(0, .int .i64 x0), (1, .int .i64 x1), (2, .int .i64 x2), (7, .pointer none), (9, .pointer (some ⟨r33_b2, 0, none⟩)), (10, .int .i64 r33.2), (34, .bool true)]) (by rw [h62]) ?_
            refine ow_vals 3 (j := 6) [0, 1, 2, 7, 9, 37] [(0, .int .i64 x0), (1, .int .i64 x1), (2, .int .i64 x2), (7, .pointer none), (9, .pointer (some ⟨r33_b2, 0, none⟩)), (37, .bool true)] rfl (by kernel_rfl) ?_
            refine ow_end rfl ?_
            refine ew_then ?_
            refine cw_cond_t rfl rfl rfl ?_
            refine cw_seq ?_
            refine cw_region ?_
            refine ow_vals 1 (j := 1) [6] [(6, .bool false)] rfl (by kernel_rfl) ?_
            refine ow_end rfl ?_
            refine ew_then ?_
            refine cw_ret ?_
            refine ew_then_ret ?_
            have hR := Option.some.inj hF
            subst hR
            have hR := hK61
            try dsimp only [Thru] at hR
            subst hR
            exact fin1 (H1 := [imm I]) (fun w hs => sat_to [1, 0] 1 rfl hs) rfl (rr_tmp rfl) ⟨rfl, rfl⟩
          · refine ow_slots (L' := [(0, .int .i64 x0), (1, .int .i64 x1), (2, .int .i64 x2), (7, .pointer none), (9, .pointer (some ⟨r33_b2, 0, none⟩)), (10, .int .i64 r33.2), (34, .bool false)]) (by rw [h62]) ?_
            refine ow_vals 3 (j := 6) [0, 1, 2, 7, 9, 37] [(0, .int .i64 x0), (1, .int .i64 x1), (2, .int .i64 x2), (7, .pointer none), (9, .pointer (some ⟨r33_b2, 0, none⟩)), (37, .bool (r33.2 != 0))] rfl (by kernel_rfl) ?_
            refine ow_end rfl ?_
            refine ew_then ?_
            rcases if_some hF with ⟨h63, hF⟩ | ⟨h63, hF⟩
            · refine cw_cond_t rfl rfl h63 ?_
              refine cw_seq ?_
              refine cw_region ?_
              refine ow_vals 1 (j := 1) [6] [(6, .bool false)] rfl (by kernel_rfl) ?_
              refine ow_end rfl ?_
              refine ew_then ?_
              refine cw_ret ?_
              refine ew_then_ret ?_
              have hR := Option.some.inj hF
              subst hR
              have hR := hK61
              try dsimp only [Thru] at hR
              subst hR
              exact fin1 (H1 := [imm I]) (fun w hs => sat_to [1, 0] 1 rfl hs) rfl (rr_tmp rfl) ⟨rfl, rfl⟩
            · refine cw_cond_f rfl rfl h63 ?_
              refine cw_skip ?_
              have hR := Option.some.inj hF
              exact fun a w hf hs => ⟨hR, hf.keep [0, 1, 2, 7, 9], sat_to [0, 0] 0 rfl hs⟩
        · rintro a w ⟨hv, hf, hs⟩
          subst hv
          replace hF := hK61
          clear hK61
          try dsimp only [Thru] at hF
          revert a w
          show CW _ _ _ 129 [(0, .int .i64 x0), (1, .int .i64 x1), (2, .int .i64 x2), (7, .pointer none), (9, .pointer (some ⟨r33_b2, 0, none⟩))] (SAT w0 ([imm I, pt r33_b2 #[.pointer none, .int .i64 r33_s1.boot_, .int .i64 r33_s1.n_] 64] ++ F0))
          unfold F.law13_KeyringNews.r7 at hF
          refine cw_seq ?_
          refine cw_region ?_
          refine ow_vals 3 (j := 3) [0, 1, 2, 7, 39, 40, 41] [(0, .int .i64 x0), (1, .int .i64 x1), (2, .int .i64 x2), (7, .pointer none), (39, .pointer (some ⟨r33_b2, 0, none⟩)), (40, .int .i64 x1), (41, .int .i64 x2)] rfl (by kernel_rfl) ?_
          obtain ⟨r64, h65, hF⟩ := bind_some hF
          refine ow_pw rfl (pw_call (F := [] ++ F0) rfl rfl rfl rfl rfl rfl rfl (by kernel_rfl) (perm_of_pulls [0, 0] rfl) (c_keyring_New_2 _ x1 x2 r33_s1 r33_b2 r64 h65) ?_)
          rintro _ _ ⟨rfl, rfl⟩
          refine nw_H (H' := [imm I, pt r33_b2 #[.pointer none, .int .i64 r33_s1.boot_, .int .i64 r33_s1.n_] 64] ++ F0) rfl (nw_ow ?_)
          refine ow_vals 5 (j := 9) [0, 1, 2, 7, 11, 12] [(0, .int .i64 x0), (1, .int .i64 x1), (2, .int .i64 x2), (7, .pointer none), (11, .pointer none), (12, .int .i64 r64)] rfl (by kernel_rfl) ?_
          refine ow_end rfl ?_
          refine ew_then ?_
          refine cw_seq ?_
          refine cw_region ?_
          refine ow_vals 2 (j := 2) [0, 1, 2, 7, 11, 12, 46, 47] [(0, .int .i64 x0), (1, .int .i64 x1), (2, .int .i64 x2), (7, .pointer none), (11, .pointer none), (12, .int .i64 r64), (46, .int .i64 x1), (47, .int .i64 x2)] rfl (by kernel_rfl) ?_
          obtain ⟨r66, h67, hF⟩ := bind_some hF
          refine ow_pw rfl (pw_call (F := [pt r33_b2 #[.pointer none, .int .i64 r33_s1.boot_, .int .i64 r33_s1.n_] 64] ++ F0) rfl rfl rfl rfl rfl rfl rfl (by kernel_rfl) (perm_of_pulls [0] rfl) (c_keyring_New _ x1 x2 r66 h67) ?_)
          rintro _ _ ⟨rfl, rfl⟩
          refine nw_H (H' := [imm I, pt r33_b2 #[.pointer none, .int .i64 r33_s1.boot_, .int .i64 r33_s1.n_] 64] ++ F0) rfl (nw_ow ?_)
          refine ow_vals 5 (j := 8) [0, 1, 2, 7, 11, 12, 14] [(0, .int .i64 x0), (1, .int .i64 x1), (2, .int .i64 x2), (7, .pointer none), (11, .pointer none), (12, .int .i64 r64), (14, .int .i64 r66)] rfl (by kernel_rfl) ?_
          refine ow_end rfl ?_
          refine ew_then ?_
          refine cw_seq ?_
          refine cw_seq ?_
          refine cw_region ?_
          refine ow_vals 2 (j := 2) [0, 1, 2, 7, 11, 12, 52] [(0, .int .i64 x0), (1, .int .i64 x1), (2, .int .i64 x2), (7, .pointer none), (11, .pointer none), (12, .int .i64 r64), (52, .bool (r66 != 1))] rfl (by kernel_rfl) ?_
          refine ow_end rfl ?_
          refine ew_then ?_
          rcases if_some hF with ⟨h68, hF⟩ | ⟨h68, hF⟩
          · refine cw_cond_t rfl rfl h68 ?_
            refine cw_seq ?_
            refine cw_region ?_
            refine ow_vals 1 (j := 1) [6] [(6, .bool false)] rfl (by kernel_rfl) ?_
            refine ow_end rfl ?_
            refine ew_then ?_
            refine cw_ret ?_
            refine ew_then_ret ?_
            have hR := Option.some.inj hF
            subst hR
            exact fin1 (H1 := [imm I]) (fun w hs => sat_to [1, 0] 1 rfl hs) rfl (rr_tmp rfl) ⟨rfl, rfl⟩
          · refine cw_cond_f rfl rfl h68 ?_
            refine cw_skip ?_
            refine ew_then ?_
            obtain ⟨v69, hF, hK69⟩ := thru_some hF
            refine cw_mid (fun a w => .inl () = v69 ∧ Fr 129 [(0, .int .i64 x0), (1, .int .i64 x1), (2, .int .i64 x2), (7, .pointer none), (11, .pointer none), (12, .int .i64 r64)] a ∧ SAT w0 ([imm I, pt r33_b2 #[.pointer none, .int .i64 r33_s1.boot_, .int .i64 r33_s1.n_] 64] ++ F0) w) ?_ ?_
            · obtain ⟨v70, hF, hK70⟩ := bind_some hF
              refine cw_mid (fun a w => ∃ (x73 : Bool), x73 = v70 ∧ Fr 129 [(0, .int .i64 x0), (1, .int .i64 x1), (2, .int .i64 x2), (7, .pointer none), (11, .pointer none), (12, .int .i64 r64), (62, .bool x73)] a ∧ SAT w0 ([imm I, pt r33_b2 #[.pointer none, .int .i64 r33_s1.boot_, .int .i64 r33_s1.n_] 64] ++ F0) w) ?_ ?_
              · refine cw_region ?_
                refine ow_vals 3 (j := 3) [0, 1, 2, 7, 11, 12, 55] [(0, .int .i64 x0), (1, .int .i64 x1), (2, .int .i64 x2), (7, .pointer none), (11, .pointer none), (12, .int .i64 r64), (55, .bool (decide (x1 < 0)))] rfl (by kernel_rfl) ?_
                rcases if_some hF with ⟨h71, hF⟩ | ⟨h71, hF⟩
                · refine ow_slots (L' := [(0, .int .i64 x0), (1, .int .i64 x1), (2, .int .i64 x2), (7, .pointer none), (11, .pointer none), (12, .int .i64 r64), (55, .bool true)]) (by rw [h71]) ?_
                  refine ow_vals 7 (j := 10) [0, 1, 2, 7, 11, 12, 62] [(0, .int .i64 x0), (1, .int .i64 x1), (2, .int .i64 x2), (7, .pointer none), (11, .pointer none), (12, .int .i64 r64), (62, .bool true)] rfl (by kernel_rfl) ?_
                  refine ow_end rfl ?_
                  have hR := Option.some.inj hF
                  exact fun a w hf hs => ⟨true, hR, hf.keep [0, 1, 2, 7, 11, 12, 62], sat_to [0, 0] 0 rfl hs⟩
                · refine ow_slots (L' := [(0, .int .i64 x0), (1, .int .i64 x1), (2, .int .i64 x2), (7, .pointer none), (11, .pointer none), (12, .int .i64 r64), (55, .bool false)]) (by rw [h71]) ?_
                  refine ow_vals 4 (j := 7) [0, 1, 2, 7, 11, 12, 59] [(0, .int .i64 x0), (1, .int .i64 x1), (2, .int .i64 x2), (7, .pointer none), (11, .pointer none), (12, .int .i64 r64), (59, .bool (decide (x2 < 1)))] rfl (by kernel_rfl) ?_
                  rcases if_some hF with ⟨h72, hF⟩ | ⟨h72, hF⟩
                  · refine ow_slots (L' := [(0, .int .i64 x0), (1, .int .i64 x1), (2, .int .i64 x2), (7, .pointer none), (11, .pointer none), (12, .int .i64 r64), (59, .bool true)]) (by rw [h72]) ?_
                    refine ow_vals 3 (j := 10) [0, 1, 2, 7, 11, 12, 62] [(0, .int .i64 x0), (1, .int .i64 x1), (2, .int .i64 x2), (7, .pointer none), (11, .pointer none), (12, .int .i64 r64), (62, .bool true)] rfl (by kernel_rfl) ?_
                    refine ow_end rfl ?_
                    have hR := Option.some.inj hF
                    exact fun a w hf hs => ⟨true, hR, hf.keep [0, 1, 2, 7, 11, 12, 62], sat_to [0, 0] 0 rfl hs⟩
                  · refine ow_slots (L' := [(0, .int .i64 x0), (1, .int .i64 x1), (2, .int .i64 x2), (7, .pointer none), (11, .pointer none), (12, .int .i64 r64), (59, .bool false)]) (by rw [h72]) ?_
                    refine ow_vals 3 (j := 10) [0, 1, 2, 7, 11, 12, 62] [(0, .int .i64 x0), (1, .int .i64 x1), (2, .int .i64 x2), (7, .pointer none), (11, .pointer none), (12, .int .i64 r64), (62, .bool (decide (x2 > 64)))] rfl (by kernel_rfl) ?_
                    refine ow_end rfl ?_
                    have hR := Option.some.inj hF
                    exact fun a w hf hs => ⟨decide (x2 > 64), hR, hf.keep [0, 1, 2, 7, 11, 12, 62], sat_to [0, 0] 0 rfl hs⟩
              · rintro a w ⟨x73, hv, hf, hs⟩
                subst hv
                replace hF := hK70
                clear hK70
                try dsimp only at hF
                revert a w
                show CW _ _ _ 129 [(0, .int .i64 x0), (1, .int .i64 x1), (2, .int .i64 x2), (7, .pointer none), (11, .pointer none), (12, .int .i64 r64), (62, .bool x73)] (SAT w0 ([imm I, pt r33_b2 #[.pointer none, .int .i64 r33_s1.boot_, .int .i64 r33_s1.n_] 64] ++ F0))
                unfold F.law13_KeyringNews.r8 at hF
                rcases if_some hF with ⟨h74, hF⟩ | ⟨h74, hF⟩
                · refine cw_cond_t rfl rfl h74 ?_
                  refine cw_seq ?_
                  refine cw_region ?_
                  refine ow_vals 7 (j := 7) [69] [(69, .bool (r64 == 1))] rfl (by kernel_rfl) ?_
                  rcases if_some hF with ⟨h75, hF⟩ | ⟨h75, hF⟩
                  · refine ow_slots (L' := [(69, .bool true)]) (by rw [h75]) ?_
                    obtain ⟨r76, h77, hF⟩ := bind_some hF
                    refine ow_pw rfl (pw_call (F := [pt r33_b2 #[.pointer none, .int .i64 r33_s1.boot_, .int .i64 r33_s1.n_] 64] ++ F0) rfl rfl rfl rfl rfl rfl rfl (by kernel_rfl) (perm_of_pulls [0] rfl) (c_law13_awake _ r76 h77) ?_)
                    rintro _ _ ⟨rfl, rfl⟩
                    refine nw_H (H' := [imm I, pt r33_b2 #[.pointer none, .int .i64 r33_s1.boot_, .int .i64 r33_s1.n_] 64] ++ F0) rfl (nw_ow ?_)
                    refine ow_vals 2 (j := 10) [6] [(6, .bool r76)] rfl (by kernel_rfl) ?_
                    refine ow_end rfl ?_
                    refine ew_then ?_
                    refine cw_ret ?_
                    refine ew_then_ret ?_
                    have hR := Option.some.inj hF
                    subst hR
                    have hR := hK69
                    try dsimp only [Thru] at hR
                    subst hR
                    exact fin1 (H1 := [imm I]) (fun w hs => sat_to [1, 0] 1 rfl hs) rfl (rr_tmp rfl) ⟨rfl, rfl⟩
                  · refine ow_slots (L' := [(69, .bool false)]) (by rw [h75]) ?_
                    refine ow_vals 3 (j := 10) [6] [(6, .bool false)] rfl (by kernel_rfl) ?_
                    refine ow_end rfl ?_
                    refine ew_then ?_
                    refine cw_ret ?_
                    refine ew_then_ret ?_
                    have hR := Option.some.inj hF
                    subst hR
                    have hR := hK69
                    try dsimp only [Thru] at hR
                    subst hR
                    exact fin1 (H1 := [imm I]) (fun w hs => sat_to [1, 0] 1 rfl hs) rfl (rr_tmp rfl) ⟨rfl, rfl⟩
                · refine cw_cond_f rfl rfl h74 ?_
                  refine cw_skip ?_
                  have hR := Option.some.inj hF
                  exact fun a w hf hs => ⟨hR, hf.keep [0, 1, 2, 7, 11, 12], sat_to [0, 0] 0 rfl hs⟩
            · rintro a w ⟨hv, hf, hs⟩
              subst hv
              replace hF := hK69
              clear hK69
              try dsimp only [Thru] at hF
              revert a w
              show CW _ _ _ 129 [(0, .int .i64 x0), (1, .int .i64 x1), (2, .int .i64 x2), (7, .pointer none), (11, .pointer none), (12, .int .i64 r64)] (SAT w0 ([imm I, pt r33_b2 #[.pointer none, .int .i64 r33_s1.boot_, .int .i64 r33_s1.n_] 64] ++ F0))
              unfold F.law13_KeyringNews.r9 at hF
              obtain ⟨v78, hF, hK78⟩ := thru_some hF
              refine cw_mid (fun a w => .inl () = v78 ∧ Fr 129 [(2, .int .i64 x2), (7, .pointer none), (11, .pointer none), (12, .int .i64 r64)] a ∧ SAT w0 ([imm I, pt r33_b2 #[.pointer none, .int .i64 r33_s1.boot_, .int .i64 r33_s1.n_] 64] ++ F0) w) ?_ ?_
              · obtain ⟨v79, hF, hK79⟩ := bind_some hF
                refine cw_mid (fun a w => ∃ (x81 : Bool), x81 = v79 ∧ Fr 129 [(2, .int .i64 x2), (7, .pointer none), (11, .pointer none), (12, .int .i64 r64), (81, .bool x81)] a ∧ SAT w0 ([imm I, pt r33_b2 #[.pointer none, .int .i64 r33_s1.boot_, .int .i64 r33_s1.n_] 64] ++ F0) w) ?_ ?_
                · refine cw_region ?_
                  refine ow_vals 4 (j := 4) [0, 1, 2, 7, 11, 12, 75] [(0, .int .i64 x0), (1, .int .i64 x1), (2, .int .i64 x2), (7, .pointer none), (11, .pointer none), (12, .int .i64 r64), (75, .bool (decide (x1 > x0)))] rfl (by kernel_rfl) ?_
                  rcases if_some hF with ⟨h80, hF⟩ | ⟨h80, hF⟩
                  · refine ow_slots (L' := [(0, .int .i64 x0), (1, .int .i64 x1), (2, .int .i64 x2), (7, .pointer none), (11, .pointer none), (12, .int .i64 r64), (75, .bool true)]) (by rw [h80]) ?_
                    refine ow_vals 6 (j := 10) [2, 7, 11, 12, 81] [(2, .int .i64 x2), (7, .pointer none), (11, .pointer none), (12, .int .i64 r64), (81, .bool true)] rfl (by kernel_rfl) ?_
                    refine ow_end rfl ?_
                    have hR := Option.some.inj hF
                    exact fun a w hf hs => ⟨true, hR, hf.keep [2, 7, 11, 12, 81], sat_to [0, 0] 0 rfl hs⟩
                  · refine ow_slots (L' := [(0, .int .i64 x0), (1, .int .i64 x1), (2, .int .i64 x2), (7, .pointer none), (11, .pointer none), (12, .int .i64 r64), (75, .bool false)]) (by rw [h80]) ?_
                    refine ow_vals 6 (j := 10) [2, 7, 11, 12, 81] [(2, .int .i64 x2), (7, .pointer none), (11, .pointer none), (12, .int .i64 r64), (81, .bool (decide (x2 > (IntKind.i64.wrap (x0 - x1)))))] rfl (by kernel_rfl) ?_
                    refine ow_end rfl ?_
                    have hR := Option.some.inj hF
                    exact fun a w hf hs => ⟨decide (x2 > (IntKind.i64.wrap (x0 - x1))), hR, hf.keep [2, 7, 11, 12, 81], sat_to [0, 0] 0 rfl hs⟩
                · rintro a w ⟨x81, hv, hf, hs⟩
                  subst hv
                  replace hF := hK79
                  clear hK79
                  try dsimp only at hF
                  revert a w
                  show CW _ _ _ 129 [(2, .int .i64 x2), (7, .pointer none), (11, .pointer none), (12, .int .i64 r64), (81, .bool x81)] (SAT w0 ([imm I, pt r33_b2 #[.pointer none, .int .i64 r33_s1.boot_, .int .i64 r33_s1.n_] 64] ++ F0))
                  unfold F.law13_KeyringNews.r10 at hF
                  rcases if_some hF with ⟨h82, hF⟩ | ⟨h82, hF⟩
                  · refine cw_cond_t rfl rfl h82 ?_
                    refine cw_seq ?_
                    refine cw_region ?_
                    refine ow_vals 7 (j := 7) [88] [(88, .bool (r64 == 5))] rfl (by kernel_rfl) ?_
                    rcases if_some hF with ⟨h83, hF⟩ | ⟨h83, hF⟩
                    · refine ow_slots (L' := [(88, .bool true)]) (by rw [h83]) ?_
                      obtain ⟨r84, h85, hF⟩ := bind_some hF
                      refine ow_pw rfl (pw_call (F := [pt r33_b2 #[.pointer none, .int .i64 r33_s1.boot_, .int .i64 r33_s1.n_] 64] ++ F0) rfl rfl rfl rfl rfl rfl rfl (by kernel_rfl) (perm_of_pulls [0] rfl) (c_law13_awake _ r84 h85) ?_)
                      rintro _ _ ⟨rfl, rfl⟩
                      refine nw_H (H' := [imm I, pt r33_b2 #[.pointer none, .int .i64 r33_s1.boot_, .int .i64 r33_s1.n_] 64] ++ F0) rfl (nw_ow ?_)
                      refine ow_vals 2 (j := 10) [6] [(6, .bool r84)] rfl (by kernel_rfl) ?_
                      refine ow_end rfl ?_
                      refine ew_then ?_
                      refine cw_ret ?_
                      refine ew_then_ret ?_
                      have hR := Option.some.inj hF
                      subst hR
                      have hR := hK78
                      try dsimp only [Thru] at hR
                      subst hR
                      exact fin1 (H1 := [imm I]) (fun w hs => sat_to [1, 0] 1 rfl hs) rfl (rr_tmp rfl) ⟨rfl, rfl⟩
                    · refine ow_slots (L' := [(88, .bool false)]) (by rw [h83]) ?_
                      refine ow_vals 3 (j := 10) [6] [(6, .bool false)] rfl (by kernel_rfl) ?_
                      refine ow_end rfl ?_
                      refine ew_then ?_
                      refine cw_ret ?_
                      refine ew_then_ret ?_
                      have hR := Option.some.inj hF
                      subst hR
                      have hR := hK78
                      try dsimp only [Thru] at hR
                      subst hR
                      exact fin1 (H1 := [imm I]) (fun w hs => sat_to [1, 0] 1 rfl hs) rfl (rr_tmp rfl) ⟨rfl, rfl⟩
                  · refine cw_cond_f rfl rfl h82 ?_
                    refine cw_skip ?_
                    have hR := Option.some.inj hF
                    exact fun a w hf hs => ⟨hR, hf.keep [2, 7, 11, 12], sat_to [0, 0] 0 rfl hs⟩
              · rintro a w ⟨hv, hf, hs⟩
                subst hv
                replace hF := hK78
                clear hK78
                try dsimp only [Thru] at hF
                revert a w
                show CW _ _ _ 129 [(2, .int .i64 x2), (7, .pointer none), (11, .pointer none), (12, .int .i64 r64)] (SAT w0 ([imm I, pt r33_b2 #[.pointer none, .int .i64 r33_s1.boot_, .int .i64 r33_s1.n_] 64] ++ F0))
                unfold F.law13_KeyringNews.r11 at hF
                refine cw_seq ?_
                refine cw_region ?_
                refine ow_vals 39 (j := 39) [6] [(6, .bool false)] rfl (by kernel_rfl) ?_
                refine ow_end rfl ?_
                refine ew_then ?_
                refine cw_ret ?_
                have hR := Option.some.inj hF
                subst hR
                exact fin1 (H1 := [imm I]) (fun w hs => sat_to [1, 0] 1 rfl hs) rfl (rr_tmp rfl) ⟨rfl, rfl⟩
    · rw [hO] at hF
      try dsimp only [optC] at hF
      refine nw_H (H' := [imm I, pt r28_b2 #[.slice r28_p4 r28_s1.sure_.length r28_c5, .map (some r28_b7), .bool r28_s1.off_, .bool r28_s1.armed_, .int .i64 r28_s1.left_, .int .u64 r28_s1.fall_.Keep, .int .i64 r28_s1.fall_.Tear, .int .i64 r28_s1.acts_, .int .i64 r28_s1.falls_] 60, own e_disk_sector 62 r28_p4 r28_c5 r28_s1.sure_, mpo (kInt .i64) (fun x : disk_sector => Value.agg #[.string x.s_, .int .i64 x.at_]) r28_b7 r28_s1.wait_] ++ F0) rfl (nw_ow ?_)
      refine ow_vals 5 (j := 7) [0, 1, 2, 7, 8] [(0, .int .i64 x0), (1, .int .i64 x1), (2, .int .i64 x2), (7, .pointer (some ⟨r28_b2, 0, none⟩)), (8, .int .i64 r28.2)] rfl (by kernel_rfl) ?_
      refine ow_end rfl ?_
      refine ew_then ?_
      refine cw_seq ?_
      refine cw_region ?_
      refine ow_vals 1 (j := 1) [0, 1, 2, 7, 8, 28] [(0, .int .i64 x0), (1, .int .i64 x1), (2, .int .i64 x2), (7, .pointer (some ⟨r28_b2, 0, none⟩)), (8, .int .i64 r28.2), (28, .pointer (some ⟨r28_b2, 0, none⟩))] rfl (by kernel_rfl) ?_
      obtain ⟨r86, h87, hF⟩ := bind_some hF
      refine ow_pw rfl (pw_call (F := [] ++ F0) rfl rfl rfl rfl rfl rfl rfl (by kernel_rfl) (perm_of_pulls [0, 0, 0, 0] rfl) (c_guard_New _ 1 r28_s1 r28_p4 r28_c5 r28_b7 r28_b2 r86 h87) ?_)
      rintro _ _ (⟨hO, rfl, rfl⟩ | ⟨r86_s1, r86_b2, hO, rfl, rfl⟩)
      · rw [hO] at hF
        try dsimp only [optC] at hF
        refine nw_H (H' := [imm I, pt r28_b2 #[.slice r28_p4 r28_s1.sure_.length r28_c5, .map (some r28_b7), .bool r28_s1.off_, .bool r28_s1.armed_, .int .i64 r28_s1.left_, .int .u64 r28_s1.fall_.Keep, .int .i64 r28_s1.fall_.Tear, .int .i64 r28_s1.acts_, .int .i64 r28_s1.falls_] 60, own e_disk_sector 62 r28_p4 r28_c5 r28_s1.sure_, mpo (kInt .i64) (fun x : disk_sector => Value.agg #[.string x.s_, .int .i64 x.at_]) r28_b7 r28_s1.wait_] ++ F0) rfl (nw_ow ?_)
        refine ow_vals 5 (j := 7) [0, 1, 2, 7, 8, 9, 10] [(0, .int .i64 x0), (1, .int .i64 x1), (2, .int .i64 x2), (7, .pointer (some ⟨r28_b2, 0, none⟩)), (8, .int .i64 r28.2), (9, .pointer none), (10, .int .i64 r86.2)] rfl (by kernel_rfl) ?_
        refine ow_end rfl ?_
        refine ew_then ?_
        obtain ⟨v89, hF, hK89⟩ := thru_some hF
        refine cw_mid (fun a w => .inl () = v89 ∧ Fr 129 [(0, .int .i64 x0), (1, .int .i64 x1), (2, .int .i64 x2), (7, .pointer (some ⟨r28_b2, 0, none⟩)), (9, .pointer none)] a ∧ SAT w0 ([imm I, pt r28_b2 #[.slice r28_p4 r28_s1.sure_.length r28_c5, .map (some r28_b7), .bool r28_s1.off_, .bool r28_s1.armed_, .int .i64 r28_s1.left_, .int .u64 r28_s1.fall_.Keep, .int .i64 r28_s1.fall_.Tear, .int .i64 r28_s1.acts_, .int .i64 r28_s1.falls_] 60, own e_disk_sector 62 r28_p4 r28_c5 r28_s1.sure_, mpo (kInt .i64) (fun x : disk_sector => Value.agg #[.string x.s_, .int .i64 x.at_]) r28_b7 r28_s1.wait_] ++ F0) w) ?_ ?_
        · refine cw_seq ?_
          refine cw_region ?_
          refine ow_vals 3 (j := 3) [0, 1, 2, 7, 9, 10, 34] [(0, .int .i64 x0), (1, .int .i64 x1), (2, .int .i64 x2), (7, .pointer (some ⟨r28_b2, 0, none⟩)), (9, .pointer none), (10, .int .i64 r86.2), (34, .bool (r28.2 != 0))] rfl (by kernel_rfl) ?_
          rcases if_some hF with ⟨h90, hF⟩ | ⟨h90, hF⟩
          · refine ow_slots (L' := [(0, .int .i64 x0), (1, .int .i64 x1), (2, .int .i64 x2), (7, .pointer (some ⟨r28_b2, 0, none⟩)), (9, .pointer none), (10, .int .i64 r86.2), (34, .bool true)]) (by rw [h90]) ?_
            refine ow_vals 3 (j := 6) [0, 1, 2, 7, 9, 37] [(0, .int .i64 x0), (1, .int .i64 x1), (2, .int .i64 x2), (7, .pointer (some ⟨r28_b2, 0, none⟩)), (9, .pointer none), (37, .bool true)] rfl (by kernel_rfl) ?_
            refine ow_end rfl ?_
            refine ew_then ?_
            refine cw_cond_t rfl rfl rfl ?_
            refine cw_seq ?_
            refine cw_region ?_
            refine ow_vals 1 (j := 1) [6] [(6, .bool false)] rfl (by kernel_rfl) ?_
            refine ow_end rfl ?_
            refine ew_then ?_
            refine cw_ret ?_
            refine ew_then_ret ?_
            have hR := Option.some.inj hF
            subst hR
            have hR := hK89
            try dsimp only [Thru] at hR
            subst hR
            exact fin1 (H1 := [imm I]) (fun w hs => sat_to [1, 1, 1, 0] 3 rfl hs) rfl (rr_tmp rfl) ⟨rfl, rfl⟩
          · refine ow_slots (L' := [(0, .int .i64 x0), (1, .int .i64 x1), (2, .int .i64 x2), (7, .pointer (some ⟨r28_b2, 0, none⟩)), (9, .pointer none), (10, .int .i64 r86.2), (34, .bool false)]) (by rw [h90]) ?_
            refine ow_vals 3 (j := 6) [0, 1, 2, 7, 9, 37] [(0, .int .i64 x0), (1, .int .i64 x1), (2, .int .i64 x2), (7, .pointer (some ⟨r28_b2, 0, none⟩)), (9, .pointer none), (37, .bool (r86.2 != 0))] rfl (by kernel_rfl) ?_
            refine ow_end rfl ?_
            refine ew_then ?_
            rcases if_some hF with ⟨h91, hF⟩ | ⟨h91, hF⟩
            · refine cw_cond_t rfl rfl h91 ?_
              refine cw_seq ?_
              refine cw_region ?_
              refine ow_vals 1 (j := 1) [6] [(6, .bool false)] rfl (by kernel_rfl) ?_
              refine ow_end rfl ?_
              refine ew_then ?_
              refine cw_ret ?_
              refine ew_then_ret ?_
              have hR := Option.some.inj hF
              subst hR
              have hR := hK89
              try dsimp only [Thru] at hR
              subst hR
              exact fin1 (H1 := [imm I]) (fun w hs => sat_to [1, 1, 1, 0] 3 rfl hs) rfl (rr_tmp rfl) ⟨rfl, rfl⟩
            · refine cw_cond_f rfl rfl h91 ?_
              refine cw_skip ?_
              have hR := Option.some.inj hF
              exact fun a w hf hs => ⟨hR, hf.keep [0, 1, 2, 7, 9], sat_to [0, 0, 0, 0] 0 rfl hs⟩
        · rintro a w ⟨hv, hf, hs⟩
          subst hv
          replace hF := hK89
          clear hK89
          try dsimp only [Thru] at hF
          revert a w
          show CW _ _ _ 129 [(0, .int .i64 x0), (1, .int .i64 x1), (2, .int .i64 x2), (7, .pointer (some ⟨r28_b2, 0, none⟩)), (9, .pointer none)] (SAT w0 ([imm I, pt r28_b2 #[.slice r28_p4 r28_s1.sure_.length r28_c5, .map (some r28_b7), .bool r28_s1.off_, .bool r28_s1.armed_, .int .i64 r28_s1.left_, .int .u64 r28_s1.fall_.Keep, .int .i64 r28_s1.fall_.Tear, .int .i64 r28_s1.acts_, .int .i64 r28_s1.falls_] 60, own e_disk_sector 62 r28_p4 r28_c5 r28_s1.sure_, mpo (kInt .i64) (fun x : disk_sector => Value.agg #[.string x.s_, .int .i64 x.at_]) r28_b7 r28_s1.wait_] ++ F0))
          unfold F.law13_KeyringNews.r12 at hF
          refine cw_seq ?_
          refine cw_region ?_
          refine ow_vals 3 (j := 3) [0, 1, 2, 7, 39, 40, 41] [(0, .int .i64 x0), (1, .int .i64 x1), (2, .int .i64 x2), (7, .pointer (some ⟨r28_b2, 0, none⟩)), (39, .pointer none), (40, .int .i64 x1), (41, .int .i64 x2)] rfl (by kernel_rfl) ?_
          obtain ⟨r92, h93, hF⟩ := bind_some hF
          refine ow_pw rfl (pw_call (F := [pt r28_b2 #[.slice r28_p4 r28_s1.sure_.length r28_c5, .map (some r28_b7), .bool r28_s1.off_, .bool r28_s1.armed_, .int .i64 r28_s1.left_, .int .u64 r28_s1.fall_.Keep, .int .i64 r28_s1.fall_.Tear, .int .i64 r28_s1.acts_, .int .i64 r28_s1.falls_] 60, own e_disk_sector 62 r28_p4 r28_c5 r28_s1.sure_, mpo (kInt .i64) (fun x : disk_sector => Value.agg #[.string x.s_, .int .i64 x.at_]) r28_b7 r28_s1.wait_] ++ F0) rfl rfl rfl rfl rfl rfl rfl (by kernel_rfl) (perm_of_pulls [0] rfl) (c_keyring_New _ x1 x2 r92 h93) ?_)
          rintro _ _ ⟨rfl, rfl⟩
          refine nw_H (H' := [imm I, pt r28_b2 #[.slice r28_p4 r28_s1.sure_.length r28_c5, .map (some r28_b7), .bool r28_s1.off_, .bool r28_s1.armed_, .int .i64 r28_s1.left_, .int .u64 r28_s1.fall_.Keep, .int .i64 r28_s1.fall_.Tear, .int .i64 r28_s1.acts_, .int .i64 r28_s1.falls_] 60, own e_disk_sector 62 r28_p4 r28_c5 r28_s1.sure_, mpo (kInt .i64) (fun x : disk_sector => Value.agg #[.string x.s_, .int .i64 x.at_]) r28_b7 r28_s1.wait_] ++ F0) rfl (nw_ow ?_)
          refine ow_vals 5 (j := 9) [0, 1, 2, 7, 11, 12] [(0, .int .i64 x0), (1, .int .i64 x1), (2, .int .i64 x2), (7, .pointer (some ⟨r28_b2, 0, none⟩)), (11, .pointer none), (12, .int .i64 r92)] rfl (by kernel_rfl) ?_
          refine ow_end rfl ?_
          refine ew_then ?_
          refine cw_seq ?_
          refine cw_region ?_
          refine ow_vals 2 (j := 2) [0, 1, 2, 7, 11, 12, 46, 47] [(0, .int .i64 x0), (1, .int .i64 x1), (2, .int .i64 x2), (7, .pointer (some ⟨r28_b2, 0, none⟩)), (11, .pointer none), (12, .int .i64 r92), (46, .int .i64 x1), (47, .int .i64 x2)] rfl (by kernel_rfl) ?_
          obtain ⟨r94, h95, hF⟩ := bind_some hF
          refine ow_pw rfl (pw_call (F := [pt r28_b2 #[.slice r28_p4 r28_s1.sure_.length r28_c5, .map (some r28_b7), .bool r28_s1.off_, .bool r28_s1.armed_, .int .i64 r28_s1.left_, .int .u64 r28_s1.fall_.Keep, .int .i64 r28_s1.fall_.Tear, .int .i64 r28_s1.acts_, .int .i64 r28_s1.falls_] 60, own e_disk_sector 62 r28_p4 r28_c5 r28_s1.sure_, mpo (kInt .i64) (fun x : disk_sector => Value.agg #[.string x.s_, .int .i64 x.at_]) r28_b7 r28_s1.wait_] ++ F0) rfl rfl rfl rfl rfl rfl rfl (by kernel_rfl) (perm_of_pulls [0] rfl) (c_keyring_New _ x1 x2 r94 h95) ?_)
          rintro _ _ ⟨rfl, rfl⟩
          refine nw_H (H' := [imm I, pt r28_b2 #[.slice r28_p4 r28_s1.sure_.length r28_c5, .map (some r28_b7), .bool r28_s1.off_, .bool r28_s1.armed_, .int .i64 r28_s1.left_, .int .u64 r28_s1.fall_.Keep, .int .i64 r28_s1.fall_.Tear, .int .i64 r28_s1.acts_, .int .i64 r28_s1.falls_] 60, own e_disk_sector 62 r28_p4 r28_c5 r28_s1.sure_, mpo (kInt .i64) (fun x : disk_sector => Value.agg #[.string x.s_, .int .i64 x.at_]) r28_b7 r28_s1.wait_] ++ F0) rfl (nw_ow ?_)
          refine ow_vals 5 (j := 8) [0, 1, 2, 7, 11, 12, 14] [(0, .int .i64 x0), (1, .int .i64 x1), (2, .int .i64 x2), (7, .pointer (some ⟨r28_b2, 0, none⟩)), (11, .pointer none), (12, .int .i64 r92), (14, .int .i64 r94)] rfl (by kernel_rfl) ?_
          refine ow_end rfl ?_
          refine ew_then ?_
          refine cw_seq ?_
          refine cw_seq ?_
          refine cw_region ?_
          refine ow_vals 2 (j := 2) [0, 1, 2, 7, 11, 12, 52] [(0, .int .i64 x0), (1, .int .i64 x1), (2, .int .i64 x2), (7, .pointer (some ⟨r28_b2, 0, none⟩)), (11, .pointer none), (12, .int .i64 r92), (52, .bool (r94 != 1))] rfl (by kernel_rfl) ?_
          refine ow_end rfl ?_
          refine ew_then ?_
          rcases if_some hF with ⟨h96, hF⟩ | ⟨h96, hF⟩
          · refine cw_cond_t rfl rfl h96 ?_
            refine cw_seq ?_
            refine cw_region ?_
            refine ow_vals 1 (j := 1) [6] [(6, .bool false)] rfl (by kernel_rfl) ?_
            refine ow_end rfl ?_
            refine ew_then ?_
            refine cw_ret ?_
            refine ew_then_ret ?_
            have hR := Option.some.inj hF
            subst hR
            exact fin1 (H1 := [imm I]) (fun w hs => sat_to [1, 1, 1, 0] 3 rfl hs) rfl (rr_tmp rfl) ⟨rfl, rfl⟩
          · refine cw_cond_f rfl rfl h96 ?_
            refine cw_skip ?_
            refine ew_then ?_
            obtain ⟨v97, hF, hK97⟩ := thru_some hF
            refine cw_mid (fun a w => .inl () = v97 ∧ Fr 129 [(0, .int .i64 x0), (1, .int .i64 x1), (2, .int .i64 x2), (7, .pointer (some ⟨r28_b2, 0, none⟩)), (11, .pointer none), (12, .int .i64 r92)] a ∧ SAT w0 ([imm I, pt r28_b2 #[.slice r28_p4 r28_s1.sure_.length r28_c5, .map (some r28_b7), .bool r28_s1.off_, .bool r28_s1.armed_, .int .i64 r28_s1.left_, .int .u64 r28_s1.fall_.Keep, .int .i64 r28_s1.fall_.Tear, .int .i64 r28_s1.acts_, .int .i64 r28_s1.falls_] 60, own e_disk_sector 62 r28_p4 r28_c5 r28_s1.sure_, mpo (kInt .i64) (fun x : disk_sector => Value.agg #[.string x.s_, .int .i64 x.at_]) r28_b7 r28_s1.wait_] ++ F0) w) ?_ ?_
            · obtain ⟨v98, hF, hK98⟩ := bind_some hF
              refine cw_mid (fun a w => ∃ (x101 : Bool), x101 = v98 ∧ Fr 129 [(0, .int .i64 x0), (1, .int .i64 x1), (2, .int .i64 x2), (7, .pointer (some ⟨r28_b2, 0, none⟩)), (11, .pointer none), (12, .int .i64 r92), (62, .bool x101)] a ∧ SAT w0 ([imm I, pt r28_b2 #[.slice r28_p4 r28_s1.sure_.length r28_c5, .map (some r28_b7), .bool r28_s1.off_, .bool r28_s1.armed_, .int .i64 r28_s1.left_, .int .u64 r28_s1.fall_.Keep, .int .i64 r28_s1.fall_.Tear, .int .i64 r28_s1.acts_, .int .i64 r28_s1.falls_] 60, own e_disk_sector 62 r28_p4 r28_c5 r28_s1.sure_, mpo (kInt .i64) (fun x : disk_sector => Value.agg #[.string x.s_, .int .i64 x.at_]) r28_b7 r28_s1.wait_] ++ F0) w) ?_ ?_
              · refine cw_region ?_
                refine ow_vals 3 (j := 3) [0, 1, 2, 7, 11, 12, 55] [(0, .int .i64 x0), (1, .int .i64 x1), (2, .int .i64 x2), (7, .pointer (some ⟨r28_b2, 0, none⟩)), (11, .pointer none), (12, .int .i64 r92), (55, .bool (decide (x1 < 0)))] rfl (by kernel_rfl) ?_
                rcases if_some hF with ⟨h99, hF⟩ | ⟨h99, hF⟩
                · refine ow_slots (L' := [(0, .int .i64 x0), (1, .int .i64 x1), (2, .int .i64 x2), (7, .pointer (some ⟨r28_b2, 0, none⟩)), (11, .pointer none), (12, .int .i64 r92), (55, .bool true)]) (by rw [h99]) ?_
                  refine ow_vals 7 (j := 10) [0, 1, 2, 7, 11, 12, 62] [(0, .int .i64 x0), (1, .int .i64 x1), (2, .int .i64 x2), (7, .pointer (some ⟨r28_b2, 0, none⟩)), (11, .pointer none), (12, .int .i64 r92), (62, .bool true)] rfl (by kernel_rfl) ?_
                  refine ow_end rfl ?_
                  have hR := Option.some.inj hF
                  exact fun a w hf hs => ⟨true, hR, hf.keep [0, 1, 2, 7, 11, 12, 62], sat_to [0, 0, 0, 0] 0 rfl hs⟩
                · refine ow_slots (L' := [(0, .int .i64 x0), (1, .int .i64 x1), (2, .int .i64 x2), (7, .pointer (some ⟨r28_b2, 0, none⟩)), (11, .pointer none), (12, .int .i64 r92), (55, .bool false)]) (by rw [h99]) ?_
                  refine ow_vals 4 (j := 7) [0, 1, 2, 7, 11, 12, 59] [(0, .int .i64 x0), (1, .int .i64 x1), (2, .int .i64 x2), (7, .pointer (some ⟨r28_b2, 0, none⟩)), (11, .pointer none), (12, .int .i64 r92), (59, .bool (decide (x2 < 1)))] rfl (by kernel_rfl) ?_
                  rcases if_some hF with ⟨h100, hF⟩ | ⟨h100, hF⟩
                  · refine ow_slots (L' := [(0, .int .i64 x0), (1, .int .i64 x1), (2, .int .i64 x2), (7, .pointer (some ⟨r28_b2, 0, none⟩)), (11, .pointer none), (12, .int .i64 r92), (59, .bool true)]) (by rw [h100]) ?_
                    refine ow_vals 3 (j := 10) [0, 1, 2, 7, 11, 12, 62] [(0, .int .i64 x0), (1, .int .i64 x1), (2, .int .i64 x2), (7, .pointer (some ⟨r28_b2, 0, none⟩)), (11, .pointer none), (12, .int .i64 r92), (62, .bool true)] rfl (by kernel_rfl) ?_
                    refine ow_end rfl ?_
                    have hR := Option.some.inj hF
                    exact fun a w hf hs => ⟨true, hR, hf.keep [0, 1, 2, 7, 11, 12, 62], sat_to [0, 0, 0, 0] 0 rfl hs⟩
                  · refine ow_slots (L' := [(0, .int .i64 x0), (1, .int .i64 x1), (2, .int .i64 x2), (7, .pointer (some ⟨r28_b2, 0, none⟩)), (11, .pointer none), (12, .int .i64 r92), (59, .bool false)]) (by rw [h100]) ?_
                    refine ow_vals 3 (j := 10) [0, 1, 2, 7, 11, 12, 62] [(0, .int .i64 x0), (1, .int .i64 x1), (2, .int .i64 x2), (7, .pointer (some ⟨r28_b2, 0, none⟩)), (11, .pointer none), (12, .int .i64 r92), (62, .bool (decide (x2 > 64)))] rfl (by kernel_rfl) ?_
                    refine ow_end rfl ?_
                    have hR := Option.some.inj hF
                    exact fun a w hf hs => ⟨decide (x2 > 64), hR, hf.keep [0, 1, 2, 7, 11, 12, 62], sat_to [0, 0, 0, 0] 0 rfl hs⟩
              · rintro a w ⟨x101, hv, hf, hs⟩
                subst hv
                replace hF := hK98
                clear hK98
                try dsimp only at hF
                revert a w
                show CW _ _ _ 129 [(0, .int .i64 x0), (1, .int .i64 x1), (2, .int .i64 x2), (7, .pointer (some ⟨r28_b2, 0, none⟩)), (11, .pointer none), (12, .int .i64 r92), (62, .bool x101)] (SAT w0 ([imm I, pt r28_b2 #[.slice r28_p4 r28_s1.sure_.length r28_c5, .map (some r28_b7), .bool r28_s1.off_, .bool r28_s1.armed_, .int .i64 r28_s1.left_, .int .u64 r28_s1.fall_.Keep, .int .i64 r28_s1.fall_.Tear, .int .i64 r28_s1.acts_, .int .i64 r28_s1.falls_] 60, own e_disk_sector 62 r28_p4 r28_c5 r28_s1.sure_, mpo (kInt .i64) (fun x : disk_sector => Value.agg #[.string x.s_, .int .i64 x.at_]) r28_b7 r28_s1.wait_] ++ F0))
                unfold F.law13_KeyringNews.r13 at hF
                rcases if_some hF with ⟨h102, hF⟩ | ⟨h102, hF⟩
                · refine cw_cond_t rfl rfl h102 ?_
                  refine cw_seq ?_
                  refine cw_region ?_
                  refine ow_vals 7 (j := 7) [69] [(69, .bool (r92 == 1))] rfl (by kernel_rfl) ?_
                  rcases if_some hF with ⟨h103, hF⟩ | ⟨h103, hF⟩
                  · refine ow_slots (L' := [(69, .bool true)]) (by rw [h103]) ?_
                    obtain ⟨r104, h105, hF⟩ := bind_some hF
                    refine ow_pw rfl (pw_call (F := [pt r28_b2 #[.slice r28_p4 r28_s1.sure_.length r28_c5, .map (some r28_b7), .bool r28_s1.off_, .bool r28_s1.armed_, .int .i64 r28_s1.left_, .int .u64 r28_s1.fall_.Keep, .int .i64 r28_s1.fall_.Tear, .int .i64 r28_s1.acts_, .int .i64 r28_s1.falls_] 60, own e_disk_sector 62 r28_p4 r28_c5 r28_s1.sure_, mpo (kInt .i64) (fun x : disk_sector => Value.agg #[.string x.s_, .int .i64 x.at_]) r28_b7 r28_s1.wait_] ++ F0) rfl rfl rfl rfl rfl rfl rfl (by kernel_rfl) (perm_of_pulls [0] rfl) (c_law13_awake _ r104 h105) ?_)
                    rintro _ _ ⟨rfl, rfl⟩
                    refine nw_H (H' := [imm I, pt r28_b2 #[.slice r28_p4 r28_s1.sure_.length r28_c5, .map (some r28_b7), .bool r28_s1.off_, .bool r28_s1.armed_, .int .i64 r28_s1.left_, .int .u64 r28_s1.fall_.Keep, .int .i64 r28_s1.fall_.Tear, .int .i64 r28_s1.acts_, .int .i64 r28_s1.falls_] 60, own e_disk_sector 62 r28_p4 r28_c5 r28_s1.sure_, mpo (kInt .i64) (fun x : disk_sector => Value.agg #[.string x.s_, .int .i64 x.at_]) r28_b7 r28_s1.wait_] ++ F0) rfl (nw_ow ?_)
                    refine ow_vals 2 (j := 10) [6] [(6, .bool r104)] rfl (by kernel_rfl) ?_
                    refine ow_end rfl ?_
                    refine ew_then ?_
                    refine cw_ret ?_
                    refine ew_then_ret ?_
                    have hR := Option.some.inj hF
                    subst hR
                    have hR := hK97
                    try dsimp only [Thru] at hR
                    subst hR
                    exact fin1 (H1 := [imm I]) (fun w hs => sat_to [1, 1, 1, 0] 3 rfl hs) rfl (rr_tmp rfl) ⟨rfl, rfl⟩
                  · refine ow_slots (L' := [(69, .bool false)]) (by rw [h103]) ?_
                    refine ow_vals 3 (j := 10) [6] [(6, .bool false)] rfl (by kernel_rfl) ?_
                    refine ow_end rfl ?_
                    refine ew_then ?_
                    refine cw_ret ?_
                    refine ew_then_ret ?_
                    have hR := Option.some.inj hF
                    subst hR
                    have hR := hK97
                    try dsimp only [Thru] at hR
                    subst hR
                    exact fin1 (H1 := [imm I]) (fun w hs => sat_to [1, 1, 1, 0] 3 rfl hs) rfl (rr_tmp rfl) ⟨rfl, rfl⟩
                · refine cw_cond_f rfl rfl h102 ?_
                  refine cw_skip ?_
                  have hR := Option.some.inj hF
                  exact fun a w hf hs => ⟨hR, hf.keep [0, 1, 2, 7, 11, 12], sat_to [0, 0, 0, 0] 0 rfl hs⟩
            · rintro a w ⟨hv, hf, hs⟩
              subst hv
              replace hF := hK97
              clear hK97
              try dsimp only [Thru] at hF
              revert a w
              show CW _ _ _ 129 [(0, .int .i64 x0), (1, .int .i64 x1), (2, .int .i64 x2), (7, .pointer (some ⟨r28_b2, 0, none⟩)), (11, .pointer none), (12, .int .i64 r92)] (SAT w0 ([imm I, pt r28_b2 #[.slice r28_p4 r28_s1.sure_.length r28_c5, .map (some r28_b7), .bool r28_s1.off_, .bool r28_s1.armed_, .int .i64 r28_s1.left_, .int .u64 r28_s1.fall_.Keep, .int .i64 r28_s1.fall_.Tear, .int .i64 r28_s1.acts_, .int .i64 r28_s1.falls_] 60, own e_disk_sector 62 r28_p4 r28_c5 r28_s1.sure_, mpo (kInt .i64) (fun x : disk_sector => Value.agg #[.string x.s_, .int .i64 x.at_]) r28_b7 r28_s1.wait_] ++ F0))
              unfold F.law13_KeyringNews.r14 at hF
              obtain ⟨v106, hF, hK106⟩ := thru_some hF
              refine cw_mid (fun a w => .inl () = v106 ∧ Fr 129 [(2, .int .i64 x2), (7, .pointer (some ⟨r28_b2, 0, none⟩)), (11, .pointer none), (12, .int .i64 r92)] a ∧ SAT w0 ([imm I, pt r28_b2 #[.slice r28_p4 r28_s1.sure_.length r28_c5, .map (some r28_b7), .bool r28_s1.off_, .bool r28_s1.armed_, .int .i64 r28_s1.left_, .int .u64 r28_s1.fall_.Keep, .int .i64 r28_s1.fall_.Tear, .int .i64 r28_s1.acts_, .int .i64 r28_s1.falls_] 60, own e_disk_sector 62 r28_p4 r28_c5 r28_s1.sure_, mpo (kInt .i64) (fun x : disk_sector => Value.agg #[.string x.s_, .int .i64 x.at_]) r28_b7 r28_s1.wait_] ++ F0) w) ?_ ?_
              · obtain ⟨v107, hF, hK107⟩ := bind_some hF
                refine cw_mid (fun a w => ∃ (x109 : Bool), x109 = v107 ∧ Fr 129 [(2, .int .i64 x2), (7, .pointer (some ⟨r28_b2, 0, none⟩)), (11, .pointer none), (12, .int .i64 r92), (81, .bool x109)] a ∧ SAT w0 ([imm I, pt r28_b2 #[.slice r28_p4 r28_s1.sure_.length r28_c5, .map (some r28_b7), .bool r28_s1.off_, .bool r28_s1.armed_, .int .i64 r28_s1.left_, .int .u64 r28_s1.fall_.Keep, .int .i64 r28_s1.fall_.Tear, .int .i64 r28_s1.acts_, .int .i64 r28_s1.falls_] 60, own e_disk_sector 62 r28_p4 r28_c5 r28_s1.sure_, mpo (kInt .i64) (fun x : disk_sector => Value.agg #[.string x.s_, .int .i64 x.at_]) r28_b7 r28_s1.wait_] ++ F0) w) ?_ ?_
                · refine cw_region ?_
                  refine ow_vals 4 (j := 4) [0, 1, 2, 7, 11, 12, 75] [(0, .int .i64 x0), (1, .int .i64 x1), (2, .int .i64 x2), (7, .pointer (some ⟨r28_b2, 0, none⟩)), (11, .pointer none), (12, .int .i64 r92), (75, .bool (decide (x1 > x0)))] rfl (by kernel_rfl) ?_
                  rcases if_some hF with ⟨h108, hF⟩ | ⟨h108, hF⟩
                  · refine ow_slots (L' := [(0, .int .i64 x0), (1, .int .i64 x1), (2, .int .i64 x2), (7, .pointer (some ⟨r28_b2, 0, none⟩)), (11, .pointer none), (12, .int .i64 r92), (75, .bool true)]) (by rw [h108]) ?_
                    refine ow_vals 6 (j := 10) [2, 7, 11, 12, 81] [(2, .int .i64 x2), (7, .pointer (some ⟨r28_b2, 0, none⟩)), (11, .pointer none), (12, .int .i64 r92), (81, .bool true)] rfl (by kernel_rfl) ?_
                    refine ow_end rfl ?_
                    have hR := Option.some.inj hF
                    exact fun a w hf hs => ⟨true, hR, hf.keep [2, 7, 11, 12, 81], sat_to [0, 0, 0, 0] 0 rfl hs⟩
                  · refine ow_slots (L' := [(0, .int .i64 x0), (1, .int .i64 x1), (2, .int .i64 x2), (7, .pointer (some ⟨r28_b2, 0, none⟩)), (11, .pointer none), (12, .int .i64 r92), (75, .bool false)]) (by rw [h108]) ?_
                    refine ow_vals 6 (j := 10) [2, 7, 11, 12, 81] [(2, .int .i64 x2), (7, .pointer (some ⟨r28_b2, 0, none⟩)), (11, .pointer none), (12, .int .i64 r92), (81, .bool (decide (x2 > (IntKind.i64.wrap (x0 - x1)))))] rfl (by kernel_rfl) ?_
                    refine ow_end rfl ?_
                    have hR := Option.some.inj hF
                    exact fun a w hf hs => ⟨decide (x2 > (IntKind.i64.wrap (x0 - x1))), hR, hf.keep [2, 7, 11, 12, 81], sat_to [0, 0, 0, 0] 0 rfl hs⟩
                · rintro a w ⟨x109, hv, hf, hs⟩
                  subst hv
                  replace hF := hK107
                  clear hK107
                  try dsimp only at hF
                  revert a w
                  show CW _ _ _ 129 [(2, .int .i64 x2), (7, .pointer (some ⟨r28_b2, 0, none⟩)), (11, .pointer none), (12, .int .i64 r92), (81, .bool x109)] (SAT w0 ([imm I, pt r28_b2 #[.slice r28_p4 r28_s1.sure_.length r28_c5, .map (some r28_b7), .bool r28_s1.off_, .bool r28_s1.armed_, .int .i64 r28_s1.left_, .int .u64 r28_s1.fall_.Keep, .int .i64 r28_s1.fall_.Tear, .int .i64 r28_s1.acts_, .int .i64 r28_s1.falls_] 60, own e_disk_sector 62 r28_p4 r28_c5 r28_s1.sure_, mpo (kInt .i64) (fun x : disk_sector => Value.agg #[.string x.s_, .int .i64 x.at_]) r28_b7 r28_s1.wait_] ++ F0))
                  unfold F.law13_KeyringNews.r15 at hF
                  rcases if_some hF with ⟨h110, hF⟩ | ⟨h110, hF⟩
                  · refine cw_cond_t rfl rfl h110 ?_
                    refine cw_seq ?_
                    refine cw_region ?_
                    refine ow_vals 7 (j := 7) [88] [(88, .bool (r92 == 5))] rfl (by kernel_rfl) ?_
                    rcases if_some hF with ⟨h111, hF⟩ | ⟨h111, hF⟩
                    · refine ow_slots (L' := [(88, .bool true)]) (by rw [h111]) ?_
                      obtain ⟨r112, h113, hF⟩ := bind_some hF
                      refine ow_pw rfl (pw_call (F := [pt r28_b2 #[.slice r28_p4 r28_s1.sure_.length r28_c5, .map (some r28_b7), .bool r28_s1.off_, .bool r28_s1.armed_, .int .i64 r28_s1.left_, .int .u64 r28_s1.fall_.Keep, .int .i64 r28_s1.fall_.Tear, .int .i64 r28_s1.acts_, .int .i64 r28_s1.falls_] 60, own e_disk_sector 62 r28_p4 r28_c5 r28_s1.sure_, mpo (kInt .i64) (fun x : disk_sector => Value.agg #[.string x.s_, .int .i64 x.at_]) r28_b7 r28_s1.wait_] ++ F0) rfl rfl rfl rfl rfl rfl rfl (by kernel_rfl) (perm_of_pulls [0] rfl) (c_law13_awake _ r112 h113) ?_)
                      rintro _ _ ⟨rfl, rfl⟩
                      refine nw_H (H' := [imm I, pt r28_b2 #[.slice r28_p4 r28_s1.sure_.length r28_c5, .map (some r28_b7), .bool r28_s1.off_, .bool r28_s1.armed_, .int .i64 r28_s1.left_, .int .u64 r28_s1.fall_.Keep, .int .i64 r28_s1.fall_.Tear, .int .i64 r28_s1.acts_, .int .i64 r28_s1.falls_] 60, own e_disk_sector 62 r28_p4 r28_c5 r28_s1.sure_, mpo (kInt .i64) (fun x : disk_sector => Value.agg #[.string x.s_, .int .i64 x.at_]) r28_b7 r28_s1.wait_] ++ F0) rfl (nw_ow ?_)
                      refine ow_vals 2 (j := 10) [6] [(6, .bool r112)] rfl (by kernel_rfl) ?_
                      refine ow_end rfl ?_
                      refine ew_then ?_
                      refine cw_ret ?_
                      refine ew_then_ret ?_
                      have hR := Option.some.inj hF
                      subst hR
                      have hR := hK106
                      try dsimp only [Thru] at hR
                      subst hR
                      exact fin1 (H1 := [imm I]) (fun w hs => sat_to [1, 1, 1, 0] 3 rfl hs) rfl (rr_tmp rfl) ⟨rfl, rfl⟩
                    · refine ow_slots (L' := [(88, .bool false)]) (by rw [h111]) ?_
                      refine ow_vals 3 (j := 10) [6] [(6, .bool false)] rfl (by kernel_rfl) ?_
                      refine ow_end rfl ?_
                      refine ew_then ?_
                      refine cw_ret ?_
                      refine ew_then_ret ?_
                      have hR := Option.some.inj hF
                      subst hR
                      have hR := hK106
                      try dsimp only [Thru] at hR
                      subst hR
                      exact fin1 (H1 := [imm I]) (fun w hs => sat_to [1, 1, 1, 0] 3 rfl hs) rfl (rr_tmp rfl) ⟨rfl, rfl⟩
                  · refine cw_cond_f rfl rfl h110 ?_
                    refine cw_skip ?_
                    have hR := Option.some.inj hF
                    exact fun a w hf hs => ⟨hR, hf.keep [2, 7, 11, 12], sat_to [0, 0, 0, 0] 0 rfl hs⟩
              · rintro a w ⟨hv, hf, hs⟩
                subst hv
                replace hF := hK106
                clear hK106
                try dsimp only [Thru] at hF
                revert a w
                show CW _ _ _ 129 [(2, .int .i64 x2), (7, .pointer (some ⟨r28_b2, 0, none⟩)), (11, .pointer none), (12, .int .i64 r92)] (SAT w0 ([imm I, pt r28_b2 #[.slice r28_p4 r28_s1.sure_.length r28_c5, .map (some r28_b7), .bool r28_s1.off_, .bool r28_s1.armed_, .int .i64 r28_s1.left_, .int .u64 r28_s1.fall_.Keep, .int .i64 r28_s1.fall_.Tear, .int .i64 r28_s1.acts_, .int .i64 r28_s1.falls_] 60, own e_disk_sector 62 r28_p4 r28_c5 r28_s1.sure_, mpo (kInt .i64) (fun x : disk_sector => Value.agg #[.string x.s_, .int .i64 x.at_]) r28_b7 r28_s1.wait_] ++ F0))
                unfold F.law13_KeyringNews.r16 at hF
                refine cw_seq ?_
                refine cw_region ?_
                refine ow_vals 39 (j := 39) [6] [(6, .bool false)] rfl (by kernel_rfl) ?_
                refine ow_end rfl ?_
                refine ew_then ?_
                refine cw_ret ?_
                have hR := Option.some.inj hF
                subst hR
                exact fin1 (H1 := [imm I]) (fun w hs => sat_to [1, 1, 1, 0] 3 rfl hs) rfl (rr_tmp rfl) ⟨rfl, rfl⟩
      · rw [hO] at hF
        try dsimp only [optC] at hF
        refine nw_H (H' := [imm I, pt r28_b2 #[.slice r28_p4 r28_s1.sure_.length r28_c5, .map (some r28_b7), .bool r28_s1.off_, .bool r28_s1.armed_, .int .i64 r28_s1.left_, .int .u64 r28_s1.fall_.Keep, .int .i64 r28_s1.fall_.Tear, .int .i64 r28_s1.acts_, .int .i64 r28_s1.falls_] 60, pt r86_b2 #[.pointer (some ⟨r28_b2, 0, none⟩), .int .i64 r86_s1.boot_, .int .i64 r86_s1.n_] 64, own e_disk_sector 62 r28_p4 r28_c5 r28_s1.sure_, mpo (kInt .i64) (fun x : disk_sector => Value.agg #[.string x.s_, .int .i64 x.at_]) r28_b7 r28_s1.wait_] ++ F0) rfl (nw_ow ?_)
        refine ow_vals 5 (j := 7) [0, 1, 2, 7, 8, 9, 10] [(0, .int .i64 x0), (1, .int .i64 x1), (2, .int .i64 x2), (7, .pointer (some ⟨r28_b2, 0, none⟩)), (8, .int .i64 r28.2), (9, .pointer (some ⟨r86_b2, 0, none⟩)), (10, .int .i64 r86.2)] rfl (by kernel_rfl) ?_
        refine ow_end rfl ?_
        refine ew_then ?_
        obtain ⟨v114, hF, hK114⟩ := thru_some hF
        refine cw_mid (fun a w => .inl () = v114 ∧ Fr 129 [(0, .int .i64 x0), (1, .int .i64 x1), (2, .int .i64 x2), (7, .pointer (some ⟨r28_b2, 0, none⟩)), (9, .pointer (some ⟨r86_b2, 0, none⟩))] a ∧ SAT w0 ([imm I, pt r28_b2 #[.slice r28_p4 r28_s1.sure_.length r28_c5, .map (some r28_b7), .bool r28_s1.off_, .bool r28_s1.armed_, .int .i64 r28_s1.left_, .int .u64 r28_s1.fall_.Keep, .int .i64 r28_s1.fall_.Tear, .int .i64 r28_s1.acts_, .int .i64 r28_s1.falls_] 60, pt r86_b2 #[.pointer (some ⟨r28_b2, 0, none⟩), .int .i64 r86_s1.boot_, .int .i64 r86_s1.n_] 64, own e_disk_sector 62 r28_p4 r28_c5 r28_s1.sure_, mpo (kInt .i64) (fun x : disk_sector => Value.agg #[.string x.s_, .int .i64 x.at_]) r28_b7 r28_s1.wait_] ++ F0) w) ?_ ?_
        · refine cw_seq ?_
          refine cw_region ?_
          refine ow_vals 3 (j := 3) [0, 1, 2, 7, 9, 10, 34] [(0, .int .i64 x0), (1, .int .i64 x1), (2, .int .i64 x2), (7, .pointer (some ⟨r28_b2, 0, none⟩)), (9, .pointer (some ⟨r86_b2, 0, none⟩)), (10, .int .i64 r86.2), (34, .bool (r28.2 != 0))] rfl (by kernel_rfl) ?_
          rcases if_some hF with ⟨h115, hF⟩ | ⟨h115, hF⟩
          · refine ow_slots (L' := [(0, .int .i64 x0), (1, .int .i64 x1), (2, .int .i64 x2), (7, .pointer (some ⟨r28_b2, 0, none⟩)), (9, .pointer (some ⟨r86_b2, 0, none⟩)), (10, .int .i64 r86.2), (34, .bool true)]) (by rw [h115]) ?_
            refine ow_vals 3 (j := 6) [0, 1, 2, 7, 9, 37] [(0, .int .i64 x0), (1, .int .i64 x1), (2, .int .i64 x2), (7, .pointer (some ⟨r28_b2, 0, none⟩)), (9, .pointer (some ⟨r86_b2, 0, none⟩)), (37, .bool true)] rfl (by kernel_rfl) ?_
            refine ow_end rfl ?_
            refine ew_then ?_
            refine cw_cond_t rfl rfl rfl ?_
            refine cw_seq ?_
            refine cw_region ?_
            refine ow_vals 1 (j := 1) [6] [(6, .bool false)] rfl (by kernel_rfl) ?_
            refine ow_end rfl ?_
            refine ew_then ?_
            refine cw_ret ?_
            refine ew_then_ret ?_
            have hR := Option.some.inj hF
            subst hR
            have hR := hK114
            try dsimp only [Thru] at hR
            subst hR
            exact fin1 (H1 := [imm I]) (fun w hs => sat_to [1, 1, 1, 1, 0] 4 rfl hs) rfl (rr_tmp rfl) ⟨rfl, rfl⟩
          · refine ow_slots (L' := [(0, .int .i64 x0), (1, .int .i64 x1), (2, .int .i64 x2), (7, .pointer (some ⟨r28_b2, 0, none⟩)), (9, .pointer (some ⟨r86_b2, 0, none⟩)), (10, .int .i64 r86.2), (34, .bool false)]) (by rw [h115]) ?_
            refine ow_vals 3 (j := 6) [0, 1, 2, 7, 9, 37] [(0, .int .i64 x0), (1, .int .i64 x1), (2, .int .i64 x2), (7, .pointer (some ⟨r28_b2, 0, none⟩)), (9, .pointer (some ⟨r86_b2, 0, none⟩)), (37, .bool (r86.2 != 0))] rfl (by kernel_rfl) ?_
            refine ow_end rfl ?_
            refine ew_then ?_
            rcases if_some hF with ⟨h116, hF⟩ | ⟨h116, hF⟩
            · refine cw_cond_t rfl rfl h116 ?_
              refine cw_seq ?_
              refine cw_region ?_
              refine ow_vals 1 (j := 1) [6] [(6, .bool false)] rfl (by kernel_rfl) ?_
              refine ow_end rfl ?_
              refine ew_then ?_
              refine cw_ret ?_
              refine ew_then_ret ?_
              have hR := Option.some.inj hF
              subst hR
              have hR := hK114
              try dsimp only [Thru] at hR
              subst hR
              exact fin1 (H1 := [imm I]) (fun w hs => sat_to [1, 1, 1, 1, 0] 4 rfl hs) rfl (rr_tmp rfl) ⟨rfl, rfl⟩
            · refine cw_cond_f rfl rfl h116 ?_
              refine cw_skip ?_
              have hR := Option.some.inj hF
              exact fun a w hf hs => ⟨hR, hf.keep [0, 1, 2, 7, 9], sat_to [0, 0, 0, 0, 0] 0 rfl hs⟩
        · rintro a w ⟨hv, hf, hs⟩
          subst hv
          replace hF := hK114
          clear hK114
          try dsimp only [Thru] at hF
          revert a w
          show CW _ _ _ 129 [(0, .int .i64 x0), (1, .int .i64 x1), (2, .int .i64 x2), (7, .pointer (some ⟨r28_b2, 0, none⟩)), (9, .pointer (some ⟨r86_b2, 0, none⟩))] (SAT w0 ([imm I, pt r28_b2 #[.slice r28_p4 r28_s1.sure_.length r28_c5, .map (some r28_b7), .bool r28_s1.off_, .bool r28_s1.armed_, .int .i64 r28_s1.left_, .int .u64 r28_s1.fall_.Keep, .int .i64 r28_s1.fall_.Tear, .int .i64 r28_s1.acts_, .int .i64 r28_s1.falls_] 60, pt r86_b2 #[.pointer (some ⟨r28_b2, 0, none⟩), .int .i64 r86_s1.boot_, .int .i64 r86_s1.n_] 64, own e_disk_sector 62 r28_p4 r28_c5 r28_s1.sure_, mpo (kInt .i64) (fun x : disk_sector => Value.agg #[.string x.s_, .int .i64 x.at_]) r28_b7 r28_s1.wait_] ++ F0))
          unfold F.law13_KeyringNews.r17 at hF
          refine cw_seq ?_
          refine cw_region ?_
          refine ow_vals 3 (j := 3) [0, 1, 2, 7, 39, 40, 41] [(0, .int .i64 x0), (1, .int .i64 x1), (2, .int .i64 x2), (7, .pointer (some ⟨r28_b2, 0, none⟩)), (39, .pointer (some ⟨r86_b2, 0, none⟩)), (40, .int .i64 x1), (41, .int .i64 x2)] rfl (by kernel_rfl) ?_
          obtain ⟨r117, h118, hF⟩ := bind_some hF
          refine ow_pw rfl (pw_call (F := [] ++ F0) rfl rfl rfl rfl rfl rfl rfl (by kernel_rfl) (perm_of_pulls [0, 1, 0, 0, 0] rfl) (c_keyring_New_1 _ x1 x2 r86_s1 r28_s1 r86_b2 r28_p4 r28_c5 r28_b7 r28_b2 r117 h118) ?_)
          rintro _ _ (⟨hO, rfl, rfl⟩ | ⟨r117_s1, r117_b2, hO, rfl, rfl⟩)
          · rw [hO] at hF
            try dsimp only [optC] at hF
            refine nw_H (H' := [imm I, pt r86_b2 #[.pointer (some ⟨r28_b2, 0, none⟩), .int .i64 r86_s1.boot_, .int .i64 r86_s1.n_] 64, pt r28_b2 #[.slice r28_p4 r28_s1.sure_.length r28_c5, .map (some r28_b7), .bool r28_s1.off_, .bool r28_s1.armed_, .int .i64 r28_s1.left_, .int .u64 r28_s1.fall_.Keep, .int .i64 r28_s1.fall_.Tear, .int .i64 r28_s1.acts_, .int .i64 r28_s1.falls_] 60, own e_disk_sector 62 r28_p4 r28_c5 r28_s1.sure_, mpo (kInt .i64) (fun x : disk_sector => Value.agg #[.string x.s_, .int .i64 x.at_]) r28_b7 r28_s1.wait_] ++ F0) rfl (nw_ow ?_)
            refine ow_vals 5 (j := 9) [0, 1, 2, 7, 11, 12] [(0, .int .i64 x0), (1, .int .i64 x1), (2, .int .i64 x2), (7, .pointer (some ⟨r28_b2, 0, none⟩)), (11, .pointer none), (12, .int .i64 r117.2)] rfl (by kernel_rfl) ?_
            refine ow_end rfl ?_
            refine ew_then ?_
            refine cw_seq ?_
            refine cw_region ?_
            refine ow_vals 2 (j := 2) [0, 1, 2, 7, 11, 12, 46, 47] [(0, .int .i64 x0), (1, .int .i64 x1), (2, .int .i64 x2), (7, .pointer (some ⟨r28_b2, 0, none⟩)), (11, .pointer none), (12, .int .i64 r117.2), (46, .int .i64 x1), (47, .int .i64 x2)] rfl (by kernel_rfl) ?_
            obtain ⟨r120, h121, hF⟩ := bind_some hF
            refine ow_pw rfl (pw_call (F := [pt r86_b2 #[.pointer (some ⟨r28_b2, 0, none⟩), .int .i64 r86_s1.boot_, .int .i64 r86_s1.n_] 64, pt r28_b2 #[.slice r28_p4 r28_s1.sure_.length r28_c5, .map (some r28_b7), .bool r28_s1.off_, .bool r28_s1.armed_, .int .i64 r28_s1.left_, .int .u64 r28_s1.fall_.Keep, .int .i64 r28_s1.fall_.Tear, .int .i64 r28_s1.acts_, .int .i64 r28_s1.falls_] 60, own e_disk_sector 62 r28_p4 r28_c5 r28_s1.sure_, mpo (kInt .i64) (fun x : disk_sector => Value.agg #[.string x.s_, .int .i64 x.at_]) r28_b7 r28_s1.wait_] ++ F0) rfl rfl rfl rfl rfl rfl rfl (by kernel_rfl) (perm_of_pulls [0] rfl) (c_keyring_New _ x1 x2 r120 h121) ?_)
            rintro _ _ ⟨rfl, rfl⟩
            refine nw_H (H' := [imm I, pt r86_b2 #[.pointer (some ⟨r28_b2, 0, none⟩), .int .i64 r86_s1.boot_, .int .i64 r86_s1.n_] 64, pt r28_b2 #[.slice r28_p4 r28_s1.sure_.length r28_c5, .map (some r28_b7), .bool r28_s1.off_, .bool r28_s1.armed_, .int .i64 r28_s1.left_, .int .u64 r28_s1.fall_.Keep, .int .i64 r28_s1.fall_.Tear, .int .i64 r28_s1.acts_, .int .i64 r28_s1.falls_] 60, own e_disk_sector 62 r28_p4 r28_c5 r28_s1.sure_, mpo (kInt .i64) (fun x : disk_sector => Value.agg #[.string x.s_, .int .i64 x.at_]) r28_b7 r28_s1.wait_] ++ F0) rfl (nw_ow ?_)
            refine ow_vals 5 (j := 8) [0, 1, 2, 7, 11, 12, 14] [(0, .int .i64 x0), (1, .int .i64 x1), (2, .int .i64 x2), (7, .pointer (some ⟨r28_b2, 0, none⟩)), (11, .pointer none), (12, .int .i64 r117.2), (14, .int .i64 r120)] rfl (by kernel_rfl) ?_
            refine ow_end rfl ?_
            refine ew_then ?_
            refine cw_seq ?_
            refine cw_seq ?_
            refine cw_region ?_
            refine ow_vals 2 (j := 2) [0, 1, 2, 7, 11, 12, 52] [(0, .int .i64 x0), (1, .int .i64 x1), (2, .int .i64 x2), (7, .pointer (some ⟨r28_b2, 0, none⟩)), (11, .pointer none), (12, .int .i64 r117.2), (52, .bool (r120 != 1))] rfl (by kernel_rfl) ?_
            refine ow_end rfl ?_
            refine ew_then ?_
            rcases if_some hF with ⟨h122, hF⟩ | ⟨h122, hF⟩
            · refine cw_cond_t rfl rfl h122 ?_
              refine cw_seq ?_
              refine cw_region ?_
              refine ow_vals 1 (j := 1) [6] [(6, .bool false)] rfl (by kernel_rfl) ?_
              refine ow_end rfl ?_
              refine ew_then ?_
              refine cw_ret ?_
              refine ew_then_ret ?_
              have hR := Option.some.inj hF
              subst hR
              exact fin1 (H1 := [imm I]) (fun w hs => sat_to [1, 1, 1, 1, 0] 4 rfl hs) rfl (rr_tmp rfl) ⟨rfl, rfl⟩
            · refine cw_cond_f rfl rfl h122 ?_
              refine cw_skip ?_
              refine ew_then ?_
              obtain ⟨v123, hF, hK123⟩ := thru_some hF
              refine cw_mid (fun a w => .inl () = v123 ∧ Fr 129 [(0, .int .i64 x0), (1, .int .i64 x1), (2, .int .i64 x2), (7, .pointer (some ⟨r28_b2, 0, none⟩)), (11, .pointer none), (12, .int .i64 r117.2)] a ∧ SAT w0 ([imm I, pt r86_b2 #[.pointer (some ⟨r28_b2, 0, none⟩), .int .i64 r86_s1.boot_, .int .i64 r86_s1.n_] 64, pt r28_b2 #[.slice r28_p4 r28_s1.sure_.length r28_c5, .map (some r28_b7), .bool r28_s1.off_, .bool r28_s1.armed_, .int .i64 r28_s1.left_, .int .u64 r28_s1.fall_.Keep, .int .i64 r28_s1.fall_.Tear, .int .i64 r28_s1.acts_, .int .i64 r28_s1.falls_] 60, own e_disk_sector 62 r28_p4 r28_c5 r28_s1.sure_, mpo (kInt .i64) (fun x : disk_sector => Value.agg #[.string x.s_, .int .i64 x.at_]) r28_b7 r28_s1.wait_] ++ F0) w) ?_ ?_
              · obtain ⟨v124, hF, hK124⟩ := bind_some hF
                refine cw_mid (fun a w => ∃ (x127 : Bool), x127 = v124 ∧ Fr 129 [(0, .int .i64 x0), (1, .int .i64 x1), (2, .int .i64 x2), (7, .pointer (some ⟨r28_b2, 0, none⟩)), (11, .pointer none), (12, .int .i64 r117.2), (62, .bool x127)] a ∧ SAT w0 ([imm I, pt r86_b2 #[.pointer (some ⟨r28_b2, 0, none⟩), .int .i64 r86_s1.boot_, .int .i64 r86_s1.n_] 64, pt r28_b2 #[.slice r28_p4 r28_s1.sure_.length r28_c5, .map (some r28_b7), .bool r28_s1.off_, .bool r28_s1.armed_, .int .i64 r28_s1.left_, .int .u64 r28_s1.fall_.Keep, .int .i64 r28_s1.fall_.Tear, .int .i64 r28_s1.acts_, .int .i64 r28_s1.falls_] 60, own e_disk_sector 62 r28_p4 r28_c5 r28_s1.sure_, mpo (kInt .i64) (fun x : disk_sector => Value.agg #[.string x.s_, .int .i64 x.at_]) r28_b7 r28_s1.wait_] ++ F0) w) ?_ ?_
                · refine cw_region ?_
                  refine ow_vals 3 (j := 3) [0, 1, 2, 7, 11, 12, 55] [(0, .int .i64 x0), (1, .int .i64 x1), (2, .int .i64 x2), (7, .pointer (some ⟨r28_b2, 0, none⟩)), (11, .pointer none), (12, .int .i64 r117.2), (55, .bool (decide (x1 < 0)))] rfl (by kernel_rfl) ?_
                  rcases if_some hF with ⟨h125, hF⟩ | ⟨h125, hF⟩
                  · refine ow_slots (L' := [(0, .int .i64 x0), (1, .int .i64 x1), (2, .int .i64 x2), (7, .pointer (some ⟨r28_b2, 0, none⟩)), (11, .pointer none), (12, .int .i64 r117.2), (55, .bool true)]) (by rw [h125]) ?_
                    refine ow_vals 7 (j := 10) [0, 1, 2, 7, 11, 12, 62] [(0, .int .i64 x0), (1, .int .i64 x1), (2, .int .i64 x2), (7, .pointer (some ⟨r28_b2, 0, none⟩)), (11, .pointer none), (12, .int .i64 r117.2), (62, .bool true)] rfl (by kernel_rfl) ?_
                    refine ow_end rfl ?_
                    have hR := Option.some.inj hF
                    exact fun a w hf hs => ⟨true, hR, hf.keep [0, 1, 2, 7, 11, 12, 62], sat_to [0, 0, 0, 0, 0] 0 rfl hs⟩
                  · refine ow_slots (L' := [(0, .int .i64 x0), (1, .int .i64 x1), (2, .int .i64 x2), (7, .pointer (some ⟨r28_b2, 0, none⟩)), (11, .pointer none), (12, .int .i64 r117.2), (55, .bool false)]) (by rw [h125]) ?_
                    refine ow_vals 4 (j := 7) [0, 1, 2, 7, 11, 12, 59] [(0, .int .i64 x0), (1, .int .i64 x1), (2, .int .i64 x2), (7, .pointer (some ⟨r28_b2, 0, none⟩)), (11, .pointer none), (12, .int .i64 r117.2), (59, .bool (decide (x2 < 1)))] rfl (by kernel_rfl) ?_
                    rcases if_some hF with ⟨h126, hF⟩ | ⟨h126, hF⟩
                    · refine ow_slots (L' := [(0, .int .i64 x0), (1, .int .i64 x1), (2, .int .i64 x2), (7, .pointer (some ⟨r28_b2, 0, none⟩)), (11, .pointer none), (12, .int .i64 r117.2), (59, .bool true)]) (by rw [h126]) ?_
                      refine ow_vals 3 (j := 10) [0, 1, 2, 7, 11, 12, 62] [(0, .int .i64 x0), (1, .int .i64 x1), (2, .int .i64 x2), (7, .pointer (some ⟨r28_b2, 0, none⟩)), (11, .pointer none), (12, .int .i64 r117.2), (62, .bool true)] rfl (by kernel_rfl) ?_
                      refine ow_end rfl ?_
                      have hR := Option.some.inj hF
                      exact fun a w hf hs => ⟨true, hR, hf.keep [0, 1, 2, 7, 11, 12, 62], sat_to [0, 0, 0, 0, 0] 0 rfl hs⟩
                    · refine ow_slots (L' := [(0, .int .i64 x0), (1, .int .i64 x1), (2, .int .i64 x2), (7, .pointer (some ⟨r28_b2, 0, none⟩)), (11, .pointer none), (12, .int .i64 r117.2), (59, .bool false)]) (by rw [h126]) ?_
                      refine ow_vals 3 (j := 10) [0, 1, 2, 7, 11, 12, 62] [(0, .int .i64 x0), (1, .int .i64 x1), (2, .int .i64 x2), (7, .pointer (some ⟨r28_b2, 0, none⟩)), (11, .pointer none), (12, .int .i64 r117.2), (62, .bool (decide (x2 > 64)))] rfl (by kernel_rfl) ?_
                      refine ow_end rfl ?_
                      have hR := Option.some.inj hF
                      exact fun a w hf hs => ⟨decide (x2 > 64), hR, hf.keep [0, 1, 2, 7, 11, 12, 62], sat_to [0, 0, 0, 0, 0] 0 rfl hs⟩
                · rintro a w ⟨x127, hv, hf, hs⟩
                  subst hv
                  replace hF := hK124
                  clear hK124
                  try dsimp only at hF
                  revert a w
                  show CW _ _ _ 129 [(0, .int .i64 x0), (1, .int .i64 x1), (2, .int .i64 x2), (7, .pointer (some ⟨r28_b2, 0, none⟩)), (11, .pointer none), (12, .int .i64 r117.2), (62, .bool x127)] (SAT w0 ([imm I, pt r86_b2 #[.pointer (some ⟨r28_b2, 0, none⟩), .int .i64 r86_s1.boot_, .int .i64 r86_s1.n_] 64, pt r28_b2 #[.slice r28_p4 r28_s1.sure_.length r28_c5, .map (some r28_b7), .bool r28_s1.off_, .bool r28_s1.armed_, .int .i64 r28_s1.left_, .int .u64 r28_s1.fall_.Keep, .int .i64 r28_s1.fall_.Tear, .int .i64 r28_s1.acts_, .int .i64 r28_s1.falls_] 60, own e_disk_sector 62 r28_p4 r28_c5 r28_s1.sure_, mpo (kInt .i64) (fun x : disk_sector => Value.agg #[.string x.s_, .int .i64 x.at_]) r28_b7 r28_s1.wait_] ++ F0))
                  unfold F.law13_KeyringNews.r18 at hF
                  rcases if_some hF with ⟨h128, hF⟩ | ⟨h128, hF⟩
                  · refine cw_cond_t rfl rfl h128 ?_
                    refine cw_seq ?_
                    refine cw_region ?_
                    refine ow_vals 7 (j := 7) [69] [(69, .bool (r117.2 == 1))] rfl (by kernel_rfl) ?_
                    rcases if_some hF with ⟨h129, hF⟩ | ⟨h129, hF⟩
                    · refine ow_slots (L' := [(69, .bool true)]) (by rw [h129]) ?_
                      obtain ⟨r130, h131, hF⟩ := bind_some hF
                      refine ow_pw rfl (pw_call (F := [pt r86_b2 #[.pointer (some ⟨r28_b2, 0, none⟩), .int .i64 r86_s1.boot_, .int .i64 r86_s1.n_] 64, pt r28_b2 #[.slice r28_p4 r28_s1.sure_.length r28_c5, .map (some r28_b7), .bool r28_s1.off_, .bool r28_s1.armed_, .int .i64 r28_s1.left_, .int .u64 r28_s1.fall_.Keep, .int .i64 r28_s1.fall_.Tear, .int .i64 r28_s1.acts_, .int .i64 r28_s1.falls_] 60, own e_disk_sector 62 r28_p4 r28_c5 r28_s1.sure_, mpo (kInt .i64) (fun x : disk_sector => Value.agg #[.string x.s_, .int .i64 x.at_]) r28_b7 r28_s1.wait_] ++ F0) rfl rfl rfl rfl rfl rfl rfl (by kernel_rfl) (perm_of_pulls [0] rfl) (c_law13_awake _ r130 h131) ?_)
                      rintro _ _ ⟨rfl, rfl⟩
                      refine nw_H (H' := [imm I, pt r86_b2 #[.pointer (some ⟨r28_b2, 0, none⟩), .int .i64 r86_s1.boot_, .int .i64 r86_s1.n_] 64, pt r28_b2 #[.slice r28_p4 r28_s1.sure_.length r28_c5, .map (some r28_b7), .bool r28_s1.off_, .bool r28_s1.armed_, .int .i64 r28_s1.left_, .int .u64 r28_s1.fall_.Keep, .int .i64 r28_s1.fall_.Tear, .int .i64 r28_s1.acts_, .int .i64 r28_s1.falls_] 60, own e_disk_sector 62 r28_p4 r28_c5 r28_s1.sure_, mpo (kInt .i64) (fun x : disk_sector => Value.agg #[.string x.s_, .int .i64 x.at_]) r28_b7 r28_s1.wait_] ++ F0) rfl (nw_ow ?_)
                      refine ow_vals 2 (j := 10) [6] [(6, .bool r130)] rfl (by kernel_rfl) ?_
                      refine ow_end rfl ?_
                      refine ew_then ?_
                      refine cw_ret ?_
                      refine ew_then_ret ?_
                      have hR := Option.some.inj hF
                      subst hR
                      have hR := hK123
                      try dsimp only [Thru] at hR
                      subst hR
                      exact fin1 (H1 := [imm I]) (fun w hs => sat_to [1, 1, 1, 1, 0] 4 rfl hs) rfl (rr_tmp rfl) ⟨rfl, rfl⟩
                    · refine ow_slots (L' := [(69, .bool false)]) (by rw [h129]) ?_
                      refine ow_vals 3 (j := 10) [6] [(6, .bool false)] rfl (by kernel_rfl) ?_
                      refine ow_end rfl ?_
                      refine ew_then ?_
                      refine cw_ret ?_
                      refine ew_then_ret ?_
                      have hR := Option.some.inj hF
                      subst hR
                      have hR := hK123
                      try dsimp only [Thru] at hR
                      subst hR
                      exact fin1 (H1 := [imm I]) (fun w hs => sat_to [1, 1, 1, 1, 0] 4 rfl hs) rfl (rr_tmp rfl) ⟨rfl, rfl⟩
                  · refine cw_cond_f rfl rfl h128 ?_
                    refine cw_skip ?_
                    have hR := Option.some.inj hF
                    exact fun a w hf hs => ⟨hR, hf.keep [0, 1, 2, 7, 11, 12], sat_to [0, 0, 0, 0, 0] 0 rfl hs⟩
              · rintro a w ⟨hv, hf, hs⟩
                subst hv
                replace hF := hK123
                clear hK123
                try dsimp only [Thru] at hF
                revert a w
                show CW _ _ _ 129 [(0, .int .i64 x0), (1, .int .i64 x1), (2, .int .i64 x2), (7, .pointer (some ⟨r28_b2, 0, none⟩)), (11, .pointer none), (12, .int .i64 r117.2)] (SAT w0 ([imm I, pt r86_b2 #[.pointer (some ⟨r28_b2, 0, none⟩), .int .i64 r86_s1.boot_, .int .i64 r86_s1.n_] 64, pt r28_b2 #[.slice r28_p4 r28_s1.sure_.length r28_c5, .map (some r28_b7), .bool r28_s1.off_, .bool r28_s1.armed_, .int .i64 r28_s1.left_, .int .u64 r28_s1.fall_.Keep, .int .i64 r28_s1.fall_.Tear, .int .i64 r28_s1.acts_, .int .i64 r28_s1.falls_] 60, own e_disk_sector 62 r28_p4 r28_c5 r28_s1.sure_, mpo (kInt .i64) (fun x : disk_sector => Value.agg #[.string x.s_, .int .i64 x.at_]) r28_b7 r28_s1.wait_] ++ F0))
                unfold F.law13_KeyringNews.r19 at hF
                obtain ⟨v132, hF, hK132⟩ := thru_some hF
                refine cw_mid (fun a w => .inl () = v132 ∧ Fr 129 [(2, .int .i64 x2), (7, .pointer (some ⟨r28_b2, 0, none⟩)), (11, .pointer none), (12, .int .i64 r117.2)] a ∧ SAT w0 ([imm I, pt r86_b2 #[.pointer (some ⟨r28_b2, 0, none⟩), .int .i64 r86_s1.boot_, .int .i64 r86_s1.n_] 64, pt r28_b2 #[.slice r28_p4 r28_s1.sure_.length r28_c5, .map (some r28_b7), .bool r28_s1.off_, .bool r28_s1.armed_, .int .i64 r28_s1.left_, .int .u64 r28_s1.fall_.Keep, .int .i64 r28_s1.fall_.Tear, .int .i64 r28_s1.acts_, .int .i64 r28_s1.falls_] 60, own e_disk_sector 62 r28_p4 r28_c5 r28_s1.sure_, mpo (kInt .i64) (fun x : disk_sector => Value.agg #[.string x.s_, .int .i64 x.at_]) r28_b7 r28_s1.wait_] ++ F0) w) ?_ ?_
                · obtain ⟨v133, hF, hK133⟩ := bind_some hF
                  refine cw_mid (fun a w => ∃ (x135 : Bool), x135 = v133 ∧ Fr 129 [(2, .int .i64 x2), (7, .pointer (some ⟨r28_b2, 0, none⟩)), (11, .pointer none), (12, .int .i64 r117.2), (81, .bool x135)] a ∧ SAT w0 ([imm I, pt r86_b2 #[.pointer (some ⟨r28_b2, 0, none⟩), .int .i64 r86_s1.boot_, .int .i64 r86_s1.n_] 64, pt r28_b2 #[.slice r28_p4 r28_s1.sure_.length r28_c5, .map (some r28_b7), .bool r28_s1.off_, .bool r28_s1.armed_, .int .i64 r28_s1.left_, .int .u64 r28_s1.fall_.Keep, .int .i64 r28_s1.fall_.Tear, .int .i64 r28_s1.acts_, .int .i64 r28_s1.falls_] 60, own e_disk_sector 62 r28_p4 r28_c5 r28_s1.sure_, mpo (kInt .i64) (fun x : disk_sector => Value.agg #[.string x.s_, .int .i64 x.at_]) r28_b7 r28_s1.wait_] ++ F0) w) ?_ ?_
                  · refine cw_region ?_
                    refine ow_vals 4 (j := 4) [0, 1, 2, 7, 11, 12, 75] [(0, .int .i64 x0), (1, .int .i64 x1), (2, .int .i64 x2), (7, .pointer (some ⟨r28_b2, 0, none⟩)), (11, .pointer none), (12, .int .i64 r117.2), (75, .bool (decide (x1 > x0)))] rfl (by kernel_rfl) ?_
                    rcases if_some hF with ⟨h134, hF⟩ | ⟨h134, hF⟩
                    · refine ow_slots (L' := [(0, .int .i64 x0), (1, .int .i64 x1), (2, .int .i64 x2), (7, .pointer (some ⟨r28_b2, 0, none⟩)), (11, .pointer none), (12, .int .i64 r117.2), (75, .bool true)]) (by rw [h134]) ?_
                      refine ow_vals 6 (j := 10) [2, 7, 11, 12, 81] [(2, .int .i64 x2), (7, .pointer (some ⟨r28_b2, 0, none⟩)), (11, .pointer none), (12, .int .i64 r117.2), (81, .bool true)] rfl (by kernel_rfl) ?_
                      refine ow_end rfl ?_
                      have hR := Option.some.inj hF
                      exact fun a w hf hs => ⟨true, hR, hf.keep [2, 7, 11, 12, 81], sat_to [0, 0, 0, 0, 0] 0 rfl hs⟩
                    · refine ow_slots (L' := [(0, .int .i64 x0), (1, .int .i64 x1), (2, .int .i64 x2), (7, .pointer (some ⟨r28_b2, 0, none⟩)), (11, .pointer none), (12, .int .i64 r117.2), (75, .bool false)]) (by rw [h134]) ?_
                      refine ow_vals 6 (j := 10) [2, 7, 11, 12, 81] [(2, .int .i64 x2), (7, .pointer (some ⟨r28_b2, 0, none⟩)), (11, .pointer none), (12, .int .i64 r117.2), (81, .bool (decide (x2 > (IntKind.i64.wrap (x0 - x1)))))] rfl (by kernel_rfl) ?_
                      refine ow_end rfl ?_
                      have hR := Option.some.inj hF
                      exact fun a w hf hs => ⟨decide (x2 > (IntKind.i64.wrap (x0 - x1))), hR, hf.keep [2, 7, 11, 12, 81], sat_to [0, 0, 0, 0, 0] 0 rfl hs⟩
                  · rintro a w ⟨x135, hv, hf, hs⟩
                    subst hv
                    replace hF := hK133
                    clear hK133
                    try dsimp only at hF
                    revert a w
                    show CW _ _ _ 129 [(2, .int .i64 x2), (7, .pointer (some ⟨r28_b2, 0, none⟩)), (11, .pointer none), (12, .int .i64 r117.2), (81, .bool x135)] (SAT w0 ([imm I, pt r86_b2 #[.pointer (some ⟨r28_b2, 0, none⟩), .int .i64 r86_s1.boot_, .int .i64 r86_s1.n_] 64, pt r28_b2 #[.slice r28_p4 r28_s1.sure_.length r28_c5, .map (some r28_b7), .bool r28_s1.off_, .bool r28_s1.armed_, .int .i64 r28_s1.left_, .int .u64 r28_s1.fall_.Keep, .int .i64 r28_s1.fall_.Tear, .int .i64 r28_s1.acts_, .int .i64 r28_s1.falls_] 60, own e_disk_sector 62 r28_p4 r28_c5 r28_s1.sure_, mpo (kInt .i64) (fun x : disk_sector => Value.agg #[.string x.s_, .int .i64 x.at_]) r28_b7 r28_s1.wait_] ++ F0))
                    unfold F.law13_KeyringNews.r20 at hF
                    rcases if_some hF with ⟨h136, hF⟩ | ⟨h136, hF⟩
                    · refine cw_cond_t rfl rfl h136 ?_
                      refine cw_seq ?_
                      refine cw_region ?_
                      refine ow_vals 7 (j := 7) [88] [(88, .bool (r117.2 == 5))] rfl (by kernel_rfl) ?_
                      rcases if_some hF with ⟨h137, hF⟩ | ⟨h137, hF⟩
                      · refine ow_slots (L' := [(88, .bool true)]) (by rw [h137]) ?_
                        obtain ⟨r138, h139, hF⟩ := bind_some hF
                        refine ow_pw rfl (pw_call (F := [pt r86_b2 #[.pointer (some ⟨r28_b2, 0, none⟩), .int .i64 r86_s1.boot_, .int .i64 r86_s1.n_] 64, pt r28_b2 #[.slice r28_p4 r28_s1.sure_.length r28_c5, .map (some r28_b7), .bool r28_s1.off_, .bool r28_s1.armed_, .int .i64 r28_s1.left_, .int .u64 r28_s1.fall_.Keep, .int .i64 r28_s1.fall_.Tear, .int .i64 r28_s1.acts_, .int .i64 r28_s1.falls_] 60, own e_disk_sector 62 r28_p4 r28_c5 r28_s1.sure_, mpo (kInt .i64) (fun x : disk_sector => Value.agg #[.string x.s_, .int .i64 x.at_]) r28_b7 r28_s1.wait_] ++ F0) rfl rfl rfl rfl rfl rfl rfl (by kernel_rfl) (perm_of_pulls [0] rfl) (c_law13_awake _ r138 h139) ?_)
                        rintro _ _ ⟨rfl, rfl⟩
                        refine nw_H (H' := [imm I, pt r86_b2 #[.pointer (some ⟨r28_b2, 0, none⟩), .int .i64 r86_s1.boot_, .int .i64 r86_s1.n_] 64, pt r28_b2 #[.slice r28_p4 r28_s1.sure_.length r28_c5, .map (some r28_b7), .bool r28_s1.off_, .bool r28_s1.armed_, .int .i64 r28_s1.left_, .int .u64 r28_s1.fall_.Keep, .int .i64 r28_s1.fall_.Tear, .int .i64 r28_s1.acts_, .int .i64 r28_s1.falls_] 60, own e_disk_sector 62 r28_p4 r28_c5 r28_s1.sure_, mpo (kInt .i64) (fun x : disk_sector => Value.agg #[.string x.s_, .int .i64 x.at_]) r28_b7 r28_s1.wait_] ++ F0) rfl (nw_ow ?_)
                        refine ow_vals 2 (j := 10) [6] [(6, .bool r138)] rfl (by kernel_rfl) ?_
                        refine ow_end rfl ?_
                        refine ew_then ?_
                        refine cw_ret ?_
                        refine ew_then_ret ?_
                        have hR := Option.some.inj hF
                        subst hR
                        have hR := hK132
                        try dsimp only [Thru] at hR
                        subst hR
                        exact fin1 (H1 := [imm I]) (fun w hs => sat_to [1, 1, 1, 1, 0] 4 rfl hs) rfl (rr_tmp rfl) ⟨rfl, rfl⟩
                      · refine ow_slots (L' := [(88, .bool false)]) (by rw [h137]) ?_
                        refine ow_vals 3 (j := 10) [6] [(6, .bool false)] rfl (by kernel_rfl) ?_
                        refine ow_end rfl ?_
                        refine ew_then ?_
                        refine cw_ret ?_
                        refine ew_then_ret ?_
                        have hR := Option.some.inj hF
                        subst hR
                        have hR := hK132
                        try dsimp only [Thru] at hR
                        subst hR
                        exact fin1 (H1 := [imm I]) (fun w hs => sat_to [1, 1, 1, 1, 0] 4 rfl hs) rfl (rr_tmp rfl) ⟨rfl, rfl⟩
                    · refine cw_cond_f rfl rfl h136 ?_
                      refine cw_skip ?_
                      have hR := Option.some.inj hF
                      exact fun a w hf hs => ⟨hR, hf.keep [2, 7, 11, 12], sat_to [0, 0, 0, 0, 0] 0 rfl hs⟩
                · rintro a w ⟨hv, hf, hs⟩
                  subst hv
                  replace hF := hK132
                  clear hK132
                  try dsimp only [Thru] at hF
                  revert a w
                  show CW _ _ _ 129 [(2, .int .i64 x2), (7, .pointer (some ⟨r28_b2, 0, none⟩)), (11, .pointer none), (12, .int .i64 r117.2)] (SAT w0 ([imm I, pt r86_b2 #[.pointer (some ⟨r28_b2, 0, none⟩), .int .i64 r86_s1.boot_, .int .i64 r86_s1.n_] 64, pt r28_b2 #[.slice r28_p4 r28_s1.sure_.length r28_c5, .map (some r28_b7), .bool r28_s1.off_, .bool r28_s1.armed_, .int .i64 r28_s1.left_, .int .u64 r28_s1.fall_.Keep, .int .i64 r28_s1.fall_.Tear, .int .i64 r28_s1.acts_, .int .i64 r28_s1.falls_] 60, own e_disk_sector 62 r28_p4 r28_c5 r28_s1.sure_, mpo (kInt .i64) (fun x : disk_sector => Value.agg #[.string x.s_, .int .i64 x.at_]) r28_b7 r28_s1.wait_] ++ F0))
                  unfold F.law13_KeyringNews.r21 at hF
                  refine cw_seq ?_
                  refine cw_region ?_
                  refine ow_vals 39 (j := 39) [6] [(6, .bool false)] rfl (by kernel_rfl) ?_
                  refine ow_end rfl ?_
                  refine ew_then ?_
                  refine cw_ret ?_
                  have hR := Option.some.inj hF
                  subst hR
                  exact fin1 (H1 := [imm I]) (fun w hs => sat_to [1, 1, 1, 1, 0] 4 rfl hs) rfl (rr_tmp rfl) ⟨rfl, rfl⟩
          · rw [hO] at hF
            try dsimp only [optC] at hF
            refine nw_H (H' := [imm I, pt r86_b2 #[.pointer (some ⟨r28_b2, 0, none⟩), .int .i64 r86_s1.boot_, .int .i64 r86_s1.n_] 64, pt r28_b2 #[.slice r28_p4 r28_s1.sure_.length r28_c5, .map (some r28_b7), .bool r28_s1.off_, .bool r28_s1.armed_, .int .i64 r28_s1.left_, .int .u64 r28_s1.fall_.Keep, .int .i64 r28_s1.fall_.Tear, .int .i64 r28_s1.acts_, .int .i64 r28_s1.falls_] 60, pt r117_b2 #[.pointer (some ⟨r86_b2, 0, none⟩), .int .i64 r117_s1.base_, .int .i64 r117_s1.slots_, .int .i64 r117_s1.shred_] 51, own e_disk_sector 62 r28_p4 r28_c5 r28_s1.sure_, mpo (kInt .i64) (fun x : disk_sector => Value.agg #[.string x.s_, .int .i64 x.at_]) r28_b7 r28_s1.wait_] ++ F0) rfl (nw_ow ?_)
            refine ow_vals 5 (j := 9) [0, 1, 2, 7, 11, 12] [(0, .int .i64 x0), (1, .int .i64 x1), (2, .int .i64 x2), (7, .pointer (some ⟨r28_b2, 0, none⟩)), (11, .pointer (some ⟨r117_b2, 0, none⟩)), (12, .int .i64 r117.2)] rfl (by kernel_rfl) ?_
            refine ow_end rfl ?_
            refine ew_then ?_
            refine cw_seq ?_
            refine cw_region ?_
            refine ow_vals 2 (j := 2) [0, 1, 2, 7, 11, 12, 46, 47] [(0, .int .i64 x0), (1, .int .i64 x1), (2, .int .i64 x2), (7, .pointer (some ⟨r28_b2, 0, none⟩)), (11, .pointer (some ⟨r117_b2, 0, none⟩)), (12, .int .i64 r117.2), (46, .int .i64 x1), (47, .int .i64 x2)] rfl (by kernel_rfl) ?_
            obtain ⟨r140, h141, hF⟩ := bind_some hF
            refine ow_pw rfl (pw_call (F := [pt r86_b2 #[.pointer (some ⟨r28_b2, 0, none⟩), .int .i64 r86_s1.boot_, .int .i64 r86_s1.n_] 64, pt r28_b2 #[.slice r28_p4 r28_s1.sure_.length r28_c5, .map (some r28_b7), .bool r28_s1.off_, .bool r28_s1.armed_, .int .i64 r28_s1.left_, .int .u64 r28_s1.fall_.Keep, .int .i64 r28_s1.fall_.Tear, .int .i64 r28_s1.acts_, .int .i64 r28_s1.falls_] 60, pt r117_b2 #[.pointer (some ⟨r86_b2, 0, none⟩), .int .i64 r117_s1.base_, .int .i64 r117_s1.slots_, .int .i64 r117_s1.shred_] 51, own e_disk_sector 62 r28_p4 r28_c5 r28_s1.sure_, mpo (kInt .i64) (fun x : disk_sector => Value.agg #[.string x.s_, .int .i64 x.at_]) r28_b7 r28_s1.wait_] ++ F0) rfl rfl rfl rfl rfl rfl rfl (by kernel_rfl) (perm_of_pulls [0] rfl) (c_keyring_New _ x1 x2 r140 h141) ?_)
            rintro _ _ ⟨rfl, rfl⟩
            refine nw_H (H' := [imm I, pt r86_b2 #[.pointer (some ⟨r28_b2, 0, none⟩), .int .i64 r86_s1.boot_, .int .i64 r86_s1.n_] 64, pt r28_b2 #[.slice r28_p4 r28_s1.sure_.length r28_c5, .map (some r28_b7), .bool r28_s1.off_, .bool r28_s1.armed_, .int .i64 r28_s1.left_, .int .u64 r28_s1.fall_.Keep, .int .i64 r28_s1.fall_.Tear, .int .i64 r28_s1.acts_, .int .i64 r28_s1.falls_] 60, pt r117_b2 #[.pointer (some ⟨r86_b2, 0, none⟩), .int .i64 r117_s1.base_, .int .i64 r117_s1.slots_, .int .i64 r117_s1.shred_] 51, own e_disk_sector 62 r28_p4 r28_c5 r28_s1.sure_, mpo (kInt .i64) (fun x : disk_sector => Value.agg #[.string x.s_, .int .i64 x.at_]) r28_b7 r28_s1.wait_] ++ F0) rfl (nw_ow ?_)
            refine ow_vals 5 (j := 8) [0, 1, 2, 7, 11, 12, 14] [(0, .int .i64 x0), (1, .int .i64 x1), (2, .int .i64 x2), (7, .pointer (some ⟨r28_b2, 0, none⟩)), (11, .pointer (some ⟨r117_b2, 0, none⟩)), (12, .int .i64 r117.2), (14, .int .i64 r140)] rfl (by kernel_rfl) ?_
            refine ow_end rfl ?_
            refine ew_then ?_
            refine cw_seq ?_
            refine cw_seq ?_
            refine cw_region ?_
            refine ow_vals 2 (j := 2) [0, 1, 2, 7, 11, 12, 52] [(0, .int .i64 x0), (1, .int .i64 x1), (2, .int .i64 x2), (7, .pointer (some ⟨r28_b2, 0, none⟩)), (11, .pointer (some ⟨r117_b2, 0, none⟩)), (12, .int .i64 r117.2), (52, .bool (r140 != 1))] rfl (by kernel_rfl) ?_
            refine ow_end rfl ?_
            refine ew_then ?_
            rcases if_some hF with ⟨h142, hF⟩ | ⟨h142, hF⟩
            · refine cw_cond_t rfl rfl h142 ?_
              refine cw_seq ?_
              refine cw_region ?_
              refine ow_vals 1 (j := 1) [6] [(6, .bool false)] rfl (by kernel_rfl) ?_
              refine ow_end rfl ?_
              refine ew_then ?_
              refine cw_ret ?_
              refine ew_then_ret ?_
              have hR := Option.some.inj hF
              subst hR
              exact fin1 (H1 := [imm I]) (fun w hs => sat_to [1, 1, 1, 1, 1, 0] 5 rfl hs) rfl (rr_tmp rfl) ⟨rfl, rfl⟩
            · refine cw_cond_f rfl rfl h142 ?_
              refine cw_skip ?_
              refine ew_then ?_
              obtain ⟨v143, hF, hK143⟩ := thru_some hF
              refine cw_mid (fun a w => .inl () = v143 ∧ Fr 129 [(0, .int .i64 x0), (1, .int .i64 x1), (2, .int .i64 x2), (7, .pointer (some ⟨r28_b2, 0, none⟩)), (11, .pointer (some ⟨r117_b2, 0, none⟩)), (12, .int .i64 r117.2)] a ∧ SAT w0 ([imm I, pt r86_b2 #[.pointer (some ⟨r28_b2, 0, none⟩), .int .i64 r86_s1.boot_, .int .i64 r86_s1.n_] 64, pt r28_b2 #[.slice r28_p4 r28_s1.sure_.length r28_c5, .map (some r28_b7), .bool r28_s1.off_, .bool r28_s1.armed_, .int .i64 r28_s1.left_, .int .u64 r28_s1.fall_.Keep, .int .i64 r28_s1.fall_.Tear, .int .i64 r28_s1.acts_, .int .i64 r28_s1.falls_] 60, pt r117_b2 #[.pointer (some ⟨r86_b2, 0, none⟩), .int .i64 r117_s1.base_, .int .i64 r117_s1.slots_, .int .i64 r117_s1.shred_] 51, own e_disk_sector 62 r28_p4 r28_c5 r28_s1.sure_, mpo (kInt .i64) (fun x : disk_sector => Value.agg #[.string x.s_, .int .i64 x.at_]) r28_b7 r28_s1.wait_] ++ F0) w) ?_ ?_
              · obtain ⟨v144, hF, hK144⟩ := bind_some hF
                refine cw_mid (fun a w => ∃ (x147 : Bool), x147 = v144 ∧ Fr 129 [(0, .int .i64 x0), (1, .int .i64 x1), (2, .int .i64 x2), (7, .pointer (some ⟨r28_b2, 0, none⟩)), (11, .pointer (some ⟨r117_b2, 0, none⟩)), (12, .int .i64 r117.2), (62, .bool x147)] a ∧ SAT w0 ([imm I, pt r86_b2 #[.pointer (some ⟨r28_b2, 0, none⟩), .int .i64 r86_s1.boot_, .int .i64 r86_s1.n_] 64, pt r28_b2 #[.slice r28_p4 r28_s1.sure_.length r28_c5, .map (some r28_b7), .bool r28_s1.off_, .bool r28_s1.armed_, .int .i64 r28_s1.left_, .int .u64 r28_s1.fall_.Keep, .int .i64 r28_s1.fall_.Tear, .int .i64 r28_s1.acts_, .int .i64 r28_s1.falls_] 60, pt r117_b2 #[.pointer (some ⟨r86_b2, 0, none⟩), .int .i64 r117_s1.base_, .int .i64 r117_s1.slots_, .int .i64 r117_s1.shred_] 51, own e_disk_sector 62 r28_p4 r28_c5 r28_s1.sure_, mpo (kInt .i64) (fun x : disk_sector => Value.agg #[.string x.s_, .int .i64 x.at_]) r28_b7 r28_s1.wait_] ++ F0) w) ?_ ?_
                · refine cw_region ?_
                  refine ow_vals 3 (j := 3) [0, 1, 2, 7, 11, 12, 55] [(0, .int .i64 x0), (1, .int .i64 x1), (2, .int .i64 x2), (7, .pointer (some ⟨r28_b2, 0, none⟩)), (11, .pointer (some ⟨r117_b2, 0, none⟩)), (12, .int .i64 r117.2), (55, .bool (decide (x1 < 0)))] rfl (by kernel_rfl) ?_
                  rcases if_some hF with ⟨h145, hF⟩ | ⟨h145, hF⟩
                  · refine ow_slots (L' := [(0, .int .i64 x0), (1, .int .i64 x1), (2, .int .i64 x2), (7, .pointer (some ⟨r28_b2, 0, none⟩)), (11, .pointer (some ⟨r117_b2, 0, none⟩)), (12, .int .i64 r117.2), (55, .bool true)]) (by rw [h145]) ?_
                    refine ow_vals 7 (j := 10) [0, 1, 2, 7, 11, 12, 62] [(0, .int .i64 x0), (1, .int .i64 x1), (2, .int .i64 x2), (7, .pointer (some ⟨r28_b2, 0, none⟩)), (11, .pointer (some ⟨r117_b2, 0, none⟩)), (12, .int .i64 r117.2), (62, .bool true)] rfl (by kernel_rfl) ?_
                    refine ow_end rfl ?_
                    have hR := Option.some.inj hF
                    exact fun a w hf hs => ⟨true, hR, hf.keep [0, 1, 2, 7, 11, 12, 62], sat_to [0, 0, 0, 0, 0, 0] 0 rfl hs⟩
                  · refine ow_slots (L' := [(0, .int .i64 x0), (1, .int .i64 x1), (2, .int .i64 x2), (7, .pointer (some ⟨r28_b2, 0, none⟩)), (11, .pointer (some ⟨r117_b2, 0, none⟩)), (12, .int .i64 r117.2), (55, .bool false)]) (by rw [h145]) ?_
                    refine ow_vals 4 (j := 7) [0, 1, 2, 7, 11, 12, 59] [(0, .int .i64 x0), (1, .int .i64 x1), (2, .int .i64 x2), (7, .pointer (some ⟨r28_b2, 0, none⟩)), (11, .pointer (some ⟨r117_b2, 0, none⟩)), (12, .int .i64 r117.2), (59, .bool (decide (x2 < 1)))] rfl (by kernel_rfl) ?_
                    rcases if_some hF with ⟨h146, hF⟩ | ⟨h146, hF⟩
                    · refine ow_slots (L' := [(0, .int .i64 x0), (1, .int .i64 x1), (2, .int .i64 x2), (7, .pointer (some ⟨r28_b2, 0, none⟩)), (11, .pointer (some ⟨r117_b2, 0, none⟩)), (12, .int .i64 r117.2), (59, .bool true)]) (by rw [h146]) ?_
                      refine ow_vals 3 (j := 10) [0, 1, 2, 7, 11, 12, 62] [(0, .int .i64 x0), (1, .int .i64 x1), (2, .int .i64 x2), (7, .pointer (some ⟨r28_b2, 0, none⟩)), (11, .pointer (some ⟨r117_b2, 0, none⟩)), (12, .int .i64 r117.2), (62, .bool true)] rfl (by kernel_rfl) ?_
                      refine ow_end rfl ?_
                      have hR := Option.some.inj hF
                      exact fun a w hf hs => ⟨true, hR, hf.keep [0, 1, 2, 7, 11, 12, 62], sat_to [0, 0, 0, 0, 0, 0] 0 rfl hs⟩
                    · refine ow_slots (L' := [(0, .int .i64 x0), (1, .int .i64 x1), (2, .int .i64 x2), (7, .pointer (some ⟨r28_b2, 0, none⟩)), (11, .pointer (some ⟨r117_b2, 0, none⟩)), (12, .int .i64 r117.2), (59, .bool false)]) (by rw [h146]) ?_
                      refine ow_vals 3 (j := 10) [0, 1, 2, 7, 11, 12, 62] [(0, .int .i64 x0), (1, .int .i64 x1), (2, .int .i64 x2), (7, .pointer (some ⟨r28_b2, 0, none⟩)), (11, .pointer (some ⟨r117_b2, 0, none⟩)), (12, .int .i64 r117.2), (62, .bool (decide (x2 > 64)))] rfl (by kernel_rfl) ?_
                      refine ow_end rfl ?_
                      have hR := Option.some.inj hF
                      exact fun a w hf hs => ⟨decide (x2 > 64), hR, hf.keep [0, 1, 2, 7, 11, 12, 62], sat_to [0, 0, 0, 0, 0, 0] 0 rfl hs⟩
                · rintro a w ⟨x147, hv, hf, hs⟩
                  subst hv
                  replace hF := hK144
                  clear hK144
                  try dsimp only at hF
                  revert a w
                  show CW _ _ _ 129 [(0, .int .i64 x0), (1, .int .i64 x1), (2, .int .i64 x2), (7, .pointer (some ⟨r28_b2, 0, none⟩)), (11, .pointer (some ⟨r117_b2, 0, none⟩)), (12, .int .i64 r117.2), (62, .bool x147)] (SAT w0 ([imm I, pt r86_b2 #[.pointer (some ⟨r28_b2, 0, none⟩), .int .i64 r86_s1.boot_, .int .i64 r86_s1.n_] 64, pt r28_b2 #[.slice r28_p4 r28_s1.sure_.length r28_c5, .map (some r28_b7), .bool r28_s1.off_, .bool r28_s1.armed_, .int .i64 r28_s1.left_, .int .u64 r28_s1.fall_.Keep, .int .i64 r28_s1.fall_.Tear, .int .i64 r28_s1.acts_, .int .i64 r28_s1.falls_] 60, pt r117_b2 #[.pointer (some ⟨r86_b2, 0, none⟩), .int .i64 r117_s1.base_, .int .i64 r117_s1.slots_, .int .i64 r117_s1.shred_] 51, own e_disk_sector 62 r28_p4 r28_c5 r28_s1.sure_, mpo (kInt .i64) (fun x : disk_sector => Value.agg #[.string x.s_, .int .i64 x.at_]) r28_b7 r28_s1.wait_] ++ F0))
                  unfold F.law13_KeyringNews.r22 at hF
                  rcases if_some hF with ⟨h148, hF⟩ | ⟨h148, hF⟩
                  · refine cw_cond_t rfl rfl h148 ?_
                    refine cw_seq ?_
                    refine cw_region ?_
                    refine ow_vals 10 (j := 10) [6] [(6, .bool false)] rfl (by kernel_rfl) ?_
                    refine ow_end rfl ?_
                    refine ew_then ?_
                    refine cw_ret ?_
                    refine ew_then_ret ?_
                    have hR := Option.some.inj hF
                    subst hR
                    have hR := hK143
                    try dsimp only [Thru] at hR
                    subst hR
                    exact fin1 (H1 := [imm I]) (fun w hs => sat_to [1, 1, 1, 1, 1, 0] 5 rfl hs) rfl (rr_tmp rfl) ⟨rfl, rfl⟩
                  · refine cw_cond_f rfl rfl h148 ?_
                    refine cw_skip ?_
                    have hR := Option.some.inj hF
                    exact fun a w hf hs => ⟨hR, hf.keep [0, 1, 2, 7, 11, 12], sat_to [0, 0, 0, 0, 0, 0] 0 rfl hs⟩
              · rintro a w ⟨hv, hf, hs⟩
                subst hv
                replace hF := hK143
                clear hK143
                try dsimp only [Thru] at hF
                revert a w
                show CW _ _ _ 129 [(0, .int .i64 x0), (1, .int .i64 x1), (2, .int .i64 x2), (7, .pointer (some ⟨r28_b2, 0, none⟩)), (11, .pointer (some ⟨r117_b2, 0, none⟩)), (12, .int .i64 r117.2)] (SAT w0 ([imm I, pt r86_b2 #[.pointer (some ⟨r28_b2, 0, none⟩), .int .i64 r86_s1.boot_, .int .i64 r86_s1.n_] 64, pt r28_b2 #[.slice r28_p4 r28_s1.sure_.length r28_c5, .map (some r28_b7), .bool r28_s1.off_, .bool r28_s1.armed_, .int .i64 r28_s1.left_, .int .u64 r28_s1.fall_.Keep, .int .i64 r28_s1.fall_.Tear, .int .i64 r28_s1.acts_, .int .i64 r28_s1.falls_] 60, pt r117_b2 #[.pointer (some ⟨r86_b2, 0, none⟩), .int .i64 r117_s1.base_, .int .i64 r117_s1.slots_, .int .i64 r117_s1.shred_] 51, own e_disk_sector 62 r28_p4 r28_c5 r28_s1.sure_, mpo (kInt .i64) (fun x : disk_sector => Value.agg #[.string x.s_, .int .i64 x.at_]) r28_b7 r28_s1.wait_] ++ F0))
                unfold F.law13_KeyringNews.r23 at hF
                obtain ⟨v149, hF, hK149⟩ := thru_some hF
                refine cw_mid (fun a w => .inl () = v149 ∧ Fr 129 [(2, .int .i64 x2), (7, .pointer (some ⟨r28_b2, 0, none⟩)), (11, .pointer (some ⟨r117_b2, 0, none⟩)), (12, .int .i64 r117.2)] a ∧ SAT w0 ([imm I, pt r86_b2 #[.pointer (some ⟨r28_b2, 0, none⟩), .int .i64 r86_s1.boot_, .int .i64 r86_s1.n_] 64, pt r28_b2 #[.slice r28_p4 r28_s1.sure_.length r28_c5, .map (some r28_b7), .bool r28_s1.off_, .bool r28_s1.armed_, .int .i64 r28_s1.left_, .int .u64 r28_s1.fall_.Keep, .int .i64 r28_s1.fall_.Tear, .int .i64 r28_s1.acts_, .int .i64 r28_s1.falls_] 60, pt r117_b2 #[.pointer (some ⟨r86_b2, 0, none⟩), .int .i64 r117_s1.base_, .int .i64 r117_s1.slots_, .int .i64 r117_s1.shred_] 51, own e_disk_sector 62 r28_p4 r28_c5 r28_s1.sure_, mpo (kInt .i64) (fun x : disk_sector => Value.agg #[.string x.s_, .int .i64 x.at_]) r28_b7 r28_s1.wait_] ++ F0) w) ?_ ?_
                · obtain ⟨v150, hF, hK150⟩ := bind_some hF
                  refine cw_mid (fun a w => ∃ (x152 : Bool), x152 = v150 ∧ Fr 129 [(2, .int .i64 x2), (7, .pointer (some ⟨r28_b2, 0, none⟩)), (11, .pointer (some ⟨r117_b2, 0, none⟩)), (12, .int .i64 r117.2), (81, .bool x152)] a ∧ SAT w0 ([imm I, pt r86_b2 #[.pointer (some ⟨r28_b2, 0, none⟩), .int .i64 r86_s1.boot_, .int .i64 r86_s1.n_] 64, pt r28_b2 #[.slice r28_p4 r28_s1.sure_.length r28_c5, .map (some r28_b7), .bool r28_s1.off_, .bool r28_s1.armed_, .int .i64 r28_s1.left_, .int .u64 r28_s1.fall_.Keep, .int .i64 r28_s1.fall_.Tear, .int .i64 r28_s1.acts_, .int .i64 r28_s1.falls_] 60, pt r117_b2 #[.pointer (some ⟨r86_b2, 0, none⟩), .int .i64 r117_s1.base_, .int .i64 r117_s1.slots_, .int .i64 r117_s1.shred_] 51, own e_disk_sector 62 r28_p4 r28_c5 r28_s1.sure_, mpo (kInt .i64) (fun x : disk_sector => Value.agg #[.string x.s_, .int .i64 x.at_]) r28_b7 r28_s1.wait_] ++ F0) w) ?_ ?_
                  · refine cw_region ?_
                    refine ow_vals 4 (j := 4) [0, 1, 2, 7, 11, 12, 75] [(0, .int .i64 x0), (1, .int .i64 x1), (2, .int .i64 x2), (7, .pointer (some ⟨r28_b2, 0, none⟩)), (11, .pointer (some ⟨r117_b2, 0, none⟩)), (12, .int .i64 r117.2), (75, .bool (decide (x1 > x0)))] rfl (by kernel_rfl) ?_
                    rcases if_some hF with ⟨h151, hF⟩ | ⟨h151, hF⟩
                    · refine ow_slots (L' := [(0, .int .i64 x0), (1, .int .i64 x1), (2, .int .i64 x2), (7, .pointer (some ⟨r28_b2, 0, none⟩)), (11, .pointer (some ⟨r117_b2, 0, none⟩)), (12, .int .i64 r117.2), (75, .bool true)]) (by rw [h151]) ?_
                      refine ow_vals 6 (j := 10) [2, 7, 11, 12, 81] [(2, .int .i64 x2), (7, .pointer (some ⟨r28_b2, 0, none⟩)), (11, .pointer (some ⟨r117_b2, 0, none⟩)), (12, .int .i64 r117.2), (81, .bool true)] rfl (by kernel_rfl) ?_
                      refine ow_end rfl ?_
                      have hR := Option.some.inj hF
                      exact fun a w hf hs => ⟨true, hR, hf.keep [2, 7, 11, 12, 81], sat_to [0, 0, 0, 0, 0, 0] 0 rfl hs⟩
                    · refine ow_slots (L' := [(0, .int .i64 x0), (1, .int .i64 x1), (2, .int .i64 x2), (7, .pointer (some ⟨r28_b2, 0, none⟩)), (11, .pointer (some ⟨r117_b2, 0, none⟩)), (12, .int .i64 r117.2), (75, .bool false)]) (by rw [h151]) ?_
                      refine ow_vals 6 (j := 10) [2, 7, 11, 12, 81] [(2, .int .i64 x2), (7, .pointer (some ⟨r28_b2, 0, none⟩)), (11, .pointer (some ⟨r117_b2, 0, none⟩)), (12, .int .i64 r117.2), (81, .bool (decide (x2 > (IntKind.i64.wrap (x0 - x1)))))] rfl (by kernel_rfl) ?_
                      refine ow_end rfl ?_
                      have hR := Option.some.inj hF
                      exact fun a w hf hs => ⟨decide (x2 > (IntKind.i64.wrap (x0 - x1))), hR, hf.keep [2, 7, 11, 12, 81], sat_to [0, 0, 0, 0, 0, 0] 0 rfl hs⟩
                  · rintro a w ⟨x152, hv, hf, hs⟩
                    subst hv
                    replace hF := hK150
                    clear hK150
                    try dsimp only at hF
                    revert a w
                    show CW _ _ _ 129 [(2, .int .i64 x2), (7, .pointer (some ⟨r28_b2, 0, none⟩)), (11, .pointer (some ⟨r117_b2, 0, none⟩)), (12, .int .i64 r117.2), (81, .bool x152)] (SAT w0 ([imm I, pt r86_b2 #[.pointer (some ⟨r28_b2, 0, none⟩), .int .i64 r86_s1.boot_, .int .i64 r86_s1.n_] 64, pt r28_b2 #[.slice r28_p4 r28_s1.sure_.length r28_c5, .map (some r28_b7), .bool r28_s1.off_, .bool r28_s1.armed_, .int .i64 r28_s1.left_, .int .u64 r28_s1.fall_.Keep, .int .i64 r28_s1.fall_.Tear, .int .i64 r28_s1.acts_, .int .i64 r28_s1.falls_] 60, pt r117_b2 #[.pointer (some ⟨r86_b2, 0, none⟩), .int .i64 r117_s1.base_, .int .i64 r117_s1.slots_, .int .i64 r117_s1.shred_] 51, own e_disk_sector 62 r28_p4 r28_c5 r28_s1.sure_, mpo (kInt .i64) (fun x : disk_sector => Value.agg #[.string x.s_, .int .i64 x.at_]) r28_b7 r28_s1.wait_] ++ F0))
                    unfold F.law13_KeyringNews.r24 at hF
                    rcases if_some hF with ⟨h153, hF⟩ | ⟨h153, hF⟩
                    · refine cw_cond_t rfl rfl h153 ?_
                      refine cw_seq ?_
                      refine cw_region ?_
                      refine ow_vals 10 (j := 10) [6] [(6, .bool false)] rfl (by kernel_rfl) ?_
                      refine ow_end rfl ?_
                      refine ew_then ?_
                      refine cw_ret ?_
                      refine ew_then_ret ?_
                      have hR := Option.some.inj hF
                      subst hR
                      have hR := hK149
                      try dsimp only [Thru] at hR
                      subst hR
                      exact fin1 (H1 := [imm I]) (fun w hs => sat_to [1, 1, 1, 1, 1, 0] 5 rfl hs) rfl (rr_tmp rfl) ⟨rfl, rfl⟩
                    · refine cw_cond_f rfl rfl h153 ?_
                      refine cw_skip ?_
                      have hR := Option.some.inj hF
                      exact fun a w hf hs => ⟨hR, hf.keep [2, 7, 11, 12], sat_to [0, 0, 0, 0, 0, 0] 0 rfl hs⟩
                · rintro a w ⟨hv, hf, hs⟩
                  subst hv
                  replace hF := hK149
                  clear hK149
                  try dsimp only [Thru] at hF
                  revert a w
                  show CW _ _ _ 129 [(2, .int .i64 x2), (7, .pointer (some ⟨r28_b2, 0, none⟩)), (11, .pointer (some ⟨r117_b2, 0, none⟩)), (12, .int .i64 r117.2)] (SAT w0 ([imm I, pt r86_b2 #[.pointer (some ⟨r28_b2, 0, none⟩), .int .i64 r86_s1.boot_, .int .i64 r86_s1.n_] 64, pt r28_b2 #[.slice r28_p4 r28_s1.sure_.length r28_c5, .map (some r28_b7), .bool r28_s1.off_, .bool r28_s1.armed_, .int .i64 r28_s1.left_, .int .u64 r28_s1.fall_.Keep, .int .i64 r28_s1.fall_.Tear, .int .i64 r28_s1.acts_, .int .i64 r28_s1.falls_] 60, pt r117_b2 #[.pointer (some ⟨r86_b2, 0, none⟩), .int .i64 r117_s1.base_, .int .i64 r117_s1.slots_, .int .i64 r117_s1.shred_] 51, own e_disk_sector 62 r28_p4 r28_c5 r28_s1.sure_, mpo (kInt .i64) (fun x : disk_sector => Value.agg #[.string x.s_, .int .i64 x.at_]) r28_b7 r28_s1.wait_] ++ F0))
                  unfold F.law13_KeyringNews.r25 at hF
                  refine cw_seq ?_
                  refine cw_region ?_
                  refine ow_vals 7 (j := 7) [2, 7, 11, 97] [(2, .int .i64 x2), (7, .pointer (some ⟨r28_b2, 0, none⟩)), (11, .pointer (some ⟨r117_b2, 0, none⟩)), (97, .bool (r117.2 == 0))] rfl (by kernel_rfl) ?_
                  rcases if_some hF with ⟨h154, hF⟩ | ⟨h154, hF⟩
                  · refine ow_slots (L' := [(2, .int .i64 x2), (7, .pointer (some ⟨r28_b2, 0, none⟩)), (11, .pointer (some ⟨r117_b2, 0, none⟩)), (97, .bool true)]) (by rw [h154]) ?_
                    refine ow_vals 1 (j := 8) [2, 7, 11, 97, 98] [(2, .int .i64 x2), (7, .pointer (some ⟨r28_b2, 0, none⟩)), (11, .pointer (some ⟨r117_b2, 0, none⟩)), (97, .bool true), (98, .pointer (some ⟨r117_b2, 0, none⟩))] rfl (by kernel_rfl) ?_
                    obtain ⟨r155, h156, hF⟩ := bind_some hF
                    refine ow_pw rfl (pw_call (F := [] ++ F0) rfl rfl rfl rfl rfl rfl rfl (by kernel_rfl) (perm_of_pulls [0, 2, 0, 0, 0, 0] rfl) (c_keyring_Ring_Slots _ r117_s1 r86_s1 r28_s1 r117_b2 r86_b2 r28_p4 r28_c5 r28_b7 r28_b2 r155 h156) ?_)
                    rintro _ _ ⟨rfl, rfl⟩
                    refine nw_H (H' := [imm I, pt r117_b2 #[.pointer (some ⟨r86_b2, 0, none⟩), .int .i64 r117_s1.base_, .int .i64 r117_s1.slots_, .int .i64 r117_s1.shred_] 51, pt r86_b2 #[.pointer (some ⟨r28_b2, 0, none⟩), .int .i64 r86_s1.boot_, .int .i64 r86_s1.n_] 64, pt r28_b2 #[.slice r28_p4 r28_s1.sure_.length r28_c5, .map (some r28_b7), .bool r28_s1.off_, .bool r28_s1.armed_, .int .i64 r28_s1.left_, .int .u64 r28_s1.fall_.Keep, .int .i64 r28_s1.fall_.Tear, .int .i64 r28_s1.acts_, .int .i64 r28_s1.falls_] 60, own e_disk_sector 62 r28_p4 r28_c5 r28_s1.sure_, mpo (kInt .i64) (fun x : disk_sector => Value.agg #[.string x.s_, .int .i64 x.at_]) r28_b7 r28_s1.wait_] ++ F0) rfl (nw_ow ?_)
                    refine ow_vals 4 (j := 13) [2, 7, 11, 103] [(2, .int .i64 x2), (7, .pointer (some ⟨r28_b2, 0, none⟩)), (11, .pointer (some ⟨r117_b2, 0, none⟩)), (103, .bool (r155 == x2))] rfl (by kernel_rfl) ?_
                    rcases if_some hF with ⟨h157, hF⟩ | ⟨h157, hF⟩
                    · refine ow_slots (L' := [(2, .int .i64 x2), (7, .pointer (some ⟨r28_b2, 0, none⟩)), (11, .pointer (some ⟨r117_b2, 0, none⟩)), (103, .bool true)]) (by rw [h157]) ?_
                      refine ow_vals 3 (j := 16) [2, 7, 11, 103, 104, 106] [(2, .int .i64 x2), (7, .pointer (some ⟨r28_b2, 0, none⟩)), (11, .pointer (some ⟨r117_b2, 0, none⟩)), (103, .bool true), (104, .pointer (some ⟨r117_b2, 0, none⟩)), (106, .int .i64 (IntKind.i64.wrap (x2 - 1)))] rfl (by kernel_rfl) ?_
                      obtain ⟨r158, h159, hF⟩ := bind_some hF
                      refine ow_pw rfl (pw_call (F := [] ++ F0) rfl rfl rfl rfl rfl rfl rfl (by kernel_rfl) (perm_of_pulls [0, 0, 0, 0, 0, 0] rfl) (c_keyring_Ring_Free _ (IntKind.i64.wrap (x2 - 1)) r117_s1 r86_s1 r28_s1 r117_b2 r86_b2 r28_p4 r28_c5 r28_b7 r28_b2 r158 h159) ?_)
                      rintro _ _ ⟨rfl, rfl⟩
                      refine nw_H (H' := [imm I, pt r117_b2 #[.pointer (some ⟨r86_b2, 0, none⟩), .int .i64 r117_s1.base_, .int .i64 r117_s1.slots_, .int .i64 r117_s1.shred_] 51, pt r86_b2 #[.pointer (some ⟨r28_b2, 0, none⟩), .int .i64 r86_s1.boot_, .int .i64 r86_s1.n_] 64, pt r28_b2 #[.slice r28_p4 r28_s1.sure_.length r28_c5, .map (some r28_b7), .bool r28_s1.off_, .bool r28_s1.armed_, .int .i64 r28_s1.left_, .int .u64 r28_s1.fall_.Keep, .int .i64 r28_s1.fall_.Tear, .int .i64 r28_s1.acts_, .int .i64 r28_s1.falls_] 60, own e_disk_sector 62 r28_p4 r28_c5 r28_s1.sure_, mpo (kInt .i64) (fun x : disk_sector => Value.agg #[.string x.s_, .int .i64 x.at_]) r28_b7 r28_s1.wait_] ++ F0) rfl (nw_ow ?_)
                      refine ow_vals 2 (j := 19) [2, 7, 11, 109] [(2, .int .i64 x2), (7, .pointer (some ⟨r28_b2, 0, none⟩)), (11, .pointer (some ⟨r117_b2, 0, none⟩)), (109, .bool r158)] rfl (by kernel_rfl) ?_
                      rcases if_some hF with ⟨h160, hF⟩ | ⟨h160, hF⟩
                      · refine ow_slots (L' := [(2, .int .i64 x2), (7, .pointer (some ⟨r28_b2, 0, none⟩)), (11, .pointer (some ⟨r117_b2, 0, none⟩)), (109, .bool true)]) (by rw [h160]) ?_
                        refine ow_vals 2 (j := 21) [7, 11, 109, 110, 111] [(7, .pointer (some ⟨r28_b2, 0, none⟩)), (11, .pointer (some ⟨r117_b2, 0, none⟩)), (109, .bool true), (110, .pointer (some ⟨r117_b2, 0, none⟩)), (111, .int .i64 x2)] rfl (by kernel_rfl) ?_
                        obtain ⟨r161, h162, hF⟩ := bind_some hF
                        refine ow_pw rfl (pw_call (F := [] ++ F0) rfl rfl rfl rfl rfl rfl rfl (by kernel_rfl) (perm_of_pulls [0, 0, 0, 0, 0, 0] rfl) (c_keyring_Ring_Free _ x2 r117_s1 r86_s1 r28_s1 r117_b2 r86_b2 r28_p4 r28_c5 r28_b7 r28_b2 r161 h162) ?_)
                        rintro _ _ ⟨rfl, rfl⟩
                        refine nw_H (H' := [imm I, pt r117_b2 #[.pointer (some ⟨r86_b2, 0, none⟩), .int .i64 r117_s1.base_, .int .i64 r117_s1.slots_, .int .i64 r117_s1.shred_] 51, pt r86_b2 #[.pointer (some ⟨r28_b2, 0, none⟩), .int .i64 r86_s1.boot_, .int .i64 r86_s1.n_] 64, pt r28_b2 #[.slice r28_p4 r28_s1.sure_.length r28_c5, .map (some r28_b7), .bool r28_s1.off_, .bool r28_s1.armed_, .int .i64 r28_s1.left_, .int .u64 r28_s1.fall_.Keep, .int .i64 r28_s1.fall_.Tear, .int .i64 r28_s1.acts_, .int .i64 r28_s1.falls_] 60, own e_disk_sector 62 r28_p4 r28_c5 r28_s1.sure_, mpo (kInt .i64) (fun x : disk_sector => Value.agg #[.string x.s_, .int .i64 x.at_]) r28_b7 r28_s1.wait_] ++ F0) rfl (nw_ow ?_)
                        refine ow_vals 3 (j := 25) [7, 11, 115] [(7, .pointer (some ⟨r28_b2, 0, none⟩)), (11, .pointer (some ⟨r117_b2, 0, none⟩)), (115, .bool (!r161))] rfl (by kernel_rfl) ?_
                        rcases if_some hF with ⟨h163, hF⟩ | ⟨h163, hF⟩
                        · refine ow_slots (L' := [(7, .pointer (some ⟨r28_b2, 0, none⟩)), (11, .pointer (some ⟨r117_b2, 0, none⟩)), (115, .bool true)]) (by rw [h163]) ?_
                          refine ow_vals 1 (j := 26) [7, 115, 116] [(7, .pointer (some ⟨r28_b2, 0, none⟩)), (115, .bool true), (116, .pointer (some ⟨r117_b2, 0, none⟩))] rfl (by kernel_rfl) ?_
                          obtain ⟨r164, h165, hF⟩ := bind_some hF
                          refine ow_pw rfl (pw_call (F := [] ++ F0) rfl rfl rfl rfl rfl rfl rfl (by kernel_rfl) (perm_of_pulls [0, 0, 0, 0, 0, 0] rfl) (c_keyring_Ring_Free _ (-1) r117_s1 r86_s1 r28_s1 r117_b2 r86_b2 r28_p4 r28_c5 r28_b7 r28_b2 r164 h165) ?_)
                          rintro _ _ ⟨rfl, rfl⟩
                          refine nw_H (H' := [imm I, pt r117_b2 #[.pointer (some ⟨r86_b2, 0, none⟩), .int .i64 r117_s1.base_, .int .i64 r117_s1.slots_, .int .i64 r117_s1.shred_] 51, pt r86_b2 #[.pointer (some ⟨r28_b2, 0, none⟩), .int .i64 r86_s1.boot_, .int .i64 r86_s1.n_] 64, pt r28_b2 #[.slice r28_p4 r28_s1.sure_.length r28_c5, .map (some r28_b7), .bool r28_s1.off_, .bool r28_s1.armed_, .int .i64 r28_s1.left_, .int .u64 r28_s1.fall_.Keep, .int .i64 r28_s1.fall_.Tear, .int .i64 r28_s1.acts_, .int .i64 r28_s1.falls_] 60, own e_disk_sector 62 r28_p4 r28_c5 r28_s1.sure_, mpo (kInt .i64) (fun x : disk_sector => Value.agg #[.string x.s_, .int .i64 x.at_]) r28_b7 r28_s1.wait_] ++ F0) rfl (nw_ow ?_)
                          refine ow_vals 3 (j := 30) [7, 120] [(7, .pointer (some ⟨r28_b2, 0, none⟩)), (120, .bool (!r164))] rfl (by kernel_rfl) ?_
                          rcases if_some hF with ⟨h166, hF⟩ | ⟨h166, hF⟩
                          · refine ow_slots (L' := [(7, .pointer (some ⟨r28_b2, 0, none⟩)), (120, .bool true)]) (by rw [h166]) ?_
                            refine ow_vals 1 (j := 31) [120, 121] [(120, .bool true), (121, .pointer (some ⟨r28_b2, 0, none⟩))] rfl (by kernel_rfl) ?_
                            obtain ⟨r167, h168, hF⟩ := bind_some hF
                            refine ow_pw rfl (pw_call (F := [pt r117_b2 #[.pointer (some ⟨r86_b2, 0, none⟩), .int .i64 r117_s1.base_, .int .i64 r117_s1.slots_, .int .i64 r117_s1.shred_] 51, pt r86_b2 #[.pointer (some ⟨r28_b2, 0, none⟩), .int .i64 r86_s1.boot_, .int .i64 r86_s1.n_] 64] ++ F0) rfl rfl rfl rfl rfl rfl rfl (by kernel_rfl) (perm_of_pulls [0, 2, 2, 2] rfl) (c_disk_Disk_Waiting _ r28_s1 r28_p4 r28_c5 r28_b7 r28_b2 r167 h168) ?_)
                            rintro _ _ ⟨r167_p1, r167_c2, rfl, rfl⟩
                            refine nw_H (H' := [imm I, pt r28_b2 #[.slice r28_p4 r28_s1.sure_.length r28_c5, .map (some r28_b7), .bool r28_s1.off_, .bool r28_s1.armed_, .int .i64 r28_s1.left_, .int .u64 r28_s1.fall_.Keep, .int .i64 r28_s1.fall_.Tear, .int .i64 r28_s1.acts_, .int .i64 r28_s1.falls_] 60, own (eInt .i64) 3 r167_p1 r167_c2 r167, own e_disk_sector 62 r28_p4 r28_c5 r28_s1.sure_, mpo (kInt .i64) (fun x : disk_sector => Value.agg #[.string x.s_, .int .i64 x.at_]) r28_b7 r28_s1.wait_, pt r117_b2 #[.pointer (some ⟨r86_b2, 0, none⟩), .int .i64 r117_s1.base_, .int .i64 r117_s1.slots_, .int .i64 r117_s1.shred_] 51, pt r86_b2 #[.pointer (some ⟨r28_b2, 0, none⟩), .int .i64 r86_s1.boot_, .int .i64 r86_s1.n_] 64] ++ F0) rfl (nw_ow ?_)
                            refine ow_vals 4 (j := 36) [126] [(126, .bool ((r167.length : Int) == 0))] rfl (by kernel_rfl) ?_
                            rcases if_some hF with ⟨h170, hF⟩ | ⟨h170, hF⟩
                            · refine ow_slots (L' := [(126, .bool true)]) (by rw [h170]) ?_
                              obtain ⟨r171, h172, hF⟩ := bind_some hF
                              refine ow_pw rfl (pw_call (F := [pt r28_b2 #[.slice r28_p4 r28_s1.sure_.length r28_c5, .map (some r28_b7), .bool r28_s1.off_, .bool r28_s1.armed_, .int .i64 r28_s1.left_, .int .u64 r28_s1.fall_.Keep, .int .i64 r28_s1.fall_.Tear, .int .i64 r28_s1.acts_, .int .i64 r28_s1.falls_] 60, own (eInt .i64) 3 r167_p1 r167_c2 r167, own e_disk_sector 62 r28_p4 r28_c5 r28_s1.sure_, mpo (kInt .i64) (fun x : disk_sector => Value.agg #[.string x.s_, .int .i64 x.at_]) r28_b7 r28_s1.wait_, pt r117_b2 #[.pointer (some ⟨r86_b2, 0, none⟩), .int .i64 r117_s1.base_, .int .i64 r117_s1.slots_, .int .i64 r117_s1.shred_] 51, pt r86_b2 #[.pointer (some ⟨r28_b2, 0, none⟩), .int .i64 r86_s1.boot_, .int .i64 r86_s1.n_] 64] ++ F0) rfl rfl rfl rfl rfl rfl rfl (by kernel_rfl) (perm_of_pulls [0] rfl) (c_law13_awake _ r171 h172) ?_)
                              rintro _ _ ⟨rfl, rfl⟩
                              refine nw_H (H' := [imm I, pt r28_b2 #[.slice r28_p4 r28_s1.sure_.length r28_c5, .map (some r28_b7), .bool r28_s1.off_, .bool r28_s1.armed_, .int .i64 r28_s1.left_, .int .u64 r28_s1.fall_.Keep, .int .i64 r28_s1.fall_.Tear, .int .i64 r28_s1.acts_, .int .i64 r28_s1.falls_] 60, own (eInt .i64) 3 r167_p1 r167_c2 r167, own e_disk_sector 62 r28_p4 r28_c5 r28_s1.sure_, mpo (kInt .i64) (fun x : disk_sector => Value.agg #[.string x.s_, .int .i64 x.at_]) r28_b7 r28_s1.wait_, pt r117_b2 #[.pointer (some ⟨r86_b2, 0, none⟩), .int .i64 r117_s1.base_, .int .i64 r117_s1.slots_, .int .i64 r117_s1.shred_] 51, pt r86_b2 #[.pointer (some ⟨r28_b2, 0, none⟩), .int .i64 r86_s1.boot_, .int .i64 r86_s1.n_] 64] ++ F0) rfl (nw_ow ?_)
                              refine ow_vals 2 (j := 39) [6] [(6, .bool r171)] rfl (by kernel_rfl) ?_
                              refine ow_end rfl ?_
                              refine ew_then ?_
                              refine cw_ret ?_
                              have hR := Option.some.inj hF
                              subst hR
                              exact fin1 (H1 := [imm I]) (fun w hs => sat_to [1, 1, 1, 1, 1, 1, 0] 6 rfl hs) rfl (rr_tmp rfl) ⟨rfl, rfl⟩
                            · refine ow_slots (L' := [(126, .bool false)]) (by rw [h170]) ?_
                              refine ow_vals 3 (j := 39) [6] [(6, .bool false)] rfl (by kernel_rfl) ?_
                              refine ow_end rfl ?_
                              refine ew_then ?_
                              refine cw_ret ?_
                              have hR := Option.some.inj hF
                              subst hR
                              exact fin1 (H1 := [imm I]) (fun w hs => sat_to [1, 1, 1, 1, 1, 1, 0] 6 rfl hs) rfl (rr_tmp rfl) ⟨rfl, rfl⟩
                          · refine ow_slots (L' := [(7, .pointer (some ⟨r28_b2, 0, none⟩)), (120, .bool false)]) (by rw [h166]) ?_
                            refine ow_vals 9 (j := 39) [6] [(6, .bool false)] rfl (by kernel_rfl) ?_
                            refine ow_end rfl ?_
                            refine ew_then ?_
                            refine cw_ret ?_
                            have hR := Option.some.inj hF
                            subst hR
                            exact fin1 (H1 := [imm I]) (fun w hs => sat_to [1, 1, 1, 1, 1, 0] 5 rfl hs) rfl (rr_tmp rfl) ⟨rfl, rfl⟩
                        · refine ow_slots (L' := [(7, .pointer (some ⟨r28_b2, 0, none⟩)), (11, .pointer (some ⟨r117_b2, 0, none⟩)), (115, .bool false)]) (by rw [h163]) ?_
                          refine ow_vals 14 (j := 39) [6] [(6, .bool false)] rfl (by kernel_rfl) ?_
                          refine ow_end rfl ?_
                          refine ew_then ?_
                          refine cw_ret ?_
                          have hR := Option.some.inj hF
                          subst hR
                          exact fin1 (H1 := [imm I]) (fun w hs => sat_to [1, 1, 1, 1, 1, 0] 5 rfl hs) rfl (rr_tmp rfl) ⟨rfl, rfl⟩
                      · refine ow_slots (L' := [(2, .int .i64 x2), (7, .pointer (some ⟨r28_b2, 0, none⟩)), (11, .pointer (some ⟨r117_b2, 0, none⟩)), (109, .bool false)]) (by rw [h160]) ?_
                        refine ow_vals 20 (j := 39) [6] [(6, .bool false)] rfl (by kernel_rfl) ?_
                        refine ow_end rfl ?_
                        refine ew_then ?_
                        refine cw_ret ?_
                        have hR := Option.some.inj hF
                        subst hR
                        exact fin1 (H1 := [imm I]) (fun w hs => sat_to [1, 1, 1, 1, 1, 0] 5 rfl hs) rfl (rr_tmp rfl) ⟨rfl, rfl⟩
                    · refine ow_slots (L' := [(2, .int .i64 x2), (7, .pointer (some ⟨r28_b2, 0, none⟩)), (11, .pointer (some ⟨r117_b2, 0, none⟩)), (103, .bool false)]) (by rw [h157]) ?_
                      refine ow_vals 26 (j := 39) [6] [(6, .bool false)] rfl (by kernel_rfl) ?_
                      refine ow_end rfl ?_
                      refine ew_then ?_
                      refine cw_ret ?_
                      have hR := Option.some.inj hF
                      subst hR
                      exact fin1 (H1 := [imm I]) (fun w hs => sat_to [1, 1, 1, 1, 1, 0] 5 rfl hs) rfl (rr_tmp rfl) ⟨rfl, rfl⟩
                  · refine ow_slots (L' := [(2, .int .i64 x2), (7, .pointer (some ⟨r28_b2, 0, none⟩)), (11, .pointer (some ⟨r117_b2, 0, none⟩)), (97, .bool false)]) (by rw [h154]) ?_
                    refine ow_vals 32 (j := 39) [6] [(6, .bool false)] rfl (by kernel_rfl) ?_
                    refine ow_end rfl ?_
                    refine ew_then ?_
                    refine cw_ret ?_
                    have hR := Option.some.inj hF
                    subst hR
                    exact fin1 (H1 := [imm I]) (fun w hs => sat_to [1, 1, 1, 1, 1, 0] 5 rfl hs) rfl (rr_tmp rfl) ⟨rfl, rfl⟩

end Go.Proofs.YtilpkebkhibpeaaDoor
