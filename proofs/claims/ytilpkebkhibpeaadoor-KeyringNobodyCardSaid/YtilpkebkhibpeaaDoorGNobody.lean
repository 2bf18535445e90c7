/- What the functions compute, and that the code computes it: printed by a program of this claim (wip/tools), for the group Nobody. -/
import Derived.Test.YtilpkebkhibpeaaDoorGRingb
import Derived.Test.YtilpkebkhibpeaaDoorFwY
namespace Go.Proofs.YtilpkebkhibpeaaDoor
set_option linter.all false
open Go Go.RowKit Go.Fw
set_option linter.unusedVariables false

def F.keyring_Ring_why_1.r1 : Option (Int) :=
  some (9)
def F.keyring_Ring_why_1 (x1 : Int) : Option Int :=
  Option.bind (some (())) (fun x => F.keyring_Ring_why_1.r1)
set_option maxRecDepth 100000 in
set_option maxHeartbeats 4000000 in
theorem c_keyring_Ring_why_1 (I : Hl) (x1 : Int) (res : Int) (hF : F.keyring_Ring_why_1 x1 = some res) : Tr Tryd.prog 27 [.pointer none, .int .i64 x1] [imm I] (fun r H' => r = .int .i64 res ∧ H' = [imm I]) := by
  unfold F.keyring_Ring_why_1 at hF
  refine tr_of_cw (fn := Tryd.f27) Tryd.func27 rfl (Nat.le_of_ble_eq_true rfl) 26 rfl fun F0 w0 => ?_
  refine cw_keep [0, 1] (L' := [(0, .pointer none), (1, .int .i64 x1)]) rfl ?_
  refine cw_state (S' := SAT w0 ([imm I] ++ F0)) (fun w hs => hs) ?_
  refine cw_seq ?_
  refine cw_region ?_
  refine ow_vals 1 (j := 1) [0, 1] [(0, .pointer none), (1, .int .i64 x1)] rfl (by kernel_rfl) ?_
  refine ow_end rfl ?_
  refine ew_then ?_
  refine cw_seq ?_
  refine cw_block ?_
  obtain ⟨v21, hF, hK21⟩ := bind_some hF
  refine cw_mid (fun a w => () = v21 ∧ Fr 26 [(0, .pointer none), (1, .int .i64 x1), (5, .bool true)] a ∧ SAT w0 ([imm I] ++ F0) w) ?_ ?_
  · refine cw_region ?_
    refine ow_vals 10 (j := 10) [0, 1, 5] [(0, .pointer none), (1, .int .i64 x1), (5, .bool true)] rfl (by kernel_rfl) ?_
    refine ow_end rfl ?_
    have hR := Option.some.inj hF
    exact fun a w hf hs => ⟨hR, hf.keep [0, 1, 5], sat_to [0] 0 rfl hs⟩
  · rintro a w ⟨hv, hf, hs⟩
    subst hv
    replace hF := hK21
    clear hK21
    try dsimp only at hF
    revert a w
    show CW _ _ _ 26 [(0, .pointer none), (1, .int .i64 x1), (5, .bool true)] (SAT w0 ([imm I] ++ F0))
    unfold F.keyring_Ring_why_1.r1 at hF
    refine cw_cond_t rfl rfl rfl ?_
    refine cw_seq ?_
    refine cw_region ?_
    refine ow_vals 1 (j := 1) [4] [(4, .int .i64 9)] rfl (by kernel_rfl) ?_
    refine ow_end rfl ?_
    refine ew_then ?_
    refine cw_ret ?_
    refine ew_blk_ret ?_
    refine ew_then_ret ?_
    have hR := Option.some.inj hF
    subst hR
    exact fin1 (H1 := [imm I]) (fun w hs => sat_to [0] 0 rfl hs) rfl (rr_tmp rfl) ⟨rfl, rfl⟩


def F.keyring_Ring_Get (x1 : Int) : Option (ByteArray × Int) :=
  Option.bind (F.keyring_Ring_why_1 x1) (fun (r21 : Int) => if r21 != 0 then (some (((ByteArray.mk #[]), r21))) else (none))
set_option maxRecDepth 100000 in
set_option maxHeartbeats 4000000 in
theorem c_keyring_Ring_Get (I : Hl) (x1 : Int) (res : ByteArray × Int) (hF : F.keyring_Ring_Get x1 = some res) : Tr Tryd.prog 20 [.pointer none, .int .i64 x1] [imm I] (fun r H' => r = .tuple #[.string res.1, .int .i64 res.2] ∧ H' = [imm I]) := by
  unfold F.keyring_Ring_Get at hF
  refine tr_of_cw (fn := Tryd.f20) Tryd.func20 rfl (Nat.le_of_ble_eq_true rfl) 40 rfl fun F0 w0 => ?_
  refine cw_keep [0, 1] (L' := [(0, .pointer none), (1, .int .i64 x1)]) rfl ?_
  refine cw_state (S' := SAT w0 ([imm I] ++ F0)) (fun w hs => hs) ?_
  refine cw_seq ?_
  refine cw_region ?_
  refine ow_vals 2 (j := 2) [0, 1] [(0, .pointer none), (1, .int .i64 x1)] rfl (by kernel_rfl) ?_
  refine ow_end rfl ?_
  refine ew_then ?_
  refine cw_seq ?_
  refine cw_seq ?_
  refine cw_region ?_
  refine ow_vals 2 (j := 2) [0, 1, 10, 11] [(0, .pointer none), (1, .int .i64 x1), (10, .pointer none), (11, .int .i64 x1)] rfl (by kernel_rfl) ?_
  obtain ⟨r21, h22, hF⟩ := bind_some hF
  refine ow_pw rfl (pw_call (F := [] ++ F0) rfl rfl rfl rfl rfl rfl rfl (by kernel_rfl) (perm_of_pulls [0] rfl) (c_keyring_Ring_why_1 _ x1 r21 h22) ?_)
  rintro _ _ ⟨rfl, rfl⟩
  refine nw_H (H' := [imm I] ++ F0) rfl (nw_ow ?_)
  refine ow_vals 1 (j := 4) [0, 1, 6] [(0, .pointer none), (1, .int .i64 x1), (6, .int .i64 r21)] rfl (by kernel_rfl) ?_
  refine ow_end rfl ?_
  refine ew_then ?_
  refine cw_seq ?_
  refine cw_region ?_
  refine ow_vals 2 (j := 2) [0, 1, 6, 14] [(0, .pointer none), (1, .int .i64 x1), (6, .int .i64 r21), (14, .bool (r21 != 0))] rfl (by kernel_rfl) ?_
  refine ow_end rfl ?_
  refine ew_then ?_
  rcases if_some hF with ⟨h23, hF⟩ | ⟨h23, hF⟩
  · refine cw_cond_t rfl rfl h23 ?_
    refine cw_seq ?_
    refine cw_region ?_
    refine ow_vals 3 (j := 3) [4, 5] [(4, .string (ByteArray.mk #[])), (5, .int .i64 r21)] rfl (by kernel_rfl) ?_
    refine ow_end rfl ?_
    refine ew_then ?_
    refine cw_ret ?_
    refine ew_then_ret ?_
    have hR := Option.some.inj hF
    subst hR
    exact fin2 (H1 := [imm I]) (fun w hs => sat_to [0] 0 rfl hs) rfl (rr_tmp rfl) (rr_tmp rfl) ⟨rfl, rfl⟩
  · refine cw_cond_f rfl rfl h23 ?_
    refine cw_skip ?_
    refine ew_then ?_
    refine cw_seq ?_
    refine cw_open 18 (SAT w0 ([imm I])) (by kernel_rfl) (f := 18) rfl (fun w hs => sat_drew hs) ?_
    refine aw_vals [0] (f' := 17) (m' := 1) [0, 1, 17] [(0, .pointer none), (1, .int .i64 x1), (17, .pointer none)] (fun _ _ _ _ _ h => calm_fin (P := Tryd.prog) (fn := Tryd.f20) _ _ _ _ _ h) (fun w hs => sat_pulls [0] (G := [] ++ F0) rfl hs) rfl (by kernel_rfl) ?_
    cases hF


def F.keyring_Ring_why_2.r1 : Option (Int) :=
  some (9)
def F.keyring_Ring_why_2 (x1 : Int) (m0 : keyring_Ring) : Option Int :=
  Option.bind (some (())) (fun x => F.keyring_Ring_why_2.r1)
set_option maxRecDepth 100000 in
set_option maxHeartbeats 4000000 in
theorem c_keyring_Ring_why_2 (I : Hl) (x1 : Int) (m0 : keyring_Ring) (b0 : Nat) (res : Int) (hF : F.keyring_Ring_why_2 x1 m0 = some res) : Tr Tryd.prog 27 [.pointer (some ⟨b0, 0, none⟩), .int .i64 x1] [imm I, pt b0 #[.pointer none, .int .i64 m0.base_, .int .i64 m0.slots_, .int .i64 m0.shred_] 51] (fun r H' => r = .int .i64 res ∧ H' = [imm I, pt b0 #[.pointer none, .int .i64 m0.base_, .int .i64 m0.slots_, .int .i64 m0.shred_] 51]) := by
  unfold F.keyring_Ring_why_2 at hF
  refine tr_of_cw (fn := Tryd.f27) Tryd.func27 rfl (Nat.le_of_ble_eq_true rfl) 26 rfl fun F0 w0 => ?_
  refine cw_keep [0, 1] (L' := [(0, .pointer (some ⟨b0, 0, none⟩)), (1, .int .i64 x1)]) rfl ?_
  refine cw_state (S' := SAT w0 ([imm I, pt b0 #[.pointer none, .int .i64 m0.base_, .int .i64 m0.slots_, .int .i64 m0.shred_] 51] ++ F0)) (fun w hs => hs) ?_
  refine cw_seq ?_
  refine cw_region ?_
  refine ow_vals 1 (j := 1) [0, 1] [(0, .pointer (some ⟨b0, 0, none⟩)), (1, .int .i64 x1)] rfl (by kernel_rfl) ?_
  refine ow_end rfl ?_
  refine ew_then ?_
  refine cw_seq ?_
  refine cw_block ?_
  obtain ⟨v21, hF, hK21⟩ := bind_some hF
  refine cw_mid (fun a w => () = v21 ∧ Fr 26 [(0, .pointer (some ⟨b0, 0, none⟩)), (1, .int .i64 x1), (5, .bool true)] a ∧ SAT w0 ([imm I, pt b0 #[.pointer none, .int .i64 m0.base_, .int .i64 m0.slots_, .int .i64 m0.shred_] 51] ++ F0) w) ?_ ?_
  · refine cw_region ?_
    refine ow_vals 6 (j := 6) [0, 1, 8, 11] [(0, .pointer (some ⟨b0, 0, none⟩)), (1, .int .i64 x1), (8, .bool false), (11, .pointer (some ⟨b0, 0, none⟩))] rfl (by kernel_rfl) ?_
    refine ow_pw rfl (pw_quiet (v := .pointer none) rfl rfl rfl rfl (q_load 1 rfl rfl rfl (by kernel_rfl)) (nw_ow ?_))
    refine ow_vals 3 (j := 10) [0, 1, 5] [(0, .pointer (some ⟨b0, 0, none⟩)), (1, .int .i64 x1), (5, .bool true)] rfl (by kernel_rfl) ?_
    refine ow_end rfl ?_
    have hR := Option.some.inj hF
    exact fun a w hf hs => ⟨hR, hf.keep [0, 1, 5], sat_to [0, 0] 0 rfl hs⟩
  · rintro a w ⟨hv, hf, hs⟩
    subst hv
    replace hF := hK21
    clear hK21
    try dsimp only at hF
    revert a w
    show CW _ _ _ 26 [(0, .pointer (some ⟨b0, 0, none⟩)), (1, .int .i64 x1), (5, .bool true)] (SAT w0 ([imm I, pt b0 #[.pointer none, .int .i64 m0.base_, .int .i64 m0.slots_, .int .i64 m0.shred_] 51] ++ F0))
    unfold F.keyring_Ring_why_2.r1 at hF
    refine cw_cond_t rfl rfl rfl ?_
    refine cw_seq ?_
    refine cw_region ?_
    refine ow_vals 1 (j := 1) [4] [(4, .int .i64 9)] rfl (by kernel_rfl) ?_
    refine ow_end rfl ?_
    refine ew_then ?_
    refine cw_ret ?_
    refine ew_blk_ret ?_
    refine ew_then_ret ?_
    have hR := Option.some.inj hF
    subst hR
    exact fin1 (H1 := [imm I, pt b0 #[.pointer none, .int .i64 m0.base_, .int .i64 m0.slots_, .int .i64 m0.shred_] 51]) (fun w hs => sat_to [0, 0] 0 rfl hs) rfl (rr_tmp rfl) ⟨rfl, rfl⟩


def F.guard_Guard_Blank_1 (x1 : Int) : Option Bool :=
  Option.bind (F.guard_Guard_none) (fun (r21 : Unit) => some (false))
set_option maxRecDepth 100000 in
set_option maxHeartbeats 4000000 in
theorem c_guard_Guard_Blank_1 (I : Hl) (x1 : Int) (res : Bool) (hF : F.guard_Guard_Blank_1 x1 = some res) : Tr Tryd.prog 28 [.pointer none, .int .i64 x1] [imm I] (fun r H' => r = .bool res ∧ H' = [imm I]) := by
  unfold F.guard_Guard_Blank_1 at hF
  refine tr_of_cw (fn := Tryd.f28) Tryd.func28 rfl (Nat.le_of_ble_eq_true rfl) 19 rfl fun F0 w0 => ?_
  refine cw_keep [0, 1] (L' := [(0, .pointer none), (1, .int .i64 x1)]) rfl ?_
  refine cw_state (S' := SAT w0 ([imm I] ++ F0)) (fun w hs => hs) ?_
  refine cw_seq ?_
  refine cw_region ?_
  refine ow_vals 1 (j := 1) [0, 1] [(0, .pointer none), (1, .int .i64 x1)] rfl (by kernel_rfl) ?_
  refine ow_end rfl ?_
  refine ew_then ?_
  refine cw_seq ?_
  refine cw_seq ?_
  refine cw_region ?_
  refine ow_vals 1 (j := 1) [0, 1, 8] [(0, .pointer none), (1, .int .i64 x1), (8, .pointer none)] rfl (by kernel_rfl) ?_
  obtain ⟨r21, h22, hF⟩ := bind_some hF
  refine ow_pw rfl (pw_call (F := [] ++ F0) rfl rfl rfl rfl rfl rfl rfl (by kernel_rfl) (perm_of_pulls [0] rfl) (c_guard_Guard_none _ r21 h22) ?_)
  rintro _ _ ⟨rfl, rfl⟩
  refine nw_H (H' := [imm I] ++ F0) rfl (nw_ow ?_)
  refine ow_end rfl ?_
  refine ew_then ?_
  refine cw_cond_t rfl rfl rfl ?_
  refine cw_seq ?_
  refine cw_region ?_
  refine ow_vals 1 (j := 1) [4] [(4, .bool false)] rfl (by kernel_rfl) ?_
  refine ow_end rfl ?_
  refine ew_then ?_
  refine cw_ret ?_
  refine ew_then_ret ?_
  have hR := Option.some.inj hF
  subst hR
  exact fin1 (H1 := [imm I]) (fun w hs => sat_to [0] 0 rfl hs) rfl (rr_tmp rfl) ⟨rfl, rfl⟩


def F.keyring_Ring_Free_1 (x1 : Int) (m0 : keyring_Ring) : Option Bool :=
  Option.bind (F.keyring_Ring_why_2 x1 m0) (fun (r21 : Int) => if r21 == 0 then (Option.bind (F.guard_Guard_Blank_1 (IntKind.i64.wrap (m0.base_ + x1))) (fun (r24 : Bool) => some (r24))) else (some (false)))
set_option maxRecDepth 100000 in
set_option maxHeartbeats 4000000 in
theorem c_keyring_Ring_Free_1 (I : Hl) (x1 : Int) (m0 : keyring_Ring) (b0 : Nat) (res : Bool) (hF : F.keyring_Ring_Free_1 x1 m0 = some res) : Tr Tryd.prog 11 [.pointer (some ⟨b0, 0, none⟩), .int .i64 x1] [imm I, pt b0 #[.pointer none, .int .i64 m0.base_, .int .i64 m0.slots_, .int .i64 m0.shred_] 51] (fun r H' => r = .bool res ∧ H' = [imm I, pt b0 #[.pointer none, .int .i64 m0.base_, .int .i64 m0.slots_, .int .i64 m0.shred_] 51]) := by
  unfold F.keyring_Ring_Free_1 at hF
  refine tr_of_cw (fn := Tryd.f11) Tryd.func11 rfl (Nat.le_of_ble_eq_true rfl) 22 rfl fun F0 w0 => ?_
  refine cw_keep [0, 1] (L' := [(0, .pointer (some ⟨b0, 0, none⟩)), (1, .int .i64 x1)]) rfl ?_
  refine cw_state (S' := SAT w0 ([imm I, pt b0 #[.pointer none, .int .i64 m0.base_, .int .i64 m0.slots_, .int .i64 m0.shred_] 51] ++ F0)) (fun w hs => hs) ?_
  refine cw_seq ?_
  refine cw_region ?_
  refine ow_vals 1 (j := 1) [0, 1] [(0, .pointer (some ⟨b0, 0, none⟩)), (1, .int .i64 x1)] rfl (by kernel_rfl) ?_
  refine ow_end rfl ?_
  refine ew_then ?_
  refine cw_seq ?_
  refine cw_open 18 (SAT w0 ([imm I, pt b0 #[.pointer none, .int .i64 m0.base_, .int .i64 m0.slots_, .int .i64 m0.shred_] 51])) (by kernel_rfl) (f := 18) rfl (fun w hs => sat_drew hs) ?_
  refine aw_vals [0, 1] (f' := 16) (m' := 3) [0, 1, 5, 6] [(0, .pointer (some ⟨b0, 0, none⟩)), (1, .int .i64 x1), (5, .pointer (some ⟨b0, 0, none⟩)), (6, .int .i64 x1)] (fun _ _ _ _ _ h => calm_fin (P := Tryd.prog) (fn := Tryd.f11) _ _ _ _ _ h) (fun w hs => sat_pulls [0, 0] (G := [] ++ F0) rfl hs) rfl (by kernel_rfl) ?_
  obtain ⟨r21, h22, hF⟩ := bind_some hF
  refine aw_only 2 (m' := 7) (by kernel_rfl) (by kernel_rfl) (pw_call (F := [] ++ F0) rfl rfl rfl rfl rfl rfl rfl (by kernel_rfl) (perm_of_pulls [0, 0] rfl) (c_keyring_Ring_why_2 _ x1 m0 b0 r21 h22) ?_)
  rintro _ _ ⟨rfl, rfl⟩
  refine nw_H (H' := [imm I, pt b0 #[.pointer none, .int .i64 m0.base_, .int .i64 m0.slots_, .int .i64 m0.shred_] 51] ++ F0) rfl (aw_next (fun w hs => sat_pulls [0, 0] (G := [] ++ F0) rfl hs) ?_)
  refine aw_vals [3, 4] (f' := 13) (m' := 31) [0, 1, 9] [(0, .pointer (some ⟨b0, 0, none⟩)), (1, .int .i64 x1), (9, .bool (r21 == 0))] (fun _ _ _ _ _ h => calm_fin (P := Tryd.prog) (fn := Tryd.f11) _ _ _ _ _ h) (fun w hs => sat_pulls [0, 0] (G := [] ++ F0) rfl hs) rfl (by kernel_rfl) ?_
  rcases if_some hF with ⟨h23, hF⟩ | ⟨h23, hF⟩
  · refine aw_slots (L' := [(0, .pointer (some ⟨b0, 0, none⟩)), (1, .int .i64 x1), (9, .bool true)]) (by rw [h23]) ?_
    refine aw_vals [5, 6, 7, 9, 10, 11, 13] (f' := 6) (m' := 12031) [9, 12, 16, 18] [(9, .bool true), (12, .pointer (some ⟨b0, 0, none⟩)), (16, .pointer (some ⟨b0, 1, none⟩)), (18, .int .i64 x1)] (fun _ _ _ _ _ h => calm_fin (P := Tryd.prog) (fn := Tryd.f11) _ _ _ _ _ h) (fun w hs => sat_pulls [0, 0] (G := [] ++ F0) rfl hs) rfl (by kernel_rfl) ?_
    refine aw_quiet 8 (m' := 12287) (v := .pointer none) 0 [] rfl rfl rfl rfl (by kernel_rfl) (by kernel_rfl) (by kernel_rfl) (fun _ _ _ _ _ h => calm_fin (P := Tryd.prog) (fn := Tryd.f11) _ _ _ _ _ h) (fun w hs => sat_pulls [0, 0] (G := [] ++ F0) rfl hs) (q_load 1 rfl rfl rfl (by kernel_rfl)) ?_
    refine aw_quiet 12 (m' := 16383) (v := .int .i64 m0.base_) 0 [] rfl rfl rfl rfl (by kernel_rfl) (by kernel_rfl) (by kernel_rfl) (fun _ _ _ _ _ h => calm_fin (P := Tryd.prog) (fn := Tryd.f11) _ _ _ _ _ h) (fun w hs => sat_pulls [0, 0] (G := [] ++ F0) rfl hs) (q_load 1 rfl rfl rfl (by kernel_rfl)) ?_
    refine aw_vals [14] (f' := 3) (m' := 32767) [9, 13, 19] [(9, .bool true), (13, .pointer none), (19, .int .i64 (IntKind.i64.wrap (m0.base_ + x1)))] (fun _ _ _ _ _ h => calm_fin (P := Tryd.prog) (fn := Tryd.f11) _ _ _ _ _ h) (fun w hs => sat_pulls [0, 0] (G := [] ++ F0) rfl hs) rfl (by kernel_rfl) ?_
    obtain ⟨r24, h25, hF⟩ := bind_some hF
    refine aw_only 15 (m' := 65535) (by kernel_rfl) (by kernel_rfl) (pw_call (F := [pt b0 #[.pointer none, .int .i64 m0.base_, .int .i64 m0.slots_, .int .i64 m0.shred_] 51] ++ F0) rfl rfl rfl rfl rfl rfl rfl (by kernel_rfl) (perm_of_pulls [0] rfl) (c_guard_Guard_Blank_1 _ (IntKind.i64.wrap (m0.base_ + x1)) r24 h25) ?_)
    rintro _ _ ⟨rfl, rfl⟩
    refine nw_H (H' := [imm I, pt b0 #[.pointer none, .int .i64 m0.base_, .int .i64 m0.slots_, .int .i64 m0.shred_] 51] ++ F0) rfl (aw_next (fun w hs => sat_pulls [0, 0] (G := [] ++ F0) rfl hs) ?_)
    refine aw_vals [16, 17] (f' := 0) (m' := 262143) [4] [(4, .bool r24)] (fun _ _ _ _ _ h => calm_fin (P := Tryd.prog) (fn := Tryd.f11) _ _ _ _ _ h) (fun w hs => sat_pulls [0, 0] (G := [] ++ F0) rfl hs) rfl (by kernel_rfl) ?_
    refine aw_keep [4] (L' := [(4, .bool r24)]) rfl ?_
    refine aw_end (by kernel_rfl) ?_
    refine ew_then ?_
    refine cw_ret ?_
    have hR := Option.some.inj hF
    subst hR
    exact fin1 (H1 := [imm I, pt b0 #[.pointer none, .int .i64 m0.base_, .int .i64 m0.slots_, .int .i64 m0.shred_] 51]) (fun w hs => sat_to [0, 0] 0 rfl hs) rfl (rr_tmp rfl) ⟨rfl, rfl⟩
  · refine aw_slots (L' := [(0, .pointer (some ⟨b0, 0, none⟩)), (1, .int .i64 x1), (9, .bool false)]) (by rw [h23]) ?_
    refine aw_vals [5, 6, 7, 8, 9, 10, 11, 12, 13, 14, 15, 16, 17] (f' := 0) (m' := 262143) [4] [(4, .bool false)] (fun _ _ _ _ _ h => calm_fin (P := Tryd.prog) (fn := Tryd.f11) _ _ _ _ _ h) (fun w hs => sat_pulls [0, 0] (G := [] ++ F0) rfl hs) rfl (by kernel_rfl) ?_
    refine aw_keep [4] (L' := [(4, .bool false)]) rfl ?_
    refine aw_end (by kernel_rfl) ?_
    refine ew_then ?_
    refine cw_ret ?_
    have hR := Option.some.inj hF
    subst hR
    exact fin1 (H1 := [imm I, pt b0 #[.pointer none, .int .i64 m0.base_, .int .i64 m0.slots_, .int .i64 m0.shred_] 51]) (fun w hs => sat_to [0, 0] 0 rfl hs) rfl (rr_tmp rfl) ⟨rfl, rfl⟩


def F.keyring_Ring_Find.l1 (m0 : keyring_Ring) (x26 : Int) : Option ((Int) ⊕ ((Unit) ⊕ (Int × Int))) :=
  if decide (x26 < m0.slots_) then (Option.bind (F.keyring_Ring_Free_1 x26 m0) (fun (r28 : Bool) => if r28 then (some (.inr (.inr ((x26, 0))))) else (some (.inl (IntKind.i64.wrap (x26 + 1)))))) else (some (.inr (.inl ())))
def F.keyring_Ring_Find.r2 : Option (Int × Int) :=
  some ((0, 6))
def F.keyring_Ring_Find (m0 : keyring_Ring) : Option (Int × Int) :=
  Option.bind (F.keyring_Ring_why_2 0 m0) (fun (r21 : Int) => if r21 != 0 then (some ((0, r21))) else (thru (iter (fun x => F.keyring_Ring_Find.l1 m0 x) FUEL 0) (fun x => F.keyring_Ring_Find.r2)))
set_option maxRecDepth 100000 in
set_option maxHeartbeats 4000000 in
theorem c_keyring_Ring_Find (I : Hl) (m0 : keyring_Ring) (b0 : Nat) (res : Int × Int) (hF : F.keyring_Ring_Find m0 = some res) : Tr Tryd.prog 21 [.pointer (some ⟨b0, 0, none⟩)] [imm I, pt b0 #[.pointer none, .int .i64 m0.base_, .int .i64 m0.slots_, .int .i64 m0.shred_] 51] (fun r H' => r = .tuple #[.int .i64 res.1, .int .i64 res.2] ∧ H' = [imm I, pt b0 #[.pointer none, .int .i64 m0.base_, .int .i64 m0.slots_, .int .i64 m0.shred_] 51]) := by
  unfold F.keyring_Ring_Find at hF
  refine tr_of_cw (fn := Tryd.f21) Tryd.func21 rfl (Nat.le_of_ble_eq_true rfl) 23 rfl fun F0 w0 => ?_
  refine cw_keep [0] (L' := [(0, .pointer (some ⟨b0, 0, none⟩))]) rfl ?_
  refine cw_state (S' := SAT w0 ([imm I, pt b0 #[.pointer none, .int .i64 m0.base_, .int .i64 m0.slots_, .int .i64 m0.shred_] 51] ++ F0)) (fun w hs => hs) ?_
  refine cw_seq ?_
  refine cw_region ?_
  refine ow_vals 2 (j := 2) [0] [(0, .pointer (some ⟨b0, 0, none⟩))] rfl (by kernel_rfl) ?_
  refine ow_end rfl ?_
  refine ew_then ?_
  refine cw_seq ?_
  refine cw_seq ?_
  refine cw_region ?_
  refine ow_vals 1 (j := 1) [0, 6] [(0, .pointer (some ⟨b0, 0, none⟩)), (6, .pointer (some ⟨b0, 0, none⟩))] rfl (by kernel_rfl) ?_
  obtain ⟨r21, h22, hF⟩ := bind_some hF
  refine ow_pw rfl (pw_call (F := [] ++ F0) rfl rfl rfl rfl rfl rfl rfl (by kernel_rfl) (perm_of_pulls [0, 0] rfl) (c_keyring_Ring_why_2 _ 0 m0 b0 r21 h22) ?_)
  rintro _ _ ⟨rfl, rfl⟩
  refine nw_H (H' := [imm I, pt b0 #[.pointer none, .int .i64 m0.base_, .int .i64 m0.slots_, .int .i64 m0.shred_] 51] ++ F0) rfl (nw_ow ?_)
  refine ow_vals 1 (j := 3) [0, 4] [(0, .pointer (some ⟨b0, 0, none⟩)), (4, .int .i64 r21)] rfl (by kernel_rfl) ?_
  refine ow_end rfl ?_
  refine ew_then ?_
  refine cw_seq ?_
  refine cw_region ?_
  refine ow_vals 2 (j := 2) [0, 4, 9] [(0, .pointer (some ⟨b0, 0, none⟩)), (4, .int .i64 r21), (9, .bool (r21 != 0))] rfl (by kernel_rfl) ?_
  refine ow_end rfl ?_
  refine ew_then ?_
  rcases if_some hF with ⟨h23, hF⟩ | ⟨h23, hF⟩
  · refine cw_cond_t rfl rfl h23 ?_
    refine cw_seq ?_
    refine cw_region ?_
    refine ow_vals 3 (j := 3) [2, 3] [(2, .int .i64 0), (3, .int .i64 r21)] rfl (by kernel_rfl) ?_
    refine ow_end rfl ?_
    refine ew_then ?_
    refine cw_ret ?_
    refine ew_then_ret ?_
    have hR := Option.some.inj hF
    subst hR
    exact fin2 (H1 := [imm I, pt b0 #[.pointer none, .int .i64 m0.base_, .int .i64 m0.slots_, .int .i64 m0.shred_] 51]) (fun w hs => sat_to [0, 0] 0 rfl hs) rfl (rr_tmp rfl) (rr_tmp rfl) ⟨rfl, rfl⟩
  · refine cw_cond_f rfl rfl h23 ?_
    refine cw_skip ?_
    refine ew_then ?_
    obtain ⟨v24, hF, hK24⟩ := thru_some hF
    refine cw_mid (fun a w => .inl () = v24 ∧ Fr 23 [] a ∧ SAT w0 ([imm I, pt b0 #[.pointer none, .int .i64 m0.base_, .int .i64 m0.slots_, .int .i64 m0.shred_] 51] ++ F0) w) ?_ ?_
    · refine cw_seq ?_
      refine cw_region ?_
      refine ow_vals 3 (j := 3) [0, 13] [(0, .pointer (some ⟨b0, 0, none⟩)), (13, .pointer (some ⟨b0, 2, none⟩))] rfl (by kernel_rfl) ?_
      refine ow_pw rfl (pw_quiet (v := .int .i64 m0.slots_) rfl rfl rfl rfl (q_load 1 rfl rfl rfl (by kernel_rfl)) (nw_ow ?_))
      refine ow_vals 1 (j := 5) [0, 14, 15] [(0, .pointer (some ⟨b0, 0, none⟩)), (14, .int .i64 m0.slots_), (15, .int .i64 0)] rfl (by kernel_rfl) ?_
      refine ow_end rfl ?_
      refine ew_then ?_
      refine cw_block ?_
      refine fun a w hf hs => wp_rounds (fun k a w => ∃ (x26 : Int), iter (fun x => F.keyring_Ring_Find.l1 m0 x) k x26 = some v24 ∧ Fr 23 [(0, .pointer (some ⟨b0, 0, none⟩)), (14, .int .i64 m0.slots_), (15, .int .i64 x26)] a ∧ SAT w0 ([imm I, pt b0 #[.pointer none, .int .i64 m0.base_, .int .i64 m0.slots_, .int .i64 m0.shred_] 51] ++ F0) w) ?_ FUEL a w ⟨0, hF, hf.keep [0, 14, 15], sat_to [0, 0] 0 rfl hs⟩
      clear hf hs
      clear a w hF
      rintro k a w ⟨x26, hF2, hf, hs⟩
      obtain ⟨k, r25, rfl, hF, hL25⟩ := iter_some hF2
      clear hF2
      revert a w
      show CW _ _ _ 23 [(0, .pointer (some ⟨b0, 0, none⟩)), (14, .int .i64 m0.slots_), (15, .int .i64 x26)] (SAT w0 ([imm I, pt b0 #[.pointer none, .int .i64 m0.base_, .int .i64 m0.slots_, .int .i64 m0.shred_] 51] ++ F0))
      try dsimp only at hF
      unfold F.keyring_Ring_Find.l1 at hF
      refine cw_seq ?_
      refine cw_region ?_
      refine ow_vals 1 (j := 1) [0, 14, 15, 16] [(0, .pointer (some ⟨b0, 0, none⟩)), (14, .int .i64 m0.slots_), (15, .int .i64 x26), (16, .bool (decide (x26 < m0.slots_)))] rfl (by kernel_rfl) ?_
      refine ow_end rfl ?_
      refine ew_then ?_
      refine cw_seq ?_
      rcases if_some hF with ⟨h27, hF⟩ | ⟨h27, hF⟩
      · refine cw_cond_t rfl rfl h27 ?_
        refine cw_skip ?_
        refine ew_then ?_
        refine cw_seq ?_
        refine cw_block ?_
        refine cw_seq ?_
        refine cw_region ?_
        refine ow_vals 2 (j := 2) [0, 5, 14, 15] [(0, .pointer (some ⟨b0, 0, none⟩)), (5, .int .i64 x26), (14, .int .i64 m0.slots_), (15, .int .i64 x26)] rfl (by kernel_rfl) ?_
        refine ow_end rfl ?_
        refine ew_then ?_
        refine cw_seq ?_
        refine cw_region ?_
        refine ow_vals 2 (j := 2) [0, 5, 14, 15, 18, 19] [(0, .pointer (some ⟨b0, 0, none⟩)), (5, .int .i64 x26), (14, .int .i64 m0.slots_), (15, .int .i64 x26), (18, .pointer (some ⟨b0, 0, none⟩)), (19, .int .i64 x26)] rfl (by kernel_rfl) ?_
        obtain ⟨r28, h29, hF⟩ := bind_some hF
        refine ow_pw rfl (pw_call (F := [] ++ F0) rfl rfl rfl rfl rfl rfl rfl (by kernel_rfl) (perm_of_pulls [0, 0] rfl) (c_keyring_Ring_Free_1 _ x26 m0 b0 r28 h29) ?_)
        rintro _ _ ⟨rfl, rfl⟩
        refine nw_H (H' := [imm I, pt b0 #[.pointer none, .int .i64 m0.base_, .int .i64 m0.slots_, .int .i64 m0.shred_] 51] ++ F0) rfl (nw_ow ?_)
        refine ow_end rfl ?_
        refine ew_then ?_
        rcases if_some hF with ⟨h30, hF⟩ | ⟨h30, hF⟩
        · refine cw_cond_t rfl rfl h30 ?_
          refine cw_seq ?_
          refine cw_region ?_
          refine ow_vals 3 (j := 3) [2, 3] [(2, .int .i64 x26), (3, .int .i64 0)] rfl (by kernel_rfl) ?_
          refine ow_end rfl ?_
          refine ew_then ?_
          refine cw_ret ?_
          refine ew_blk_ret ?_
          refine ew_then_ret ?_
          refine ew_then_ret ?_
          refine ew_blk_ret ?_
          refine ew_then_ret ?_
          have hR := Option.some.inj hF
          subst hR
          have hR := hL25
          try dsimp only at hR
          subst hR
          have hR := hK24
          try dsimp only [Thru] at hR
          subst hR
          exact fin2 (H1 := [imm I, pt b0 #[.pointer none, .int .i64 m0.base_, .int .i64 m0.slots_, .int .i64 m0.shred_] 51]) (fun w hs => sat_to [0, 0] 0 rfl hs) rfl (rr_tmp rfl) (rr_tmp rfl) ⟨rfl, rfl⟩
        · refine cw_cond_f rfl rfl h30 ?_
          refine cw_skip ?_
          refine ew_blk ?_
          refine ew_then ?_
          refine cw_region ?_
          refine ow_vals 2 (j := 2) [0, 14, 15] [(0, .pointer (some ⟨b0, 0, none⟩)), (14, .int .i64 m0.slots_), (15, .int .i64 (IntKind.i64.wrap (x26 + 1)))] rfl (by kernel_rfl) ?_
          refine ow_end rfl ?_
          have hR := Option.some.inj hF
          subst hR
          have hR := hL25
          try dsimp only at hR
          exact fun a w hf hs => ⟨k, Nat.lt_succ_self k, IntKind.i64.wrap (x26 + 1), hR, hf.keep [0, 14, 15], sat_to [0, 0] 0 rfl hs⟩
      · refine cw_cond_f rfl rfl h27 ?_
        refine cw_exit ?_
        refine ew_then_exit ?_
        refine ew_then_exit ?_
        refine ew_blk_exit ?_
        have hR := Option.some.inj hF
        subst hR
        have hR := hL25
        try dsimp only at hR
        exact fun a w hf hs => ⟨hR, hf.keep [], sat_to [0, 0] 0 rfl hs⟩
    · rintro a w ⟨hv, hf, hs⟩
      subst hv
      replace hF := hK24
      clear hK24
      try dsimp only [Thru] at hF
      revert a w
      show CW _ _ _ 23 [] (SAT w0 ([imm I, pt b0 #[.pointer none, .int .i64 m0.base_, .int .i64 m0.slots_, .int .i64 m0.shred_] 51] ++ F0))
      unfold F.keyring_Ring_Find.r2 at hF
      refine cw_seq ?_
      refine cw_region ?_
      refine ow_vals 2 (j := 2) [2, 3] [(2, .int .i64 0), (3, .int .i64 6)] rfl (by kernel_rfl) ?_
      refine ow_end rfl ?_
      refine ew_then ?_
      refine cw_ret ?_
      have hR := Option.some.inj hF
      subst hR
      exact fin2 (H1 := [imm I, pt b0 #[.pointer none, .int .i64 m0.base_, .int .i64 m0.slots_, .int .i64 m0.shred_] 51]) (fun w hs => sat_to [0, 0] 0 rfl hs) rfl (rr_tmp rfl) (rr_tmp rfl) ⟨rfl, rfl⟩


def F.keyring_Ring_Keep (x1 : List Int) : Option (Int × Int) :=
  Option.bind (F.keyring_Ring_why_1 0) (fun (r21 : Int) => if r21 != 0 then (some ((0, r21))) else (none))
set_option maxRecDepth 100000 in
set_option maxHeartbeats 4000000 in
theorem c_keyring_Ring_Keep (I : Hl) (x1 : List Int) (p0 : Option Addr) (c0 : Nat) (res : Int × Int) (hF : F.keyring_Ring_Keep x1 = some res) (hr0 : ro I (eInt .i64) p0 c0 x1) : Tr Tryd.prog 22 [.pointer none, .slice p0 x1.length c0] [imm I] (fun r H' => r = .tuple #[.int .i64 res.1, .int .i64 res.2] ∧ H' = [imm I]) := by
  unfold F.keyring_Ring_Keep at hF
  refine tr_of_cw (fn := Tryd.f22) Tryd.func22 rfl (Nat.le_of_ble_eq_true rfl) 47 rfl fun F0 w0 => ?_
  refine cw_keep [0, 1] (L' := [(0, .pointer none), (1, .slice p0 x1.length c0)]) rfl ?_
  refine cw_state (S' := SAT w0 ([imm I] ++ F0)) (fun w hs => hs) ?_
  refine cw_seq ?_
  refine cw_region ?_
  refine ow_vals 2 (j := 2) [0, 1] [(0, .pointer none), (1, .slice p0 x1.length c0)] rfl (by kernel_rfl) ?_
  refine ow_end rfl ?_
  refine ew_then ?_
  refine cw_scope ?_
  refine cw_seq ?_
  refine cw_seq ?_
  refine cw_region ?_
  refine ow_vals 1 (j := 1) [0, 1, 12] [(0, .pointer none), (1, .slice p0 x1.length c0), (12, .pointer none)] rfl (by kernel_rfl) ?_
  obtain ⟨r21, h22, hF⟩ := bind_some hF
  refine ow_pw rfl (pw_call (F := [] ++ F0) rfl rfl rfl rfl rfl rfl rfl (by kernel_rfl) (perm_of_pulls [0] rfl) (c_keyring_Ring_why_1 _ 0 r21 h22) ?_)
  rintro _ _ ⟨rfl, rfl⟩
  refine nw_H (H' := [imm I] ++ F0) rfl (nw_ow ?_)
  refine ow_vals 1 (j := 3) [0, 1, 6] [(0, .pointer none), (1, .slice p0 x1.length c0), (6, .int .i64 r21)] rfl (by kernel_rfl) ?_
  refine ow_end rfl ?_
  refine ew_then ?_
  refine cw_seq ?_
  refine cw_region ?_
  refine ow_vals 2 (j := 2) [0, 1, 6, 15] [(0, .pointer none), (1, .slice p0 x1.length c0), (6, .int .i64 r21), (15, .bool (r21 != 0))] rfl (by kernel_rfl) ?_
  refine ow_end rfl ?_
  refine ew_then ?_
  rcases if_some hF with ⟨h23, hF⟩ | ⟨h23, hF⟩
  · refine cw_cond_t rfl rfl h23 ?_
    refine cw_seq ?_
    refine cw_region ?_
    refine ow_vals 3 (j := 3) [4, 5] [(4, .int .i64 0), (5, .int .i64 r21)] rfl (by kernel_rfl) ?_
    refine ow_end rfl ?_
    refine ew_then ?_
    refine cw_ret ?_
    refine ew_then_ret ?_
    refine ew_scope_ret ?_
    have hR := Option.some.inj hF
    subst hR
    exact fin2 (H1 := [imm I]) (fun w hs => sat_to [0] 0 rfl hs) rfl (rr_tmp rfl) (rr_tmp rfl) ⟨rfl, rfl⟩
  · refine cw_cond_f rfl rfl h23 ?_
    refine cw_skip ?_
    refine ew_then ?_
    refine cw_seq ?_
    refine cw_region ?_
    refine ow_vals 1 (j := 1) [0, 1, 7] [(0, .pointer none), (1, .slice p0 x1.length c0), (7, .int .i64 0)] rfl (by kernel_rfl) ?_
    refine ow_end rfl ?_
    refine ew_then ?_
    refine cw_seq ?_
    refine cw_label ?_
    refine ew_then ?_
    refine cw_seq ?_
    refine cw_seq ?_
    refine cw_region ?_
    refine ow_vals 1 (j := 1) [0, 1, 7, 17] [(0, .pointer none), (1, .slice p0 x1.length c0), (7, .int .i64 0), (17, .pointer none)] rfl (by kernel_rfl) ?_
    cases hF


def F.guard_Guard_Get_1 (x1 : Int) : Option (ByteArray × Int × Int) :=
  Option.bind (F.guard_Guard_none) (fun (r21 : Unit) => some (((ByteArray.mk #[]), 0, 9)))
set_option maxRecDepth 100000 in
set_option maxHeartbeats 4000000 in
theorem c_guard_Guard_Get_1 (I : Hl) (x1 : Int) (res : ByteArray × Int × Int) (hF : F.guard_Guard_Get_1 x1 = some res) : Tr Tryd.prog 30 [.pointer none, .int .i64 x1] [imm I] (fun r H' => r = .tuple #[.string res.1, .int .i64 res.2.1, .int .i64 res.2.2] ∧ H' = [imm I]) := by
  unfold F.guard_Guard_Get_1 at hF
  refine tr_of_cw (fn := Tryd.f30) Tryd.func30 rfl (Nat.le_of_ble_eq_true rfl) 18 rfl fun F0 w0 => ?_
  refine cw_keep [0, 1] (L' := [(0, .pointer none), (1, .int .i64 x1)]) rfl ?_
  refine cw_state (S' := SAT w0 ([imm I] ++ F0)) (fun w hs => hs) ?_
  refine cw_seq ?_
  refine cw_region ?_
  refine ow_vals 3 (j := 3) [0, 1] [(0, .pointer none), (1, .int .i64 x1)] rfl (by kernel_rfl) ?_
  refine ow_end rfl ?_
  refine ew_then ?_
  refine cw_seq ?_
  refine cw_seq ?_
  refine cw_region ?_
  refine ow_vals 1 (j := 1) [0, 1, 7] [(0, .pointer none), (1, .int .i64 x1), (7, .pointer none)] rfl (by kernel_rfl) ?_
  obtain ⟨r21, h22, hF⟩ := bind_some hF
  refine ow_pw rfl (pw_call (F := [] ++ F0) rfl rfl rfl rfl rfl rfl rfl (by kernel_rfl) (perm_of_pulls [0] rfl) (c_guard_Guard_none _ r21 h22) ?_)
  rintro _ _ ⟨rfl, rfl⟩
  refine nw_H (H' := [imm I] ++ F0) rfl (nw_ow ?_)
  refine ow_end rfl ?_
  refine ew_then ?_
  refine cw_cond_t rfl rfl rfl ?_
  refine cw_seq ?_
  refine cw_region ?_
  refine ow_vals 3 (j := 3) [4, 5, 6] [(4, .string (ByteArray.mk #[])), (5, .int .i64 0), (6, .int .i64 9)] rfl (by kernel_rfl) ?_
  refine ow_end rfl ?_
  refine ew_then ?_
  refine cw_ret ?_
  refine ew_then_ret ?_
  have hR := Option.some.inj hF
  subst hR
  exact fin3 (H1 := [imm I]) (fun w hs => sat_to [0] 0 rfl hs) rfl (rr_tmp rfl) (rr_tmp rfl) (rr_tmp rfl) ⟨rfl, rfl⟩


def F.guard_Guard_Put_1 (x1 : Int) (x2 : ByteArray) : Option (Int × Int) :=
  Option.bind (F.guard_Guard_none) (fun (r21 : Unit) => some ((0, 9)))
set_option maxRecDepth 100000 in
set_option maxHeartbeats 4000000 in
theorem c_guard_Guard_Put_1 (I : Hl) (x1 : Int) (x2 : ByteArray) (res : Int × Int) (hF : F.guard_Guard_Put_1 x1 x2 = some res) : Tr Tryd.prog 31 [.pointer none, .int .i64 x1, .string x2] [imm I] (fun r H' => r = .tuple #[.int .i64 res.1, .int .i64 res.2] ∧ H' = [imm I]) := by
  unfold F.guard_Guard_Put_1 at hF
  refine tr_of_cw (fn := Tryd.f31) Tryd.func31 rfl (Nat.le_of_ble_eq_true rfl) 70 rfl fun F0 w0 => ?_
  refine cw_keep [0, 1, 2] (L' := [(0, .pointer none), (1, .int .i64 x1), (2, .string x2)]) rfl ?_
  refine cw_state (S' := SAT w0 ([imm I] ++ F0)) (fun w hs => hs) ?_
  refine cw_seq ?_
  refine cw_region ?_
  refine ow_vals 2 (j := 2) [0, 1, 2] [(0, .pointer none), (1, .int .i64 x1), (2, .string x2)] rfl (by kernel_rfl) ?_
  refine ow_end rfl ?_
  refine ew_then ?_
  refine cw_seq ?_
  refine cw_block ?_
  refine cw_seq ?_
  refine cw_region ?_
  refine ow_vals 1 (j := 1) [0, 1, 2, 12] [(0, .pointer none), (1, .int .i64 x1), (2, .string x2), (12, .pointer none)] rfl (by kernel_rfl) ?_
  obtain ⟨r21, h22, hF⟩ := bind_some hF
  refine ow_pw rfl (pw_call (F := [] ++ F0) rfl rfl rfl rfl rfl rfl rfl (by kernel_rfl) (perm_of_pulls [0] rfl) (c_guard_Guard_none _ r21 h22) ?_)
  rintro _ _ ⟨rfl, rfl⟩
  refine nw_H (H' := [imm I] ++ F0) rfl (nw_ow ?_)
  refine ow_vals 1 (j := 3) [0, 1, 2, 11] [(0, .pointer none), (1, .int .i64 x1), (2, .string x2), (11, .bool true)] rfl (by kernel_rfl) ?_
  refine ow_end rfl ?_
  refine ew_then ?_
  refine cw_cond_t rfl rfl rfl ?_
  refine cw_seq ?_
  refine cw_region ?_
  refine ow_vals 2 (j := 2) [6, 7] [(6, .int .i64 0), (7, .int .i64 9)] rfl (by kernel_rfl) ?_
  refine ow_end rfl ?_
  refine ew_then ?_
  refine cw_ret ?_
  refine ew_blk_ret ?_
  refine ew_then_ret ?_
  have hR := Option.some.inj hF
  subst hR
  exact fin2 (H1 := [imm I]) (fun w hs => sat_to [0] 0 rfl hs) rfl (rr_tmp rfl) (rr_tmp rfl) ⟨rfl, rfl⟩


def F.guard_Guard_Flush_1 : Option Int :=
  Option.bind (F.guard_Guard_none) (fun (r21 : Unit) => some (9))
set_option maxRecDepth 100000 in
set_option maxHeartbeats 4000000 in
theorem c_guard_Guard_Flush_1 (I : Hl) (res : Int) (hF : F.guard_Guard_Flush_1 = some res) : Tr Tryd.prog 32 [.pointer none] [imm I] (fun r H' => r = .int .i64 res ∧ H' = [imm I]) := by
  unfold F.guard_Guard_Flush_1 at hF
  refine tr_of_cw (fn := Tryd.f32) Tryd.func32 rfl (Nat.le_of_ble_eq_true rfl) 10 rfl fun F0 w0 => ?_
  refine cw_keep [0] (L' := [(0, .pointer none)]) rfl ?_
  refine cw_state (S' := SAT w0 ([imm I] ++ F0)) (fun w hs => hs) ?_
  refine cw_seq ?_
  refine cw_region ?_
  refine ow_vals 1 (j := 1) [0] [(0, .pointer none)] rfl (by kernel_rfl) ?_
  refine ow_end rfl ?_
  refine ew_then ?_
  refine cw_seq ?_
  refine cw_seq ?_
  refine cw_region ?_
  refine ow_vals 1 (j := 1) [0, 3] [(0, .pointer none), (3, .pointer none)] rfl (by kernel_rfl) ?_
  obtain ⟨r21, h22, hF⟩ := bind_some hF
  refine ow_pw rfl (pw_call (F := [] ++ F0) rfl rfl rfl rfl rfl rfl rfl (by kernel_rfl) (perm_of_pulls [0] rfl) (c_guard_Guard_none _ r21 h22) ?_)
  rintro _ _ ⟨rfl, rfl⟩
  refine nw_H (H' := [imm I] ++ F0) rfl (nw_ow ?_)
  refine ow_end rfl ?_
  refine ew_then ?_
  refine cw_cond_t rfl rfl rfl ?_
  refine cw_seq ?_
  refine cw_region ?_
  refine ow_vals 1 (j := 1) [2] [(2, .int .i64 9)] rfl (by kernel_rfl) ?_
  refine ow_end rfl ?_
  refine ew_then ?_
  refine cw_ret ?_
  refine ew_then_ret ?_
  have hR := Option.some.inj hF
  subst hR
  exact fin1 (H1 := [imm I]) (fun w hs => sat_to [0] 0 rfl hs) rfl (rr_tmp rfl) ⟨rfl, rfl⟩


def F.keyring_Ring_Put_1 (x1 : Int) (x2 : ByteArray) (m0 : keyring_Ring) : Option Int :=
  Option.bind (F.keyring_Ring_why_2 x1 m0) (fun (r21 : Int) => if r21 != 0 then (some (r21)) else (if (x2.size : Int) != 32 then (some (1)) else (Option.bind (F.keyring_Ring_Free_1 x1 m0) (fun (r25 : Bool) => if !r25 then (Option.bind (F.guard_Guard_Get_1 (IntKind.i64.wrap (m0.base_ + x1))) (fun (r28 : ByteArray × Int × Int) => if r28.2.2 == 8 then (some (r28.2.2)) else (some (25)))) else (Option.bind (F.guard_Guard_Put_1 (IntKind.i64.wrap (m0.base_ + x1)) x2) (fun (r31 : Int × Int) => if r31.2 != 0 then (some (r31.2)) else (Option.bind (F.guard_Guard_Flush_1) (fun (r34 : Int) => some (r34)))))))))
set_option maxRecDepth 100000 in
set_option maxHeartbeats 4000000 in
theorem c_keyring_Ring_Put_1 (I : Hl) (x1 : Int) (x2 : ByteArray) (m0 : keyring_Ring) (b0 : Nat) (res : Int) (hF : F.keyring_Ring_Put_1 x1 x2 m0 = some res) : Tr Tryd.prog 14 [.pointer (some ⟨b0, 0, none⟩), .int .i64 x1, .string x2] [imm I, pt b0 #[.pointer none, .int .i64 m0.base_, .int .i64 m0.slots_, .int .i64 m0.shred_] 51] (fun r H' => r = .int .i64 res ∧ H' = [imm I, pt b0 #[.pointer none, .int .i64 m0.base_, .int .i64 m0.slots_, .int .i64 m0.shred_] 51]) := by
  unfold F.keyring_Ring_Put_1 at hF
  refine tr_of_cw (fn := Tryd.f14) Tryd.func14 rfl (Nat.le_of_ble_eq_true rfl) 69 rfl fun F0 w0 => ?_
  refine cw_keep [0, 1, 2] (L' := [(0, .pointer (some ⟨b0, 0, none⟩)), (1, .int .i64 x1), (2, .string x2)]) rfl ?_
  refine cw_state (S' := SAT w0 ([imm I, pt b0 #[.pointer none, .int .i64 m0.base_, .int .i64 m0.slots_, .int .i64 m0.shred_] 51] ++ F0)) (fun w hs => hs) ?_
  refine cw_seq ?_
  refine cw_region ?_
  refine ow_vals 1 (j := 1) [0, 1, 2] [(0, .pointer (some ⟨b0, 0, none⟩)), (1, .int .i64 x1), (2, .string x2)] rfl (by kernel_rfl) ?_
  refine ow_end rfl ?_
  refine ew_then ?_
  refine cw_seq ?_
  refine cw_seq ?_
  refine cw_region ?_
  refine ow_vals 2 (j := 2) [0, 1, 2, 13, 14] [(0, .pointer (some ⟨b0, 0, none⟩)), (1, .int .i64 x1), (2, .string x2), (13, .pointer (some ⟨b0, 0, none⟩)), (14, .int .i64 x1)] rfl (by kernel_rfl) ?_
  obtain ⟨r21, h22, hF⟩ := bind_some hF
  refine ow_pw rfl (pw_call (F := [] ++ F0) rfl rfl rfl rfl rfl rfl rfl (by kernel_rfl) (perm_of_pulls [0, 0] rfl) (c_keyring_Ring_why_2 _ x1 m0 b0 r21 h22) ?_)
  rintro _ _ ⟨rfl, rfl⟩
  refine nw_H (H' := [imm I, pt b0 #[.pointer none, .int .i64 m0.base_, .int .i64 m0.slots_, .int .i64 m0.shred_] 51] ++ F0) rfl (nw_ow ?_)
  refine ow_vals 1 (j := 4) [0, 1, 2, 7] [(0, .pointer (some ⟨b0, 0, none⟩)), (1, .int .i64 x1), (2, .string x2), (7, .int .i64 r21)] rfl (by kernel_rfl) ?_
  refine ow_end rfl ?_
  refine ew_then ?_
  refine cw_seq ?_
  refine cw_region ?_
  refine ow_vals 2 (j := 2) [0, 1, 2, 7, 17] [(0, .pointer (some ⟨b0, 0, none⟩)), (1, .int .i64 x1), (2, .string x2), (7, .int .i64 r21), (17, .bool (r21 != 0))] rfl (by kernel_rfl) ?_
  refine ow_end rfl ?_
  refine ew_then ?_
  rcases if_some hF with ⟨h23, hF⟩ | ⟨h23, hF⟩
  · refine cw_cond_t rfl rfl h23 ?_
    refine cw_seq ?_
    refine cw_region ?_
    refine ow_vals 2 (j := 2) [6] [(6, .int .i64 r21)] rfl (by kernel_rfl) ?_
    refine ow_end rfl ?_
    refine ew_then ?_
    refine cw_ret ?_
    refine ew_then_ret ?_
    have hR := Option.some.inj hF
    subst hR
    exact fin1 (H1 := [imm I, pt b0 #[.pointer none, .int .i64 m0.base_, .int .i64 m0.slots_, .int .i64 m0.shred_] 51]) (fun w hs => sat_to [0, 0] 0 rfl hs) rfl (rr_tmp rfl) ⟨rfl, rfl⟩
  · refine cw_cond_f rfl rfl h23 ?_
    refine cw_skip ?_
    refine ew_then ?_
    refine cw_seq ?_
    refine cw_block ?_
    refine cw_seq ?_
    refine cw_region ?_
    refine ow_vals 4 (j := 4) [0, 1, 2, 19] [(0, .pointer (some ⟨b0, 0, none⟩)), (1, .int .i64 x1), (2, .string x2), (19, .bool ((x2.size : Int) != 32))] rfl (by kernel_rfl) ?_
    refine ow_end rfl ?_
    refine ew_then ?_
    rcases if_some hF with ⟨h24, hF⟩ | ⟨h24, hF⟩
    · refine cw_cond_t rfl rfl h24 ?_
      refine cw_seq ?_
      refine cw_region ?_
      refine ow_vals 1 (j := 1) [6] [(6, .int .i64 1)] rfl (by kernel_rfl) ?_
      refine ow_end rfl ?_
      refine ew_then ?_
      refine cw_ret ?_
      refine ew_blk_ret ?_
      refine ew_then_ret ?_
      have hR := Option.some.inj hF
      subst hR
      exact fin1 (H1 := [imm I, pt b0 #[.pointer none, .int .i64 m0.base_, .int .i64 m0.slots_, .int .i64 m0.shred_] 51]) (fun w hs => sat_to [0, 0] 0 rfl hs) rfl (rr_tmp rfl) ⟨rfl, rfl⟩
    · refine cw_cond_f rfl rfl h24 ?_
      refine cw_seq ?_
      refine cw_region ?_
      refine ow_vals 2 (j := 2) [0, 1, 2, 24, 25] [(0, .pointer (some ⟨b0, 0, none⟩)), (1, .int .i64 x1), (2, .string x2), (24, .pointer (some ⟨b0, 0, none⟩)), (25, .int .i64 x1)] rfl (by kernel_rfl) ?_
      obtain ⟨r25, h26, hF⟩ := bind_some hF
      refine ow_pw rfl (pw_call (F := [] ++ F0) rfl rfl rfl rfl rfl rfl rfl (by kernel_rfl) (perm_of_pulls [0, 0] rfl) (c_keyring_Ring_Free_1 _ x1 m0 b0 r25 h26) ?_)
      rintro _ _ ⟨rfl, rfl⟩
      refine nw_H (H' := [imm I, pt b0 #[.pointer none, .int .i64 m0.base_, .int .i64 m0.slots_, .int .i64 m0.shred_] 51] ++ F0) rfl (nw_ow ?_)
      refine ow_vals 2 (j := 5) [0, 1, 2, 23] [(0, .pointer (some ⟨b0, 0, none⟩)), (1, .int .i64 x1), (2, .string x2), (23, .bool (!r25))] rfl (by kernel_rfl) ?_
      refine ow_end rfl ?_
      refine ew_then ?_
      rcases if_some hF with ⟨h27, hF⟩ | ⟨h27, hF⟩
      · refine cw_cond_t rfl rfl h27 ?_
        refine cw_seq ?_
        refine cw_seq ?_
        refine cw_open 18 (SAT w0 ([imm I, pt b0 #[.pointer none, .int .i64 m0.base_, .int .i64 m0.slots_, .int .i64 m0.shred_] 51])) (by kernel_rfl) (f := 18) rfl (fun w hs => sat_drew hs) ?_
        refine aw_vals [0, 1, 2, 4, 5, 6, 8] (f' := 11) (m' := 375) [31, 35, 37] [(31, .pointer (some ⟨b0, 0, none⟩)), (35, .pointer (some ⟨b0, 1, none⟩)), (37, .int .i64 x1)] (fun _ _ _ _ _ h => calm_fin (P := Tryd.prog) (fn := Tryd.f14) _ _ _ _ _ h) (fun w hs => sat_pulls [0, 0] (G := [] ++ F0) rfl hs) rfl (by kernel_rfl) ?_
        refine aw_quiet 3 (m' := 383) (v := .pointer none) 0 [] rfl rfl rfl rfl (by kernel_rfl) (by kernel_rfl) (by kernel_rfl) (fun _ _ _ _ _ h => calm_fin (P := Tryd.prog) (fn := Tryd.f14) _ _ _ _ _ h) (fun w hs => sat_pulls [0, 0] (G := [] ++ F0) rfl hs) (q_load 1 rfl rfl rfl (by kernel_rfl)) ?_
        refine aw_quiet 7 (m' := 511) (v := .int .i64 m0.base_) 0 [] rfl rfl rfl rfl (by kernel_rfl) (by kernel_rfl) (by kernel_rfl) (fun _ _ _ _ _ h => calm_fin (P := Tryd.prog) (fn := Tryd.f14) _ _ _ _ _ h) (fun w hs => sat_pulls [0, 0] (G := [] ++ F0) rfl hs) (q_load 1 rfl rfl rfl (by kernel_rfl)) ?_
        refine aw_vals [9] (f' := 8) (m' := 1023) [32, 38] [(32, .pointer none), (38, .int .i64 (IntKind.i64.wrap (m0.base_ + x1)))] (fun _ _ _ _ _ h => calm_fin (P := Tryd.prog) (fn := Tryd.f14) _ _ _ _ _ h) (fun w hs => sat_pulls [0, 0] (G := [] ++ F0) rfl hs) rfl (by kernel_rfl) ?_
        obtain ⟨r28, h29, hF⟩ := bind_some hF
        refine aw_only 10 (m' := 2047) (by kernel_rfl) (by kernel_rfl) (pw_call (F := [pt b0 #[.pointer none, .int .i64 m0.base_, .int .i64 m0.slots_, .int .i64 m0.shred_] 51] ++ F0) rfl rfl rfl rfl rfl rfl rfl (by kernel_rfl) (perm_of_pulls [0] rfl) (c_guard_Guard_Get_1 _ (IntKind.i64.wrap (m0.base_ + x1)) r28 h29) ?_)
        rintro _ _ ⟨rfl, rfl⟩
        refine nw_H (H' := [imm I, pt b0 #[.pointer none, .int .i64 m0.base_, .int .i64 m0.slots_, .int .i64 m0.shred_] 51] ++ F0) rfl (aw_next (fun w hs => sat_pulls [0, 0] (G := [] ++ F0) rfl hs) ?_)
        refine aw_vals [11, 12, 13, 14, 15, 16, 17] (f' := 0) (m' := 262143) [10] [(10, .int .i64 r28.2.2)] (fun _ _ _ _ _ h => calm_fin (P := Tryd.prog) (fn := Tryd.f14) _ _ _ _ _ h) (fun w hs => sat_pulls [0, 0] (G := [] ++ F0) rfl hs) rfl (by kernel_rfl) ?_
        refine aw_keep [10] (L' := [(10, .int .i64 r28.2.2)]) rfl ?_
        refine aw_end (by kernel_rfl) ?_
        refine ew_then ?_
        refine cw_seq ?_
        refine cw_region ?_
        refine ow_vals 2 (j := 2) [10, 44] [(10, .int .i64 r28.2.2), (44, .bool (r28.2.2 == 8))] rfl (by kernel_rfl) ?_
        refine ow_end rfl ?_
        refine ew_then ?_
        rcases if_some hF with ⟨h30, hF⟩ | ⟨h30, hF⟩
        · refine cw_cond_t rfl rfl h30 ?_
          refine cw_seq ?_
          refine cw_region ?_
          refine ow_vals 2 (j := 2) [6] [(6, .int .i64 r28.2.2)] rfl (by kernel_rfl) ?_
          refine ow_end rfl ?_
          refine ew_then ?_
          refine cw_ret ?_
          refine ew_then_ret ?_
          refine ew_blk_ret ?_
          refine ew_then_ret ?_
          have hR := Option.some.inj hF
          subst hR
          exact fin1 (H1 := [imm I, pt b0 #[.pointer none, .int .i64 m0.base_, .int .i64 m0.slots_, .int .i64 m0.shred_] 51]) (fun w hs => sat_to [0, 0] 0 rfl hs) rfl (rr_tmp rfl) ⟨rfl, rfl⟩
        · refine cw_cond_f rfl rfl h30 ?_
          refine cw_skip ?_
          refine ew_then ?_
          refine cw_seq ?_
          refine cw_region ?_
          refine ow_vals 1 (j := 1) [6] [(6, .int .i64 25)] rfl (by kernel_rfl) ?_
          refine ow_end rfl ?_
          refine ew_then ?_
          refine cw_ret ?_
          refine ew_blk_ret ?_
          refine ew_then_ret ?_
          have hR := Option.some.inj hF
          subst hR
          exact fin1 (H1 := [imm I, pt b0 #[.pointer none, .int .i64 m0.base_, .int .i64 m0.slots_, .int .i64 m0.shred_] 51]) (fun w hs => sat_to [0, 0] 0 rfl hs) rfl (rr_tmp rfl) ⟨rfl, rfl⟩
      · refine cw_cond_f rfl rfl h27 ?_
        refine cw_skip ?_
        refine ew_blk ?_
        refine ew_then ?_
        refine cw_seq ?_
        refine cw_seq ?_
        refine cw_open 17 (SAT w0 ([imm I, pt b0 #[.pointer none, .int .i64 m0.base_, .int .i64 m0.slots_, .int .i64 m0.shred_] 51])) (by kernel_rfl) (f := 17) rfl (fun w hs => sat_drew hs) ?_
        refine aw_vals [0, 1, 2, 4, 5, 6, 8, 10] (f' := 9) (m' := 1399) [0, 49, 53, 55, 57] [(0, .pointer (some ⟨b0, 0, none⟩)), (49, .pointer (some ⟨b0, 0, none⟩)), (53, .pointer (some ⟨b0, 1, none⟩)), (55, .int .i64 x1), (57, .string x2)] (fun _ _ _ _ _ h => calm_fin (P := Tryd.prog) (fn := Tryd.f14) _ _ _ _ _ h) (fun w hs => sat_pulls [0, 0] (G := [] ++ F0) rfl hs) rfl (by kernel_rfl) ?_
        refine aw_quiet 3 (m' := 1407) (v := .pointer none) 0 [] rfl rfl rfl rfl (by kernel_rfl) (by kernel_rfl) (by kernel_rfl) (fun _ _ _ _ _ h => calm_fin (P := Tryd.prog) (fn := Tryd.f14) _ _ _ _ _ h) (fun w hs => sat_pulls [0, 0] (G := [] ++ F0) rfl hs) (q_load 1 rfl rfl rfl (by kernel_rfl)) ?_
        refine aw_quiet 7 (m' := 1535) (v := .int .i64 m0.base_) 0 [] rfl rfl rfl rfl (by kernel_rfl) (by kernel_rfl) (by kernel_rfl) (fun _ _ _ _ _ h => calm_fin (P := Tryd.prog) (fn := Tryd.f14) _ _ _ _ _ h) (fun w hs => sat_pulls [0, 0] (G := [] ++ F0) rfl hs) (q_load 1 rfl rfl rfl (by kernel_rfl)) ?_
        refine aw_vals [9] (f' := 6) (m' := 2047) [0, 50, 56, 57] [(0, .pointer (some ⟨b0, 0, none⟩)), (50, .pointer none), (56, .int .i64 (IntKind.i64.wrap (m0.base_ + x1))), (57, .string x2)] (fun _ _ _ _ _ h => calm_fin (P := Tryd.prog) (fn := Tryd.f14) _ _ _ _ _ h) (fun w hs => sat_pulls [0, 0] (G := [] ++ F0) rfl hs) rfl (by kernel_rfl) ?_
        obtain ⟨r31, h32, hF⟩ := bind_some hF
        refine aw_only 11 (m' := 4095) (by kernel_rfl) (by kernel_rfl) (pw_call (F := [pt b0 #[.pointer none, .int .i64 m0.base_, .int .i64 m0.slots_, .int .i64 m0.shred_] 51] ++ F0) rfl rfl rfl rfl rfl rfl rfl (by kernel_rfl) (perm_of_pulls [0] rfl) (c_guard_Guard_Put_1 _ (IntKind.i64.wrap (m0.base_ + x1)) x2 r31 h32) ?_)
        rintro _ _ ⟨rfl, rfl⟩
        refine nw_H (H' := [imm I, pt b0 #[.pointer none, .int .i64 m0.base_, .int .i64 m0.slots_, .int .i64 m0.shred_] 51] ++ F0) rfl (aw_next (fun w hs => sat_pulls [0, 0] (G := [] ++ F0) rfl hs) ?_)
        refine aw_vals [12, 13, 14, 15, 16] (f' := 0) (m' := 131071) [0, 12] [(0, .pointer (some ⟨b0, 0, none⟩)), (12, .int .i64 r31.2)] (fun _ _ _ _ _ h => calm_fin (P := Tryd.prog) (fn := Tryd.f14) _ _ _ _ _ h) (fun w hs => sat_pulls [0, 0] (G := [] ++ F0) rfl hs) rfl (by kernel_rfl) ?_
        refine aw_keep [0, 12] (L' := [(0, .pointer (some ⟨b0, 0, none⟩)), (12, .int .i64 r31.2)]) rfl ?_
        refine aw_end (by kernel_rfl) ?_
        refine ew_then ?_
        refine cw_seq ?_
        refine cw_region ?_
        refine ow_vals 2 (j := 2) [0, 12, 62] [(0, .pointer (some ⟨b0, 0, none⟩)), (12, .int .i64 r31.2), (62, .bool (r31.2 != 0))] rfl (by kernel_rfl) ?_
        refine ow_end rfl ?_
        refine ew_then ?_
        rcases if_some hF with ⟨h33, hF⟩ | ⟨h33, hF⟩
        · refine cw_cond_t rfl rfl h33 ?_
          refine cw_seq ?_
          refine cw_region ?_
          refine ow_vals 2 (j := 2) [6] [(6, .int .i64 r31.2)] rfl (by kernel_rfl) ?_
          refine ow_end rfl ?_
          refine ew_then ?_
          refine cw_ret ?_
          refine ew_then_ret ?_
          have hR := Option.some.inj hF
          subst hR
          exact fin1 (H1 := [imm I, pt b0 #[.pointer none, .int .i64 m0.base_, .int .i64 m0.slots_, .int .i64 m0.shred_] 51]) (fun w hs => sat_to [0, 0] 0 rfl hs) rfl (rr_tmp rfl) ⟨rfl, rfl⟩
        · refine cw_cond_f rfl rfl h33 ?_
          refine cw_skip ?_
          refine ew_then ?_
          refine cw_seq ?_
          refine cw_region ?_
          refine ow_vals 3 (j := 3) [66] [(66, .pointer (some ⟨b0, 0, none⟩))] rfl (by kernel_rfl) ?_
          refine ow_pw rfl (pw_quiet (v := .pointer none) rfl rfl rfl rfl (q_load 1 rfl rfl rfl (by kernel_rfl)) (nw_ow ?_))
          obtain ⟨r34, h35, hF⟩ := bind_some hF
          refine ow_pw rfl (pw_call (F := [pt b0 #[.pointer none, .int .i64 m0.base_, .int .i64 m0.slots_, .int .i64 m0.shred_] 51] ++ F0) rfl rfl rfl rfl rfl rfl rfl (by kernel_rfl) (perm_of_pulls [0] rfl) (c_guard_Guard_Flush_1 _ r34 h35) ?_)
          rintro _ _ ⟨rfl, rfl⟩
          refine nw_H (H' := [imm I, pt b0 #[.pointer none, .int .i64 m0.base_, .int .i64 m0.slots_, .int .i64 m0.shred_] 51] ++ F0) rfl (nw_ow ?_)
          refine ow_vals 1 (j := 6) [6] [(6, .int .i64 r34)] rfl (by kernel_rfl) ?_
          refine ow_end rfl ?_
          refine ew_then ?_
          refine cw_ret ?_
          have hR := Option.some.inj hF
          subst hR
          exact fin1 (H1 := [imm I, pt b0 #[.pointer none, .int .i64 m0.base_, .int .i64 m0.slots_, .int .i64 m0.shred_] 51]) (fun w hs => sat_to [0, 0] 0 rfl hs) rfl (rr_tmp rfl) ⟨rfl, rfl⟩


def F.keyring_Ring_Shred_1 (x1 : Int) : Option Int :=
  Option.bind (F.keyring_Ring_why_1 x1) (fun (r21 : Int) => if r21 != 0 then (some (r21)) else (none))
set_option maxRecDepth 100000 in
set_option maxHeartbeats 4000000 in
theorem c_keyring_Ring_Shred_1 (I : Hl) (x1 : Int) (res : Int) (hF : F.keyring_Ring_Shred_1 x1 = some res) : Tr Tryd.prog 16 [.pointer none, .int .i64 x1] [imm I] (fun r H' => r = .int .i64 res ∧ H' = [imm I]) := by
  unfold F.keyring_Ring_Shred_1 at hF
  refine tr_of_cw (fn := Tryd.f16) Tryd.func16 rfl (Nat.le_of_ble_eq_true rfl) 67 rfl fun F0 w0 => ?_
  refine cw_keep [0, 1] (L' := [(0, .pointer none), (1, .int .i64 x1)]) rfl ?_
  refine cw_state (S' := SAT w0 ([imm I] ++ F0)) (fun w hs => hs) ?_
  refine cw_seq ?_
  refine cw_region ?_
  refine ow_vals 1 (j := 1) [0, 1] [(0, .pointer none), (1, .int .i64 x1)] rfl (by kernel_rfl) ?_
  refine ow_end rfl ?_
  refine ew_then ?_
  refine cw_seq ?_
  refine cw_seq ?_
  refine cw_region ?_
  refine ow_vals 2 (j := 2) [0, 1, 11, 12] [(0, .pointer none), (1, .int .i64 x1), (11, .pointer none), (12, .int .i64 x1)] rfl (by kernel_rfl) ?_
  obtain ⟨r21, h22, hF⟩ := bind_some hF
  refine ow_pw rfl (pw_call (F := [] ++ F0) rfl rfl rfl rfl rfl rfl rfl (by kernel_rfl) (perm_of_pulls [0] rfl) (c_keyring_Ring_why_1 _ x1 r21 h22) ?_)
  rintro _ _ ⟨rfl, rfl⟩
  refine nw_H (H' := [imm I] ++ F0) rfl (nw_ow ?_)
  refine ow_vals 1 (j := 4) [0, 1, 5] [(0, .pointer none), (1, .int .i64 x1), (5, .int .i64 r21)] rfl (by kernel_rfl) ?_
  refine ow_end rfl ?_
  refine ew_then ?_
  refine cw_seq ?_
  refine cw_region ?_
  refine ow_vals 2 (j := 2) [0, 1, 5, 15] [(0, .pointer none), (1, .int .i64 x1), (5, .int .i64 r21), (15, .bool (r21 != 0))] rfl (by kernel_rfl) ?_
  refine ow_end rfl ?_
  refine ew_then ?_
  rcases if_some hF with ⟨h23, hF⟩ | ⟨h23, hF⟩
  · refine cw_cond_t rfl rfl h23 ?_
    refine cw_seq ?_
    refine cw_region ?_
    refine ow_vals 2 (j := 2) [4] [(4, .int .i64 r21)] rfl (by kernel_rfl) ?_
    refine ow_end rfl ?_
    refine ew_then ?_
    refine cw_ret ?_
    refine ew_then_ret ?_
    have hR := Option.some.inj hF
    subst hR
    exact fin1 (H1 := [imm I]) (fun w hs => sat_to [0] 0 rfl hs) rfl (rr_tmp rfl) ⟨rfl, rfl⟩
  · refine cw_cond_f rfl rfl h23 ?_
    refine cw_skip ?_
    refine ew_then ?_
    refine cw_seq ?_
    refine cw_open 18 (SAT w0 ([imm I])) (by kernel_rfl) (f := 18) rfl (fun w hs => sat_drew hs) ?_
    refine aw_vals [0] (f' := 17) (m' := 1) [0, 1, 18] [(0, .pointer none), (1, .int .i64 x1), (18, .pointer none)] (fun _ _ _ _ _ h => calm_fin (P := Tryd.prog) (fn := Tryd.f16) _ _ _ _ _ h) (fun w hs => sat_pulls [0] (G := [] ++ F0) rfl hs) rfl (by kernel_rfl) ?_
    cases hF


def F.keyring_Ring_Slots_1 : Option Int :=
  some (0)
set_option maxRecDepth 100000 in
set_option maxHeartbeats 4000000 in
theorem c_keyring_Ring_Slots_1 (I : Hl) (res : Int) (hF : F.keyring_Ring_Slots_1 = some res) : Tr Tryd.prog 10 [.pointer none] [imm I] (fun r H' => r = .int .i64 res ∧ H' = [imm I]) := by
  unfold F.keyring_Ring_Slots_1 at hF
  refine tr_of_cw (fn := Tryd.f10) Tryd.func10 rfl (Nat.le_of_ble_eq_true rfl) 9 rfl fun F0 w0 => ?_
  refine cw_keep [0] (L' := [(0, .pointer none)]) rfl ?_
  refine cw_state (S' := SAT w0 ([imm I] ++ F0)) (fun w hs => hs) ?_
  refine cw_seq ?_
  refine cw_region ?_
  refine ow_vals 1 (j := 1) [0] [(0, .pointer none)] rfl (by kernel_rfl) ?_
  refine ow_end rfl ?_
  refine ew_then ?_
  refine cw_seq ?_
  refine cw_seq ?_
  refine cw_region ?_
  refine ow_vals 2 (j := 2) [0, 4] [(0, .pointer none), (4, .bool true)] rfl (by kernel_rfl) ?_
  refine ow_end rfl ?_
  refine ew_then ?_
  refine cw_cond_t rfl rfl rfl ?_
  refine cw_seq ?_
  refine cw_region ?_
  refine ow_vals 1 (j := 1) [2] [(2, .int .i64 0)] rfl (by kernel_rfl) ?_
  refine ow_end rfl ?_
  refine ew_then ?_
  refine cw_ret ?_
  refine ew_then_ret ?_
  have hR := Option.some.inj hF
  subst hR
  exact fin1 (H1 := [imm I]) (fun w hs => sat_to [0] 0 rfl hs) rfl (rr_tmp rfl) ⟨rfl, rfl⟩


def F.keyring_Ring_Shreds (m0 : keyring_Ring) : Option Int :=
  some (m0.shred_)
set_option maxRecDepth 100000 in
set_option maxHeartbeats 4000000 in
theorem c_keyring_Ring_Shreds (I : Hl) (m0 : keyring_Ring) (b0 : Nat) (res : Int) (hF : F.keyring_Ring_Shreds m0 = some res) : Tr Tryd.prog 23 [.pointer (some ⟨b0, 0, none⟩)] [imm I, pt b0 #[.pointer none, .int .i64 m0.base_, .int .i64 m0.slots_, .int .i64 m0.shred_] 51] (fun r H' => r = .int .i64 res ∧ H' = [imm I, pt b0 #[.pointer none, .int .i64 m0.base_, .int .i64 m0.slots_, .int .i64 m0.shred_] 51]) := by
  unfold F.keyring_Ring_Shreds at hF
  refine tr_of_cw (fn := Tryd.f23) Tryd.func23 rfl (Nat.le_of_ble_eq_true rfl) 9 rfl fun F0 w0 => ?_
  refine cw_keep [0] (L' := [(0, .pointer (some ⟨b0, 0, none⟩))]) rfl ?_
  refine cw_state (S' := SAT w0 ([imm I, pt b0 #[.pointer none, .int .i64 m0.base_, .int .i64 m0.slots_, .int .i64 m0.shred_] 51] ++ F0)) (fun w hs => hs) ?_
  refine cw_seq ?_
  refine cw_region ?_
  refine ow_vals 1 (j := 1) [0] [(0, .pointer (some ⟨b0, 0, none⟩))] rfl (by kernel_rfl) ?_
  refine ow_end rfl ?_
  refine ew_then ?_
  refine cw_seq ?_
  refine cw_seq ?_
  refine cw_region ?_
  refine ow_vals 2 (j := 2) [0, 4] [(0, .pointer (some ⟨b0, 0, none⟩)), (4, .bool false)] rfl (by kernel_rfl) ?_
  refine ow_end rfl ?_
  refine ew_then ?_
  refine cw_cond_f rfl rfl rfl ?_
  refine cw_skip ?_
  refine ew_then ?_
  refine cw_seq ?_
  refine cw_region ?_
  refine ow_vals 3 (j := 3) [7] [(7, .pointer (some ⟨b0, 3, none⟩))] rfl (by kernel_rfl) ?_
  refine ow_pw rfl (pw_quiet (v := .int .i64 m0.shred_) rfl rfl rfl rfl (q_load 1 rfl rfl rfl (by kernel_rfl)) (nw_ow ?_))
  refine ow_vals 1 (j := 5) [2] [(2, .int .i64 m0.shred_)] rfl (by kernel_rfl) ?_
  refine ow_end rfl ?_
  refine ew_then ?_
  refine cw_ret ?_
  have hR := Option.some.inj hF
  subst hR
  exact fin1 (H1 := [imm I, pt b0 #[.pointer none, .int .i64 m0.base_, .int .i64 m0.slots_, .int .i64 m0.shred_] 51]) (fun w hs => sat_to [0, 0] 0 rfl hs) rfl (rr_tmp rfl) ⟨rfl, rfl⟩


def F.law13_KeyringNobody (x0 : Int) : Option Bool :=
  Option.bind (F.keyring_Ring_Get x0) (fun (r23 : ByteArray × Int) => Option.bind (F.keyring_Ring_Find (⟨0, 0, 0⟩ : keyring_Ring)) (fun (r25 : Int × Int) => Option.bind (F.keyring_Ring_Keep ([] : List Int)) (fun (r27 : Int × Int) => if r23.2 == 9 then (if r25.2 == 9 then (if r27.2 == 9 then (Option.bind (F.law13_key 1) (fun (r32 : ByteArray) => Option.bind (F.keyring_Ring_Put_1 x0 r32 (⟨0, 0, 0⟩ : keyring_Ring)) (fun (r34 : Int) => if r34 == 9 then (Option.bind (F.keyring_Ring_Shred_1 x0) (fun (r37 : Int) => if r37 == 9 then (Option.bind (F.keyring_Ring_Free_1 x0 (⟨0, 0, 0⟩ : keyring_Ring)) (fun (r40 : Bool) => if !r40 then (Option.bind (F.keyring_Ring_Slots_1) (fun (r43 : Int) => Option.bind (F.keyring_Ring_Shreds (⟨0, 0, 0⟩ : keyring_Ring)) (fun (r45 : Int) => if (IntKind.i64.wrap (r43 + r45)) == 0 then (Option.bind (F.law13_awake) (fun (r48 : Bool) => some (r48))) else (some (false))))) else (some (false)))) else (some (false)))) else (some (false))))) else (some (false))) else (some (false))) else (some (false)))))
set_option maxRecDepth 100000 in
set_option maxHeartbeats 4000000 in
theorem c_law13_KeyringNobody (I : Hl) (x0 : Int) (res : Bool) (hF : F.law13_KeyringNobody x0 = some res) : Tr Tryd.prog 5 [.int .i64 x0] [imm I] (fun r H' => r = .bool res ∧ H' = [imm I]) := by
  unfold F.law13_KeyringNobody at hF
  refine tr_of_cw (fn := Tryd.f5) Tryd.func5 rfl (Nat.le_of_ble_eq_true rfl) 63 rfl fun F0 w0 => ?_
  refine cw_keep [0] (L' := [(0, .int .i64 x0)]) rfl ?_
  refine cw_state (S' := SAT w0 ([imm I] ++ F0)) (fun w hs => hs) ?_
  refine cw_seq ?_
  refine cw_region ?_
  refine ow_vals 1 (j := 1) [0] [(0, .int .i64 x0)] rfl (by kernel_rfl) ?_
  refine ow_end rfl ?_
  refine ew_then ?_
  refine cw_seq ?_
  refine cw_region ?_
  refine ow_vals 1 (j := 1) [0, 3] [(0, .int .i64 x0), (3, .pointer none)] rfl (by kernel_rfl) ?_
  refine ow_end rfl ?_
  refine ew_then ?_
  refine cw_seq ?_
  refine cw_region ?_
  refine ow_pw rfl (pw_alloc (cs := #[.pointer none, .int .i64 0, .int .i64 0, .int .i64 0]) rfl rfl rfl rfl rfl (by kernel_rfl) fun b21 => nw_ow ?_)
  refine ow_end rfl ?_
  refine ew_then ?_
  refine cw_seq ?_
  refine cw_region ?_
  refine ow_vals 2 (j := 2) [0, 3, 4, 12, 13] [(0, .int .i64 x0), (3, .pointer none), (4, .pointer (some ⟨b21, 0, none⟩)), (12, .pointer none), (13, .int .i64 x0)] rfl (by kernel_rfl) ?_
  obtain ⟨r23, h24, hF⟩ := bind_some hF
  refine ow_pw rfl (pw_call (F := [pt b21 #[.pointer none, .int .i64 0, .int .i64 0, .int .i64 0] 51] ++ F0) rfl rfl rfl rfl rfl rfl rfl (by kernel_rfl) (perm_of_pulls [1] rfl) (c_keyring_Ring_Get _ x0 r23 h24) ?_)
  rintro _ _ ⟨rfl, rfl⟩
  refine nw_H (H' := [imm I, pt b21 #[.pointer none, .int .i64 0, .int .i64 0, .int .i64 0] 51] ++ F0) rfl (nw_ow ?_)
  refine ow_vals 5 (j := 8) [0, 3, 4, 6] [(0, .int .i64 x0), (3, .pointer none), (4, .pointer (some ⟨b21, 0, none⟩)), (6, .int .i64 r23.2)] rfl (by kernel_rfl) ?_
  refine ow_end rfl ?_
  refine ew_then ?_
  refine cw_seq ?_
  refine cw_region ?_
  obtain ⟨r25, h26, hF⟩ := bind_some hF
  refine ow_pw rfl (pw_call (F := [] ++ F0) rfl rfl rfl rfl rfl rfl rfl (by kernel_rfl) (perm_of_pulls [0, 0] rfl) (c_keyring_Ring_Find _ (⟨0, 0, 0⟩ : keyring_Ring) b21 r25 h26) ?_)
  rintro _ _ ⟨rfl, rfl⟩
  refine nw_H (H' := [imm I, pt b21 #[.pointer none, .int .i64 ((⟨0, 0, 0⟩ : keyring_Ring).base_), .int .i64 ((⟨0, 0, 0⟩ : keyring_Ring).slots_), .int .i64 ((⟨0, 0, 0⟩ : keyring_Ring).shred_)] 51] ++ F0) rfl (nw_ow ?_)
  refine ow_vals 5 (j := 6) [0, 3, 4, 6, 8] [(0, .int .i64 x0), (3, .pointer none), (4, .pointer (some ⟨b21, 0, none⟩)), (6, .int .i64 r23.2), (8, .int .i64 r25.2)] rfl (by kernel_rfl) ?_
  refine ow_end rfl ?_
  refine ew_then ?_
  refine cw_seq ?_
  refine cw_region ?_
  refine ow_vals 1 (j := 1) [0, 3, 4, 6, 8, 22] [(0, .int .i64 x0), (3, .pointer none), (4, .pointer (some ⟨b21, 0, none⟩)), (6, .int .i64 r23.2), (8, .int .i64 r25.2), (22, .pointer none)] rfl (by kernel_rfl) ?_
  obtain ⟨r27, h28, hF⟩ := bind_some hF
  refine ow_pw rfl (pw_call (F := [pt b21 #[.pointer none, .int .i64 ((⟨0, 0, 0⟩ : keyring_Ring).base_), .int .i64 ((⟨0, 0, 0⟩ : keyring_Ring).slots_), .int .i64 ((⟨0, 0, 0⟩ : keyring_Ring).shred_)] 51] ++ F0) rfl rfl rfl rfl rfl rfl rfl (by kernel_rfl) (perm_of_pulls [0] rfl) (c_keyring_Ring_Keep _ ([] : List Int) none 0 r27 h28 (ro_nil _ _)) ?_)
  rintro _ _ ⟨rfl, rfl⟩
  refine nw_H (H' := [imm I, pt b21 #[.pointer none, .int .i64 ((⟨0, 0, 0⟩ : keyring_Ring).base_), .int .i64 ((⟨0, 0, 0⟩ : keyring_Ring).slots_), .int .i64 ((⟨0, 0, 0⟩ : keyring_Ring).shred_)] 51] ++ F0) rfl (nw_ow ?_)
  refine ow_vals 5 (j := 7) [0, 3, 4, 6, 8, 10] [(0, .int .i64 x0), (3, .pointer none), (4, .pointer (some ⟨b21, 0, none⟩)), (6, .int .i64 r23.2), (8, .int .i64 r25.2), (10, .int .i64 r27.2)] rfl (by kernel_rfl) ?_
  refine ow_end rfl ?_
  refine ew_then ?_
  refine cw_seq ?_
  refine cw_region ?_
  refine ow_vals 3 (j := 3) [0, 3, 4, 8, 10, 28] [(0, .int .i64 x0), (3, .pointer none), (4, .pointer (some ⟨b21, 0, none⟩)), (8, .int .i64 r25.2), (10, .int .i64 r27.2), (28, .bool (r23.2 == 9))] rfl (by kernel_rfl) ?_
  rcases if_some hF with ⟨h29, hF⟩ | ⟨h29, hF⟩
  · refine ow_slots (L' := [(0, .int .i64 x0), (3, .pointer none), (4, .pointer (some ⟨b21, 0, none⟩)), (8, .int .i64 r25.2), (10, .int .i64 r27.2), (28, .bool true)]) (by rw [h29]) ?_
    refine ow_vals 4 (j := 7) [0, 3, 4, 10, 32] [(0, .int .i64 x0), (3, .pointer none), (4, .pointer (some ⟨b21, 0, none⟩)), (10, .int .i64 r27.2), (32, .bool (r25.2 == 9))] rfl (by kernel_rfl) ?_
    rcases if_some hF with ⟨h30, hF⟩ | ⟨h30, hF⟩
    · refine ow_slots (L' := [(0, .int .i64 x0), (3, .pointer none), (4, .pointer (some ⟨b21, 0, none⟩)), (10, .int .i64 r27.2), (32, .bool true)]) (by rw [h30]) ?_
      refine ow_vals 4 (j := 11) [0, 3, 4, 36] [(0, .int .i64 x0), (3, .pointer none), (4, .pointer (some ⟨b21, 0, none⟩)), (36, .bool (r27.2 == 9))] rfl (by kernel_rfl) ?_
      rcases if_some hF with ⟨h31, hF⟩ | ⟨h31, hF⟩
      · refine ow_slots (L' := [(0, .int .i64 x0), (3, .pointer none), (4, .pointer (some ⟨b21, 0, none⟩)), (36, .bool true)]) (by rw [h31]) ?_
        refine ow_vals 1 (j := 12) [0, 3, 4, 36, 37] [(0, .int .i64 x0), (3, .pointer none), (4, .pointer (some ⟨b21, 0, none⟩)), (36, .bool true), (37, .int .i64 x0)] rfl (by kernel_rfl) ?_
        obtain ⟨r32, h33, hF⟩ := bind_some hF
        refine ow_pw rfl (pw_call (F := [pt b21 #[.pointer none, .int .i64 ((⟨0, 0, 0⟩ : keyring_Ring).base_), .int .i64 ((⟨0, 0, 0⟩ : keyring_Ring).slots_), .int .i64 ((⟨0, 0, 0⟩ : keyring_Ring).shred_)] 51] ++ F0) rfl rfl rfl rfl rfl rfl rfl (by kernel_rfl) (perm_of_pulls [0] rfl) (c_law13_key _ 1 r32 h33) ?_)
        rintro _ _ ⟨rfl, rfl⟩
        refine nw_H (H' := [imm I, pt b21 #[.pointer none, .int .i64 ((⟨0, 0, 0⟩ : keyring_Ring).base_), .int .i64 ((⟨0, 0, 0⟩ : keyring_Ring).slots_), .int .i64 ((⟨0, 0, 0⟩ : keyring_Ring).shred_)] 51] ++ F0) rfl (nw_ow ?_)
        obtain ⟨r34, h35, hF⟩ := bind_some hF
        refine ow_pw rfl (pw_call (F := [] ++ F0) rfl rfl rfl rfl rfl rfl rfl (by kernel_rfl) (perm_of_pulls [0, 0] rfl) (c_keyring_Ring_Put_1 _ x0 r32 (⟨0, 0, 0⟩ : keyring_Ring) b21 r34 h35) ?_)
        rintro _ _ ⟨rfl, rfl⟩
        refine nw_H (H' := [imm I, pt b21 #[.pointer none, .int .i64 ((⟨0, 0, 0⟩ : keyring_Ring).base_), .int .i64 ((⟨0, 0, 0⟩ : keyring_Ring).slots_), .int .i64 ((⟨0, 0, 0⟩ : keyring_Ring).shred_)] 51] ++ F0) rfl (nw_ow ?_)
        refine ow_vals 3 (j := 17) [0, 3, 4, 42] [(0, .int .i64 x0), (3, .pointer none), (4, .pointer (some ⟨b21, 0, none⟩)), (42, .bool (r34 == 9))] rfl (by kernel_rfl) ?_
        rcases if_some hF with ⟨h36, hF⟩ | ⟨h36, hF⟩
        · refine ow_slots (L' := [(0, .int .i64 x0), (3, .pointer none), (4, .pointer (some ⟨b21, 0, none⟩)), (42, .bool true)]) (by rw [h36]) ?_
          refine ow_vals 2 (j := 19) [0, 3, 4, 42, 43, 44] [(0, .int .i64 x0), (3, .pointer none), (4, .pointer (some ⟨b21, 0, none⟩)), (42, .bool true), (43, .pointer none), (44, .int .i64 x0)] rfl (by kernel_rfl) ?_
          obtain ⟨r37, h38, hF⟩ := bind_some hF
          refine ow_pw rfl (pw_call (F := [pt b21 #[.pointer none, .int .i64 ((⟨0, 0, 0⟩ : keyring_Ring).base_), .int .i64 ((⟨0, 0, 0⟩ : keyring_Ring).slots_), .int .i64 ((⟨0, 0, 0⟩ : keyring_Ring).shred_)] 51] ++ F0) rfl rfl rfl rfl rfl rfl rfl (by kernel_rfl) (perm_of_pulls [0] rfl) (c_keyring_Ring_Shred_1 _ x0 r37 h38) ?_)
          rintro _ _ ⟨rfl, rfl⟩
          refine nw_H (H' := [imm I, pt b21 #[.pointer none, .int .i64 ((⟨0, 0, 0⟩ : keyring_Ring).base_), .int .i64 ((⟨0, 0, 0⟩ : keyring_Ring).slots_), .int .i64 ((⟨0, 0, 0⟩ : keyring_Ring).shred_)] 51] ++ F0) rfl (nw_ow ?_)
          refine ow_vals 3 (j := 23) [0, 3, 4, 48] [(0, .int .i64 x0), (3, .pointer none), (4, .pointer (some ⟨b21, 0, none⟩)), (48, .bool (r37 == 9))] rfl (by kernel_rfl) ?_
          rcases if_some hF with ⟨h39, hF⟩ | ⟨h39, hF⟩
          · refine ow_slots (L' := [(0, .int .i64 x0), (3, .pointer none), (4, .pointer (some ⟨b21, 0, none⟩)), (48, .bool true)]) (by rw [h39]) ?_
            refine ow_vals 1 (j := 24) [3, 4, 48, 49] [(3, .pointer none), (4, .pointer (some ⟨b21, 0, none⟩)), (48, .bool true), (49, .int .i64 x0)] rfl (by kernel_rfl) ?_
            obtain ⟨r40, h41, hF⟩ := bind_some hF
            refine ow_pw rfl (pw_call (F := [] ++ F0) rfl rfl rfl rfl rfl rfl rfl (by kernel_rfl) (perm_of_pulls [0, 0] rfl) (c_keyring_Ring_Free_1 _ x0 (⟨0, 0, 0⟩ : keyring_Ring) b21 r40 h41) ?_)
            rintro _ _ ⟨rfl, rfl⟩
            refine nw_H (H' := [imm I, pt b21 #[.pointer none, .int .i64 ((⟨0, 0, 0⟩ : keyring_Ring).base_), .int .i64 ((⟨0, 0, 0⟩ : keyring_Ring).slots_), .int .i64 ((⟨0, 0, 0⟩ : keyring_Ring).shred_)] 51] ++ F0) rfl (nw_ow ?_)
            refine ow_vals 3 (j := 28) [3, 4, 53] [(3, .pointer none), (4, .pointer (some ⟨b21, 0, none⟩)), (53, .bool (!r40))] rfl (by kernel_rfl) ?_
            rcases if_some hF with ⟨h42, hF⟩ | ⟨h42, hF⟩
            · refine ow_slots (L' := [(3, .pointer none), (4, .pointer (some ⟨b21, 0, none⟩)), (53, .bool true)]) (by rw [h42]) ?_
              refine ow_vals 1 (j := 29) [4, 53, 54] [(4, .pointer (some ⟨b21, 0, none⟩)), (53, .bool true), (54, .pointer none)] rfl (by kernel_rfl) ?_
              obtain ⟨r43, h44, hF⟩ := bind_some hF
              refine ow_pw rfl (pw_call (F := [pt b21 #[.pointer none, .int .i64 ((⟨0, 0, 0⟩ : keyring_Ring).base_), .int .i64 ((⟨0, 0, 0⟩ : keyring_Ring).slots_), .int .i64 ((⟨0, 0, 0⟩ : keyring_Ring).shred_)] 51] ++ F0) rfl rfl rfl rfl rfl rfl rfl (by kernel_rfl) (perm_of_pulls [0] rfl) (c_keyring_Ring_Slots_1 _ r43 h44) ?_)
              rintro _ _ ⟨rfl, rfl⟩
              refine nw_H (H' := [imm I, pt b21 #[.pointer none, .int .i64 ((⟨0, 0, 0⟩ : keyring_Ring).base_), .int .i64 ((⟨0, 0, 0⟩ : keyring_Ring).slots_), .int .i64 ((⟨0, 0, 0⟩ : keyring_Ring).shred_)] 51] ++ F0) rfl (nw_ow ?_)
              obtain ⟨r45, h46, hF⟩ := bind_some hF
              refine ow_pw rfl (pw_call (F := [] ++ F0) rfl rfl rfl rfl rfl rfl rfl (by kernel_rfl) (perm_of_pulls [0, 0] rfl) (c_keyring_Ring_Shreds _ (⟨0, 0, 0⟩ : keyring_Ring) b21 r45 h46) ?_)
              rintro _ _ ⟨rfl, rfl⟩
              refine nw_H (H' := [imm I, pt b21 #[.pointer none, .int .i64 ((⟨0, 0, 0⟩ : keyring_Ring).base_), .int .i64 ((⟨0, 0, 0⟩ : keyring_Ring).slots_), .int .i64 ((⟨0, 0, 0⟩ : keyring_Ring).shred_)] 51] ++ F0) rfl (nw_ow ?_)
              refine ow_vals 4 (j := 35) [60] [(60, .bool ((IntKind.i64.wrap (r43 + r45)) == 0))] rfl (by kernel_rfl) ?_
              rcases if_some hF with ⟨h47, hF⟩ | ⟨h47, hF⟩
              · refine ow_slots (L' := [(60, .bool true)]) (by rw [h47]) ?_
                obtain ⟨r48, h49, hF⟩ := bind_some hF
                refine ow_pw rfl (pw_call (F := [pt b21 #[.pointer none, .int .i64 ((⟨0, 0, 0⟩ : keyring_Ring).base_), .int .i64 ((⟨0, 0, 0⟩ : keyring_Ring).slots_), .int .i64 ((⟨0, 0, 0⟩ : keyring_Ring).shred_)] 51] ++ F0) rfl rfl rfl rfl rfl rfl rfl (by kernel_rfl) (perm_of_pulls [0] rfl) (c_law13_awake _ r48 h49) ?_)
                rintro _ _ ⟨rfl, rfl⟩
                refine nw_H (H' := [imm I, pt b21 #[.pointer none, .int .i64 ((⟨0, 0, 0⟩ : keyring_Ring).base_), .int .i64 ((⟨0, 0, 0⟩ : keyring_Ring).slots_), .int .i64 ((⟨0, 0, 0⟩ : keyring_Ring).shred_)] 51] ++ F0) rfl (nw_ow ?_)
                refine ow_vals 2 (j := 38) [2] [(2, .bool r48)] rfl (by kernel_rfl) ?_
                refine ow_end rfl ?_
                refine ew_then ?_
                refine cw_ret ?_
                have hR := Option.some.inj hF
                subst hR
                exact fin1 (H1 := [imm I]) (fun w hs => sat_to [1, 0] 1 rfl hs) rfl (rr_tmp rfl) ⟨rfl, rfl⟩
              · refine ow_slots (L' := [(60, .bool false)]) (by rw [h47]) ?_
                refine ow_vals 3 (j := 38) [2] [(2, .bool false)] rfl (by kernel_rfl) ?_
                refine ow_end rfl ?_
                refine ew_then ?_
                refine cw_ret ?_
                have hR := Option.some.inj hF
                subst hR
                exact fin1 (H1 := [imm I]) (fun w hs => sat_to [1, 0] 1 rfl hs) rfl (rr_tmp rfl) ⟨rfl, rfl⟩
            · refine ow_slots (L' := [(3, .pointer none), (4, .pointer (some ⟨b21, 0, none⟩)), (53, .bool false)]) (by rw [h42]) ?_
              refine ow_vals 10 (j := 38) [2] [(2, .bool false)] rfl (by kernel_rfl) ?_
              refine ow_end rfl ?_
              refine ew_then ?_
              refine cw_ret ?_
              have hR := Option.some.inj hF
              subst hR
              exact fin1 (H1 := [imm I]) (fun w hs => sat_to [1, 0] 1 rfl hs) rfl (rr_tmp rfl) ⟨rfl, rfl⟩
          · refine ow_slots (L' := [(0, .int .i64 x0), (3, .pointer none), (4, .pointer (some ⟨b21, 0, none⟩)), (48, .bool false)]) (by rw [h39]) ?_
            refine ow_vals 15 (j := 38) [2] [(2, .bool false)] rfl (by kernel_rfl) ?_
            refine ow_end rfl ?_
            refine ew_then ?_
            refine cw_ret ?_
            have hR := Option.some.inj hF
            subst hR
            exact fin1 (H1 := [imm I]) (fun w hs => sat_to [1, 0] 1 rfl hs) rfl (rr_tmp rfl) ⟨rfl, rfl⟩
        · refine ow_slots (L' := [(0, .int .i64 x0), (3, .pointer none), (4, .pointer (some ⟨b21, 0, none⟩)), (42, .bool false)]) (by rw [h36]) ?_
          refine ow_vals 21 (j := 38) [2] [(2, .bool false)] rfl (by kernel_rfl) ?_
          refine ow_end rfl ?_
          refine ew_then ?_
          refine cw_ret ?_
          have hR := Option.some.inj hF
          subst hR
          exact fin1 (H1 := [imm I]) (fun w hs => sat_to [1, 0] 1 rfl hs) rfl (rr_tmp rfl) ⟨rfl, rfl⟩
      · refine ow_slots (L' := [(0, .int .i64 x0), (3, .pointer none), (4, .pointer (some ⟨b21, 0, none⟩)), (36, .bool false)]) (by rw [h31]) ?_
        refine ow_vals 27 (j := 38) [2] [(2, .bool false)] rfl (by kernel_rfl) ?_
        refine ow_end rfl ?_
        refine ew_then ?_
        refine cw_ret ?_
        have hR := Option.some.inj hF
        subst hR
        exact fin1 (H1 := [imm I]) (fun w hs => sat_to [1, 0] 1 rfl hs) rfl (rr_tmp rfl) ⟨rfl, rfl⟩
    · refine ow_slots (L' := [(0, .int .i64 x0), (3, .pointer none), (4, .pointer (some ⟨b21, 0, none⟩)), (10, .int .i64 r27.2), (32, .bool false)]) (by rw [h30]) ?_
      refine ow_vals 31 (j := 38) [2] [(2, .bool false)] rfl (by kernel_rfl) ?_
      refine ow_end rfl ?_
      refine ew_then ?_
      refine cw_ret ?_
      have hR := Option.some.inj hF
      subst hR
      exact fin1 (H1 := [imm I]) (fun w hs => sat_to [1, 0] 1 rfl hs) rfl (rr_tmp rfl) ⟨rfl, rfl⟩
  · refine ow_slots (L' := [(0, .int .i64 x0), (3, .pointer none), (4, .pointer (some ⟨b21, 0, none⟩)), (8, .int .i64 r25.2), (10, .int .i64 r27.2), (28, .bool false)]) (by rw [h29]) ?_
    refine ow_vals 35 (j := 38) [2] [(2, .bool false)] rfl (by kernel_rfl) ?_
    refine ow_end rfl ?_
    refine ew_then ?_
    refine cw_ret ?_
    have hR := Option.some.inj hF
    subst hR
    exact fin1 (H1 := [imm I]) (fun w hs => sat_to [1, 0] 1 rfl hs) rfl (rr_tmp rfl) ⟨rfl, rfl⟩

end Go.Proofs.YtilpkebkhibpeaaDoor
