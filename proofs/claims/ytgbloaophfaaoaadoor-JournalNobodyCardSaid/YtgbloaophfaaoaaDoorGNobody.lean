/- What the functions compute, and that the code computes it: printed by a program of this claim (wip/tools), for the group Nobody. -/
import Derived.Test.YtgbloaophfaaoaaDoorGSectorse
namespace Go.Proofs.YtgbloaophfaaoaaDoor
set_option linter.all false
open Go Go.RowKit Go.Fw
set_option linter.unusedVariables false

def F.guard_Guard_none_1 : Option Unit :=
  some (())
set_option maxRecDepth 100000 in
set_option maxHeartbeats 4000000 in
theorem c_guard_Guard_none_1 (I : Hl) (res : Unit) (hF : F.guard_Guard_none_1 = some res) : Tr Tryd.prog 37 [.pointer none] [imm I] (fun r H' => r = .bool true ∧ H' = [imm I]) := by
  unfold F.guard_Guard_none_1 at hF
  refine tr_of_cw (fn := Tryd.f37) Tryd.func37 rfl (Nat.le_of_ble_eq_true rfl) 12 rfl fun F0 w0 => ?_
  refine cw_keep [0] (L' := [(0, .pointer none)]) rfl ?_
  refine cw_state (S' := SAT w0 ([imm I] ++ F0)) (fun w hs => hs) ?_
  refine cw_seq ?_
  refine cw_region ?_
  refine ow_vals 1 (j := 1) [0] [(0, .pointer none)] rfl (by kernel_rfl) ?_
  refine ow_end rfl ?_
  refine ew_then ?_
  refine cw_seq ?_
  refine cw_region ?_
  refine ow_vals 10 (j := 10) [2] [(2, .bool true)] rfl (by kernel_rfl) ?_
  refine ow_end rfl ?_
  refine ew_then ?_
  refine cw_ret ?_
  have hR := Option.some.inj hF
  subst hR
  exact fin1 (H1 := [imm I]) (fun w hs => sat_to [0] 0 rfl hs) rfl (rr_tmp rfl) ⟨rfl, rfl⟩


def F.guard_Guard_Blank (x1 : Int) : Option Bool :=
  Option.bind (F.guard_Guard_none_1) (fun (r21 : Unit) => some (false))
set_option maxRecDepth 100000 in
set_option maxHeartbeats 4000000 in
theorem c_guard_Guard_Blank (I : Hl) (x1 : Int) (res : Bool) (hF : F.guard_Guard_Blank x1 = some res) : Tr Tryd.prog 21 [.pointer none, .int .i64 x1] [imm I] (fun r H' => r = .bool res ∧ H' = [imm I]) := by
  unfold F.guard_Guard_Blank at hF
  refine tr_of_cw (fn := Tryd.f21) Tryd.func21 rfl (Nat.le_of_ble_eq_true rfl) 19 rfl fun F0 w0 => ?_
  refine cw_keep [0, 1] (L' := [(0, .pointer none), (1, .int .i64 x1)]) rfl ?_
  refine cw_state (S' := SAT w0 ([imm I] ++ F0)) (fun w hs => hs) ?_
  refine cw_seq ?_
  refine cw_region ?_
  refine ow_vals 1 (j := 1) [0, 1] [(0, .pointer none), (1, .int .i64 x1)] rfl (by kernel_rfl) ?_
  refine ow_end rfl ?_
  refine ew_then ?_
  refine cw_seq ?_
  refine cw_seq ?_
  refine cw_region ?_
  refine ow_vals 1 (j := 1) [0, 1, 8] [(0, .pointer none), (1, .int .i64 x1), (8, .pointer none)] rfl (by kernel_rfl) ?_
  obtain ⟨r21, h22, hF⟩ := bind_some hF
  refine ow_pw rfl (pw_call (F := [] ++ F0) rfl rfl rfl rfl rfl rfl rfl (by kernel_rfl) (perm_of_pulls [0] rfl) (c_guard_Guard_none_1 _ r21 h22) ?_)
  rintro _ _ ⟨rfl, rfl⟩
  refine nw_H (H' := [imm I] ++ F0) rfl (nw_ow ?_)
  refine ow_end rfl ?_
  refine ew_then ?_
  refine cw_cond_t rfl rfl rfl ?_
  refine cw_seq ?_
  refine cw_region ?_
  refine ow_vals 1 (j := 1) [4] [(4, .bool false)] rfl (by kernel_rfl) ?_
  refine ow_end rfl ?_
  refine ew_then ?_
  refine cw_ret ?_
  refine ew_then_ret ?_
  have hR := Option.some.inj hF
  subst hR
  exact fin1 (H1 := [imm I]) (fun w hs => sat_to [0] 0 rfl hs) rfl (rr_tmp rfl) ⟨rfl, rfl⟩


def F.guard_Guard_Erase (x1 : Int) : Option Int :=
  Option.bind (F.guard_Guard_none_1) (fun (r21 : Unit) => some (9))
set_option maxRecDepth 100000 in
set_option maxHeartbeats 4000000 in
theorem c_guard_Guard_Erase (I : Hl) (x1 : Int) (res : Int) (hF : F.guard_Guard_Erase x1 = some res) : Tr Tryd.prog 22 [.pointer none, .int .i64 x1] [imm I] (fun r H' => r = .int .i64 res ∧ H' = [imm I]) := by
  unfold F.guard_Guard_Erase at hF
  refine tr_of_cw (fn := Tryd.f22) Tryd.func22 rfl (Nat.le_of_ble_eq_true rfl) 14 rfl fun F0 w0 => ?_
  refine cw_keep [0, 1] (L' := [(0, .pointer none), (1, .int .i64 x1)]) rfl ?_
  refine cw_state (S' := SAT w0 ([imm I] ++ F0)) (fun w hs => hs) ?_
  refine cw_seq ?_
  refine cw_region ?_
  refine ow_vals 1 (j := 1) [0, 1] [(0, .pointer none), (1, .int .i64 x1)] rfl (by kernel_rfl) ?_
  refine ow_end rfl ?_
  refine ew_then ?_
  refine cw_seq ?_
  refine cw_seq ?_
  refine cw_region ?_
  refine ow_vals 1 (j := 1) [0, 1, 5] [(0, .pointer none), (1, .int .i64 x1), (5, .pointer none)] rfl (by kernel_rfl) ?_
  obtain ⟨r21, h22, hF⟩ := bind_some hF
  refine ow_pw rfl (pw_call (F := [] ++ F0) rfl rfl rfl rfl rfl rfl rfl (by kernel_rfl) (perm_of_pulls [0] rfl) (c_guard_Guard_none_1 _ r21 h22) ?_)
  rintro _ _ ⟨rfl, rfl⟩
  refine nw_H (H' := [imm I] ++ F0) rfl (nw_ow ?_)
  refine ow_end rfl ?_
  refine ew_then ?_
  refine cw_cond_t rfl rfl rfl ?_
  refine cw_seq ?_
  refine cw_region ?_
  refine ow_vals 1 (j := 1) [4] [(4, .int .i64 9)] rfl (by kernel_rfl) ?_
  refine ow_end rfl ?_
  refine ew_then ?_
  refine cw_ret ?_
  refine ew_then_ret ?_
  have hR := Option.some.inj hF
  subst hR
  exact fin1 (H1 := [imm I]) (fun w hs => sat_to [0] 0 rfl hs) rfl (rr_tmp rfl) ⟨rfl, rfl⟩


def F.guard_Guard_Flush : Option Int :=
  Option.bind (F.guard_Guard_none_1) (fun (r21 : Unit) => some (9))
set_option maxRecDepth 100000 in
set_option maxHeartbeats 4000000 in
theorem c_guard_Guard_Flush (I : Hl) (res : Int) (hF : F.guard_Guard_Flush = some res) : Tr Tryd.prog 23 [.pointer none] [imm I] (fun r H' => r = .int .i64 res ∧ H' = [imm I]) := by
  unfold F.guard_Guard_Flush at hF
  refine tr_of_cw (fn := Tryd.f23) Tryd.func23 rfl (Nat.le_of_ble_eq_true rfl) 10 rfl fun F0 w0 => ?_
  refine cw_keep [0] (L' := [(0, .pointer none)]) rfl ?_
  refine cw_state (S' := SAT w0 ([imm I] ++ F0)) (fun w hs => hs) ?_
  refine cw_seq ?_
  refine cw_region ?_
  refine ow_vals 1 (j := 1) [0] [(0, .pointer none)] rfl (by kernel_rfl) ?_
  refine ow_end rfl ?_
  refine ew_then ?_
  refine cw_seq ?_
  refine cw_seq ?_
  refine cw_region ?_
  refine ow_vals 1 (j := 1) [0, 3] [(0, .pointer none), (3, .pointer none)] rfl (by kernel_rfl) ?_
  obtain ⟨r21, h22, hF⟩ := bind_some hF
  refine ow_pw rfl (pw_call (F := [] ++ F0) rfl rfl rfl rfl rfl rfl rfl (by kernel_rfl) (perm_of_pulls [0] rfl) (c_guard_Guard_none_1 _ r21 h22) ?_)
  rintro _ _ ⟨rfl, rfl⟩
  refine nw_H (H' := [imm I] ++ F0) rfl (nw_ow ?_)
  refine ow_end rfl ?_
  refine ew_then ?_
  refine cw_cond_t rfl rfl rfl ?_
  refine cw_seq ?_
  refine cw_region ?_
  refine ow_vals 1 (j := 1) [2] [(2, .int .i64 9)] rfl (by kernel_rfl) ?_
  refine ow_end rfl ?_
  refine ew_then ?_
  refine cw_ret ?_
  refine ew_then_ret ?_
  have hR := Option.some.inj hF
  subst hR
  exact fin1 (H1 := [imm I]) (fun w hs => sat_to [0] 0 rfl hs) rfl (rr_tmp rfl) ⟨rfl, rfl⟩


def F.journal_Wipe.l1 (x1 : Int) (x2 : Int) (x23 : Int) (x24 : Int) : Option ((Int × Int) ⊕ ((Int) ⊕ (Int × Int))) :=
  if decide (x24 < (if x2 < 0 then 0 else x2)) then (Option.bind (F.guard_Guard_Blank (IntKind.i64.wrap (x1 + x24))) (fun (r26 : Bool) => if r26 then (some (.inl (x23, IntKind.i64.wrap (x24 + 1)))) else (Option.bind (F.guard_Guard_Erase (IntKind.i64.wrap (x1 + x24))) (fun (r29 : Int) => if r29 != 0 then (some (.inr (.inr ((0, r29))))) else (some (.inl (IntKind.i64.wrap (x23 + 1), IntKind.i64.wrap (x24 + 1)))))))) else (some (.inr (.inl x23)))
def F.journal_Wipe.r2 (x32 : Int) : Option (Int × Int) :=
  if x32 == 0 then (some ((0, 0))) else (Option.bind (F.guard_Guard_Flush) (fun (r34 : Int) => if r34 != 0 then (some ((0, r34))) else (some ((x32, 0)))))
def F.journal_Wipe (x1 : Int) (x2 : Int) : Option (Int × Int) :=
  thru (iter (fun x => F.journal_Wipe.l1 x1 x2 x.1 x.2) FUEL (0, 0)) (fun x => F.journal_Wipe.r2 x)
set_option maxRecDepth 100000 in
set_option maxHeartbeats 4000000 in
theorem c_journal_Wipe (I : Hl) (x1 : Int) (x2 : Int) (res : Int × Int) (hF : F.journal_Wipe x1 x2 = some res) : Tr Tryd.prog 6 [.pointer none, .int .i64 x1, .int .i64 x2] [imm I] (fun r H' => r = .tuple #[.int .i64 res.1, .int .i64 res.2] ∧ H' = [imm I]) := by
  unfold F.journal_Wipe at hF
  refine tr_of_cw (fn := Tryd.f6) Tryd.func6 rfl (Nat.le_of_ble_eq_true rfl) 41 rfl fun F0 w0 => ?_
  refine cw_keep [0, 1, 2] (L' := [(0, .pointer none), (1, .int .i64 x1), (2, .int .i64 x2)]) rfl ?_
  refine cw_state (S' := SAT w0 ([imm I] ++ F0)) (fun w hs => hs) ?_
  refine cw_seq ?_
  refine cw_region ?_
  refine ow_vals 2 (j := 2) [0, 1, 2] [(0, .pointer none), (1, .int .i64 x1), (2, .int .i64 x2)] rfl (by kernel_rfl) ?_
  refine ow_end rfl ?_
  refine ew_then ?_
  refine cw_seq ?_
  refine cw_region ?_
  refine ow_vals 1 (j := 1) [0, 1, 2, 8] [(0, .pointer none), (1, .int .i64 x1), (2, .int .i64 x2), (8, .int .i64 0)] rfl (by kernel_rfl) ?_
  refine ow_end rfl ?_
  refine ew_then ?_
  obtain ⟨v21, hF, hK21⟩ := thru_some hF
  refine cw_mid (fun a w => ∃ (x32 : Int), .inl x32 = v21 ∧ Fr 41 [(0, .pointer none), (8, .int .i64 x32)] a ∧ SAT w0 ([imm I] ++ F0) w) ?_ ?_
  · refine cw_seq ?_
    refine cw_region ?_
    refine ow_vals 3 (j := 3) [0, 1, 8, 13, 14] [(0, .pointer none), (1, .int .i64 x1), (8, .int .i64 0), (13, .int .i64 (if x2 < 0 then 0 else x2)), (14, .int .i64 0)] rfl (by kernel_rfl) ?_
    refine ow_end rfl ?_
    refine ew_then ?_
    refine cw_block ?_
    refine fun a w hf hs => wp_rounds (fun k a w => ∃ (x23 : Int), ∃ (x24 : Int), iter (fun x => F.journal_Wipe.l1 x1 x2 x.1 x.2) k (x23, x24) = some v21 ∧ Fr 41 [(0, .pointer none), (1, .int .i64 x1), (8, .int .i64 x23), (13, .int .i64 (if x2 < 0 then 0 else x2)), (14, .int .i64 x24)] a ∧ SAT w0 ([imm I] ++ F0) w) ?_ FUEL a w ⟨0, 0, hF, hf.keep [0, 1, 8, 13, 14], sat_to [0] 0 rfl hs⟩
    clear hf hs
    clear a w hF
    rintro k a w ⟨x23, x24, hF2, hf, hs⟩
    obtain ⟨k, r22, rfl, hF, hL22⟩ := iter_some hF2
    clear hF2
    revert a w
    show CW _ _ _ 41 [(0, .pointer none), (1, .int .i64 x1), (8, .int .i64 x23), (13, .int .i64 (if x2 < 0 then 0 else x2)), (14, .int .i64 x24)] (SAT w0 ([imm I] ++ F0))
    try dsimp only at hF
    unfold F.journal_Wipe.l1 at hF
    refine cw_seq ?_
    refine cw_region ?_
    refine ow_vals 1 (j := 1) [0, 1, 8, 13, 14, 15] [(0, .pointer none), (1, .int .i64 x1), (8, .int .i64 x23), (13, .int .i64 (if x2 < 0 then 0 else x2)), (14, .int .i64 x24), (15, .bool (decide (x24 < (if x2 < 0 then 0 else x2))))] rfl (by kernel_rfl) ?_
    refine ow_end rfl ?_
    refine ew_then ?_
    refine cw_seq ?_
    rcases if_some hF with ⟨h25, hF⟩ | ⟨h25, hF⟩
    · refine cw_cond_t rfl rfl h25 ?_
      refine cw_skip ?_
      refine ew_then ?_
      refine cw_seq ?_
      refine cw_block ?_
      refine cw_seq ?_
      refine cw_region ?_
      refine ow_vals 2 (j := 2) [0, 1, 8, 9, 13, 14] [(0, .pointer none), (1, .int .i64 x1), (8, .int .i64 x23), (9, .int .i64 x24), (13, .int .i64 (if x2 < 0 then 0 else x2)), (14, .int .i64 x24)] rfl (by kernel_rfl) ?_
      refine ow_end rfl ?_
      refine ew_then ?_
      refine cw_seq ?_
      refine cw_seq ?_
      refine cw_region ?_
      refine ow_vals 4 (j := 4) [0, 1, 8, 9, 13, 14, 17, 20] [(0, .pointer none), (1, .int .i64 x1), (8, .int .i64 x23), (9, .int .i64 x24), (13, .int .i64 (if x2 < 0 then 0 else x2)), (14, .int .i64 x24), (17, .pointer none), (20, .int .i64 (IntKind.i64.wrap (x1 + x24)))] rfl (by kernel_rfl) ?_
      obtain ⟨r26, h27, hF⟩ := bind_some hF
      refine ow_pw rfl (pw_call (F := [] ++ F0) rfl rfl rfl rfl rfl rfl rfl (by kernel_rfl) (perm_of_pulls [0] rfl) (c_guard_Guard_Blank _ (IntKind.i64.wrap (x1 + x24)) r26 h27) ?_)
      rintro _ _ ⟨rfl, rfl⟩
      refine nw_H (H' := [imm I] ++ F0) rfl (nw_ow ?_)
      refine ow_end rfl ?_
      refine ew_then ?_
      rcases if_some hF with ⟨h28, hF⟩ | ⟨h28, hF⟩
      · refine cw_cond_t rfl rfl h28 ?_
        refine cw_exit ?_
        refine ew_then_exit ?_
        refine ew_blk_exit ?_
        refine ew_then ?_
        refine cw_region ?_
        refine ow_vals 2 (j := 2) [0, 1, 8, 13, 14] [(0, .pointer none), (1, .int .i64 x1), (8, .int .i64 x23), (13, .int .i64 (if x2 < 0 then 0 else x2)), (14, .int .i64 (IntKind.i64.wrap (x24 + 1)))] rfl (by kernel_rfl) ?_
        refine ow_end rfl ?_
        have hR := Option.some.inj hF
        subst hR
        have hR := hL22
        try dsimp only at hR
        exact fun a w hf hs => ⟨k, Nat.lt_succ_self k, x23, IntKind.i64.wrap (x24 + 1), hR, hf.keep [0, 1, 8, 13, 14], sat_to [0] 0 rfl hs⟩
      refine cw_cond_f rfl rfl h28 ?_
      refine cw_skip ?_
      refine ew_then ?_
      refine cw_seq ?_
      refine cw_seq ?_
      refine cw_region ?_
      refine ow_vals 4 (j := 4) [0, 1, 8, 13, 14, 22, 25] [(0, .pointer none), (1, .int .i64 x1), (8, .int .i64 x23), (13, .int .i64 (if x2 < 0 then 0 else x2)), (14, .int .i64 x24), (22, .pointer none), (25, .int .i64 (IntKind.i64.wrap (x1 + x24)))] rfl (by kernel_rfl) ?_
      obtain ⟨r29, h30, hF⟩ := bind_some hF
      refine ow_pw rfl (pw_call (F := [] ++ F0) rfl rfl rfl rfl rfl rfl rfl (by kernel_rfl) (perm_of_pulls [0] rfl) (c_guard_Guard_Erase _ (IntKind.i64.wrap (x1 + x24)) r29 h30) ?_)
      rintro _ _ ⟨rfl, rfl⟩
      refine nw_H (H' := [imm I] ++ F0) rfl (nw_ow ?_)
      refine ow_vals 1 (j := 6) [0, 1, 8, 10, 13, 14] [(0, .pointer none), (1, .int .i64 x1), (8, .int .i64 x23), (10, .int .i64 r29), (13, .int .i64 (if x2 < 0 then 0 else x2)), (14, .int .i64 x24)] rfl (by kernel_rfl) ?_
      refine ow_end rfl ?_
      refine ew_then ?_
      refine cw_seq ?_
      refine cw_region ?_
      refine ow_vals 2 (j := 2) [0, 1, 8, 10, 13, 14, 28] [(0, .pointer none), (1, .int .i64 x1), (8, .int .i64 x23), (10, .int .i64 r29), (13, .int .i64 (if x2 < 0 then 0 else x2)), (14, .int .i64 x24), (28, .bool (r29 != 0))] rfl (by kernel_rfl) ?_
      refine ow_end rfl ?_
      refine ew_then ?_
      rcases if_some hF with ⟨h31, hF⟩ | ⟨h31, hF⟩
      · refine cw_cond_t rfl rfl h31 ?_
        refine cw_seq ?_
        refine cw_region ?_
        refine ow_vals 3 (j := 3) [6, 7] [(6, .int .i64 0), (7, .int .i64 r29)] rfl (by kernel_rfl) ?_
        refine ow_end rfl ?_
        refine ew_then ?_
        refine cw_ret ?_
        refine ew_then_ret ?_
        refine ew_blk_ret ?_
        refine ew_then_ret ?_
        refine ew_then_ret ?_
        refine ew_blk_ret ?_
        refine ew_then_ret ?_
        have hR := Option.some.inj hF
        subst hR
        have hR := hL22
        try dsimp only at hR
        subst hR
        have hR := hK21
        try dsimp only [Thru] at hR
        subst hR
        exact fin2 (H1 := [imm I]) (fun w hs => sat_to [0] 0 rfl hs) rfl (rr_tmp rfl) (rr_tmp rfl) ⟨rfl, rfl⟩
      refine cw_cond_f rfl rfl h31 ?_
      refine cw_skip ?_
      refine ew_then ?_
      refine cw_region ?_
      refine ow_vals 3 (j := 3) [0, 1, 8, 13, 14] [(0, .pointer none), (1, .int .i64 x1), (8, .int .i64 (IntKind.i64.wrap (x23 + 1))), (13, .int .i64 (if x2 < 0 then 0 else x2)), (14, .int .i64 x24)] rfl (by kernel_rfl) ?_
      refine ow_end rfl ?_
      refine ew_blk ?_
      refine ew_then ?_
      refine cw_region ?_
      refine ow_vals 2 (j := 2) [0, 1, 8, 13, 14] [(0, .pointer none), (1, .int .i64 x1), (8, .int .i64 (IntKind.i64.wrap (x23 + 1))), (13, .int .i64 (if x2 < 0 then 0 else x2)), (14, .int .i64 (IntKind.i64.wrap (x24 + 1)))] rfl (by kernel_rfl) ?_
      refine ow_end rfl ?_
      have hR := Option.some.inj hF
      subst hR
      have hR := hL22
      try dsimp only at hR
      exact fun a w hf hs => ⟨k, Nat.lt_succ_self k, IntKind.i64.wrap (x23 + 1), IntKind.i64.wrap (x24 + 1), hR, hf.keep [0, 1, 8, 13, 14], sat_to [0] 0 rfl hs⟩
    refine cw_cond_f rfl rfl h25 ?_
    refine cw_exit ?_
    refine ew_then_exit ?_
    refine ew_then_exit ?_
    refine ew_blk_exit ?_
    have hR := Option.some.inj hF
    subst hR
    have hR := hL22
    try dsimp only at hR
    exact fun a w hf hs => ⟨x23, hR, hf.keep [0, 8], sat_to [0] 0 rfl hs⟩
  rintro a w ⟨x32, hv, hf, hs⟩
  subst hv
  replace hF := hK21
  clear hK21
  try dsimp only [Thru] at hF
  revert a w
  show CW _ _ _ 41 [(0, .pointer none), (8, .int .i64 x32)] (SAT w0 ([imm I] ++ F0))
  unfold F.journal_Wipe.r2 at hF
  refine cw_seq ?_
  refine cw_seq ?_
  refine cw_region ?_
  refine ow_vals 2 (j := 2) [0, 8, 34] [(0, .pointer none), (8, .int .i64 x32), (34, .bool (x32 == 0))] rfl (by kernel_rfl) ?_
  refine ow_end rfl ?_
  refine ew_then ?_
  rcases if_some hF with ⟨h33, hF⟩ | ⟨h33, hF⟩
  · refine cw_cond_t rfl rfl h33 ?_
    refine cw_seq ?_
    refine cw_region ?_
    refine ow_vals 2 (j := 2) [6, 7] [(6, .int .i64 0), (7, .int .i64 0)] rfl (by kernel_rfl) ?_
    refine ow_end rfl ?_
    refine ew_then ?_
    refine cw_ret ?_
    refine ew_then_ret ?_
    have hR := Option.some.inj hF
    subst hR
    exact fin2 (H1 := [imm I]) (fun w hs => sat_to [0] 0 rfl hs) rfl (rr_tmp rfl) (rr_tmp rfl) ⟨rfl, rfl⟩
  refine cw_cond_f rfl rfl h33 ?_
  refine cw_skip ?_
  refine ew_then ?_
  refine cw_seq ?_
  refine cw_seq ?_
  refine cw_region ?_
  refine ow_vals 1 (j := 1) [8, 35] [(8, .int .i64 x32), (35, .pointer none)] rfl (by kernel_rfl) ?_
  obtain ⟨r34, h35, hF⟩ := bind_some hF
  refine ow_pw rfl (pw_call (F := [] ++ F0) rfl rfl rfl rfl rfl rfl rfl (by kernel_rfl) (perm_of_pulls [0] rfl) (c_guard_Guard_Flush _ r34 h35) ?_)
  rintro _ _ ⟨rfl, rfl⟩
  refine nw_H (H' := [imm I] ++ F0) rfl (nw_ow ?_)
  refine ow_vals 1 (j := 3) [8, 11] [(8, .int .i64 x32), (11, .int .i64 r34)] rfl (by kernel_rfl) ?_
  refine ow_end rfl ?_
  refine ew_then ?_
  refine cw_seq ?_
  refine cw_region ?_
  refine ow_vals 2 (j := 2) [8, 11, 38] [(8, .int .i64 x32), (11, .int .i64 r34), (38, .bool (r34 != 0))] rfl (by kernel_rfl) ?_
  refine ow_end rfl ?_
  refine ew_then ?_
  rcases if_some hF with ⟨h36, hF⟩ | ⟨h36, hF⟩
  · refine cw_cond_t rfl rfl h36 ?_
    refine cw_seq ?_
    refine cw_region ?_
    refine ow_vals 3 (j := 3) [6, 7] [(6, .int .i64 0), (7, .int .i64 r34)] rfl (by kernel_rfl) ?_
    refine ow_end rfl ?_
    refine ew_then ?_
    refine cw_ret ?_
    refine ew_then_ret ?_
    have hR := Option.some.inj hF
    subst hR
    exact fin2 (H1 := [imm I]) (fun w hs => sat_to [0] 0 rfl hs) rfl (rr_tmp rfl) (rr_tmp rfl) ⟨rfl, rfl⟩
  refine cw_cond_f rfl rfl h36 ?_
  refine cw_skip ?_
  refine ew_then ?_
  refine cw_seq ?_
  refine cw_region ?_
  refine ow_vals 3 (j := 3) [6, 7] [(6, .int .i64 x32), (7, .int .i64 0)] rfl (by kernel_rfl) ?_
  refine ow_end rfl ?_
  refine ew_then ?_
  refine cw_ret ?_
  have hR := Option.some.inj hF
  subst hR
  exact fin2 (H1 := [imm I]) (fun w hs => sat_to [0] 0 rfl hs) rfl (rr_tmp rfl) (rr_tmp rfl) ⟨rfl, rfl⟩


def F.journal_Journal_none_1 : Option Bool :=
  some (true)
set_option maxRecDepth 100000 in
set_option maxHeartbeats 4000000 in
theorem c_journal_Journal_none_1 (I : Hl) (res : Bool) (hF : F.journal_Journal_none_1 = some res) : Tr Tryd.prog 28 [.pointer none] [imm I] (fun r H' => r = .bool res ∧ H' = [imm I]) := by
  unfold F.journal_Journal_none_1 at hF
  refine tr_of_cw (fn := Tryd.f28) Tryd.func28 rfl (Nat.le_of_ble_eq_true rfl) 12 rfl fun F0 w0 => ?_
  refine cw_keep [0] (L' := [(0, .pointer none)]) rfl ?_
  refine cw_state (S' := SAT w0 ([imm I] ++ F0)) (fun w hs => hs) ?_
  refine cw_seq ?_
  refine cw_region ?_
  refine ow_vals 1 (j := 1) [0] [(0, .pointer none)] rfl (by kernel_rfl) ?_
  refine ow_end rfl ?_
  refine ew_then ?_
  refine cw_seq ?_
  refine cw_region ?_
  refine ow_vals 10 (j := 10) [2] [(2, .bool true)] rfl (by kernel_rfl) ?_
  refine ow_end rfl ?_
  refine ew_then ?_
  refine cw_ret ?_
  have hR := Option.some.inj hF
  subst hR
  exact fin1 (H1 := [imm I]) (fun w hs => sat_to [0] 0 rfl hs) rfl (rr_tmp rfl) ⟨rfl, rfl⟩


def F.journal_Journal_off_1 : Option Int :=
  Option.bind (F.journal_Journal_none_1) (fun (r21 : Bool) => if r21 then (some (9)) else (none))
set_option maxRecDepth 100000 in
set_option maxHeartbeats 4000000 in
theorem c_journal_Journal_off_1 (I : Hl) (res : Int) (hF : F.journal_Journal_off_1 = some res) : Tr Tryd.prog 24 [.pointer none] [imm I] (fun r H' => r = .int .i64 res ∧ H' = [imm I]) := by
  unfold F.journal_Journal_off_1 at hF
  refine tr_of_cw (fn := Tryd.f24) Tryd.func24 rfl (Nat.le_of_ble_eq_true rfl) 11 rfl fun F0 w0 => ?_
  refine cw_keep [0] (L' := [(0, .pointer none)]) rfl ?_
  refine cw_state (S' := SAT w0 ([imm I] ++ F0)) (fun w hs => hs) ?_
  refine cw_seq ?_
  refine cw_region ?_
  refine ow_vals 1 (j := 1) [0] [(0, .pointer none)] rfl (by kernel_rfl) ?_
  refine ow_end rfl ?_
  refine ew_then ?_
  refine cw_seq ?_
  refine cw_block ?_
  refine cw_seq ?_
  refine cw_region ?_
  refine ow_vals 1 (j := 1) [0, 4] [(0, .pointer none), (4, .pointer none)] rfl (by kernel_rfl) ?_
  obtain ⟨r21, h22, hF⟩ := bind_some hF
  refine ow_pw rfl (pw_call (F := [] ++ F0) rfl rfl rfl rfl rfl rfl rfl (by kernel_rfl) (perm_of_pulls [0] rfl) (c_journal_Journal_none_1 _ r21 h22) ?_)
  rintro _ _ ⟨rfl, rfl⟩
  refine nw_H (H' := [imm I] ++ F0) rfl (nw_ow ?_)
  refine ow_vals 1 (j := 3) [0, 3] [(0, .pointer none), (3, .bool r21)] rfl (by kernel_rfl) ?_
  refine ow_end rfl ?_
  refine ew_then ?_
  rcases if_some hF with ⟨h23, hF⟩ | ⟨h23, hF⟩
  · refine cw_cond_t rfl rfl h23 ?_
    refine cw_seq ?_
    refine cw_region ?_
    refine ow_vals 1 (j := 1) [2] [(2, .int .i64 9)] rfl (by kernel_rfl) ?_
    refine ow_end rfl ?_
    refine ew_then ?_
    refine cw_ret ?_
    refine ew_blk_ret ?_
    refine ew_then_ret ?_
    have hR := Option.some.inj hF
    subst hR
    exact fin1 (H1 := [imm I]) (fun w hs => sat_to [0] 0 rfl hs) rfl (rr_tmp rfl) ⟨rfl, rfl⟩
  refine cw_cond_f rfl rfl h23 ?_
  refine cw_seq ?_
  refine cw_region ?_
  refine ow_vals 1 (j := 1) [7] [(7, .pointer none)] rfl (by kernel_rfl) ?_
  cases hF


def F.journal_Journal_Left_1 : Option Int :=
  Option.bind (F.journal_Journal_none_1) (fun (r21 : Bool) => if r21 then (some (0)) else (none))
set_option maxRecDepth 100000 in
set_option maxHeartbeats 4000000 in
theorem c_journal_Journal_Left_1 (I : Hl) (res : Int) (hF : F.journal_Journal_Left_1 = some res) : Tr Tryd.prog 12 [.pointer none] [imm I] (fun r H' => r = .int .i64 res ∧ H' = [imm I]) := by
  unfold F.journal_Journal_Left_1 at hF
  refine tr_of_cw (fn := Tryd.f12) Tryd.func12 rfl (Nat.le_of_ble_eq_true rfl) 14 rfl fun F0 w0 => ?_
  refine cw_keep [0] (L' := [(0, .pointer none)]) rfl ?_
  refine cw_state (S' := SAT w0 ([imm I] ++ F0)) (fun w hs => hs) ?_
  refine cw_seq ?_
  refine cw_region ?_
  refine ow_vals 1 (j := 1) [0] [(0, .pointer none)] rfl (by kernel_rfl) ?_
  refine ow_end rfl ?_
  refine ew_then ?_
  refine cw_seq ?_
  refine cw_seq ?_
  refine cw_region ?_
  refine ow_vals 1 (j := 1) [0, 3] [(0, .pointer none), (3, .pointer none)] rfl (by kernel_rfl) ?_
  obtain ⟨r21, h22, hF⟩ := bind_some hF
  refine ow_pw rfl (pw_call (F := [] ++ F0) rfl rfl rfl rfl rfl rfl rfl (by kernel_rfl) (perm_of_pulls [0] rfl) (c_journal_Journal_none_1 _ r21 h22) ?_)
  rintro _ _ ⟨rfl, rfl⟩
  refine nw_H (H' := [imm I] ++ F0) rfl (nw_ow ?_)
  refine ow_end rfl ?_
  refine ew_then ?_
  rcases if_some hF with ⟨h23, hF⟩ | ⟨h23, hF⟩
  · refine cw_cond_t rfl rfl h23 ?_
    refine cw_seq ?_
    refine cw_region ?_
    refine ow_vals 1 (j := 1) [2] [(2, .int .i64 0)] rfl (by kernel_rfl) ?_
    refine ow_end rfl ?_
    refine ew_then ?_
    refine cw_ret ?_
    refine ew_then_ret ?_
    have hR := Option.some.inj hF
    subst hR
    exact fin1 (H1 := [imm I]) (fun w hs => sat_to [0] 0 rfl hs) rfl (rr_tmp rfl) ⟨rfl, rfl⟩
  refine cw_cond_f rfl rfl h23 ?_
  refine cw_skip ?_
  refine ew_then ?_
  refine cw_seq ?_
  refine cw_open 10 (SAT w0 ([imm I])) (by kernel_rfl) (f := 10) rfl (fun w hs => sat_drew hs) ?_
  refine aw_vals [0] (f' := 9) (m' := 1) [0, 5] [(0, .pointer none), (5, .pointer none)] (fun _ _ _ _ _ h => calm_fin (P := Tryd.prog) (fn := Tryd.f12) _ _ _ _ _ h) (fun w hs => sat_pulls [0] (G := [] ++ F0) rfl hs) rfl (by kernel_rfl) ?_
  cases hF


def F.journal_Journal_Append_1 (x1 : ByteArray) : Option Int :=
  Option.bind (F.journal_Journal_off_1) (fun (r21 : Int) => if r21 != 0 then (some (r21)) else (if decide ((x1.size : Int) > 6000) then (some (3)) else (Option.bind (F.journal_Need (x1.size : Int)) (fun (r25 : Int) => Option.bind (F.journal_Journal_Left_1) (fun (r27 : Int) => if decide (r25 > r27) then (some (6)) else (none))))))
set_option maxRecDepth 100000 in
set_option maxHeartbeats 4000000 in
theorem c_journal_Journal_Append_1 (I : Hl) (x1 : ByteArray) (res : Int) (hF : F.journal_Journal_Append_1 x1 = some res) : Tr Tryd.prog 7 [.pointer none, .string x1] [imm I] (fun r H' => r = .int .i64 res ∧ H' = [imm I]) := by
  unfold F.journal_Journal_Append_1 at hF
  refine tr_of_cw (fn := Tryd.f7) Tryd.func7 rfl (Nat.le_of_ble_eq_true rfl) 123 rfl fun F0 w0 => ?_
  refine cw_keep [0, 1] (L' := [(0, .pointer none), (1, .string x1)]) rfl ?_
  refine cw_state (S' := SAT w0 ([imm I] ++ F0)) (fun w hs => hs) ?_
  refine cw_seq ?_
  refine cw_region ?_
  refine ow_vals 1 (j := 1) [0, 1] [(0, .pointer none), (1, .string x1)] rfl (by kernel_rfl) ?_
  refine ow_end rfl ?_
  refine ew_then ?_
  refine cw_seq ?_
  refine cw_seq ?_
  refine cw_region ?_
  refine ow_vals 1 (j := 1) [0, 1, 13] [(0, .pointer none), (1, .string x1), (13, .pointer none)] rfl (by kernel_rfl) ?_
  obtain ⟨r21, h22, hF⟩ := bind_some hF
  refine ow_pw rfl (pw_call (F := [] ++ F0) rfl rfl rfl rfl rfl rfl rfl (by kernel_rfl) (perm_of_pulls [0] rfl) (c_journal_Journal_off_1 _ r21 h22) ?_)
  rintro _ _ ⟨rfl, rfl⟩
  refine nw_H (H' := [imm I] ++ F0) rfl (nw_ow ?_)
  refine ow_vals 1 (j := 3) [0, 1, 5] [(0, .pointer none), (1, .string x1), (5, .int .i64 r21)] rfl (by kernel_rfl) ?_
  refine ow_end rfl ?_
  refine ew_then ?_
  refine cw_seq ?_
  refine cw_region ?_
  refine ow_vals 2 (j := 2) [0, 1, 5, 16] [(0, .pointer none), (1, .string x1), (5, .int .i64 r21), (16, .bool (r21 != 0))] rfl (by kernel_rfl) ?_
  refine ow_end rfl ?_
  refine ew_then ?_
  rcases if_some hF with ⟨h23, hF⟩ | ⟨h23, hF⟩
  · refine cw_cond_t rfl rfl h23 ?_
    refine cw_seq ?_
    refine cw_region ?_
    refine ow_vals 2 (j := 2) [4] [(4, .int .i64 r21)] rfl (by kernel_rfl) ?_
    refine ow_end rfl ?_
    refine ew_then ?_
    refine cw_ret ?_
    refine ew_then_ret ?_
    have hR := Option.some.inj hF
    subst hR
    exact fin1 (H1 := [imm I]) (fun w hs => sat_to [0] 0 rfl hs) rfl (rr_tmp rfl) ⟨rfl, rfl⟩
  refine cw_cond_f rfl rfl h23 ?_
  refine cw_skip ?_
  refine ew_then ?_
  refine cw_seq ?_
  refine cw_block ?_
  refine cw_seq ?_
  refine cw_region ?_
  refine ow_vals 4 (j := 4) [0, 1, 18] [(0, .pointer none), (1, .string x1), (18, .bool (decide ((x1.size : Int) > 6000)))] rfl (by kernel_rfl) ?_
  refine ow_end rfl ?_
  refine ew_then ?_
  rcases if_some hF with ⟨h24, hF⟩ | ⟨h24, hF⟩
  · refine cw_cond_t rfl rfl h24 ?_
    refine cw_seq ?_
    refine cw_region ?_
    refine ow_vals 1 (j := 1) [4] [(4, .int .i64 3)] rfl (by kernel_rfl) ?_
    refine ow_end rfl ?_
    refine ew_then ?_
    refine cw_ret ?_
    refine ew_blk_ret ?_
    refine ew_then_ret ?_
    have hR := Option.some.inj hF
    subst hR
    exact fin1 (H1 := [imm I]) (fun w hs => sat_to [0] 0 rfl hs) rfl (rr_tmp rfl) ⟨rfl, rfl⟩
  refine cw_cond_f rfl rfl h24 ?_
  refine cw_seq ?_
  refine cw_region ?_
  refine ow_vals 2 (j := 2) [0, 1, 24] [(0, .pointer none), (1, .string x1), (24, .int .i64 (x1.size : Int))] rfl (by kernel_rfl) ?_
  obtain ⟨r25, h26, hF⟩ := bind_some hF
  refine ow_pw rfl (pw_call (F := [] ++ F0) rfl rfl rfl rfl rfl rfl rfl (by kernel_rfl) (perm_of_pulls [0] rfl) (c_journal_Need _ (x1.size : Int) r25 h26) ?_)
  rintro _ _ ⟨rfl, rfl⟩
  refine nw_H (H' := [imm I] ++ F0) rfl (nw_ow ?_)
  refine ow_vals 1 (j := 4) [0, 1, 25, 26] [(0, .pointer none), (1, .string x1), (25, .int .i64 r25), (26, .pointer none)] rfl (by kernel_rfl) ?_
  obtain ⟨r27, h28, hF⟩ := bind_some hF
  refine ow_pw rfl (pw_call (F := [] ++ F0) rfl rfl rfl rfl rfl rfl rfl (by kernel_rfl) (perm_of_pulls [0] rfl) (c_journal_Journal_Left_1 _ r27 h28) ?_)
  rintro _ _ ⟨rfl, rfl⟩
  refine nw_H (H' := [imm I] ++ F0) rfl (nw_ow ?_)
  refine ow_vals 2 (j := 7) [0, 1, 22] [(0, .pointer none), (1, .string x1), (22, .bool (decide (r25 > r27)))] rfl (by kernel_rfl) ?_
  refine ow_end rfl ?_
  refine ew_then ?_
  rcases if_some hF with ⟨h29, hF⟩ | ⟨h29, hF⟩
  · refine cw_cond_t rfl rfl h29 ?_
    refine cw_seq ?_
    refine cw_region ?_
    refine ow_vals 1 (j := 1) [4] [(4, .int .i64 6)] rfl (by kernel_rfl) ?_
    refine ow_end rfl ?_
    refine ew_then ?_
    refine cw_ret ?_
    refine ew_blk_ret ?_
    refine ew_then_ret ?_
    have hR := Option.some.inj hF
    subst hR
    exact fin1 (H1 := [imm I]) (fun w hs => sat_to [0] 0 rfl hs) rfl (rr_tmp rfl) ⟨rfl, rfl⟩
  refine cw_cond_f rfl rfl h29 ?_
  refine cw_skip ?_
  refine ew_blk ?_
  refine ew_then ?_
  refine cw_seq ?_
  refine cw_open 8 (SAT w0 ([imm I])) (by kernel_rfl) (f := 8) rfl (fun w hs => sat_drew hs) ?_
  refine aw_vals [0, 1] (f' := 6) (m' := 3) [0, 1, 29, 30] [(0, .pointer none), (1, .string x1), (29, .string x1), (30, .pointer none)] (fun _ _ _ _ _ h => calm_fin (P := Tryd.prog) (fn := Tryd.f7) _ _ _ _ _ h) (fun w hs => sat_pulls [0] (G := [] ++ F0) rfl hs) rfl (by kernel_rfl) ?_
  cases hF


def F.journal_Journal_none_2 (m0 : journal_Journal) : Option Bool :=
  some (true)
set_option maxRecDepth 100000 in
set_option maxHeartbeats 4000000 in
theorem c_journal_Journal_none_2 (I : Hl) (m0 : journal_Journal) (p0 : Option Addr) (c0 : Nat) (b0 : Nat) (res : Bool) (hF : F.journal_Journal_none_2 m0 = some res) (hr0 : ro I eStr p0 c0 m0.list_) : Tr Tryd.prog 28 [.pointer (some ⟨b0, 0, none⟩)] [imm I, pt b0 #[.pointer none, .int .i64 m0.base_, .int .i64 m0.size_, .int .i64 m0.next_, .int .i64 m0.last_, .slice p0 m0.list_.length c0, .int .i64 m0.sure_, .bool m0.dead_] 26] (fun r H' => r = .bool res ∧ H' = [imm I, pt b0 #[.pointer none, .int .i64 m0.base_, .int .i64 m0.size_, .int .i64 m0.next_, .int .i64 m0.last_, .slice p0 m0.list_.length c0, .int .i64 m0.sure_, .bool m0.dead_] 26]) := by
  unfold F.journal_Journal_none_2 at hF
  refine tr_of_cw (fn := Tryd.f28) Tryd.func28 rfl (Nat.le_of_ble_eq_true rfl) 12 rfl fun F0 w0 => ?_
  refine cw_keep [0] (L' := [(0, .pointer (some ⟨b0, 0, none⟩))]) rfl ?_
  refine cw_state (S' := SAT w0 ([imm I, pt b0 #[.pointer none, .int .i64 m0.base_, .int .i64 m0.size_, .int .i64 m0.next_, .int .i64 m0.last_, .slice p0 m0.list_.length c0, .int .i64 m0.sure_, .bool m0.dead_] 26] ++ F0)) (fun w hs => hs) ?_
  refine cw_seq ?_
  refine cw_region ?_
  refine ow_vals 1 (j := 1) [0] [(0, .pointer (some ⟨b0, 0, none⟩))] rfl (by kernel_rfl) ?_
  refine ow_end rfl ?_
  refine ew_then ?_
  refine cw_seq ?_
  refine cw_region ?_
  refine ow_vals 6 (j := 6) [5, 8] [(5, .bool false), (8, .pointer (some ⟨b0, 0, none⟩))] rfl (by kernel_rfl) ?_
  refine ow_pw rfl (pw_quiet (v := .pointer none) rfl rfl rfl rfl (q_load 1 rfl rfl rfl (by kernel_rfl)) (nw_ow ?_))
  refine ow_vals 3 (j := 10) [2] [(2, .bool true)] rfl (by kernel_rfl) ?_
  refine ow_end rfl ?_
  refine ew_then ?_
  refine cw_ret ?_
  have hR := Option.some.inj hF
  subst hR
  exact fin1 (H1 := [imm I, pt b0 #[.pointer none, .int .i64 m0.base_, .int .i64 m0.size_, .int .i64 m0.next_, .int .i64 m0.last_, .slice p0 m0.list_.length c0, .int .i64 m0.sure_, .bool m0.dead_] 26]) (fun w hs => sat_to [0, 0] 0 rfl hs) rfl (rr_tmp rfl) ⟨rfl, rfl⟩


def F.journal_Journal_off_2 (m0 : journal_Journal) : Option Int :=
  Option.bind (F.journal_Journal_none_2 m0) (fun (r21 : Bool) => if r21 then (some (9)) else (if m0.dead_ then (some (8)) else (some (0))))
set_option maxRecDepth 100000 in
set_option maxHeartbeats 4000000 in
theorem c_journal_Journal_off_2 (I : Hl) (m0 : journal_Journal) (p0 : Option Addr) (c0 : Nat) (b0 : Nat) (res : Int) (hF : F.journal_Journal_off_2 m0 = some res) (hr0 : ro I eStr p0 c0 m0.list_) : Tr Tryd.prog 24 [.pointer (some ⟨b0, 0, none⟩)] [imm I, pt b0 #[.pointer none, .int .i64 m0.base_, .int .i64 m0.size_, .int .i64 m0.next_, .int .i64 m0.last_, .slice p0 m0.list_.length c0, .int .i64 m0.sure_, .bool m0.dead_] 26] (fun r H' => r = .int .i64 res ∧ H' = [imm I, pt b0 #[.pointer none, .int .i64 m0.base_, .int .i64 m0.size_, .int .i64 m0.next_, .int .i64 m0.last_, .slice p0 m0.list_.length c0, .int .i64 m0.sure_, .bool m0.dead_] 26]) := by
  unfold F.journal_Journal_off_2 at hF
  refine tr_of_cw (fn := Tryd.f24) Tryd.func24 rfl (Nat.le_of_ble_eq_true rfl) 11 rfl fun F0 w0 => ?_
  refine cw_keep [0] (L' := [(0, .pointer (some ⟨b0, 0, none⟩))]) rfl ?_
  refine cw_state (S' := SAT w0 ([imm I, pt b0 #[.pointer none, .int .i64 m0.base_, .int .i64 m0.size_, .int .i64 m0.next_, .int .i64 m0.last_, .slice p0 m0.list_.length c0, .int .i64 m0.sure_, .bool m0.dead_] 26] ++ F0)) (fun w hs => hs) ?_
  refine cw_seq ?_
  refine cw_region ?_
  refine ow_vals 1 (j := 1) [0] [(0, .pointer (some ⟨b0, 0, none⟩))] rfl (by kernel_rfl) ?_
  refine ow_end rfl ?_
  refine ew_then ?_
  refine cw_seq ?_
  refine cw_block ?_
  refine cw_seq ?_
  refine cw_region ?_
  refine ow_vals 1 (j := 1) [0, 4] [(0, .pointer (some ⟨b0, 0, none⟩)), (4, .pointer (some ⟨b0, 0, none⟩))] rfl (by kernel_rfl) ?_
  obtain ⟨r21, h22, hF⟩ := bind_some hF
  refine ow_pw rfl (pw_call (F := [] ++ F0) rfl rfl rfl rfl rfl rfl rfl (by kernel_rfl) (perm_of_pulls [0, 0] rfl) (c_journal_Journal_none_2 _ m0 p0 c0 b0 r21 h22 hr0) ?_)
  rintro _ _ ⟨rfl, rfl⟩
  refine nw_H (H' := [imm I, pt b0 #[.pointer none, .int .i64 m0.base_, .int .i64 m0.size_, .int .i64 m0.next_, .int .i64 m0.last_, .slice p0 m0.list_.length c0, .int .i64 m0.sure_, .bool m0.dead_] 26] ++ F0) rfl (nw_ow ?_)
  refine ow_vals 1 (j := 3) [0, 3] [(0, .pointer (some ⟨b0, 0, none⟩)), (3, .bool r21)] rfl (by kernel_rfl) ?_
  refine ow_end rfl ?_
  refine ew_then ?_
  rcases if_some hF with ⟨h23, hF⟩ | ⟨h23, hF⟩
  · refine cw_cond_t rfl rfl h23 ?_
    refine cw_seq ?_
    refine cw_region ?_
    refine ow_vals 1 (j := 1) [2] [(2, .int .i64 9)] rfl (by kernel_rfl) ?_
    refine ow_end rfl ?_
    refine ew_then ?_
    refine cw_ret ?_
    refine ew_blk_ret ?_
    refine ew_then_ret ?_
    have hR := Option.some.inj hF
    subst hR
    exact fin1 (H1 := [imm I, pt b0 #[.pointer none, .int .i64 m0.base_, .int .i64 m0.size_, .int .i64 m0.next_, .int .i64 m0.last_, .slice p0 m0.list_.length c0, .int .i64 m0.sure_, .bool m0.dead_] 26]) (fun w hs => sat_to [0, 0] 0 rfl hs) rfl (rr_tmp rfl) ⟨rfl, rfl⟩
  refine cw_cond_f rfl rfl h23 ?_
  refine cw_seq ?_
  refine cw_region ?_
  refine ow_vals 3 (j := 3) [9] [(9, .pointer (some ⟨b0, 7, none⟩))] rfl (by kernel_rfl) ?_
  refine ow_pw rfl (pw_quiet (v := .bool m0.dead_) rfl rfl rfl rfl (q_load 1 rfl rfl rfl (by kernel_rfl)) (nw_ow ?_))
  refine ow_vals 1 (j := 5) [6] [(6, .bool m0.dead_)] rfl (by kernel_rfl) ?_
  refine ow_end rfl ?_
  refine ew_then ?_
  rcases if_some hF with ⟨h24, hF⟩ | ⟨h24, hF⟩
  · refine cw_cond_t rfl rfl h24 ?_
    refine cw_seq ?_
    refine cw_region ?_
    refine ow_vals 1 (j := 1) [2] [(2, .int .i64 8)] rfl (by kernel_rfl) ?_
    refine ow_end rfl ?_
    refine ew_then ?_
    refine cw_ret ?_
    refine ew_blk_ret ?_
    refine ew_then_ret ?_
    have hR := Option.some.inj hF
    subst hR
    exact fin1 (H1 := [imm I, pt b0 #[.pointer none, .int .i64 m0.base_, .int .i64 m0.size_, .int .i64 m0.next_, .int .i64 m0.last_, .slice p0 m0.list_.length c0, .int .i64 m0.sure_, .bool m0.dead_] 26]) (fun w hs => sat_to [0, 0] 0 rfl hs) rfl (rr_tmp rfl) ⟨rfl, rfl⟩
  refine cw_cond_f rfl rfl h24 ?_
  refine cw_skip ?_
  refine ew_blk ?_
  refine ew_then ?_
  refine cw_seq ?_
  refine cw_region ?_
  refine ow_vals 1 (j := 1) [2] [(2, .int .i64 0)] rfl (by kernel_rfl) ?_
  refine ow_end rfl ?_
  refine ew_then ?_
  refine cw_ret ?_
  have hR := Option.some.inj hF
  subst hR
  exact fin1 (H1 := [imm I, pt b0 #[.pointer none, .int .i64 m0.base_, .int .i64 m0.size_, .int .i64 m0.next_, .int .i64 m0.last_, .slice p0 m0.list_.length c0, .int .i64 m0.sure_, .bool m0.dead_] 26]) (fun w hs => sat_to [0, 0] 0 rfl hs) rfl (rr_tmp rfl) ⟨rfl, rfl⟩


def F.journal_Journal_fall_1 (x1 : Int) (m0 : journal_Journal) : Option (Int × journal_Journal) :=
  some ((x1, (⟨m0.base_, m0.size_, m0.next_, m0.last_, m0.list_, m0.sure_, true⟩ : journal_Journal)))
set_option maxRecDepth 100000 in
set_option maxHeartbeats 4000000 in
theorem c_journal_Journal_fall_1 (I : Hl) (x1 : Int) (m0 : journal_Journal) (p0 : Option Addr) (c0 : Nat) (b0 : Nat) (res : Int × journal_Journal) (hF : F.journal_Journal_fall_1 x1 m0 = some res) (hr0 : ro I eStr p0 c0 m0.list_) : Tr Tryd.prog 27 [.pointer (some ⟨b0, 0, none⟩), .int .i64 x1] [imm I, pt b0 #[.pointer none, .int .i64 m0.base_, .int .i64 m0.size_, .int .i64 m0.next_, .int .i64 m0.last_, .slice p0 m0.list_.length c0, .int .i64 m0.sure_, .bool m0.dead_] 26] (fun r H' => ∃ (pq1 : Option Addr), ∃ (cq2 : Nat), r = .int .i64 res.1 ∧ H' = [imm I, pt b0 #[.pointer none, .int .i64 res.2.base_, .int .i64 res.2.size_, .int .i64 res.2.next_, .int .i64 res.2.last_, .slice pq1 res.2.list_.length cq2, .int .i64 res.2.sure_, .bool res.2.dead_] 26] ∧ ro I eStr pq1 cq2 res.2.list_) := by
  unfold F.journal_Journal_fall_1 at hF
  refine tr_of_cw (fn := Tryd.f27) Tryd.func27 rfl (Nat.le_of_ble_eq_true rfl) 9 rfl fun F0 w0 => ?_
  refine cw_keep [0, 1] (L' := [(0, .pointer (some ⟨b0, 0, none⟩)), (1, .int .i64 x1)]) rfl ?_
  refine cw_state (S' := SAT w0 ([imm I, pt b0 #[.pointer none, .int .i64 m0.base_, .int .i64 m0.size_, .int .i64 m0.next_, .int .i64 m0.last_, .slice p0 m0.list_.length c0, .int .i64 m0.sure_, .bool m0.dead_] 26] ++ F0)) (fun w hs => hs) ?_
  refine cw_seq ?_
  refine cw_region ?_
  refine ow_vals 1 (j := 1) [0, 1] [(0, .pointer (some ⟨b0, 0, none⟩)), (1, .int .i64 x1)] rfl (by kernel_rfl) ?_
  refine ow_end rfl ?_
  refine ew_then ?_
  refine cw_seq ?_
  refine cw_region ?_
  refine ow_vals 3 (j := 3) [1, 7] [(1, .int .i64 x1), (7, .pointer (some ⟨b0, 7, none⟩))] rfl (by kernel_rfl) ?_
  refine ow_pw rfl (pw_store 1 #[.pointer none, .int .i64 m0.base_, .int .i64 m0.size_, .int .i64 m0.next_, .int .i64 m0.last_, .slice p0 m0.list_.length c0, .int .i64 m0.sure_, .bool true] rfl rfl rfl rfl rfl rfl rfl (by kernel_rfl) (nw_H (H' := [imm I, pt b0 #[.pointer none, .int .i64 m0.base_, .int .i64 m0.size_, .int .i64 m0.next_, .int .i64 m0.last_, .slice p0 m0.list_.length c0, .int .i64 m0.sure_, .bool true] 26] ++ F0) rfl (nw_ow ?_)))
  refine ow_end rfl ?_
  refine ew_then ?_
  refine cw_seq ?_
  refine cw_region ?_
  refine ow_vals 2 (j := 2) [4] [(4, .int .i64 x1)] rfl (by kernel_rfl) ?_
  refine ow_end rfl ?_
  refine ew_then ?_
  refine cw_ret ?_
  have hR := Option.some.inj hF
  subst hR
  exact fin1 (H1 := [imm I, pt b0 #[.pointer none, .int .i64 ((⟨m0.base_, m0.size_, m0.next_, m0.last_, m0.list_, m0.sure_, true⟩ : journal_Journal).base_), .int .i64 ((⟨m0.base_, m0.size_, m0.next_, m0.last_, m0.list_, m0.sure_, true⟩ : journal_Journal).size_), .int .i64 ((⟨m0.base_, m0.size_, m0.next_, m0.last_, m0.list_, m0.sure_, true⟩ : journal_Journal).next_), .int .i64 ((⟨m0.base_, m0.size_, m0.next_, m0.last_, m0.list_, m0.sure_, true⟩ : journal_Journal).last_), .slice p0 ((⟨m0.base_, m0.size_, m0.next_, m0.last_, m0.list_, m0.sure_, true⟩ : journal_Journal).list_).length c0, .int .i64 ((⟨m0.base_, m0.size_, m0.next_, m0.last_, m0.list_, m0.sure_, true⟩ : journal_Journal).sure_), .bool ((⟨m0.base_, m0.size_, m0.next_, m0.last_, m0.list_, m0.sure_, true⟩ : journal_Journal).dead_)] 26]) (fun w hs => sat_to [0, 0] 0 rfl hs) rfl (rr_tmp rfl) ⟨p0, c0, rfl, rfl, hr0⟩


def F.journal_Journal_Flush (m0 : journal_Journal) : Option (Int × journal_Journal) :=
  Option.bind (F.journal_Journal_off_2 m0) (fun (r21 : Int) => if r21 != 0 then (some ((r21, m0))) else (if m0.sure_ == (m0.list_.length : Int) then (some ((0, m0))) else (Option.bind (F.guard_Guard_Flush) (fun (r25 : Int) => if r25 != 0 then (Option.bind (F.journal_Journal_fall_1 r25 m0) (fun (r28 : Int × journal_Journal) => some ((r28.1, r28.2)))) else (some ((0, (⟨m0.base_, m0.size_, m0.next_, m0.last_, m0.list_, (m0.list_.length : Int), m0.dead_⟩ : journal_Journal))))))))
set_option maxRecDepth 100000 in
set_option maxHeartbeats 4000000 in
theorem c_journal_Journal_Flush (I : Hl) (m0 : journal_Journal) (p0 : Option Addr) (c0 : Nat) (b0 : Nat) (res : Int × journal_Journal) (hF : F.journal_Journal_Flush m0 = some res) (hr0 : ro I eStr p0 c0 m0.list_) : Tr Tryd.prog 8 [.pointer (some ⟨b0, 0, none⟩)] [imm I, pt b0 #[.pointer none, .int .i64 m0.base_, .int .i64 m0.size_, .int .i64 m0.next_, .int .i64 m0.last_, .slice p0 m0.list_.length c0, .int .i64 m0.sure_, .bool m0.dead_] 26] (fun r H' => ∃ (pq1 : Option Addr), ∃ (cq2 : Nat), r = .int .i64 res.1 ∧ H' = [imm I, pt b0 #[.pointer none, .int .i64 res.2.base_, .int .i64 res.2.size_, .int .i64 res.2.next_, .int .i64 res.2.last_, .slice pq1 res.2.list_.length cq2, .int .i64 res.2.sure_, .bool res.2.dead_] 26] ∧ ro I eStr pq1 cq2 res.2.list_) := by
  unfold F.journal_Journal_Flush at hF
  refine tr_of_cw (fn := Tryd.f8) Tryd.func8 rfl (Nat.le_of_ble_eq_true rfl) 38 rfl fun F0 w0 => ?_
  refine cw_keep [0] (L' := [(0, .pointer (some ⟨b0, 0, none⟩))]) rfl ?_
  refine cw_state (S' := SAT w0 ([imm I, pt b0 #[.pointer none, .int .i64 m0.base_, .int .i64 m0.size_, .int .i64 m0.next_, .int .i64 m0.last_, .slice p0 m0.list_.length c0, .int .i64 m0.sure_, .bool m0.dead_] 26] ++ F0)) (fun w hs => hs) ?_
  refine cw_seq ?_
  refine cw_region ?_
  refine ow_vals 1 (j := 1) [0] [(0, .pointer (some ⟨b0, 0, none⟩))] rfl (by kernel_rfl) ?_
  refine ow_end rfl ?_
  refine ew_then ?_
  refine cw_seq ?_
  refine cw_seq ?_
  refine cw_region ?_
  refine ow_vals 1 (j := 1) [0, 5] [(0, .pointer (some ⟨b0, 0, none⟩)), (5, .pointer (some ⟨b0, 0, none⟩))] rfl (by kernel_rfl) ?_
  obtain ⟨r21, h22, hF⟩ := bind_some hF
  refine ow_pw rfl (pw_call (F := [] ++ F0) rfl rfl rfl rfl rfl rfl rfl (by kernel_rfl) (perm_of_pulls [0, 0] rfl) (c_journal_Journal_off_2 _ m0 p0 c0 b0 r21 h22 hr0) ?_)
  rintro _ _ ⟨rfl, rfl⟩
  refine nw_H (H' := [imm I, pt b0 #[.pointer none, .int .i64 m0.base_, .int .i64 m0.size_, .int .i64 m0.next_, .int .i64 m0.last_, .slice p0 m0.list_.length c0, .int .i64 m0.sure_, .bool m0.dead_] 26] ++ F0) rfl (nw_ow ?_)
  refine ow_vals 1 (j := 3) [0, 3] [(0, .pointer (some ⟨b0, 0, none⟩)), (3, .int .i64 r21)] rfl (by kernel_rfl) ?_
  refine ow_end rfl ?_
  refine ew_then ?_
  refine cw_seq ?_
  refine cw_region ?_
  refine ow_vals 2 (j := 2) [0, 3, 8] [(0, .pointer (some ⟨b0, 0, none⟩)), (3, .int .i64 r21), (8, .bool (r21 != 0))] rfl (by kernel_rfl) ?_
  refine ow_end rfl ?_
  refine ew_then ?_
  rcases if_some hF with ⟨h23, hF⟩ | ⟨h23, hF⟩
  · refine cw_cond_t rfl rfl h23 ?_
    refine cw_seq ?_
    refine cw_region ?_
    refine ow_vals 2 (j := 2) [2] [(2, .int .i64 r21)] rfl (by kernel_rfl) ?_
    refine ow_end rfl ?_
    refine ew_then ?_
    refine cw_ret ?_
    refine ew_then_ret ?_
    have hR := Option.some.inj hF
    subst hR
    exact fin1 (H1 := [imm I, pt b0 #[.pointer none, .int .i64 m0.base_, .int .i64 m0.size_, .int .i64 m0.next_, .int .i64 m0.last_, .slice p0 m0.list_.length c0, .int .i64 m0.sure_, .bool m0.dead_] 26]) (fun w hs => sat_to [0, 0] 0 rfl hs) rfl (rr_tmp rfl) ⟨p0, c0, rfl, rfl, hr0⟩
  refine cw_cond_f rfl rfl h23 ?_
  refine cw_skip ?_
  refine ew_then ?_
  refine cw_seq ?_
  refine cw_seq ?_
  refine cw_open 10 (SAT w0 ([imm I, pt b0 #[.pointer none, .int .i64 m0.base_, .int .i64 m0.size_, .int .i64 m0.next_, .int .i64 m0.last_, .slice p0 m0.list_.length c0, .int .i64 m0.sure_, .bool m0.dead_] 26])) (by kernel_rfl) (f := 10) rfl (fun w hs => sat_drew hs) ?_
  refine aw_vals [0, 1, 2, 4, 5, 6] (f' := 4) (m' := 119) [0, 12, 16] [(0, .pointer (some ⟨b0, 0, none⟩)), (12, .pointer (some ⟨b0, 6, none⟩)), (16, .pointer (some ⟨b0, 5, none⟩))] (fun _ _ _ _ _ h => calm_fin (P := Tryd.prog) (fn := Tryd.f8) _ _ _ _ _ h) (fun w hs => sat_pulls [0, 0] (G := [] ++ F0) rfl hs) rfl (by kernel_rfl) ?_
  refine aw_quiet 3 (m' := 127) (v := .int .i64 m0.sure_) 0 [] rfl rfl rfl rfl (by kernel_rfl) (by kernel_rfl) (by kernel_rfl) (fun _ _ _ _ _ h => calm_fin (P := Tryd.prog) (fn := Tryd.f8) _ _ _ _ _ h) (fun w hs => sat_pulls [0, 0] (G := [] ++ F0) rfl hs) (q_load 1 rfl rfl rfl (by kernel_rfl)) ?_
  refine aw_quiet 7 (m' := 255) (v := .slice p0 m0.list_.length c0) 0 [] rfl rfl rfl rfl (by kernel_rfl) (by kernel_rfl) (by kernel_rfl) (fun _ _ _ _ _ h => calm_fin (P := Tryd.prog) (fn := Tryd.f8) _ _ _ _ _ h) (fun w hs => sat_pulls [0, 0] (G := [] ++ F0) rfl hs) (q_load 1 rfl rfl rfl (by kernel_rfl)) ?_
  refine aw_vals [8, 9] (f' := 0) (m' := 1023) [0, 19] [(0, .pointer (some ⟨b0, 0, none⟩)), (19, .bool (m0.sure_ == (m0.list_.length : Int)))] (fun _ _ _ _ _ h => calm_fin (P := Tryd.prog) (fn := Tryd.f8) _ _ _ _ _ h) (fun w hs => sat_pulls [0, 0] (G := [] ++ F0) rfl hs) rfl (by kernel_rfl) ?_
  refine aw_keep [0, 19] (L' := [(0, .pointer (some ⟨b0, 0, none⟩)), (19, .bool (m0.sure_ == (m0.list_.length : Int)))]) rfl ?_
  refine aw_end (by kernel_rfl) ?_
  refine ew_then ?_
  rcases if_some hF with ⟨h24, hF⟩ | ⟨h24, hF⟩
  · refine cw_cond_t rfl rfl h24 ?_
    refine cw_seq ?_
    refine cw_region ?_
    refine ow_vals 1 (j := 1) [2] [(2, .int .i64 0)] rfl (by kernel_rfl) ?_
    refine ow_end rfl ?_
    refine ew_then ?_
    refine cw_ret ?_
    refine ew_then_ret ?_
    have hR := Option.some.inj hF
    subst hR
    exact fin1 (H1 := [imm I, pt b0 #[.pointer none, .int .i64 m0.base_, .int .i64 m0.size_, .int .i64 m0.next_, .int .i64 m0.last_, .slice p0 m0.list_.length c0, .int .i64 m0.sure_, .bool m0.dead_] 26]) (fun w hs => sat_to [0, 0] 0 rfl hs) rfl (rr_tmp rfl) ⟨p0, c0, rfl, rfl, hr0⟩
  refine cw_cond_f rfl rfl h24 ?_
  refine cw_skip ?_
  refine ew_then ?_
  refine cw_seq ?_
  refine cw_seq ?_
  refine cw_region ?_
  refine ow_vals 3 (j := 3) [0, 22] [(0, .pointer (some ⟨b0, 0, none⟩)), (22, .pointer (some ⟨b0, 0, none⟩))] rfl (by kernel_rfl) ?_
  refine ow_pw rfl (pw_quiet (v := .pointer none) rfl rfl rfl rfl (q_load 1 rfl rfl rfl (by kernel_rfl)) (nw_ow ?_))
  obtain ⟨r25, h26, hF⟩ := bind_some hF
  refine ow_pw rfl (pw_call (F := [pt b0 #[.pointer none, .int .i64 m0.base_, .int .i64 m0.size_, .int .i64 m0.next_, .int .i64 m0.last_, .slice p0 m0.list_.length c0, .int .i64 m0.sure_, .bool m0.dead_] 26] ++ F0) rfl rfl rfl rfl rfl rfl rfl (by kernel_rfl) (perm_of_pulls [0] rfl) (c_guard_Guard_Flush _ r25 h26) ?_)
  rintro _ _ ⟨rfl, rfl⟩
  refine nw_H (H' := [imm I, pt b0 #[.pointer none, .int .i64 m0.base_, .int .i64 m0.size_, .int .i64 m0.next_, .int .i64 m0.last_, .slice p0 m0.list_.length c0, .int .i64 m0.sure_, .bool m0.dead_] 26] ++ F0) rfl (nw_ow ?_)
  refine ow_vals 1 (j := 6) [0, 4] [(0, .pointer (some ⟨b0, 0, none⟩)), (4, .int .i64 r25)] rfl (by kernel_rfl) ?_
  refine ow_end rfl ?_
  refine ew_then ?_
  refine cw_seq ?_
  refine cw_region ?_
  refine ow_vals 2 (j := 2) [0, 4, 26] [(0, .pointer (some ⟨b0, 0, none⟩)), (4, .int .i64 r25), (26, .bool (r25 != 0))] rfl (by kernel_rfl) ?_
  refine ow_end rfl ?_
  refine ew_then ?_
  rcases if_some hF with ⟨h27, hF⟩ | ⟨h27, hF⟩
  · refine cw_cond_t rfl rfl h27 ?_
    refine cw_seq ?_
    refine cw_region ?_
    refine ow_vals 2 (j := 2) [27, 28] [(27, .pointer (some ⟨b0, 0, none⟩)), (28, .int .i64 r25)] rfl (by kernel_rfl) ?_
    obtain ⟨r28, h29, hF⟩ := bind_some hF
    refine ow_pw rfl (pw_call (F := [] ++ F0) rfl rfl rfl rfl rfl rfl rfl (by kernel_rfl) (perm_of_pulls [0, 0] rfl) (c_journal_Journal_fall_1 _ r25 m0 p0 c0 b0 r28 h29 hr0) ?_)
    rintro _ _ ⟨r28_p1, r28_c2, rfl, rfl, r28_h3⟩
    refine nw_H (H' := [imm I, pt b0 #[.pointer none, .int .i64 r28.2.base_, .int .i64 r28.2.size_, .int .i64 r28.2.next_, .int .i64 r28.2.last_, .slice r28_p1 r28.2.list_.length r28_c2, .int .i64 r28.2.sure_, .bool r28.2.dead_] 26] ++ F0) rfl (nw_ow ?_)
    refine ow_vals 1 (j := 4) [2] [(2, .int .i64 r28.1)] rfl (by kernel_rfl) ?_
    refine ow_end rfl ?_
    refine ew_then ?_
    refine cw_ret ?_
    refine ew_then_ret ?_
    have hR := Option.some.inj hF
    subst hR
    exact fin1 (H1 := [imm I, pt b0 #[.pointer none, .int .i64 r28.2.base_, .int .i64 r28.2.size_, .int .i64 r28.2.next_, .int .i64 r28.2.last_, .slice r28_p1 r28.2.list_.length r28_c2, .int .i64 r28.2.sure_, .bool r28.2.dead_] 26]) (fun w hs => sat_to [0, 0] 0 rfl hs) rfl (rr_tmp rfl) ⟨r28_p1, r28_c2, rfl, rfl, r28_h3⟩
  refine cw_cond_f rfl rfl h27 ?_
  refine cw_skip ?_
  refine ew_then ?_
  refine cw_seq ?_
  refine cw_region ?_
  refine ow_vals 4 (j := 4) [30, 33] [(30, .pointer (some ⟨b0, 0, none⟩)), (33, .pointer (some ⟨b0, 5, none⟩))] rfl (by kernel_rfl) ?_
  refine ow_pw rfl (pw_quiet (v := .slice p0 m0.list_.length c0) rfl rfl rfl rfl (q_load 1 rfl rfl rfl (by kernel_rfl)) (nw_ow ?_))
  refine ow_vals 3 (j := 8) [35, 37] [(35, .int .i64 (m0.list_.length : Int)), (37, .pointer (some ⟨b0, 6, none⟩))] rfl (by kernel_rfl) ?_
  refine ow_pw rfl (pw_store 1 #[.pointer none, .int .i64 m0.base_, .int .i64 m0.size_, .int .i64 m0.next_, .int .i64 m0.last_, .slice p0 m0.list_.length c0, .int .i64 (m0.list_.length : Int), .bool m0.dead_] rfl rfl rfl rfl rfl rfl rfl (by kernel_rfl) (nw_H (H' := [imm I, pt b0 #[.pointer none, .int .i64 m0.base_, .int .i64 m0.size_, .int .i64 m0.next_, .int .i64 m0.last_, .slice p0 m0.list_.length c0, .int .i64 (m0.list_.length : Int), .bool m0.dead_] 26] ++ F0) rfl (nw_ow ?_)))
  refine ow_end rfl ?_
  refine ew_then ?_
  refine cw_seq ?_
  refine cw_region ?_
  refine ow_vals 1 (j := 1) [2] [(2, .int .i64 0)] rfl (by kernel_rfl) ?_
  refine ow_end rfl ?_
  refine ew_then ?_
  refine cw_ret ?_
  have hR := Option.some.inj hF
  subst hR
  exact fin1 (H1 := [imm I, pt b0 #[.pointer none, .int .i64 ((⟨m0.base_, m0.size_, m0.next_, m0.last_, m0.list_, (m0.list_.length : Int), m0.dead_⟩ : journal_Journal).base_), .int .i64 ((⟨m0.base_, m0.size_, m0.next_, m0.last_, m0.list_, (m0.list_.length : Int), m0.dead_⟩ : journal_Journal).size_), .int .i64 ((⟨m0.base_, m0.size_, m0.next_, m0.last_, m0.list_, (m0.list_.length : Int), m0.dead_⟩ : journal_Journal).next_), .int .i64 ((⟨m0.base_, m0.size_, m0.next_, m0.last_, m0.list_, (m0.list_.length : Int), m0.dead_⟩ : journal_Journal).last_), .slice p0 ((⟨m0.base_, m0.size_, m0.next_, m0.last_, m0.list_, (m0.list_.length : Int), m0.dead_⟩ : journal_Journal).list_).length c0, .int .i64 ((⟨m0.base_, m0.size_, m0.next_, m0.last_, m0.list_, (m0.list_.length : Int), m0.dead_⟩ : journal_Journal).sure_), .bool ((⟨m0.base_, m0.size_, m0.next_, m0.last_, m0.list_, (m0.list_.length : Int), m0.dead_⟩ : journal_Journal).dead_)] 26]) (fun w hs => sat_to [0, 0] 0 rfl hs) rfl (rr_tmp rfl) ⟨p0, c0, rfl, rfl, hr0⟩


def F.journal_Journal_Records : Option (List ByteArray) :=
  Option.bind (F.journal_Journal_none_1) (fun (r21 : Bool) => if r21 then (some (([] : List ByteArray))) else (none))
set_option maxRecDepth 100000 in
set_option maxHeartbeats 4000000 in
theorem c_journal_Journal_Records (I : Hl) (res : (List ByteArray)) (hF : F.journal_Journal_Records = some res) : Tr Tryd.prog 9 [.pointer none] [imm I] (fun r H' => ∃ (pq1 : Option Addr), ∃ (cq2 : Nat), r = .slice pq1 res.length cq2 ∧ H' = [imm I, own eStr 9 pq1 cq2 res]) := by
  unfold F.journal_Journal_Records at hF
  refine tr_of_cw (fn := Tryd.f9) Tryd.func9 rfl (Nat.le_of_ble_eq_true rfl) 10 rfl fun F0 w0 => ?_
  refine cw_keep [0] (L' := [(0, .pointer none)]) rfl ?_
  refine cw_state (S' := SAT w0 ([imm I] ++ F0)) (fun w hs => hs) ?_
  refine cw_seq ?_
  refine cw_region ?_
  refine ow_vals 1 (j := 1) [0] [(0, .pointer none)] rfl (by kernel_rfl) ?_
  refine ow_end rfl ?_
  refine ew_then ?_
  refine cw_seq ?_
  refine cw_seq ?_
  refine cw_region ?_
  refine ow_vals 1 (j := 1) [0, 3] [(0, .pointer none), (3, .pointer none)] rfl (by kernel_rfl) ?_
  obtain ⟨r21, h22, hF⟩ := bind_some hF
  refine ow_pw rfl (pw_call (F := [] ++ F0) rfl rfl rfl rfl rfl rfl rfl (by kernel_rfl) (perm_of_pulls [0] rfl) (c_journal_Journal_none_1 _ r21 h22) ?_)
  rintro _ _ ⟨rfl, rfl⟩
  refine nw_H (H' := [imm I] ++ F0) rfl (nw_ow ?_)
  refine ow_end rfl ?_
  refine ew_then ?_
  rcases if_some hF with ⟨h23, hF⟩ | ⟨h23, hF⟩
  · refine cw_cond_t rfl rfl h23 ?_
    refine cw_seq ?_
    refine cw_region ?_
    refine ow_vals 1 (j := 1) [2] [(2, .slice none 0 0)] rfl (by kernel_rfl) ?_
    refine ow_end rfl ?_
    refine ew_then ?_
    refine cw_ret ?_
    refine ew_then_ret ?_
    have hR := Option.some.inj hF
    subst hR
    exact fin1 (H1 := [imm I, own eStr 9 none 0 ([] : List ByteArray)]) (fun w hs => sat_to [1, 0] 0 rfl (sat_own_nil eStr 9 hs)) rfl (rr_tmp rfl) ⟨none, 0, rfl, rfl⟩
  refine cw_cond_f rfl rfl h23 ?_
  refine cw_skip ?_
  refine ew_then ?_
  refine cw_seq ?_
  refine cw_region ?_
  refine ow_vals 1 (j := 1) [5] [(5, .pointer none)] rfl (by kernel_rfl) ?_
  cases hF


def F.journal_Journal_Sure (m0 : journal_Journal) : Option Int :=
  Option.bind (F.journal_Journal_none_2 m0) (fun (r21 : Bool) => if r21 then (some (0)) else (some (m0.sure_)))
set_option maxRecDepth 100000 in
set_option maxHeartbeats 4000000 in
theorem c_journal_Journal_Sure (I : Hl) (m0 : journal_Journal) (p0 : Option Addr) (c0 : Nat) (b0 : Nat) (res : Int) (hF : F.journal_Journal_Sure m0 = some res) (hr0 : ro I eStr p0 c0 m0.list_) : Tr Tryd.prog 10 [.pointer (some ⟨b0, 0, none⟩)] [imm I, pt b0 #[.pointer none, .int .i64 m0.base_, .int .i64 m0.size_, .int .i64 m0.next_, .int .i64 m0.last_, .slice p0 m0.list_.length c0, .int .i64 m0.sure_, .bool m0.dead_] 26] (fun r H' => r = .int .i64 res ∧ H' = [imm I, pt b0 #[.pointer none, .int .i64 m0.base_, .int .i64 m0.size_, .int .i64 m0.next_, .int .i64 m0.last_, .slice p0 m0.list_.length c0, .int .i64 m0.sure_, .bool m0.dead_] 26]) := by
  unfold F.journal_Journal_Sure at hF
  refine tr_of_cw (fn := Tryd.f10) Tryd.func10 rfl (Nat.le_of_ble_eq_true rfl) 9 rfl fun F0 w0 => ?_
  refine cw_keep [0] (L' := [(0, .pointer (some ⟨b0, 0, none⟩))]) rfl ?_
  refine cw_state (S' := SAT w0 ([imm I, pt b0 #[.pointer none, .int .i64 m0.base_, .int .i64 m0.size_, .int .i64 m0.next_, .int .i64 m0.last_, .slice p0 m0.list_.length c0, .int .i64 m0.sure_, .bool m0.dead_] 26] ++ F0)) (fun w hs => hs) ?_
  refine cw_seq ?_
  refine cw_region ?_
  refine ow_vals 1 (j := 1) [0] [(0, .pointer (some ⟨b0, 0, none⟩))] rfl (by kernel_rfl) ?_
  refine ow_end rfl ?_
  refine ew_then ?_
  refine cw_seq ?_
  refine cw_seq ?_
  refine cw_region ?_
  refine ow_vals 1 (j := 1) [0, 3] [(0, .pointer (some ⟨b0, 0, none⟩)), (3, .pointer (some ⟨b0, 0, none⟩))] rfl (by kernel_rfl) ?_
  obtain ⟨r21, h22, hF⟩ := bind_some hF
  refine ow_pw rfl (pw_call (F := [] ++ F0) rfl rfl rfl rfl rfl rfl rfl (by kernel_rfl) (perm_of_pulls [0, 0] rfl) (c_journal_Journal_none_2 _ m0 p0 c0 b0 r21 h22 hr0) ?_)
  rintro _ _ ⟨rfl, rfl⟩
  refine nw_H (H' := [imm I, pt b0 #[.pointer none, .int .i64 m0.base_, .int .i64 m0.size_, .int .i64 m0.next_, .int .i64 m0.last_, .slice p0 m0.list_.length c0, .int .i64 m0.sure_, .bool m0.dead_] 26] ++ F0) rfl (nw_ow ?_)
  refine ow_end rfl ?_
  refine ew_then ?_
  rcases if_some hF with ⟨h23, hF⟩ | ⟨h23, hF⟩
  · refine cw_cond_t rfl rfl h23 ?_
    refine cw_seq ?_
    refine cw_region ?_
    refine ow_vals 1 (j := 1) [2] [(2, .int .i64 0)] rfl (by kernel_rfl) ?_
    refine ow_end rfl ?_
    refine ew_then ?_
    refine cw_ret ?_
    refine ew_then_ret ?_
    have hR := Option.some.inj hF
    subst hR
    exact fin1 (H1 := [imm I, pt b0 #[.pointer none, .int .i64 m0.base_, .int .i64 m0.size_, .int .i64 m0.next_, .int .i64 m0.last_, .slice p0 m0.list_.length c0, .int .i64 m0.sure_, .bool m0.dead_] 26]) (fun w hs => sat_to [0, 0] 0 rfl hs) rfl (rr_tmp rfl) ⟨rfl, rfl⟩
  refine cw_cond_f rfl rfl h23 ?_
  refine cw_skip ?_
  refine ew_then ?_
  refine cw_seq ?_
  refine cw_region ?_
  refine ow_vals 3 (j := 3) [7] [(7, .pointer (some ⟨b0, 6, none⟩))] rfl (by kernel_rfl) ?_
  refine ow_pw rfl (pw_quiet (v := .int .i64 m0.sure_) rfl rfl rfl rfl (q_load 1 rfl rfl rfl (by kernel_rfl)) (nw_ow ?_))
  refine ow_vals 1 (j := 5) [2] [(2, .int .i64 m0.sure_)] rfl (by kernel_rfl) ?_
  refine ow_end rfl ?_
  refine ew_then ?_
  refine cw_ret ?_
  have hR := Option.some.inj hF
  subst hR
  exact fin1 (H1 := [imm I, pt b0 #[.pointer none, .int .i64 m0.base_, .int .i64 m0.size_, .int .i64 m0.next_, .int .i64 m0.last_, .slice p0 m0.list_.length c0, .int .i64 m0.sure_, .bool m0.dead_] 26]) (fun w hs => sat_to [0, 0] 0 rfl hs) rfl (rr_tmp rfl) ⟨rfl, rfl⟩


def F.journal_Journal_Used_1 : Option Int :=
  Option.bind (F.journal_Journal_none_1) (fun (r21 : Bool) => if r21 then (some (0)) else (none))
set_option maxRecDepth 100000 in
set_option maxHeartbeats 4000000 in
theorem c_journal_Journal_Used_1 (I : Hl) (res : Int) (hF : F.journal_Journal_Used_1 = some res) : Tr Tryd.prog 11 [.pointer none] [imm I] (fun r H' => r = .int .i64 res ∧ H' = [imm I]) := by
  unfold F.journal_Journal_Used_1 at hF
  refine tr_of_cw (fn := Tryd.f11) Tryd.func11 rfl (Nat.le_of_ble_eq_true rfl) 9 rfl fun F0 w0 => ?_
  refine cw_keep [0] (L' := [(0, .pointer none)]) rfl ?_
  refine cw_state (S' := SAT w0 ([imm I] ++ F0)) (fun w hs => hs) ?_
  refine cw_seq ?_
  refine cw_region ?_
  refine ow_vals 1 (j := 1) [0] [(0, .pointer none)] rfl (by kernel_rfl) ?_
  refine ow_end rfl ?_
  refine ew_then ?_
  refine cw_seq ?_
  refine cw_seq ?_
  refine cw_region ?_
  refine ow_vals 1 (j := 1) [0, 3] [(0, .pointer none), (3, .pointer none)] rfl (by kernel_rfl) ?_
  obtain ⟨r21, h22, hF⟩ := bind_some hF
  refine ow_pw rfl (pw_call (F := [] ++ F0) rfl rfl rfl rfl rfl rfl rfl (by kernel_rfl) (perm_of_pulls [0] rfl) (c_journal_Journal_none_1 _ r21 h22) ?_)
  rintro _ _ ⟨rfl, rfl⟩
  refine nw_H (H' := [imm I] ++ F0) rfl (nw_ow ?_)
  refine ow_end rfl ?_
  refine ew_then ?_
  rcases if_some hF with ⟨h23, hF⟩ | ⟨h23, hF⟩
  · refine cw_cond_t rfl rfl h23 ?_
    refine cw_seq ?_
    refine cw_region ?_
    refine ow_vals 1 (j := 1) [2] [(2, .int .i64 0)] rfl (by kernel_rfl) ?_
    refine ow_end rfl ?_
    refine ew_then ?_
    refine cw_ret ?_
    refine ew_then_ret ?_
    have hR := Option.some.inj hF
    subst hR
    exact fin1 (H1 := [imm I]) (fun w hs => sat_to [0] 0 rfl hs) rfl (rr_tmp rfl) ⟨rfl, rfl⟩
  refine cw_cond_f rfl rfl h23 ?_
  refine cw_skip ?_
  refine ew_then ?_
  refine cw_seq ?_
  refine cw_region ?_
  refine ow_vals 1 (j := 1) [5] [(5, .pointer none)] rfl (by kernel_rfl) ?_
  cases hF


def F.journal_Journal_Left_2 (m0 : journal_Journal) : Option Int :=
  Option.bind (F.journal_Journal_none_2 m0) (fun (r21 : Bool) => if r21 then (some (0)) else (some ((IntKind.i64.wrap (m0.size_ - m0.next_)))))
set_option maxRecDepth 100000 in
set_option maxHeartbeats 4000000 in
theorem c_journal_Journal_Left_2 (I : Hl) (m0 : journal_Journal) (p0 : Option Addr) (c0 : Nat) (b0 : Nat) (res : Int) (hF : F.journal_Journal_Left_2 m0 = some res) (hr0 : ro I eStr p0 c0 m0.list_) : Tr Tryd.prog 12 [.pointer (some ⟨b0, 0, none⟩)] [imm I, pt b0 #[.pointer none, .int .i64 m0.base_, .int .i64 m0.size_, .int .i64 m0.next_, .int .i64 m0.last_, .slice p0 m0.list_.length c0, .int .i64 m0.sure_, .bool m0.dead_] 26] (fun r H' => r = .int .i64 res ∧ H' = [imm I, pt b0 #[.pointer none, .int .i64 m0.base_, .int .i64 m0.size_, .int .i64 m0.next_, .int .i64 m0.last_, .slice p0 m0.list_.length c0, .int .i64 m0.sure_, .bool m0.dead_] 26]) := by
  unfold F.journal_Journal_Left_2 at hF
  refine tr_of_cw (fn := Tryd.f12) Tryd.func12 rfl (Nat.le_of_ble_eq_true rfl) 14 rfl fun F0 w0 => ?_
  refine cw_keep [0] (L' := [(0, .pointer (some ⟨b0, 0, none⟩))]) rfl ?_
  refine cw_state (S' := SAT w0 ([imm I, pt b0 #[.pointer none, .int .i64 m0.base_, .int .i64 m0.size_, .int .i64 m0.next_, .int .i64 m0.last_, .slice p0 m0.list_.length c0, .int .i64 m0.sure_, .bool m0.dead_] 26] ++ F0)) (fun w hs => hs) ?_
  refine cw_seq ?_
  refine cw_region ?_
  refine ow_vals 1 (j := 1) [0] [(0, .pointer (some ⟨b0, 0, none⟩))] rfl (by kernel_rfl) ?_
  refine ow_end rfl ?_
  refine ew_then ?_
  refine cw_seq ?_
  refine cw_seq ?_
  refine cw_region ?_
  refine ow_vals 1 (j := 1) [0, 3] [(0, .pointer (some ⟨b0, 0, none⟩)), (3, .pointer (some ⟨b0, 0, none⟩))] rfl (by kernel_rfl) ?_
  obtain ⟨r21, h22, hF⟩ := bind_some hF
  refine ow_pw rfl (pw_call (F := [] ++ F0) rfl rfl rfl rfl rfl rfl rfl (by kernel_rfl) (perm_of_pulls [0, 0] rfl) (c_journal_Journal_none_2 _ m0 p0 c0 b0 r21 h22 hr0) ?_)
  rintro _ _ ⟨rfl, rfl⟩
  refine nw_H (H' := [imm I, pt b0 #[.pointer none, .int .i64 m0.base_, .int .i64 m0.size_, .int .i64 m0.next_, .int .i64 m0.last_, .slice p0 m0.list_.length c0, .int .i64 m0.sure_, .bool m0.dead_] 26] ++ F0) rfl (nw_ow ?_)
  refine ow_end rfl ?_
  refine ew_then ?_
  rcases if_some hF with ⟨h23, hF⟩ | ⟨h23, hF⟩
  · refine cw_cond_t rfl rfl h23 ?_
    refine cw_seq ?_
    refine cw_region ?_
    refine ow_vals 1 (j := 1) [2] [(2, .int .i64 0)] rfl (by kernel_rfl) ?_
    refine ow_end rfl ?_
    refine ew_then ?_
    refine cw_ret ?_
    refine ew_then_ret ?_
    have hR := Option.some.inj hF
    subst hR
    exact fin1 (H1 := [imm I, pt b0 #[.pointer none, .int .i64 m0.base_, .int .i64 m0.size_, .int .i64 m0.next_, .int .i64 m0.last_, .slice p0 m0.list_.length c0, .int .i64 m0.sure_, .bool m0.dead_] 26]) (fun w hs => sat_to [0, 0] 0 rfl hs) rfl (rr_tmp rfl) ⟨rfl, rfl⟩
  refine cw_cond_f rfl rfl h23 ?_
  refine cw_skip ?_
  refine ew_then ?_
  refine cw_seq ?_
  refine cw_open 10 (SAT w0 ([imm I, pt b0 #[.pointer none, .int .i64 m0.base_, .int .i64 m0.size_, .int .i64 m0.next_, .int .i64 m0.last_, .slice p0 m0.list_.length c0, .int .i64 m0.sure_, .bool m0.dead_] 26])) (by kernel_rfl) (f := 10) rfl (fun w hs => sat_drew hs) ?_
  refine aw_vals [0, 1, 2, 4, 5, 6] (f' := 4) (m' := 119) [7, 11] [(7, .pointer (some ⟨b0, 2, none⟩)), (11, .pointer (some ⟨b0, 3, none⟩))] (fun _ _ _ _ _ h => calm_fin (P := Tryd.prog) (fn := Tryd.f12) _ _ _ _ _ h) (fun w hs => sat_pulls [0, 0] (G := [] ++ F0) rfl hs) rfl (by kernel_rfl) ?_
  refine aw_quiet 3 (m' := 127) (v := .int .i64 m0.size_) 0 [] rfl rfl rfl rfl (by kernel_rfl) (by kernel_rfl) (by kernel_rfl) (fun _ _ _ _ _ h => calm_fin (P := Tryd.prog) (fn := Tryd.f12) _ _ _ _ _ h) (fun w hs => sat_pulls [0, 0] (G := [] ++ F0) rfl hs) (q_load 1 rfl rfl rfl (by kernel_rfl)) ?_
  refine aw_quiet 7 (m' := 255) (v := .int .i64 m0.next_) 0 [] rfl rfl rfl rfl (by kernel_rfl) (by kernel_rfl) (by kernel_rfl) (fun _ _ _ _ _ h => calm_fin (P := Tryd.prog) (fn := Tryd.f12) _ _ _ _ _ h) (fun w hs => sat_pulls [0, 0] (G := [] ++ F0) rfl hs) (q_load 1 rfl rfl rfl (by kernel_rfl)) ?_
  refine aw_vals [8, 9] (f' := 0) (m' := 1023) [2] [(2, .int .i64 (IntKind.i64.wrap (m0.size_ - m0.next_)))] (fun _ _ _ _ _ h => calm_fin (P := Tryd.prog) (fn := Tryd.f12) _ _ _ _ _ h) (fun w hs => sat_pulls [0, 0] (G := [] ++ F0) rfl hs) rfl (by kernel_rfl) ?_
  refine aw_keep [2] (L' := [(2, .int .i64 (IntKind.i64.wrap (m0.size_ - m0.next_)))]) rfl ?_
  refine aw_end (by kernel_rfl) ?_
  refine ew_then ?_
  refine cw_ret ?_
  have hR := Option.some.inj hF
  subst hR
  exact fin1 (H1 := [imm I, pt b0 #[.pointer none, .int .i64 m0.base_, .int .i64 m0.size_, .int .i64 m0.next_, .int .i64 m0.last_, .slice p0 m0.list_.length c0, .int .i64 m0.sure_, .bool m0.dead_] 26]) (fun w hs => sat_to [0, 0] 0 rfl hs) rfl (rr_tmp rfl) ⟨rfl, rfl⟩


def F.law12_JournalNobody (x0 : ByteArray) : Option Bool :=
  Option.bind (F.journal_Wipe 0 1) (fun (r23 : Int × Int) => Option.bind (F.journal_Journal_Append_1 x0) (fun (r25 : Int) => if r25 == 9 then (Option.bind (F.journal_Journal_Flush (⟨0, 0, 0, 0, ([] : List ByteArray), 0, false⟩ : journal_Journal)) (fun (r28 : Int × journal_Journal) => if r28.1 == 9 then (Option.bind (F.journal_Journal_Records) (fun (r31 : (List ByteArray)) => Option.bind (F.journal_Journal_Sure r28.2) (fun (r34 : Int) => Option.bind (F.journal_Journal_Used_1) (fun (r36 : Int) => Option.bind (F.journal_Journal_Left_2 r28.2) (fun (r38 : Int) => if (IntKind.i64.wrap ((IntKind.i64.wrap ((IntKind.i64.wrap ((r31.length : Int) + r34)) + r36)) + r38)) == 0 then (if r23.2 == 9 then (Option.bind (F.law12_awake) (fun (r42 : Bool) => some (r42))) else (some (false))) else (some (false))))))) else (some (false)))) else (some (false))))
set_option maxRecDepth 100000 in
set_option maxHeartbeats 4000000 in
theorem c_law12_JournalNobody (I : Hl) (x0 : ByteArray) (res : Bool) (hF : F.law12_JournalNobody x0 = some res) : Tr Tryd.prog 3 [.string x0] [imm I] (fun r H' => r = .bool res ∧ H' = [imm I]) := by
  unfold F.law12_JournalNobody at hF
  refine tr_of_cw (fn := Tryd.f3) Tryd.func3 rfl (Nat.le_of_ble_eq_true rfl) 39 rfl fun F0 w0 => ?_
  refine cw_keep [0] (L' := [(0, .string x0)]) rfl ?_
  refine cw_state (S' := SAT w0 ([imm I] ++ F0)) (fun w hs => hs) ?_
  refine cw_seq ?_
  refine cw_region ?_
  refine ow_vals 1 (j := 1) [0] [(0, .string x0)] rfl (by kernel_rfl) ?_
  refine ow_end rfl ?_
  refine ew_then ?_
  refine cw_seq ?_
  refine cw_region ?_
  refine ow_vals 1 (j := 1) [0, 3] [(0, .string x0), (3, .pointer none)] rfl (by kernel_rfl) ?_
  refine ow_end rfl ?_
  refine ew_then ?_
  refine cw_seq ?_
  refine cw_region ?_
  refine ow_pw rfl (pw_alloc (cs := #[.pointer none, .int .i64 0, .int .i64 0, .int .i64 0, .int .i64 0, .slice none 0 0, .int .i64 0, .bool false]) rfl rfl rfl rfl rfl (by kernel_rfl) fun b21 => nw_ow ?_)
  refine ow_end rfl ?_
  refine ew_then ?_
  refine cw_seq ?_
  refine cw_region ?_
  obtain ⟨r23, h24, hF⟩ := bind_some hF
  refine ow_pw rfl (pw_call (F := [pt b21 #[.pointer none, .int .i64 0, .int .i64 0, .int .i64 0, .int .i64 0, .slice none 0 0, .int .i64 0, .bool false] 26] ++ F0) rfl rfl rfl rfl rfl rfl rfl (by kernel_rfl) (perm_of_pulls [1] rfl) (c_journal_Wipe _ 0 1 r23 h24) ?_)
  rintro _ _ ⟨rfl, rfl⟩
  refine nw_H (H' := [imm I, pt b21 #[.pointer none, .int .i64 0, .int .i64 0, .int .i64 0, .int .i64 0, .slice none 0 0, .int .i64 0, .bool false] 26] ++ F0) rfl (nw_ow ?_)
  refine ow_vals 5 (j := 6) [0, 3, 4, 6] [(0, .string x0), (3, .pointer none), (4, .pointer (some ⟨b21, 0, none⟩)), (6, .int .i64 r23.2)] rfl (by kernel_rfl) ?_
  refine ow_end rfl ?_
  refine ew_then ?_
  refine cw_seq ?_
  refine cw_region ?_
  refine ow_vals 2 (j := 2) [3, 4, 6, 11, 12] [(3, .pointer none), (4, .pointer (some ⟨b21, 0, none⟩)), (6, .int .i64 r23.2), (11, .pointer none), (12, .string x0)] rfl (by kernel_rfl) ?_
  obtain ⟨r25, h26, hF⟩ := bind_some hF
  refine ow_pw rfl (pw_call (F := [pt b21 #[.pointer none, .int .i64 0, .int .i64 0, .int .i64 0, .int .i64 0, .slice none 0 0, .int .i64 0, .bool false] 26] ++ F0) rfl rfl rfl rfl rfl rfl rfl (by kernel_rfl) (perm_of_pulls [0] rfl) (c_journal_Journal_Append_1 _ x0 r25 h26) ?_)
  rintro _ _ ⟨rfl, rfl⟩
  refine nw_H (H' := [imm I, pt b21 #[.pointer none, .int .i64 0, .int .i64 0, .int .i64 0, .int .i64 0, .slice none 0 0, .int .i64 0, .bool false] 26] ++ F0) rfl (nw_ow ?_)
  refine ow_vals 2 (j := 5) [3, 4, 6, 15] [(3, .pointer none), (4, .pointer (some ⟨b21, 0, none⟩)), (6, .int .i64 r23.2), (15, .bool (r25 == 9))] rfl (by kernel_rfl) ?_
  rcases if_some hF with ⟨h27, hF⟩ | ⟨h27, hF⟩
  · refine ow_slots (L' := [(3, .pointer none), (4, .pointer (some ⟨b21, 0, none⟩)), (6, .int .i64 r23.2), (15, .bool true)]) (by rw [h27]) ?_
    obtain ⟨r28, h29, hF⟩ := bind_some hF
    refine ow_pw rfl (pw_call (F := [] ++ F0) rfl rfl rfl rfl rfl rfl rfl (by kernel_rfl) (perm_of_pulls [0, 0] rfl) (c_journal_Journal_Flush _ (⟨0, 0, 0, 0, ([] : List ByteArray), 0, false⟩ : journal_Journal) none 0 b21 r28 h29 (ro_nil _ _)) ?_)
    rintro _ _ ⟨r28_p1, r28_c2, rfl, rfl, r28_h3⟩
    refine nw_H (H' := [imm I, pt b21 #[.pointer none, .int .i64 r28.2.base_, .int .i64 r28.2.size_, .int .i64 r28.2.next_, .int .i64 r28.2.last_, .slice r28_p1 r28.2.list_.length r28_c2, .int .i64 r28.2.sure_, .bool r28.2.dead_] 26] ++ F0) rfl (nw_ow ?_)
    refine ow_vals 3 (j := 9) [3, 4, 6, 19] [(3, .pointer none), (4, .pointer (some ⟨b21, 0, none⟩)), (6, .int .i64 r23.2), (19, .bool (r28.1 == 9))] rfl (by kernel_rfl) ?_
    rcases if_some hF with ⟨h30, hF⟩ | ⟨h30, hF⟩
    · refine ow_slots (L' := [(3, .pointer none), (4, .pointer (some ⟨b21, 0, none⟩)), (6, .int .i64 r23.2), (19, .bool true)]) (by rw [h30]) ?_
      refine ow_vals 1 (j := 10) [3, 4, 6, 19, 20] [(3, .pointer none), (4, .pointer (some ⟨b21, 0, none⟩)), (6, .int .i64 r23.2), (19, .bool true), (20, .pointer none)] rfl (by kernel_rfl) ?_
      obtain ⟨r31, h32, hF⟩ := bind_some hF
      refine ow_pw rfl (pw_call (F := [pt b21 #[.pointer none, .int .i64 r28.2.base_, .int .i64 r28.2.size_, .int .i64 r28.2.next_, .int .i64 r28.2.last_, .slice r28_p1 r28.2.list_.length r28_c2, .int .i64 r28.2.sure_, .bool r28.2.dead_] 26] ++ F0) rfl rfl rfl rfl rfl rfl rfl (by kernel_rfl) (perm_of_pulls [0] rfl) (c_journal_Journal_Records _ r31 h32) ?_)
      rintro _ _ ⟨r31_p1, r31_c2, rfl, rfl⟩
      refine nw_H (H' := [imm I, own eStr 9 r31_p1 r31_c2 r31, pt b21 #[.pointer none, .int .i64 r28.2.base_, .int .i64 r28.2.size_, .int .i64 r28.2.next_, .int .i64 r28.2.last_, .slice r28_p1 r28.2.list_.length r28_c2, .int .i64 r28.2.sure_, .bool r28.2.dead_] 26] ++ F0) rfl (nw_ow ?_)
      refine ow_vals 1 (j := 12) [3, 4, 6, 19, 22] [(3, .pointer none), (4, .pointer (some ⟨b21, 0, none⟩)), (6, .int .i64 r23.2), (19, .bool true), (22, .int .i64 (r31.length : Int))] rfl (by kernel_rfl) ?_
      obtain ⟨r34, h35, hF⟩ := bind_some hF
      refine ow_pw rfl (pw_call (F := [own eStr 9 r31_p1 r31_c2 r31] ++ F0) rfl rfl rfl rfl rfl rfl rfl (by kernel_rfl) (perm_of_pulls [0, 1] rfl) (c_journal_Journal_Sure _ r28.2 r28_p1 r28_c2 b21 r34 h35 r28_h3) ?_)
      rintro _ _ ⟨rfl, rfl⟩
      refine nw_H (H' := [imm I, pt b21 #[.pointer none, .int .i64 r28.2.base_, .int .i64 r28.2.size_, .int .i64 r28.2.next_, .int .i64 r28.2.last_, .slice r28_p1 r28.2.list_.length r28_c2, .int .i64 r28.2.sure_, .bool r28.2.dead_] 26, own eStr 9 r31_p1 r31_c2 r31] ++ F0) rfl (nw_ow ?_)
      refine ow_vals 2 (j := 15) [4, 6, 19, 24, 25] [(4, .pointer (some ⟨b21, 0, none⟩)), (6, .int .i64 r23.2), (19, .bool true), (24, .int .i64 (IntKind.i64.wrap ((r31.length : Int) + r34))), (25, .pointer none)] rfl (by kernel_rfl) ?_
      obtain ⟨r36, h37, hF⟩ := bind_some hF
      refine ow_pw rfl (pw_call (F := [pt b21 #[.pointer none, .int .i64 r28.2.base_, .int .i64 r28.2.size_, .int .i64 r28.2.next_, .int .i64 r28.2.last_, .slice r28_p1 r28.2.list_.length r28_c2, .int .i64 r28.2.sure_, .bool r28.2.dead_] 26, own eStr 9 r31_p1 r31_c2 r31] ++ F0) rfl rfl rfl rfl rfl rfl rfl (by kernel_rfl) (perm_of_pulls [0] rfl) (c_journal_Journal_Used_1 _ r36 h37) ?_)
      rintro _ _ ⟨rfl, rfl⟩
      refine nw_H (H' := [imm I, pt b21 #[.pointer none, .int .i64 r28.2.base_, .int .i64 r28.2.size_, .int .i64 r28.2.next_, .int .i64 r28.2.last_, .slice r28_p1 r28.2.list_.length r28_c2, .int .i64 r28.2.sure_, .bool r28.2.dead_] 26, own eStr 9 r31_p1 r31_c2 r31] ++ F0) rfl (nw_ow ?_)
      refine ow_vals 1 (j := 17) [4, 6, 19, 27] [(4, .pointer (some ⟨b21, 0, none⟩)), (6, .int .i64 r23.2), (19, .bool true), (27, .int .i64 (IntKind.i64.wrap ((IntKind.i64.wrap ((r31.length : Int) + r34)) + r36)))] rfl (by kernel_rfl) ?_
      obtain ⟨r38, h39, hF⟩ := bind_some hF
      refine ow_pw rfl (pw_call (F := [own eStr 9 r31_p1 r31_c2 r31] ++ F0) rfl rfl rfl rfl rfl rfl rfl (by kernel_rfl) (perm_of_pulls [0, 0] rfl) (c_journal_Journal_Left_2 _ r28.2 r28_p1 r28_c2 b21 r38 h39 r28_h3) ?_)
      rintro _ _ ⟨rfl, rfl⟩
      refine nw_H (H' := [imm I, pt b21 #[.pointer none, .int .i64 r28.2.base_, .int .i64 r28.2.size_, .int .i64 r28.2.next_, .int .i64 r28.2.last_, .slice r28_p1 r28.2.list_.length r28_c2, .int .i64 r28.2.sure_, .bool r28.2.dead_] 26, own eStr 9 r31_p1 r31_c2 r31] ++ F0) rfl (nw_ow ?_)
      refine ow_vals 4 (j := 22) [6, 32] [(6, .int .i64 r23.2), (32, .bool ((IntKind.i64.wrap ((IntKind.i64.wrap ((IntKind.i64.wrap ((r31.length : Int) + r34)) + r36)) + r38)) == 0))] rfl (by kernel_rfl) ?_
      rcases if_some hF with ⟨h40, hF⟩ | ⟨h40, hF⟩
      · refine ow_slots (L' := [(6, .int .i64 r23.2), (32, .bool true)]) (by rw [h40]) ?_
        refine ow_vals 4 (j := 26) [36] [(36, .bool (r23.2 == 9))] rfl (by kernel_rfl) ?_
        rcases if_some hF with ⟨h41, hF⟩ | ⟨h41, hF⟩
        · refine ow_slots (L' := [(36, .bool true)]) (by rw [h41]) ?_
          obtain ⟨r42, h43, hF⟩ := bind_some hF
          refine ow_pw rfl (pw_call (F := [pt b21 #[.pointer none, .int .i64 r28.2.base_, .int .i64 r28.2.size_, .int .i64 r28.2.next_, .int .i64 r28.2.last_, .slice r28_p1 r28.2.list_.length r28_c2, .int .i64 r28.2.sure_, .bool r28.2.dead_] 26, own eStr 9 r31_p1 r31_c2 r31] ++ F0) rfl rfl rfl rfl rfl rfl rfl (by kernel_rfl) (perm_of_pulls [0] rfl) (c_law12_awake _ r42 h43) ?_)
          rintro _ _ ⟨rfl, rfl⟩
          refine nw_H (H' := [imm I, pt b21 #[.pointer none, .int .i64 r28.2.base_, .int .i64 r28.2.size_, .int .i64 r28.2.next_, .int .i64 r28.2.last_, .slice r28_p1 r28.2.list_.length r28_c2, .int .i64 r28.2.sure_, .bool r28.2.dead_] 26, own eStr 9 r31_p1 r31_c2 r31] ++ F0) rfl (nw_ow ?_)
          refine ow_vals 2 (j := 29) [2] [(2, .bool r42)] rfl (by kernel_rfl) ?_
          refine ow_end rfl ?_
          refine ew_then ?_
          refine cw_ret ?_
          have hR := Option.some.inj hF
          subst hR
          exact fin1 (H1 := [imm I]) (fun w hs => sat_to [1, 1, 0] 2 rfl hs) rfl (rr_tmp rfl) ⟨rfl, rfl⟩
        refine ow_slots (L' := [(36, .bool false)]) (by rw [h41]) ?_
        refine ow_vals 3 (j := 29) [2] [(2, .bool false)] rfl (by kernel_rfl) ?_
        refine ow_end rfl ?_
        refine ew_then ?_
        refine cw_ret ?_
        have hR := Option.some.inj hF
        subst hR
        exact fin1 (H1 := [imm I]) (fun w hs => sat_to [1, 1, 0] 2 rfl hs) rfl (rr_tmp rfl) ⟨rfl, rfl⟩
      refine ow_slots (L' := [(6, .int .i64 r23.2), (32, .bool false)]) (by rw [h40]) ?_
      refine ow_vals 7 (j := 29) [2] [(2, .bool false)] rfl (by kernel_rfl) ?_
      refine ow_end rfl ?_
      refine ew_then ?_
      refine cw_ret ?_
      have hR := Option.some.inj hF
      subst hR
      exact fin1 (H1 := [imm I]) (fun w hs => sat_to [1, 1, 0] 2 rfl hs) rfl (rr_tmp rfl) ⟨rfl, rfl⟩
    refine ow_slots (L' := [(3, .pointer none), (4, .pointer (some ⟨b21, 0, none⟩)), (6, .int .i64 r23.2), (19, .bool false)]) (by rw [h30]) ?_
    refine ow_vals 20 (j := 29) [2] [(2, .bool false)] rfl (by kernel_rfl) ?_
    refine ow_end rfl ?_
    refine ew_then ?_
    refine cw_ret ?_
    have hR := Option.some.inj hF
    subst hR
    exact fin1 (H1 := [imm I]) (fun w hs => sat_to [1, 0] 1 rfl hs) rfl (rr_tmp rfl) ⟨rfl, rfl⟩
  refine ow_slots (L' := [(3, .pointer none), (4, .pointer (some ⟨b21, 0, none⟩)), (6, .int .i64 r23.2), (15, .bool false)]) (by rw [h27]) ?_
  refine ow_vals 24 (j := 29) [2] [(2, .bool false)] rfl (by kernel_rfl) ?_
  refine ow_end rfl ?_
  refine ew_then ?_
  refine cw_ret ?_
  have hR := Option.some.inj hF
  subst hR
  exact fin1 (H1 := [imm I]) (fun w hs => sat_to [1, 0] 1 rfl hs) rfl (rr_tmp rfl) ⟨rfl, rfl⟩

end Go.Proofs.YtgbloaophfaaoaaDoor
