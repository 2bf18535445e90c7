/- What the functions compute, and that the code computes it: printed by a program of this claim (wip/tools), for the group Jour. -/
import Derived.Test.YtgbloaophfaaoaaDoorProg
import Derived.Test.YtgbloaophfaaoaaDoorLib
namespace Go.Proofs.YtgbloaophfaaoaaDoor
set_option linter.all false
open Go Go.RowKit Go.Fw
set_option linter.unusedVariables false

def F.journal_Need (x0 : Int) : Option Int :=
  if decide (x0 ≤ 36) then (some (1)) else (some ((IntKind.i64.wrap (1 + (IntKind.i64.wrap ((IntKind.i64.wrap ((IntKind.i64.wrap ((IntKind.i64.wrap (x0 - 36)) + 38)) - 1)).tdiv 38))))))
set_option maxRecDepth 100000 in
set_option maxHeartbeats 4000000 in
theorem c_journal_Need (I : Hl) (x0 : Int) (res : Int) (hF : F.journal_Need x0 = some res) : Tr Tryd.prog 25 [.int .i64 x0] [imm I] (fun r H' => r = .int .i64 res ∧ H' = [imm I]) := by
  unfold F.journal_Need at hF
  refine tr_of_cw (fn := Tryd.f25) Tryd.func25 rfl (Nat.le_of_ble_eq_true rfl) 11 rfl fun F0 w0 => ?_
  refine cw_keep [0] (L' := [(0, .int .i64 x0)]) rfl ?_
  refine cw_state (S' := SAT w0 ([imm I] ++ F0)) (fun w hs => hs) ?_
  refine cw_seq ?_
  refine cw_region ?_
  refine ow_vals 1 (j := 1) [0] [(0, .int .i64 x0)] rfl (by kernel_rfl) ?_
  refine ow_end rfl ?_
  refine ew_then ?_
  refine cw_seq ?_
  refine cw_seq ?_
  refine cw_region ?_
  refine ow_vals 2 (j := 2) [0, 4] [(0, .int .i64 x0), (4, .bool (decide (x0 ≤ 36)))] rfl (by kernel_rfl) ?_
  refine ow_end rfl ?_
  refine ew_then ?_
  rcases if_some hF with ⟨h21, hF⟩ | ⟨h21, hF⟩
  · refine cw_cond_t rfl rfl h21 ?_
    refine cw_seq ?_
    refine cw_region ?_
    refine ow_vals 1 (j := 1) [2] [(2, .int .i64 1)] rfl (by kernel_rfl) ?_
    refine ow_end rfl ?_
    refine ew_then ?_
    refine cw_ret ?_
    refine ew_then_ret ?_
    have hR := Option.some.inj hF
    subst hR
    exact fin1 (H1 := [imm I]) (fun w hs => sat_to [0] 0 rfl hs) rfl (rr_tmp rfl) ⟨rfl, rfl⟩
  refine cw_cond_f rfl rfl h21 ?_
  refine cw_skip ?_
  refine ew_then ?_
  refine cw_seq ?_
  refine cw_region ?_
  refine ow_vals 7 (j := 7) [2] [(2, .int .i64 (IntKind.i64.wrap (1 + (IntKind.i64.wrap ((IntKind.i64.wrap ((IntKind.i64.wrap ((IntKind.i64.wrap (x0 - 36)) + 38)) - 1)).tdiv 38)))))] rfl (by kernel_rfl) ?_
  refine ow_end rfl ?_
  refine ew_then ?_
  refine cw_ret ?_
  have hR := Option.some.inj hF
  subst hR
  exact fin1 (H1 := [imm I]) (fun w hs => sat_to [0] 0 rfl hs) rfl (rr_tmp rfl) ⟨rfl, rfl⟩


def F.law12_awake : Option Bool :=
  Option.bind (F.journal_Need 36) (fun (r21 : Int) => if r21 == 1 then (Option.bind (F.journal_Need 37) (fun (r24 : Int) => if r24 == 2 then (Option.bind (F.journal_Need 0) (fun (r27 : Int) => some ((r27 == 1)))) else (some (false)))) else (some (false)))
set_option maxRecDepth 100000 in
set_option maxHeartbeats 4000000 in
theorem c_law12_awake (I : Hl) (res : Bool) (hF : F.law12_awake = some res) : Tr Tryd.prog 13 [] [imm I] (fun r H' => r = .bool res ∧ H' = [imm I]) := by
  unfold F.law12_awake at hF
  refine tr_of_cw (fn := Tryd.f13) Tryd.func13 rfl (Nat.le_of_ble_eq_true rfl) 11 rfl fun F0 w0 => ?_
  refine cw_keep [] (L' := []) rfl ?_
  refine cw_state (S' := SAT w0 ([imm I] ++ F0)) (fun w hs => hs) ?_
  refine cw_seq ?_
  refine cw_region ?_
  refine ow_vals 1 (j := 1) [] [] rfl (by kernel_rfl) ?_
  refine ow_end rfl ?_
  refine ew_then ?_
  refine cw_seq ?_
  refine cw_region ?_
  obtain ⟨r21, h22, hF⟩ := bind_some hF
  refine ow_pw rfl (pw_call (F := [] ++ F0) rfl rfl rfl rfl rfl rfl rfl (by kernel_rfl) (perm_of_pulls [0] rfl) (c_journal_Need _ 36 r21 h22) ?_)
  rintro _ _ ⟨rfl, rfl⟩
  refine nw_H (H' := [imm I] ++ F0) rfl (nw_ow ?_)
  refine ow_vals 2 (j := 3) [3] [(3, .bool (r21 == 1))] rfl (by kernel_rfl) ?_
  rcases if_some hF with ⟨h23, hF⟩ | ⟨h23, hF⟩
  · refine ow_slots (L' := [(3, .bool true)]) (by rw [h23]) ?_
    obtain ⟨r24, h25, hF⟩ := bind_some hF
    refine ow_pw rfl (pw_call (F := [] ++ F0) rfl rfl rfl rfl rfl rfl rfl (by kernel_rfl) (perm_of_pulls [0] rfl) (c_journal_Need _ 37 r24 h25) ?_)
    rintro _ _ ⟨rfl, rfl⟩
    refine nw_H (H' := [imm I] ++ F0) rfl (nw_ow ?_)
    refine ow_vals 3 (j := 7) [7] [(7, .bool (r24 == 2))] rfl (by kernel_rfl) ?_
    rcases if_some hF with ⟨h26, hF⟩ | ⟨h26, hF⟩
    · refine ow_slots (L' := [(7, .bool true)]) (by rw [h26]) ?_
      obtain ⟨r27, h28, hF⟩ := bind_some hF
      refine ow_pw rfl (pw_call (F := [] ++ F0) rfl rfl rfl rfl rfl rfl rfl (by kernel_rfl) (perm_of_pulls [0] rfl) (c_journal_Need _ 0 r27 h28) ?_)
      rintro _ _ ⟨rfl, rfl⟩
      refine nw_H (H' := [imm I] ++ F0) rfl (nw_ow ?_)
      refine ow_vals 3 (j := 11) [0] [(0, .bool (r27 == 1))] rfl (by kernel_rfl) ?_
      refine ow_end rfl ?_
      refine ew_then ?_
      refine cw_ret ?_
      have hR := Option.some.inj hF
      subst hR
      exact fin1 (H1 := [imm I]) (fun w hs => sat_to [0] 0 rfl hs) rfl (rr_tmp rfl) ⟨rfl, rfl⟩
    refine ow_slots (L' := [(7, .bool false)]) (by rw [h26]) ?_
    refine ow_vals 4 (j := 11) [0] [(0, .bool false)] rfl (by kernel_rfl) ?_
    refine ow_end rfl ?_
    refine ew_then ?_
    refine cw_ret ?_
    have hR := Option.some.inj hF
    subst hR
    exact fin1 (H1 := [imm I]) (fun w hs => sat_to [0] 0 rfl hs) rfl (rr_tmp rfl) ⟨rfl, rfl⟩
  refine ow_slots (L' := [(3, .bool false)]) (by rw [h23]) ?_
  refine ow_vals 8 (j := 11) [0] [(0, .bool false)] rfl (by kernel_rfl) ?_
  refine ow_end rfl ?_
  refine ew_then ?_
  refine cw_ret ?_
  have hR := Option.some.inj hF
  subst hR
  exact fin1 (H1 := [imm I]) (fun w hs => sat_to [0] 0 rfl hs) rfl (rr_tmp rfl) ⟨rfl, rfl⟩


def F.law12_need.l1 (x24 : Int) (x25 : Int) : Option ((Int × Int) ⊕ (Int)) :=
  if decide (x25 > 0) then (some (.inl (IntKind.i64.wrap (x24 + 1), IntKind.i64.wrap (x25 - 38)))) else (some (.inr (x24)))
def F.law12_need.r2 (x27 : Int) : Option (Int) :=
  some (x27)
def F.law12_need (x0 : Int) : Option Int :=
  if decide (x0 < 0) then (some (1)) else (Option.bind (iter (fun x => F.law12_need.l1 x.1 x.2) FUEL (1, IntKind.i64.wrap (x0 - 36))) (fun x => F.law12_need.r2 x))
set_option maxRecDepth 100000 in
set_option maxHeartbeats 4000000 in
theorem c_law12_need (I : Hl) (x0 : Int) (res : Int) (hF : F.law12_need x0 = some res) : Tr Tryd.prog 16 [.int .i64 x0] [imm I] (fun r H' => r = .int .i64 res ∧ H' = [imm I]) := by
  unfold F.law12_need at hF
  refine tr_of_cw (fn := Tryd.f16) Tryd.func16 rfl (Nat.le_of_ble_eq_true rfl) 17 rfl fun F0 w0 => ?_
  refine cw_keep [0] (L' := [(0, .int .i64 x0)]) rfl ?_
  refine cw_state (S' := SAT w0 ([imm I] ++ F0)) (fun w hs => hs) ?_
  refine cw_seq ?_
  refine cw_region ?_
  refine ow_vals 1 (j := 1) [0] [(0, .int .i64 x0)] rfl (by kernel_rfl) ?_
  refine ow_end rfl ?_
  refine ew_then ?_
  refine cw_seq ?_
  refine cw_region ?_
  refine ow_vals 1 (j := 1) [0, 3] [(0, .int .i64 x0), (3, .int .i64 1)] rfl (by kernel_rfl) ?_
  refine ow_end rfl ?_
  refine ew_then ?_
  refine cw_seq ?_
  refine cw_seq ?_
  refine cw_region ?_
  refine ow_vals 2 (j := 2) [0, 3, 6] [(0, .int .i64 x0), (3, .int .i64 1), (6, .bool (decide (x0 < 0)))] rfl (by kernel_rfl) ?_
  refine ow_end rfl ?_
  refine ew_then ?_
  rcases if_some hF with ⟨h21, hF⟩ | ⟨h21, hF⟩
  · refine cw_cond_t rfl rfl h21 ?_
    refine cw_seq ?_
    refine cw_region ?_
    refine ow_vals 2 (j := 2) [2] [(2, .int .i64 1)] rfl (by kernel_rfl) ?_
    refine ow_end rfl ?_
    refine ew_then ?_
    refine cw_ret ?_
    refine ew_then_ret ?_
    have hR := Option.some.inj hF
    subst hR
    exact fin1 (H1 := [imm I]) (fun w hs => sat_to [0] 0 rfl hs) rfl (rr_tmp rfl) ⟨rfl, rfl⟩
  refine cw_cond_f rfl rfl h21 ?_
  refine cw_skip ?_
  refine ew_then ?_
  obtain ⟨v22, hF, hK22⟩ := bind_some hF
  refine cw_mid (fun a w => ∃ (x27 : Int), x27 = v22 ∧ Fr 17 [(3, .int .i64 x27)] a ∧ SAT w0 ([imm I] ++ F0) w) ?_ ?_
  · refine cw_seq ?_
    refine cw_region ?_
    refine ow_vals 3 (j := 3) [3, 4] [(3, .int .i64 1), (4, .int .i64 (IntKind.i64.wrap (x0 - 36)))] rfl (by kernel_rfl) ?_
    refine ow_end rfl ?_
    refine ew_then ?_
    refine cw_block ?_
    refine fun a w hf hs => wp_rounds (fun k a w => ∃ (x24 : Int), ∃ (x25 : Int), iter (fun x => F.law12_need.l1 x.1 x.2) k (x24, x25) = some v22 ∧ Fr 17 [(3, .int .i64 x24), (4, .int .i64 x25)] a ∧ SAT w0 ([imm I] ++ F0) w) ?_ FUEL a w ⟨1, IntKind.i64.wrap (x0 - 36), hF, hf.keep [3, 4], sat_to [0] 0 rfl hs⟩
    clear hf hs
    clear a w hF
    rintro k a w ⟨x24, x25, hF2, hf, hs⟩
    obtain ⟨k, r23, rfl, hF, hL23⟩ := iter_some hF2
    clear hF2
    revert a w
    show CW _ _ _ 17 [(3, .int .i64 x24), (4, .int .i64 x25)] (SAT w0 ([imm I] ++ F0))
    try dsimp only at hF
    unfold F.law12_need.l1 at hF
    refine cw_seq ?_
    refine cw_seq ?_
    refine cw_region ?_
    refine ow_vals 2 (j := 2) [3, 4, 11] [(3, .int .i64 x24), (4, .int .i64 x25), (11, .bool (decide (x25 > 0)))] rfl (by kernel_rfl) ?_
    refine ow_end rfl ?_
    refine ew_then ?_
    rcases if_some hF with ⟨h26, hF⟩ | ⟨h26, hF⟩
    · refine cw_cond_t rfl rfl h26 ?_
      refine cw_skip ?_
      refine ew_then ?_
      refine cw_seq ?_
      refine cw_block ?_
      refine cw_region ?_
      refine ow_vals 3 (j := 3) [3, 4] [(3, .int .i64 (IntKind.i64.wrap (x24 + 1))), (4, .int .i64 x25)] rfl (by kernel_rfl) ?_
      refine ow_end rfl ?_
      refine ew_blk ?_
      refine ew_then ?_
      refine cw_region ?_
      refine ow_vals 3 (j := 3) [3, 4] [(3, .int .i64 (IntKind.i64.wrap (x24 + 1))), (4, .int .i64 (IntKind.i64.wrap (x25 - 38)))] rfl (by kernel_rfl) ?_
      refine ow_end rfl ?_
      have hR := Option.some.inj hF
      subst hR
      have hR := hL23
      try dsimp only at hR
      exact fun a w hf hs => ⟨k, Nat.lt_succ_self k, IntKind.i64.wrap (x24 + 1), IntKind.i64.wrap (x25 - 38), hR, hf.keep [3, 4], sat_to [0] 0 rfl hs⟩
    refine cw_cond_f rfl rfl h26 ?_
    refine cw_exit ?_
    refine ew_then_exit ?_
    refine ew_then_exit ?_
    refine ew_blk_exit ?_
    have hR := Option.some.inj hF
    subst hR
    have hR := hL23
    try dsimp only at hR
    exact fun a w hf hs => ⟨x24, hR, hf.keep [3], sat_to [0] 0 rfl hs⟩
  rintro a w ⟨x27, hv, hf, hs⟩
  subst hv
  replace hF := hK22
  clear hK22
  try dsimp only at hF
  revert a w
  show CW _ _ _ 17 [(3, .int .i64 x27)] (SAT w0 ([imm I] ++ F0))
  unfold F.law12_need.r2 at hF
  refine cw_seq ?_
  refine cw_region ?_
  refine ow_vals 2 (j := 2) [2] [(2, .int .i64 x27)] rfl (by kernel_rfl) ?_
  refine ow_end rfl ?_
  refine ew_then ?_
  refine cw_ret ?_
  have hR := Option.some.inj hF
  subst hR
  exact fin1 (H1 := [imm I]) (fun w hs => sat_to [0] 0 rfl hs) rfl (rr_tmp rfl) ⟨rfl, rfl⟩

end Go.Proofs.YtgbloaophfaaoaaDoor
