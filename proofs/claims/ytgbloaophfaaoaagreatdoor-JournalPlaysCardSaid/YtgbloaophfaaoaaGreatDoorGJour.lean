/- What the functions compute, and that the code computes it: printed by a program of this claim (wip/tools), for the group Jour. -/
import Derived.Test.YtgbloaophfaaoaaGreatDoorProg
import Derived.Test.YtgbloaophfaaoaaGreatDoorLib
import Derived.Test.YtgbloaophfaaoaaGreatDoorAb
namespace Go.Proofs.YtgbloaophfaaoaaGreatDoor
set_option linter.all false
open Go Go.RowKit Go.Fw
set_option linter.unusedVariables false

def F.law12_text.l1 (x0 : Int) (l27 : List Int) (x31 : Int) : Option (((List Int) × Int) ⊕ ((List Int))) :=
  if decide (x31 < (l27.length : Int)) then (Option.bind (at_ l27 x31) (fun (y33 : Int) => some (.inl (l27.set x31.toNat (ixor .u8 x0 (IntKind.u8.wrap (x31))), IntKind.i64.wrap (x31 + 1))))) else (some (.inr (l27)))
def F.law12_text.r2 (l35 : List Int) : Option (ByteArray) :=
  some ((bstr l35))
def F.law12_text (x0 : Int) (x1 : Int) : Option ByteArray :=
  chk (0 ≤ x1 ∧ room x1.toNat 1) (Option.bind (iter (fun x => F.law12_text.l1 x0 x.1 x.2) FUEL ((List.replicate x1.toNat 0 : List Int), 0)) (fun x => F.law12_text.r2 x))
set_option maxRecDepth 100000 in
set_option maxHeartbeats 4000000 in
theorem c_law12_text (I : Hl) (x0 : Int) (x1 : Int) (res : ByteArray) (hF : F.law12_text x0 x1 = some res) : Tr Tryz.prog 16 [.int .u8 x0, i6 x1] [imm I] (fun r H' => r = .string res ∧ H' = [imm I]) := by
  unfold F.law12_text at hF
  refine tr_of_cw (fn := Tryz.f16) Tryz.func16 rfl (Nat.le_of_ble_eq_true rfl) 24 rfl fun F0 w0 => ?_
  refine cw_keep [0, 1] (L' := [(0, .int .u8 x0), (1, i6 x1)]) rfl ?_
  refine cw_state (S' := SAT w0 ([imm I] ++ F0)) (fun w hs => hs) ?_
  refine cw_seq ?_
  refine cw_region ?_
  refine ow_vals 1 (j := 1) [0, 1] [(0, .int .u8 x0), (1, i6 x1)] rfl (by kernel_rfl) ?_
  refine ow_end rfl ?_
  refine ew_then ?_
  refine cw_seq ?_
  refine cw_region ?_
  refine ow_vals 1 (j := 1) [0, 7] [(0, .int .u8 x0), (7, i6 x1)] rfl (by kernel_rfl) ?_
  obtain ⟨h21, hF⟩ := chk_some hF
  refine ow_pw rfl (pw_make (E := 5) (eInt .u8) 0 rfl rfl rfl rfl rfl (by kernel_rfl) (by kernel_rfl) rfl rfl rfl h21.1 (room_max h21.1 h21.2) (room_bytes h21.1 h21.2) fun p22 c23 => nw_ow ?_)
  refine ow_vals 1 (j := 3) [0, 5] [(0, .int .u8 x0), (5, .slice p22 (List.replicate x1.toNat 0 : List Int).length c23)] rfl (by kernel_rfl) ?_
  refine ow_end rfl ?_
  refine ew_then ?_
  obtain ⟨v25, hF, hK25⟩ := bind_some hF
  refine cw_mid (fun a w => ∃ (l35 : List Int), ∃ (p36 : Option Addr), ∃ (c37 : Nat), l35 = v25 ∧ Fr 24 [(5, .slice p36 l35.length c37)] a ∧ SAT w0 ([imm I, own (eInt .u8) 5 p36 c37 l35] ++ F0) w) ?_ ?_
  · refine cw_seq ?_
    refine cw_region ?_
    refine ow_vals 1 (j := 1) [0, 5, 6] [(0, .int .u8 x0), (5, .slice p22 (List.replicate x1.toNat 0 : List Int).length c23), (6, i6 0)] rfl (by kernel_rfl) ?_
    refine ow_end rfl ?_
    refine ew_then ?_
    refine cw_block ?_
    refine fun a w hf hs => wp_rounds (fun k a w => ∃ (l27 : List Int), ∃ (x31 : Int), ∃ (p28 : Option Addr), ∃ (c29 : Nat), iter (fun x => F.law12_text.l1 x0 x.1 x.2) k (l27, x31) = some v25 ∧ Fr 24 [(0, .int .u8 x0), (5, .slice p28 l27.length c29), (6, i6 x31)] a ∧ SAT w0 ([imm I, own (eInt .u8) 5 p28 c29 l27] ++ F0) w) ?_ FUEL a w ⟨(List.replicate x1.toNat 0 : List Int), 0, p22, c23, hF, hf.keep [0, 5, 6], sat_to [1, 0] 0 rfl hs⟩
    clear hf hs
    clear a w hF
    rintro k a w ⟨l27, x31, p28, c29, hF2, hf, hs⟩
    obtain ⟨k, r26, rfl, hF, hL26⟩ := iter_some hF2
    clear hF2
    revert a w
    show CW _ _ _ 24 [(0, .int .u8 x0), (5, .slice p28 l27.length c29), (6, i6 x31)] (SAT w0 ([imm I, own (eInt .u8) 5 p28 c29 l27] ++ F0))
    try dsimp only at hF
    unfold F.law12_text.l1 at hF
    refine cw_seq ?_
    refine cw_seq ?_
    refine cw_region ?_
    refine ow_vals 4 (j := 4) [0, 5, 6, 12] [(0, .int .u8 x0), (5, .slice p28 l27.length c29), (6, i6 x31), (12, .bool (decide (x31 < (l27.length : Int))))] rfl (by kernel_rfl) ?_
    refine ow_end rfl ?_
    refine ew_then ?_
    rcases if_some hF with ⟨h32, hF⟩ | ⟨h32, hF⟩
    · refine cw_cond_t rfl rfl h32 ?_
      refine cw_skip ?_
      refine ew_then ?_
      refine cw_seq ?_
      refine cw_block ?_
      refine cw_region ?_
      refine ow_vals 6 (j := 6) [0, 5, 6, 15, 16, 20] [(0, .int .u8 x0), (5, .slice p28 l27.length c29), (6, i6 x31), (15, .slice p28 l27.length c29), (16, i6 x31), (20, .int .u8 (ixor .u8 x0 (IntKind.u8.wrap (x31))))] rfl (by kernel_rfl) ?_
      obtain ⟨y33, h34, hF⟩ := bind_some hF
      refine ow_pw rfl (pw_quiet (v := .pointer (some ((base p28).add (x31.toNat * 1)))) rfl rfl rfl rfl (q_index_own 1 1 rfl rfl (by kernel_rfl) rfl rfl (at_some h34).1 (at_lt h34)) (nw_ow ?_))
      refine ow_pw rfl (pw_store_own 1 1 (z' := ixor .u8 x0 (IntKind.u8.wrap (x31))) (off := 0) rfl rfl rfl rfl rfl rfl rfl rfl (at_some h34).2 (by kernel_rfl) (nw_H (H' := [imm I, own (eInt .u8) 5 p28 c29 (l27.set x31.toNat (ixor .u8 x0 (IntKind.u8.wrap (x31))))] ++ F0) (by first | rfl | (simp only [o0, o3, o5, List.length_set]; rfl)) (nw_ow ?_)))
      refine ow_slots (L' := [(21, .pointer (some ((base p28).add (x31.toNat * 1)))), (0, .int .u8 x0), (5, .slice p28 (l27.set x31.toNat (ixor .u8 x0 (IntKind.u8.wrap (x31)))).length c29), (6, i6 x31), (15, .slice p28 (l27.set x31.toNat (ixor .u8 x0 (IntKind.u8.wrap (x31)))).length c29), (16, i6 x31), (20, .int .u8 (ixor .u8 x0 (IntKind.u8.wrap (x31))))]) (by first | rfl | (simp only [o0, o3, o5, List.length_set]; rfl)) ?_
      refine ow_end rfl ?_
      refine ew_blk ?_
      refine ew_then ?_
      refine cw_region ?_
      refine ow_vals 3 (j := 3) [0, 5, 6] [(0, .int .u8 x0), (5, .slice p28 (l27.set x31.toNat (ixor .u8 x0 (IntKind.u8.wrap (x31)))).length c29), (6, i6 (IntKind.i64.wrap (x31 + 1)))] rfl (by kernel_rfl) ?_
      refine ow_end rfl ?_
      have hR := Option.some.inj hF
      subst hR
      have hR := hL26
      try dsimp only at hR
      exact fun a w hf hs => ⟨k, Nat.lt_succ_self k, l27.set x31.toNat (ixor .u8 x0 (IntKind.u8.wrap (x31))), IntKind.i64.wrap (x31 + 1), p28, c29, hR, hf.keep [0, 5, 6], sat_to [0, 0] 0 rfl hs⟩
    refine cw_cond_f rfl rfl h32 ?_
    refine cw_exit ?_
    refine ew_then_exit ?_
    refine ew_then_exit ?_
    refine ew_blk_exit ?_
    have hR := Option.some.inj hF
    subst hR
    have hR := hL26
    try dsimp only at hR
    exact fun a w hf hs => ⟨l27, p28, c29, hR, hf.keep [5], sat_to [0, 0] 0 rfl hs⟩
  rintro a w ⟨l35, p36, c37, hv, hf, hs⟩
  subst hv
  replace hF := hK25
  clear hK25
  try dsimp only at hF
  revert a w
  show CW _ _ _ 24 [(5, .slice p36 l35.length c37)] (SAT w0 ([imm I, own (eInt .u8) 5 p36 c37 l35] ++ F0))
  unfold F.law12_text.r2 at hF
  refine cw_seq ?_
  refine cw_region ?_
  refine ow_vals 1 (j := 1) [22] [(22, .slice p36 l35.length c37)] rfl (by kernel_rfl) ?_
  refine ow_pw rfl (pw_quiet (v := .string (bstr l35)) rfl rfl rfl rfl (q_bytes_str_own 1 rfl rfl (by kernel_rfl) (by kernel_rfl) rfl) (nw_ow ?_))
  refine ow_vals 1 (j := 3) [4] [(4, .string (bstr l35))] rfl (by kernel_rfl) ?_
  refine ow_end rfl ?_
  refine ew_then ?_
  refine cw_ret ?_
  have hR := Option.some.inj hF
  subst hR
  exact fin1 (H1 := [imm I]) (fun w hs => sat_to [1, 0] 1 rfl hs) rfl (rr_tmp rfl) ⟨rfl, rfl⟩


def F.law12_need.l1 (x24 : Int) (x25 : Int) : Option ((Int × Int) ⊕ (Int)) :=
  if decide (x25 > 0) then (some (.inl (IntKind.i64.wrap (x24 + 1), IntKind.i64.wrap (x25 - 38)))) else (some (.inr (x24)))
def F.law12_need.r2 (x27 : Int) : Option (Int) :=
  some (x27)
def F.law12_need (x0 : Int) : Option Int :=
  if decide (x0 < 0) then (some (1)) else (Option.bind (iter (fun x => F.law12_need.l1 x.1 x.2) FUEL (1, IntKind.i64.wrap (x0 - 36))) (fun x => F.law12_need.r2 x))
set_option maxRecDepth 100000 in
set_option maxHeartbeats 4000000 in
theorem c_law12_need (I : Hl) (x0 : Int) (res : Int) (hF : F.law12_need x0 = some res) : Tr Tryz.prog 18 [i6 x0] [imm I] (fun r H' => r = i6 res ∧ H' = [imm I]) := by
  unfold F.law12_need at hF
  refine tr_of_cw (fn := Tryz.f18) Tryz.func18 rfl (Nat.le_of_ble_eq_true rfl) 17 rfl fun F0 w0 => ?_
  refine cw_keep [0] (L' := [(0, i6 x0)]) rfl ?_
  refine cw_state (S' := SAT w0 ([imm I] ++ F0)) (fun w hs => hs) ?_
  refine cw_seq ?_
  refine cw_region ?_
  refine ow_vals 1 (j := 1) [0] [(0, i6 x0)] rfl (by kernel_rfl) ?_
  refine ow_end rfl ?_
  refine ew_then ?_
  refine cw_seq ?_
  refine cw_region ?_
  refine ow_vals 1 (j := 1) [0, 3] [(0, i6 x0), (3, i6 1)] rfl (by kernel_rfl) ?_
  refine ow_end rfl ?_
  refine ew_then ?_
  refine cw_seq ?_
  refine cw_seq ?_
  refine cw_region ?_
  refine ow_vals 2 (j := 2) [0, 3, 6] [(0, i6 x0), (3, i6 1), (6, .bool (decide (x0 < 0)))] rfl (by kernel_rfl) ?_
  refine ow_end rfl ?_
  refine ew_then ?_
  rcases if_some hF with ⟨h21, hF⟩ | ⟨h21, hF⟩
  · refine cw_cond_t rfl rfl h21 ?_
    refine cw_seq ?_
    refine cw_region ?_
    refine ow_vals 2 (j := 2) [2] [(2, i6 1)] rfl (by kernel_rfl) ?_
    refine ow_end rfl ?_
    refine ew_then ?_
    refine cw_ret ?_
    refine ew_then_ret ?_
    have hR := Option.some.inj hF
    subst hR
    exact fin1 (H1 := [imm I]) (fun w hs => sat_to [0] 0 rfl hs) rfl (rr_tmp rfl) ⟨rfl, rfl⟩
  refine cw_cond_f rfl rfl h21 ?_
  refine cw_skip ?_
  refine ew_then ?_
  obtain ⟨v22, hF, hK22⟩ := bind_some hF
  refine cw_mid (fun a w => ∃ (x27 : Int), x27 = v22 ∧ Fr 17 [(3, i6 x27)] a ∧ SAT w0 ([imm I] ++ F0) w) ?_ ?_
  · refine cw_seq ?_
    refine cw_region ?_
    refine ow_vals 3 (j := 3) [3, 4] [(3, i6 1), (4, i6 (IntKind.i64.wrap (x0 - 36)))] rfl (by kernel_rfl) ?_
    refine ow_end rfl ?_
    refine ew_then ?_
    refine cw_block ?_
    refine fun a w hf hs => wp_rounds (fun k a w => ∃ (x24 : Int), ∃ (x25 : Int), iter (fun x => F.law12_need.l1 x.1 x.2) k (x24, x25) = some v22 ∧ Fr 17 [(3, i6 x24), (4, i6 x25)] a ∧ SAT w0 ([imm I] ++ F0) w) ?_ FUEL a w ⟨1, IntKind.i64.wrap (x0 - 36), hF, hf.keep [3, 4], sat_to [0] 0 rfl hs⟩
    clear hf hs
    clear a w hF
    rintro k a w ⟨x24, x25, hF2, hf, hs⟩
    obtain ⟨k, r23, rfl, hF, hL23⟩ := iter_some hF2
    clear hF2
    revert a w
    show CW _ _ _ 17 [(3, i6 x24), (4, i6 x25)] (SAT w0 ([imm I] ++ F0))
    try dsimp only at hF
    unfold F.law12_need.l1 at hF
    refine cw_seq ?_
    refine cw_seq ?_
    refine cw_region ?_
    refine ow_vals 2 (j := 2) [3, 4, 11] [(3, i6 x24), (4, i6 x25), (11, .bool (decide (x25 > 0)))] rfl (by kernel_rfl) ?_
    refine ow_end rfl ?_
    refine ew_then ?_
    rcases if_some hF with ⟨h26, hF⟩ | ⟨h26, hF⟩
    · refine cw_cond_t rfl rfl h26 ?_
      refine cw_skip ?_
      refine ew_then ?_
      refine cw_seq ?_
      refine cw_block ?_
      refine cw_region ?_
      refine ow_vals 3 (j := 3) [3, 4] [(3, i6 (IntKind.i64.wrap (x24 + 1))), (4, i6 x25)] rfl (by kernel_rfl) ?_
      refine ow_end rfl ?_
      refine ew_blk ?_
      refine ew_then ?_
      refine cw_region ?_
      refine ow_vals 3 (j := 3) [3, 4] [(3, i6 (IntKind.i64.wrap (x24 + 1))), (4, i6 (IntKind.i64.wrap (x25 - 38)))] rfl (by kernel_rfl) ?_
      refine ow_end rfl ?_
      have hR := Option.some.inj hF
      subst hR
      have hR := hL23
      try dsimp only at hR
      exact fun a w hf hs => ⟨k, Nat.lt_succ_self k, IntKind.i64.wrap (x24 + 1), IntKind.i64.wrap (x25 - 38), hR, hf.keep [3, 4], sat_to [0] 0 rfl hs⟩
    refine cw_cond_f rfl rfl h26 ?_
    refine cw_exit ?_
    refine ew_then_exit ?_
    refine ew_then_exit ?_
    refine ew_blk_exit ?_
    have hR := Option.some.inj hF
    subst hR
    have hR := hL23
    try dsimp only at hR
    exact fun a w hf hs => ⟨x24, hR, hf.keep [3], sat_to [0] 0 rfl hs⟩
  rintro a w ⟨x27, hv, hf, hs⟩
  subst hv
  replace hF := hK22
  clear hK22
  try dsimp only at hF
  revert a w
  show CW _ _ _ 17 [(3, i6 x27)] (SAT w0 ([imm I] ++ F0))
  unfold F.law12_need.r2 at hF
  refine cw_seq ?_
  refine cw_region ?_
  refine ow_vals 2 (j := 2) [2] [(2, i6 x27)] rfl (by kernel_rfl) ?_
  refine ow_end rfl ?_
  refine ew_then ?_
  refine cw_ret ?_
  have hR := Option.some.inj hF
  subst hR
  exact fin1 (H1 := [imm I]) (fun w hs => sat_to [0] 0 rfl hs) rfl (rr_tmp rfl) ⟨rfl, rfl⟩


def F.journal_Need (x0 : Int) : Option Int :=
  if decide (x0 ≤ 36) then (some (1)) else (some ((IntKind.i64.wrap (1 + (IntKind.i64.wrap ((IntKind.i64.wrap ((IntKind.i64.wrap ((IntKind.i64.wrap (x0 - 36)) + 38)) - 1)).tdiv 38))))))
set_option maxRecDepth 100000 in
set_option maxHeartbeats 4000000 in
theorem c_journal_Need (I : Hl) (x0 : Int) (res : Int) (hF : F.journal_Need x0 = some res) : Tr Tryz.prog 32 [i6 x0] [imm I] (fun r H' => r = i6 res ∧ H' = [imm I]) := by
  unfold F.journal_Need at hF
  refine tr_of_cw (fn := Tryz.f32) Tryz.func32 rfl (Nat.le_of_ble_eq_true rfl) 11 rfl fun F0 w0 => ?_
  refine cw_keep [0] (L' := [(0, i6 x0)]) rfl ?_
  refine cw_state (S' := SAT w0 ([imm I] ++ F0)) (fun w hs => hs) ?_
  refine cw_seq ?_
  refine cw_region ?_
  refine ow_vals 1 (j := 1) [0] [(0, i6 x0)] rfl (by kernel_rfl) ?_
  refine ow_end rfl ?_
  refine ew_then ?_
  refine cw_seq ?_
  refine cw_seq ?_
  refine cw_region ?_
  refine ow_vals 2 (j := 2) [0, 4] [(0, i6 x0), (4, .bool (decide (x0 ≤ 36)))] rfl (by kernel_rfl) ?_
  refine ow_end rfl ?_
  refine ew_then ?_
  rcases if_some hF with ⟨h21, hF⟩ | ⟨h21, hF⟩
  · refine cw_cond_t rfl rfl h21 ?_
    refine cw_seq ?_
    refine cw_region ?_
    refine ow_vals 1 (j := 1) [2] [(2, i6 1)] rfl (by kernel_rfl) ?_
    refine ow_end rfl ?_
    refine ew_then ?_
    refine cw_ret ?_
    refine ew_then_ret ?_
    have hR := Option.some.inj hF
    subst hR
    exact fin1 (H1 := [imm I]) (fun w hs => sat_to [0] 0 rfl hs) rfl (rr_tmp rfl) ⟨rfl, rfl⟩
  refine cw_cond_f rfl rfl h21 ?_
  refine cw_skip ?_
  refine ew_then ?_
  refine cw_seq ?_
  refine cw_region ?_
  refine ow_vals 7 (j := 7) [2] [(2, i6 (IntKind.i64.wrap (1 + (IntKind.i64.wrap ((IntKind.i64.wrap ((IntKind.i64.wrap ((IntKind.i64.wrap (x0 - 36)) + 38)) - 1)).tdiv 38)))))] rfl (by kernel_rfl) ?_
  refine ow_end rfl ?_
  refine ew_then ?_
  refine cw_ret ?_
  have hR := Option.some.inj hF
  subst hR
  exact fin1 (H1 := [imm I]) (fun w hs => sat_to [0] 0 rfl hs) rfl (rr_tmp rfl) ⟨rfl, rfl⟩


def F.law12_awake : Option Bool :=
  Option.bind (F.journal_Need 36) (fun (r21 : Int) => if r21 == 1 then (Option.bind (F.journal_Need 37) (fun (r24 : Int) => if r24 == 2 then (Option.bind (F.journal_Need 0) (fun (r27 : Int) => some ((r27 == 1)))) else (some (false)))) else (some (false)))
set_option maxRecDepth 100000 in
set_option maxHeartbeats 4000000 in
theorem c_law12_awake (I : Hl) (res : Bool) (hF : F.law12_awake = some res) : Tr Tryz.prog 12 [] [imm I] (fun r H' => r = .bool res ∧ H' = [imm I]) := by
  unfold F.law12_awake at hF
  refine tr_of_cw (fn := Tryz.f12) Tryz.func12 rfl (Nat.le_of_ble_eq_true rfl) 11 rfl fun F0 w0 => ?_
  refine cw_keep [] (L' := []) rfl ?_
  refine cw_state (S' := SAT w0 ([imm I] ++ F0)) (fun w hs => hs) ?_
  refine cw_seq ?_
  refine cw_region ?_
  refine ow_vals 1 (j := 1) [] [] rfl (by kernel_rfl) ?_
  refine ow_end rfl ?_
  refine ew_then ?_
  refine cw_seq ?_
  refine cw_region ?_
  obtain ⟨r21, h22, hF⟩ := bind_some hF
  refine ow_pw rfl (pw_call (F := [] ++ F0) rfl rfl rfl rfl rfl rfl rfl (by kernel_rfl) (perm_of_pulls [0] rfl) (c_journal_Need _ 36 r21 h22) ?_)
  rintro _ _ ⟨rfl, rfl⟩
  refine nw_H (H' := [imm I] ++ F0) rfl (nw_ow ?_)
  refine ow_vals 2 (j := 3) [3] [(3, .bool (r21 == 1))] rfl (by kernel_rfl) ?_
  rcases if_some hF with ⟨h23, hF⟩ | ⟨h23, hF⟩
  · refine ow_slots (L' := [(3, .bool true)]) (by rw [h23]) ?_
    obtain ⟨r24, h25, hF⟩ := bind_some hF
    refine ow_pw rfl (pw_call (F := [] ++ F0) rfl rfl rfl rfl rfl rfl rfl (by kernel_rfl) (perm_of_pulls [0] rfl) (c_journal_Need _ 37 r24 h25) ?_)
    rintro _ _ ⟨rfl, rfl⟩
    refine nw_H (H' := [imm I] ++ F0) rfl (nw_ow ?_)
    refine ow_vals 3 (j := 7) [7] [(7, .bool (r24 == 2))] rfl (by kernel_rfl) ?_
    rcases if_some hF with ⟨h26, hF⟩ | ⟨h26, hF⟩
    · refine ow_slots (L' := [(7, .bool true)]) (by rw [h26]) ?_
      obtain ⟨r27, h28, hF⟩ := bind_some hF
      refine ow_pw rfl (pw_call (F := [] ++ F0) rfl rfl rfl rfl rfl rfl rfl (by kernel_rfl) (perm_of_pulls [0] rfl) (c_journal_Need _ 0 r27 h28) ?_)
      rintro _ _ ⟨rfl, rfl⟩
      refine nw_H (H' := [imm I] ++ F0) rfl (nw_ow ?_)
      refine ow_vals 3 (j := 11) [0] [(0, .bool (r27 == 1))] rfl (by kernel_rfl) ?_
      refine ow_end rfl ?_
      refine ew_then ?_
      refine cw_ret ?_
      have hR := Option.some.inj hF
      subst hR
      exact fin1 (H1 := [imm I]) (fun w hs => sat_to [0] 0 rfl hs) rfl (rr_tmp rfl) ⟨rfl, rfl⟩
    refine ow_slots (L' := [(7, .bool false)]) (by rw [h26]) ?_
    refine ow_vals 4 (j := 11) [0] [(0, .bool false)] rfl (by kernel_rfl) ?_
    refine ow_end rfl ?_
    refine ew_then ?_
    refine cw_ret ?_
    have hR := Option.some.inj hF
    subst hR
    exact fin1 (H1 := [imm I]) (fun w hs => sat_to [0] 0 rfl hs) rfl (rr_tmp rfl) ⟨rfl, rfl⟩
  refine ow_slots (L' := [(3, .bool false)]) (by rw [h23]) ?_
  refine ow_vals 8 (j := 11) [0] [(0, .bool false)] rfl (by kernel_rfl) ?_
  refine ow_end rfl ?_
  refine ew_then ?_
  refine cw_ret ?_
  have hR := Option.some.inj hF
  subst hR
  exact fin1 (H1 := [imm I]) (fun w hs => sat_to [0] 0 rfl hs) rfl (rr_tmp rfl) ⟨rfl, rfl⟩

end Go.Proofs.YtgbloaophfaaoaaGreatDoor
