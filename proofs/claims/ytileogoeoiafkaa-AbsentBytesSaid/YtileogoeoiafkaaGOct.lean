/- What the functions compute, and that the code computes it: printed by a program of this claim (wip/tools), for the group Oct. -/
import Derived.Test.YtileogoeoiafkaaGMill
namespace Go.Proofs.Ytileogoeoiafkaa
set_option linter.all false
open Go Go.RowKit Go.Fw
set_option linter.unusedVariables false

def F.octet_Num.l2 (x26 : Int) (s27 : ByteArray) : Option ((Int × ByteArray) ⊕ (ByteArray)) :=
  if decide (x26 > 0) then (chk ((bstr ([IntKind.u8.wrap (x26)] : List Int)).size + s27.size ≤ 9223372036854775807) (some (.inl (x26.fdiv (2 ^ 8), (bstr ([IntKind.u8.wrap (x26)] : List Int)) ++ s27)))) else (some (.inr (s27)))
def F.octet_Num.r3 (s32 : ByteArray) : Option (ByteArray) :=
  chk ((bstr ([IntKind.u8.wrap ((s32.size : Int))] : List Int)).size + s32.size ≤ 9223372036854775807) (some (((bstr ([IntKind.u8.wrap ((s32.size : Int))] : List Int)) ++ s32)))
def F.octet_Num.r1 (x0 : Int) : Option (ByteArray) :=
  Option.bind (iter (fun x => F.octet_Num.l2 x.1 x.2) FUEL (x0, (ByteArray.mk #[]))) (fun x => F.octet_Num.r3 x)
def F.octet_Num (x0 : Int) : Option ByteArray :=
  thru (if decide (x0 < 0) then (some (.inr ((ByteArray.mk #[])))) else (if decide (x0 ≥ 72057594037927936) then (some (.inr ((ByteArray.mk #[])))) else (some (.inl ())))) (fun x => F.octet_Num.r1 x0)
set_option maxRecDepth 100000 in
set_option maxHeartbeats 4000000 in
theorem c_octet_Num (I : Hl) (x0 : Int) (res : ByteArray) (hF : F.octet_Num x0 = some res) : Tr Try.prog 57 [.int .i64 x0] [imm I] (fun r H' => r = .string res ∧ H' = [imm I]) := by
  unfold F.octet_Num at hF
  refine tr_of_cw (fn := Try.f57) Try.func57 rfl (Nat.le_of_ble_eq_true rfl) 27 rfl fun F0 w0 => ?_
  refine cw_keep [0] (L' := [(0, .int .i64 x0)]) rfl ?_
  refine cw_state (S' := SAT w0 ([imm I] ++ F0)) (fun w hs => hs) ?_
  refine cw_seq ?_
  refine cw_region ?_
  refine ow_vals 1 (j := 1) [0] [(0, .int .i64 x0)] rfl (by kernel_rfl) ?_
  refine ow_end rfl ?_
  refine ew_then ?_
  obtain ⟨v21, hF, hK21⟩ := thru_some hF
  refine cw_mid (fun a w => .inl () = v21 ∧ Fr 27 [(0, .int .i64 x0)] a ∧ SAT w0 ([imm I] ++ F0) w) ?_ ?_
  · refine cw_seq ?_
    refine cw_region ?_
    refine ow_vals 3 (j := 3) [0, 6] [(0, .int .i64 x0), (6, .bool (decide (x0 < 0)))] rfl (by kernel_rfl) ?_
    rcases if_some hF with ⟨h22, hF⟩ | ⟨h22, hF⟩
    · refine ow_slots (L' := [(0, .int .i64 x0), (6, .bool true)]) (by rw [h22]) ?_
      refine ow_vals 3 (j := 6) [0, 9] [(0, .int .i64 x0), (9, .bool true)] rfl (by kernel_rfl) ?_
      refine ow_end rfl ?_
      refine ew_then ?_
      refine cw_cond_t rfl rfl rfl ?_
      refine cw_seq ?_
      refine cw_region ?_
      refine ow_vals 1 (j := 1) [2] [(2, .string (ByteArray.mk #[]))] rfl (by kernel_rfl) ?_
      refine ow_end rfl ?_
      refine ew_then ?_
      refine cw_ret ?_
      refine ew_then_ret ?_
      have hR := Option.some.inj hF
      subst hR
      have hR := hK21
      try dsimp only [Thru] at hR
      subst hR
      exact fin1 (H1 := [imm I]) (fun w hs => sat_to [0] 0 rfl hs) rfl (rr_tmp rfl) ⟨rfl, rfl⟩
    refine ow_slots (L' := [(0, .int .i64 x0), (6, .bool false)]) (by rw [h22]) ?_
    refine ow_vals 3 (j := 6) [0, 9] [(0, .int .i64 x0), (9, .bool (decide (x0 ≥ 72057594037927936)))] rfl (by kernel_rfl) ?_
    refine ow_end rfl ?_
    refine ew_then ?_
    rcases if_some hF with ⟨h23, hF⟩ | ⟨h23, hF⟩
    · refine cw_cond_t rfl rfl h23 ?_
      refine cw_seq ?_
      refine cw_region ?_
      refine ow_vals 1 (j := 1) [2] [(2, .string (ByteArray.mk #[]))] rfl (by kernel_rfl) ?_
      refine ow_end rfl ?_
      refine ew_then ?_
      refine cw_ret ?_
      refine ew_then_ret ?_
      have hR := Option.some.inj hF
      subst hR
      have hR := hK21
      try dsimp only [Thru] at hR
      subst hR
      exact fin1 (H1 := [imm I]) (fun w hs => sat_to [0] 0 rfl hs) rfl (rr_tmp rfl) ⟨rfl, rfl⟩
    refine cw_cond_f rfl rfl h23 ?_
    refine cw_skip ?_
    have hR := Option.some.inj hF
    exact fun a w hf hs => ⟨hR, hf.keep [0], sat_to [0] 0 rfl hs⟩
  rintro a w ⟨hv, hf, hs⟩
  subst hv
  replace hF := hK21
  clear hK21
  try dsimp only [Thru] at hF
  revert a w
  show CW _ _ _ 27 [(0, .int .i64 x0)] (SAT w0 ([imm I] ++ F0))
  unfold F.octet_Num.r1 at hF
  refine cw_seq ?_
  refine cw_region ?_
  refine ow_vals 1 (j := 1) [0, 3] [(0, .int .i64 x0), (3, .string (ByteArray.mk #[]))] rfl (by kernel_rfl) ?_
  refine ow_end rfl ?_
  refine ew_then ?_
  obtain ⟨v24, hF, hK24⟩ := bind_some hF
  refine cw_mid (fun a w => ∃ (s32 : ByteArray), s32 = v24 ∧ Fr 27 [(3, .string s32)] a ∧ SAT w0 ([imm I] ++ F0) w) ?_ ?_
  · refine cw_block ?_
    refine fun a w hf hs => wp_rounds (fun k a w => ∃ (x26 : Int), ∃ (s27 : ByteArray), iter (fun x => F.octet_Num.l2 x.1 x.2) k (x26, s27) = some v24 ∧ Fr 27 [(0, .int .i64 x26), (3, .string s27)] a ∧ SAT w0 ([imm I] ++ F0) w) ?_ FUEL a w ⟨x0, (ByteArray.mk #[]), hF, hf.keep [0, 3], sat_to [0] 0 rfl hs⟩
    clear hf hs
    clear a w hF
    rintro k a w ⟨x26, s27, hF2, hf, hs⟩
    obtain ⟨k, r25, rfl, hF, hL25⟩ := iter_some hF2
    clear hF2
    revert a w
    show CW _ _ _ 27 [(0, .int .i64 x26), (3, .string s27)] (SAT w0 ([imm I] ++ F0))
    try dsimp only at hF
    unfold F.octet_Num.l2 at hF
    refine cw_seq ?_
    refine cw_seq ?_
    refine cw_region ?_
    refine ow_vals 2 (j := 2) [0, 3, 11] [(0, .int .i64 x26), (3, .string s27), (11, .bool (decide (x26 > 0)))] rfl (by kernel_rfl) ?_
    refine ow_end rfl ?_
    refine ew_then ?_
    rcases if_some hF with ⟨h28, hF⟩ | ⟨h28, hF⟩
    · refine cw_cond_t rfl rfl h28 ?_
      refine cw_skip ?_
      refine ew_then ?_
      refine cw_seq ?_
      refine cw_block ?_
      refine cw_region ?_
      refine ow_vals 2 (j := 2) [0, 3, 15] [(0, .int .i64 x26), (3, .string s27), (15, .int .u8 (IntKind.u8.wrap (x26)))] rfl (by kernel_rfl) ?_
      refine ow_pw rfl (pw_buildSlice (E := 5) (eInt .u8) ([IntKind.u8.wrap (x26)] : List Int) rfl rfl rfl rfl rfl (by kernel_rfl) rfl (by kernel_rfl) rfl (by decide) rfl fun p29 => nw_ow ?_)
      refine ow_pw rfl (pw_quiet (v := .string (bstr ([IntKind.u8.wrap (x26)] : List Int))) rfl rfl rfl rfl (q_bytes_str_own 0 rfl rfl (by kernel_rfl) (by kernel_rfl) rfl) (nw_ow ?_))
      refine ow_vals 1 (j := 5) [0, 17, 18] [(0, .int .i64 x26), (17, .string (bstr ([IntKind.u8.wrap (x26)] : List Int))), (18, .string s27)] rfl (by kernel_rfl) ?_
      obtain ⟨h31, hF⟩ := chk_some hF
      refine ow_pw rfl (pw_quiet (v := .string ((bstr ([IntKind.u8.wrap (x26)] : List Int)) ++ s27)) rfl rfl rfl rfl (q_concat rfl rfl rfl h31) (nw_ow ?_))
      refine ow_vals 1 (j := 7) [0, 3] [(0, .int .i64 x26), (3, .string ((bstr ([IntKind.u8.wrap (x26)] : List Int)) ++ s27))] rfl (by kernel_rfl) ?_
      refine ow_end rfl ?_
      refine ew_blk ?_
      refine ew_then ?_
      refine cw_region ?_
      refine ow_vals 3 (j := 3) [0, 3] [(0, .int .i64 (x26.fdiv (2 ^ 8))), (3, .string ((bstr ([IntKind.u8.wrap (x26)] : List Int)) ++ s27))] rfl (by kernel_rfl) ?_
      refine ow_end rfl ?_
      have hR := Option.some.inj hF
      subst hR
      have hR := hL25
      try dsimp only at hR
      exact fun a w hf hs => ⟨k, Nat.lt_succ_self k, x26.fdiv (2 ^ 8), (bstr ([IntKind.u8.wrap (x26)] : List Int)) ++ s27, hR, hf.keep [0, 3], sat_to [0, 0] 1 rfl hs⟩
    refine cw_cond_f rfl rfl h28 ?_
    refine cw_exit ?_
    refine ew_then_exit ?_
    refine ew_then_exit ?_
    refine ew_blk_exit ?_
    have hR := Option.some.inj hF
    subst hR
    have hR := hL25
    try dsimp only at hR
    exact fun a w hf hs => ⟨s27, hR, hf.keep [3], sat_to [0] 0 rfl hs⟩
  rintro a w ⟨s32, hv, hf, hs⟩
  subst hv
  replace hF := hK24
  clear hK24
  try dsimp only at hF
  revert a w
  show CW _ _ _ 27 [(3, .string s32)] (SAT w0 ([imm I] ++ F0))
  unfold F.octet_Num.r3 at hF
  refine cw_seq ?_
  refine cw_region ?_
  refine ow_vals 3 (j := 3) [3, 22] [(3, .string s32), (22, .int .u8 (IntKind.u8.wrap ((s32.size : Int))))] rfl (by kernel_rfl) ?_
  refine ow_pw rfl (pw_buildSlice (E := 5) (eInt .u8) ([IntKind.u8.wrap ((s32.size : Int))] : List Int) rfl rfl rfl rfl rfl (by kernel_rfl) rfl (by kernel_rfl) rfl (by decide) rfl fun p33 => nw_ow ?_)
  refine ow_pw rfl (pw_quiet (v := .string (bstr ([IntKind.u8.wrap ((s32.size : Int))] : List Int))) rfl rfl rfl rfl (q_bytes_str_own 0 rfl rfl (by kernel_rfl) (by kernel_rfl) rfl) (nw_ow ?_))
  refine ow_vals 1 (j := 6) [24, 25] [(24, .string (bstr ([IntKind.u8.wrap ((s32.size : Int))] : List Int))), (25, .string s32)] rfl (by kernel_rfl) ?_
  obtain ⟨h35, hF⟩ := chk_some hF
  refine ow_pw rfl (pw_quiet (v := .string ((bstr ([IntKind.u8.wrap ((s32.size : Int))] : List Int)) ++ s32)) rfl rfl rfl rfl (q_concat rfl rfl rfl h35) (nw_ow ?_))
  refine ow_vals 1 (j := 8) [2] [(2, .string ((bstr ([IntKind.u8.wrap ((s32.size : Int))] : List Int)) ++ s32))] rfl (by kernel_rfl) ?_
  refine ow_end rfl ?_
  refine ew_then ?_
  refine cw_ret ?_
  have hR := Option.some.inj hF
  subst hR
  exact fin1 (H1 := [imm I]) (fun w hs => sat_to [0, 0] 1 rfl hs) rfl (rr_tmp rfl) ⟨rfl, rfl⟩


def F.octet_Text (x0 : ByteArray) : Option ByteArray :=
  Option.bind (F.octet_Num (x0.size : Int)) (fun (r21 : ByteArray) => chk (r21.size + x0.size ≤ 9223372036854775807) (some ((r21 ++ x0))))
set_option maxRecDepth 100000 in
set_option maxHeartbeats 4000000 in
theorem c_octet_Text (I : Hl) (x0 : ByteArray) (res : ByteArray) (hF : F.octet_Text x0 = some res) : Tr Try.prog 38 [.string x0] [imm I] (fun r H' => r = .string res ∧ H' = [imm I]) := by
  unfold F.octet_Text at hF
  refine tr_of_cw (fn := Try.f38) Try.func38 rfl (Nat.le_of_ble_eq_true rfl) 8 rfl fun F0 w0 => ?_
  refine cw_keep [0] (L' := [(0, .string x0)]) rfl ?_
  refine cw_state (S' := SAT w0 ([imm I] ++ F0)) (fun w hs => hs) ?_
  refine cw_seq ?_
  refine cw_region ?_
  refine ow_vals 1 (j := 1) [0] [(0, .string x0)] rfl (by kernel_rfl) ?_
  refine ow_end rfl ?_
  refine ew_then ?_
  refine cw_seq ?_
  refine cw_region ?_
  refine ow_vals 2 (j := 2) [0, 4] [(0, .string x0), (4, .int .i64 (x0.size : Int))] rfl (by kernel_rfl) ?_
  obtain ⟨r21, h22, hF⟩ := bind_some hF
  refine ow_pw rfl (pw_call (F := [] ++ F0) rfl rfl rfl rfl rfl rfl rfl (by kernel_rfl) (perm_of_pulls [0] rfl) (c_octet_Num _ (x0.size : Int) r21 h22) ?_)
  rintro _ _ ⟨rfl, rfl⟩
  refine nw_H (H' := [imm I] ++ F0) rfl (nw_ow ?_)
  refine ow_vals 1 (j := 4) [5, 6] [(5, .string r21), (6, .string x0)] rfl (by kernel_rfl) ?_
  obtain ⟨h23, hF⟩ := chk_some hF
  refine ow_pw rfl (pw_quiet (v := .string (r21 ++ x0)) rfl rfl rfl rfl (q_concat rfl rfl rfl h23) (nw_ow ?_))
  refine ow_vals 1 (j := 6) [2] [(2, .string (r21 ++ x0))] rfl (by kernel_rfl) ?_
  refine ow_end rfl ?_
  refine ew_then ?_
  refine cw_ret ?_
  have hR := Option.some.inj hF
  subst hR
  exact fin1 (H1 := [imm I]) (fun w hs => sat_to [0] 0 rfl hs) rfl (rr_tmp rfl) ⟨rfl, rfl⟩


def F.paper_sign (x0 : Int) : Option Bool :=
  if decide (x0 ≥ 97) then (if decide (x0 ≤ 122) then (some (true)) else (if decide (x0 ≥ 65) then (if decide (x0 ≤ 90) then (some (true)) else (if decide (x0 ≥ 48) then (if decide (x0 ≤ 57) then (some (true)) else (if x0 == 45 then (some (true)) else (if x0 == 95 then (some (true)) else (some ((x0 == 46)))))) else (if x0 == 45 then (some (true)) else (if x0 == 95 then (some (true)) else (some ((x0 == 46))))))) else (if decide (x0 ≥ 48) then (if decide (x0 ≤ 57) then (some (true)) else (if x0 == 45 then (some (true)) else (if x0 == 95 then (some (true)) else (some ((x0 == 46)))))) else (if x0 == 45 then (some (true)) else (if x0 == 95 then (some (true)) else (some ((x0 == 46)))))))) else (if decide (x0 ≥ 65) then (if decide (x0 ≤ 90) then (some (true)) else (if decide (x0 ≥ 48) then (if decide (x0 ≤ 57) then (some (true)) else (if x0 == 45 then (some (true)) else (if x0 == 95 then (some (true)) else (some ((x0 == 46)))))) else (if x0 == 45 then (some (true)) else (if x0 == 95 then (some (true)) else (some ((x0 == 46))))))) else (if decide (x0 ≥ 48) then (if decide (x0 ≤ 57) then (some (true)) else (if x0 == 45 then (some (true)) else (if x0 == 95 then (some (true)) else (some ((x0 == 46)))))) else (if x0 == 45 then (some (true)) else (if x0 == 95 then (some (true)) else (some ((x0 == 46)))))))
set_option maxRecDepth 100000 in
set_option maxHeartbeats 4000000 in
theorem c_paper_sign (I : Hl) (x0 : Int) (res : Bool) (hF : F.paper_sign x0 = some res) : Tr Try.prog 66 [.int .u8 x0] [imm I] (fun r H' => r = .bool res ∧ H' = [imm I]) := by
  unfold F.paper_sign at hF
  refine tr_of_cw (fn := Try.f66) Try.func66 rfl (Nat.le_of_ble_eq_true rfl) 37 rfl fun F0 w0 => ?_
  refine cw_keep [0] (L' := [(0, .int .u8 x0)]) rfl ?_
  refine cw_state (S' := SAT w0 ([imm I] ++ F0)) (fun w hs => hs) ?_
  refine cw_seq ?_
  refine cw_region ?_
  refine ow_vals 1 (j := 1) [0] [(0, .int .u8 x0)] rfl (by kernel_rfl) ?_
  refine ow_end rfl ?_
  refine ew_then ?_
  refine cw_seq ?_
  refine cw_region ?_
  refine ow_vals 3 (j := 3) [0, 5] [(0, .int .u8 x0), (5, .bool (decide (x0 ≥ 97)))] rfl (by kernel_rfl) ?_
  rcases if_some hF with ⟨h21, hF⟩ | ⟨h21, hF⟩
  · refine ow_slots (L' := [(0, .int .u8 x0), (5, .bool true)]) (by rw [h21]) ?_
    refine ow_vals 4 (j := 7) [0, 9] [(0, .int .u8 x0), (9, .bool (decide (x0 ≤ 122)))] rfl (by kernel_rfl) ?_
    rcases if_some hF with ⟨h22, hF⟩ | ⟨h22, hF⟩
    · refine ow_slots (L' := [(0, .int .u8 x0), (9, .bool true)]) (by rw [h22]) ?_
      refine ow_vals 28 (j := 35) [2] [(2, .bool true)] rfl (by kernel_rfl) ?_
      refine ow_end rfl ?_
      refine ew_then ?_
      refine cw_ret ?_
      have hR := Option.some.inj hF
      subst hR
      exact fin1 (H1 := [imm I]) (fun w hs => sat_to [0] 0 rfl hs) rfl (rr_tmp rfl) ⟨rfl, rfl⟩
    refine ow_slots (L' := [(0, .int .u8 x0), (9, .bool false)]) (by rw [h22]) ?_
    refine ow_vals 3 (j := 10) [0, 9, 12] [(0, .int .u8 x0), (9, .bool false), (12, .bool (decide (x0 ≥ 65)))] rfl (by kernel_rfl) ?_
    rcases if_some hF with ⟨h23, hF⟩ | ⟨h23, hF⟩
    · refine ow_slots (L' := [(0, .int .u8 x0), (9, .bool false), (12, .bool true)]) (by rw [h23]) ?_
      refine ow_vals 5 (j := 15) [0, 17] [(0, .int .u8 x0), (17, .bool (decide (x0 ≤ 90)))] rfl (by kernel_rfl) ?_
      rcases if_some hF with ⟨h24, hF⟩ | ⟨h24, hF⟩
      · refine ow_slots (L' := [(0, .int .u8 x0), (17, .bool true)]) (by rw [h24]) ?_
        refine ow_vals 20 (j := 35) [2] [(2, .bool true)] rfl (by kernel_rfl) ?_
        refine ow_end rfl ?_
        refine ew_then ?_
        refine cw_ret ?_
        have hR := Option.some.inj hF
        subst hR
        exact fin1 (H1 := [imm I]) (fun w hs => sat_to [0] 0 rfl hs) rfl (rr_tmp rfl) ⟨rfl, rfl⟩
      refine ow_slots (L' := [(0, .int .u8 x0), (17, .bool false)]) (by rw [h24]) ?_
      refine ow_vals 3 (j := 18) [0, 17, 20] [(0, .int .u8 x0), (17, .bool false), (20, .bool (decide (x0 ≥ 48)))] rfl (by kernel_rfl) ?_
      rcases if_some hF with ⟨h25, hF⟩ | ⟨h25, hF⟩
      · refine ow_slots (L' := [(0, .int .u8 x0), (17, .bool false), (20, .bool true)]) (by rw [h25]) ?_
        refine ow_vals 5 (j := 23) [0, 25] [(0, .int .u8 x0), (25, .bool (decide (x0 ≤ 57)))] rfl (by kernel_rfl) ?_
        rcases if_some hF with ⟨h26, hF⟩ | ⟨h26, hF⟩
        · refine ow_slots (L' := [(0, .int .u8 x0), (25, .bool true)]) (by rw [h26]) ?_
          refine ow_vals 12 (j := 35) [2] [(2, .bool true)] rfl (by kernel_rfl) ?_
          refine ow_end rfl ?_
          refine ew_then ?_
          refine cw_ret ?_
          have hR := Option.some.inj hF
          subst hR
          exact fin1 (H1 := [imm I]) (fun w hs => sat_to [0] 0 rfl hs) rfl (rr_tmp rfl) ⟨rfl, rfl⟩
        refine ow_slots (L' := [(0, .int .u8 x0), (25, .bool false)]) (by rw [h26]) ?_
        refine ow_vals 4 (j := 27) [0, 29] [(0, .int .u8 x0), (29, .bool (x0 == 45))] rfl (by kernel_rfl) ?_
        rcases if_some hF with ⟨h27, hF⟩ | ⟨h27, hF⟩
        · refine ow_slots (L' := [(0, .int .u8 x0), (29, .bool true)]) (by rw [h27]) ?_
          refine ow_vals 8 (j := 35) [2] [(2, .bool true)] rfl (by kernel_rfl) ?_
          refine ow_end rfl ?_
          refine ew_then ?_
          refine cw_ret ?_
          have hR := Option.some.inj hF
          subst hR
          exact fin1 (H1 := [imm I]) (fun w hs => sat_to [0] 0 rfl hs) rfl (rr_tmp rfl) ⟨rfl, rfl⟩
        refine ow_slots (L' := [(0, .int .u8 x0), (29, .bool false)]) (by rw [h27]) ?_
        refine ow_vals 4 (j := 31) [0, 33] [(0, .int .u8 x0), (33, .bool (x0 == 95))] rfl (by kernel_rfl) ?_
        rcases if_some hF with ⟨h28, hF⟩ | ⟨h28, hF⟩
        · refine ow_slots (L' := [(0, .int .u8 x0), (33, .bool true)]) (by rw [h28]) ?_
          refine ow_vals 4 (j := 35) [2] [(2, .bool true)] rfl (by kernel_rfl) ?_
          refine ow_end rfl ?_
          refine ew_then ?_
          refine cw_ret ?_
          have hR := Option.some.inj hF
          subst hR
          exact fin1 (H1 := [imm I]) (fun w hs => sat_to [0] 0 rfl hs) rfl (rr_tmp rfl) ⟨rfl, rfl⟩
        refine ow_slots (L' := [(0, .int .u8 x0), (33, .bool false)]) (by rw [h28]) ?_
        refine ow_vals 4 (j := 35) [2] [(2, .bool (x0 == 46))] rfl (by kernel_rfl) ?_
        refine ow_end rfl ?_
        refine ew_then ?_
        refine cw_ret ?_
        have hR := Option.some.inj hF
        subst hR
        exact fin1 (H1 := [imm I]) (fun w hs => sat_to [0] 0 rfl hs) rfl (rr_tmp rfl) ⟨rfl, rfl⟩
      refine ow_slots (L' := [(0, .int .u8 x0), (17, .bool false), (20, .bool false)]) (by rw [h25]) ?_
      refine ow_vals 9 (j := 27) [0, 29] [(0, .int .u8 x0), (29, .bool (x0 == 45))] rfl (by kernel_rfl) ?_
      rcases if_some hF with ⟨h29, hF⟩ | ⟨h29, hF⟩
      · refine ow_slots (L' := [(0, .int .u8 x0), (29, .bool true)]) (by rw [h29]) ?_
        refine ow_vals 8 (j := 35) [2] [(2, .bool true)] rfl (by kernel_rfl) ?_
        refine ow_end rfl ?_
        refine ew_then ?_
        refine cw_ret ?_
        have hR := Option.some.inj hF
        subst hR
        exact fin1 (H1 := [imm I]) (fun w hs => sat_to [0] 0 rfl hs) rfl (rr_tmp rfl) ⟨rfl, rfl⟩
      refine ow_slots (L' := [(0, .int .u8 x0), (29, .bool false)]) (by rw [h29]) ?_
      refine ow_vals 4 (j := 31) [0, 33] [(0, .int .u8 x0), (33, .bool (x0 == 95))] rfl (by kernel_rfl) ?_
      rcases if_some hF with ⟨h30, hF⟩ | ⟨h30, hF⟩
      · refine ow_slots (L' := [(0, .int .u8 x0), (33, .bool true)]) (by rw [h30]) ?_
        refine ow_vals 4 (j := 35) [2] [(2, .bool true)] rfl (by kernel_rfl) ?_
        refine ow_end rfl ?_
        refine ew_then ?_
        refine cw_ret ?_
        have hR := Option.some.inj hF
        subst hR
        exact fin1 (H1 := [imm I]) (fun w hs => sat_to [0] 0 rfl hs) rfl (rr_tmp rfl) ⟨rfl, rfl⟩
      refine ow_slots (L' := [(0, .int .u8 x0), (33, .bool false)]) (by rw [h30]) ?_
      refine ow_vals 4 (j := 35) [2] [(2, .bool (x0 == 46))] rfl (by kernel_rfl) ?_
      refine ow_end rfl ?_
      refine ew_then ?_
      refine cw_ret ?_
      have hR := Option.some.inj hF
      subst hR
      exact fin1 (H1 := [imm I]) (fun w hs => sat_to [0] 0 rfl hs) rfl (rr_tmp rfl) ⟨rfl, rfl⟩
    refine ow_slots (L' := [(0, .int .u8 x0), (9, .bool false), (12, .bool false)]) (by rw [h23]) ?_
    refine ow_vals 8 (j := 18) [0, 17, 20] [(0, .int .u8 x0), (17, .bool false), (20, .bool (decide (x0 ≥ 48)))] rfl (by kernel_rfl) ?_
    rcases if_some hF with ⟨h31, hF⟩ | ⟨h31, hF⟩
    · refine ow_slots (L' := [(0, .int .u8 x0), (17, .bool false), (20, .bool true)]) (by rw [h31]) ?_
      refine ow_vals 5 (j := 23) [0, 25] [(0, .int .u8 x0), (25, .bool (decide (x0 ≤ 57)))] rfl (by kernel_rfl) ?_
      rcases if_some hF with ⟨h32, hF⟩ | ⟨h32, hF⟩
      · refine ow_slots (L' := [(0, .int .u8 x0), (25, .bool true)]) (by rw [h32]) ?_
        refine ow_vals 12 (j := 35) [2] [(2, .bool true)] rfl (by kernel_rfl) ?_
        refine ow_end rfl ?_
        refine ew_then ?_
        refine cw_ret ?_
        have hR := Option.some.inj hF
        subst hR
        exact fin1 (H1 := [imm I]) (fun w hs => sat_to [0] 0 rfl hs) rfl (rr_tmp rfl) ⟨rfl, rfl⟩
      refine ow_slots (L' := [(0, .int .u8 x0), (25, .bool false)]) (by rw [h32]) ?_
      refine ow_vals 4 (j := 27) [0, 29] [(0, .int .u8 x0), (29, .bool (x0 == 45))] rfl (by kernel_rfl) ?_
      rcases if_some hF with ⟨h33, hF⟩ | ⟨h33, hF⟩
      · refine ow_slots (L' := [(0, .int .u8 x0), (29, .bool true)]) (by rw [h33]) ?_
        refine ow_vals 8 (j := 35) [2] [(2, .bool true)] rfl (by kernel_rfl) ?_
        refine ow_end rfl ?_
        refine ew_then ?_
        refine cw_ret ?_
        have hR := Option.some.inj hF
        subst hR
        exact fin1 (H1 := [imm I]) (fun w hs => sat_to [0] 0 rfl hs) rfl (rr_tmp rfl) ⟨rfl, rfl⟩
      refine ow_slots (L' := [(0, .int .u8 x0), (29, .bool false)]) (by rw [h33]) ?_
      refine ow_vals 4 (j := 31) [0, 33] [(0, .int .u8 x0), (33, .bool (x0 == 95))] rfl (by kernel_rfl) ?_
      rcases if_some hF with ⟨h34, hF⟩ | ⟨h34, hF⟩
      · refine ow_slots (L' := [(0, .int .u8 x0), (33, .bool true)]) (by rw [h34]) ?_
        refine ow_vals 4 (j := 35) [2] [(2, .bool true)] rfl (by kernel_rfl) ?_
        refine ow_end rfl ?_
        refine ew_then ?_
        refine cw_ret ?_
        have hR := Option.some.inj hF
        subst hR
        exact fin1 (H1 := [imm I]) (fun w hs => sat_to [0] 0 rfl hs) rfl (rr_tmp rfl) ⟨rfl, rfl⟩
      refine ow_slots (L' := [(0, .int .u8 x0), (33, .bool false)]) (by rw [h34]) ?_
      refine ow_vals 4 (j := 35) [2] [(2, .bool (x0 == 46))] rfl (by kernel_rfl) ?_
      refine ow_end rfl ?_
      refine ew_then ?_
      refine cw_ret ?_
      have hR := Option.some.inj hF
      subst hR
      exact fin1 (H1 := [imm I]) (fun w hs => sat_to [0] 0 rfl hs) rfl (rr_tmp rfl) ⟨rfl, rfl⟩
    refine ow_slots (L' := [(0, .int .u8 x0), (17, .bool false), (20, .bool false)]) (by rw [h31]) ?_
    refine ow_vals 9 (j := 27) [0, 29] [(0, .int .u8 x0), (29, .bool (x0 == 45))] rfl (by kernel_rfl) ?_
    rcases if_some hF with ⟨h35, hF⟩ | ⟨h35, hF⟩
    · refine ow_slots (L' := [(0, .int .u8 x0), (29, .bool true)]) (by rw [h35]) ?_
      refine ow_vals 8 (j := 35) [2] [(2, .bool true)] rfl (by kernel_rfl) ?_
      refine ow_end rfl ?_
      refine ew_then ?_
      refine cw_ret ?_
      have hR := Option.some.inj hF
      subst hR
      exact fin1 (H1 := [imm I]) (fun w hs => sat_to [0] 0 rfl hs) rfl (rr_tmp rfl) ⟨rfl, rfl⟩
    refine ow_slots (L' := [(0, .int .u8 x0), (29, .bool false)]) (by rw [h35]) ?_
    refine ow_vals 4 (j := 31) [0, 33] [(0, .int .u8 x0), (33, .bool (x0 == 95))] rfl (by kernel_rfl) ?_
    rcases if_some hF with ⟨h36, hF⟩ | ⟨h36, hF⟩
    · refine ow_slots (L' := [(0, .int .u8 x0), (33, .bool true)]) (by rw [h36]) ?_
      refine ow_vals 4 (j := 35) [2] [(2, .bool true)] rfl (by kernel_rfl) ?_
      refine ow_end rfl ?_
      refine ew_then ?_
      refine cw_ret ?_
      have hR := Option.some.inj hF
      subst hR
      exact fin1 (H1 := [imm I]) (fun w hs => sat_to [0] 0 rfl hs) rfl (rr_tmp rfl) ⟨rfl, rfl⟩
    refine ow_slots (L' := [(0, .int .u8 x0), (33, .bool false)]) (by rw [h36]) ?_
    refine ow_vals 4 (j := 35) [2] [(2, .bool (x0 == 46))] rfl (by kernel_rfl) ?_
    refine ow_end rfl ?_
    refine ew_then ?_
    refine cw_ret ?_
    have hR := Option.some.inj hF
    subst hR
    exact fin1 (H1 := [imm I]) (fun w hs => sat_to [0] 0 rfl hs) rfl (rr_tmp rfl) ⟨rfl, rfl⟩
  refine ow_slots (L' := [(0, .int .u8 x0), (5, .bool false)]) (by rw [h21]) ?_
  refine ow_vals 7 (j := 10) [0, 9, 12] [(0, .int .u8 x0), (9, .bool false), (12, .bool (decide (x0 ≥ 65)))] rfl (by kernel_rfl) ?_
  rcases if_some hF with ⟨h37, hF⟩ | ⟨h37, hF⟩
  · refine ow_slots (L' := [(0, .int .u8 x0), (9, .bool false), (12, .bool true)]) (by rw [h37]) ?_
    refine ow_vals 5 (j := 15) [0, 17] [(0, .int .u8 x0), (17, .bool (decide (x0 ≤ 90)))] rfl (by kernel_rfl) ?_
    rcases if_some hF with ⟨h38, hF⟩ | ⟨h38, hF⟩
    · refine ow_slots (L' := [(0, .int .u8 x0), (17, .bool true)]) (by rw [h38]) ?_
      refine ow_vals 20 (j := 35) [2] [(2, .bool true)] rfl (by kernel_rfl) ?_
      refine ow_end rfl ?_
      refine ew_then ?_
      refine cw_ret ?_
      have hR := Option.some.inj hF
      subst hR
      exact fin1 (H1 := [imm I]) (fun w hs => sat_to [0] 0 rfl hs) rfl (rr_tmp rfl) ⟨rfl, rfl⟩
    refine ow_slots (L' := [(0, .int .u8 x0), (17, .bool false)]) (by rw [h38]) ?_
    refine ow_vals 3 (j := 18) [0, 17, 20] [(0, .int .u8 x0), (17, .bool false), (20, .bool (decide (x0 ≥ 48)))] rfl (by kernel_rfl) ?_
    rcases if_some hF with ⟨h39, hF⟩ | ⟨h39, hF⟩
    · refine ow_slots (L' := [(0, .int .u8 x0), (17, .bool false), (20, .bool true)]) (by rw [h39]) ?_
      refine ow_vals 5 (j := 23) [0, 25] [(0, .int .u8 x0), (25, .bool (decide (x0 ≤ 57)))] rfl (by kernel_rfl) ?_
      rcases if_some hF with ⟨h40, hF⟩ | ⟨h40, hF⟩
      · refine ow_slots (L' := [(0, .int .u8 x0), (25, .bool true)]) (by rw [h40]) ?_
        refine ow_vals 12 (j := 35) [2] [(2, .bool true)] rfl (by kernel_rfl) ?_
        refine ow_end rfl ?_
        refine ew_then ?_
        refine cw_ret ?_
        have hR := Option.some.inj hF
        subst hR
        exact fin1 (H1 := [imm I]) (fun w hs => sat_to [0] 0 rfl hs) rfl (rr_tmp rfl) ⟨rfl, rfl⟩
      refine ow_slots (L' := [(0, .int .u8 x0), (25, .bool false)]) (by rw [h40]) ?_
      refine ow_vals 4 (j := 27) [0, 29] [(0, .int .u8 x0), (29, .bool (x0 == 45))] rfl (by kernel_rfl) ?_
      rcases if_some hF with ⟨h41, hF⟩ | ⟨h41, hF⟩
      · refine ow_slots (L' := [(0, .int .u8 x0), (29, .bool true)]) (by rw [h41]) ?_
        refine ow_vals 8 (j := 35) [2] [(2, .bool true)] rfl (by kernel_rfl) ?_
        refine ow_end rfl ?_
        refine ew_then ?_
        refine cw_ret ?_
        have hR := Option.some.inj hF
        subst hR
        exact fin1 (H1 := [imm I]) (fun w hs => sat_to [0] 0 rfl hs) rfl (rr_tmp rfl) ⟨rfl, rfl⟩
      refine ow_slots (L' := [(0, .int .u8 x0), (29, .bool false)]) (by rw [h41]) ?_
      refine ow_vals 4 (j := 31) [0, 33] [(0, .int .u8 x0), (33, .bool (x0 == 95))] rfl (by kernel_rfl) ?_
      rcases if_some hF with ⟨h42, hF⟩ | ⟨h42, hF⟩
      · refine ow_slots (L' := [(0, .int .u8 x0), (33, .bool true)]) (by rw [h42]) ?_
        refine ow_vals 4 (j := 35) [2] [(2, .bool true)] rfl (by kernel_rfl) ?_
        refine ow_end rfl ?_
        refine ew_then ?_
        refine cw_ret ?_
        have hR := Option.some.inj hF
        subst hR
        exact fin1 (H1 := [imm I]) (fun w hs => sat_to [0] 0 rfl hs) rfl (rr_tmp rfl) ⟨rfl, rfl⟩
      refine ow_slots (L' := [(0, .int .u8 x0), (33, .bool false)]) (by rw [h42]) ?_
      refine ow_vals 4 (j := 35) [2] [(2, .bool (x0 == 46))] rfl (by kernel_rfl) ?_
      refine ow_end rfl ?_
      refine ew_then ?_
      refine cw_ret ?_
      have hR := Option.some.inj hF
      subst hR
      exact fin1 (H1 := [imm I]) (fun w hs => sat_to [0] 0 rfl hs) rfl (rr_tmp rfl) ⟨rfl, rfl⟩
    refine ow_slots (L' := [(0, .int .u8 x0), (17, .bool false), (20, .bool false)]) (by rw [h39]) ?_
    refine ow_vals 9 (j := 27) [0, 29] [(0, .int .u8 x0), (29, .bool (x0 == 45))] rfl (by kernel_rfl) ?_
    rcases if_some hF with ⟨h43, hF⟩ | ⟨h43, hF⟩
    · refine ow_slots (L' := [(0, .int .u8 x0), (29, .bool true)]) (by rw [h43]) ?_
      refine ow_vals 8 (j := 35) [2] [(2, .bool true)] rfl (by kernel_rfl) ?_
      refine ow_end rfl ?_
      refine ew_then ?_
      refine cw_ret ?_
      have hR := Option.some.inj hF
      subst hR
      exact fin1 (H1 := [imm I]) (fun w hs => sat_to [0] 0 rfl hs) rfl (rr_tmp rfl) ⟨rfl, rfl⟩
    refine ow_slots (L' := [(0, .int .u8 x0), (29, .bool false)]) (by rw [h43]) ?_
    refine ow_vals 4 (j := 31) [0, 33] [(0, .int .u8 x0), (33, .bool (x0 == 95))] rfl (by kernel_rfl) ?_
    rcases if_some hF with ⟨h44, hF⟩ | ⟨h44, hF⟩
    · refine ow_slots (L' := [(0, .int .u8 x0), (33, .bool true)]) (by rw [h44]) ?_
      refine ow_vals 4 (j := 35) [2] [(2, .bool true)] rfl (by kernel_rfl) ?_
      refine ow_end rfl ?_
      refine ew_then ?_
      refine cw_ret ?_
      have hR := Option.some.inj hF
      subst hR
      exact fin1 (H1 := [imm I]) (fun w hs => sat_to [0] 0 rfl hs) rfl (rr_tmp rfl) ⟨rfl, rfl⟩
    refine ow_slots (L' := [(0, .int .u8 x0), (33, .bool false)]) (by rw [h44]) ?_
    refine ow_vals 4 (j := 35) [2] [(2, .bool (x0 == 46))] rfl (by kernel_rfl) ?_
    refine ow_end rfl ?_
    refine ew_then ?_
    refine cw_ret ?_
    have hR := Option.some.inj hF
    subst hR
    exact fin1 (H1 := [imm I]) (fun w hs => sat_to [0] 0 rfl hs) rfl (rr_tmp rfl) ⟨rfl, rfl⟩
  refine ow_slots (L' := [(0, .int .u8 x0), (9, .bool false), (12, .bool false)]) (by rw [h37]) ?_
  refine ow_vals 8 (j := 18) [0, 17, 20] [(0, .int .u8 x0), (17, .bool false), (20, .bool (decide (x0 ≥ 48)))] rfl (by kernel_rfl) ?_
  rcases if_some hF with ⟨h45, hF⟩ | ⟨h45, hF⟩
  · refine ow_slots (L' := [(0, .int .u8 x0), (17, .bool false), (20, .bool true)]) (by rw [h45]) ?_
    refine ow_vals 5 (j := 23) [0, 25] [(0, .int .u8 x0), (25, .bool (decide (x0 ≤ 57)))] rfl (by kernel_rfl) ?_
    rcases if_some hF with ⟨h46, hF⟩ | ⟨h46, hF⟩
    · refine ow_slots (L' := [(0, .int .u8 x0), (25, .bool true)]) (by rw [h46]) ?_
      refine ow_vals 12 (j := 35) [2] [(2, .bool true)] rfl (by kernel_rfl) ?_
      refine ow_end rfl ?_
      refine ew_then ?_
      refine cw_ret ?_
      have hR := Option.some.inj hF
      subst hR
      exact fin1 (H1 := [imm I]) (fun w hs => sat_to [0] 0 rfl hs) rfl (rr_tmp rfl) ⟨rfl, rfl⟩
    refine ow_slots (L' := [(0, .int .u8 x0), (25, .bool false)]) (by rw [h46]) ?_
    refine ow_vals 4 (j := 27) [0, 29] [(0, .int .u8 x0), (29, .bool (x0 == 45))] rfl (by kernel_rfl) ?_
    rcases if_some hF with ⟨h47, hF⟩ | ⟨h47, hF⟩
    · refine ow_slots (L' := [(0, .int .u8 x0), (29, .bool true)]) (by rw [h47]) ?_
      refine ow_vals 8 (j := 35) [2] [(2, .bool true)] rfl (by kernel_rfl) ?_
      refine ow_end rfl ?_
      refine ew_then ?_
      refine cw_ret ?_
      have hR := Option.some.inj hF
      subst hR
      exact fin1 (H1 := [imm I]) (fun w hs => sat_to [0] 0 rfl hs) rfl (rr_tmp rfl) ⟨rfl, rfl⟩
    refine ow_slots (L' := [(0, .int .u8 x0), (29, .bool false)]) (by rw [h47]) ?_
    refine ow_vals 4 (j := 31) [0, 33] [(0, .int .u8 x0), (33, .bool (x0 == 95))] rfl (by kernel_rfl) ?_
    rcases if_some hF with ⟨h48, hF⟩ | ⟨h48, hF⟩
    · refine ow_slots (L' := [(0, .int .u8 x0), (33, .bool true)]) (by rw [h48]) ?_
      refine ow_vals 4 (j := 35) [2] [(2, .bool true)] rfl (by kernel_rfl) ?_
      refine ow_end rfl ?_
      refine ew_then ?_
      refine cw_ret ?_
      have hR := Option.some.inj hF
      subst hR
      exact fin1 (H1 := [imm I]) (fun w hs => sat_to [0] 0 rfl hs) rfl (rr_tmp rfl) ⟨rfl, rfl⟩
    refine ow_slots (L' := [(0, .int .u8 x0), (33, .bool false)]) (by rw [h48]) ?_
    refine ow_vals 4 (j := 35) [2] [(2, .bool (x0 == 46))] rfl (by kernel_rfl) ?_
    refine ow_end rfl ?_
    refine ew_then ?_
    refine cw_ret ?_
    have hR := Option.some.inj hF
    subst hR
    exact fin1 (H1 := [imm I]) (fun w hs => sat_to [0] 0 rfl hs) rfl (rr_tmp rfl) ⟨rfl, rfl⟩
  refine ow_slots (L' := [(0, .int .u8 x0), (17, .bool false), (20, .bool false)]) (by rw [h45]) ?_
  refine ow_vals 9 (j := 27) [0, 29] [(0, .int .u8 x0), (29, .bool (x0 == 45))] rfl (by kernel_rfl) ?_
  rcases if_some hF with ⟨h49, hF⟩ | ⟨h49, hF⟩
  · refine ow_slots (L' := [(0, .int .u8 x0), (29, .bool true)]) (by rw [h49]) ?_
    refine ow_vals 8 (j := 35) [2] [(2, .bool true)] rfl (by kernel_rfl) ?_
    refine ow_end rfl ?_
    refine ew_then ?_
    refine cw_ret ?_
    have hR := Option.some.inj hF
    subst hR
    exact fin1 (H1 := [imm I]) (fun w hs => sat_to [0] 0 rfl hs) rfl (rr_tmp rfl) ⟨rfl, rfl⟩
  refine ow_slots (L' := [(0, .int .u8 x0), (29, .bool false)]) (by rw [h49]) ?_
  refine ow_vals 4 (j := 31) [0, 33] [(0, .int .u8 x0), (33, .bool (x0 == 95))] rfl (by kernel_rfl) ?_
  rcases if_some hF with ⟨h50, hF⟩ | ⟨h50, hF⟩
  · refine ow_slots (L' := [(0, .int .u8 x0), (33, .bool true)]) (by rw [h50]) ?_
    refine ow_vals 4 (j := 35) [2] [(2, .bool true)] rfl (by kernel_rfl) ?_
    refine ow_end rfl ?_
    refine ew_then ?_
    refine cw_ret ?_
    have hR := Option.some.inj hF
    subst hR
    exact fin1 (H1 := [imm I]) (fun w hs => sat_to [0] 0 rfl hs) rfl (rr_tmp rfl) ⟨rfl, rfl⟩
  refine ow_slots (L' := [(0, .int .u8 x0), (33, .bool false)]) (by rw [h50]) ?_
  refine ow_vals 4 (j := 35) [2] [(2, .bool (x0 == 46))] rfl (by kernel_rfl) ?_
  refine ow_end rfl ?_
  refine ew_then ?_
  refine cw_ret ?_
  have hR := Option.some.inj hF
  subst hR
  exact fin1 (H1 := [imm I]) (fun w hs => sat_to [0] 0 rfl hs) rfl (rr_tmp rfl) ⟨rfl, rfl⟩


def F.paper_word.l2 (x0 : ByteArray) (x26 : Int) : Option ((Int) ⊕ ((Unit) ⊕ (Bool))) :=
  if decide (x26 < (x0.size : Int)) then (chk (0 ≤ x26 ∧ x26 < (x0.size : Int)) (Option.bind (F.paper_sign (bt x0 x26)) (fun (r29 : Bool) => if !r29 then (some (.inr (.inr (false)))) else (some (.inl (IntKind.i64.wrap (x26 + 1))))))) else (some (.inr (.inl ())))
def F.paper_word.r3 : Option (Bool) :=
  some (true)
def F.paper_word.r1 (x0 : ByteArray) : Option (Bool) :=
  thru (iter (fun x => F.paper_word.l2 x0 x) FUEL 0) (fun x => F.paper_word.r3)
def F.paper_word (x0 : ByteArray) (x1 : Int) : Option Bool :=
  thru (if seqB x0 (ByteArray.mk #[]) then (some (.inr (false))) else (if decide ((x0.size : Int) > x1) then (some (.inr (false))) else (some (.inl ())))) (fun x => F.paper_word.r1 x0)
set_option maxRecDepth 100000 in
set_option maxHeartbeats 4000000 in
theorem c_paper_word (I : Hl) (x0 : ByteArray) (x1 : Int) (res : Bool) (hF : F.paper_word x0 x1 = some res) : Tr Try.prog 41 [.string x0, .int .i64 x1] [imm I] (fun r H' => r = .bool res ∧ H' = [imm I]) := by
  unfold F.paper_word at hF
  refine tr_of_cw (fn := Try.f41) Try.func41 rfl (Nat.le_of_ble_eq_true rfl) 25 rfl fun F0 w0 => ?_
  refine cw_keep [0, 1] (L' := [(0, .string x0), (1, .int .i64 x1)]) rfl ?_
  refine cw_state (S' := SAT w0 ([imm I] ++ F0)) (fun w hs => hs) ?_
  refine cw_seq ?_
  refine cw_region ?_
  refine ow_vals 1 (j := 1) [0, 1] [(0, .string x0), (1, .int .i64 x1)] rfl (by kernel_rfl) ?_
  refine ow_end rfl ?_
  refine ew_then ?_
  obtain ⟨v21, hF, hK21⟩ := thru_some hF
  refine cw_mid (fun a w => .inl () = v21 ∧ Fr 25 [(0, .string x0)] a ∧ SAT w0 ([imm I] ++ F0) w) ?_ ?_
  · refine cw_seq ?_
    refine cw_region ?_
    refine ow_vals 3 (j := 3) [0, 1, 8] [(0, .string x0), (1, .int .i64 x1), (8, .bool (seqB x0 (ByteArray.mk #[])))] rfl (by kernel_rfl) ?_
    rcases if_some hF with ⟨h22, hF⟩ | ⟨h22, hF⟩
    · refine ow_slots (L' := [(0, .string x0), (1, .int .i64 x1), (8, .bool true)]) (by rw [h22]) ?_
      refine ow_vals 5 (j := 8) [0, 13] [(0, .string x0), (13, .bool true)] rfl (by kernel_rfl) ?_
      refine ow_end rfl ?_
      refine ew_then ?_
      refine cw_cond_t rfl rfl rfl ?_
      refine cw_seq ?_
      refine cw_region ?_
      refine ow_vals 1 (j := 1) [4] [(4, .bool false)] rfl (by kernel_rfl) ?_
      refine ow_end rfl ?_
      refine ew_then ?_
      refine cw_ret ?_
      refine ew_then_ret ?_
      have hR := Option.some.inj hF
      subst hR
      have hR := hK21
      try dsimp only [Thru] at hR
      subst hR
      exact fin1 (H1 := [imm I]) (fun w hs => sat_to [0] 0 rfl hs) rfl (rr_tmp rfl) ⟨rfl, rfl⟩
    refine ow_slots (L' := [(0, .string x0), (1, .int .i64 x1), (8, .bool false)]) (by rw [h22]) ?_
    refine ow_vals 5 (j := 8) [0, 13] [(0, .string x0), (13, .bool (decide ((x0.size : Int) > x1)))] rfl (by kernel_rfl) ?_
    refine ow_end rfl ?_
    refine ew_then ?_
    rcases if_some hF with ⟨h23, hF⟩ | ⟨h23, hF⟩
    · refine cw_cond_t rfl rfl h23 ?_
      refine cw_seq ?_
      refine cw_region ?_
      refine ow_vals 1 (j := 1) [4] [(4, .bool false)] rfl (by kernel_rfl) ?_
      refine ow_end rfl ?_
      refine ew_then ?_
      refine cw_ret ?_
      refine ew_then_ret ?_
      have hR := Option.some.inj hF
      subst hR
      have hR := hK21
      try dsimp only [Thru] at hR
      subst hR
      exact fin1 (H1 := [imm I]) (fun w hs => sat_to [0] 0 rfl hs) rfl (rr_tmp rfl) ⟨rfl, rfl⟩
    refine cw_cond_f rfl rfl h23 ?_
    refine cw_skip ?_
    have hR := Option.some.inj hF
    exact fun a w hf hs => ⟨hR, hf.keep [0], sat_to [0] 0 rfl hs⟩
  rintro a w ⟨hv, hf, hs⟩
  subst hv
  replace hF := hK21
  clear hK21
  try dsimp only [Thru] at hF
  revert a w
  show CW _ _ _ 25 [(0, .string x0)] (SAT w0 ([imm I] ++ F0))
  unfold F.paper_word.r1 at hF
  obtain ⟨v24, hF, hK24⟩ := thru_some hF
  refine cw_mid (fun a w => .inl () = v24 ∧ Fr 25 [] a ∧ SAT w0 ([imm I] ++ F0) w) ?_ ?_
  · refine cw_seq ?_
    refine cw_region ?_
    refine ow_vals 3 (j := 3) [0, 15, 16] [(0, .string x0), (15, .int .i64 (x0.size : Int)), (16, .int .i64 0)] rfl (by kernel_rfl) ?_
    refine ow_end rfl ?_
    refine ew_then ?_
    refine cw_block ?_
    refine fun a w hf hs => wp_rounds (fun k a w => ∃ (x26 : Int), iter (fun x => F.paper_word.l2 x0 x) k x26 = some v24 ∧ Fr 25 [(0, .string x0), (15, .int .i64 (x0.size : Int)), (16, .int .i64 x26)] a ∧ SAT w0 ([imm I] ++ F0) w) ?_ FUEL a w ⟨0, hF, hf.keep [0, 15, 16], sat_to [0] 0 rfl hs⟩
    clear hf hs
    clear a w hF
    rintro k a w ⟨x26, hF2, hf, hs⟩
    obtain ⟨k, r25, rfl, hF, hL25⟩ := iter_some hF2
    clear hF2
    revert a w
    show CW _ _ _ 25 [(0, .string x0), (15, .int .i64 (x0.size : Int)), (16, .int .i64 x26)] (SAT w0 ([imm I] ++ F0))
    try dsimp only at hF
    unfold F.paper_word.l2 at hF
    refine cw_seq ?_
    refine cw_region ?_
    refine ow_vals 1 (j := 1) [0, 15, 16, 17] [(0, .string x0), (15, .int .i64 (x0.size : Int)), (16, .int .i64 x26), (17, .bool (decide (x26 < (x0.size : Int))))] rfl (by kernel_rfl) ?_
    refine ow_end rfl ?_
    refine ew_then ?_
    refine cw_seq ?_
    rcases if_some hF with ⟨h27, hF⟩ | ⟨h27, hF⟩
    · refine cw_cond_t rfl rfl h27 ?_
      refine cw_skip ?_
      refine ew_then ?_
      refine cw_seq ?_
      refine cw_block ?_
      refine cw_seq ?_
      refine cw_region ?_
      refine ow_vals 2 (j := 2) [0, 5, 15, 16] [(0, .string x0), (5, .int .i64 x26), (15, .int .i64 (x0.size : Int)), (16, .int .i64 x26)] rfl (by kernel_rfl) ?_
      refine ow_end rfl ?_
      refine ew_then ?_
      refine cw_seq ?_
      refine cw_region ?_
      refine ow_vals 2 (j := 2) [0, 15, 16, 19, 20] [(0, .string x0), (15, .int .i64 (x0.size : Int)), (16, .int .i64 x26), (19, .string x0), (20, .int .i64 x26)] rfl (by kernel_rfl) ?_
      obtain ⟨h28, hF⟩ := chk_some hF
      refine ow_pw rfl (pw_quiet (v := .int .u8 (bt x0 x26)) rfl rfl rfl rfl (q_index_str rfl (by kernel_rfl) rfl rfl h28.1 h28.2) (nw_ow ?_))
      obtain ⟨r29, h30, hF⟩ := bind_some hF
      refine ow_pw rfl (pw_call (F := [] ++ F0) rfl rfl rfl rfl rfl rfl rfl (by kernel_rfl) (perm_of_pulls [0] rfl) (c_paper_sign _ (bt x0 x26) r29 h30) ?_)
      rintro _ _ ⟨rfl, rfl⟩
      refine nw_H (H' := [imm I] ++ F0) rfl (nw_ow ?_)
      refine ow_vals 1 (j := 5) [0, 15, 16, 23] [(0, .string x0), (15, .int .i64 (x0.size : Int)), (16, .int .i64 x26), (23, .bool (!r29))] rfl (by kernel_rfl) ?_
      refine ow_end rfl ?_
      refine ew_then ?_
      rcases if_some hF with ⟨h31, hF⟩ | ⟨h31, hF⟩
      · refine cw_cond_t rfl rfl h31 ?_
        refine cw_seq ?_
        refine cw_region ?_
        refine ow_vals 1 (j := 1) [4] [(4, .bool false)] rfl (by kernel_rfl) ?_
        refine ow_end rfl ?_
        refine ew_then ?_
        refine cw_ret ?_
        refine ew_blk_ret ?_
        refine ew_then_ret ?_
        refine ew_then_ret ?_
        refine ew_blk_ret ?_
        refine ew_then_ret ?_
        have hR := Option.some.inj hF
        subst hR
        have hR := hL25
        try dsimp only at hR
        subst hR
        have hR := hK24
        try dsimp only [Thru] at hR
        subst hR
        exact fin1 (H1 := [imm I]) (fun w hs => sat_to [0] 0 rfl hs) rfl (rr_tmp rfl) ⟨rfl, rfl⟩
      refine cw_cond_f rfl rfl h31 ?_
      refine cw_skip ?_
      refine ew_blk ?_
      refine ew_then ?_
      refine cw_region ?_
      refine ow_vals 2 (j := 2) [0, 15, 16] [(0, .string x0), (15, .int .i64 (x0.size : Int)), (16, .int .i64 (IntKind.i64.wrap (x26 + 1)))] rfl (by kernel_rfl) ?_
      refine ow_end rfl ?_
      have hR := Option.some.inj hF
      subst hR
      have hR := hL25
      try dsimp only at hR
      exact fun a w hf hs => ⟨k, Nat.lt_succ_self k, IntKind.i64.wrap (x26 + 1), hR, hf.keep [0, 15, 16], sat_to [0] 0 rfl hs⟩
    refine cw_cond_f rfl rfl h27 ?_
    refine cw_exit ?_
    refine ew_then_exit ?_
    refine ew_then_exit ?_
    refine ew_blk_exit ?_
    have hR := Option.some.inj hF
    subst hR
    have hR := hL25
    try dsimp only at hR
    exact fun a w hf hs => ⟨hR, hf.keep [], sat_to [0] 0 rfl hs⟩
  rintro a w ⟨hv, hf, hs⟩
  subst hv
  replace hF := hK24
  clear hK24
  try dsimp only [Thru] at hF
  revert a w
  show CW _ _ _ 25 [] (SAT w0 ([imm I] ++ F0))
  unfold F.paper_word.r3 at hF
  refine cw_seq ?_
  refine cw_region ?_
  refine ow_vals 1 (j := 1) [4] [(4, .bool true)] rfl (by kernel_rfl) ?_
  refine ow_end rfl ?_
  refine ew_then ?_
  refine cw_ret ?_
  have hR := Option.some.inj hF
  subst hR
  exact fin1 (H1 := [imm I]) (fun w hs => sat_to [0] 0 rfl hs) rfl (rr_tmp rfl) ⟨rfl, rfl⟩


def F.paper_IsID (x0 : ByteArray) : Option Bool :=
  Option.bind (F.paper_word x0 24) (fun (r21 : Bool) => some (r21))
set_option maxRecDepth 100000 in
set_option maxHeartbeats 4000000 in
theorem c_paper_IsID (I : Hl) (x0 : ByteArray) (res : Bool) (hF : F.paper_IsID x0 = some res) : Tr Try.prog 18 [.string x0] [imm I] (fun r H' => r = .bool res ∧ H' = [imm I]) := by
  unfold F.paper_IsID at hF
  refine tr_of_cw (fn := Try.f18) Try.func18 rfl (Nat.le_of_ble_eq_true rfl) 5 rfl fun F0 w0 => ?_
  refine cw_keep [0] (L' := [(0, .string x0)]) rfl ?_
  refine cw_state (S' := SAT w0 ([imm I] ++ F0)) (fun w hs => hs) ?_
  refine cw_seq ?_
  refine cw_region ?_
  refine ow_vals 1 (j := 1) [0] [(0, .string x0)] rfl (by kernel_rfl) ?_
  refine ow_end rfl ?_
  refine ew_then ?_
  refine cw_seq ?_
  refine cw_region ?_
  refine ow_vals 1 (j := 1) [3] [(3, .string x0)] rfl (by kernel_rfl) ?_
  obtain ⟨r21, h22, hF⟩ := bind_some hF
  refine ow_pw rfl (pw_call (F := [] ++ F0) rfl rfl rfl rfl rfl rfl rfl (by kernel_rfl) (perm_of_pulls [0] rfl) (c_paper_word _ x0 24 r21 h22) ?_)
  rintro _ _ ⟨rfl, rfl⟩
  refine nw_H (H' := [imm I] ++ F0) rfl (nw_ow ?_)
  refine ow_vals 1 (j := 3) [2] [(2, .bool r21)] rfl (by kernel_rfl) ?_
  refine ow_end rfl ?_
  refine ew_then ?_
  refine cw_ret ?_
  have hR := Option.some.inj hF
  subst hR
  exact fin1 (H1 := [imm I]) (fun w hs => sat_to [0] 0 rfl hs) rfl (rr_tmp rfl) ⟨rfl, rfl⟩


def F.law24_few.r1 (x0 : List ByteArray) (l23 : List ByteArray) (x27 : Int) : Option (((List ByteArray) × Int) ⊕ ((List ByteArray))) :=
  Option.bind (at_ x0 x27) (fun (y31 : ByteArray) => if decide ((y31.size : Int) > 100) then (chk (0 ≤ (0 : Int) ∧ (0 : Int) ≤ (100 : Int) ∧ (100 : Int) ≤ (y31.size : Int)) (chk (room (l23.length + ([y31.extract (0 : Int).toNat (100 : Int).toNat] : List ByteArray).length) 16) (some (.inl (l23 ++ ([y31.extract (0 : Int).toNat (100 : Int).toNat] : List ByteArray), IntKind.i64.wrap (x27 + 1)))))) else (chk (room (l23.length + ([y31] : List ByteArray).length) 16) (some (.inl (l23 ++ ([y31] : List ByteArray), IntKind.i64.wrap (x27 + 1))))))
def F.law24_few.l2 (x0 : List ByteArray) (l23 : List ByteArray) (x27 : Int) : Option (((List ByteArray) × Int) ⊕ ((List ByteArray))) :=
  thru (if decide (x27 < (x0.length : Int)) then (if decide (x27 < 30) then (some (.inl ())) else (some (.inr (.inr (l23))))) else (some (.inr (.inr (l23))))) (fun x => F.law24_few.r1 x0 l23 x27)
def F.law24_few.r3 (l47 : List ByteArray) : Option ((List ByteArray)) :=
  some (l47)
def F.law24_few (x0 : List ByteArray) : Option (List ByteArray) :=
  Option.bind (iter (fun x => F.law24_few.l2 x0 x.1 x.2) FUEL ([], 0)) (fun x => F.law24_few.r3 x)
set_option maxRecDepth 100000 in
set_option maxHeartbeats 4000000 in
theorem c_law24_few (I : Hl) (x0 : List ByteArray) (p0 : Option Addr) (c0 : Nat) (res : (List ByteArray)) (hF : F.law24_few x0 = some res) (hr0 : ro I eStr p0 c0 x0) : Tr Try.prog 8 [.slice p0 x0.length c0] [imm I] (fun r H' => ∃ (pq1 : Option Addr), ∃ (cq2 : Nat), r = .slice pq1 res.length cq2 ∧ H' = [imm I, own eStr 9 pq1 cq2 res]) := by
  unfold F.law24_few at hF
  refine tr_of_cw (fn := Try.f8) Try.func8 rfl (Nat.le_of_ble_eq_true rfl) 30 rfl fun F0 w0 => ?_
  refine cw_keep [0] (L' := [(0, .slice p0 x0.length c0)]) rfl ?_
  refine cw_state (S' := SAT w0 ([imm I] ++ F0)) (fun w hs => hs) ?_
  refine cw_seq ?_
  refine cw_region ?_
  refine ow_vals 1 (j := 1) [0] [(0, .slice p0 x0.length c0)] rfl (by kernel_rfl) ?_
  refine ow_end rfl ?_
  refine ew_then ?_
  refine cw_seq ?_
  refine cw_region ?_
  refine ow_vals 1 (j := 1) [0, 3] [(0, .slice p0 x0.length c0), (3, .slice none 0 0)] rfl (by kernel_rfl) ?_
  refine ow_end rfl ?_
  refine ew_then ?_
  obtain ⟨v21, hF, hK21⟩ := bind_some hF
  refine cw_mid (fun a w => ∃ (l47 : List ByteArray), ∃ (p48 : Option Addr), ∃ (c49 : Nat), l47 = v21 ∧ Fr 30 [(3, .slice p48 l47.length c49)] a ∧ SAT w0 ([imm I, own eStr 9 p48 c49 l47] ++ F0) w) ?_ ?_
  · refine cw_seq ?_
    refine cw_region ?_
    refine ow_vals 1 (j := 1) [0, 3, 4] [(0, .slice p0 x0.length c0), (3, .slice none 0 0), (4, .int .i64 0)] rfl (by kernel_rfl) ?_
    refine ow_end rfl ?_
    refine ew_then ?_
    refine cw_block ?_
    refine fun a w hf hs => wp_rounds (fun k a w => ∃ (l23 : List ByteArray), ∃ (x27 : Int), ∃ (p24 : Option Addr), ∃ (c25 : Nat), iter (fun x => F.law24_few.l2 x0 x.1 x.2) k (l23, x27) = some v21 ∧ Fr 30 [(0, .slice p0 x0.length c0), (3, .slice p24 l23.length c25), (4, .int .i64 x27)] a ∧ SAT w0 ([imm I, own eStr 9 p24 c25 l23] ++ F0) w) ?_ FUEL a w ⟨[], 0, none, 0, hF, hf.keep [0, 3, 4], sat_to [1, 0] 0 rfl (sat_own_nil eStr 9 hs)⟩
    clear hf hs
    clear a w hF
    rintro k a w ⟨l23, x27, p24, c25, hF2, hf, hs⟩
    obtain ⟨k, r22, rfl, hF, hL22⟩ := iter_some hF2
    clear hF2
    revert a w
    show CW _ _ _ 30 [(0, .slice p0 x0.length c0), (3, .slice p24 l23.length c25), (4, .int .i64 x27)] (SAT w0 ([imm I, own eStr 9 p24 c25 l23] ++ F0))
    try dsimp only at hF
    unfold F.law24_few.l2 at hF
    obtain ⟨v28, hF, hK28⟩ := thru_some hF
    refine cw_mid (fun a w => .inl () = v28 ∧ Fr 30 [(0, .slice p0 x0.length c0), (3, .slice p24 l23.length c25), (4, .int .i64 x27)] a ∧ SAT w0 ([imm I, own eStr 9 p24 c25 l23] ++ F0) w) ?_ ?_
    · refine cw_seq ?_
      refine cw_region ?_
      refine ow_vals 5 (j := 5) [0, 3, 4, 10] [(0, .slice p0 x0.length c0), (3, .slice p24 l23.length c25), (4, .int .i64 x27), (10, .bool (decide (x27 < (x0.length : Int))))] rfl (by kernel_rfl) ?_
      rcases if_some hF with ⟨h29, hF⟩ | ⟨h29, hF⟩
      · refine ow_slots (L' := [(0, .slice p0 x0.length c0), (3, .slice p24 l23.length c25), (4, .int .i64 x27), (10, .bool true)]) (by rw [h29]) ?_
        refine ow_vals 3 (j := 8) [0, 3, 4, 13] [(0, .slice p0 x0.length c0), (3, .slice p24 l23.length c25), (4, .int .i64 x27), (13, .bool (decide (x27 < 30)))] rfl (by kernel_rfl) ?_
        refine ow_end rfl ?_
        refine ew_then ?_
        rcases if_some hF with ⟨h30, hF⟩ | ⟨h30, hF⟩
        · refine cw_cond_t rfl rfl h30 ?_
          refine cw_skip ?_
          have hR := Option.some.inj hF
          exact fun a w hf hs => ⟨hR, hf.keep [0, 3, 4], sat_to [0, 0] 0 rfl hs⟩
        refine cw_cond_f rfl rfl h30 ?_
        refine cw_exit ?_
        refine ew_then_exit ?_
        refine ew_then_exit ?_
        refine ew_blk_exit ?_
        have hR := Option.some.inj hF
        subst hR
        have hR := hK28
        try dsimp only [Thru] at hR
        subst hR
        have hR := hL22
        try dsimp only at hR
        exact fun a w hf hs => ⟨l23, p24, c25, hR, hf.keep [3], sat_to [0, 0] 0 rfl hs⟩
      refine ow_slots (L' := [(0, .slice p0 x0.length c0), (3, .slice p24 l23.length c25), (4, .int .i64 x27), (10, .bool false)]) (by rw [h29]) ?_
      refine ow_vals 3 (j := 8) [0, 3, 4, 13] [(0, .slice p0 x0.length c0), (3, .slice p24 l23.length c25), (4, .int .i64 x27), (13, .bool false)] rfl (by kernel_rfl) ?_
      refine ow_end rfl ?_
      refine ew_then ?_
      refine cw_cond_f rfl rfl rfl ?_
      refine cw_exit ?_
      refine ew_then_exit ?_
      refine ew_then_exit ?_
      refine ew_blk_exit ?_
      have hR := Option.some.inj hF
      subst hR
      have hR := hK28
      try dsimp only [Thru] at hR
      subst hR
      have hR := hL22
      try dsimp only at hR
      exact fun a w hf hs => ⟨l23, p24, c25, hR, hf.keep [3], sat_to [0, 0] 0 rfl hs⟩
    rintro a w ⟨hv, hf, hs⟩
    subst hv
    replace hF := hK28
    clear hK28
    try dsimp only [Thru] at hF
    revert a w
    show CW _ _ _ 30 [(0, .slice p0 x0.length c0), (3, .slice p24 l23.length c25), (4, .int .i64 x27)] (SAT w0 ([imm I, own eStr 9 p24 c25 l23] ++ F0))
    unfold F.law24_few.r1 at hF
    refine cw_seq ?_
    refine cw_block ?_
    refine cw_seq ?_
    refine cw_region ?_
    refine ow_vals 2 (j := 2) [0, 3, 4, 16, 17] [(0, .slice p0 x0.length c0), (3, .slice p24 l23.length c25), (4, .int .i64 x27), (16, .slice p0 x0.length c0), (17, .int .i64 x27)] rfl (by kernel_rfl) ?_
    obtain ⟨y31, h32, hF⟩ := bind_some hF
    refine ow_pw rfl (pw_index_ro (E := 9) 1 hr0 rfl rfl rfl rfl rfl (by kernel_rfl) rfl rfl rfl h32 fun q33 h34 => nw_ow ?_)
    refine ow_pw rfl (pw_quiet (v := .string y31) rfl rfl rfl rfl (q_load_el0 0 rfl h34 rfl rfl (by kernel_rfl)) (nw_ow ?_))
    refine ow_vals 1 (j := 5) [0, 3, 4, 5] [(0, .slice p0 x0.length c0), (3, .slice p24 l23.length c25), (4, .int .i64 x27), (5, .string y31)] rfl (by kernel_rfl) ?_
    refine ow_end rfl ?_
    refine ew_then ?_
    refine cw_seq ?_
    refine cw_seq ?_
    refine cw_region ?_
    refine ow_vals 3 (j := 3) [0, 3, 4, 5, 22] [(0, .slice p0 x0.length c0), (3, .slice p24 l23.length c25), (4, .int .i64 x27), (5, .string y31), (22, .bool (decide ((y31.size : Int) > 100)))] rfl (by kernel_rfl) ?_
    refine ow_end rfl ?_
    refine ew_then ?_
    rcases if_some hF with ⟨h35, hF⟩ | ⟨h35, hF⟩
    · refine cw_cond_t rfl rfl h35 ?_
      refine cw_region ?_
      refine ow_vals 1 (j := 1) [0, 3, 4, 23] [(0, .slice p0 x0.length c0), (3, .slice p24 l23.length c25), (4, .int .i64 x27), (23, .string y31)] rfl (by kernel_rfl) ?_
      obtain ⟨h36, hF⟩ := chk_some hF
      refine ow_pw rfl (pw_quiet (v := .string (y31.extract (0 : Int).toNat (100 : Int).toNat)) rfl rfl rfl rfl (q_slice_str rfl (by kernel_rfl) rfl rfl rfl h36.1 h36.2.1 h36.2.2) (nw_ow ?_))
      refine ow_vals 1 (j := 3) [0, 3, 4, 5] [(0, .slice p0 x0.length c0), (3, .slice p24 l23.length c25), (4, .int .i64 x27), (5, .string (y31.extract (0 : Int).toNat (100 : Int).toNat))] rfl (by kernel_rfl) ?_
      refine ow_end rfl ?_
      refine ew_then ?_
      refine cw_region ?_
      refine ow_vals 2 (j := 2) [0, 4, 25, 26] [(0, .slice p0 x0.length c0), (4, .int .i64 x27), (25, .slice p24 l23.length c25), (26, .string (y31.extract (0 : Int).toNat (100 : Int).toNat))] rfl (by kernel_rfl) ?_
      refine ow_pw rfl (pw_buildSlice (E := 9) eStr ([y31.extract (0 : Int).toNat (100 : Int).toNat] : List ByteArray) rfl rfl rfl rfl rfl (by kernel_rfl) rfl (by kernel_rfl) rfl (by decide) rfl fun p37 => nw_ow ?_)
      obtain ⟨h39, hF⟩ := chk_some hF
      refine ow_pw rfl (pw_append 2 (l' := ([y31.extract (0 : Int).toNat (100 : Int).toNat] : List ByteArray)) rfl rfl rfl rfl rfl rfl (by kernel_rfl) (by kernel_rfl) rfl rfl rfl (src_own (E' := 9) 0 rfl (by kernel_rfl) rfl) rfl h39.1 h39.2 fun p40 c41 => nw_H (H' := [own eStr 9 p37 1 ([y31.extract (0 : Int).toNat (100 : Int).toNat] : List ByteArray), imm I, own eStr 9 p40 c41 (l23 ++ ([y31.extract (0 : Int).toNat (100 : Int).toNat] : List ByteArray))] ++ F0) rfl (nw_ow ?_))
      refine ow_vals 1 (j := 5) [0, 3, 4] [(0, .slice p0 x0.length c0), (3, .slice p40 (l23 ++ ([y31.extract (0 : Int).toNat (100 : Int).toNat] : List ByteArray)).length c41), (4, .int .i64 x27)] rfl (by kernel_rfl) ?_
      refine ow_end rfl ?_
      refine ew_blk ?_
      refine ew_then ?_
      refine cw_region ?_
      refine ow_vals 3 (j := 3) [0, 3, 4] [(0, .slice p0 x0.length c0), (3, .slice p40 (l23 ++ ([y31.extract (0 : Int).toNat (100 : Int).toNat] : List ByteArray)).length c41), (4, .int .i64 (IntKind.i64.wrap (x27 + 1)))] rfl (by kernel_rfl) ?_
      refine ow_end rfl ?_
      have hR := Option.some.inj hF
      subst hR
      have hR := hL22
      try dsimp only at hR
      exact fun a w hf hs => ⟨k, Nat.lt_succ_self k, l23 ++ ([y31.extract (0 : Int).toNat (100 : Int).toNat] : List ByteArray), IntKind.i64.wrap (x27 + 1), p40, c41, hR, hf.keep [0, 3, 4], sat_to [0, 0, 0] 1 rfl hs⟩
    refine cw_cond_f rfl rfl h35 ?_
    refine cw_skip ?_
    refine ew_then ?_
    refine cw_region ?_
    refine ow_vals 2 (j := 2) [0, 4, 25, 26] [(0, .slice p0 x0.length c0), (4, .int .i64 x27), (25, .slice p24 l23.length c25), (26, .string y31)] rfl (by kernel_rfl) ?_
    refine ow_pw rfl (pw_buildSlice (E := 9) eStr ([y31] : List ByteArray) rfl rfl rfl rfl rfl (by kernel_rfl) rfl (by kernel_rfl) rfl (by decide) rfl fun p42 => nw_ow ?_)
    obtain ⟨h44, hF⟩ := chk_some hF
    refine ow_pw rfl (pw_append 2 (l' := ([y31] : List ByteArray)) rfl rfl rfl rfl rfl rfl (by kernel_rfl) (by kernel_rfl) rfl rfl rfl (src_own (E' := 9) 0 rfl (by kernel_rfl) rfl) rfl h44.1 h44.2 fun p45 c46 => nw_H (H' := [own eStr 9 p42 1 ([y31] : List ByteArray), imm I, own eStr 9 p45 c46 (l23 ++ ([y31] : List ByteArray))] ++ F0) rfl (nw_ow ?_))
    refine ow_vals 1 (j := 5) [0, 3, 4] [(0, .slice p0 x0.length c0), (3, .slice p45 (l23 ++ ([y31] : List ByteArray)).length c46), (4, .int .i64 x27)] rfl (by kernel_rfl) ?_
    refine ow_end rfl ?_
    refine ew_blk ?_
    refine ew_then ?_
    refine cw_region ?_
    refine ow_vals 3 (j := 3) [0, 3, 4] [(0, .slice p0 x0.length c0), (3, .slice p45 (l23 ++ ([y31] : List ByteArray)).length c46), (4, .int .i64 (IntKind.i64.wrap (x27 + 1)))] rfl (by kernel_rfl) ?_
    refine ow_end rfl ?_
    have hR := Option.some.inj hF
    subst hR
    have hR := hL22
    try dsimp only at hR
    exact fun a w hf hs => ⟨k, Nat.lt_succ_self k, l23 ++ ([y31] : List ByteArray), IntKind.i64.wrap (x27 + 1), p45, c46, hR, hf.keep [0, 3, 4], sat_to [0, 0, 0] 1 rfl hs⟩
  rintro a w ⟨l47, p48, c49, hv, hf, hs⟩
  subst hv
  replace hF := hK21
  clear hK21
  try dsimp only at hF
  revert a w
  show CW _ _ _ 30 [(3, .slice p48 l47.length c49)] (SAT w0 ([imm I, own eStr 9 p48 c49 l47] ++ F0))
  unfold F.law24_few.r3 at hF
  refine cw_seq ?_
  refine cw_region ?_
  refine ow_vals 2 (j := 2) [2] [(2, .slice p48 l47.length c49)] rfl (by kernel_rfl) ?_
  refine ow_end rfl ?_
  refine ew_then ?_
  refine cw_ret ?_
  have hR := Option.some.inj hF
  subst hR
  exact fin1 (H1 := [imm I, own eStr 9 p48 c49 l47]) (fun w hs => sat_to [0, 0] 0 rfl hs) rfl (rr_tmp rfl) ⟨p48, c49, rfl, rfl⟩

end Go.Proofs.Ytileogoeoiafkaa
