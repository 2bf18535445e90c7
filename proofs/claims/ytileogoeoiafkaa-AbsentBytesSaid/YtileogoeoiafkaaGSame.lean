/- What the functions compute, and that the code computes it: printed by a program of this claim (wip/tools), for the group Same. -/
import Derived.Test.YtileogoeoiafkaaGAbs
import Derived.Test.YtileogoeoiafkaaFwZ
namespace Go.Proofs.Ytileogoeoiafkaa
set_option linter.all false
open Go Go.RowKit Go.Fw
set_option linter.unusedVariables false

def F.law24_sameList.l1 (x0 : List ByteArray) (x1 : List ByteArray) (x24 : Int) : Option ((Int) ⊕ ((Unit) ⊕ (Bool))) :=
  if decide (x24 < (x0.length : Int)) then (Option.bind (at_ x0 x24) (fun (y26 : ByteArray) => Option.bind (at_ x1 x24) (fun (y30 : ByteArray) => if !(seqB y26 y30) then (some (.inr (.inr (false)))) else (some (.inl (IntKind.i64.wrap (x24 + 1))))))) else (some (.inr (.inl ())))
def F.law24_sameList.r2 : Option (Bool) :=
  some (true)
def F.law24_sameList (x0 : List ByteArray) (x1 : List ByteArray) : Option Bool :=
  if (x0.length : Int) != (x1.length : Int) then (some (false)) else (thru (iter (fun x => F.law24_sameList.l1 x0 x1 x) FUEL 0) (fun x => F.law24_sameList.r2))
set_option maxRecDepth 100000 in
set_option maxHeartbeats 4000000 in
theorem c_law24_sameList (I : Hl) (x0 : List ByteArray) (x1 : List ByteArray) (p0 : Option Addr) (c0 : Nat) (p1 : Option Addr) (c1 : Nat) (res : Bool) (hF : F.law24_sameList x0 x1 = some res) (hr0 : ro I eStr p0 c0 x0) (hr1 : ro I eStr p1 c1 x1) : Tr Try.prog 12 [.slice p0 x0.length c0, .slice p1 x1.length c1] [imm I] (fun r H' => r = .bool res ∧ H' = [imm I]) := by
  unfold F.law24_sameList at hF
  refine tr_of_cw (fn := Try.f12) Try.func12 rfl (Nat.le_of_ble_eq_true rfl) 26 rfl fun F0 w0 => ?_
  refine cw_keep [0, 1] (L' := [(0, .slice p0 x0.length c0), (1, .slice p1 x1.length c1)]) rfl ?_
  refine cw_state (S' := SAT w0 ([imm I] ++ F0)) (fun w hs => hs) ?_
  refine cw_seq ?_
  refine cw_region ?_
  refine ow_vals 1 (j := 1) [0, 1] [(0, .slice p0 x0.length c0), (1, .slice p1 x1.length c1)] rfl (by kernel_rfl) ?_
  refine ow_end rfl ?_
  refine ew_then ?_
  refine cw_seq ?_
  refine cw_seq ?_
  refine cw_region ?_
  refine ow_vals 5 (j := 5) [0, 1, 10] [(0, .slice p0 x0.length c0), (1, .slice p1 x1.length c1), (10, .bool ((x0.length : Int) != (x1.length : Int)))] rfl (by kernel_rfl) ?_
  refine ow_end rfl ?_
  refine ew_then ?_
  rcases if_some hF with ⟨h21, hF⟩ | ⟨h21, hF⟩
  · refine cw_cond_t rfl rfl h21 ?_
    refine cw_seq ?_
    refine cw_region ?_
    refine ow_vals 1 (j := 1) [4] [(4, .bool false)] rfl (by kernel_rfl) ?_
    refine ow_end rfl ?_
    refine ew_then ?_
    refine cw_ret ?_
    refine ew_then_ret ?_
    have hR := Option.some.inj hF
    subst hR
    exact fin1 (H1 := [imm I]) (fun w hs => sat_to [0] 0 rfl hs) rfl (rr_tmp rfl) ⟨rfl, rfl⟩
  refine cw_cond_f rfl rfl h21 ?_
  refine cw_skip ?_
  refine ew_then ?_
  obtain ⟨v22, hF, hK22⟩ := thru_some hF
  refine cw_mid (fun a w => .inl () = v22 ∧ Fr 26 [] a ∧ SAT w0 ([imm I] ++ F0) w) ?_ ?_
  · refine cw_seq ?_
    refine cw_region ?_
    refine ow_vals 1 (j := 1) [0, 1, 5] [(0, .slice p0 x0.length c0), (1, .slice p1 x1.length c1), (5, .int .i64 0)] rfl (by kernel_rfl) ?_
    refine ow_end rfl ?_
    refine ew_then ?_
    refine cw_block ?_
    refine fun a w hf hs => wp_rounds (fun k a w => ∃ (x24 : Int), iter (fun x => F.law24_sameList.l1 x0 x1 x) k x24 = some v22 ∧ Fr 26 [(0, .slice p0 x0.length c0), (1, .slice p1 x1.length c1), (5, .int .i64 x24)] a ∧ SAT w0 ([imm I] ++ F0) w) ?_ FUEL a w ⟨0, hF, hf.keep [0, 1, 5], sat_to [0] 0 rfl hs⟩
    clear hf hs
    clear a w hF
    rintro k a w ⟨x24, hF2, hf, hs⟩
    obtain ⟨k, r23, rfl, hF, hL23⟩ := iter_some hF2
    clear hF2
    revert a w
    show CW _ _ _ 26 [(0, .slice p0 x0.length c0), (1, .slice p1 x1.length c1), (5, .int .i64 x24)] (SAT w0 ([imm I] ++ F0))
    try dsimp only at hF
    unfold F.law24_sameList.l1 at hF
    refine cw_seq ?_
    refine cw_seq ?_
    refine cw_region ?_
    refine ow_vals 4 (j := 4) [0, 1, 5, 14] [(0, .slice p0 x0.length c0), (1, .slice p1 x1.length c1), (5, .int .i64 x24), (14, .bool (decide (x24 < (x0.length : Int))))] rfl (by kernel_rfl) ?_
    refine ow_end rfl ?_
    refine ew_then ?_
    rcases if_some hF with ⟨h25, hF⟩ | ⟨h25, hF⟩
    · refine cw_cond_t rfl rfl h25 ?_
      refine cw_skip ?_
      refine ew_then ?_
      refine cw_seq ?_
      refine cw_block ?_
      refine cw_seq ?_
      refine cw_open 9 (SAT w0 ([imm I])) (by kernel_rfl) (f := 9) rfl (fun w hs => sat_drew hs) ?_
      refine aw_vals [0, 1, 4, 5] (f' := 5) (m' := 51) [0, 1, 5, 17, 18, 21, 22] [(0, .slice p0 x0.length c0), (1, .slice p1 x1.length c1), (5, .int .i64 x24), (17, .slice p0 x0.length c0), (18, .int .i64 x24), (21, .slice p1 x1.length c1), (22, .int .i64 x24)] (fun _ _ _ _ _ h => calm_fin (P := Try.prog) (fn := Try.f12) _ _ _ _ _ h) (fun w hs => sat_pulls [0] (G := [] ++ F0) rfl hs) rfl (by kernel_rfl) ?_
      obtain ⟨y26, h27, hF⟩ := bind_some hF
      refine aw_index_ro (E := 9) 2 (m' := 55) 1 hr0 rfl rfl rfl rfl rfl (by kernel_rfl) (by kernel_rfl) (fun _ _ _ _ _ h => calm_fin (P := Try.prog) (fn := Try.f12) _ _ _ _ _ h) (fun w hs => sat_pulls [0] (G := [] ++ F0) rfl hs) (by kernel_rfl) rfl rfl rfl h27 fun q28 h29 => ?_
      refine aw_quiet 3 (m' := 63) (v := .string y26) 0 [] rfl rfl rfl rfl (by kernel_rfl) (by kernel_rfl) (by kernel_rfl) (fun _ _ _ _ _ h => calm_fin (P := Try.prog) (fn := Try.f12) _ _ _ _ _ h) (fun w hs => sat_pulls [0] (G := [] ++ F0) rfl hs) (q_load_el0 0 rfl h29 rfl rfl (by kernel_rfl)) ?_
      obtain ⟨y30, h31, hF⟩ := bind_some hF
      refine aw_index_ro (E := 9) 6 (m' := 127) 1 hr1 rfl rfl rfl rfl rfl (by kernel_rfl) (by kernel_rfl) (fun _ _ _ _ _ h => calm_fin (P := Try.prog) (fn := Try.f12) _ _ _ _ _ h) (fun w hs => sat_pulls [0] (G := [] ++ F0) rfl hs) (by kernel_rfl) rfl rfl rfl h31 fun q32 h33 => ?_
      refine aw_quiet 7 (m' := 255) (v := .string y30) 0 [] rfl rfl rfl rfl (by kernel_rfl) (by kernel_rfl) (by kernel_rfl) (fun _ _ _ _ _ h => calm_fin (P := Try.prog) (fn := Try.f12) _ _ _ _ _ h) (fun w hs => sat_pulls [0] (G := [] ++ F0) rfl hs) (q_load_el0 0 rfl h33 rfl rfl (by kernel_rfl)) ?_
      refine aw_vals [8] (f' := 0) (m' := 511) [0, 1, 5, 25] [(0, .slice p0 x0.length c0), (1, .slice p1 x1.length c1), (5, .int .i64 x24), (25, .bool (!(seqB y26 y30)))] (fun _ _ _ _ _ h => calm_fin (P := Try.prog) (fn := Try.f12) _ _ _ _ _ h) (fun w hs => sat_pulls [0] (G := [] ++ F0) rfl hs) rfl (by kernel_rfl) ?_
      refine aw_keep [0, 1, 5, 25] (L' := [(0, .slice p0 x0.length c0), (1, .slice p1 x1.length c1), (5, .int .i64 x24), (25, .bool (!(seqB y26 y30)))]) rfl ?_
      refine aw_end (by kernel_rfl) ?_
      refine ew_then ?_
      rcases if_some hF with ⟨h34, hF⟩ | ⟨h34, hF⟩
      · refine cw_cond_t rfl rfl h34 ?_
        refine cw_seq ?_
        refine cw_region ?_
        refine ow_vals 1 (j := 1) [4] [(4, .bool false)] rfl (by kernel_rfl) ?_
        refine ow_end rfl ?_
        refine ew_then ?_
        refine cw_ret ?_
        refine ew_blk_ret ?_
        refine ew_then_ret ?_
        refine ew_then_ret ?_
        refine ew_blk_ret ?_
        refine ew_then_ret ?_
        have hR := Option.some.inj hF
        subst hR
        have hR := hL23
        try dsimp only at hR
        subst hR
        have hR := hK22
        try dsimp only [Thru] at hR
        subst hR
        exact fin1 (H1 := [imm I]) (fun w hs => sat_to [0] 0 rfl hs) rfl (rr_tmp rfl) ⟨rfl, rfl⟩
      refine cw_cond_f rfl rfl h34 ?_
      refine cw_skip ?_
      refine ew_blk ?_
      refine ew_then ?_
      refine cw_region ?_
      refine ow_vals 3 (j := 3) [0, 1, 5] [(0, .slice p0 x0.length c0), (1, .slice p1 x1.length c1), (5, .int .i64 (IntKind.i64.wrap (x24 + 1)))] rfl (by kernel_rfl) ?_
      refine ow_end rfl ?_
      have hR := Option.some.inj hF
      subst hR
      have hR := hL23
      try dsimp only at hR
      exact fun a w hf hs => ⟨k, Nat.lt_succ_self k, IntKind.i64.wrap (x24 + 1), hR, hf.keep [0, 1, 5], sat_to [0] 0 rfl hs⟩
    refine cw_cond_f rfl rfl h25 ?_
    refine cw_exit ?_
    refine ew_then_exit ?_
    refine ew_then_exit ?_
    refine ew_blk_exit ?_
    have hR := Option.some.inj hF
    subst hR
    have hR := hL23
    try dsimp only at hR
    exact fun a w hf hs => ⟨hR, hf.keep [], sat_to [0] 0 rfl hs⟩
  rintro a w ⟨hv, hf, hs⟩
  subst hv
  replace hF := hK22
  clear hK22
  try dsimp only [Thru] at hF
  revert a w
  show CW _ _ _ 26 [] (SAT w0 ([imm I] ++ F0))
  unfold F.law24_sameList.r2 at hF
  refine cw_seq ?_
  refine cw_region ?_
  refine ow_vals 1 (j := 1) [4] [(4, .bool true)] rfl (by kernel_rfl) ?_
  refine ow_end rfl ?_
  refine ew_then ?_
  refine cw_ret ?_
  have hR := Option.some.inj hF
  subst hR
  exact fin1 (H1 := [imm I]) (fun w hs => sat_to [0] 0 rfl hs) rfl (rr_tmp rfl) ⟨rfl, rfl⟩


def F.law24_sameSide (x0 : absent_Side) (x1 : absent_Side) : Option Bool :=
  if x0.Index == x1.Index then (if seqB x0.ID x1.ID then (Option.bind (F.law24_sameList x0.Path x1.Path) (fun (r27 : Bool) => some (r27))) else (some (false))) else (some (false))
set_option maxRecDepth 100000 in
set_option maxHeartbeats 4000000 in
theorem c_law24_sameSide (I : Hl) (x0 : absent_Side) (x1 : absent_Side) (p0 : Option Addr) (c0 : Nat) (p1 : Option Addr) (c1 : Nat) (res : Bool) (hF : F.law24_sameSide x0 x1 = some res) (hr0 : ro I eStr p0 c0 x0.Path) (hr1 : ro I eStr p1 c1 x1.Path) : Tr Try.prog 42 [.agg #[.int .i64 x0.Index, .string x0.ID, .slice p0 x0.Path.length c0], .agg #[.int .i64 x1.Index, .string x1.ID, .slice p1 x1.Path.length c1]] [imm I] (fun r H' => r = .bool res ∧ H' = [imm I]) := by
  unfold F.law24_sameSide at hF
  refine tr_of_cw (fn := Try.f42) Try.func42 rfl (Nat.le_of_ble_eq_true rfl) 24 rfl fun F0 w0 => ?_
  refine cw_keep [0, 1] (L' := [(0, .agg #[.int .i64 x0.Index, .string x0.ID, .slice p0 x0.Path.length c0]), (1, .agg #[.int .i64 x1.Index, .string x1.ID, .slice p1 x1.Path.length c1])]) rfl ?_
  refine cw_state (S' := SAT w0 ([imm I] ++ F0)) (fun w hs => hs) ?_
  refine cw_seq ?_
  refine cw_region ?_
  refine ow_pw rfl (pw_box (cs := #[.int .i64 x0.Index, .string x0.ID, .slice p0 x0.Path.length c0]) rfl rfl rfl rfl rfl rfl fun b21 => nw_ow ?_)
  refine ow_pw rfl (pw_box (cs := #[.int .i64 x1.Index, .string x1.ID, .slice p1 x1.Path.length c1]) rfl rfl rfl rfl rfl rfl fun b23 => nw_ow ?_)
  refine ow_vals 1 (j := 3) [2, 3] [(2, .pointer (some ⟨b21, 0, none⟩)), (3, .pointer (some ⟨b23, 0, none⟩))] rfl (by kernel_rfl) ?_
  refine ow_end rfl ?_
  refine ew_then ?_
  refine cw_seq ?_
  refine cw_region ?_
  refine ow_vals 1 (j := 1) [2, 3, 5] [(2, .pointer (some ⟨b21, 0, none⟩)), (3, .pointer (some ⟨b23, 0, none⟩)), (5, .pointer (some ⟨b21, 0, none⟩))] rfl (by kernel_rfl) ?_
  refine ow_pw rfl (pw_quiet (v := .int .i64 x0.Index) rfl rfl rfl rfl (q_load 1 rfl rfl rfl (by kernel_rfl)) (nw_ow ?_))
  refine ow_vals 1 (j := 3) [2, 3, 6, 7] [(2, .pointer (some ⟨b21, 0, none⟩)), (3, .pointer (some ⟨b23, 0, none⟩)), (6, .int .i64 x0.Index), (7, .pointer (some ⟨b23, 0, none⟩))] rfl (by kernel_rfl) ?_
  refine ow_pw rfl (pw_quiet (v := .int .i64 x1.Index) rfl rfl rfl rfl (q_load 0 rfl rfl rfl (by kernel_rfl)) (nw_ow ?_))
  refine ow_vals 2 (j := 6) [2, 3, 10] [(2, .pointer (some ⟨b21, 0, none⟩)), (3, .pointer (some ⟨b23, 0, none⟩)), (10, .bool (x0.Index == x1.Index))] rfl (by kernel_rfl) ?_
  rcases if_some hF with ⟨h25, hF⟩ | ⟨h25, hF⟩
  · refine ow_slots (L' := [(2, .pointer (some ⟨b21, 0, none⟩)), (3, .pointer (some ⟨b23, 0, none⟩)), (10, .bool true)]) (by rw [h25]) ?_
    refine ow_vals 1 (j := 7) [2, 3, 10, 11] [(2, .pointer (some ⟨b21, 0, none⟩)), (3, .pointer (some ⟨b23, 0, none⟩)), (10, .bool true), (11, .pointer (some ⟨b21, 1, none⟩))] rfl (by kernel_rfl) ?_
    refine ow_pw rfl (pw_quiet (v := .string x0.ID) rfl rfl rfl rfl (q_load 1 rfl rfl rfl (by kernel_rfl)) (nw_ow ?_))
    refine ow_vals 1 (j := 9) [2, 3, 10, 12, 13] [(2, .pointer (some ⟨b21, 0, none⟩)), (3, .pointer (some ⟨b23, 0, none⟩)), (10, .bool true), (12, .string x0.ID), (13, .pointer (some ⟨b23, 1, none⟩))] rfl (by kernel_rfl) ?_
    refine ow_pw rfl (pw_quiet (v := .string x1.ID) rfl rfl rfl rfl (q_load 0 rfl rfl rfl (by kernel_rfl)) (nw_ow ?_))
    refine ow_vals 3 (j := 13) [2, 3, 17] [(2, .pointer (some ⟨b21, 0, none⟩)), (3, .pointer (some ⟨b23, 0, none⟩)), (17, .bool (seqB x0.ID x1.ID))] rfl (by kernel_rfl) ?_
    rcases if_some hF with ⟨h26, hF⟩ | ⟨h26, hF⟩
    · refine ow_slots (L' := [(2, .pointer (some ⟨b21, 0, none⟩)), (3, .pointer (some ⟨b23, 0, none⟩)), (17, .bool true)]) (by rw [h26]) ?_
      refine ow_vals 1 (j := 14) [3, 17, 18] [(3, .pointer (some ⟨b23, 0, none⟩)), (17, .bool true), (18, .pointer (some ⟨b21, 2, none⟩))] rfl (by kernel_rfl) ?_
      refine ow_pw rfl (pw_quiet (v := .slice p0 x0.Path.length c0) rfl rfl rfl rfl (q_load 1 rfl rfl rfl (by kernel_rfl)) (nw_ow ?_))
      refine ow_vals 1 (j := 16) [17, 19, 20] [(17, .bool true), (19, .slice p0 x0.Path.length c0), (20, .pointer (some ⟨b23, 2, none⟩))] rfl (by kernel_rfl) ?_
      refine ow_pw rfl (pw_quiet (v := .slice p1 x1.Path.length c1) rfl rfl rfl rfl (q_load 0 rfl rfl rfl (by kernel_rfl)) (nw_ow ?_))
      obtain ⟨r27, h28, hF⟩ := bind_some hF
      refine ow_pw rfl (pw_call (F := [pt b23 #[.int .i64 x1.Index, .string x1.ID, .slice p1 x1.Path.length c1] 43, pt b21 #[.int .i64 x0.Index, .string x0.ID, .slice p0 x0.Path.length c0] 43] ++ F0) rfl rfl rfl rfl rfl rfl rfl (by kernel_rfl) (perm_of_pulls [2] rfl) (c_law24_sameList _ x0.Path x1.Path p0 c0 p1 c1 r27 h28 hr0 hr1) ?_)
      rintro _ _ ⟨rfl, rfl⟩
      refine nw_H (H' := [imm I, pt b23 #[.int .i64 x1.Index, .string x1.ID, .slice p1 x1.Path.length c1] 43, pt b21 #[.int .i64 x0.Index, .string x0.ID, .slice p0 x0.Path.length c0] 43] ++ F0) rfl (nw_ow ?_)
      refine ow_vals 2 (j := 20) [4] [(4, .bool r27)] rfl (by kernel_rfl) ?_
      refine ow_end rfl ?_
      refine ew_then ?_
      refine cw_ret ?_
      have hR := Option.some.inj hF
      subst hR
      exact fin1 (H1 := [imm I]) (fun w hs => sat_to [1, 1, 0] 2 rfl hs) rfl (rr_tmp rfl) ⟨rfl, rfl⟩
    refine ow_slots (L' := [(2, .pointer (some ⟨b21, 0, none⟩)), (3, .pointer (some ⟨b23, 0, none⟩)), (17, .bool false)]) (by rw [h26]) ?_
    refine ow_vals 7 (j := 20) [4] [(4, .bool false)] rfl (by kernel_rfl) ?_
    refine ow_end rfl ?_
    refine ew_then ?_
    refine cw_ret ?_
    have hR := Option.some.inj hF
    subst hR
    exact fin1 (H1 := [imm I]) (fun w hs => sat_to [0, 0, 0] 2 rfl hs) rfl (rr_tmp rfl) ⟨rfl, rfl⟩
  refine ow_slots (L' := [(2, .pointer (some ⟨b21, 0, none⟩)), (3, .pointer (some ⟨b23, 0, none⟩)), (10, .bool false)]) (by rw [h25]) ?_
  refine ow_vals 14 (j := 20) [4] [(4, .bool false)] rfl (by kernel_rfl) ?_
  refine ow_end rfl ?_
  refine ew_then ?_
  refine cw_ret ?_
  have hR := Option.some.inj hF
  subst hR
  exact fin1 (H1 := [imm I]) (fun w hs => sat_to [0, 0, 0] 2 rfl hs) rfl (rr_tmp rfl) ⟨rfl, rfl⟩


def F.law24_same.l2 (x0 : absent_Proof) (x1 : absent_Proof) (x30 : Int) : Option ((Int) ⊕ ((Unit) ⊕ (Bool))) :=
  if decide (x30 < (x0.Sides.length : Int)) then (Option.bind (at_ x0.Sides x30) (fun (y32 : absent_Side) => Option.bind (at_ x1.Sides x30) (fun (y41 : absent_Side) => Option.bind (F.law24_sameSide y32 y41) (fun (r50 : Bool) => if !r50 then (some (.inr (.inr (false)))) else (some (.inl (IntKind.i64.wrap (x30 + 1)))))))) else (some (.inr (.inl ())))
def F.law24_same.r3 : Option (Bool) :=
  some (true)
def F.law24_same.r1 (x0 : absent_Proof) (x1 : absent_Proof) : Option (Bool) :=
  thru (iter (fun x => F.law24_same.l2 x0 x1 x) FUEL 0) (fun x => F.law24_same.r3)
def F.law24_same (x0 : absent_Proof) (x1 : absent_Proof) : Option Bool :=
  thru (if x0.Size != x1.Size then (some (.inr (false))) else (if (x0.Sides.length : Int) != (x1.Sides.length : Int) then (some (.inr (false))) else (some (.inl ())))) (fun x => F.law24_same.r1 x0 x1)
set_option maxRecDepth 100000 in
set_option maxHeartbeats 4000000 in
theorem c_law24_same (I : Hl) (x0 : absent_Proof) (x1 : absent_Proof) (p0 : Option Addr) (c0 : Nat) (p1 : Option Addr) (c1 : Nat) (res : Bool) (hF : F.law24_same x0 x1 = some res) (hr0 : roN I n_absent_Side p0 c0 x0.Sides) (hr1 : roN I n_absent_Side p1 c1 x1.Sides) : Tr Try.prog 19 [.agg #[.int .i64 x0.Size, .slice p0 x0.Sides.length c0], .agg #[.int .i64 x1.Size, .slice p1 x1.Sides.length c1]] [imm I] (fun r H' => r = .bool res ∧ H' = [imm I]) := by
  unfold F.law24_same at hF
  refine tr_of_cw (fn := Try.f19) Try.func19 rfl (Nat.le_of_ble_eq_true rfl) 39 rfl fun F0 w0 => ?_
  refine cw_keep [0, 1] (L' := [(0, .agg #[.int .i64 x0.Size, .slice p0 x0.Sides.length c0]), (1, .agg #[.int .i64 x1.Size, .slice p1 x1.Sides.length c1])]) rfl ?_
  refine cw_state (S' := SAT w0 ([imm I] ++ F0)) (fun w hs => hs) ?_
  refine cw_seq ?_
  refine cw_region ?_
  refine ow_pw rfl (pw_box (cs := #[.int .i64 x0.Size, .slice p0 x0.Sides.length c0]) rfl rfl rfl rfl rfl rfl fun b21 => nw_ow ?_)
  refine ow_pw rfl (pw_box (cs := #[.int .i64 x1.Size, .slice p1 x1.Sides.length c1]) rfl rfl rfl rfl rfl rfl fun b23 => nw_ow ?_)
  refine ow_vals 1 (j := 3) [2, 3] [(2, .pointer (some ⟨b21, 0, none⟩)), (3, .pointer (some ⟨b23, 0, none⟩))] rfl (by kernel_rfl) ?_
  refine ow_end rfl ?_
  refine ew_then ?_
  obtain ⟨v25, hF, hK25⟩ := thru_some hF
  refine cw_mid (fun a w => .inl () = v25 ∧ Fr 39 [(2, .pointer (some ⟨b21, 0, none⟩)), (3, .pointer (some ⟨b23, 0, none⟩))] a ∧ SAT w0 ([imm I, pt b23 #[.int .i64 x1.Size, .slice p1 x1.Sides.length c1] 35, pt b21 #[.int .i64 x0.Size, .slice p0 x0.Sides.length c0] 35] ++ F0) w) ?_ ?_
  · refine cw_seq ?_
    refine cw_region ?_
    refine ow_vals 1 (j := 1) [2, 3, 6] [(2, .pointer (some ⟨b21, 0, none⟩)), (3, .pointer (some ⟨b23, 0, none⟩)), (6, .pointer (some ⟨b21, 0, none⟩))] rfl (by kernel_rfl) ?_
    refine ow_pw rfl (pw_quiet (v := .int .i64 x0.Size) rfl rfl rfl rfl (q_load 1 rfl rfl rfl (by kernel_rfl)) (nw_ow ?_))
    refine ow_vals 1 (j := 3) [2, 3, 7, 8] [(2, .pointer (some ⟨b21, 0, none⟩)), (3, .pointer (some ⟨b23, 0, none⟩)), (7, .int .i64 x0.Size), (8, .pointer (some ⟨b23, 0, none⟩))] rfl (by kernel_rfl) ?_
    refine ow_pw rfl (pw_quiet (v := .int .i64 x1.Size) rfl rfl rfl rfl (q_load 0 rfl rfl rfl (by kernel_rfl)) (nw_ow ?_))
    refine ow_vals 2 (j := 6) [2, 3, 11] [(2, .pointer (some ⟨b21, 0, none⟩)), (3, .pointer (some ⟨b23, 0, none⟩)), (11, .bool (x0.Size != x1.Size))] rfl (by kernel_rfl) ?_
    rcases if_some hF with ⟨h26, hF⟩ | ⟨h26, hF⟩
    · refine ow_slots (L' := [(2, .pointer (some ⟨b21, 0, none⟩)), (3, .pointer (some ⟨b23, 0, none⟩)), (11, .bool true)]) (by rw [h26]) ?_
      refine ow_vals 8 (j := 14) [2, 3, 19] [(2, .pointer (some ⟨b21, 0, none⟩)), (3, .pointer (some ⟨b23, 0, none⟩)), (19, .bool true)] rfl (by kernel_rfl) ?_
      refine ow_end rfl ?_
      refine ew_then ?_
      refine cw_cond_t rfl rfl rfl ?_
      refine cw_seq ?_
      refine cw_region ?_
      refine ow_vals 1 (j := 1) [4] [(4, .bool false)] rfl (by kernel_rfl) ?_
      refine ow_end rfl ?_
      refine ew_then ?_
      refine cw_ret ?_
      refine ew_then_ret ?_
      have hR := Option.some.inj hF
      subst hR
      have hR := hK25
      try dsimp only [Thru] at hR
      subst hR
      exact fin1 (H1 := [imm I]) (fun w hs => sat_to [0, 0, 0] 2 rfl hs) rfl (rr_tmp rfl) ⟨rfl, rfl⟩
    refine ow_slots (L' := [(2, .pointer (some ⟨b21, 0, none⟩)), (3, .pointer (some ⟨b23, 0, none⟩)), (11, .bool false)]) (by rw [h26]) ?_
    refine ow_vals 1 (j := 7) [2, 3, 11, 12] [(2, .pointer (some ⟨b21, 0, none⟩)), (3, .pointer (some ⟨b23, 0, none⟩)), (11, .bool false), (12, .pointer (some ⟨b21, 1, none⟩))] rfl (by kernel_rfl) ?_
    refine ow_pw rfl (pw_quiet (v := .slice p0 x0.Sides.length c0) rfl rfl rfl rfl (q_load 1 rfl rfl rfl (by kernel_rfl)) (nw_ow ?_))
    refine ow_vals 2 (j := 10) [2, 3, 11, 14, 15] [(2, .pointer (some ⟨b21, 0, none⟩)), (3, .pointer (some ⟨b23, 0, none⟩)), (11, .bool false), (14, .int .i64 (x0.Sides.length : Int)), (15, .pointer (some ⟨b23, 1, none⟩))] rfl (by kernel_rfl) ?_
    refine ow_pw rfl (pw_quiet (v := .slice p1 x1.Sides.length c1) rfl rfl rfl rfl (q_load 0 rfl rfl rfl (by kernel_rfl)) (nw_ow ?_))
    refine ow_vals 3 (j := 14) [2, 3, 19] [(2, .pointer (some ⟨b21, 0, none⟩)), (3, .pointer (some ⟨b23, 0, none⟩)), (19, .bool ((x0.Sides.length : Int) != (x1.Sides.length : Int)))] rfl (by kernel_rfl) ?_
    refine ow_end rfl ?_
    refine ew_then ?_
    rcases if_some hF with ⟨h27, hF⟩ | ⟨h27, hF⟩
    · refine cw_cond_t rfl rfl h27 ?_
      refine cw_seq ?_
      refine cw_region ?_
      refine ow_vals 1 (j := 1) [4] [(4, .bool false)] rfl (by kernel_rfl) ?_
      refine ow_end rfl ?_
      refine ew_then ?_
      refine cw_ret ?_
      refine ew_then_ret ?_
      have hR := Option.some.inj hF
      subst hR
      have hR := hK25
      try dsimp only [Thru] at hR
      subst hR
      exact fin1 (H1 := [imm I]) (fun w hs => sat_to [0, 0, 0] 2 rfl hs) rfl (rr_tmp rfl) ⟨rfl, rfl⟩
    refine cw_cond_f rfl rfl h27 ?_
    refine cw_skip ?_
    have hR := Option.some.inj hF
    exact fun a w hf hs => ⟨hR, hf.keep [2, 3], sat_to [2, 0, 0] 0 rfl hs⟩
  rintro a w ⟨hv, hf, hs⟩
  subst hv
  replace hF := hK25
  clear hK25
  try dsimp only [Thru] at hF
  revert a w
  show CW _ _ _ 39 [(2, .pointer (some ⟨b21, 0, none⟩)), (3, .pointer (some ⟨b23, 0, none⟩))] (SAT w0 ([imm I, pt b23 #[.int .i64 x1.Size, .slice p1 x1.Sides.length c1] 35, pt b21 #[.int .i64 x0.Size, .slice p0 x0.Sides.length c0] 35] ++ F0))
  unfold F.law24_same.r1 at hF
  obtain ⟨v28, hF, hK28⟩ := thru_some hF
  refine cw_mid (fun a w => .inl () = v28 ∧ Fr 39 [] a ∧ SAT w0 ([imm I, pt b23 #[.int .i64 x1.Size, .slice p1 x1.Sides.length c1] 35, pt b21 #[.int .i64 x0.Size, .slice p0 x0.Sides.length c0] 35] ++ F0) w) ?_ ?_
  · refine cw_seq ?_
    refine cw_region ?_
    refine ow_vals 1 (j := 1) [2, 3, 5] [(2, .pointer (some ⟨b21, 0, none⟩)), (3, .pointer (some ⟨b23, 0, none⟩)), (5, .int .i64 0)] rfl (by kernel_rfl) ?_
    refine ow_end rfl ?_
    refine ew_then ?_
    refine cw_block ?_
    refine fun a w hf hs => wp_rounds (fun k a w => ∃ (x30 : Int), iter (fun x => F.law24_same.l2 x0 x1 x) k x30 = some v28 ∧ Fr 39 [(2, .pointer (some ⟨b21, 0, none⟩)), (3, .pointer (some ⟨b23, 0, none⟩)), (5, .int .i64 x30)] a ∧ SAT w0 ([imm I, pt b23 #[.int .i64 x1.Size, .slice p1 x1.Sides.length c1] 35, pt b21 #[.int .i64 x0.Size, .slice p0 x0.Sides.length c0] 35] ++ F0) w) ?_ FUEL a w ⟨0, hF, hf.keep [2, 3, 5], sat_to [0, 0, 0] 0 rfl hs⟩
    clear hf hs
    clear a w hF
    rintro k a w ⟨x30, hF2, hf, hs⟩
    obtain ⟨k, r29, rfl, hF, hL29⟩ := iter_some hF2
    clear hF2
    revert a w
    show CW _ _ _ 39 [(2, .pointer (some ⟨b21, 0, none⟩)), (3, .pointer (some ⟨b23, 0, none⟩)), (5, .int .i64 x30)] (SAT w0 ([imm I, pt b23 #[.int .i64 x1.Size, .slice p1 x1.Sides.length c1] 35, pt b21 #[.int .i64 x0.Size, .slice p0 x0.Sides.length c0] 35] ++ F0))
    try dsimp only at hF
    unfold F.law24_same.l2 at hF
    refine cw_seq ?_
    refine cw_seq ?_
    refine cw_region ?_
    refine ow_vals 2 (j := 2) [2, 3, 5, 20, 21] [(2, .pointer (some ⟨b21, 0, none⟩)), (3, .pointer (some ⟨b23, 0, none⟩)), (5, .int .i64 x30), (20, .int .i64 x30), (21, .pointer (some ⟨b21, 1, none⟩))] rfl (by kernel_rfl) ?_
    refine ow_pw rfl (pw_quiet (v := .slice p0 x0.Sides.length c0) rfl rfl rfl rfl (q_load 2 rfl rfl rfl (by kernel_rfl)) (nw_ow ?_))
    refine ow_vals 2 (j := 5) [2, 3, 5, 24] [(2, .pointer (some ⟨b21, 0, none⟩)), (3, .pointer (some ⟨b23, 0, none⟩)), (5, .int .i64 x30), (24, .bool (decide (x30 < (x0.Sides.length : Int))))] rfl (by kernel_rfl) ?_
    refine ow_end rfl ?_
    refine ew_then ?_
    rcases if_some hF with ⟨h31, hF⟩ | ⟨h31, hF⟩
    · refine cw_cond_t rfl rfl h31 ?_
      refine cw_skip ?_
      refine ew_then ?_
      refine cw_seq ?_
      refine cw_block ?_
      refine cw_seq ?_
      refine cw_open 12 (SAT w0 ([imm I, pt b23 #[.int .i64 x1.Size, .slice p1 x1.Sides.length c1] 35, pt b21 #[.int .i64 x0.Size, .slice p0 x0.Sides.length c0] 35])) (by kernel_rfl) (f := 12) rfl (fun w hs => sat_drew hs) ?_
      refine aw_vals [0, 2, 5, 7] (f' := 8) (m' := 165) [2, 3, 5, 27, 29, 32, 34] [(2, .pointer (some ⟨b21, 0, none⟩)), (3, .pointer (some ⟨b23, 0, none⟩)), (5, .int .i64 x30), (27, .pointer (some ⟨b21, 1, none⟩)), (29, .int .i64 x30), (32, .pointer (some ⟨b23, 1, none⟩)), (34, .int .i64 x30)] (fun _ _ _ _ _ h => calm_fin (P := Try.prog) (fn := Try.f19) _ _ _ _ _ h) (fun w hs => sat_pulls [0, 0, 0] (G := [] ++ F0) rfl hs) rfl (by kernel_rfl) ?_
      refine aw_quiet 1 (m' := 167) (v := .slice p0 x0.Sides.length c0) 0 [] rfl rfl rfl rfl (by kernel_rfl) (by kernel_rfl) (by kernel_rfl) (fun _ _ _ _ _ h => calm_fin (P := Try.prog) (fn := Try.f19) _ _ _ _ _ h) (fun w hs => sat_pulls [0, 0, 0] (G := [] ++ F0) rfl hs) (q_load 2 rfl rfl rfl (by kernel_rfl)) ?_
      obtain ⟨y32, h33, hF⟩ := bind_some hF
      refine aw_index_roN (E := 43) 3 (m' := 175) 3 hr0 rfl rfl rfl rfl rfl (by kernel_rfl) (by kernel_rfl) (fun _ _ _ _ _ h => calm_fin (P := Try.prog) (fn := Try.f19) _ _ _ _ _ h) (fun w hs => sat_pulls [0, 0, 0] (G := [] ++ F0) rfl hs) (by kernel_rfl) rfl rfl rfl h33 fun q34 h35 => ?_
      obtain ⟨r36, h37, h38, h39⟩ := (id h35)
      have h40 : ro I eStr r36.Path.p r36.Path.c y32.Path := by subst h38; exact h39
      refine aw_quiet 4 (m' := 191) (v := .agg #[.int .i64 y32.Index, .string y32.ID, .slice r36.Path.p y32.Path.length r36.Path.c]) 0 [] rfl rfl rfl rfl (by kernel_rfl) (by kernel_rfl) (by kernel_rfl) (fun _ _ _ _ _ h => calm_fin (P := Try.prog) (fn := Try.f19) _ _ _ _ _ h) (fun w hs => sat_pulls [0, 0, 0] (G := [] ++ F0) rfl hs) (q_load_el0 0 rfl h37 rfl rfl (by subst h38; kernel_rfl)) ?_
      refine aw_quiet 6 (m' := 255) (v := .slice p1 x1.Sides.length c1) 0 [] rfl rfl rfl rfl (by kernel_rfl) (by kernel_rfl) (by kernel_rfl) (fun _ _ _ _ _ h => calm_fin (P := Try.prog) (fn := Try.f19) _ _ _ _ _ h) (fun w hs => sat_pulls [0, 0, 0] (G := [] ++ F0) rfl hs) (q_load 1 rfl rfl rfl (by kernel_rfl)) ?_
      obtain ⟨y41, h42, hF⟩ := bind_some hF
      refine aw_index_roN (E := 43) 8 (m' := 511) 3 hr1 rfl rfl rfl rfl rfl (by kernel_rfl) (by kernel_rfl) (fun _ _ _ _ _ h => calm_fin (P := Try.prog) (fn := Try.f19) _ _ _ _ _ h) (fun w hs => sat_pulls [0, 0, 0] (G := [] ++ F0) rfl hs) (by kernel_rfl) rfl rfl rfl h42 fun q43 h44 => ?_
      obtain ⟨r45, h46, h47, h48⟩ := (id h44)
      have h49 : ro I eStr r45.Path.p r45.Path.c y41.Path := by subst h47; exact h48
      refine aw_quiet 9 (m' := 1023) (v := .agg #[.int .i64 y41.Index, .string y41.ID, .slice r45.Path.p y41.Path.length r45.Path.c]) 0 [] rfl rfl rfl rfl (by kernel_rfl) (by kernel_rfl) (by kernel_rfl) (fun _ _ _ _ _ h => calm_fin (P := Try.prog) (fn := Try.f19) _ _ _ _ _ h) (fun w hs => sat_pulls [0, 0, 0] (G := [] ++ F0) rfl hs) (q_load_el0 0 rfl h46 rfl rfl (by subst h47; kernel_rfl)) ?_
      obtain ⟨r50, h51, hF⟩ := bind_some hF
      refine aw_only 10 (m' := 2047) (by kernel_rfl) (by kernel_rfl) (pw_call (F := [pt b23 #[.int .i64 x1.Size, .slice p1 x1.Sides.length c1] 35, pt b21 #[.int .i64 x0.Size, .slice p0 x0.Sides.length c0] 35] ++ F0) rfl rfl rfl rfl rfl rfl rfl (by kernel_rfl) (perm_of_pulls [0] rfl) (c_law24_sameSide _ y32 y41 r36.Path.p r36.Path.c r45.Path.p r45.Path.c r50 h51 h40 h49) ?_)
      rintro _ _ ⟨rfl, rfl⟩
      refine nw_H (H' := [imm I, pt b23 #[.int .i64 x1.Size, .slice p1 x1.Sides.length c1] 35, pt b21 #[.int .i64 x0.Size, .slice p0 x0.Sides.length c0] 35] ++ F0) rfl (aw_next (fun w hs => sat_pulls [0, 0, 0] (G := [] ++ F0) rfl hs) ?_)
      refine aw_vals [11] (f' := 0) (m' := 4095) [2, 3, 5, 38] [(2, .pointer (some ⟨b21, 0, none⟩)), (3, .pointer (some ⟨b23, 0, none⟩)), (5, .int .i64 x30), (38, .bool (!r50))] (fun _ _ _ _ _ h => calm_fin (P := Try.prog) (fn := Try.f19) _ _ _ _ _ h) (fun w hs => sat_pulls [0, 0, 0] (G := [] ++ F0) rfl hs) rfl (by kernel_rfl) ?_
      refine aw_keep [2, 3, 5, 38] (L' := [(2, .pointer (some ⟨b21, 0, none⟩)), (3, .pointer (some ⟨b23, 0, none⟩)), (5, .int .i64 x30), (38, .bool (!r50))]) rfl ?_
      refine aw_end (by kernel_rfl) ?_
      refine ew_then ?_
      rcases if_some hF with ⟨h52, hF⟩ | ⟨h52, hF⟩
      · refine cw_cond_t rfl rfl h52 ?_
        refine cw_seq ?_
        refine cw_region ?_
        refine ow_vals 1 (j := 1) [4] [(4, .bool false)] rfl (by kernel_rfl) ?_
        refine ow_end rfl ?_
        refine ew_then ?_
        refine cw_ret ?_
        refine ew_blk_ret ?_
        refine ew_then_ret ?_
        refine ew_then_ret ?_
        refine ew_blk_ret ?_
        refine ew_then_ret ?_
        have hR := Option.some.inj hF
        subst hR
        have hR := hL29
        try dsimp only at hR
        subst hR
        have hR := hK28
        try dsimp only [Thru] at hR
        subst hR
        exact fin1 (H1 := [imm I]) (fun w hs => sat_to [1, 1, 0] 2 rfl hs) rfl (rr_tmp rfl) ⟨rfl, rfl⟩
      refine cw_cond_f rfl rfl h52 ?_
      refine cw_skip ?_
      refine ew_blk ?_
      refine ew_then ?_
      refine cw_region ?_
      refine ow_vals 3 (j := 3) [2, 3, 5] [(2, .pointer (some ⟨b21, 0, none⟩)), (3, .pointer (some ⟨b23, 0, none⟩)), (5, .int .i64 (IntKind.i64.wrap (x30 + 1)))] rfl (by kernel_rfl) ?_
      refine ow_end rfl ?_
      have hR := Option.some.inj hF
      subst hR
      have hR := hL29
      try dsimp only at hR
      exact fun a w hf hs => ⟨k, Nat.lt_succ_self k, IntKind.i64.wrap (x30 + 1), hR, hf.keep [2, 3, 5], sat_to [0, 0, 0] 0 rfl hs⟩
    refine cw_cond_f rfl rfl h31 ?_
    refine cw_exit ?_
    refine ew_then_exit ?_
    refine ew_then_exit ?_
    refine ew_blk_exit ?_
    have hR := Option.some.inj hF
    subst hR
    have hR := hL29
    try dsimp only at hR
    exact fun a w hf hs => ⟨hR, hf.keep [], sat_to [0, 0, 0] 0 rfl hs⟩
  rintro a w ⟨hv, hf, hs⟩
  subst hv
  replace hF := hK28
  clear hK28
  try dsimp only [Thru] at hF
  revert a w
  show CW _ _ _ 39 [] (SAT w0 ([imm I, pt b23 #[.int .i64 x1.Size, .slice p1 x1.Sides.length c1] 35, pt b21 #[.int .i64 x0.Size, .slice p0 x0.Sides.length c0] 35] ++ F0))
  unfold F.law24_same.r3 at hF
  refine cw_seq ?_
  refine cw_region ?_
  refine ow_vals 1 (j := 1) [4] [(4, .bool true)] rfl (by kernel_rfl) ?_
  refine ow_end rfl ?_
  refine ew_then ?_
  refine cw_ret ?_
  have hR := Option.some.inj hF
  subst hR
  exact fin1 (H1 := [imm I]) (fun w hs => sat_to [1, 1, 0] 2 rfl hs) rfl (rr_tmp rfl) ⟨rfl, rfl⟩

end Go.Proofs.Ytileogoeoiafkaa
