/- What the functions compute, and that the code computes it: printed by a program of this claim (wip/tools), for the group Same. -/
import Derived.Test.YtoamnhmdhficiaaGBatch
namespace Go.Proofs.Ytoamnhmdhficiaa
set_option linter.all false
open Go Go.RowKit Go.Fw
set_option linter.unusedVariables false

def F.law30_same.l1 (x0 : List ByteArray) (x1 : List ByteArray) (x24 : Int) : Option ((Int) ⊕ ((Unit) ⊕ (Bool))) :=
  if decide (x24 < (x0.length : Int)) then (Option.bind (at_ x0 x24) (fun (y26 : ByteArray) => Option.bind (at_ x1 x24) (fun (y30 : ByteArray) => if !(seqB y26 y30) then (some (.inr (.inr (false)))) else (some (.inl (IntKind.i64.wrap (x24 + 1))))))) else (some (.inr (.inl ())))
def F.law30_same.r2 : Option (Bool) :=
  some (true)
def F.law30_same (x0 : List ByteArray) (x1 : List ByteArray) : Option Bool :=
  if (x0.length : Int) != (x1.length : Int) then (some (false)) else (thru (iter (fun x => F.law30_same.l1 x0 x1 x) FUEL 0) (fun x => F.law30_same.r2))
set_option maxRecDepth 100000 in
set_option maxHeartbeats 4000000 in
theorem c_law30_same (I : Hl) (x0 : List ByteArray) (x1 : List ByteArray) (p0 : Option Addr) (c0 : Nat) (p1 : Option Addr) (c1 : Nat) (res : Bool) (hF : F.law30_same x0 x1 = some res) (hr0 : ro I eStr p0 c0 x0) (hr1 : ro I eStr p1 c1 x1) : Tr Try.prog 19 [.slice p0 x0.length c0, .slice p1 x1.length c1] [imm I] (fun r H' => r = .bool res ∧ H' = [imm I]) := by
  unfold F.law30_same at hF
  refine tr_of_cw (fn := Try.f19) Try.func19 rfl (Nat.le_of_ble_eq_true rfl) 26 rfl fun F0 w0 => ?_
  refine cw_keep [0, 1] (L' := [(0, .slice p0 x0.length c0), (1, .slice p1 x1.length c1)]) rfl ?_
  refine cw_state (S' := SAT w0 ([imm I] ++ F0)) (fun w hs => hs) ?_
  refine cw_seq ?_
  refine cw_region ?_
  refine ow_vals 1 (j := 1) [0, 1] [(0, .slice p0 x0.length c0), (1, .slice p1 x1.length c1)] rfl (by kernel_rfl) ?_
  refine ow_end rfl ?_
  refine ew_then ?_
  refine cw_seq ?_
  refine cw_seq ?_
  refine cw_region ?_
  refine ow_vals 5 (j := 5) [0, 1, 10] [(0, .slice p0 x0.length c0), (1, .slice p1 x1.length c1), (10, .bool ((x0.length : Int) != (x1.length : Int)))] rfl (by kernel_rfl) ?_
  refine ow_end rfl ?_
  refine ew_then ?_
  rcases if_some hF with ⟨h21, hF⟩ | ⟨h21, hF⟩
  · refine cw_cond_t rfl rfl h21 ?_
    refine cw_seq ?_
    refine cw_region ?_
    refine ow_vals 1 (j := 1) [4] [(4, .bool false)] rfl (by kernel_rfl) ?_
    refine ow_end rfl ?_
    refine ew_then ?_
    refine cw_ret ?_
    refine ew_then_ret ?_
    have hR := Option.some.inj hF
    subst hR
    exact fin1 (H1 := [imm I]) (fun w hs => sat_to [0] 0 rfl hs) rfl (rr_tmp rfl) ⟨rfl, rfl⟩
  · refine cw_cond_f rfl rfl h21 ?_
    refine cw_skip ?_
    refine ew_then ?_
    obtain ⟨v22, hF, hK22⟩ := thru_some hF
    refine cw_mid (fun a w => .inl () = v22 ∧ Fr 26 [] a ∧ SAT w0 ([imm I] ++ F0) w) ?_ ?_
    · refine cw_seq ?_
      refine cw_region ?_
      refine ow_vals 1 (j := 1) [0, 1, 5] [(0, .slice p0 x0.length c0), (1, .slice p1 x1.length c1), (5, .int .i64 0)] rfl (by kernel_rfl) ?_
      refine ow_end rfl ?_
      refine ew_then ?_
      refine cw_block ?_
      refine fun a w hf hs => wp_rounds (fun k a w => ∃ (x24 : Int), iter (fun x => F.law30_same.l1 x0 x1 x) k x24 = some v22 ∧ Fr 26 [(0, .slice p0 x0.length c0), (1, .slice p1 x1.length c1), (5, .int .i64 x24)] a ∧ SAT w0 ([imm I] ++ F0) w) ?_ FUEL a w ⟨0, hF, hf.keep [0, 1, 5], sat_to [0] 0 rfl hs⟩
      clear hf hs
      clear a w hF
      rintro k a w ⟨x24, hF2, hf, hs⟩
      obtain ⟨k, r23, rfl, hF, hL23⟩ := iter_some hF2
      clear hF2
      revert a w
      show CW _ _ _ 26 [(0, .slice p0 x0.length c0), (1, .slice p1 x1.length c1), (5, .int .i64 x24)] (SAT w0 ([imm I] ++ F0))
      try dsimp only at hF
      unfold F.law30_same.l1 at hF
      refine cw_seq ?_
      refine cw_seq ?_
      refine cw_region ?_
      refine ow_vals 4 (j := 4) [0, 1, 5, 14] [(0, .slice p0 x0.length c0), (1, .slice p1 x1.length c1), (5, .int .i64 x24), (14, .bool (decide (x24 < (x0.length : Int))))] rfl (by kernel_rfl) ?_
      refine ow_end rfl ?_
      refine ew_then ?_
      rcases if_some hF with ⟨h25, hF⟩ | ⟨h25, hF⟩
      · refine cw_cond_t rfl rfl h25 ?_
        refine cw_skip ?_
        refine ew_then ?_
        refine cw_seq ?_
        refine cw_block ?_
        refine cw_seq ?_
        refine cw_open 9 (SAT w0 ([imm I])) (by kernel_rfl) (f := 9) rfl (fun w hs => sat_drew hs) ?_
        refine aw_vals [0, 1, 4, 5] (f' := 5) (m' := 51) [0, 1, 5, 17, 18, 21, 22] [(0, .slice p0 x0.length c0), (1, .slice p1 x1.length c1), (5, .int .i64 x24), (17, .slice p0 x0.length c0), (18, .int .i64 x24), (21, .slice p1 x1.length c1), (22, .int .i64 x24)] (fun _ _ _ _ _ h => calm_fin (P := Try.prog) (fn := Try.f19) _ _ _ _ _ h) (fun w hs => sat_pulls [0] (G := [] ++ F0) rfl hs) rfl (by kernel_rfl) ?_
        obtain ⟨y26, h27, hF⟩ := bind_some hF
        refine aw_index_ro (E := 9) 2 (m' := 55) 1 hr0 rfl rfl rfl rfl rfl (by kernel_rfl) (by kernel_rfl) (fun _ _ _ _ _ h => calm_fin (P := Try.prog) (fn := Try.f19) _ _ _ _ _ h) (fun w hs => sat_pulls [0] (G := [] ++ F0) rfl hs) (by kernel_rfl) rfl rfl rfl h27 fun q28 h29 => ?_
        refine aw_quiet 3 (m' := 63) (v := .string y26) 0 [] rfl rfl rfl rfl (by kernel_rfl) (by kernel_rfl) (by kernel_rfl) (fun _ _ _ _ _ h => calm_fin (P := Try.prog) (fn := Try.f19) _ _ _ _ _ h) (fun w hs => sat_pulls [0] (G := [] ++ F0) rfl hs) (q_load_el0 0 rfl h29 rfl rfl (by kernel_rfl)) ?_
        obtain ⟨y30, h31, hF⟩ := bind_some hF
        refine aw_index_ro (E := 9) 6 (m' := 127) 1 hr1 rfl rfl rfl rfl rfl (by kernel_rfl) (by kernel_rfl) (fun _ _ _ _ _ h => calm_fin (P := Try.prog) (fn := Try.f19) _ _ _ _ _ h) (fun w hs => sat_pulls [0] (G := [] ++ F0) rfl hs) (by kernel_rfl) rfl rfl rfl h31 fun q32 h33 => ?_
        refine aw_quiet 7 (m' := 255) (v := .string y30) 0 [] rfl rfl rfl rfl (by kernel_rfl) (by kernel_rfl) (by kernel_rfl) (fun _ _ _ _ _ h => calm_fin (P := Try.prog) (fn := Try.f19) _ _ _ _ _ h) (fun w hs => sat_pulls [0] (G := [] ++ F0) rfl hs) (q_load_el0 0 rfl h33 rfl rfl (by kernel_rfl)) ?_
        refine aw_vals [8] (f' := 0) (m' := 511) [0, 1, 5, 25] [(0, .slice p0 x0.length c0), (1, .slice p1 x1.length c1), (5, .int .i64 x24), (25, .bool (!(seqB y26 y30)))] (fun _ _ _ _ _ h => calm_fin (P := Try.prog) (fn := Try.f19) _ _ _ _ _ h) (fun w hs => sat_pulls [0] (G := [] ++ F0) rfl hs) rfl (by kernel_rfl) ?_
        refine aw_keep [0, 1, 5, 25] (L' := [(0, .slice p0 x0.length c0), (1, .slice p1 x1.length c1), (5, .int .i64 x24), (25, .bool (!(seqB y26 y30)))]) rfl ?_
        refine aw_end (by kernel_rfl) ?_
        refine ew_then ?_
        rcases if_some hF with ⟨h34, hF⟩ | ⟨h34, hF⟩
        · refine cw_cond_t rfl rfl h34 ?_
          refine cw_seq ?_
          refine cw_region ?_
          refine ow_vals 1 (j := 1) [4] [(4, .bool false)] rfl (by kernel_rfl) ?_
          refine ow_end rfl ?_
          refine ew_then ?_
          refine cw_ret ?_
          refine ew_blk_ret ?_
          refine ew_then_ret ?_
          refine ew_then_ret ?_
          refine ew_blk_ret ?_
          refine ew_then_ret ?_
          have hR := Option.some.inj hF
          subst hR
          have hR := hL23
          try dsimp only at hR
          subst hR
          have hR := hK22
          try dsimp only [Thru] at hR
          subst hR
          exact fin1 (H1 := [imm I]) (fun w hs => sat_to [0] 0 rfl hs) rfl (rr_tmp rfl) ⟨rfl, rfl⟩
        · refine cw_cond_f rfl rfl h34 ?_
          refine cw_skip ?_
          refine ew_blk ?_
          refine ew_then ?_
          refine cw_region ?_
          refine ow_vals 3 (j := 3) [0, 1, 5] [(0, .slice p0 x0.length c0), (1, .slice p1 x1.length c1), (5, .int .i64 (IntKind.i64.wrap (x24 + 1)))] rfl (by kernel_rfl) ?_
          refine ow_end rfl ?_
          have hR := Option.some.inj hF
          subst hR
          have hR := hL23
          try dsimp only at hR
          exact fun a w hf hs => ⟨k, Nat.lt_succ_self k, IntKind.i64.wrap (x24 + 1), hR, hf.keep [0, 1, 5], sat_to [0] 0 rfl hs⟩
      · refine cw_cond_f rfl rfl h25 ?_
        refine cw_exit ?_
        refine ew_then_exit ?_
        refine ew_then_exit ?_
        refine ew_blk_exit ?_
        have hR := Option.some.inj hF
        subst hR
        have hR := hL23
        try dsimp only at hR
        exact fun a w hf hs => ⟨hR, hf.keep [], sat_to [0] 0 rfl hs⟩
    · rintro a w ⟨hv, hf, hs⟩
      subst hv
      replace hF := hK22
      clear hK22
      try dsimp only [Thru] at hF
      revert a w
      show CW _ _ _ 26 [] (SAT w0 ([imm I] ++ F0))
      unfold F.law30_same.r2 at hF
      refine cw_seq ?_
      refine cw_region ?_
      refine ow_vals 1 (j := 1) [4] [(4, .bool true)] rfl (by kernel_rfl) ?_
      refine ow_end rfl ?_
      refine ew_then ?_
      refine cw_ret ?_
      have hR := Option.some.inj hF
      subst hR
      exact fin1 (H1 := [imm I]) (fun w hs => sat_to [0] 0 rfl hs) rfl (rr_tmp rfl) ⟨rfl, rfl⟩

end Go.Proofs.Ytoamnhmdhficiaa
