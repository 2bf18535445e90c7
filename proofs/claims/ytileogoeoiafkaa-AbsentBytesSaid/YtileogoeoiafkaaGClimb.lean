/- What the functions compute, and that the code computes it: printed by a program of this claim (wip/tools), for the group Climb. -/
import Derived.Test.YtileogoeoiafkaaGAbs
import Derived.Test.YtileogoeoiafkaaFwZ
namespace Go.Proofs.Ytileogoeoiafkaa
set_option linter.all false
open Go Go.RowKit Go.Fw
set_option linter.unusedVariables false

def F.merkle_sums.l1 (x0 : List ByteArray) (x23 : Int) : Option ((Int) ⊕ ((Unit) ⊕ (Bool))) :=
  if decide (x23 < (x0.length : Int)) then (Option.bind (at_ x0 x23) (fun (y25 : ByteArray) => if (y25.size : Int) != 32 then (some (.inr (.inr (false)))) else (some (.inl (IntKind.i64.wrap (x23 + 1)))))) else (some (.inr (.inl ())))
def F.merkle_sums.r2 : Option (Bool) :=
  some (true)
def F.merkle_sums (x0 : List ByteArray) : Option Bool :=
  thru (iter (fun x => F.merkle_sums.l1 x0 x) FUEL 0) (fun x => F.merkle_sums.r2)
set_option maxRecDepth 100000 in
set_option maxHeartbeats 4000000 in
theorem c_merkle_sums (I : Hl) (x0 : List ByteArray) (p0 : Option Addr) (c0 : Nat) (res : Bool) (hF : F.merkle_sums x0 = some res) (hr0 : ro I eStr p0 c0 x0) : Tr Try.prog 67 [.slice p0 x0.length c0] [imm I] (fun r H' => r = .bool res ∧ H' = [imm I]) := by
  unfold F.merkle_sums at hF
  refine tr_of_cw (fn := Try.f67) Try.func67 rfl (Nat.le_of_ble_eq_true rfl) 15 rfl fun F0 w0 => ?_
  refine cw_keep [0] (L' := [(0, .slice p0 x0.length c0)]) rfl ?_
  refine cw_state (S' := SAT w0 ([imm I] ++ F0)) (fun w hs => hs) ?_
  refine cw_seq ?_
  refine cw_region ?_
  refine ow_vals 1 (j := 1) [0] [(0, .slice p0 x0.length c0)] rfl (by kernel_rfl) ?_
  refine ow_end rfl ?_
  refine ew_then ?_
  obtain ⟨v21, hF, hK21⟩ := thru_some hF
  refine cw_mid (fun a w => .inl () = v21 ∧ Fr 15 [] a ∧ SAT w0 ([imm I] ++ F0) w) ?_ ?_
  · refine cw_seq ?_
    refine cw_region ?_
    refine ow_vals 3 (j := 3) [5, 6, 7] [(5, .slice p0 x0.length c0), (6, .int .i64 (x0.length : Int)), (7, .int .i64 0)] rfl (by kernel_rfl) ?_
    refine ow_end rfl ?_
    refine ew_then ?_
    refine cw_block ?_
    refine fun a w hf hs => wp_rounds (fun k a w => ∃ (x23 : Int), iter (fun x => F.merkle_sums.l1 x0 x) k x23 = some v21 ∧ Fr 15 [(5, .slice p0 x0.length c0), (6, .int .i64 (x0.length : Int)), (7, .int .i64 x23)] a ∧ SAT w0 ([imm I] ++ F0) w) ?_ FUEL a w ⟨0, hF, hf.keep [5, 6, 7], sat_to [0] 0 rfl hs⟩
    clear hf hs
    clear a w hF
    rintro k a w ⟨x23, hF2, hf, hs⟩
    obtain ⟨k, r22, rfl, hF, hL22⟩ := iter_some hF2
    clear hF2
    revert a w
    show CW _ _ _ 15 [(5, .slice p0 x0.length c0), (6, .int .i64 (x0.length : Int)), (7, .int .i64 x23)] (SAT w0 ([imm I] ++ F0))
    try dsimp only at hF
    unfold F.merkle_sums.l1 at hF
    refine cw_seq ?_
    refine cw_region ?_
    refine ow_vals 1 (j := 1) [5, 6, 7, 8] [(5, .slice p0 x0.length c0), (6, .int .i64 (x0.length : Int)), (7, .int .i64 x23), (8, .bool (decide (x23 < (x0.length : Int))))] rfl (by kernel_rfl) ?_
    refine ow_end rfl ?_
    refine ew_then ?_
    refine cw_seq ?_
    rcases if_some hF with ⟨h24, hF⟩ | ⟨h24, hF⟩
    · refine cw_cond_t rfl rfl h24 ?_
      refine cw_skip ?_
      refine ew_then ?_
      refine cw_seq ?_
      refine cw_block ?_
      refine cw_seq ?_
      refine cw_region ?_
      obtain ⟨y25, h26, hF⟩ := bind_some hF
      refine ow_pw rfl (pw_index_ro (E := 9) 1 hr0 rfl rfl rfl rfl rfl (by kernel_rfl) rfl rfl rfl h26 fun q27 h28 => nw_ow ?_)
      refine ow_pw rfl (pw_quiet (v := .string y25) rfl rfl rfl rfl (q_load_el0 0 rfl h28 rfl rfl (by kernel_rfl)) (nw_ow ?_))
      refine ow_vals 1 (j := 3) [4, 5, 6, 7] [(4, .string y25), (5, .slice p0 x0.length c0), (6, .int .i64 (x0.length : Int)), (7, .int .i64 x23)] rfl (by kernel_rfl) ?_
      refine ow_end rfl ?_
      refine ew_then ?_
      refine cw_seq ?_
      refine cw_region ?_
      refine ow_vals 3 (j := 3) [5, 6, 7, 13] [(5, .slice p0 x0.length c0), (6, .int .i64 (x0.length : Int)), (7, .int .i64 x23), (13, .bool ((y25.size : Int) != 32))] rfl (by kernel_rfl) ?_
      refine ow_end rfl ?_
      refine ew_then ?_
      rcases if_some hF with ⟨h29, hF⟩ | ⟨h29, hF⟩
      · refine cw_cond_t rfl rfl h29 ?_
        refine cw_seq ?_
        refine cw_region ?_
        refine ow_vals 1 (j := 1) [2] [(2, .bool false)] rfl (by kernel_rfl) ?_
        refine ow_end rfl ?_
        refine ew_then ?_
        refine cw_ret ?_
        refine ew_blk_ret ?_
        refine ew_then_ret ?_
        refine ew_then_ret ?_
        refine ew_blk_ret ?_
        refine ew_then_ret ?_
        have hR := Option.some.inj hF
        subst hR
        have hR := hL22
        try dsimp only at hR
        subst hR
        have hR := hK21
        try dsimp only [Thru] at hR
        subst hR
        exact fin1 (H1 := [imm I]) (fun w hs => sat_to [0] 0 rfl hs) rfl (rr_tmp rfl) ⟨rfl, rfl⟩
      refine cw_cond_f rfl rfl h29 ?_
      refine cw_skip ?_
      refine ew_blk ?_
      refine ew_then ?_
      refine cw_region ?_
      refine ow_vals 2 (j := 2) [5, 6, 7] [(5, .slice p0 x0.length c0), (6, .int .i64 (x0.length : Int)), (7, .int .i64 (IntKind.i64.wrap (x23 + 1)))] rfl (by kernel_rfl) ?_
      refine ow_end rfl ?_
      have hR := Option.some.inj hF
      subst hR
      have hR := hL22
      try dsimp only at hR
      exact fun a w hf hs => ⟨k, Nat.lt_succ_self k, IntKind.i64.wrap (x23 + 1), hR, hf.keep [5, 6, 7], sat_to [0] 0 rfl hs⟩
    refine cw_cond_f rfl rfl h24 ?_
    refine cw_exit ?_
    refine ew_then_exit ?_
    refine ew_then_exit ?_
    refine ew_blk_exit ?_
    have hR := Option.some.inj hF
    subst hR
    have hR := hL22
    try dsimp only at hR
    exact fun a w hf hs => ⟨hR, hf.keep [], sat_to [0] 0 rfl hs⟩
  rintro a w ⟨hv, hf, hs⟩
  subst hv
  replace hF := hK21
  clear hK21
  try dsimp only [Thru] at hF
  revert a w
  show CW _ _ _ 15 [] (SAT w0 ([imm I] ++ F0))
  unfold F.merkle_sums.r2 at hF
  refine cw_seq ?_
  refine cw_region ?_
  refine ow_vals 1 (j := 1) [2] [(2, .bool true)] rfl (by kernel_rfl) ?_
  refine ow_end rfl ?_
  refine ew_then ?_
  refine cw_ret ?_
  have hR := Option.some.inj hF
  subst hR
  exact fin1 (H1 := [imm I]) (fun w hs => sat_to [0] 0 rfl hs) rfl (rr_tmp rfl) ⟨rfl, rfl⟩


def F.merkle_climb : Nat → ByteArray → Int → Int → (List ByteArray) → mill_Mill → Option (ByteArray × Bool × mill_Mill)
  | 0, _, _, _, _, _ => none
  | k + 1, x1, x2, x3, x4, m0 => if x3 == 1 then (some ((x1, (x4.length : Int) == 0, m0))) else (if (x4.length : Int) == 0 then (some (((ByteArray.mk #[]), false, m0))) else (Option.bind (at_ x4 (IntKind.i64.wrap ((x4.length : Int) - 1))) (fun (y23 : ByteArray) => chk (0 ≤ (0 : Int) ∧ (0 : Int) ≤ (IntKind.i64.wrap ((x4.length : Int) - 1)) ∧ (IntKind.i64.wrap ((x4.length : Int) - 1)) ≤ (x4.length : Int)) (Option.bind (F.merkle_split x3) (fun (r31 : Int) => if decide (x2 < r31) then (Option.bind ((F.merkle_climb k) x1 x2 r31 ((x4.drop (0 : Int).toNat).take ((IntKind.i64.wrap ((x4.length : Int) - 1)).toNat - (0 : Int).toNat)) m0) (fun (r34 : ByteArray × Bool × mill_Mill) => Option.bind (F.pledge_Node r34.1 y23 r34.2.2) (fun (r38 : ByteArray × mill_Mill) => some ((r38.1, r34.2.1, r38.2))))) else (Option.bind ((F.merkle_climb k) x1 (IntKind.i64.wrap (x2 - r31)) (IntKind.i64.wrap (x3 - r31)) ((x4.drop (0 : Int).toNat).take ((IntKind.i64.wrap ((x4.length : Int) - 1)).toNat - (0 : Int).toNat)) m0) (fun (r42 : ByteArray × Bool × mill_Mill) => Option.bind (F.pledge_Node y23 r42.1 r42.2.2) (fun (r46 : ByteArray × mill_Mill) => some ((r46.1, r42.2.1, r46.2))))))))))
set_option maxRecDepth 100000 in
set_option maxHeartbeats 4000000 in
theorem c_merkle_climb (k : Nat) : ∀ (I : Hl) (x1 : ByteArray) (x2 : Int) (x3 : Int) (x4 : List ByteArray) (m0 : mill_Mill) (p0 : Option Addr) (c0 : Nat) (p1 : Nat) (p2 : Nat) (b0 : Nat) (res : ByteArray × Bool × mill_Mill) (hF : F.merkle_climb k x1 x2 x3 x4 m0 = some res) (hr0 : ro I eStr p0 c0 x4), Tr Try.prog 68 [.pointer (some ⟨b0, 0, none⟩), .string x1, .int .i64 x2, .int .i64 x3, .slice p0 x4.length c0] [imm I, pt b0 #[.map (some p1), .map (some p2), .string m0.twins_.e0, .string m0.twins_.e1, .bool m0.found_, .bool m0.full_, .int .i64 m0.sums_] 64, mpo kStr kStr p1 m0.table_, mpo kStr kStr p2 m0.notes_] (fun r H' => ∃ (bq1 : Nat), ∃ (bq3 : Nat), r = .tuple #[.string res.1, .bool res.2.1] ∧ H' = [imm I, pt b0 #[.map (some bq1), .map (some bq3), .string res.2.2.twins_.e0, .string res.2.2.twins_.e1, .bool res.2.2.found_, .bool res.2.2.full_, .int .i64 res.2.2.sums_] 64, mpo kStr kStr bq1 res.2.2.table_, mpo kStr kStr bq3 res.2.2.notes_]) := by
  induction k with
  | zero => intro I x1 x2 x3 x4 m0 p0 c0 p1 p2 b0 res hF hr0; cases hF
  | succ k ih =>
    intro I x1 x2 x3 x4 m0 p0 c0 p1 p2 b0 res hF hr0
    rw [F.merkle_climb] at hF
    refine tr_of_cw (fn := Try.f68) Try.func68 rfl (Nat.le_of_ble_eq_true rfl) 76 rfl fun F0 w0 => ?_
    refine cw_keep [0, 1, 2, 3, 4] (L' := [(0, .pointer (some ⟨b0, 0, none⟩)), (1, .string x1), (2, .int .i64 x2), (3, .int .i64 x3), (4, .slice p0 x4.length c0)]) rfl ?_
    refine cw_state (S' := SAT w0 ([imm I, pt b0 #[.map (some p1), .map (some p2), .string m0.twins_.e0, .string m0.twins_.e1, .bool m0.found_, .bool m0.full_, .int .i64 m0.sums_] 64, mpo kStr kStr p1 m0.table_, mpo kStr kStr p2 m0.notes_] ++ F0)) (fun w hs => hs) ?_
    refine cw_seq ?_
    refine cw_region ?_
    refine ow_vals 2 (j := 2) [0, 1, 2, 3, 4] [(0, .pointer (some ⟨b0, 0, none⟩)), (1, .string x1), (2, .int .i64 x2), (3, .int .i64 x3), (4, .slice p0 x4.length c0)] rfl (by kernel_rfl) ?_
    refine ow_end rfl ?_
    refine ew_then ?_
    refine cw_seq ?_
    refine cw_seq ?_
    refine cw_region ?_
    refine ow_vals 2 (j := 2) [0, 1, 2, 3, 4, 20] [(0, .pointer (some ⟨b0, 0, none⟩)), (1, .string x1), (2, .int .i64 x2), (3, .int .i64 x3), (4, .slice p0 x4.length c0), (20, .bool (x3 == 1))] rfl (by kernel_rfl) ?_
    refine ow_end rfl ?_
    refine ew_then ?_
    rcases if_some hF with ⟨h21, hF⟩ | ⟨h21, hF⟩
    · refine cw_cond_t rfl rfl h21 ?_
      refine cw_seq ?_
      refine cw_region ?_
      refine ow_vals 6 (j := 6) [10, 11] [(10, .string x1), (11, .bool ((x4.length : Int) == 0))] rfl (by kernel_rfl) ?_
      refine ow_end rfl ?_
      refine ew_then ?_
      refine cw_ret ?_
      refine ew_then_ret ?_
      have hR := Option.some.inj hF
      subst hR
      exact fin2 (H1 := [imm I, pt b0 #[.map (some p1), .map (some p2), .string m0.twins_.e0, .string m0.twins_.e1, .bool m0.found_, .bool m0.full_, .int .i64 m0.sums_] 64, mpo kStr kStr p1 m0.table_, mpo kStr kStr p2 m0.notes_]) (fun w hs => sat_to [0, 0, 0, 0] 0 rfl hs) rfl (rr_tmp rfl) (rr_tmp rfl) ⟨p1, p2, rfl, rfl⟩
    refine cw_cond_f rfl rfl h21 ?_
    refine cw_skip ?_
    refine ew_then ?_
    refine cw_seq ?_
    refine cw_seq ?_
    refine cw_region ?_
    refine ow_vals 3 (j := 3) [0, 1, 2, 3, 4, 27] [(0, .pointer (some ⟨b0, 0, none⟩)), (1, .string x1), (2, .int .i64 x2), (3, .int .i64 x3), (4, .slice p0 x4.length c0), (27, .bool ((x4.length : Int) == 0))] rfl (by kernel_rfl) ?_
    refine ow_end rfl ?_
    refine ew_then ?_
    rcases if_some hF with ⟨h22, hF⟩ | ⟨h22, hF⟩
    · refine cw_cond_t rfl rfl h22 ?_
      refine cw_seq ?_
      refine cw_region ?_
      refine ow_vals 2 (j := 2) [10, 11] [(10, .string (ByteArray.mk #[])), (11, .bool false)] rfl (by kernel_rfl) ?_
      refine ow_end rfl ?_
      refine ew_then ?_
      refine cw_ret ?_
      refine ew_then_ret ?_
      have hR := Option.some.inj hF
      subst hR
      exact fin2 (H1 := [imm I, pt b0 #[.map (some p1), .map (some p2), .string m0.twins_.e0, .string m0.twins_.e1, .bool m0.found_, .bool m0.full_, .int .i64 m0.sums_] 64, mpo kStr kStr p1 m0.table_, mpo kStr kStr p2 m0.notes_]) (fun w hs => sat_to [0, 0, 0, 0] 0 rfl hs) rfl (rr_tmp rfl) (rr_tmp rfl) ⟨p1, p2, rfl, rfl⟩
    refine cw_cond_f rfl rfl h22 ?_
    refine cw_skip ?_
    refine ew_then ?_
    refine cw_seq ?_
    refine cw_open 16 (SAT w0 ([imm I, pt b0 #[.map (some p1), .map (some p2), .string m0.twins_.e0, .string m0.twins_.e1, .bool m0.found_, .bool m0.full_, .int .i64 m0.sums_] 64, mpo kStr kStr p1 m0.table_, mpo kStr kStr p2 m0.notes_])) (by kernel_rfl) (f := 16) rfl (fun w hs => sat_drew hs) ?_
    refine aw_vals [0, 2, 3, 4, 5, 8, 9, 10, 11] (f' := 7) (m' := 3901) [0, 1, 2, 3, 28, 30, 33, 36, 39] [(0, .pointer (some ⟨b0, 0, none⟩)), (1, .string x1), (2, .int .i64 x2), (3, .int .i64 x3), (28, .int .i64 x3), (30, .slice p0 x4.length c0), (33, .int .i64 (IntKind.i64.wrap ((x4.length : Int) - 1))), (36, .slice p0 x4.length c0), (39, .int .i64 (IntKind.i64.wrap ((x4.length : Int) - 1)))] (fun _ _ _ _ _ h => calm_fin (P := Try.prog) (fn := Try.f68) _ _ _ _ _ h) (fun w hs => sat_pulls [0, 0, 0, 0] (G := [] ++ F0) rfl hs) rfl (by kernel_rfl) ?_
    obtain ⟨y23, h24, hF⟩ := bind_some hF
    refine aw_index_ro (E := 9) 6 (m' := 3965) 1 hr0 rfl rfl rfl rfl rfl (by kernel_rfl) (by kernel_rfl) (fun _ _ _ _ _ h => calm_fin (P := Try.prog) (fn := Try.f68) _ _ _ _ _ h) (fun w hs => sat_pulls [0, 0, 0, 0] (G := [] ++ F0) rfl hs) (by kernel_rfl) rfl rfl rfl h24 fun q25 h26 => ?_
    refine aw_quiet 7 (m' := 4093) (v := .string y23) 0 [] rfl rfl rfl rfl (by kernel_rfl) (by kernel_rfl) (by kernel_rfl) (fun _ _ _ _ _ h => calm_fin (P := Try.prog) (fn := Try.f68) _ _ _ _ _ h) (fun w hs => sat_pulls [0, 0, 0, 0] (G := [] ++ F0) rfl hs) (q_load_el0 0 rfl h26 rfl rfl (by kernel_rfl)) ?_
    obtain ⟨h27, hF⟩ := chk_some hF
    refine aw_slice_ro (E := 9) 12 (m' := 8189) 1 hr0 rfl rfl rfl rfl rfl (by kernel_rfl) (by kernel_rfl) (fun _ _ _ _ _ h => calm_fin (P := Try.prog) (fn := Try.f68) _ _ _ _ _ h) (fun w hs => sat_pulls [0, 0, 0, 0] (G := [] ++ F0) rfl hs) (by kernel_rfl) rfl rfl rfl rfl h27 fun p28 c29 h30 => ?_
    obtain ⟨r31, h32, hF⟩ := bind_some hF
    refine aw_only 1 (m' := 8191) (by kernel_rfl) (by kernel_rfl) (pw_call (F := [pt b0 #[.map (some p1), .map (some p2), .string m0.twins_.e0, .string m0.twins_.e1, .bool m0.found_, .bool m0.full_, .int .i64 m0.sums_] 64, mpo kStr kStr p1 m0.table_, mpo kStr kStr p2 m0.notes_] ++ F0) rfl rfl rfl rfl rfl rfl rfl (by kernel_rfl) (perm_of_pulls [0] rfl) (c_merkle_split _ x3 r31 h32) ?_)
    rintro _ _ ⟨rfl, rfl⟩
    refine nw_H (H' := [imm I, pt b0 #[.map (some p1), .map (some p2), .string m0.twins_.e0, .string m0.twins_.e1, .bool m0.found_, .bool m0.full_, .int .i64 m0.sums_] 64, mpo kStr kStr p1 m0.table_, mpo kStr kStr p2 m0.notes_] ++ F0) rfl (aw_next (fun w hs => sat_pulls [0, 0, 0, 0] (G := [] ++ F0) rfl hs) ?_)
    refine aw_vals [13, 14, 15] (f' := 0) (m' := 65535) [0, 1, 2, 3, 12, 13, 14] [(0, .pointer (some ⟨b0, 0, none⟩)), (1, .string x1), (2, .int .i64 x2), (3, .int .i64 x3), (12, .int .i64 r31), (13, .string y23), (14, .slice p28 ((x4.drop (0 : Int).toNat).take ((IntKind.i64.wrap ((x4.length : Int) - 1)).toNat - (0 : Int).toNat)).length c29)] (fun _ _ _ _ _ h => calm_fin (P := Try.prog) (fn := Try.f68) _ _ _ _ _ h) (fun w hs => sat_pulls [0, 0, 0, 0] (G := [] ++ F0) rfl hs) rfl (by kernel_rfl) ?_
    refine aw_keep [0, 1, 2, 3, 12, 13, 14] (L' := [(0, .pointer (some ⟨b0, 0, none⟩)), (1, .string x1), (2, .int .i64 x2), (3, .int .i64 x3), (12, .int .i64 r31), (13, .string y23), (14, .slice p28 ((x4.drop (0 : Int).toNat).take ((IntKind.i64.wrap ((x4.length : Int) - 1)).toNat - (0 : Int).toNat)).length c29)]) rfl ?_
    refine aw_end (by kernel_rfl) ?_
    refine ew_then ?_
    refine cw_seq ?_
    refine cw_seq ?_
    refine cw_region ?_
    refine ow_vals 3 (j := 3) [0, 1, 2, 3, 12, 13, 14, 43] [(0, .pointer (some ⟨b0, 0, none⟩)), (1, .string x1), (2, .int .i64 x2), (3, .int .i64 x3), (12, .int .i64 r31), (13, .string y23), (14, .slice p28 ((x4.drop (0 : Int).toNat).take ((IntKind.i64.wrap ((x4.length : Int) - 1)).toNat - (0 : Int).toNat)).length c29), (43, .bool (decide (x2 < r31)))] rfl (by kernel_rfl) ?_
    refine ow_end rfl ?_
    refine ew_then ?_
    rcases if_some hF with ⟨h33, hF⟩ | ⟨h33, hF⟩
    · refine cw_cond_t rfl rfl h33 ?_
      refine cw_seq ?_
      refine cw_region ?_
      refine ow_vals 5 (j := 5) [0, 13, 45, 46, 47, 48, 49] [(0, .pointer (some ⟨b0, 0, none⟩)), (13, .string y23), (45, .pointer (some ⟨b0, 0, none⟩)), (46, .string x1), (47, .int .i64 x2), (48, .int .i64 r31), (49, .slice p28 ((x4.drop (0 : Int).toNat).take ((IntKind.i64.wrap ((x4.length : Int) - 1)).toNat - (0 : Int).toNat)).length c29)] rfl (by kernel_rfl) ?_
      obtain ⟨r34, h35, hF⟩ := bind_some hF
      refine ow_pw rfl (pw_call (F := [] ++ F0) rfl rfl rfl rfl rfl rfl rfl (by kernel_rfl) (perm_of_pulls [0, 0, 0, 0] rfl) (ih _ x1 x2 r31 ((x4.drop (0 : Int).toNat).take ((IntKind.i64.wrap ((x4.length : Int) - 1)).toNat - (0 : Int).toNat)) m0 p28 c29 p1 p2 b0 r34 h35 h30) ?_)
      rintro _ _ ⟨r34_b1, r34_b3, rfl, rfl⟩
      refine nw_H (H' := [imm I, pt b0 #[.map (some r34_b1), .map (some r34_b3), .string r34.2.2.twins_.e0, .string r34.2.2.twins_.e1, .bool r34.2.2.found_, .bool r34.2.2.full_, .int .i64 r34.2.2.sums_] 64, mpo kStr kStr r34_b1 r34.2.2.table_, mpo kStr kStr r34_b3 r34.2.2.notes_] ++ F0) rfl (nw_ow ?_)
      refine ow_vals 5 (j := 11) [0, 13, 15, 16] [(0, .pointer (some ⟨b0, 0, none⟩)), (13, .string y23), (15, .string r34.1), (16, .bool r34.2.1)] rfl (by kernel_rfl) ?_
      refine ow_end rfl ?_
      refine ew_then ?_
      refine cw_seq ?_
      refine cw_region ?_
      refine ow_vals 3 (j := 3) [16, 53, 54, 55] [(16, .bool r34.2.1), (53, .pointer (some ⟨b0, 0, none⟩)), (54, .string r34.1), (55, .string y23)] rfl (by kernel_rfl) ?_
      obtain ⟨r38, h39, hF⟩ := bind_some hF
      refine ow_pw rfl (pw_call (F := [] ++ F0) rfl rfl rfl rfl rfl rfl rfl (by kernel_rfl) (perm_of_pulls [0, 0, 0, 0] rfl) (c_pledge_Node _ r34.1 y23 r34.2.2 r34_b1 r34_b3 b0 r38 h39) ?_)
      rintro _ _ ⟨r38_b1, r38_b3, rfl, rfl⟩
      refine nw_H (H' := [imm I, pt b0 #[.map (some r38_b1), .map (some r38_b3), .string r38.2.twins_.e0, .string r38.2.twins_.e1, .bool r38.2.found_, .bool r38.2.full_, .int .i64 r38.2.sums_] 64, mpo kStr kStr r38_b1 r38.2.table_, mpo kStr kStr r38_b3 r38.2.notes_] ++ F0) rfl (nw_ow ?_)
      refine ow_vals 3 (j := 7) [10, 11] [(10, .string r38.1), (11, .bool r34.2.1)] rfl (by kernel_rfl) ?_
      refine ow_end rfl ?_
      refine ew_then ?_
      refine cw_ret ?_
      refine ew_then_ret ?_
      have hR := Option.some.inj hF
      subst hR
      exact fin2 (H1 := [imm I, pt b0 #[.map (some r38_b1), .map (some r38_b3), .string r38.2.twins_.e0, .string r38.2.twins_.e1, .bool r38.2.found_, .bool r38.2.full_, .int .i64 r38.2.sums_] 64, mpo kStr kStr r38_b1 r38.2.table_, mpo kStr kStr r38_b3 r38.2.notes_]) (fun w hs => sat_to [0, 0, 0, 0] 0 rfl hs) rfl (rr_tmp rfl) (rr_tmp rfl) ⟨r38_b1, r38_b3, rfl, rfl⟩
    refine cw_cond_f rfl rfl h33 ?_
    refine cw_skip ?_
    refine ew_then ?_
    refine cw_seq ?_
    refine cw_region ?_
    refine ow_vals 9 (j := 9) [0, 13, 59, 60, 63, 66, 67] [(0, .pointer (some ⟨b0, 0, none⟩)), (13, .string y23), (59, .pointer (some ⟨b0, 0, none⟩)), (60, .string x1), (63, .int .i64 (IntKind.i64.wrap (x2 - r31))), (66, .int .i64 (IntKind.i64.wrap (x3 - r31))), (67, .slice p28 ((x4.drop (0 : Int).toNat).take ((IntKind.i64.wrap ((x4.length : Int) - 1)).toNat - (0 : Int).toNat)).length c29)] rfl (by kernel_rfl) ?_
    obtain ⟨r42, h43, hF⟩ := bind_some hF
    refine ow_pw rfl (pw_call (F := [] ++ F0) rfl rfl rfl rfl rfl rfl rfl (by kernel_rfl) (perm_of_pulls [0, 0, 0, 0] rfl) (ih _ x1 (IntKind.i64.wrap (x2 - r31)) (IntKind.i64.wrap (x3 - r31)) ((x4.drop (0 : Int).toNat).take ((IntKind.i64.wrap ((x4.length : Int) - 1)).toNat - (0 : Int).toNat)) m0 p28 c29 p1 p2 b0 r42 h43 h30) ?_)
    rintro _ _ ⟨r42_b1, r42_b3, rfl, rfl⟩
    refine nw_H (H' := [imm I, pt b0 #[.map (some r42_b1), .map (some r42_b3), .string r42.2.2.twins_.e0, .string r42.2.2.twins_.e1, .bool r42.2.2.found_, .bool r42.2.2.full_, .int .i64 r42.2.2.sums_] 64, mpo kStr kStr r42_b1 r42.2.2.table_, mpo kStr kStr r42_b3 r42.2.2.notes_] ++ F0) rfl (nw_ow ?_)
    refine ow_vals 5 (j := 15) [0, 13, 17, 18] [(0, .pointer (some ⟨b0, 0, none⟩)), (13, .string y23), (17, .string r42.1), (18, .bool r42.2.1)] rfl (by kernel_rfl) ?_
    refine ow_end rfl ?_
    refine ew_then ?_
    refine cw_seq ?_
    refine cw_region ?_
    refine ow_vals 3 (j := 3) [18, 71, 72, 73] [(18, .bool r42.2.1), (71, .pointer (some ⟨b0, 0, none⟩)), (72, .string y23), (73, .string r42.1)] rfl (by kernel_rfl) ?_
    obtain ⟨r46, h47, hF⟩ := bind_some hF
    refine ow_pw rfl (pw_call (F := [] ++ F0) rfl rfl rfl rfl rfl rfl rfl (by kernel_rfl) (perm_of_pulls [0, 0, 0, 0] rfl) (c_pledge_Node _ y23 r42.1 r42.2.2 r42_b1 r42_b3 b0 r46 h47) ?_)
    rintro _ _ ⟨r46_b1, r46_b3, rfl, rfl⟩
    refine nw_H (H' := [imm I, pt b0 #[.map (some r46_b1), .map (some r46_b3), .string r46.2.twins_.e0, .string r46.2.twins_.e1, .bool r46.2.found_, .bool r46.2.full_, .int .i64 r46.2.sums_] 64, mpo kStr kStr r46_b1 r46.2.table_, mpo kStr kStr r46_b3 r46.2.notes_] ++ F0) rfl (nw_ow ?_)
    refine ow_vals 3 (j := 7) [10, 11] [(10, .string r46.1), (11, .bool r42.2.1)] rfl (by kernel_rfl) ?_
    refine ow_end rfl ?_
    refine ew_then ?_
    refine cw_ret ?_
    have hR := Option.some.inj hF
    subst hR
    exact fin2 (H1 := [imm I, pt b0 #[.map (some r46_b1), .map (some r46_b3), .string r46.2.twins_.e0, .string r46.2.twins_.e1, .bool r46.2.found_, .bool r46.2.full_, .int .i64 r46.2.sums_] 64, mpo kStr kStr r46_b1 r46.2.table_, mpo kStr kStr r46_b3 r46.2.notes_]) (fun w hs => sat_to [0, 0, 0, 0] 0 rfl hs) rfl (rr_tmp rfl) (rr_tmp rfl) ⟨r46_b1, r46_b3, rfl, rfl⟩


def F.merkle_Climb.r1 (x1 : ByteArray) (x4 : List ByteArray) (m0 : mill_Mill) (x26 : Bool) : Option ((Unit) ⊕ (ByteArray × Int × mill_Mill)) :=
  if x26 then (some (.inr (((ByteArray.mk #[]), 21, m0)))) else (if decide ((x4.length : Int) > 16) then (some (.inr (((ByteArray.mk #[]), 20, m0)))) else (Option.bind (F.merkle_sums ([x1] : List ByteArray)) (fun (r34 : Bool) => if !r34 then (some (.inr (((ByteArray.mk #[]), 20, m0)))) else (Option.bind (F.merkle_sums x4) (fun (r37 : Bool) => if !r37 then (some (.inr (((ByteArray.mk #[]), 20, m0)))) else (some (.inl ())))))))
def F.merkle_Climb.r2 (x1 : ByteArray) (x2 : Int) (x3 : Int) (x4 : List ByteArray) (m0 : mill_Mill) : Option (ByteArray × Int × mill_Mill) :=
  Option.bind (F.merkle_climb FUEL x1 x2 x3 x4 m0) (fun (r42 : ByteArray × Bool × mill_Mill) => if !r42.2.1 then (some (((ByteArray.mk #[]), 20, r42.2.2))) else (some ((r42.1, 0, r42.2.2))))
def F.merkle_Climb (x1 : ByteArray) (x2 : Int) (x3 : Int) (x4 : List ByteArray) (m0 : mill_Mill) : Option (ByteArray × Int × mill_Mill) :=
  thru (Option.bind (if decide (x3 < 1) then (some (true)) else (if decide (x3 > 65536) then (some (true)) else (if decide (x2 < 0) then (some (true)) else (some ((decide (x2 ≥ x3))))))) (fun x => F.merkle_Climb.r1 x1 x4 m0 x)) (fun x => F.merkle_Climb.r2 x1 x2 x3 x4 m0)
set_option maxRecDepth 100000 in
set_option maxHeartbeats 4000000 in
theorem c_merkle_Climb (I : Hl) (x1 : ByteArray) (x2 : Int) (x3 : Int) (x4 : List ByteArray) (m0 : mill_Mill) (p0 : Option Addr) (c0 : Nat) (p1 : Nat) (p2 : Nat) (b0 : Nat) (res : ByteArray × Int × mill_Mill) (hF : F.merkle_Climb x1 x2 x3 x4 m0 = some res) (hr0 : ro I eStr p0 c0 x4) : Tr Try.prog 45 [.pointer (some ⟨b0, 0, none⟩), .string x1, .int .i64 x2, .int .i64 x3, .slice p0 x4.length c0] [imm I, pt b0 #[.map (some p1), .map (some p2), .string m0.twins_.e0, .string m0.twins_.e1, .bool m0.found_, .bool m0.full_, .int .i64 m0.sums_] 64, mpo kStr kStr p1 m0.table_, mpo kStr kStr p2 m0.notes_] (fun r H' => ∃ (J : Hl), ∃ (bq1 : Nat), ∃ (bq3 : Nat), r = .tuple #[.string res.1, .int .i64 res.2.1] ∧ H' = [imm J, pt b0 #[.map (some bq1), .map (some bq3), .string res.2.2.twins_.e0, .string res.2.2.twins_.e1, .bool res.2.2.found_, .bool res.2.2.full_, .int .i64 res.2.2.sums_] 64, mpo kStr kStr bq1 res.2.2.table_, mpo kStr kStr bq3 res.2.2.notes_] ∧ Hl.sub I J) := by
  unfold F.merkle_Climb at hF
  refine tr_of_cw (fn := Try.f45) Try.func45 rfl (Nat.le_of_ble_eq_true rfl) 57 rfl fun F0 w0 => ?_
  refine cw_keep [0, 1, 2, 3, 4] (L' := [(0, .pointer (some ⟨b0, 0, none⟩)), (1, .string x1), (2, .int .i64 x2), (3, .int .i64 x3), (4, .slice p0 x4.length c0)]) rfl ?_
  refine cw_state (S' := SAT w0 ([imm I, pt b0 #[.map (some p1), .map (some p2), .string m0.twins_.e0, .string m0.twins_.e1, .bool m0.found_, .bool m0.full_, .int .i64 m0.sums_] 64, mpo kStr kStr p1 m0.table_, mpo kStr kStr p2 m0.notes_] ++ F0)) (fun w hs => hs) ?_
  refine cw_seq ?_
  refine cw_region ?_
  refine ow_vals 2 (j := 2) [0, 1, 2, 3, 4] [(0, .pointer (some ⟨b0, 0, none⟩)), (1, .string x1), (2, .int .i64 x2), (3, .int .i64 x3), (4, .slice p0 x4.length c0)] rfl (by kernel_rfl) ?_
  refine ow_end rfl ?_
  refine ew_then ?_
  obtain ⟨v21, hF, hK21⟩ := thru_some hF
  refine cw_mid (fun a w => ∃ (J40 : Hl), .inl () = v21 ∧ Hl.sub I J40 ∧ Fr 57 [(0, .pointer (some ⟨b0, 0, none⟩)), (1, .string x1), (2, .int .i64 x2), (3, .int .i64 x3), (4, .slice p0 x4.length c0)] a ∧ SAT w0 ([imm J40, pt b0 #[.map (some p1), .map (some p2), .string m0.twins_.e0, .string m0.twins_.e1, .bool m0.found_, .bool m0.full_, .int .i64 m0.sums_] 64, mpo kStr kStr p1 m0.table_, mpo kStr kStr p2 m0.notes_] ++ F0) w) ?_ ?_
  · refine cw_block ?_
    obtain ⟨v22, hF, hK22⟩ := bind_some hF
    refine cw_mid (fun a w => ∃ (x26 : Bool), x26 = v22 ∧ Fr 57 [(0, .pointer (some ⟨b0, 0, none⟩)), (1, .string x1), (2, .int .i64 x2), (3, .int .i64 x3), (4, .slice p0 x4.length c0), (14, .bool x26)] a ∧ SAT w0 ([imm I, pt b0 #[.map (some p1), .map (some p2), .string m0.twins_.e0, .string m0.twins_.e1, .bool m0.found_, .bool m0.full_, .int .i64 m0.sums_] 64, mpo kStr kStr p1 m0.table_, mpo kStr kStr p2 m0.notes_] ++ F0) w) ?_ ?_
    · refine cw_region ?_
      refine ow_vals 3 (j := 3) [0, 1, 2, 3, 4, 17] [(0, .pointer (some ⟨b0, 0, none⟩)), (1, .string x1), (2, .int .i64 x2), (3, .int .i64 x3), (4, .slice p0 x4.length c0), (17, .bool (decide (x3 < 1)))] rfl (by kernel_rfl) ?_
      rcases if_some hF with ⟨h23, hF⟩ | ⟨h23, hF⟩
      · refine ow_slots (L' := [(0, .pointer (some ⟨b0, 0, none⟩)), (1, .string x1), (2, .int .i64 x2), (3, .int .i64 x3), (4, .slice p0 x4.length c0), (17, .bool true)]) (by rw [h23]) ?_
        refine ow_vals 13 (j := 16) [0, 1, 2, 3, 4, 14] [(0, .pointer (some ⟨b0, 0, none⟩)), (1, .string x1), (2, .int .i64 x2), (3, .int .i64 x3), (4, .slice p0 x4.length c0), (14, .bool true)] rfl (by kernel_rfl) ?_
        refine ow_end rfl ?_
        have hR := Option.some.inj hF
        exact fun a w hf hs => ⟨true, hR, hf.keep [0, 1, 2, 3, 4, 14], sat_to [0, 0, 0, 0] 0 rfl hs⟩
      refine ow_slots (L' := [(0, .pointer (some ⟨b0, 0, none⟩)), (1, .string x1), (2, .int .i64 x2), (3, .int .i64 x3), (4, .slice p0 x4.length c0), (17, .bool false)]) (by rw [h23]) ?_
      refine ow_vals 4 (j := 7) [0, 1, 2, 3, 4, 21] [(0, .pointer (some ⟨b0, 0, none⟩)), (1, .string x1), (2, .int .i64 x2), (3, .int .i64 x3), (4, .slice p0 x4.length c0), (21, .bool (decide (x3 > 65536)))] rfl (by kernel_rfl) ?_
      rcases if_some hF with ⟨h24, hF⟩ | ⟨h24, hF⟩
      · refine ow_slots (L' := [(0, .pointer (some ⟨b0, 0, none⟩)), (1, .string x1), (2, .int .i64 x2), (3, .int .i64 x3), (4, .slice p0 x4.length c0), (21, .bool true)]) (by rw [h24]) ?_
        refine ow_vals 9 (j := 16) [0, 1, 2, 3, 4, 14] [(0, .pointer (some ⟨b0, 0, none⟩)), (1, .string x1), (2, .int .i64 x2), (3, .int .i64 x3), (4, .slice p0 x4.length c0), (14, .bool true)] rfl (by kernel_rfl) ?_
        refine ow_end rfl ?_
        have hR := Option.some.inj hF
        exact fun a w hf hs => ⟨true, hR, hf.keep [0, 1, 2, 3, 4, 14], sat_to [0, 0, 0, 0] 0 rfl hs⟩
      refine ow_slots (L' := [(0, .pointer (some ⟨b0, 0, none⟩)), (1, .string x1), (2, .int .i64 x2), (3, .int .i64 x3), (4, .slice p0 x4.length c0), (21, .bool false)]) (by rw [h24]) ?_
      refine ow_vals 4 (j := 11) [0, 1, 2, 3, 4, 25] [(0, .pointer (some ⟨b0, 0, none⟩)), (1, .string x1), (2, .int .i64 x2), (3, .int .i64 x3), (4, .slice p0 x4.length c0), (25, .bool (decide (x2 < 0)))] rfl (by kernel_rfl) ?_
      rcases if_some hF with ⟨h25, hF⟩ | ⟨h25, hF⟩
      · refine ow_slots (L' := [(0, .pointer (some ⟨b0, 0, none⟩)), (1, .string x1), (2, .int .i64 x2), (3, .int .i64 x3), (4, .slice p0 x4.length c0), (25, .bool true)]) (by rw [h25]) ?_
        refine ow_vals 5 (j := 16) [0, 1, 2, 3, 4, 14] [(0, .pointer (some ⟨b0, 0, none⟩)), (1, .string x1), (2, .int .i64 x2), (3, .int .i64 x3), (4, .slice p0 x4.length c0), (14, .bool true)] rfl (by kernel_rfl) ?_
        refine ow_end rfl ?_
        have hR := Option.some.inj hF
        exact fun a w hf hs => ⟨true, hR, hf.keep [0, 1, 2, 3, 4, 14], sat_to [0, 0, 0, 0] 0 rfl hs⟩
      refine ow_slots (L' := [(0, .pointer (some ⟨b0, 0, none⟩)), (1, .string x1), (2, .int .i64 x2), (3, .int .i64 x3), (4, .slice p0 x4.length c0), (25, .bool false)]) (by rw [h25]) ?_
      refine ow_vals 5 (j := 16) [0, 1, 2, 3, 4, 14] [(0, .pointer (some ⟨b0, 0, none⟩)), (1, .string x1), (2, .int .i64 x2), (3, .int .i64 x3), (4, .slice p0 x4.length c0), (14, .bool (decide (x2 ≥ x3)))] rfl (by kernel_rfl) ?_
      refine ow_end rfl ?_
      have hR := Option.some.inj hF
      exact fun a w hf hs => ⟨decide (x2 ≥ x3), hR, hf.keep [0, 1, 2, 3, 4, 14], sat_to [0, 0, 0, 0] 0 rfl hs⟩
    rintro a w ⟨x26, hv, hf, hs⟩
    subst hv
    replace hF := hK22
    clear hK22
    try dsimp only at hF
    revert a w
    show CW _ _ _ 57 [(0, .pointer (some ⟨b0, 0, none⟩)), (1, .string x1), (2, .int .i64 x2), (3, .int .i64 x3), (4, .slice p0 x4.length c0), (14, .bool x26)] (SAT w0 ([imm I, pt b0 #[.map (some p1), .map (some p2), .string m0.twins_.e0, .string m0.twins_.e1, .bool m0.found_, .bool m0.full_, .int .i64 m0.sums_] 64, mpo kStr kStr p1 m0.table_, mpo kStr kStr p2 m0.notes_] ++ F0))
    unfold F.merkle_Climb.r1 at hF
    rcases if_some hF with ⟨h27, hF⟩ | ⟨h27, hF⟩
    · refine cw_cond_t rfl rfl h27 ?_
      refine cw_seq ?_
      refine cw_region ?_
      refine ow_vals 2 (j := 2) [10, 11] [(10, .string (ByteArray.mk #[])), (11, .int .i64 21)] rfl (by kernel_rfl) ?_
      refine ow_end rfl ?_
      refine ew_then ?_
      refine cw_ret ?_
      refine ew_blk_ret ?_
      refine ew_then_ret ?_
      have hR := Option.some.inj hF
      subst hR
      have hR := hK21
      try dsimp only [Thru] at hR
      subst hR
      exact fin2 (H1 := [imm I, pt b0 #[.map (some p1), .map (some p2), .string m0.twins_.e0, .string m0.twins_.e1, .bool m0.found_, .bool m0.full_, .int .i64 m0.sums_] 64, mpo kStr kStr p1 m0.table_, mpo kStr kStr p2 m0.notes_]) (fun w hs => sat_to [0, 0, 0, 0] 0 rfl hs) rfl (rr_tmp rfl) (rr_tmp rfl) ⟨I, p1, p2, rfl, rfl, Hl.sub_refl _⟩
    refine cw_cond_f rfl rfl h27 ?_
    refine cw_seq ?_
    refine cw_region ?_
    refine ow_vals 4 (j := 4) [0, 1, 2, 3, 4, 34] [(0, .pointer (some ⟨b0, 0, none⟩)), (1, .string x1), (2, .int .i64 x2), (3, .int .i64 x3), (4, .slice p0 x4.length c0), (34, .bool (decide ((x4.length : Int) > 16)))] rfl (by kernel_rfl) ?_
    rcases if_some hF with ⟨h28, hF⟩ | ⟨h28, hF⟩
    · refine ow_slots (L' := [(0, .pointer (some ⟨b0, 0, none⟩)), (1, .string x1), (2, .int .i64 x2), (3, .int .i64 x3), (4, .slice p0 x4.length c0), (34, .bool true)]) (by rw [h28]) ?_
      refine ow_vals 11 (j := 15) [0, 1, 2, 3, 4, 30] [(0, .pointer (some ⟨b0, 0, none⟩)), (1, .string x1), (2, .int .i64 x2), (3, .int .i64 x3), (4, .slice p0 x4.length c0), (30, .bool true)] rfl (by kernel_rfl) ?_
      refine ow_end rfl ?_
      refine ew_then ?_
      refine cw_cond_t rfl rfl rfl ?_
      refine cw_seq ?_
      refine cw_region ?_
      refine ow_vals 2 (j := 2) [10, 11] [(10, .string (ByteArray.mk #[])), (11, .int .i64 20)] rfl (by kernel_rfl) ?_
      refine ow_end rfl ?_
      refine ew_then ?_
      refine cw_ret ?_
      refine ew_blk_ret ?_
      refine ew_then_ret ?_
      have hR := Option.some.inj hF
      subst hR
      have hR := hK21
      try dsimp only [Thru] at hR
      subst hR
      exact fin2 (H1 := [imm I, pt b0 #[.map (some p1), .map (some p2), .string m0.twins_.e0, .string m0.twins_.e1, .bool m0.found_, .bool m0.full_, .int .i64 m0.sums_] 64, mpo kStr kStr p1 m0.table_, mpo kStr kStr p2 m0.notes_]) (fun w hs => sat_to [0, 0, 0, 0] 0 rfl hs) rfl (rr_tmp rfl) (rr_tmp rfl) ⟨I, p1, p2, rfl, rfl, Hl.sub_refl _⟩
    refine ow_slots (L' := [(0, .pointer (some ⟨b0, 0, none⟩)), (1, .string x1), (2, .int .i64 x2), (3, .int .i64 x3), (4, .slice p0 x4.length c0), (34, .bool false)]) (by rw [h28]) ?_
    refine ow_vals 1 (j := 5) [0, 1, 2, 3, 4, 34, 35] [(0, .pointer (some ⟨b0, 0, none⟩)), (1, .string x1), (2, .int .i64 x2), (3, .int .i64 x3), (4, .slice p0 x4.length c0), (34, .bool false), (35, .string x1)] rfl (by kernel_rfl) ?_
    refine ow_pw rfl (pw_buildSlice (E := 9) eStr ([x1] : List ByteArray) rfl rfl rfl rfl rfl (by kernel_rfl) rfl (by kernel_rfl) rfl (by decide) rfl fun p29 => nw_ow ?_)
    refine ow_freeze (fun w hs => sat_to [1, 0] 0 (F := [imm I, own eStr 9 p29 1 ([x1] : List ByteArray), pt b0 #[.map (some p1), .map (some p2), .string m0.twins_.e0, .string m0.twins_.e1, .bool m0.found_, .bool m0.full_, .int .i64 m0.sums_] 64, mpo kStr kStr p1 m0.table_, mpo kStr kStr p2 m0.notes_] ++ F0) rfl hs) fun J31 h32 h33 => ?_
    have hr0 := ro.sub h32 hr0
    refine ow_H (H' := [imm J31, pt b0 #[.map (some p1), .map (some p2), .string m0.twins_.e0, .string m0.twins_.e1, .bool m0.found_, .bool m0.full_, .int .i64 m0.sums_] 64, mpo kStr kStr p1 m0.table_, mpo kStr kStr p2 m0.notes_] ++ F0) rfl ?_
    obtain ⟨r34, h35, hF⟩ := bind_some hF
    refine ow_pw rfl (pw_call (F := [pt b0 #[.map (some p1), .map (some p2), .string m0.twins_.e0, .string m0.twins_.e1, .bool m0.found_, .bool m0.full_, .int .i64 m0.sums_] 64, mpo kStr kStr p1 m0.table_, mpo kStr kStr p2 m0.notes_] ++ F0) rfl rfl rfl rfl rfl rfl rfl (by kernel_rfl) (perm_of_pulls [0] rfl) (c_merkle_sums _ ([x1] : List ByteArray) p29 1 r34 h35 h33) ?_)
    rintro _ _ ⟨rfl, rfl⟩
    refine nw_H (H' := [imm J31, pt b0 #[.map (some p1), .map (some p2), .string m0.twins_.e0, .string m0.twins_.e1, .bool m0.found_, .bool m0.full_, .int .i64 m0.sums_] 64, mpo kStr kStr p1 m0.table_, mpo kStr kStr p2 m0.notes_] ++ F0) rfl (nw_ow ?_)
    refine ow_vals 3 (j := 10) [0, 1, 2, 3, 4, 40] [(0, .pointer (some ⟨b0, 0, none⟩)), (1, .string x1), (2, .int .i64 x2), (3, .int .i64 x3), (4, .slice p0 x4.length c0), (40, .bool (!r34))] rfl (by kernel_rfl) ?_
    rcases if_some hF with ⟨h36, hF⟩ | ⟨h36, hF⟩
    · refine ow_slots (L' := [(0, .pointer (some ⟨b0, 0, none⟩)), (1, .string x1), (2, .int .i64 x2), (3, .int .i64 x3), (4, .slice p0 x4.length c0), (40, .bool true)]) (by rw [h36]) ?_
      refine ow_vals 5 (j := 15) [0, 1, 2, 3, 4, 30] [(0, .pointer (some ⟨b0, 0, none⟩)), (1, .string x1), (2, .int .i64 x2), (3, .int .i64 x3), (4, .slice p0 x4.length c0), (30, .bool true)] rfl (by kernel_rfl) ?_
      refine ow_end rfl ?_
      refine ew_then ?_
      refine cw_cond_t rfl rfl rfl ?_
      refine cw_seq ?_
      refine cw_region ?_
      refine ow_vals 2 (j := 2) [10, 11] [(10, .string (ByteArray.mk #[])), (11, .int .i64 20)] rfl (by kernel_rfl) ?_
      refine ow_end rfl ?_
      refine ew_then ?_
      refine cw_ret ?_
      refine ew_blk_ret ?_
      refine ew_then_ret ?_
      have hR := Option.some.inj hF
      subst hR
      have hR := hK21
      try dsimp only [Thru] at hR
      subst hR
      exact fin2 (H1 := [imm J31, pt b0 #[.map (some p1), .map (some p2), .string m0.twins_.e0, .string m0.twins_.e1, .bool m0.found_, .bool m0.full_, .int .i64 m0.sums_] 64, mpo kStr kStr p1 m0.table_, mpo kStr kStr p2 m0.notes_]) (fun w hs => sat_to [0, 0, 0, 0] 0 rfl hs) rfl (rr_tmp rfl) (rr_tmp rfl) ⟨J31, p1, p2, rfl, rfl, h32⟩
    refine ow_slots (L' := [(0, .pointer (some ⟨b0, 0, none⟩)), (1, .string x1), (2, .int .i64 x2), (3, .int .i64 x3), (4, .slice p0 x4.length c0), (40, .bool false)]) (by rw [h36]) ?_
    refine ow_vals 1 (j := 11) [0, 1, 2, 3, 4, 40, 41] [(0, .pointer (some ⟨b0, 0, none⟩)), (1, .string x1), (2, .int .i64 x2), (3, .int .i64 x3), (4, .slice p0 x4.length c0), (40, .bool false), (41, .slice p0 x4.length c0)] rfl (by kernel_rfl) ?_
    obtain ⟨r37, h38, hF⟩ := bind_some hF
    refine ow_pw rfl (pw_call (F := [pt b0 #[.map (some p1), .map (some p2), .string m0.twins_.e0, .string m0.twins_.e1, .bool m0.found_, .bool m0.full_, .int .i64 m0.sums_] 64, mpo kStr kStr p1 m0.table_, mpo kStr kStr p2 m0.notes_] ++ F0) rfl rfl rfl rfl rfl rfl rfl (by kernel_rfl) (perm_of_pulls [0] rfl) (c_merkle_sums _ x4 p0 c0 r37 h38 hr0) ?_)
    rintro _ _ ⟨rfl, rfl⟩
    refine nw_H (H' := [imm J31, pt b0 #[.map (some p1), .map (some p2), .string m0.twins_.e0, .string m0.twins_.e1, .bool m0.found_, .bool m0.full_, .int .i64 m0.sums_] 64, mpo kStr kStr p1 m0.table_, mpo kStr kStr p2 m0.notes_] ++ F0) rfl (nw_ow ?_)
    refine ow_vals 3 (j := 15) [0, 1, 2, 3, 4, 30] [(0, .pointer (some ⟨b0, 0, none⟩)), (1, .string x1), (2, .int .i64 x2), (3, .int .i64 x3), (4, .slice p0 x4.length c0), (30, .bool (!r37))] rfl (by kernel_rfl) ?_
    refine ow_end rfl ?_
    refine ew_then ?_
    rcases if_some hF with ⟨h39, hF⟩ | ⟨h39, hF⟩
    · refine cw_cond_t rfl rfl h39 ?_
      refine cw_seq ?_
      refine cw_region ?_
      refine ow_vals 2 (j := 2) [10, 11] [(10, .string (ByteArray.mk #[])), (11, .int .i64 20)] rfl (by kernel_rfl) ?_
      refine ow_end rfl ?_
      refine ew_then ?_
      refine cw_ret ?_
      refine ew_blk_ret ?_
      refine ew_then_ret ?_
      have hR := Option.some.inj hF
      subst hR
      have hR := hK21
      try dsimp only [Thru] at hR
      subst hR
      exact fin2 (H1 := [imm J31, pt b0 #[.map (some p1), .map (some p2), .string m0.twins_.e0, .string m0.twins_.e1, .bool m0.found_, .bool m0.full_, .int .i64 m0.sums_] 64, mpo kStr kStr p1 m0.table_, mpo kStr kStr p2 m0.notes_]) (fun w hs => sat_to [0, 0, 0, 0] 0 rfl hs) rfl (rr_tmp rfl) (rr_tmp rfl) ⟨J31, p1, p2, rfl, rfl, h32⟩
    refine cw_cond_f rfl rfl h39 ?_
    refine cw_skip ?_
    refine ew_blk ?_
    have hR := Option.some.inj hF
    exact fun a w hf hs => ⟨J31, hR, h32, hf.keep [0, 1, 2, 3, 4], sat_to [0, 0, 0, 0] 0 rfl hs⟩
  rintro a w ⟨J40, hv, h41, hf, hs⟩
  subst hv
  replace hF := hK21
  clear hK21
  try dsimp only [Thru] at hF
  revert a w
  show CW _ _ _ 57 [(0, .pointer (some ⟨b0, 0, none⟩)), (1, .string x1), (2, .int .i64 x2), (3, .int .i64 x3), (4, .slice p0 x4.length c0)] (SAT w0 ([imm J40, pt b0 #[.map (some p1), .map (some p2), .string m0.twins_.e0, .string m0.twins_.e1, .bool m0.found_, .bool m0.full_, .int .i64 m0.sums_] 64, mpo kStr kStr p1 m0.table_, mpo kStr kStr p2 m0.notes_] ++ F0))
  unfold F.merkle_Climb.r2 at hF
  have hr0 := ro.sub h41 hr0
  refine cw_seq ?_
  refine cw_region ?_
  refine ow_vals 5 (j := 5) [46, 47, 48, 49, 50] [(46, .pointer (some ⟨b0, 0, none⟩)), (47, .string x1), (48, .int .i64 x2), (49, .int .i64 x3), (50, .slice p0 x4.length c0)] rfl (by kernel_rfl) ?_
  obtain ⟨r42, h43, hF⟩ := bind_some hF
  refine ow_pw rfl (pw_call (F := [] ++ F0) rfl rfl rfl rfl rfl rfl rfl (by kernel_rfl) (perm_of_pulls [0, 0, 0, 0] rfl) (c_merkle_climb FUEL _ x1 x2 x3 x4 m0 p0 c0 p1 p2 b0 r42 h43 hr0) ?_)
  rintro _ _ ⟨r42_b1, r42_b3, rfl, rfl⟩
  refine nw_H (H' := [imm J40, pt b0 #[.map (some r42_b1), .map (some r42_b3), .string r42.2.2.twins_.e0, .string r42.2.2.twins_.e1, .bool r42.2.2.found_, .bool r42.2.2.full_, .int .i64 r42.2.2.sums_] 64, mpo kStr kStr r42_b1 r42.2.2.table_, mpo kStr kStr r42_b3 r42.2.2.notes_] ++ F0) rfl (nw_ow ?_)
  refine ow_vals 5 (j := 11) [12, 13] [(12, .string r42.1), (13, .bool r42.2.1)] rfl (by kernel_rfl) ?_
  refine ow_end rfl ?_
  refine ew_then ?_
  refine cw_seq ?_
  refine cw_seq ?_
  refine cw_region ?_
  refine ow_vals 2 (j := 2) [12, 55] [(12, .string r42.1), (55, .bool (!r42.2.1))] rfl (by kernel_rfl) ?_
  refine ow_end rfl ?_
  refine ew_then ?_
  rcases if_some hF with ⟨h46, hF⟩ | ⟨h46, hF⟩
  · refine cw_cond_t rfl rfl h46 ?_
    refine cw_seq ?_
    refine cw_region ?_
    refine ow_vals 2 (j := 2) [10, 11] [(10, .string (ByteArray.mk #[])), (11, .int .i64 20)] rfl (by kernel_rfl) ?_
    refine ow_end rfl ?_
    refine ew_then ?_
    refine cw_ret ?_
    refine ew_then_ret ?_
    have hR := Option.some.inj hF
    subst hR
    exact fin2 (H1 := [imm J40, pt b0 #[.map (some r42_b1), .map (some r42_b3), .string r42.2.2.twins_.e0, .string r42.2.2.twins_.e1, .bool r42.2.2.found_, .bool r42.2.2.full_, .int .i64 r42.2.2.sums_] 64, mpo kStr kStr r42_b1 r42.2.2.table_, mpo kStr kStr r42_b3 r42.2.2.notes_]) (fun w hs => sat_to [0, 0, 0, 0] 0 rfl hs) rfl (rr_tmp rfl) (rr_tmp rfl) ⟨J40, r42_b1, r42_b3, rfl, rfl, h41⟩
  refine cw_cond_f rfl rfl h46 ?_
  refine cw_skip ?_
  refine ew_then ?_
  refine cw_seq ?_
  refine cw_region ?_
  refine ow_vals 3 (j := 3) [10, 11] [(10, .string r42.1), (11, .int .i64 0)] rfl (by kernel_rfl) ?_
  refine ow_end rfl ?_
  refine ew_then ?_
  refine cw_ret ?_
  have hR := Option.some.inj hF
  subst hR
  exact fin2 (H1 := [imm J40, pt b0 #[.map (some r42_b1), .map (some r42_b3), .string r42.2.2.twins_.e0, .string r42.2.2.twins_.e1, .bool r42.2.2.found_, .bool r42.2.2.full_, .int .i64 r42.2.2.sums_] 64, mpo kStr kStr r42_b1 r42.2.2.table_, mpo kStr kStr r42_b3 r42.2.2.notes_]) (fun w hs => sat_to [0, 0, 0, 0] 0 rfl hs) rfl (rr_tmp rfl) (rr_tmp rfl) ⟨J40, r42_b1, r42_b3, rfl, rfl, h41⟩


def F.absent_stands (x1 : ByteArray) (x2 : Int) (x3 : absent_Side) (m0 : mill_Mill) : Option (Int × mill_Mill) :=
  Option.bind (F.paper_IsID x3.ID) (fun (r23 : Bool) => if !r23 then (some ((13, m0))) else (Option.bind (F.absent_leaf x3.ID m0) (fun (r26 : ByteArray × mill_Mill) => Option.bind (F.merkle_Climb r26.1 x3.Index x2 x3.Path r26.2) (fun (r30 : ByteArray × Int × mill_Mill) => if r30.2.1 != 0 then (some ((20, r30.2.2))) else (if !(seqB r30.1 x1) then (some ((19, r30.2.2))) else (some ((0, r30.2.2))))))))
set_option maxRecDepth 100000 in
set_option maxHeartbeats 4000000 in
theorem c_absent_stands (I : Hl) (x1 : ByteArray) (x2 : Int) (x3 : absent_Side) (m0 : mill_Mill) (p0 : Option Addr) (c0 : Nat) (p1 : Nat) (p2 : Nat) (b0 : Nat) (res : Int × mill_Mill) (hF : F.absent_stands x1 x2 x3 m0 = some res) (hr0 : ro I eStr p0 c0 x3.Path) : Tr Try.prog 43 [.pointer (some ⟨b0, 0, none⟩), .string x1, .int .i64 x2, .agg #[.int .i64 x3.Index, .string x3.ID, .slice p0 x3.Path.length c0]] [imm I, pt b0 #[.map (some p1), .map (some p2), .string m0.twins_.e0, .string m0.twins_.e1, .bool m0.found_, .bool m0.full_, .int .i64 m0.sums_] 64, mpo kStr kStr p1 m0.table_, mpo kStr kStr p2 m0.notes_] (fun r H' => ∃ (J : Hl), ∃ (bq1 : Nat), ∃ (bq3 : Nat), r = .int .i64 res.1 ∧ H' = [imm J, pt b0 #[.map (some bq1), .map (some bq3), .string res.2.twins_.e0, .string res.2.twins_.e1, .bool res.2.found_, .bool res.2.full_, .int .i64 res.2.sums_] 64, mpo kStr kStr bq1 res.2.table_, mpo kStr kStr bq3 res.2.notes_] ∧ Hl.sub I J) := by
  unfold F.absent_stands at hF
  refine tr_of_cw (fn := Try.f43) Try.func43 rfl (Nat.le_of_ble_eq_true rfl) 36 rfl fun F0 w0 => ?_
  refine cw_keep [0, 1, 2, 3] (L' := [(0, .pointer (some ⟨b0, 0, none⟩)), (1, .string x1), (2, .int .i64 x2), (3, .agg #[.int .i64 x3.Index, .string x3.ID, .slice p0 x3.Path.length c0])]) rfl ?_
  refine cw_state (S' := SAT w0 ([imm I, pt b0 #[.map (some p1), .map (some p2), .string m0.twins_.e0, .string m0.twins_.e1, .bool m0.found_, .bool m0.full_, .int .i64 m0.sums_] 64, mpo kStr kStr p1 m0.table_, mpo kStr kStr p2 m0.notes_] ++ F0)) (fun w hs => hs) ?_
  refine cw_seq ?_
  refine cw_region ?_
  refine ow_pw rfl (pw_box (cs := #[.int .i64 x3.Index, .string x3.ID, .slice p0 x3.Path.length c0]) rfl rfl rfl rfl rfl rfl fun b21 => nw_ow ?_)
  refine ow_vals 1 (j := 2) [0, 1, 2, 7] [(0, .pointer (some ⟨b0, 0, none⟩)), (1, .string x1), (2, .int .i64 x2), (7, .pointer (some ⟨b21, 0, none⟩))] rfl (by kernel_rfl) ?_
  refine ow_end rfl ?_
  refine ew_then ?_
  refine cw_seq ?_
  refine cw_seq ?_
  refine cw_region ?_
  refine ow_vals 1 (j := 1) [0, 1, 2, 7, 11] [(0, .pointer (some ⟨b0, 0, none⟩)), (1, .string x1), (2, .int .i64 x2), (7, .pointer (some ⟨b21, 0, none⟩)), (11, .pointer (some ⟨b21, 1, none⟩))] rfl (by kernel_rfl) ?_
  refine ow_pw rfl (pw_quiet (v := .string x3.ID) rfl rfl rfl rfl (q_load 0 rfl rfl rfl (by kernel_rfl)) (nw_ow ?_))
  obtain ⟨r23, h24, hF⟩ := bind_some hF
  refine ow_pw rfl (pw_call (F := [pt b21 #[.int .i64 x3.Index, .string x3.ID, .slice p0 x3.Path.length c0] 43, pt b0 #[.map (some p1), .map (some p2), .string m0.twins_.e0, .string m0.twins_.e1, .bool m0.found_, .bool m0.full_, .int .i64 m0.sums_] 64, mpo kStr kStr p1 m0.table_, mpo kStr kStr p2 m0.notes_] ++ F0) rfl rfl rfl rfl rfl rfl rfl (by kernel_rfl) (perm_of_pulls [1] rfl) (c_paper_IsID _ x3.ID r23 h24) ?_)
  rintro _ _ ⟨rfl, rfl⟩
  refine nw_H (H' := [imm I, pt b21 #[.int .i64 x3.Index, .string x3.ID, .slice p0 x3.Path.length c0] 43, pt b0 #[.map (some p1), .map (some p2), .string m0.twins_.e0, .string m0.twins_.e1, .bool m0.found_, .bool m0.full_, .int .i64 m0.sums_] 64, mpo kStr kStr p1 m0.table_, mpo kStr kStr p2 m0.notes_] ++ F0) rfl (nw_ow ?_)
  refine ow_vals 1 (j := 4) [0, 1, 2, 7, 14] [(0, .pointer (some ⟨b0, 0, none⟩)), (1, .string x1), (2, .int .i64 x2), (7, .pointer (some ⟨b21, 0, none⟩)), (14, .bool (!r23))] rfl (by kernel_rfl) ?_
  refine ow_end rfl ?_
  refine ew_then ?_
  rcases if_some hF with ⟨h25, hF⟩ | ⟨h25, hF⟩
  · refine cw_cond_t rfl rfl h25 ?_
    refine cw_seq ?_
    refine cw_region ?_
    refine ow_vals 1 (j := 1) [8] [(8, .int .i64 13)] rfl (by kernel_rfl) ?_
    refine ow_end rfl ?_
    refine ew_then ?_
    refine cw_ret ?_
    refine ew_then_ret ?_
    have hR := Option.some.inj hF
    subst hR
    exact fin1 (H1 := [imm I, pt b0 #[.map (some p1), .map (some p2), .string m0.twins_.e0, .string m0.twins_.e1, .bool m0.found_, .bool m0.full_, .int .i64 m0.sums_] 64, mpo kStr kStr p1 m0.table_, mpo kStr kStr p2 m0.notes_]) (fun w hs => sat_to [1, 0, 0, 0, 0] 1 rfl hs) rfl (rr_tmp rfl) ⟨I, p1, p2, rfl, rfl, Hl.sub_refl _⟩
  refine cw_cond_f rfl rfl h25 ?_
  refine cw_skip ?_
  refine ew_then ?_
  refine cw_seq ?_
  refine cw_open 10 (SAT w0 ([imm I, pt b21 #[.int .i64 x3.Index, .string x3.ID, .slice p0 x3.Path.length c0] 43])) (by kernel_rfl) (f := 16) rfl (fun w hs => sat_drew hs) ?_
  refine aw_vals [0, 1, 2, 5, 7, 8] (f' := 10) (m' := 423) [1, 16, 17, 18, 21, 23, 24] [(1, .string x1), (16, .pointer (some ⟨b0, 0, none⟩)), (17, .pointer (some ⟨b0, 0, none⟩)), (18, .pointer (some ⟨b21, 1, none⟩)), (21, .pointer (some ⟨b21, 0, none⟩)), (23, .int .i64 x2), (24, .pointer (some ⟨b21, 2, none⟩))] (fun _ _ _ _ _ h => calm_fin (P := Try.prog) (fn := Try.f43) _ _ _ _ _ h) (fun w hs => sat_pulls [0, 0] (G := [pt b0 #[.map (some p1), .map (some p2), .string m0.twins_.e0, .string m0.twins_.e1, .bool m0.found_, .bool m0.full_, .int .i64 m0.sums_] 64, mpo kStr kStr p1 m0.table_, mpo kStr kStr p2 m0.notes_] ++ F0) rfl hs) rfl (by kernel_rfl) ?_
  refine aw_quiet 3 (m' := 431) (v := .string x3.ID) 4 [3] rfl rfl rfl rfl (by kernel_rfl) (by kernel_rfl) (by kernel_rfl) (fun _ _ _ _ _ h => calm_fin (P := Try.prog) (fn := Try.f43) _ _ _ _ _ h) (fun w hs => sat_pulls [0, 0] (G := [pt b0 #[.map (some p1), .map (some p2), .string m0.twins_.e0, .string m0.twins_.e1, .bool m0.found_, .bool m0.full_, .int .i64 m0.sums_] 64, mpo kStr kStr p1 m0.table_, mpo kStr kStr p2 m0.notes_] ++ F0) rfl hs) (q_load 1 rfl rfl rfl (by kernel_rfl)) ?_
  refine aw_quiet 6 (m' := 495) (v := .int .i64 x3.Index) 6 [] rfl rfl rfl rfl (by kernel_rfl) (by kernel_rfl) (by kernel_rfl) (fun _ _ _ _ _ h => calm_fin (P := Try.prog) (fn := Try.f43) _ _ _ _ _ h) (fun w hs => sat_pulls [0, 0] (G := [pt b0 #[.map (some p1), .map (some p2), .string m0.twins_.e0, .string m0.twins_.e1, .bool m0.found_, .bool m0.full_, .int .i64 m0.sums_] 64, mpo kStr kStr p1 m0.table_, mpo kStr kStr p2 m0.notes_] ++ F0) rfl hs) (q_load 1 rfl rfl rfl (by kernel_rfl)) ?_
  refine aw_quiet 9 (m' := 1007) (v := .slice p0 x3.Path.length c0) 9 [] rfl rfl rfl rfl (by kernel_rfl) (by kernel_rfl) (by kernel_rfl) (fun _ _ _ _ _ h => calm_fin (P := Try.prog) (fn := Try.f43) _ _ _ _ _ h) (fun w hs => sat_pulls [0, 0] (G := [pt b0 #[.map (some p1), .map (some p2), .string m0.twins_.e0, .string m0.twins_.e1, .bool m0.found_, .bool m0.full_, .int .i64 m0.sums_] 64, mpo kStr kStr p1 m0.table_, mpo kStr kStr p2 m0.notes_] ++ F0) rfl hs) (q_load 1 rfl rfl rfl (by kernel_rfl)) ?_
  obtain ⟨r26, h27, hF⟩ := bind_some hF
  refine aw_only 4 (m' := 1023) (by kernel_rfl) (by kernel_rfl) (pw_call (F := [pt b21 #[.int .i64 x3.Index, .string x3.ID, .slice p0 x3.Path.length c0] 43] ++ F0) rfl rfl rfl rfl rfl rfl rfl (by kernel_rfl) (perm_of_pulls [0, 1, 1, 1] rfl) (c_absent_leaf _ x3.ID m0 p1 p2 b0 r26 h27) ?_)
  rintro _ _ ⟨r26_b1, r26_b3, rfl, rfl⟩
  refine nw_H (H' := [imm I, pt b0 #[.map (some r26_b1), .map (some r26_b3), .string r26.2.twins_.e0, .string r26.2.twins_.e1, .bool r26.2.found_, .bool r26.2.full_, .int .i64 r26.2.sums_] 64, mpo kStr kStr r26_b1 r26.2.table_, mpo kStr kStr r26_b3 r26.2.notes_, pt b21 #[.int .i64 x3.Index, .string x3.ID, .slice p0 x3.Path.length c0] 43] ++ F0) rfl (aw_next (fun w hs => sat_pulls [0, 3] (G := [pt b0 #[.map (some r26_b1), .map (some r26_b3), .string r26.2.twins_.e0, .string r26.2.twins_.e1, .bool r26.2.found_, .bool r26.2.full_, .int .i64 r26.2.sums_] 64, mpo kStr kStr r26_b1 r26.2.table_, mpo kStr kStr r26_b3 r26.2.notes_] ++ F0) rfl hs) ?_)
  obtain ⟨r30, h31, hF⟩ := bind_some hF
  refine aw_only 10 (m' := 2047) (by kernel_rfl) (by kernel_rfl) (pw_call (F := [pt b21 #[.int .i64 x3.Index, .string x3.ID, .slice p0 x3.Path.length c0] 43] ++ F0) rfl rfl rfl rfl rfl rfl rfl (by kernel_rfl) (perm_of_pulls [0, 0, 0, 0] rfl) (c_merkle_Climb _ r26.1 x3.Index x2 x3.Path r26.2 p0 c0 r26_b1 r26_b3 b0 r30 h31 hr0) ?_)
  rintro _ _ ⟨r30_J, r30_b1, r30_b3, rfl, rfl, r30_hJ⟩
  refine nw_H (H' := [imm r30_J, pt b0 #[.map (some r30_b1), .map (some r30_b3), .string r30.2.2.twins_.e0, .string r30.2.2.twins_.e1, .bool r30.2.2.found_, .bool r30.2.2.full_, .int .i64 r30.2.2.sums_] 64, mpo kStr kStr r30_b1 r30.2.2.table_, mpo kStr kStr r30_b3 r30.2.2.notes_, pt b21 #[.int .i64 x3.Index, .string x3.ID, .slice p0 x3.Path.length c0] 43] ++ F0) rfl (aw_last (by kernel_rfl) ?_)
  have hr0 := ro.sub r30_hJ hr0
  refine aw_past (by kernel_rfl) ?_
  refine aw_vals [11, 12, 13, 14, 15] (f' := 0) (m' := 65535) [1, 9, 10] [(1, .string x1), (9, .string r30.1), (10, .int .i64 r30.2.1)] (fun _ _ _ _ _ h => calm_fin (P := Try.prog) (fn := Try.f43) _ _ _ _ _ h) (fun _ _ => trivial) rfl (by kernel_rfl) ?_
  refine aw_keep [1, 9, 10] (L' := [(1, .string x1), (9, .string r30.1), (10, .int .i64 r30.2.1)]) rfl ?_
  refine aw_end (by kernel_rfl) ?_
  refine ew_then ?_
  refine cw_seq ?_
  refine cw_block ?_
  refine cw_seq ?_
  refine cw_region ?_
  refine ow_vals 3 (j := 3) [1, 9, 29] [(1, .string x1), (9, .string r30.1), (29, .bool (r30.2.1 != 0))] rfl (by kernel_rfl) ?_
  refine ow_end rfl ?_
  refine ew_then ?_
  rcases if_some hF with ⟨h34, hF⟩ | ⟨h34, hF⟩
  · refine cw_cond_t rfl rfl h34 ?_
    refine cw_seq ?_
    refine cw_region ?_
    refine ow_vals 1 (j := 1) [8] [(8, .int .i64 20)] rfl (by kernel_rfl) ?_
    refine ow_end rfl ?_
    refine ew_then ?_
    refine cw_ret ?_
    refine ew_blk_ret ?_
    refine ew_then_ret ?_
    have hR := Option.some.inj hF
    subst hR
    exact fin1 (H1 := [imm r30_J, pt b0 #[.map (some r30_b1), .map (some r30_b3), .string r30.2.2.twins_.e0, .string r30.2.2.twins_.e1, .bool r30.2.2.found_, .bool r30.2.2.full_, .int .i64 r30.2.2.sums_] 64, mpo kStr kStr r30_b1 r30.2.2.table_, mpo kStr kStr r30_b3 r30.2.2.notes_]) (fun w hs => sat_to [4, 0, 0, 0, 0] 1 rfl hs) rfl (rr_tmp rfl) ⟨r30_J, r30_b1, r30_b3, rfl, rfl, r30_hJ⟩
  refine cw_cond_f rfl rfl h34 ?_
  refine cw_seq ?_
  refine cw_region ?_
  refine ow_vals 4 (j := 4) [32] [(32, .bool (!(seqB r30.1 x1)))] rfl (by kernel_rfl) ?_
  refine ow_end rfl ?_
  refine ew_then ?_
  rcases if_some hF with ⟨h35, hF⟩ | ⟨h35, hF⟩
  · refine cw_cond_t rfl rfl h35 ?_
    refine cw_seq ?_
    refine cw_region ?_
    refine ow_vals 1 (j := 1) [8] [(8, .int .i64 19)] rfl (by kernel_rfl) ?_
    refine ow_end rfl ?_
    refine ew_then ?_
    refine cw_ret ?_
    refine ew_blk_ret ?_
    refine ew_then_ret ?_
    have hR := Option.some.inj hF
    subst hR
    exact fin1 (H1 := [imm r30_J, pt b0 #[.map (some r30_b1), .map (some r30_b3), .string r30.2.2.twins_.e0, .string r30.2.2.twins_.e1, .bool r30.2.2.found_, .bool r30.2.2.full_, .int .i64 r30.2.2.sums_] 64, mpo kStr kStr r30_b1 r30.2.2.table_, mpo kStr kStr r30_b3 r30.2.2.notes_]) (fun w hs => sat_to [4, 0, 0, 0, 0] 1 rfl hs) rfl (rr_tmp rfl) ⟨r30_J, r30_b1, r30_b3, rfl, rfl, r30_hJ⟩
  refine cw_cond_f rfl rfl h35 ?_
  refine cw_skip ?_
  refine ew_blk ?_
  refine ew_then ?_
  refine cw_seq ?_
  refine cw_region ?_
  refine ow_vals 1 (j := 1) [8] [(8, .int .i64 0)] rfl (by kernel_rfl) ?_
  refine ow_end rfl ?_
  refine ew_then ?_
  refine cw_ret ?_
  have hR := Option.some.inj hF
  subst hR
  exact fin1 (H1 := [imm r30_J, pt b0 #[.map (some r30_b1), .map (some r30_b3), .string r30.2.2.twins_.e0, .string r30.2.2.twins_.e1, .bool r30.2.2.found_, .bool r30.2.2.full_, .int .i64 r30.2.2.sums_] 64, mpo kStr kStr r30_b1 r30.2.2.table_, mpo kStr kStr r30_b3 r30.2.2.notes_]) (fun w hs => sat_to [4, 0, 0, 0, 0] 1 rfl hs) rfl (rr_tmp rfl) ⟨r30_J, r30_b1, r30_b3, rfl, rfl, r30_hJ⟩


def F.absent_between.r1 (x0 : absent_Proof) (x1 : ByteArray) : Option (Bool) :=
  Option.bind (at_ x0.Sides 0) (fun (y41 : absent_Side) => Option.bind (at_ x0.Sides 1) (fun (y50 : absent_Side) => if sltB y41.ID x1 then (if sltB x1 y50.ID then (some (((IntKind.i64.wrap (y50.Index - 1)) == y41.Index))) else (some (false))) else (some (false))))
def F.absent_between (x0 : absent_Proof) (x1 : ByteArray) : Option Bool :=
  thru (if (x0.Sides.length : Int) == 0 then (some (.inr ((x0.Size == 0)))) else (if (x0.Sides.length : Int) == 1 then (Option.bind (at_ x0.Sides 0) (fun (y26 : absent_Side) => if sltB y26.ID x1 then (if y26.Index == (IntKind.i64.wrap (x0.Size - 1)) then (some (.inr (true))) else (if !((sltB y26.ID x1) || (seqB y26.ID x1)) then (some (.inr ((y26.Index == 0)))) else (some (.inr (false))))) else (if !((sltB y26.ID x1) || (seqB y26.ID x1)) then (some (.inr ((y26.Index == 0)))) else (some (.inr (false)))))) else (some (.inl ())))) (fun x => F.absent_between.r1 x0 x1)
set_option maxRecDepth 100000 in
set_option maxHeartbeats 4000000 in
theorem c_absent_between (I : Hl) (x0 : absent_Proof) (x1 : ByteArray) (p0 : Option Addr) (c0 : Nat) (res : Bool) (hF : F.absent_between x0 x1 = some res) (hr0 : roN I n_absent_Side p0 c0 x0.Sides) : Tr Try.prog 44 [.agg #[.int .i64 x0.Size, .slice p0 x0.Sides.length c0], .string x1] [imm I] (fun r H' => r = .bool res ∧ H' = [imm I]) := by
  unfold F.absent_between at hF
  refine tr_of_cw (fn := Try.f44) Try.func44 rfl (Nat.le_of_ble_eq_true rfl) 71 rfl fun F0 w0 => ?_
  refine cw_keep [0, 1] (L' := [(0, .agg #[.int .i64 x0.Size, .slice p0 x0.Sides.length c0]), (1, .string x1)]) rfl ?_
  refine cw_state (S' := SAT w0 ([imm I] ++ F0)) (fun w hs => hs) ?_
  refine cw_seq ?_
  refine cw_region ?_
  refine ow_pw rfl (pw_box (cs := #[.int .i64 x0.Size, .slice p0 x0.Sides.length c0]) rfl rfl rfl rfl rfl rfl fun b21 => nw_ow ?_)
  refine ow_vals 1 (j := 2) [1, 2] [(1, .string x1), (2, .pointer (some ⟨b21, 0, none⟩))] rfl (by kernel_rfl) ?_
  refine ow_end rfl ?_
  refine ew_then ?_
  obtain ⟨v23, hF, hK23⟩ := thru_some hF
  refine cw_mid (fun a w => .inl () = v23 ∧ Fr 71 [(1, .string x1), (2, .pointer (some ⟨b21, 0, none⟩))] a ∧ SAT w0 ([imm I, pt b21 #[.int .i64 x0.Size, .slice p0 x0.Sides.length c0] 35] ++ F0) w) ?_ ?_
  · refine cw_seq ?_
    refine cw_region ?_
    refine ow_vals 1 (j := 1) [1, 2, 8] [(1, .string x1), (2, .pointer (some ⟨b21, 0, none⟩)), (8, .pointer (some ⟨b21, 1, none⟩))] rfl (by kernel_rfl) ?_
    refine ow_pw rfl (pw_quiet (v := .slice p0 x0.Sides.length c0) rfl rfl rfl rfl (q_load 0 rfl rfl rfl (by kernel_rfl)) (nw_ow ?_))
    refine ow_vals 1 (j := 3) [1, 2, 10] [(1, .string x1), (2, .pointer (some ⟨b21, 0, none⟩)), (10, .int .i64 (x0.Sides.length : Int))] rfl (by kernel_rfl) ?_
    refine ow_end rfl ?_
    refine ew_then ?_
    refine cw_block ?_
    refine cw_seq ?_
    refine cw_region ?_
    refine ow_vals 2 (j := 2) [1, 2, 10, 11] [(1, .string x1), (2, .pointer (some ⟨b21, 0, none⟩)), (10, .int .i64 (x0.Sides.length : Int)), (11, .bool ((x0.Sides.length : Int) == 0))] rfl (by kernel_rfl) ?_
    refine ow_end rfl ?_
    refine ew_then ?_
    rcases if_some hF with ⟨h24, hF⟩ | ⟨h24, hF⟩
    · refine cw_cond_t rfl rfl h24 ?_
      refine cw_seq ?_
      refine cw_region ?_
      refine ow_vals 1 (j := 1) [13] [(13, .pointer (some ⟨b21, 0, none⟩))] rfl (by kernel_rfl) ?_
      refine ow_pw rfl (pw_quiet (v := .int .i64 x0.Size) rfl rfl rfl rfl (q_load 0 rfl rfl rfl (by kernel_rfl)) (nw_ow ?_))
      refine ow_vals 2 (j := 4) [4] [(4, .bool (x0.Size == 0))] rfl (by kernel_rfl) ?_
      refine ow_end rfl ?_
      refine ew_then ?_
      refine cw_ret ?_
      refine ew_blk_ret ?_
      refine ew_then_ret ?_
      have hR := Option.some.inj hF
      subst hR
      have hR := hK23
      try dsimp only [Thru] at hR
      subst hR
      exact fin1 (H1 := [imm I]) (fun w hs => sat_to [0, 0] 1 rfl hs) rfl (rr_tmp rfl) ⟨rfl, rfl⟩
    refine cw_cond_f rfl rfl h24 ?_
    refine cw_seq ?_
    refine cw_region ?_
    refine ow_vals 2 (j := 2) [1, 2, 16] [(1, .string x1), (2, .pointer (some ⟨b21, 0, none⟩)), (16, .bool ((x0.Sides.length : Int) == 1))] rfl (by kernel_rfl) ?_
    refine ow_end rfl ?_
    refine ew_then ?_
    rcases if_some hF with ⟨h25, hF⟩ | ⟨h25, hF⟩
    · refine cw_cond_t rfl rfl h25 ?_
      refine cw_seq ?_
      refine cw_region ?_
      refine ow_vals 1 (j := 1) [1, 2, 18] [(1, .string x1), (2, .pointer (some ⟨b21, 0, none⟩)), (18, .pointer (some ⟨b21, 1, none⟩))] rfl (by kernel_rfl) ?_
      refine ow_pw rfl (pw_quiet (v := .slice p0 x0.Sides.length c0) rfl rfl rfl rfl (q_load 0 rfl rfl rfl (by kernel_rfl)) (nw_ow ?_))
      obtain ⟨y26, h27, hF⟩ := bind_some hF
      refine ow_pw rfl (pw_index_roN (E := 43) 3 hr0 rfl rfl rfl rfl rfl (by kernel_rfl) rfl rfl rfl h27 fun q28 h29 => nw_ow ?_)
      obtain ⟨r30, h31, h32, h33⟩ := (id h29)
      have h34 : ro I eStr r30.Path.p r30.Path.c y26.Path := by subst h32; exact h33
      refine ow_pw rfl (pw_quiet (v := .agg #[.int .i64 y26.Index, .string y26.ID, .slice r30.Path.p y26.Path.length r30.Path.c]) rfl rfl rfl rfl (q_load_el0 1 rfl h31 rfl rfl (by subst h32; kernel_rfl)) (nw_ow ?_))
      refine ow_pw rfl (pw_alloc (cs := #[.int .i64 0, .string (ByteArray.mk #[]), .slice none 0 0]) rfl rfl rfl rfl rfl (by kernel_rfl) fun b35 => nw_ow ?_)
      refine ow_pw rfl (pw_store 0 #[.int .i64 y26.Index, .string y26.ID, .slice r30.Path.p y26.Path.length r30.Path.c] rfl rfl rfl rfl rfl rfl rfl (by kernel_rfl) (nw_H (H' := [pt b35 #[.int .i64 y26.Index, .string y26.ID, .slice r30.Path.p y26.Path.length r30.Path.c] 43, pt b21 #[.int .i64 x0.Size, .slice p0 x0.Sides.length c0] 35, imm I] ++ F0) rfl (nw_ow ?_)))
      refine ow_end rfl ?_
      refine ew_then ?_
      refine cw_seq ?_
      refine cw_region ?_
      refine ow_vals 1 (j := 1) [1, 2, 5, 22] [(1, .string x1), (2, .pointer (some ⟨b21, 0, none⟩)), (5, .pointer (some ⟨b35, 0, none⟩)), (22, .pointer (some ⟨b35, 1, none⟩))] rfl (by kernel_rfl) ?_
      refine ow_pw rfl (pw_quiet (v := .string y26.ID) rfl rfl rfl rfl (q_load 0 rfl rfl rfl (by kernel_rfl)) (nw_ow ?_))
      refine ow_vals 3 (j := 5) [1, 2, 5, 26] [(1, .string x1), (2, .pointer (some ⟨b21, 0, none⟩)), (5, .pointer (some ⟨b35, 0, none⟩)), (26, .bool (sltB y26.ID x1))] rfl (by kernel_rfl) ?_
      rcases if_some hF with ⟨h37, hF⟩ | ⟨h37, hF⟩
      · refine ow_slots (L' := [(1, .string x1), (2, .pointer (some ⟨b21, 0, none⟩)), (5, .pointer (some ⟨b35, 0, none⟩)), (26, .bool true)]) (by rw [h37]) ?_
        refine ow_vals 1 (j := 6) [1, 2, 5, 26, 27] [(1, .string x1), (2, .pointer (some ⟨b21, 0, none⟩)), (5, .pointer (some ⟨b35, 0, none⟩)), (26, .bool true), (27, .pointer (some ⟨b35, 0, none⟩))] rfl (by kernel_rfl) ?_
        refine ow_pw rfl (pw_quiet (v := .int .i64 y26.Index) rfl rfl rfl rfl (q_load 0 rfl rfl rfl (by kernel_rfl)) (nw_ow ?_))
        refine ow_vals 1 (j := 8) [1, 5, 26, 28, 29] [(1, .string x1), (5, .pointer (some ⟨b35, 0, none⟩)), (26, .bool true), (28, .int .i64 y26.Index), (29, .pointer (some ⟨b21, 0, none⟩))] rfl (by kernel_rfl) ?_
        refine ow_pw rfl (pw_quiet (v := .int .i64 x0.Size) rfl rfl rfl rfl (q_load 1 rfl rfl rfl (by kernel_rfl)) (nw_ow ?_))
        refine ow_vals 4 (j := 13) [1, 5, 34] [(1, .string x1), (5, .pointer (some ⟨b35, 0, none⟩)), (34, .bool (y26.Index == (IntKind.i64.wrap (x0.Size - 1))))] rfl (by kernel_rfl) ?_
        rcases if_some hF with ⟨h38, hF⟩ | ⟨h38, hF⟩
        · refine ow_slots (L' := [(1, .string x1), (5, .pointer (some ⟨b35, 0, none⟩)), (34, .bool true)]) (by rw [h38]) ?_
          refine ow_vals 11 (j := 24) [4] [(4, .bool true)] rfl (by kernel_rfl) ?_
          refine ow_end rfl ?_
          refine ew_then ?_
          refine cw_ret ?_
          refine ew_blk_ret ?_
          refine ew_then_ret ?_
          have hR := Option.some.inj hF
          subst hR
          have hR := hK23
          try dsimp only [Thru] at hR
          subst hR
          exact fin1 (H1 := [imm I]) (fun w hs => sat_to [0, 0, 0] 2 rfl hs) rfl (rr_tmp rfl) ⟨rfl, rfl⟩
        refine ow_slots (L' := [(1, .string x1), (5, .pointer (some ⟨b35, 0, none⟩)), (34, .bool false)]) (by rw [h38]) ?_
        refine ow_vals 1 (j := 14) [1, 5, 34, 35] [(1, .string x1), (5, .pointer (some ⟨b35, 0, none⟩)), (34, .bool false), (35, .pointer (some ⟨b35, 1, none⟩))] rfl (by kernel_rfl) ?_
        refine ow_pw rfl (pw_quiet (v := .string y26.ID) rfl rfl rfl rfl (q_load 0 rfl rfl rfl (by kernel_rfl)) (nw_ow ?_))
        refine ow_vals 3 (j := 18) [5, 34, 39] [(5, .pointer (some ⟨b35, 0, none⟩)), (34, .bool false), (39, .bool (!((sltB y26.ID x1) || (seqB y26.ID x1))))] rfl (by kernel_rfl) ?_
        rcases if_some hF with ⟨h39, hF⟩ | ⟨h39, hF⟩
        · refine ow_slots (L' := [(5, .pointer (some ⟨b35, 0, none⟩)), (34, .bool false), (39, .bool true)]) (by rw [h39]) ?_
          refine ow_vals 1 (j := 19) [34, 39, 40] [(34, .bool false), (39, .bool true), (40, .pointer (some ⟨b35, 0, none⟩))] rfl (by kernel_rfl) ?_
          refine ow_pw rfl (pw_quiet (v := .int .i64 y26.Index) rfl rfl rfl rfl (q_load 0 rfl rfl rfl (by kernel_rfl)) (nw_ow ?_))
          refine ow_vals 4 (j := 24) [4] [(4, .bool (y26.Index == 0))] rfl (by kernel_rfl) ?_
          refine ow_end rfl ?_
          refine ew_then ?_
          refine cw_ret ?_
          refine ew_blk_ret ?_
          refine ew_then_ret ?_
          have hR := Option.some.inj hF
          subst hR
          have hR := hK23
          try dsimp only [Thru] at hR
          subst hR
          exact fin1 (H1 := [imm I]) (fun w hs => sat_to [0, 0, 0] 2 rfl hs) rfl (rr_tmp rfl) ⟨rfl, rfl⟩
        refine ow_slots (L' := [(5, .pointer (some ⟨b35, 0, none⟩)), (34, .bool false), (39, .bool false)]) (by rw [h39]) ?_
        refine ow_vals 6 (j := 24) [4] [(4, .bool false)] rfl (by kernel_rfl) ?_
        refine ow_end rfl ?_
        refine ew_then ?_
        refine cw_ret ?_
        refine ew_blk_ret ?_
        refine ew_then_ret ?_
        have hR := Option.some.inj hF
        subst hR
        have hR := hK23
        try dsimp only [Thru] at hR
        subst hR
        exact fin1 (H1 := [imm I]) (fun w hs => sat_to [0, 0, 0] 2 rfl hs) rfl (rr_tmp rfl) ⟨rfl, rfl⟩
      refine ow_slots (L' := [(1, .string x1), (2, .pointer (some ⟨b21, 0, none⟩)), (5, .pointer (some ⟨b35, 0, none⟩)), (26, .bool false)]) (by rw [h37]) ?_
      refine ow_vals 9 (j := 14) [1, 5, 34, 35] [(1, .string x1), (5, .pointer (some ⟨b35, 0, none⟩)), (34, .bool false), (35, .pointer (some ⟨b35, 1, none⟩))] rfl (by kernel_rfl) ?_
      refine ow_pw rfl (pw_quiet (v := .string y26.ID) rfl rfl rfl rfl (q_load 0 rfl rfl rfl (by kernel_rfl)) (nw_ow ?_))
      refine ow_vals 3 (j := 18) [5, 34, 39] [(5, .pointer (some ⟨b35, 0, none⟩)), (34, .bool false), (39, .bool (!((sltB y26.ID x1) || (seqB y26.ID x1))))] rfl (by kernel_rfl) ?_
      rcases if_some hF with ⟨h40, hF⟩ | ⟨h40, hF⟩
      · refine ow_slots (L' := [(5, .pointer (some ⟨b35, 0, none⟩)), (34, .bool false), (39, .bool true)]) (by rw [h40]) ?_
        refine ow_vals 1 (j := 19) [34, 39, 40] [(34, .bool false), (39, .bool true), (40, .pointer (some ⟨b35, 0, none⟩))] rfl (by kernel_rfl) ?_
        refine ow_pw rfl (pw_quiet (v := .int .i64 y26.Index) rfl rfl rfl rfl (q_load 0 rfl rfl rfl (by kernel_rfl)) (nw_ow ?_))
        refine ow_vals 4 (j := 24) [4] [(4, .bool (y26.Index == 0))] rfl (by kernel_rfl) ?_
        refine ow_end rfl ?_
        refine ew_then ?_
        refine cw_ret ?_
        refine ew_blk_ret ?_
        refine ew_then_ret ?_
        have hR := Option.some.inj hF
        subst hR
        have hR := hK23
        try dsimp only [Thru] at hR
        subst hR
        exact fin1 (H1 := [imm I]) (fun w hs => sat_to [0, 0, 0] 2 rfl hs) rfl (rr_tmp rfl) ⟨rfl, rfl⟩
      refine ow_slots (L' := [(5, .pointer (some ⟨b35, 0, none⟩)), (34, .bool false), (39, .bool false)]) (by rw [h40]) ?_
      refine ow_vals 6 (j := 24) [4] [(4, .bool false)] rfl (by kernel_rfl) ?_
      refine ow_end rfl ?_
      refine ew_then ?_
      refine cw_ret ?_
      refine ew_blk_ret ?_
      refine ew_then_ret ?_
      have hR := Option.some.inj hF
      subst hR
      have hR := hK23
      try dsimp only [Thru] at hR
      subst hR
      exact fin1 (H1 := [imm I]) (fun w hs => sat_to [0, 0, 0] 2 rfl hs) rfl (rr_tmp rfl) ⟨rfl, rfl⟩
    refine cw_cond_f rfl rfl h25 ?_
    refine cw_skip ?_
    refine ew_blk ?_
    have hR := Option.some.inj hF
    exact fun a w hf hs => ⟨hR, hf.keep [1, 2], sat_to [1, 0] 0 rfl hs⟩
  rintro a w ⟨hv, hf, hs⟩
  subst hv
  replace hF := hK23
  clear hK23
  try dsimp only [Thru] at hF
  revert a w
  show CW _ _ _ 71 [(1, .string x1), (2, .pointer (some ⟨b21, 0, none⟩))] (SAT w0 ([imm I, pt b21 #[.int .i64 x0.Size, .slice p0 x0.Sides.length c0] 35] ++ F0))
  unfold F.absent_between.r1 at hF
  refine cw_seq ?_
  refine cw_open 11 (SAT w0 ([imm I, pt b21 #[.int .i64 x0.Size, .slice p0 x0.Sides.length c0] 35])) (by kernel_rfl) (f := 12) rfl (fun w hs => sat_drew hs) ?_
  refine aw_vals [0, 4] (f' := 10) (m' := 17) [1, 45, 49] [(1, .string x1), (45, .pointer (some ⟨b21, 1, none⟩)), (49, .pointer (some ⟨b21, 1, none⟩))] (fun _ _ _ _ _ h => calm_fin (P := Try.prog) (fn := Try.f44) _ _ _ _ _ h) (fun w hs => sat_pulls [0, 0] (G := [] ++ F0) rfl hs) rfl (by kernel_rfl) ?_
  refine aw_quiet 1 (m' := 19) (v := .slice p0 x0.Sides.length c0) 1 [] rfl rfl rfl rfl (by kernel_rfl) (by kernel_rfl) (by kernel_rfl) (fun _ _ _ _ _ h => calm_fin (P := Try.prog) (fn := Try.f44) _ _ _ _ _ h) (fun w hs => sat_pulls [0, 0] (G := [] ++ F0) rfl hs) (q_load 1 rfl rfl rfl (by kernel_rfl)) ?_
  obtain ⟨y41, h42, hF⟩ := bind_some hF
  refine aw_index_roN (E := 43) 2 (m' := 23) 3 hr0 rfl rfl rfl rfl rfl (by kernel_rfl) (by kernel_rfl) (fun _ _ _ _ _ h => calm_fin (P := Try.prog) (fn := Try.f44) _ _ _ _ _ h) (fun w hs => sat_pulls [0, 0] (G := [] ++ F0) rfl hs) (by kernel_rfl) rfl rfl rfl h42 fun q43 h44 => ?_
  obtain ⟨r45, h46, h47, h48⟩ := (id h44)
  have h49 : ro I eStr r45.Path.p r45.Path.c y41.Path := by subst h47; exact h48
  refine aw_quiet 3 (m' := 31) (v := .agg #[.int .i64 y41.Index, .string y41.ID, .slice r45.Path.p y41.Path.length r45.Path.c]) 3 [] rfl rfl rfl rfl (by kernel_rfl) (by kernel_rfl) (by kernel_rfl) (fun _ _ _ _ _ h => calm_fin (P := Try.prog) (fn := Try.f44) _ _ _ _ _ h) (fun w hs => sat_pulls [0, 0] (G := [] ++ F0) rfl hs) (q_load_el0 0 rfl h46 rfl rfl (by subst h47; kernel_rfl)) ?_
  refine aw_quiet 5 (m' := 63) (v := .slice p0 x0.Sides.length c0) 5 [] rfl rfl rfl rfl (by kernel_rfl) (by kernel_rfl) (by kernel_rfl) (fun _ _ _ _ _ h => calm_fin (P := Try.prog) (fn := Try.f44) _ _ _ _ _ h) (fun w hs => sat_pulls [0, 0] (G := [] ++ F0) rfl hs) (q_load 1 rfl rfl rfl (by kernel_rfl)) ?_
  obtain ⟨y50, h51, hF⟩ := bind_some hF
  refine aw_index_roN (E := 43) 6 (m' := 127) 3 hr0 rfl rfl rfl rfl rfl (by kernel_rfl) (by kernel_rfl) (fun _ _ _ _ _ h => calm_fin (P := Try.prog) (fn := Try.f44) _ _ _ _ _ h) (fun w hs => sat_pulls [0, 0] (G := [] ++ F0) rfl hs) (by kernel_rfl) rfl rfl rfl h51 fun q52 h53 => ?_
  obtain ⟨r54, h55, h56, h57⟩ := (id h53)
  have h58 : ro I eStr r54.Path.p r54.Path.c y50.Path := by subst h56; exact h57
  refine aw_quiet 7 (m' := 255) (v := .agg #[.int .i64 y50.Index, .string y50.ID, .slice r54.Path.p y50.Path.length r54.Path.c]) 7 [] rfl rfl rfl rfl (by kernel_rfl) (by kernel_rfl) (by kernel_rfl) (fun _ _ _ _ _ h => calm_fin (P := Try.prog) (fn := Try.f44) _ _ _ _ _ h) (fun w hs => sat_pulls [0, 0] (G := [] ++ F0) rfl hs) (q_load_el0 0 rfl h55 rfl rfl (by subst h56; kernel_rfl)) ?_
  refine aw_two 8 9 (mi := 511) (mj := 767) (by kernel_rfl) (by kernel_rfl) (by kernel_rfl) ?_ ?_
  · refine pw_alloc (cs := #[.int .i64 0, .string (ByteArray.mk #[]), .slice none 0 0]) rfl rfl rfl rfl rfl (by kernel_rfl) fun b63 => aw_next (fun w hs => sat_pulls [1, 1] (G := [pt b63 #[.int .i64 0, .string (ByteArray.mk #[]), .slice none 0 0] 43] ++ F0) rfl hs) ?_
    refine aw_only 9 (m' := 1023) (by kernel_rfl) (by kernel_rfl) (pw_alloc (cs := #[.int .i64 0, .string (ByteArray.mk #[]), .slice none 0 0]) rfl rfl rfl rfl rfl (by kernel_rfl) fun b65 => aw_next (fun w hs => sat_pulls [2, 2] (G := [pt b65 #[.int .i64 0, .string (ByteArray.mk #[]), .slice none 0 0] 43, pt b63 #[.int .i64 0, .string (ByteArray.mk #[]), .slice none 0 0] 43] ++ F0) rfl hs) ?_)
    refine aw_only 10 (m' := 2047) (by kernel_rfl) (by kernel_rfl) (pw_store 1 #[.int .i64 y41.Index, .string y41.ID, .slice r45.Path.p y41.Path.length r45.Path.c] rfl rfl rfl rfl rfl rfl rfl (by kernel_rfl) (nw_H (H' := [pt b65 #[.int .i64 0, .string (ByteArray.mk #[]), .slice none 0 0] 43, pt b63 #[.int .i64 y41.Index, .string y41.ID, .slice r45.Path.p y41.Path.length r45.Path.c] 43, imm I, pt b21 #[.int .i64 x0.Size, .slice p0 x0.Sides.length c0] 35] ++ F0) rfl (aw_next (fun w hs => sat_pulls [2, 2] (G := [pt b65 #[.int .i64 0, .string (ByteArray.mk #[]), .slice none 0 0] 43, pt b63 #[.int .i64 y41.Index, .string y41.ID, .slice r45.Path.p y41.Path.length r45.Path.c] 43] ++ F0) rfl hs) ?_)))
    refine aw_only 11 (m' := 4095) (by kernel_rfl) (by kernel_rfl) (pw_store 0 #[.int .i64 y50.Index, .string y50.ID, .slice r54.Path.p y50.Path.length r54.Path.c] rfl rfl rfl rfl rfl rfl rfl (by kernel_rfl) (nw_H (H' := [pt b65 #[.int .i64 y50.Index, .string y50.ID, .slice r54.Path.p y50.Path.length r54.Path.c] 43, pt b63 #[.int .i64 y41.Index, .string y41.ID, .slice r45.Path.p y41.Path.length r45.Path.c] 43, imm I, pt b21 #[.int .i64 x0.Size, .slice p0 x0.Sides.length c0] 35] ++ F0) rfl (aw_last (by kernel_rfl) ?_)))
    refine aw_keep [1, 6, 7] (L' := [(1, .string x1), (6, .pointer (some ⟨b63, 0, none⟩)), (7, .pointer (some ⟨b65, 0, none⟩))]) rfl ?_
    refine aw_end (by kernel_rfl) ?_
    refine ew_then ?_
    refine cw_seq ?_
    refine cw_region ?_
    refine ow_vals 1 (j := 1) [1, 6, 7, 53] [(1, .string x1), (6, .pointer (some ⟨b63, 0, none⟩)), (7, .pointer (some ⟨b65, 0, none⟩)), (53, .pointer (some ⟨b63, 1, none⟩))] rfl (by kernel_rfl) ?_
    refine ow_pw rfl (pw_quiet (v := .string y41.ID) rfl rfl rfl rfl (q_load 1 rfl rfl rfl (by kernel_rfl)) (nw_ow ?_))
    refine ow_vals 3 (j := 5) [1, 6, 7, 57] [(1, .string x1), (6, .pointer (some ⟨b63, 0, none⟩)), (7, .pointer (some ⟨b65, 0, none⟩)), (57, .bool (sltB y41.ID x1))] rfl (by kernel_rfl) ?_
    rcases if_some hF with ⟨h67, hF⟩ | ⟨h67, hF⟩
    · refine ow_slots (L' := [(1, .string x1), (6, .pointer (some ⟨b63, 0, none⟩)), (7, .pointer (some ⟨b65, 0, none⟩)), (57, .bool true)]) (by rw [h67]) ?_
      refine ow_vals 2 (j := 7) [6, 7, 57, 58, 59] [(6, .pointer (some ⟨b63, 0, none⟩)), (7, .pointer (some ⟨b65, 0, none⟩)), (57, .bool true), (58, .string x1), (59, .pointer (some ⟨b65, 1, none⟩))] rfl (by kernel_rfl) ?_
      refine ow_pw rfl (pw_quiet (v := .string y50.ID) rfl rfl rfl rfl (q_load 0 rfl rfl rfl (by kernel_rfl)) (nw_ow ?_))
      refine ow_vals 3 (j := 11) [6, 7, 63] [(6, .pointer (some ⟨b63, 0, none⟩)), (7, .pointer (some ⟨b65, 0, none⟩)), (63, .bool (sltB x1 y50.ID))] rfl (by kernel_rfl) ?_
      rcases if_some hF with ⟨h68, hF⟩ | ⟨h68, hF⟩
      · refine ow_slots (L' := [(6, .pointer (some ⟨b63, 0, none⟩)), (7, .pointer (some ⟨b65, 0, none⟩)), (63, .bool true)]) (by rw [h68]) ?_
        refine ow_vals 1 (j := 12) [6, 63, 64] [(6, .pointer (some ⟨b63, 0, none⟩)), (63, .bool true), (64, .pointer (some ⟨b65, 0, none⟩))] rfl (by kernel_rfl) ?_
        refine ow_pw rfl (pw_quiet (v := .int .i64 y50.Index) rfl rfl rfl rfl (q_load 0 rfl rfl rfl (by kernel_rfl)) (nw_ow ?_))
        refine ow_vals 2 (j := 15) [63, 66, 67] [(63, .bool true), (66, .int .i64 (IntKind.i64.wrap (y50.Index - 1))), (67, .pointer (some ⟨b63, 0, none⟩))] rfl (by kernel_rfl) ?_
        refine ow_pw rfl (pw_quiet (v := .int .i64 y41.Index) rfl rfl rfl rfl (q_load 1 rfl rfl rfl (by kernel_rfl)) (nw_ow ?_))
        refine ow_vals 3 (j := 19) [4] [(4, .bool ((IntKind.i64.wrap (y50.Index - 1)) == y41.Index))] rfl (by kernel_rfl) ?_
        refine ow_end rfl ?_
        refine ew_then ?_
        refine cw_ret ?_
        have hR := Option.some.inj hF
        subst hR
        exact fin1 (H1 := [imm I]) (fun w hs => sat_to [0, 0, 1, 0] 3 rfl hs) rfl (rr_tmp rfl) ⟨rfl, rfl⟩
      refine ow_slots (L' := [(6, .pointer (some ⟨b63, 0, none⟩)), (7, .pointer (some ⟨b65, 0, none⟩)), (63, .bool false)]) (by rw [h68]) ?_
      refine ow_vals 8 (j := 19) [4] [(4, .bool false)] rfl (by kernel_rfl) ?_
      refine ow_end rfl ?_
      refine ew_then ?_
      refine cw_ret ?_
      have hR := Option.some.inj hF
      subst hR
      exact fin1 (H1 := [imm I]) (fun w hs => sat_to [0, 0, 1, 0] 3 rfl hs) rfl (rr_tmp rfl) ⟨rfl, rfl⟩
    refine ow_slots (L' := [(1, .string x1), (6, .pointer (some ⟨b63, 0, none⟩)), (7, .pointer (some ⟨b65, 0, none⟩)), (57, .bool false)]) (by rw [h67]) ?_
    refine ow_vals 14 (j := 19) [4] [(4, .bool false)] rfl (by kernel_rfl) ?_
    refine ow_end rfl ?_
    refine ew_then ?_
    refine cw_ret ?_
    have hR := Option.some.inj hF
    subst hR
    exact fin1 (H1 := [imm I]) (fun w hs => sat_to [0, 0, 1, 0] 3 rfl hs) rfl (rr_tmp rfl) ⟨rfl, rfl⟩
  refine pw_alloc (cs := #[.int .i64 0, .string (ByteArray.mk #[]), .slice none 0 0]) rfl rfl rfl rfl rfl (by kernel_rfl) fun b63 => aw_next (fun w hs => sat_pulls [1, 1] (G := [pt b63 #[.int .i64 0, .string (ByteArray.mk #[]), .slice none 0 0] 43] ++ F0) rfl hs) ?_
  refine aw_only 8 (m' := 1023) (by kernel_rfl) (by kernel_rfl) (pw_alloc (cs := #[.int .i64 0, .string (ByteArray.mk #[]), .slice none 0 0]) rfl rfl rfl rfl rfl (by kernel_rfl) fun b65 => aw_next (fun w hs => sat_pulls [2, 2] (G := [pt b65 #[.int .i64 0, .string (ByteArray.mk #[]), .slice none 0 0] 43, pt b63 #[.int .i64 0, .string (ByteArray.mk #[]), .slice none 0 0] 43] ++ F0) rfl hs) ?_)
  refine aw_only 10 (m' := 2047) (by kernel_rfl) (by kernel_rfl) (pw_store 0 #[.int .i64 y41.Index, .string y41.ID, .slice r45.Path.p y41.Path.length r45.Path.c] rfl rfl rfl rfl rfl rfl rfl (by kernel_rfl) (nw_H (H' := [pt b65 #[.int .i64 y41.Index, .string y41.ID, .slice r45.Path.p y41.Path.length r45.Path.c] 43, pt b63 #[.int .i64 0, .string (ByteArray.mk #[]), .slice none 0 0] 43, imm I, pt b21 #[.int .i64 x0.Size, .slice p0 x0.Sides.length c0] 35] ++ F0) rfl (aw_next (fun w hs => sat_pulls [2, 2] (G := [pt b65 #[.int .i64 y41.Index, .string y41.ID, .slice r45.Path.p y41.Path.length r45.Path.c] 43, pt b63 #[.int .i64 0, .string (ByteArray.mk #[]), .slice none 0 0] 43] ++ F0) rfl hs) ?_)))
  refine aw_only 11 (m' := 4095) (by kernel_rfl) (by kernel_rfl) (pw_store 1 #[.int .i64 y50.Index, .string y50.ID, .slice r54.Path.p y50.Path.length r54.Path.c] rfl rfl rfl rfl rfl rfl rfl (by kernel_rfl) (nw_H (H' := [pt b65 #[.int .i64 y41.Index, .string y41.ID, .slice r45.Path.p y41.Path.length r45.Path.c] 43, pt b63 #[.int .i64 y50.Index, .string y50.ID, .slice r54.Path.p y50.Path.length r54.Path.c] 43, imm I, pt b21 #[.int .i64 x0.Size, .slice p0 x0.Sides.length c0] 35] ++ F0) rfl (aw_last (by kernel_rfl) ?_)))
  refine aw_keep [1, 6, 7] (L' := [(1, .string x1), (6, .pointer (some ⟨b65, 0, none⟩)), (7, .pointer (some ⟨b63, 0, none⟩))]) rfl ?_
  refine aw_end (by kernel_rfl) ?_
  refine ew_then ?_
  refine cw_seq ?_
  refine cw_region ?_
  refine ow_vals 1 (j := 1) [1, 6, 7, 53] [(1, .string x1), (6, .pointer (some ⟨b65, 0, none⟩)), (7, .pointer (some ⟨b63, 0, none⟩)), (53, .pointer (some ⟨b65, 1, none⟩))] rfl (by kernel_rfl) ?_
  refine ow_pw rfl (pw_quiet (v := .string y41.ID) rfl rfl rfl rfl (q_load 0 rfl rfl rfl (by kernel_rfl)) (nw_ow ?_))
  refine ow_vals 3 (j := 5) [1, 6, 7, 57] [(1, .string x1), (6, .pointer (some ⟨b65, 0, none⟩)), (7, .pointer (some ⟨b63, 0, none⟩)), (57, .bool (sltB y41.ID x1))] rfl (by kernel_rfl) ?_
  rcases if_some hF with ⟨h67, hF⟩ | ⟨h67, hF⟩
  · refine ow_slots (L' := [(1, .string x1), (6, .pointer (some ⟨b65, 0, none⟩)), (7, .pointer (some ⟨b63, 0, none⟩)), (57, .bool true)]) (by rw [h67]) ?_
    refine ow_vals 2 (j := 7) [6, 7, 57, 58, 59] [(6, .pointer (some ⟨b65, 0, none⟩)), (7, .pointer (some ⟨b63, 0, none⟩)), (57, .bool true), (58, .string x1), (59, .pointer (some ⟨b63, 1, none⟩))] rfl (by kernel_rfl) ?_
    refine ow_pw rfl (pw_quiet (v := .string y50.ID) rfl rfl rfl rfl (q_load 1 rfl rfl rfl (by kernel_rfl)) (nw_ow ?_))
    refine ow_vals 3 (j := 11) [6, 7, 63] [(6, .pointer (some ⟨b65, 0, none⟩)), (7, .pointer (some ⟨b63, 0, none⟩)), (63, .bool (sltB x1 y50.ID))] rfl (by kernel_rfl) ?_
    rcases if_some hF with ⟨h68, hF⟩ | ⟨h68, hF⟩
    · refine ow_slots (L' := [(6, .pointer (some ⟨b65, 0, none⟩)), (7, .pointer (some ⟨b63, 0, none⟩)), (63, .bool true)]) (by rw [h68]) ?_
      refine ow_vals 1 (j := 12) [6, 63, 64] [(6, .pointer (some ⟨b65, 0, none⟩)), (63, .bool true), (64, .pointer (some ⟨b63, 0, none⟩))] rfl (by kernel_rfl) ?_
      refine ow_pw rfl (pw_quiet (v := .int .i64 y50.Index) rfl rfl rfl rfl (q_load 1 rfl rfl rfl (by kernel_rfl)) (nw_ow ?_))
      refine ow_vals 2 (j := 15) [63, 66, 67] [(63, .bool true), (66, .int .i64 (IntKind.i64.wrap (y50.Index - 1))), (67, .pointer (some ⟨b65, 0, none⟩))] rfl (by kernel_rfl) ?_
      refine ow_pw rfl (pw_quiet (v := .int .i64 y41.Index) rfl rfl rfl rfl (q_load 0 rfl rfl rfl (by kernel_rfl)) (nw_ow ?_))
      refine ow_vals 3 (j := 19) [4] [(4, .bool ((IntKind.i64.wrap (y50.Index - 1)) == y41.Index))] rfl (by kernel_rfl) ?_
      refine ow_end rfl ?_
      refine ew_then ?_
      refine cw_ret ?_
      have hR := Option.some.inj hF
      subst hR
      exact fin1 (H1 := [imm I]) (fun w hs => sat_to [0, 0, 1, 0] 3 rfl hs) rfl (rr_tmp rfl) ⟨rfl, rfl⟩
    refine ow_slots (L' := [(6, .pointer (some ⟨b65, 0, none⟩)), (7, .pointer (some ⟨b63, 0, none⟩)), (63, .bool false)]) (by rw [h68]) ?_
    refine ow_vals 8 (j := 19) [4] [(4, .bool false)] rfl (by kernel_rfl) ?_
    refine ow_end rfl ?_
    refine ew_then ?_
    refine cw_ret ?_
    have hR := Option.some.inj hF
    subst hR
    exact fin1 (H1 := [imm I]) (fun w hs => sat_to [0, 0, 1, 0] 3 rfl hs) rfl (rr_tmp rfl) ⟨rfl, rfl⟩
  refine ow_slots (L' := [(1, .string x1), (6, .pointer (some ⟨b65, 0, none⟩)), (7, .pointer (some ⟨b63, 0, none⟩)), (57, .bool false)]) (by rw [h67]) ?_
  refine ow_vals 14 (j := 19) [4] [(4, .bool false)] rfl (by kernel_rfl) ?_
  refine ow_end rfl ?_
  refine ew_then ?_
  refine cw_ret ?_
  have hR := Option.some.inj hF
  subst hR
  exact fin1 (H1 := [imm I]) (fun w hs => sat_to [0, 0, 1, 0] 3 rfl hs) rfl (rr_tmp rfl) ⟨rfl, rfl⟩


def F.absent_Check.r1 (x1 : ByteArray) (x2 : Int) (m0 : mill_Mill) (x31 : Bool) : Option (((List (ByteArray × ByteArray)) × (List (ByteArray × ByteArray)) × ByteArray × ByteArray × Bool × Bool × Int) ⊕ (Bool × Int × mill_Mill)) :=
  if x31 then (some (.inr ((false, 21, m0)))) else (if x2 == 0 then (Option.bind (F.pledge_None m0) (fun (r34 : ByteArray × mill_Mill) => if !(seqB x1 r34.1) then (some (.inr ((false, 19, r34.2)))) else (some (.inl (r34.2.table_, r34.2.notes_, r34.2.twins_.e0, r34.2.twins_.e1, r34.2.found_, r34.2.full_, r34.2.sums_))))) else (some (.inl (m0.table_, m0.notes_, m0.twins_.e0, m0.twins_.e1, m0.found_, m0.full_, m0.sums_))))
def F.absent_Check.l3 (x1 : ByteArray) (x2 : Int) (x4 : absent_Proof) (x54 : Int) (l55 : List (ByteArray × ByteArray)) (l58 : List (ByteArray × ByteArray)) (s61 : ByteArray) (s62 : ByteArray) (x63 : Bool) (x64 : Bool) (x65 : Int) : Option ((Int × (List (ByteArray × ByteArray)) × (List (ByteArray × ByteArray)) × ByteArray × ByteArray × Bool × Bool × Int) ⊕ (((List (ByteArray × ByteArray)) × (List (ByteArray × ByteArray)) × ByteArray × ByteArray × Bool × Bool × Int) ⊕ (Bool × Int × mill_Mill))) :=
  if decide (x54 < (x4.Sides.length : Int)) then (Option.bind (at_ x4.Sides x54) (fun (y67 : absent_Side) => Option.bind (F.absent_stands x1 x2 y67 (⟨l55, l58, (⟨s61, s62⟩ : A2_ByteArray), x63, x64, x65⟩ : mill_Mill)) (fun (r78 : Int × mill_Mill) => if r78.1 != 0 then (some (.inr (.inr ((false, r78.1, r78.2))))) else (some (.inl (IntKind.i64.wrap (x54 + 1), r78.2.table_, r78.2.notes_, r78.2.twins_.e0, r78.2.twins_.e1, r78.2.found_, r78.2.full_, r78.2.sums_)))))) else (some (.inr (.inl (l55, l58, s61, s62, x63, x64, x65))))
def F.absent_Check.r5 (x3 : ByteArray) (x4 : absent_Proof) (l85 : List (ByteArray × ByteArray)) (l88 : List (ByteArray × ByteArray)) (s91 : ByteArray) (s92 : ByteArray) (x93 : Bool) (x94 : Bool) (x95 : Int) : Option (Bool × Int × mill_Mill) :=
  Option.bind (F.absent_between x4 x3) (fun (r108 : Bool) => if !r108 then (some ((false, 22, (⟨l85, l88, (⟨s91, s92⟩ : A2_ByteArray), x93, x94, x95⟩ : mill_Mill)))) else (some ((false, 0, (⟨l85, l88, (⟨s91, s92⟩ : A2_ByteArray), x93, x94, x95⟩ : mill_Mill)))))
def F.absent_Check.r4 (x3 : ByteArray) (x4 : absent_Proof) (l85 : List (ByteArray × ByteArray)) (l88 : List (ByteArray × ByteArray)) (s91 : ByteArray) (s92 : ByteArray) (x93 : Bool) (x94 : Bool) (x95 : Int) : Option (Bool × Int × mill_Mill) :=
  thru (if (x4.Sides.length : Int) == 1 then (Option.bind (at_ x4.Sides 0) (fun (y98 : absent_Side) => if seqB y98.ID x3 then (some (.inr ((true, 0, (⟨l85, l88, (⟨s91, s92⟩ : A2_ByteArray), x93, x94, x95⟩ : mill_Mill))))) else (some (.inl ())))) else (some (.inl ()))) (fun x => F.absent_Check.r5 x3 x4 l85 l88 s91 s92 x93 x94 x95)
def F.absent_Check.r2 (x1 : ByteArray) (x2 : Int) (x3 : ByteArray) (x4 : absent_Proof) (l39 : List (ByteArray × ByteArray)) (l42 : List (ByteArray × ByteArray)) (s45 : ByteArray) (s46 : ByteArray) (x47 : Bool) (x48 : Bool) (x49 : Int) : Option (Bool × Int × mill_Mill) :=
  thru (iter (fun x => F.absent_Check.l3 x1 x2 x4 x.1 x.2.1 x.2.2.1 x.2.2.2.1 x.2.2.2.2.1 x.2.2.2.2.2.1 x.2.2.2.2.2.2.1 x.2.2.2.2.2.2.2) FUEL (0, l39, l42, s45, s46, x47, x48, x49)) (fun x => F.absent_Check.r4 x3 x4 x.1 x.2.1 x.2.2.1 x.2.2.2.1 x.2.2.2.2.1 x.2.2.2.2.2.1 x.2.2.2.2.2.2)
def F.absent_Check (x1 : ByteArray) (x2 : Int) (x3 : ByteArray) (x4 : absent_Proof) (m0 : mill_Mill) : Option (Bool × Int × mill_Mill) :=
  thru (Option.bind (F.paper_IsID x3) (fun (r24 : Bool) => if !r24 then (some (.inr ((false, 13, m0)))) else (Option.bind (if x4.Size != x2 then (some (true)) else (if decide (x2 < 0) then (some (true)) else (if decide (x2 > 65536) then (some (true)) else (some ((decide ((x4.Sides.length : Int) > 2))))))) (fun x => F.absent_Check.r1 x1 x2 m0 x)))) (fun x => F.absent_Check.r2 x1 x2 x3 x4 x.1 x.2.1 x.2.2.1 x.2.2.2.1 x.2.2.2.2.1 x.2.2.2.2.2.1 x.2.2.2.2.2.2)
set_option maxRecDepth 100000 in
set_option maxHeartbeats 4000000 in
theorem c_absent_Check (I : Hl) (x1 : ByteArray) (x2 : Int) (x3 : ByteArray) (x4 : absent_Proof) (m0 : mill_Mill) (p0 : Option Addr) (c0 : Nat) (p1 : Nat) (p2 : Nat) (b0 : Nat) (res : Bool × Int × mill_Mill) (hF : F.absent_Check x1 x2 x3 x4 m0 = some res) (hr0 : roN I n_absent_Side p0 c0 x4.Sides) : Tr Try.prog 21 [.pointer (some ⟨b0, 0, none⟩), .string x1, .int .i64 x2, .string x3, .agg #[.int .i64 x4.Size, .slice p0 x4.Sides.length c0]] [imm I, pt b0 #[.map (some p1), .map (some p2), .string m0.twins_.e0, .string m0.twins_.e1, .bool m0.found_, .bool m0.full_, .int .i64 m0.sums_] 64, mpo kStr kStr p1 m0.table_, mpo kStr kStr p2 m0.notes_] (fun r H' => ∃ (J : Hl), ∃ (bq1 : Nat), ∃ (bq3 : Nat), r = .tuple #[.bool res.1, .int .i64 res.2.1] ∧ H' = [imm J, pt b0 #[.map (some bq1), .map (some bq3), .string res.2.2.twins_.e0, .string res.2.2.twins_.e1, .bool res.2.2.found_, .bool res.2.2.full_, .int .i64 res.2.2.sums_] 64, mpo kStr kStr bq1 res.2.2.table_, mpo kStr kStr bq3 res.2.2.notes_] ∧ Hl.sub I J) := by
  unfold F.absent_Check at hF
  refine tr_of_cw (fn := Try.f21) Try.func21 rfl (Nat.le_of_ble_eq_true rfl) 80 rfl fun F0 w0 => ?_
  refine cw_keep [0, 1, 2, 3, 4] (L' := [(0, .pointer (some ⟨b0, 0, none⟩)), (1, .string x1), (2, .int .i64 x2), (3, .string x3), (4, .agg #[.int .i64 x4.Size, .slice p0 x4.Sides.length c0])]) rfl ?_
  refine cw_state (S' := SAT w0 ([imm I, pt b0 #[.map (some p1), .map (some p2), .string m0.twins_.e0, .string m0.twins_.e1, .bool m0.found_, .bool m0.full_, .int .i64 m0.sums_] 64, mpo kStr kStr p1 m0.table_, mpo kStr kStr p2 m0.notes_] ++ F0)) (fun w hs => hs) ?_
  refine cw_seq ?_
  refine cw_region ?_
  refine ow_pw rfl (pw_box (cs := #[.int .i64 x4.Size, .slice p0 x4.Sides.length c0]) rfl rfl rfl rfl rfl rfl fun b21 => nw_ow ?_)
  refine ow_vals 2 (j := 3) [0, 1, 2, 3, 9] [(0, .pointer (some ⟨b0, 0, none⟩)), (1, .string x1), (2, .int .i64 x2), (3, .string x3), (9, .pointer (some ⟨b21, 0, none⟩))] rfl (by kernel_rfl) ?_
  refine ow_end rfl ?_
  refine ew_then ?_
  obtain ⟨v23, hF, hK23⟩ := thru_some hF
  refine cw_mid (fun a w => ∃ (l39 : List (ByteArray × ByteArray)), ∃ (l42 : List (ByteArray × ByteArray)), ∃ (s45 : ByteArray), ∃ (s46 : ByteArray), ∃ (x47 : Bool), ∃ (x48 : Bool), ∃ (x49 : Int), ∃ (b41 : Nat), ∃ (b44 : Nat), .inl (l39, l42, s45, s46, x47, x48, x49) = v23 ∧ Fr 80 [(0, .pointer (some ⟨b0, 0, none⟩)), (1, .string x1), (2, .int .i64 x2), (3, .string x3), (9, .pointer (some ⟨b21, 0, none⟩))] a ∧ SAT w0 ([imm I, pt b0 #[.map (some b41), .map (some b44), .string s45, .string s46, .bool x47, .bool x48, .int .i64 x49] 64, pt b21 #[.int .i64 x4.Size, .slice p0 x4.Sides.length c0] 35, mpo kStr kStr b41 l39, mpo kStr kStr b44 l42] ++ F0) w) ?_ ?_
  · refine cw_block ?_
    refine cw_seq ?_
    refine cw_region ?_
    refine ow_vals 1 (j := 1) [0, 1, 2, 3, 9, 16] [(0, .pointer (some ⟨b0, 0, none⟩)), (1, .string x1), (2, .int .i64 x2), (3, .string x3), (9, .pointer (some ⟨b21, 0, none⟩)), (16, .string x3)] rfl (by kernel_rfl) ?_
    obtain ⟨r24, h25, hF⟩ := bind_some hF
    refine ow_pw rfl (pw_call (F := [pt b21 #[.int .i64 x4.Size, .slice p0 x4.Sides.length c0] 35, pt b0 #[.map (some p1), .map (some p2), .string m0.twins_.e0, .string m0.twins_.e1, .bool m0.found_, .bool m0.full_, .int .i64 m0.sums_] 64, mpo kStr kStr p1 m0.table_, mpo kStr kStr p2 m0.notes_] ++ F0) rfl rfl rfl rfl rfl rfl rfl (by kernel_rfl) (perm_of_pulls [1] rfl) (c_paper_IsID _ x3 r24 h25) ?_)
    rintro _ _ ⟨rfl, rfl⟩
    refine nw_H (H' := [imm I, pt b21 #[.int .i64 x4.Size, .slice p0 x4.Sides.length c0] 35, pt b0 #[.map (some p1), .map (some p2), .string m0.twins_.e0, .string m0.twins_.e1, .bool m0.found_, .bool m0.full_, .int .i64 m0.sums_] 64, mpo kStr kStr p1 m0.table_, mpo kStr kStr p2 m0.notes_] ++ F0) rfl (nw_ow ?_)
    refine ow_vals 2 (j := 4) [0, 1, 2, 3, 9, 15] [(0, .pointer (some ⟨b0, 0, none⟩)), (1, .string x1), (2, .int .i64 x2), (3, .string x3), (9, .pointer (some ⟨b21, 0, none⟩)), (15, .bool (!r24))] rfl (by kernel_rfl) ?_
    refine ow_end rfl ?_
    refine ew_then ?_
    rcases if_some hF with ⟨h26, hF⟩ | ⟨h26, hF⟩
    · refine cw_cond_t rfl rfl h26 ?_
      refine cw_seq ?_
      refine cw_region ?_
      refine ow_vals 2 (j := 2) [10, 11] [(10, .bool false), (11, .int .i64 13)] rfl (by kernel_rfl) ?_
      refine ow_end rfl ?_
      refine ew_then ?_
      refine cw_ret ?_
      refine ew_blk_ret ?_
      refine ew_then_ret ?_
      have hR := Option.some.inj hF
      subst hR
      have hR := hK23
      try dsimp only [Thru] at hR
      subst hR
      exact fin2 (H1 := [imm I, pt b0 #[.map (some p1), .map (some p2), .string m0.twins_.e0, .string m0.twins_.e1, .bool m0.found_, .bool m0.full_, .int .i64 m0.sums_] 64, mpo kStr kStr p1 m0.table_, mpo kStr kStr p2 m0.notes_]) (fun w hs => sat_to [1, 0, 0, 0, 0] 1 rfl hs) rfl (rr_tmp rfl) (rr_tmp rfl) ⟨I, p1, p2, rfl, rfl, Hl.sub_refl _⟩
    refine cw_cond_f rfl rfl h26 ?_
    obtain ⟨v27, hF, hK27⟩ := bind_some hF
    refine cw_mid (fun a w => ∃ (x31 : Bool), x31 = v27 ∧ Fr 80 [(0, .pointer (some ⟨b0, 0, none⟩)), (1, .string x1), (2, .int .i64 x2), (3, .string x3), (9, .pointer (some ⟨b21, 0, none⟩)), (19, .bool x31)] a ∧ SAT w0 ([imm I, pt b21 #[.int .i64 x4.Size, .slice p0 x4.Sides.length c0] 35, pt b0 #[.map (some p1), .map (some p2), .string m0.twins_.e0, .string m0.twins_.e1, .bool m0.found_, .bool m0.full_, .int .i64 m0.sums_] 64, mpo kStr kStr p1 m0.table_, mpo kStr kStr p2 m0.notes_] ++ F0) w) ?_ ?_
    · refine cw_region ?_
      refine ow_vals 1 (j := 1) [0, 1, 2, 3, 9, 20] [(0, .pointer (some ⟨b0, 0, none⟩)), (1, .string x1), (2, .int .i64 x2), (3, .string x3), (9, .pointer (some ⟨b21, 0, none⟩)), (20, .pointer (some ⟨b21, 0, none⟩))] rfl (by kernel_rfl) ?_
      refine ow_pw rfl (pw_quiet (v := .int .i64 x4.Size) rfl rfl rfl rfl (q_load 1 rfl rfl rfl (by kernel_rfl)) (nw_ow ?_))
      refine ow_vals 3 (j := 5) [0, 1, 2, 3, 9, 24] [(0, .pointer (some ⟨b0, 0, none⟩)), (1, .string x1), (2, .int .i64 x2), (3, .string x3), (9, .pointer (some ⟨b21, 0, none⟩)), (24, .bool (x4.Size != x2))] rfl (by kernel_rfl) ?_
      rcases if_some hF with ⟨h28, hF⟩ | ⟨h28, hF⟩
      · refine ow_slots (L' := [(0, .pointer (some ⟨b0, 0, none⟩)), (1, .string x1), (2, .int .i64 x2), (3, .string x3), (9, .pointer (some ⟨b21, 0, none⟩)), (24, .bool true)]) (by rw [h28]) ?_
        refine ow_vals 14 (j := 19) [0, 1, 2, 3, 9, 19] [(0, .pointer (some ⟨b0, 0, none⟩)), (1, .string x1), (2, .int .i64 x2), (3, .string x3), (9, .pointer (some ⟨b21, 0, none⟩)), (19, .bool true)] rfl (by kernel_rfl) ?_
        refine ow_end rfl ?_
        have hR := Option.some.inj hF
        exact fun a w hf hs => ⟨true, hR, hf.keep [0, 1, 2, 3, 9, 19], sat_to [0, 0, 0, 0, 0] 0 rfl hs⟩
      refine ow_slots (L' := [(0, .pointer (some ⟨b0, 0, none⟩)), (1, .string x1), (2, .int .i64 x2), (3, .string x3), (9, .pointer (some ⟨b21, 0, none⟩)), (24, .bool false)]) (by rw [h28]) ?_
      refine ow_vals 4 (j := 9) [0, 1, 2, 3, 9, 28] [(0, .pointer (some ⟨b0, 0, none⟩)), (1, .string x1), (2, .int .i64 x2), (3, .string x3), (9, .pointer (some ⟨b21, 0, none⟩)), (28, .bool (decide (x2 < 0)))] rfl (by kernel_rfl) ?_
      rcases if_some hF with ⟨h29, hF⟩ | ⟨h29, hF⟩
      · refine ow_slots (L' := [(0, .pointer (some ⟨b0, 0, none⟩)), (1, .string x1), (2, .int .i64 x2), (3, .string x3), (9, .pointer (some ⟨b21, 0, none⟩)), (28, .bool true)]) (by rw [h29]) ?_
        refine ow_vals 10 (j := 19) [0, 1, 2, 3, 9, 19] [(0, .pointer (some ⟨b0, 0, none⟩)), (1, .string x1), (2, .int .i64 x2), (3, .string x3), (9, .pointer (some ⟨b21, 0, none⟩)), (19, .bool true)] rfl (by kernel_rfl) ?_
        refine ow_end rfl ?_
        have hR := Option.some.inj hF
        exact fun a w hf hs => ⟨true, hR, hf.keep [0, 1, 2, 3, 9, 19], sat_to [0, 0, 0, 0, 0] 0 rfl hs⟩
      refine ow_slots (L' := [(0, .pointer (some ⟨b0, 0, none⟩)), (1, .string x1), (2, .int .i64 x2), (3, .string x3), (9, .pointer (some ⟨b21, 0, none⟩)), (28, .bool false)]) (by rw [h29]) ?_
      refine ow_vals 4 (j := 13) [0, 1, 2, 3, 9, 32] [(0, .pointer (some ⟨b0, 0, none⟩)), (1, .string x1), (2, .int .i64 x2), (3, .string x3), (9, .pointer (some ⟨b21, 0, none⟩)), (32, .bool (decide (x2 > 65536)))] rfl (by kernel_rfl) ?_
      rcases if_some hF with ⟨h30, hF⟩ | ⟨h30, hF⟩
      · refine ow_slots (L' := [(0, .pointer (some ⟨b0, 0, none⟩)), (1, .string x1), (2, .int .i64 x2), (3, .string x3), (9, .pointer (some ⟨b21, 0, none⟩)), (32, .bool true)]) (by rw [h30]) ?_
        refine ow_vals 6 (j := 19) [0, 1, 2, 3, 9, 19] [(0, .pointer (some ⟨b0, 0, none⟩)), (1, .string x1), (2, .int .i64 x2), (3, .string x3), (9, .pointer (some ⟨b21, 0, none⟩)), (19, .bool true)] rfl (by kernel_rfl) ?_
        refine ow_end rfl ?_
        have hR := Option.some.inj hF
        exact fun a w hf hs => ⟨true, hR, hf.keep [0, 1, 2, 3, 9, 19], sat_to [0, 0, 0, 0, 0] 0 rfl hs⟩
      refine ow_slots (L' := [(0, .pointer (some ⟨b0, 0, none⟩)), (1, .string x1), (2, .int .i64 x2), (3, .string x3), (9, .pointer (some ⟨b21, 0, none⟩)), (32, .bool false)]) (by rw [h30]) ?_
      refine ow_vals 1 (j := 14) [0, 1, 2, 3, 9, 32, 33] [(0, .pointer (some ⟨b0, 0, none⟩)), (1, .string x1), (2, .int .i64 x2), (3, .string x3), (9, .pointer (some ⟨b21, 0, none⟩)), (32, .bool false), (33, .pointer (some ⟨b21, 1, none⟩))] rfl (by kernel_rfl) ?_
      refine ow_pw rfl (pw_quiet (v := .slice p0 x4.Sides.length c0) rfl rfl rfl rfl (q_load 1 rfl rfl rfl (by kernel_rfl)) (nw_ow ?_))
      refine ow_vals 4 (j := 19) [0, 1, 2, 3, 9, 19] [(0, .pointer (some ⟨b0, 0, none⟩)), (1, .string x1), (2, .int .i64 x2), (3, .string x3), (9, .pointer (some ⟨b21, 0, none⟩)), (19, .bool (decide ((x4.Sides.length : Int) > 2)))] rfl (by kernel_rfl) ?_
      refine ow_end rfl ?_
      have hR := Option.some.inj hF
      exact fun a w hf hs => ⟨decide ((x4.Sides.length : Int) > 2), hR, hf.keep [0, 1, 2, 3, 9, 19], sat_to [0, 0, 0, 0, 0] 0 rfl hs⟩
    rintro a w ⟨x31, hv, hf, hs⟩
    subst hv
    replace hF := hK27
    clear hK27
    try dsimp only at hF
    revert a w
    show CW _ _ _ 80 [(0, .pointer (some ⟨b0, 0, none⟩)), (1, .string x1), (2, .int .i64 x2), (3, .string x3), (9, .pointer (some ⟨b21, 0, none⟩)), (19, .bool x31)] (SAT w0 ([imm I, pt b21 #[.int .i64 x4.Size, .slice p0 x4.Sides.length c0] 35, pt b0 #[.map (some p1), .map (some p2), .string m0.twins_.e0, .string m0.twins_.e1, .bool m0.found_, .bool m0.full_, .int .i64 m0.sums_] 64, mpo kStr kStr p1 m0.table_, mpo kStr kStr p2 m0.notes_] ++ F0))
    unfold F.absent_Check.r1 at hF
    rcases if_some hF with ⟨h32, hF⟩ | ⟨h32, hF⟩
    · refine cw_cond_t rfl rfl h32 ?_
      refine cw_seq ?_
      refine cw_region ?_
      refine ow_vals 2 (j := 2) [10, 11] [(10, .bool false), (11, .int .i64 21)] rfl (by kernel_rfl) ?_
      refine ow_end rfl ?_
      refine ew_then ?_
      refine cw_ret ?_
      refine ew_blk_ret ?_
      refine ew_then_ret ?_
      have hR := Option.some.inj hF
      subst hR
      have hR := hK23
      try dsimp only [Thru] at hR
      subst hR
      exact fin2 (H1 := [imm I, pt b0 #[.map (some p1), .map (some p2), .string m0.twins_.e0, .string m0.twins_.e1, .bool m0.found_, .bool m0.full_, .int .i64 m0.sums_] 64, mpo kStr kStr p1 m0.table_, mpo kStr kStr p2 m0.notes_]) (fun w hs => sat_to [1, 0, 0, 0, 0] 1 rfl hs) rfl (rr_tmp rfl) (rr_tmp rfl) ⟨I, p1, p2, rfl, rfl, Hl.sub_refl _⟩
    refine cw_cond_f rfl rfl h32 ?_
    refine cw_seq ?_
    refine cw_region ?_
    refine ow_vals 3 (j := 3) [0, 1, 2, 3, 9, 41] [(0, .pointer (some ⟨b0, 0, none⟩)), (1, .string x1), (2, .int .i64 x2), (3, .string x3), (9, .pointer (some ⟨b21, 0, none⟩)), (41, .bool (x2 == 0))] rfl (by kernel_rfl) ?_
    rcases if_some hF with ⟨h33, hF⟩ | ⟨h33, hF⟩
    · refine ow_slots (L' := [(0, .pointer (some ⟨b0, 0, none⟩)), (1, .string x1), (2, .int .i64 x2), (3, .string x3), (9, .pointer (some ⟨b21, 0, none⟩)), (41, .bool true)]) (by rw [h33]) ?_
      refine ow_vals 2 (j := 5) [0, 1, 2, 3, 9, 41, 42, 43] [(0, .pointer (some ⟨b0, 0, none⟩)), (1, .string x1), (2, .int .i64 x2), (3, .string x3), (9, .pointer (some ⟨b21, 0, none⟩)), (41, .bool true), (42, .string x1), (43, .pointer (some ⟨b0, 0, none⟩))] rfl (by kernel_rfl) ?_
      obtain ⟨r34, h35, hF⟩ := bind_some hF
      refine ow_pw rfl (pw_call (F := [pt b21 #[.int .i64 x4.Size, .slice p0 x4.Sides.length c0] 35] ++ F0) rfl rfl rfl rfl rfl rfl rfl (by kernel_rfl) (perm_of_pulls [0, 1, 1, 1] rfl) (c_pledge_None _ m0 p1 p2 b0 r34 h35) ?_)
      rintro _ _ ⟨r34_b1, r34_b3, rfl, rfl⟩
      refine nw_H (H' := [imm I, pt b0 #[.map (some r34_b1), .map (some r34_b3), .string r34.2.twins_.e0, .string r34.2.twins_.e1, .bool r34.2.found_, .bool r34.2.full_, .int .i64 r34.2.sums_] 64, mpo kStr kStr r34_b1 r34.2.table_, mpo kStr kStr r34_b3 r34.2.notes_, pt b21 #[.int .i64 x4.Size, .slice p0 x4.Sides.length c0] 35] ++ F0) rfl (nw_ow ?_)
      refine ow_vals 3 (j := 9) [0, 1, 2, 3, 9, 38] [(0, .pointer (some ⟨b0, 0, none⟩)), (1, .string x1), (2, .int .i64 x2), (3, .string x3), (9, .pointer (some ⟨b21, 0, none⟩)), (38, .bool (!(seqB x1 r34.1)))] rfl (by kernel_rfl) ?_
      refine ow_end rfl ?_
      refine ew_then ?_
      rcases if_some hF with ⟨h38, hF⟩ | ⟨h38, hF⟩
      · refine cw_cond_t rfl rfl h38 ?_
        refine cw_seq ?_
        refine cw_region ?_
        refine ow_vals 2 (j := 2) [10, 11] [(10, .bool false), (11, .int .i64 19)] rfl (by kernel_rfl) ?_
        refine ow_end rfl ?_
        refine ew_then ?_
        refine cw_ret ?_
        refine ew_blk_ret ?_
        refine ew_then_ret ?_
        have hR := Option.some.inj hF
        subst hR
        have hR := hK23
        try dsimp only [Thru] at hR
        subst hR
        exact fin2 (H1 := [imm I, pt b0 #[.map (some r34_b1), .map (some r34_b3), .string r34.2.twins_.e0, .string r34.2.twins_.e1, .bool r34.2.found_, .bool r34.2.full_, .int .i64 r34.2.sums_] 64, mpo kStr kStr r34_b1 r34.2.table_, mpo kStr kStr r34_b3 r34.2.notes_]) (fun w hs => sat_to [4, 0, 0, 0, 0] 1 rfl hs) rfl (rr_tmp rfl) (rr_tmp rfl) ⟨I, r34_b1, r34_b3, rfl, rfl, Hl.sub_refl _⟩
      refine cw_cond_f rfl rfl h38 ?_
      refine cw_skip ?_
      refine ew_blk ?_
      have hR := Option.some.inj hF
      exact fun a w hf hs => ⟨r34.2.table_, r34.2.notes_, r34.2.twins_.e0, r34.2.twins_.e1, r34.2.found_, r34.2.full_, r34.2.sums_, r34_b1, r34_b3, hR, hf.keep [0, 1, 2, 3, 9], sat_to [0, 0, 2, 0, 0] 0 rfl hs⟩
    refine ow_slots (L' := [(0, .pointer (some ⟨b0, 0, none⟩)), (1, .string x1), (2, .int .i64 x2), (3, .string x3), (9, .pointer (some ⟨b21, 0, none⟩)), (41, .bool false)]) (by rw [h33]) ?_
    refine ow_vals 6 (j := 9) [0, 1, 2, 3, 9, 38] [(0, .pointer (some ⟨b0, 0, none⟩)), (1, .string x1), (2, .int .i64 x2), (3, .string x3), (9, .pointer (some ⟨b21, 0, none⟩)), (38, .bool false)] rfl (by kernel_rfl) ?_
    refine ow_end rfl ?_
    refine ew_then ?_
    refine cw_cond_f rfl rfl rfl ?_
    refine cw_skip ?_
    refine ew_blk ?_
    have hR := Option.some.inj hF
    exact fun a w hf hs => ⟨m0.table_, m0.notes_, m0.twins_.e0, m0.twins_.e1, m0.found_, m0.full_, m0.sums_, p1, p2, hR, hf.keep [0, 1, 2, 3, 9], sat_to [0, 1, 0, 0, 0] 0 rfl hs⟩
  rintro a w ⟨l39, l42, s45, s46, x47, x48, x49, b41, b44, hv, hf, hs⟩
  subst hv
  replace hF := hK23
  clear hK23
  try dsimp only [Thru] at hF
  revert a w
  show CW _ _ _ 80 [(0, .pointer (some ⟨b0, 0, none⟩)), (1, .string x1), (2, .int .i64 x2), (3, .string x3), (9, .pointer (some ⟨b21, 0, none⟩))] (SAT w0 ([imm I, pt b0 #[.map (some b41), .map (some b44), .string s45, .string s46, .bool x47, .bool x48, .int .i64 x49] 64, pt b21 #[.int .i64 x4.Size, .slice p0 x4.Sides.length c0] 35, mpo kStr kStr b41 l39, mpo kStr kStr b44 l42] ++ F0))
  unfold F.absent_Check.r2 at hF
  obtain ⟨v50, hF, hK50⟩ := thru_some hF
  refine cw_mid (fun a w => ∃ (l85 : List (ByteArray × ByteArray)), ∃ (l88 : List (ByteArray × ByteArray)), ∃ (s91 : ByteArray), ∃ (s92 : ByteArray), ∃ (x93 : Bool), ∃ (x94 : Bool), ∃ (x95 : Int), ∃ (J83 : Hl), ∃ (b87 : Nat), ∃ (b90 : Nat), .inl (l85, l88, s91, s92, x93, x94, x95) = v50 ∧ Hl.sub I J83 ∧ Fr 80 [(3, .string x3), (9, .pointer (some ⟨b21, 0, none⟩))] a ∧ SAT w0 ([imm J83, pt b0 #[.map (some b87), .map (some b90), .string s91, .string s92, .bool x93, .bool x94, .int .i64 x95] 64, pt b21 #[.int .i64 x4.Size, .slice p0 x4.Sides.length c0] 35, mpo kStr kStr b87 l85, mpo kStr kStr b90 l88] ++ F0) w) ?_ ?_
  · refine cw_seq ?_
    refine cw_region ?_
    refine ow_vals 1 (j := 1) [0, 1, 2, 3, 9, 47] [(0, .pointer (some ⟨b0, 0, none⟩)), (1, .string x1), (2, .int .i64 x2), (3, .string x3), (9, .pointer (some ⟨b21, 0, none⟩)), (47, .pointer (some ⟨b21, 1, none⟩))] rfl (by kernel_rfl) ?_
    refine ow_pw rfl (pw_quiet (v := .slice p0 x4.Sides.length c0) rfl rfl rfl rfl (q_load 2 rfl rfl rfl (by kernel_rfl)) (nw_ow ?_))
    refine ow_vals 2 (j := 4) [0, 1, 2, 3, 9, 48, 49, 50] [(0, .pointer (some ⟨b0, 0, none⟩)), (1, .string x1), (2, .int .i64 x2), (3, .string x3), (9, .pointer (some ⟨b21, 0, none⟩)), (48, .slice p0 x4.Sides.length c0), (49, .int .i64 (x4.Sides.length : Int)), (50, .int .i64 0)] rfl (by kernel_rfl) ?_
    refine ow_end rfl ?_
    refine ew_then ?_
    refine cw_block ?_
    refine fun a w hf hs => wp_rounds (fun k a w => ∃ (x54 : Int), ∃ (l55 : List (ByteArray × ByteArray)), ∃ (l58 : List (ByteArray × ByteArray)), ∃ (s61 : ByteArray), ∃ (s62 : ByteArray), ∃ (x63 : Bool), ∃ (x64 : Bool), ∃ (x65 : Int), ∃ (J52 : Hl), ∃ (b57 : Nat), ∃ (b60 : Nat), iter (fun x => F.absent_Check.l3 x1 x2 x4 x.1 x.2.1 x.2.2.1 x.2.2.2.1 x.2.2.2.2.1 x.2.2.2.2.2.1 x.2.2.2.2.2.2.1 x.2.2.2.2.2.2.2) k (x54, l55, l58, s61, s62, x63, x64, x65) = some v50 ∧ Hl.sub I J52 ∧ Fr 80 [(0, .pointer (some ⟨b0, 0, none⟩)), (1, .string x1), (2, .int .i64 x2), (3, .string x3), (9, .pointer (some ⟨b21, 0, none⟩)), (48, .slice p0 x4.Sides.length c0), (49, .int .i64 (x4.Sides.length : Int)), (50, .int .i64 x54)] a ∧ SAT w0 ([imm J52, pt b0 #[.map (some b57), .map (some b60), .string s61, .string s62, .bool x63, .bool x64, .int .i64 x65] 64, pt b21 #[.int .i64 x4.Size, .slice p0 x4.Sides.length c0] 35, mpo kStr kStr b57 l55, mpo kStr kStr b60 l58] ++ F0) w) ?_ FUEL a w ⟨0, l39, l42, s45, s46, x47, x48, x49, I, b41, b44, hF, Hl.sub_refl _, hf.keep [0, 1, 2, 3, 9, 48, 49, 50], sat_to [0, 0, 0, 0, 0] 0 rfl hs⟩
    clear hf hs
    clear a w hF
    rintro k a w ⟨x54, l55, l58, s61, s62, x63, x64, x65, J52, b57, b60, hF2, h53, hf, hs⟩
    obtain ⟨k, r51, rfl, hF, hL51⟩ := iter_some hF2
    clear hF2
    revert a w
    show CW _ _ _ 80 [(0, .pointer (some ⟨b0, 0, none⟩)), (1, .string x1), (2, .int .i64 x2), (3, .string x3), (9, .pointer (some ⟨b21, 0, none⟩)), (48, .slice p0 x4.Sides.length c0), (49, .int .i64 (x4.Sides.length : Int)), (50, .int .i64 x54)] (SAT w0 ([imm J52, pt b0 #[.map (some b57), .map (some b60), .string s61, .string s62, .bool x63, .bool x64, .int .i64 x65] 64, pt b21 #[.int .i64 x4.Size, .slice p0 x4.Sides.length c0] 35, mpo kStr kStr b57 l55, mpo kStr kStr b60 l58] ++ F0))
    try dsimp only at hF
    unfold F.absent_Check.l3 at hF
    have hr0 := roN.sub h53 hr0
    refine cw_seq ?_
    refine cw_region ?_
    refine ow_vals 1 (j := 1) [0, 1, 2, 3, 9, 48, 49, 50, 51] [(0, .pointer (some ⟨b0, 0, none⟩)), (1, .string x1), (2, .int .i64 x2), (3, .string x3), (9, .pointer (some ⟨b21, 0, none⟩)), (48, .slice p0 x4.Sides.length c0), (49, .int .i64 (x4.Sides.length : Int)), (50, .int .i64 x54), (51, .bool (decide (x54 < (x4.Sides.length : Int))))] rfl (by kernel_rfl) ?_
    refine ow_end rfl ?_
    refine ew_then ?_
    refine cw_seq ?_
    rcases if_some hF with ⟨h66, hF⟩ | ⟨h66, hF⟩
    · refine cw_cond_t rfl rfl h66 ?_
      refine cw_skip ?_
      refine ew_then ?_
      refine cw_seq ?_
      refine cw_block ?_
      refine cw_seq ?_
      refine cw_region ?_
      obtain ⟨y67, h68, hF⟩ := bind_some hF
      refine ow_pw rfl (pw_index_roN (E := 43) 3 hr0 rfl rfl rfl rfl rfl (by kernel_rfl) rfl rfl rfl h68 fun q69 h70 => nw_ow ?_)
      obtain ⟨r71, h72, h73, h74⟩ := (id h70)
      have h75 : ro J52 eStr r71.Path.p r71.Path.c y67.Path := by subst h73; exact h74
      refine ow_pw rfl (pw_quiet (v := .agg #[.int .i64 y67.Index, .string y67.ID, .slice r71.Path.p y67.Path.length r71.Path.c]) rfl rfl rfl rfl (q_load_el0 0 rfl h72 rfl rfl (by subst h73; kernel_rfl)) (nw_ow ?_))
      refine ow_pw rfl (pw_alloc (cs := #[.int .i64 0, .string (ByteArray.mk #[]), .slice none 0 0]) rfl rfl rfl rfl rfl (by kernel_rfl) fun b76 => nw_ow ?_)
      refine ow_pw rfl (pw_store 0 #[.int .i64 y67.Index, .string y67.ID, .slice r71.Path.p y67.Path.length r71.Path.c] rfl rfl rfl rfl rfl rfl rfl (by kernel_rfl) (nw_H (H' := [pt b76 #[.int .i64 y67.Index, .string y67.ID, .slice r71.Path.p y67.Path.length r71.Path.c] 43, imm J52, pt b0 #[.map (some b57), .map (some b60), .string s61, .string s62, .bool x63, .bool x64, .int .i64 x65] 64, pt b21 #[.int .i64 x4.Size, .slice p0 x4.Sides.length c0] 35, mpo kStr kStr b57 l55, mpo kStr kStr b60 l58] ++ F0) rfl (nw_ow ?_)))
      refine ow_end rfl ?_
      refine ew_then ?_
      refine cw_seq ?_
      refine cw_region ?_
      refine ow_vals 3 (j := 3) [0, 1, 2, 3, 9, 13, 48, 49, 50, 54, 55, 56] [(0, .pointer (some ⟨b0, 0, none⟩)), (1, .string x1), (2, .int .i64 x2), (3, .string x3), (9, .pointer (some ⟨b21, 0, none⟩)), (13, .pointer (some ⟨b76, 0, none⟩)), (48, .slice p0 x4.Sides.length c0), (49, .int .i64 (x4.Sides.length : Int)), (50, .int .i64 x54), (54, .pointer (some ⟨b0, 0, none⟩)), (55, .string x1), (56, .int .i64 x2)] rfl (by kernel_rfl) ?_
      refine ow_pw rfl (pw_quiet (v := .agg #[.int .i64 y67.Index, .string y67.ID, .slice r71.Path.p y67.Path.length r71.Path.c]) rfl rfl rfl rfl (q_load 0 rfl rfl rfl (by kernel_rfl)) (nw_ow ?_))
      obtain ⟨r78, h79, hF⟩ := bind_some hF
      refine ow_pw rfl (pw_call (F := [pt b76 #[.int .i64 y67.Index, .string y67.ID, .slice r71.Path.p y67.Path.length r71.Path.c] 43, pt b21 #[.int .i64 x4.Size, .slice p0 x4.Sides.length c0] 35] ++ F0) rfl rfl rfl rfl rfl rfl rfl (by kernel_rfl) (perm_of_pulls [1, 1, 2, 2] rfl) (c_absent_stands _ x1 x2 y67 (⟨l55, l58, (⟨s61, s62⟩ : A2_ByteArray), x63, x64, x65⟩ : mill_Mill) r71.Path.p r71.Path.c b57 b60 b0 r78 h79 h75) ?_)
      rintro _ _ ⟨r78_J, r78_b1, r78_b3, rfl, rfl, r78_hJ⟩
      refine nw_H (H' := [imm r78_J, pt b0 #[.map (some r78_b1), .map (some r78_b3), .string r78.2.twins_.e0, .string r78.2.twins_.e1, .bool r78.2.found_, .bool r78.2.full_, .int .i64 r78.2.sums_] 64, mpo kStr kStr r78_b1 r78.2.table_, mpo kStr kStr r78_b3 r78.2.notes_, pt b76 #[.int .i64 y67.Index, .string y67.ID, .slice r71.Path.p y67.Path.length r71.Path.c] 43, pt b21 #[.int .i64 x4.Size, .slice p0 x4.Sides.length c0] 35] ++ F0) rfl (nw_ow ?_)
      have hr0 := roN.sub r78_hJ hr0
      have h75 := ro.sub r78_hJ h75
      refine ow_vals 1 (j := 6) [0, 1, 2, 3, 9, 14, 48, 49, 50] [(0, .pointer (some ⟨b0, 0, none⟩)), (1, .string x1), (2, .int .i64 x2), (3, .string x3), (9, .pointer (some ⟨b21, 0, none⟩)), (14, .int .i64 r78.1), (48, .slice p0 x4.Sides.length c0), (49, .int .i64 (x4.Sides.length : Int)), (50, .int .i64 x54)] rfl (by kernel_rfl) ?_
      refine ow_end rfl ?_
      refine ew_then ?_
      refine cw_seq ?_
      refine cw_region ?_
      refine ow_vals 2 (j := 2) [0, 1, 2, 3, 9, 14, 48, 49, 50, 60] [(0, .pointer (some ⟨b0, 0, none⟩)), (1, .string x1), (2, .int .i64 x2), (3, .string x3), (9, .pointer (some ⟨b21, 0, none⟩)), (14, .int .i64 r78.1), (48, .slice p0 x4.Sides.length c0), (49, .int .i64 (x4.Sides.length : Int)), (50, .int .i64 x54), (60, .bool (r78.1 != 0))] rfl (by kernel_rfl) ?_
      refine ow_end rfl ?_
      refine ew_then ?_
      rcases if_some hF with ⟨h82, hF⟩ | ⟨h82, hF⟩
      · refine cw_cond_t rfl rfl h82 ?_
        refine cw_seq ?_
        refine cw_region ?_
        refine ow_vals 3 (j := 3) [10, 11] [(10, .bool false), (11, .int .i64 r78.1)] rfl (by kernel_rfl) ?_
        refine ow_end rfl ?_
        refine ew_then ?_
        refine cw_ret ?_
        refine ew_blk_ret ?_
        refine ew_then_ret ?_
        refine ew_then_ret ?_
        refine ew_blk_ret ?_
        refine ew_then_ret ?_
        have hR := Option.some.inj hF
        subst hR
        have hR := hL51
        try dsimp only at hR
        subst hR
        have hR := hK50
        try dsimp only [Thru] at hR
        subst hR
        exact fin2 (H1 := [imm r78_J, pt b0 #[.map (some r78_b1), .map (some r78_b3), .string r78.2.twins_.e0, .string r78.2.twins_.e1, .bool r78.2.found_, .bool r78.2.full_, .int .i64 r78.2.sums_] 64, mpo kStr kStr r78_b1 r78.2.table_, mpo kStr kStr r78_b3 r78.2.notes_]) (fun w hs => sat_to [4, 4, 0, 0, 0, 0] 2 rfl hs) rfl (rr_tmp rfl) (rr_tmp rfl) ⟨r78_J, r78_b1, r78_b3, rfl, rfl, (Hl.sub_trans h53 r78_hJ)⟩
      refine cw_cond_f rfl rfl h82 ?_
      refine cw_skip ?_
      refine ew_blk ?_
      refine ew_then ?_
      refine cw_region ?_
      refine ow_vals 2 (j := 2) [0, 1, 2, 3, 9, 48, 49, 50] [(0, .pointer (some ⟨b0, 0, none⟩)), (1, .string x1), (2, .int .i64 x2), (3, .string x3), (9, .pointer (some ⟨b21, 0, none⟩)), (48, .slice p0 x4.Sides.length c0), (49, .int .i64 (x4.Sides.length : Int)), (50, .int .i64 (IntKind.i64.wrap (x54 + 1)))] rfl (by kernel_rfl) ?_
      refine ow_end rfl ?_
      have hR := Option.some.inj hF
      subst hR
      have hR := hL51
      try dsimp only at hR
      exact fun a w hf hs => ⟨k, Nat.lt_succ_self k, IntKind.i64.wrap (x54 + 1), r78.2.table_, r78.2.notes_, r78.2.twins_.e0, r78.2.twins_.e1, r78.2.found_, r78.2.full_, r78.2.sums_, r78_J, r78_b1, r78_b3, hR, (Hl.sub_trans h53 r78_hJ), hf.keep [0, 1, 2, 3, 9, 48, 49, 50], sat_to [4, 0, 0, 2, 0, 0] 1 rfl hs⟩
    refine cw_cond_f rfl rfl h66 ?_
    refine cw_exit ?_
    refine ew_then_exit ?_
    refine ew_then_exit ?_
    refine ew_blk_exit ?_
    have hR := Option.some.inj hF
    subst hR
    have hR := hL51
    try dsimp only at hR
    exact fun a w hf hs => ⟨l55, l58, s61, s62, x63, x64, x65, J52, b57, b60, hR, h53, hf.keep [3, 9], sat_to [0, 0, 0, 0, 0] 0 rfl hs⟩
  rintro a w ⟨l85, l88, s91, s92, x93, x94, x95, J83, b87, b90, hv, h84, hf, hs⟩
  subst hv
  replace hF := hK50
  clear hK50
  try dsimp only [Thru] at hF
  revert a w
  show CW _ _ _ 80 [(3, .string x3), (9, .pointer (some ⟨b21, 0, none⟩))] (SAT w0 ([imm J83, pt b0 #[.map (some b87), .map (some b90), .string s91, .string s92, .bool x93, .bool x94, .int .i64 x95] 64, pt b21 #[.int .i64 x4.Size, .slice p0 x4.Sides.length c0] 35, mpo kStr kStr b87 l85, mpo kStr kStr b90 l88] ++ F0))
  unfold F.absent_Check.r4 at hF
  have hr0 := roN.sub h84 hr0
  obtain ⟨v96, hF, hK96⟩ := thru_some hF
  refine cw_mid (fun a w => .inl () = v96 ∧ Fr 80 [(3, .string x3), (9, .pointer (some ⟨b21, 0, none⟩))] a ∧ SAT w0 ([imm J83, pt b0 #[.map (some b87), .map (some b90), .string s91, .string s92, .bool x93, .bool x94, .int .i64 x95] 64, pt b21 #[.int .i64 x4.Size, .slice p0 x4.Sides.length c0] 35, mpo kStr kStr b87 l85, mpo kStr kStr b90 l88] ++ F0) w) ?_ ?_
  · refine cw_seq ?_
    refine cw_region ?_
    refine ow_vals 1 (j := 1) [3, 9, 63] [(3, .string x3), (9, .pointer (some ⟨b21, 0, none⟩)), (63, .pointer (some ⟨b21, 1, none⟩))] rfl (by kernel_rfl) ?_
    refine ow_pw rfl (pw_quiet (v := .slice p0 x4.Sides.length c0) rfl rfl rfl rfl (q_load 2 rfl rfl rfl (by kernel_rfl)) (nw_ow ?_))
    refine ow_vals 3 (j := 5) [3, 9, 67] [(3, .string x3), (9, .pointer (some ⟨b21, 0, none⟩)), (67, .bool ((x4.Sides.length : Int) == 1))] rfl (by kernel_rfl) ?_
    rcases if_some hF with ⟨h97, hF⟩ | ⟨h97, hF⟩
    · refine ow_slots (L' := [(3, .string x3), (9, .pointer (some ⟨b21, 0, none⟩)), (67, .bool true)]) (by rw [h97]) ?_
      refine ow_vals 1 (j := 6) [3, 9, 67, 68] [(3, .string x3), (9, .pointer (some ⟨b21, 0, none⟩)), (67, .bool true), (68, .pointer (some ⟨b21, 1, none⟩))] rfl (by kernel_rfl) ?_
      refine ow_pw rfl (pw_quiet (v := .slice p0 x4.Sides.length c0) rfl rfl rfl rfl (q_load 2 rfl rfl rfl (by kernel_rfl)) (nw_ow ?_))
      obtain ⟨y98, h99, hF⟩ := bind_some hF
      refine ow_pw rfl (pw_index_roN (E := 43) 3 hr0 rfl rfl rfl rfl rfl (by kernel_rfl) rfl rfl rfl h99 fun q100 h101 => nw_ow ?_)
      refine ow_vals 1 (j := 9) [3, 9, 67, 71] [(3, .string x3), (9, .pointer (some ⟨b21, 0, none⟩)), (67, .bool true), (71, .pointer (some (q100.add 1)))] rfl (by kernel_rfl) ?_
      obtain ⟨r102, h103, h104, h105⟩ := (id h101)
      have h106 : ro J83 eStr r102.Path.p r102.Path.c y98.Path := by subst h104; exact h105
      refine ow_pw rfl (pw_quiet (v := .string y98.ID) rfl rfl rfl rfl (q_load_el 0 rfl h103 rfl rfl (by subst h104; kernel_rfl)) (nw_ow ?_))
      refine ow_vals 3 (j := 13) [3, 9, 75] [(3, .string x3), (9, .pointer (some ⟨b21, 0, none⟩)), (75, .bool (seqB y98.ID x3))] rfl (by kernel_rfl) ?_
      refine ow_end rfl ?_
      refine ew_then ?_
      rcases if_some hF with ⟨h107, hF⟩ | ⟨h107, hF⟩
      · refine cw_cond_t rfl rfl h107 ?_
        refine cw_seq ?_
        refine cw_region ?_
        refine ow_vals 2 (j := 2) [10, 11] [(10, .bool true), (11, .int .i64 0)] rfl (by kernel_rfl) ?_
        refine ow_end rfl ?_
        refine ew_then ?_
        refine cw_ret ?_
        refine ew_then_ret ?_
        have hR := Option.some.inj hF
        subst hR
        have hR := hK96
        try dsimp only [Thru] at hR
        subst hR
        exact fin2 (H1 := [imm J83, pt b0 #[.map (some b87), .map (some b90), .string (((⟨l85, l88, (⟨s91, s92⟩ : A2_ByteArray), x93, x94, x95⟩ : mill_Mill).twins_).e0), .string (((⟨l85, l88, (⟨s91, s92⟩ : A2_ByteArray), x93, x94, x95⟩ : mill_Mill).twins_).e1), .bool ((⟨l85, l88, (⟨s91, s92⟩ : A2_ByteArray), x93, x94, x95⟩ : mill_Mill).found_), .bool ((⟨l85, l88, (⟨s91, s92⟩ : A2_ByteArray), x93, x94, x95⟩ : mill_Mill).full_), .int .i64 ((⟨l85, l88, (⟨s91, s92⟩ : A2_ByteArray), x93, x94, x95⟩ : mill_Mill).sums_)] 64, mpo kStr kStr b87 ((⟨l85, l88, (⟨s91, s92⟩ : A2_ByteArray), x93, x94, x95⟩ : mill_Mill).table_), mpo kStr kStr b90 ((⟨l85, l88, (⟨s91, s92⟩ : A2_ByteArray), x93, x94, x95⟩ : mill_Mill).notes_)]) (fun w hs => sat_to [2, 0, 0, 0, 0] 1 rfl hs) rfl (rr_tmp rfl) (rr_tmp rfl) ⟨J83, b87, b90, rfl, rfl, h84⟩
      refine cw_cond_f rfl rfl h107 ?_
      refine cw_skip ?_
      have hR := Option.some.inj hF
      exact fun a w hf hs => ⟨hR, hf.keep [3, 9], sat_to [0, 0, 0, 0, 0] 0 rfl hs⟩
    refine ow_slots (L' := [(3, .string x3), (9, .pointer (some ⟨b21, 0, none⟩)), (67, .bool false)]) (by rw [h97]) ?_
    refine ow_vals 8 (j := 13) [3, 9, 75] [(3, .string x3), (9, .pointer (some ⟨b21, 0, none⟩)), (75, .bool false)] rfl (by kernel_rfl) ?_
    refine ow_end rfl ?_
    refine ew_then ?_
    refine cw_cond_f rfl rfl rfl ?_
    refine cw_skip ?_
    have hR := Option.some.inj hF
    exact fun a w hf hs => ⟨hR, hf.keep [3, 9], sat_to [0, 0, 0, 0, 0] 0 rfl hs⟩
  rintro a w ⟨hv, hf, hs⟩
  subst hv
  replace hF := hK96
  clear hK96
  try dsimp only [Thru] at hF
  revert a w
  show CW _ _ _ 80 [(3, .string x3), (9, .pointer (some ⟨b21, 0, none⟩))] (SAT w0 ([imm J83, pt b0 #[.map (some b87), .map (some b90), .string s91, .string s92, .bool x93, .bool x94, .int .i64 x95] 64, pt b21 #[.int .i64 x4.Size, .slice p0 x4.Sides.length c0] 35, mpo kStr kStr b87 l85, mpo kStr kStr b90 l88] ++ F0))
  unfold F.absent_Check.r5 at hF
  refine cw_seq ?_
  refine cw_seq ?_
  refine cw_region ?_
  refine ow_pw rfl (pw_quiet (v := .agg #[.int .i64 x4.Size, .slice p0 x4.Sides.length c0]) rfl rfl rfl rfl (q_load 2 rfl rfl rfl (by kernel_rfl)) (nw_ow ?_))
  refine ow_vals 1 (j := 2) [76, 77] [(76, .agg #[.int .i64 x4.Size, .slice p0 x4.Sides.length c0]), (77, .string x3)] rfl (by kernel_rfl) ?_
  obtain ⟨r108, h109, hF⟩ := bind_some hF
  refine ow_pw rfl (pw_call (F := [pt b0 #[.map (some b87), .map (some b90), .string s91, .string s92, .bool x93, .bool x94, .int .i64 x95] 64, pt b21 #[.int .i64 x4.Size, .slice p0 x4.Sides.length c0] 35, mpo kStr kStr b87 l85, mpo kStr kStr b90 l88] ++ F0) rfl rfl rfl rfl rfl rfl rfl (by kernel_rfl) (perm_of_pulls [0] rfl) (c_absent_between _ x4 x3 p0 c0 r108 h109 hr0) ?_)
  rintro _ _ ⟨rfl, rfl⟩
  refine nw_H (H' := [imm J83, pt b0 #[.map (some b87), .map (some b90), .string s91, .string s92, .bool x93, .bool x94, .int .i64 x95] 64, pt b21 #[.int .i64 x4.Size, .slice p0 x4.Sides.length c0] 35, mpo kStr kStr b87 l85, mpo kStr kStr b90 l88] ++ F0) rfl (nw_ow ?_)
  refine ow_vals 1 (j := 4) [79] [(79, .bool (!r108))] rfl (by kernel_rfl) ?_
  refine ow_end rfl ?_
  refine ew_then ?_
  rcases if_some hF with ⟨h110, hF⟩ | ⟨h110, hF⟩
  · refine cw_cond_t rfl rfl h110 ?_
    refine cw_seq ?_
    refine cw_region ?_
    refine ow_vals 2 (j := 2) [10, 11] [(10, .bool false), (11, .int .i64 22)] rfl (by kernel_rfl) ?_
    refine ow_end rfl ?_
    refine ew_then ?_
    refine cw_ret ?_
    refine ew_then_ret ?_
    have hR := Option.some.inj hF
    subst hR
    exact fin2 (H1 := [imm J83, pt b0 #[.map (some b87), .map (some b90), .string (((⟨l85, l88, (⟨s91, s92⟩ : A2_ByteArray), x93, x94, x95⟩ : mill_Mill).twins_).e0), .string (((⟨l85, l88, (⟨s91, s92⟩ : A2_ByteArray), x93, x94, x95⟩ : mill_Mill).twins_).e1), .bool ((⟨l85, l88, (⟨s91, s92⟩ : A2_ByteArray), x93, x94, x95⟩ : mill_Mill).found_), .bool ((⟨l85, l88, (⟨s91, s92⟩ : A2_ByteArray), x93, x94, x95⟩ : mill_Mill).full_), .int .i64 ((⟨l85, l88, (⟨s91, s92⟩ : A2_ByteArray), x93, x94, x95⟩ : mill_Mill).sums_)] 64, mpo kStr kStr b87 ((⟨l85, l88, (⟨s91, s92⟩ : A2_ByteArray), x93, x94, x95⟩ : mill_Mill).table_), mpo kStr kStr b90 ((⟨l85, l88, (⟨s91, s92⟩ : A2_ByteArray), x93, x94, x95⟩ : mill_Mill).notes_)]) (fun w hs => sat_to [2, 0, 0, 0, 0] 1 rfl hs) rfl (rr_tmp rfl) (rr_tmp rfl) ⟨J83, b87, b90, rfl, rfl, h84⟩
  refine cw_cond_f rfl rfl h110 ?_
  refine cw_skip ?_
  refine ew_then ?_
  refine cw_seq ?_
  refine cw_region ?_
  refine ow_vals 2 (j := 2) [10, 11] [(10, .bool false), (11, .int .i64 0)] rfl (by kernel_rfl) ?_
  refine ow_end rfl ?_
  refine ew_then ?_
  refine cw_ret ?_
  have hR := Option.some.inj hF
  subst hR
  exact fin2 (H1 := [imm J83, pt b0 #[.map (some b87), .map (some b90), .string (((⟨l85, l88, (⟨s91, s92⟩ : A2_ByteArray), x93, x94, x95⟩ : mill_Mill).twins_).e0), .string (((⟨l85, l88, (⟨s91, s92⟩ : A2_ByteArray), x93, x94, x95⟩ : mill_Mill).twins_).e1), .bool ((⟨l85, l88, (⟨s91, s92⟩ : A2_ByteArray), x93, x94, x95⟩ : mill_Mill).found_), .bool ((⟨l85, l88, (⟨s91, s92⟩ : A2_ByteArray), x93, x94, x95⟩ : mill_Mill).full_), .int .i64 ((⟨l85, l88, (⟨s91, s92⟩ : A2_ByteArray), x93, x94, x95⟩ : mill_Mill).sums_)] 64, mpo kStr kStr b87 ((⟨l85, l88, (⟨s91, s92⟩ : A2_ByteArray), x93, x94, x95⟩ : mill_Mill).table_), mpo kStr kStr b90 ((⟨l85, l88, (⟨s91, s92⟩ : A2_ByteArray), x93, x94, x95⟩ : mill_Mill).notes_)]) (fun w hs => sat_to [2, 0, 0, 0, 0] 1 rfl hs) rfl (rr_tmp rfl) (rr_tmp rfl) ⟨J83, b87, b90, rfl, rfl, h84⟩

end Go.Proofs.Ytileogoeoiafkaa
