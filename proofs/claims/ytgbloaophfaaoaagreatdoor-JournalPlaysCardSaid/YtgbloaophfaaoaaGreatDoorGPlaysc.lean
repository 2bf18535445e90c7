/- What the functions compute, and that the code computes it: printed by a program of this claim (wip/tools), for the group Plays. -/
import Derived.Test.YtgbloaophfaaoaaGreatDoorGPlaysb
namespace Go.Proofs.YtgbloaophfaaoaaGreatDoor
set_option linter.all false
open Go Go.RowKit Go.Fw
set_option linter.unusedVariables false

def F.disk_Disk_drop.r2 (x1 : disk_Fall) (m0 : disk_Disk) (x28 : Int) (y34 : Int) (l43 : List disk_sector) (x49 : Bool) : Option ((Int × (List disk_sector)) ⊕ ((List disk_sector))) :=
  if x49 then (chk (0 ≤ (0 : Int) ∧ (0 : Int) ≤ (x1.Tear.tmod 64) ∧ (x1.Tear.tmod 64) ≤ (((mgetD m0.wait_ y34 (⟨(ByteArray.mk #[]), 0⟩ : disk_sector)).s_).size : Int)) (Option.bind (at_ l43 y34) (fun (y52 : disk_sector) => chk (0 ≤ (x1.Tear.tmod 64) ∧ (x1.Tear.tmod 64) ≤ (y52.s_.size : Int) ∧ (y52.s_.size : Int) ≤ (y52.s_.size : Int)) (chk ((((mgetD m0.wait_ y34 (⟨(ByteArray.mk #[]), 0⟩ : disk_sector)).s_).extract (0 : Int).toNat (x1.Tear.tmod 64).toNat).size + (y52.s_.extract (x1.Tear.tmod 64).toNat (y52.s_.size : Int).toNat).size ≤ 9223372036854775807) (Option.bind (at_ l43 y34) (fun (y56 : disk_sector) => some (.inl (IntKind.i64.wrap (x28 + 1), l43.set y34.toNat (⟨(((mgetD m0.wait_ y34 (⟨(ByteArray.mk #[]), 0⟩ : disk_sector)).s_).extract (0 : Int).toNat (x1.Tear.tmod 64).toNat) ++ (y52.s_.extract (x1.Tear.tmod 64).toNat (y52.s_.size : Int).toNat), (mgetD m0.wait_ y34 (⟨(ByteArray.mk #[]), 0⟩ : disk_sector)).at_⟩ : disk_sector))))))))) else (some (.inl (IntKind.i64.wrap (x28 + 1), l43)))
def F.disk_Disk_drop.r1 (x1 : disk_Fall) (m0 : disk_Disk) (x28 : Int) (y34 : Int) (l43 : List disk_sector) : Option ((Int × (List disk_sector)) ⊕ ((List disk_sector))) :=
  Option.bind (if decide (x1.Tear ≥ 0) then (some (((IntKind.i64.wrap (x1.Tear.tdiv 64)) == x28))) else (some (false))) (fun x => F.disk_Disk_drop.r2 x1 m0 x28 y34 l43 x)
def F.disk_Disk_drop.l3 (x1 : disk_Fall) (m0 : disk_Disk) (r24 : (List Int)) (x28 : Int) (l29 : List disk_sector) : Option ((Int × (List disk_sector)) ⊕ ((List disk_sector))) :=
  if decide (x28 < (r24.length : Int)) then (Option.bind (at_ r24 x28) (fun (y34 : Int) => Option.bind (chk (0 ≤ (x28.tmod 64)) (if (iand .u64 (x1.Keep.fdiv ((2 : Int) ^ (min (x28.tmod 64).toNat 64))) 1) == 1 then (Option.bind (at_ l29 y34) (fun (y41 : disk_sector) => some ((l29.set y34.toNat (mgetD m0.wait_ y34 (⟨(ByteArray.mk #[]), 0⟩ : disk_sector)))))) else (some (l29)))) (fun x => F.disk_Disk_drop.r1 x1 m0 x28 y34 x))) else (some (.inr (l29)))
def F.disk_Disk_drop.r4 (m0 : disk_Disk) (l58 : List disk_sector) : Option (disk_Disk) :=
  some ((⟨l58, ([] : List (Int × disk_sector)), true, false, m0.left_, m0.fall_, m0.acts_, IntKind.i64.wrap (m0.falls_ + 1)⟩ : disk_Disk))
def F.disk_Disk_drop (x1 : disk_Fall) (m0 : disk_Disk) : Option disk_Disk :=
  Option.bind (Option.bind (F.disk_Disk_Waiting m0) (fun (r24 : (List Int)) => iter (fun x => F.disk_Disk_drop.l3 x1 m0 r24 x.1 x.2) FUEL (0, m0.sure_))) (fun x => F.disk_Disk_drop.r4 m0 x)
set_option maxRecDepth 100000 in
set_option maxHeartbeats 4000000 in
theorem c_disk_Disk_drop (I : Hl) (x1 : disk_Fall) (m0 : disk_Disk) (p0 : Option Addr) (c0 : Nat) (p1 : Nat) (b0 : Nat) (res : disk_Disk) (hF : F.disk_Disk_drop x1 m0 = some res) : Tr Tryz.prog 41 [pP b0, .agg #[.int .u64 x1.Keep, i6 x1.Tear]] [imm I, o0 b0 p0 m0.sure_ c0 p1 m0.off_ m0.armed_ m0.left_ m0.fall_.Keep m0.fall_.Tear m0.acts_ m0.falls_, own e_disk_sector 51 p0 c0 m0.sure_, mpo (kInt .i64) (fun x : disk_sector => Value.agg #[.string x.s_, i6 x.at_]) p1 m0.wait_] (fun r H' => ∃ (pq1 : Option Addr), ∃ (cq2 : Nat), ∃ (bq4 : Nat), r = .tuple #[] ∧ H' = [imm I, o0 b0 pq1 res.sure_ cq2 bq4 res.off_ res.armed_ res.left_ res.fall_.Keep res.fall_.Tear res.acts_ res.falls_, own e_disk_sector 51 pq1 cq2 res.sure_, mpo (kInt .i64) (fun x : disk_sector => Value.agg #[.string x.s_, i6 x.at_]) bq4 res.wait_]) := by
  unfold F.disk_Disk_drop at hF
  refine tr_of_cw (fn := Tryz.f41) Tryz.func41 rfl (Nat.le_of_ble_eq_true rfl) 91 rfl fun F0 w0 => ?_
  refine cw_keep [0, 1] (L' := [(0, pP b0), (1, .agg #[.int .u64 x1.Keep, i6 x1.Tear])]) rfl ?_
  refine cw_state (S' := SAT w0 ([imm I, o0 b0 p0 m0.sure_ c0 p1 m0.off_ m0.armed_ m0.left_ m0.fall_.Keep m0.fall_.Tear m0.acts_ m0.falls_, own e_disk_sector 51 p0 c0 m0.sure_, mpo (kInt .i64) (fun x : disk_sector => Value.agg #[.string x.s_, i6 x.at_]) p1 m0.wait_] ++ F0)) (fun w hs => hs) ?_
  refine cw_seq ?_
  refine cw_region ?_
  refine ow_pw rfl (pw_box (cs := #[.int .u64 x1.Keep, i6 x1.Tear]) rfl rfl rfl rfl rfl rfl fun b21 => nw_ow ?_)
  refine ow_end rfl ?_
  refine ew_then ?_
  obtain ⟨v23, hF, hK23⟩ := bind_some hF
  refine cw_mid (fun a w => ∃ (l58 : List disk_sector), ∃ (p59 : Option Addr), ∃ (c60 : Nat), l58 = v23 ∧ Fr 91 [(0, pP b0)] a ∧ SAT w0 ([imm I, o0 b0 p59 l58 c60 p1 m0.off_ m0.armed_ m0.left_ m0.fall_.Keep m0.fall_.Tear m0.acts_ m0.falls_, o4 b21 x1.Keep x1.Tear, own e_disk_sector 51 p59 c60 l58, mpo (kInt .i64) (fun x : disk_sector => Value.agg #[.string x.s_, i6 x.at_]) p1 m0.wait_] ++ F0) w) ?_ ?_
  · refine cw_seq ?_
    refine cw_region ?_
    refine ow_vals 1 (j := 1) [0, 3, 8] [(0, pP b0), (3, pP b21), (8, pP b0)] rfl (by kernel_rfl) ?_
    obtain ⟨r24, h25, hF⟩ := bind_some hF
    refine ow_pw rfl (pw_call (F := [o4 b21 x1.Keep x1.Tear] ++ F0) rfl rfl rfl rfl rfl rfl rfl (by kernel_rfl) (perm_of_pulls [1, 1, 1, 1] rfl) (c_disk_Disk_Waiting _ m0 p0 c0 p1 b0 r24 h25) ?_)
    rintro _ _ ⟨r24_p1, r24_c2, rfl, rfl⟩
    refine nw_H (H' := [imm I, o0 b0 p0 m0.sure_ c0 p1 m0.off_ m0.armed_ m0.left_ m0.fall_.Keep m0.fall_.Tear m0.acts_ m0.falls_, own (eInt .i64) 3 r24_p1 r24_c2 r24, own e_disk_sector 51 p0 c0 m0.sure_, mpo (kInt .i64) (fun x : disk_sector => Value.agg #[.string x.s_, i6 x.at_]) p1 m0.wait_, o4 b21 x1.Keep x1.Tear] ++ F0) rfl (nw_ow ?_)
    refine ow_vals 2 (j := 4) [0, 3, 9, 10, 11] [(0, pP b0), (3, pP b21), (9, .slice r24_p1 r24.length r24_c2), (10, i6 (r24.length : Int)), (11, i6 0)] rfl (by kernel_rfl) ?_
    refine ow_end rfl ?_
    refine ew_then ?_
    refine cw_block ?_
    refine fun a w hf hs => wp_rounds (fun k a w => ∃ (x28 : Int), ∃ (l29 : List disk_sector), ∃ (p30 : Option Addr), ∃ (c31 : Nat), iter (fun x => F.disk_Disk_drop.l3 x1 m0 r24 x.1 x.2) k (x28, l29) = some v23 ∧ Fr 91 [(0, pP b0), (3, pP b21), (9, .slice r24_p1 r24.length r24_c2), (10, i6 (r24.length : Int)), (11, i6 x28)] a ∧ SAT w0 ([imm I, o0 b0 p30 l29 c31 p1 m0.off_ m0.armed_ m0.left_ m0.fall_.Keep m0.fall_.Tear m0.acts_ m0.falls_, o4 b21 x1.Keep x1.Tear, own (eInt .i64) 3 r24_p1 r24_c2 r24, own e_disk_sector 51 p30 c31 l29, mpo (kInt .i64) (fun x : disk_sector => Value.agg #[.string x.s_, i6 x.at_]) p1 m0.wait_] ++ F0) w) ?_ FUEL a w ⟨0, m0.sure_, p0, c0, hF, hf.keep [0, 3, 9, 10, 11], sat_to [0, 0, 3, 0, 0, 0] 0 rfl hs⟩
    clear hf hs
    clear a w hF
    rintro k a w ⟨x28, l29, p30, c31, hF2, hf, hs⟩
    obtain ⟨k, r27, rfl, hF, hL27⟩ := iter_some hF2
    clear hF2
    revert a w
    show CW _ _ _ 91 [(0, pP b0), (3, pP b21), (9, .slice r24_p1 r24.length r24_c2), (10, i6 (r24.length : Int)), (11, i6 x28)] (SAT w0 ([imm I, o0 b0 p30 l29 c31 p1 m0.off_ m0.armed_ m0.left_ m0.fall_.Keep m0.fall_.Tear m0.acts_ m0.falls_, o4 b21 x1.Keep x1.Tear, own (eInt .i64) 3 r24_p1 r24_c2 r24, own e_disk_sector 51 p30 c31 l29, mpo (kInt .i64) (fun x : disk_sector => Value.agg #[.string x.s_, i6 x.at_]) p1 m0.wait_] ++ F0))
    try dsimp only at hF
    unfold F.disk_Disk_drop.l3 at hF
    refine cw_seq ?_
    refine cw_region ?_
    refine ow_vals 1 (j := 1) [0, 3, 9, 10, 11, 12] [(0, pP b0), (3, pP b21), (9, .slice r24_p1 r24.length r24_c2), (10, i6 (r24.length : Int)), (11, i6 x28), (12, .bool (decide (x28 < (r24.length : Int))))] rfl (by kernel_rfl) ?_
    refine ow_end rfl ?_
    refine ew_then ?_
    refine cw_seq ?_
    rcases if_some hF with ⟨h33, hF⟩ | ⟨h33, hF⟩
    · refine cw_cond_t rfl rfl h33 ?_
      refine cw_skip ?_
      refine ew_then ?_
      refine cw_seq ?_
      refine cw_block ?_
      refine cw_seq ?_
      refine cw_region ?_
      refine ow_vals 1 (j := 1) [0, 3, 9, 10, 11, 13] [(0, pP b0), (3, pP b21), (9, .slice r24_p1 r24.length r24_c2), (10, i6 (r24.length : Int)), (11, i6 x28), (13, i6 x28)] rfl (by kernel_rfl) ?_
      obtain ⟨y34, h35, hF⟩ := bind_some hF
      refine ow_pw rfl (pw_quiet (v := .pointer (some ((base r24_p1).add (x28.toNat * 1)))) rfl rfl rfl rfl (q_index_own 3 1 rfl rfl (by kernel_rfl) rfl rfl (at_some h35).1 (at_lt h35)) (nw_ow ?_))
      refine ow_pw rfl (pw_quiet (v := i6 y34) rfl rfl rfl rfl (q_load_own0 3 1 rfl rfl rfl rfl (at_some h35).2 (by kernel_rfl)) (nw_ow ?_))
      refine ow_vals 2 (j := 5) [0, 3, 4, 5, 9, 10, 11] [(0, pP b0), (3, pP b21), (4, i6 x28), (5, i6 y34), (9, .slice r24_p1 r24.length r24_c2), (10, i6 (r24.length : Int)), (11, i6 x28)] rfl (by kernel_rfl) ?_
      refine ow_end rfl ?_
      refine ew_then ?_
      refine cw_seq ?_
      refine cw_region ?_
      refine ow_vals 3 (j := 3) [0, 3, 4, 5, 9, 10, 11, 18] [(0, pP b0), (3, pP b21), (4, i6 x28), (5, i6 y34), (9, .slice r24_p1 r24.length r24_c2), (10, i6 (r24.length : Int)), (11, i6 x28), (18, .pointer (some ⟨b0, 1, none⟩))] rfl (by kernel_rfl) ?_
      refine ow_pw rfl (pw_quiet (v := .map (some p1)) rfl rfl rfl rfl (q_load 1 rfl rfl rfl (by kernel_rfl)) (nw_ow ?_))
      refine ow_vals 1 (j := 5) [0, 3, 4, 5, 9, 10, 11, 19, 20] [(0, pP b0), (3, pP b21), (4, i6 x28), (5, i6 y34), (9, .slice r24_p1 r24.length r24_c2), (10, i6 (r24.length : Int)), (11, i6 x28), (19, .map (some p1)), (20, i6 y34)] rfl (by kernel_rfl) ?_
      refine ow_pw rfl (pw_quiet (v := .agg #[.string ((mgetD m0.wait_ y34 (⟨(ByteArray.mk #[]), 0⟩ : disk_sector)).s_), i6 ((mgetD m0.wait_ y34 (⟨(ByteArray.mk #[]), 0⟩ : disk_sector)).at_)]) rfl rfl rfl rfl (q_lookup1 (kf := (kInt .i64)) (vf := (fun x : disk_sector => Value.agg #[.string x.s_, i6 x.at_])) (key := y34) 5 (⟨(ByteArray.mk #[]), 0⟩ : disk_sector) (mkey_int (by kernel_rfl)) rfl rfl rfl rfl rfl (by kernel_rfl)) (nw_ow ?_))
      refine ow_pw rfl (pw_alloc (cs := #[.string (ByteArray.mk #[]), i6 0]) rfl rfl rfl rfl rfl (by kernel_rfl) fun b36 => nw_ow ?_)
      refine ow_pw rfl (pw_store 0 #[.string ((mgetD m0.wait_ y34 (⟨(ByteArray.mk #[]), 0⟩ : disk_sector)).s_), i6 ((mgetD m0.wait_ y34 (⟨(ByteArray.mk #[]), 0⟩ : disk_sector)).at_)] rfl rfl rfl rfl rfl rfl rfl (by kernel_rfl) (nw_H (H' := [o2 b36 ((mgetD m0.wait_ y34 (⟨(ByteArray.mk #[]), 0⟩ : disk_sector)).s_) ((mgetD m0.wait_ y34 (⟨(ByteArray.mk #[]), 0⟩ : disk_sector)).at_), imm I, o0 b0 p30 l29 c31 p1 m0.off_ m0.armed_ m0.left_ m0.fall_.Keep m0.fall_.Tear m0.acts_ m0.falls_, o4 b21 x1.Keep x1.Tear, own (eInt .i64) 3 r24_p1 r24_c2 r24, own e_disk_sector 51 p30 c31 l29, mpo (kInt .i64) (fun x : disk_sector => Value.agg #[.string x.s_, i6 x.at_]) p1 m0.wait_] ++ F0) rfl (nw_ow ?_)))
      refine ow_end rfl ?_
      refine ew_then ?_
      obtain ⟨v38, hF, hK38⟩ := bind_some hF
      refine cw_mid (fun a w => ∃ (l43 : List disk_sector), ∃ (p44 : Option Addr), ∃ (c45 : Nat), l43 = v38 ∧ Fr 91 [(0, pP b0), (3, pP b21), (4, i6 x28), (5, i6 y34), (6, pP b36), (9, .slice r24_p1 r24.length r24_c2), (10, i6 (r24.length : Int)), (11, i6 x28)] a ∧ SAT w0 ([imm I, o2 b36 ((mgetD m0.wait_ y34 (⟨(ByteArray.mk #[]), 0⟩ : disk_sector)).s_) ((mgetD m0.wait_ y34 (⟨(ByteArray.mk #[]), 0⟩ : disk_sector)).at_), o0 b0 p44 l43 c45 p1 m0.off_ m0.armed_ m0.left_ m0.fall_.Keep m0.fall_.Tear m0.acts_ m0.falls_, o4 b21 x1.Keep x1.Tear, own (eInt .i64) 3 r24_p1 r24_c2 r24, own e_disk_sector 51 p44 c45 l43, mpo (kInt .i64) (fun x : disk_sector => Value.agg #[.string x.s_, i6 x.at_]) p1 m0.wait_] ++ F0) w) ?_ ?_
      · refine cw_seq ?_
        refine cw_region ?_
        refine ow_vals 1 (j := 1) [0, 3, 4, 5, 6, 9, 10, 11, 22] [(0, pP b0), (3, pP b21), (4, i6 x28), (5, i6 y34), (6, pP b36), (9, .slice r24_p1 r24.length r24_c2), (10, i6 (r24.length : Int)), (11, i6 x28), (22, pP b21)] rfl (by kernel_rfl) ?_
        refine ow_pw rfl (pw_quiet (v := .int .u64 x1.Keep) rfl rfl rfl rfl (q_load 3 rfl rfl rfl (by kernel_rfl)) (nw_ow ?_))
        refine ow_vals 2 (j := 4) [0, 3, 4, 5, 6, 9, 10, 11, 23, 25] [(0, pP b0), (3, pP b21), (4, i6 x28), (5, i6 y34), (6, pP b36), (9, .slice r24_p1 r24.length r24_c2), (10, i6 (r24.length : Int)), (11, i6 x28), (23, .int .u64 x1.Keep), (25, i6 (x28.tmod 64))] rfl (by kernel_rfl) ?_
        obtain ⟨h39, hF⟩ := chk_some hF
        refine ow_pw rfl (pw_quiet (v := .int .u64 (x1.Keep.fdiv ((2 : Int) ^ (min (x28.tmod 64).toNat 64)))) rfl rfl rfl rfl (q_shift_shr rfl rfl rfl h39) (nw_ow ?_))
        refine ow_vals 2 (j := 7) [0, 3, 4, 5, 6, 9, 10, 11, 28] [(0, pP b0), (3, pP b21), (4, i6 x28), (5, i6 y34), (6, pP b36), (9, .slice r24_p1 r24.length r24_c2), (10, i6 (r24.length : Int)), (11, i6 x28), (28, .bool ((iand .u64 (x1.Keep.fdiv ((2 : Int) ^ (min (x28.tmod 64).toNat 64))) 1) == 1))] rfl (by kernel_rfl) ?_
        refine ow_end rfl ?_
        refine ew_then ?_
        rcases if_some hF with ⟨h40, hF⟩ | ⟨h40, hF⟩
        · refine cw_cond_t rfl rfl h40 ?_
          refine cw_open 7 (SAT w0 ([o2 b36 ((mgetD m0.wait_ y34 (⟨(ByteArray.mk #[]), 0⟩ : disk_sector)).s_) ((mgetD m0.wait_ y34 (⟨(ByteArray.mk #[]), 0⟩ : disk_sector)).at_), imm I, o0 b0 p30 l29 c31 p1 m0.off_ m0.armed_ m0.left_ m0.fall_.Keep m0.fall_.Tear m0.acts_ m0.falls_, o4 b21 x1.Keep x1.Tear, own (eInt .i64) 3 r24_p1 r24_c2 r24, own e_disk_sector 51 p30 c31 l29, mpo (kInt .i64) (fun x : disk_sector => Value.agg #[.string x.s_, i6 x.at_]) p1 m0.wait_])) (by kernel_rfl) (f := 8) rfl (fun w hs => sat_drew hs) ?_
          refine aw_vals [0, 1, 2, 4] (f' := 4) (m' := 23) [0, 3, 4, 5, 6, 9, 10, 11, 31, 33] [(0, pP b0), (3, pP b21), (4, i6 x28), (5, i6 y34), (6, pP b36), (9, .slice r24_p1 r24.length r24_c2), (10, i6 (r24.length : Int)), (11, i6 x28), (31, pP b0), (33, i6 y34)] (fun _ _ _ _ _ h => calm_fin (P := Tryz.prog) (fn := Tryz.f41) _ _ _ _ _ h) (fun w hs => sat_pulls [0, 0, 0, 0, 0, 0, 0] (G := [] ++ F0) rfl hs) rfl (by kernel_rfl) ?_
          refine aw_quiet 3 (m' := 31) (v := .slice p30 l29.length c31) 3 [] rfl rfl rfl rfl (by kernel_rfl) (by kernel_rfl) (by kernel_rfl) (fun _ _ _ _ _ h => calm_fin (P := Tryz.prog) (fn := Tryz.f41) _ _ _ _ _ h) (fun w hs => sat_pulls [0, 0, 0, 0, 0, 0, 0] (G := [] ++ F0) rfl hs) (q_load 2 rfl rfl rfl (by kernel_rfl)) ?_
          refine aw_quiet 5 (m' := 63) (v := .agg #[.string ((mgetD m0.wait_ y34 (⟨(ByteArray.mk #[]), 0⟩ : disk_sector)).s_), i6 ((mgetD m0.wait_ y34 (⟨(ByteArray.mk #[]), 0⟩ : disk_sector)).at_)]) 5 [] rfl rfl rfl rfl (by kernel_rfl) (by kernel_rfl) (by kernel_rfl) (fun _ _ _ _ _ h => calm_fin (P := Tryz.prog) (fn := Tryz.f41) _ _ _ _ _ h) (fun w hs => sat_pulls [0, 0, 0, 0, 0, 0, 0] (G := [] ++ F0) rfl hs) (q_load 0 rfl rfl rfl (by kernel_rfl)) ?_
          obtain ⟨y41, h42, hF⟩ := bind_some hF
          refine aw_quiet 6 (m' := 127) (v := .pointer (some ((base p30).add (y34.toNat * 2)))) 6 [] rfl rfl rfl rfl (by kernel_rfl) (by kernel_rfl) (by kernel_rfl) (fun _ _ _ _ _ h => calm_fin (P := Tryz.prog) (fn := Tryz.f41) _ _ _ _ _ h) (fun w hs => sat_pulls [0, 0, 0, 0, 0, 0, 0] (G := [] ++ F0) rfl hs) (q_index_own 5 2 rfl rfl (by kernel_rfl) rfl rfl (at_some h42).1 (at_lt h42)) ?_
          refine aw_only 7 (m' := 255) (by kernel_rfl) (by kernel_rfl) (pw_store_own 5 2 (z' := (mgetD m0.wait_ y34 (⟨(ByteArray.mk #[]), 0⟩ : disk_sector))) (off := 0) rfl rfl rfl rfl rfl rfl rfl rfl (at_some h42).2 (by kernel_rfl) (nw_H (H' := [o2 b36 ((mgetD m0.wait_ y34 (⟨(ByteArray.mk #[]), 0⟩ : disk_sector)).s_) ((mgetD m0.wait_ y34 (⟨(ByteArray.mk #[]), 0⟩ : disk_sector)).at_), imm I, o0 b0 p30 (l29.set y34.toNat (mgetD m0.wait_ y34 (⟨(ByteArray.mk #[]), 0⟩ : disk_sector))) c31 p1 m0.off_ m0.armed_ m0.left_ m0.fall_.Keep m0.fall_.Tear m0.acts_ m0.falls_, o4 b21 x1.Keep x1.Tear, own (eInt .i64) 3 r24_p1 r24_c2 r24, own e_disk_sector 51 p30 c31 (l29.set y34.toNat (mgetD m0.wait_ y34 (⟨(ByteArray.mk #[]), 0⟩ : disk_sector))), mpo (kInt .i64) (fun x : disk_sector => Value.agg #[.string x.s_, i6 x.at_]) p1 m0.wait_] ++ F0) (by first | rfl | (simp only [o0, o3, o5, List.length_set]; rfl)) (aw_last (by kernel_rfl) ?_)))
          refine aw_slots (L' := [(35, .pointer (some ((base p30).add (y34.toNat * 2)))), (34, .agg #[.string ((mgetD m0.wait_ y34 (⟨(ByteArray.mk #[]), 0⟩ : disk_sector)).s_), i6 ((mgetD m0.wait_ y34 (⟨(ByteArray.mk #[]), 0⟩ : disk_sector)).at_)]), (32, .slice p30 (l29.set y34.toNat (mgetD m0.wait_ y34 (⟨(ByteArray.mk #[]), 0⟩ : disk_sector))).length c31), (0, pP b0), (3, pP b21), (4, i6 x28), (5, i6 y34), (6, pP b36), (9, .slice r24_p1 r24.length r24_c2), (10, i6 (r24.length : Int)), (11, i6 x28), (31, pP b0), (33, i6 y34)]) (by first | rfl | (simp only [o0, o3, o5, List.length_set]; rfl)) ?_
          refine aw_keep [0, 3, 4, 5, 6, 9, 10, 11] (L' := [(0, pP b0), (3, pP b21), (4, i6 x28), (5, i6 y34), (6, pP b36), (9, .slice r24_p1 r24.length r24_c2), (10, i6 (r24.length : Int)), (11, i6 x28)]) rfl ?_
          refine aw_end (by kernel_rfl) ?_
          have hR := Option.some.inj hF
          exact fun a w hf hs => ⟨l29.set y34.toNat (mgetD m0.wait_ y34 (⟨(ByteArray.mk #[]), 0⟩ : disk_sector)), p30, c31, hR, hf.keep [0, 3, 4, 5, 6, 9, 10, 11], sat_to [1, 0, 0, 0, 0, 0, 0] 0 rfl hs⟩
        refine cw_cond_f rfl rfl h40 ?_
        refine cw_skip ?_
        have hR := Option.some.inj hF
        exact fun a w hf hs => ⟨l29, p30, c31, hR, hf.keep [0, 3, 4, 5, 6, 9, 10, 11], sat_to [1, 0, 0, 0, 0, 0, 0] 0 rfl hs⟩
      rintro a w ⟨l43, p44, c45, hv, hf, hs⟩
      subst hv
      replace hF := hK38
      clear hK38
      try dsimp only at hF
      revert a w
      show CW _ _ _ 91 [(0, pP b0), (3, pP b21), (4, i6 x28), (5, i6 y34), (6, pP b36), (9, .slice r24_p1 r24.length r24_c2), (10, i6 (r24.length : Int)), (11, i6 x28)] (SAT w0 ([imm I, o2 b36 ((mgetD m0.wait_ y34 (⟨(ByteArray.mk #[]), 0⟩ : disk_sector)).s_) ((mgetD m0.wait_ y34 (⟨(ByteArray.mk #[]), 0⟩ : disk_sector)).at_), o0 b0 p44 l43 c45 p1 m0.off_ m0.armed_ m0.left_ m0.fall_.Keep m0.fall_.Tear m0.acts_ m0.falls_, o4 b21 x1.Keep x1.Tear, own (eInt .i64) 3 r24_p1 r24_c2 r24, own e_disk_sector 51 p44 c45 l43, mpo (kInt .i64) (fun x : disk_sector => Value.agg #[.string x.s_, i6 x.at_]) p1 m0.wait_] ++ F0))
      unfold F.disk_Disk_drop.r1 at hF
      obtain ⟨v47, hF, hK47⟩ := bind_some hF
      refine cw_mid (fun a w => ∃ (x49 : Bool), x49 = v47 ∧ Fr 91 [(0, pP b0), (3, pP b21), (5, i6 y34), (6, pP b36), (9, .slice r24_p1 r24.length r24_c2), (10, i6 (r24.length : Int)), (11, i6 x28), (45, .bool x49)] a ∧ SAT w0 ([imm I, o2 b36 ((mgetD m0.wait_ y34 (⟨(ByteArray.mk #[]), 0⟩ : disk_sector)).s_) ((mgetD m0.wait_ y34 (⟨(ByteArray.mk #[]), 0⟩ : disk_sector)).at_), o0 b0 p44 l43 c45 p1 m0.off_ m0.armed_ m0.left_ m0.fall_.Keep m0.fall_.Tear m0.acts_ m0.falls_, o4 b21 x1.Keep x1.Tear, own (eInt .i64) 3 r24_p1 r24_c2 r24, own e_disk_sector 51 p44 c45 l43, mpo (kInt .i64) (fun x : disk_sector => Value.agg #[.string x.s_, i6 x.at_]) p1 m0.wait_] ++ F0) w) ?_ ?_
      · refine cw_region ?_
        refine ow_vals 1 (j := 1) [0, 3, 4, 5, 6, 9, 10, 11, 36] [(0, pP b0), (3, pP b21), (4, i6 x28), (5, i6 y34), (6, pP b36), (9, .slice r24_p1 r24.length r24_c2), (10, i6 (r24.length : Int)), (11, i6 x28), (36, .pointer (some ⟨b21, 1, none⟩))] rfl (by kernel_rfl) ?_
        refine ow_pw rfl (pw_quiet (v := i6 x1.Tear) rfl rfl rfl rfl (q_load 3 rfl rfl rfl (by kernel_rfl)) (nw_ow ?_))
        refine ow_vals 2 (j := 4) [0, 3, 4, 5, 6, 9, 10, 11, 39] [(0, pP b0), (3, pP b21), (4, i6 x28), (5, i6 y34), (6, pP b36), (9, .slice r24_p1 r24.length r24_c2), (10, i6 (r24.length : Int)), (11, i6 x28), (39, .bool (decide (x1.Tear ≥ 0)))] rfl (by kernel_rfl) ?_
        rcases if_some hF with ⟨h48, hF⟩ | ⟨h48, hF⟩
        · refine ow_slots (L' := [(0, pP b0), (3, pP b21), (4, i6 x28), (5, i6 y34), (6, pP b36), (9, .slice r24_p1 r24.length r24_c2), (10, i6 (r24.length : Int)), (11, i6 x28), (39, .bool true)]) (by rw [h48]) ?_
          refine ow_vals 1 (j := 5) [0, 3, 4, 5, 6, 9, 10, 11, 39, 40] [(0, pP b0), (3, pP b21), (4, i6 x28), (5, i6 y34), (6, pP b36), (9, .slice r24_p1 r24.length r24_c2), (10, i6 (r24.length : Int)), (11, i6 x28), (39, .bool true), (40, .pointer (some ⟨b21, 1, none⟩))] rfl (by kernel_rfl) ?_
          refine ow_pw rfl (pw_quiet (v := i6 x1.Tear) rfl rfl rfl rfl (q_load 3 rfl rfl rfl (by kernel_rfl)) (nw_ow ?_))
          refine ow_vals 4 (j := 10) [0, 3, 5, 6, 9, 10, 11, 45] [(0, pP b0), (3, pP b21), (5, i6 y34), (6, pP b36), (9, .slice r24_p1 r24.length r24_c2), (10, i6 (r24.length : Int)), (11, i6 x28), (45, .bool ((IntKind.i64.wrap (x1.Tear.tdiv 64)) == x28))] rfl (by kernel_rfl) ?_
          refine ow_end rfl ?_
          have hR := Option.some.inj hF
          exact fun a w hf hs => ⟨(IntKind.i64.wrap (x1.Tear.tdiv 64)) == x28, hR, hf.keep [0, 3, 5, 6, 9, 10, 11, 45], sat_to [0, 0, 0, 0, 0, 0, 0] 0 rfl hs⟩
        refine ow_slots (L' := [(0, pP b0), (3, pP b21), (4, i6 x28), (5, i6 y34), (6, pP b36), (9, .slice r24_p1 r24.length r24_c2), (10, i6 (r24.length : Int)), (11, i6 x28), (39, .bool false)]) (by rw [h48]) ?_
        refine ow_vals 6 (j := 10) [0, 3, 5, 6, 9, 10, 11, 45] [(0, pP b0), (3, pP b21), (5, i6 y34), (6, pP b36), (9, .slice r24_p1 r24.length r24_c2), (10, i6 (r24.length : Int)), (11, i6 x28), (45, .bool false)] rfl (by kernel_rfl) ?_
        refine ow_end rfl ?_
        have hR := Option.some.inj hF
        exact fun a w hf hs => ⟨false, hR, hf.keep [0, 3, 5, 6, 9, 10, 11, 45], sat_to [0, 0, 0, 0, 0, 0, 0] 0 rfl hs⟩
      rintro a w ⟨x49, hv, hf, hs⟩
      subst hv
      replace hF := hK47
      clear hK47
      try dsimp only at hF
      revert a w
      show CW _ _ _ 91 [(0, pP b0), (3, pP b21), (5, i6 y34), (6, pP b36), (9, .slice r24_p1 r24.length r24_c2), (10, i6 (r24.length : Int)), (11, i6 x28), (45, .bool x49)] (SAT w0 ([imm I, o2 b36 ((mgetD m0.wait_ y34 (⟨(ByteArray.mk #[]), 0⟩ : disk_sector)).s_) ((mgetD m0.wait_ y34 (⟨(ByteArray.mk #[]), 0⟩ : disk_sector)).at_), o0 b0 p44 l43 c45 p1 m0.off_ m0.armed_ m0.left_ m0.fall_.Keep m0.fall_.Tear m0.acts_ m0.falls_, o4 b21 x1.Keep x1.Tear, own (eInt .i64) 3 r24_p1 r24_c2 r24, own e_disk_sector 51 p44 c45 l43, mpo (kInt .i64) (fun x : disk_sector => Value.agg #[.string x.s_, i6 x.at_]) p1 m0.wait_] ++ F0))
      unfold F.disk_Disk_drop.r2 at hF
      rcases if_some hF with ⟨h50, hF⟩ | ⟨h50, hF⟩
      · refine cw_cond_t rfl rfl h50 ?_
        refine cw_seq ?_
        refine cw_region ?_
        refine ow_vals 1 (j := 1) [0, 3, 5, 6, 9, 10, 11, 46] [(0, pP b0), (3, pP b21), (5, i6 y34), (6, pP b36), (9, .slice r24_p1 r24.length r24_c2), (10, i6 (r24.length : Int)), (11, i6 x28), (46, .pointer (some ⟨b21, 1, none⟩))] rfl (by kernel_rfl) ?_
        refine ow_pw rfl (pw_quiet (v := i6 x1.Tear) rfl rfl rfl rfl (q_load 3 rfl rfl rfl (by kernel_rfl)) (nw_ow ?_))
        refine ow_vals 2 (j := 4) [0, 3, 5, 6, 7, 9, 10, 11] [(0, pP b0), (3, pP b21), (5, i6 y34), (6, pP b36), (7, i6 (x1.Tear.tmod 64)), (9, .slice r24_p1 r24.length r24_c2), (10, i6 (r24.length : Int)), (11, i6 x28)] rfl (by kernel_rfl) ?_
        refine ow_end rfl ?_
        refine ew_then ?_
        refine cw_open 24 (SAT w0 ([imm I, o2 b36 ((mgetD m0.wait_ y34 (⟨(ByteArray.mk #[]), 0⟩ : disk_sector)).s_) ((mgetD m0.wait_ y34 (⟨(ByteArray.mk #[]), 0⟩ : disk_sector)).at_), o0 b0 p44 l43 c45 p1 m0.off_ m0.armed_ m0.left_ m0.fall_.Keep m0.fall_.Tear m0.acts_ m0.falls_, o4 b21 x1.Keep x1.Tear, own (eInt .i64) 3 r24_p1 r24_c2 r24, own e_disk_sector 51 p44 c45 l43, mpo (kInt .i64) (fun x : disk_sector => Value.agg #[.string x.s_, i6 x.at_]) p1 m0.wait_])) (by kernel_rfl) (f := 25) rfl (fun w hs => sat_drew hs) ?_
        refine aw_vals [0, 1, 2, 4, 5, 7, 9, 10, 11, 13, 17, 20] (f' := 13) (m' := 1191607) [0, 3, 9, 10, 11, 51, 53, 54, 56, 60, 62, 66, 69] [(0, pP b0), (3, pP b21), (9, .slice r24_p1 r24.length r24_c2), (10, i6 (r24.length : Int)), (11, i6 x28), (51, pP b0), (53, i6 y34), (54, pP b36), (56, i6 (x1.Tear.tmod 64)), (60, pP b0), (62, i6 y34), (66, i6 (x1.Tear.tmod 64)), (69, .pointer (some ⟨b36, 1, none⟩))] (fun _ _ _ _ _ h => calm_fin (P := Tryz.prog) (fn := Tryz.f41) _ _ _ _ _ h) (fun w hs => sat_pulls [0, 0, 0, 0, 0, 0, 0] (G := [] ++ F0) rfl hs) rfl (by kernel_rfl) ?_
        refine aw_quiet 3 (m' := 1191615) (v := .slice p44 l43.length c45) 3 [] rfl rfl rfl rfl (by kernel_rfl) (by kernel_rfl) (by kernel_rfl) (fun _ _ _ _ _ h => calm_fin (P := Tryz.prog) (fn := Tryz.f41) _ _ _ _ _ h) (fun w hs => sat_pulls [0, 0, 0, 0, 0, 0, 0] (G := [] ++ F0) rfl hs) (q_load 2 rfl rfl rfl (by kernel_rfl)) ?_
        refine aw_quiet 6 (m' := 1191679) (v := .string ((mgetD m0.wait_ y34 (⟨(ByteArray.mk #[]), 0⟩ : disk_sector)).s_)) 6 [] rfl rfl rfl rfl (by kernel_rfl) (by kernel_rfl) (by kernel_rfl) (fun _ _ _ _ _ h => calm_fin (P := Tryz.prog) (fn := Tryz.f41) _ _ _ _ _ h) (fun w hs => sat_pulls [0, 0, 0, 0, 0, 0, 0] (G := [] ++ F0) rfl hs) (q_load 1 rfl rfl rfl (by kernel_rfl)) ?_
        obtain ⟨h51, hF⟩ := chk_some hF
        refine aw_pure 8 (m' := 1191935) (v := .string (((mgetD m0.wait_ y34 (⟨(ByteArray.mk #[]), 0⟩ : disk_sector)).s_).extract (0 : Int).toNat (x1.Tear.tmod 64).toNat)) rfl rfl rfl rfl (by kernel_rfl) (by kernel_rfl) (fun _ _ _ _ _ h => calm_fin (P := Tryz.prog) (fn := Tryz.f41) _ _ _ _ _ h) (fun w hs => sat_pulls [0, 0, 0, 0, 0, 0, 0] (G := [] ++ F0) rfl hs) (q_slice_str rfl (by kernel_rfl) rfl rfl rfl h51.1 h51.2.1 h51.2.2) ?_
        refine aw_quiet 12 (m' := 1196031) (v := .slice p44 l43.length c45) 12 [] rfl rfl rfl rfl (by kernel_rfl) (by kernel_rfl) (by kernel_rfl) (fun _ _ _ _ _ h => calm_fin (P := Tryz.prog) (fn := Tryz.f41) _ _ _ _ _ h) (fun w hs => sat_pulls [0, 0, 0, 0, 0, 0, 0] (G := [] ++ F0) rfl hs) (q_load 2 rfl rfl rfl (by kernel_rfl)) ?_
        obtain ⟨y52, h53, hF⟩ := bind_some hF
        refine aw_quiet 14 (m' := 1212415) (v := .pointer (some ((base p44).add (y34.toNat * 2)))) 14 [] rfl rfl rfl rfl (by kernel_rfl) (by kernel_rfl) (by kernel_rfl) (fun _ _ _ _ _ h => calm_fin (P := Tryz.prog) (fn := Tryz.f41) _ _ _ _ _ h) (fun w hs => sat_pulls [0, 0, 0, 0, 0, 0, 0] (G := [] ++ F0) rfl hs) (q_index_own 5 2 rfl rfl (by kernel_rfl) rfl rfl (at_some h53).1 (at_lt h53)) ?_
        refine aw_vals [15] (f' := 7) (m' := 1245183) [0, 3, 9, 10, 11, 52, 53, 57, 64, 66, 69] [(0, pP b0), (3, pP b21), (9, .slice r24_p1 r24.length r24_c2), (10, i6 (r24.length : Int)), (11, i6 x28), (52, .slice p44 l43.length c45), (53, i6 y34), (57, .string (((mgetD m0.wait_ y34 (⟨(ByteArray.mk #[]), 0⟩ : disk_sector)).s_).extract (0 : Int).toNat (x1.Tear.tmod 64).toNat)), (64, .pointer (some (((base p44).add (y34.toNat * 2)).add 0))), (66, i6 (x1.Tear.tmod 64)), (69, .pointer (some ⟨b36, 1, none⟩))] (fun _ _ _ _ _ h => calm_fin (P := Tryz.prog) (fn := Tryz.f41) _ _ _ _ _ h) (fun w hs => sat_pulls [0, 0, 0, 0, 0, 0, 0] (G := [] ++ F0) rfl hs) rfl (by kernel_rfl) ?_
        refine aw_quiet 16 (m' := 1310719) (v := .string y52.s_) 16 [] rfl rfl rfl rfl (by kernel_rfl) (by kernel_rfl) (by kernel_rfl) (fun _ _ _ _ _ h => calm_fin (P := Tryz.prog) (fn := Tryz.f41) _ _ _ _ _ h) (fun w hs => sat_pulls [0, 0, 0, 0, 0, 0, 0] (G := [] ++ F0) rfl hs) (q_load_own 5 2 rfl rfl rfl rfl (at_some h53).2 (by kernel_rfl)) ?_
        obtain ⟨h54, hF⟩ := chk_some hF
        refine aw_pure 18 (m' := 1572863) (v := .string (y52.s_.extract (x1.Tear.tmod 64).toNat (y52.s_.size : Int).toNat)) rfl rfl rfl rfl (by kernel_rfl) (by kernel_rfl) (fun _ _ _ _ _ h => calm_fin (P := Tryz.prog) (fn := Tryz.f41) _ _ _ _ _ h) (fun w hs => sat_pulls [0, 0, 0, 0, 0, 0, 0] (G := [] ++ F0) rfl hs) (q_slice_str rfl (by kernel_rfl) rfl rfl rfl h54.1 h54.2.1 h54.2.2) ?_
        obtain ⟨h55, hF⟩ := chk_some hF
        refine aw_pure 19 (m' := 2097151) (v := .string ((((mgetD m0.wait_ y34 (⟨(ByteArray.mk #[]), 0⟩ : disk_sector)).s_).extract (0 : Int).toNat (x1.Tear.tmod 64).toNat) ++ (y52.s_.extract (x1.Tear.tmod 64).toNat (y52.s_.size : Int).toNat))) rfl rfl rfl rfl (by kernel_rfl) (by kernel_rfl) (fun _ _ _ _ _ h => calm_fin (P := Tryz.prog) (fn := Tryz.f41) _ _ _ _ _ h) (fun w hs => sat_pulls [0, 0, 0, 0, 0, 0, 0] (G := [] ++ F0) rfl hs) (q_concat rfl rfl rfl h55) ?_
        refine aw_quiet 21 (m' := 4194303) (v := i6 ((mgetD m0.wait_ y34 (⟨(ByteArray.mk #[]), 0⟩ : disk_sector)).at_)) 21 [] rfl rfl rfl rfl (by kernel_rfl) (by kernel_rfl) (by kernel_rfl) (fun _ _ _ _ _ h => calm_fin (P := Tryz.prog) (fn := Tryz.f41) _ _ _ _ _ h) (fun w hs => sat_pulls [0, 0, 0, 0, 0, 0, 0] (G := [] ++ F0) rfl hs) (q_load 1 rfl rfl rfl (by kernel_rfl)) ?_
        refine aw_vals [22] (f' := 2) (m' := 8388607) [0, 3, 9, 10, 11, 52, 53, 71] [(0, pP b0), (3, pP b21), (9, .slice r24_p1 r24.length r24_c2), (10, i6 (r24.length : Int)), (11, i6 x28), (52, .slice p44 l43.length c45), (53, i6 y34), (71, .agg #[.string ((((mgetD m0.wait_ y34 (⟨(ByteArray.mk #[]), 0⟩ : disk_sector)).s_).extract (0 : Int).toNat (x1.Tear.tmod 64).toNat) ++ (y52.s_.extract (x1.Tear.tmod 64).toNat (y52.s_.size : Int).toNat)), i6 ((mgetD m0.wait_ y34 (⟨(ByteArray.mk #[]), 0⟩ : disk_sector)).at_)])] (fun _ _ _ _ _ h => calm_fin (P := Tryz.prog) (fn := Tryz.f41) _ _ _ _ _ h) (fun w hs => sat_pulls [0, 0, 0, 0, 0, 0, 0] (G := [] ++ F0) rfl hs) rfl (by kernel_rfl) ?_
        obtain ⟨y56, h57, hF⟩ := bind_some hF
        refine aw_quiet 23 (m' := 16777215) (v := .pointer (some ((base p44).add (y34.toNat * 2)))) 23 [] rfl rfl rfl rfl (by kernel_rfl) (by kernel_rfl) (by kernel_rfl) (fun _ _ _ _ _ h => calm_fin (P := Tryz.prog) (fn := Tryz.f41) _ _ _ _ _ h) (fun w hs => sat_pulls [0, 0, 0, 0, 0, 0, 0] (G := [] ++ F0) rfl hs) (q_index_own 5 2 rfl rfl (by kernel_rfl) rfl rfl (at_some h57).1 (at_lt h57)) ?_
        refine aw_only 24 (m' := 33554431) (by kernel_rfl) (by kernel_rfl) (pw_store_own 5 2 (z' := (⟨(((mgetD m0.wait_ y34 (⟨(ByteArray.mk #[]), 0⟩ : disk_sector)).s_).extract (0 : Int).toNat (x1.Tear.tmod 64).toNat) ++ (y52.s_.extract (x1.Tear.tmod 64).toNat (y52.s_.size : Int).toNat), (mgetD m0.wait_ y34 (⟨(ByteArray.mk #[]), 0⟩ : disk_sector)).at_⟩ : disk_sector)) (off := 0) rfl rfl rfl rfl rfl rfl rfl rfl (at_some h57).2 (by kernel_rfl) (nw_H (H' := [imm I, o2 b36 ((mgetD m0.wait_ y34 (⟨(ByteArray.mk #[]), 0⟩ : disk_sector)).s_) ((mgetD m0.wait_ y34 (⟨(ByteArray.mk #[]), 0⟩ : disk_sector)).at_), o0 b0 p44 (l43.set y34.toNat (⟨(((mgetD m0.wait_ y34 (⟨(ByteArray.mk #[]), 0⟩ : disk_sector)).s_).extract (0 : Int).toNat (x1.Tear.tmod 64).toNat) ++ (y52.s_.extract (x1.Tear.tmod 64).toNat (y52.s_.size : Int).toNat), (mgetD m0.wait_ y34 (⟨(ByteArray.mk #[]), 0⟩ : disk_sector)).at_⟩ : disk_sector)) c45 p1 m0.off_ m0.armed_ m0.left_ m0.fall_.Keep m0.fall_.Tear m0.acts_ m0.falls_, o4 b21 x1.Keep x1.Tear, own (eInt .i64) 3 r24_p1 r24_c2 r24, own e_disk_sector 51 p44 c45 (l43.set y34.toNat (⟨(((mgetD m0.wait_ y34 (⟨(ByteArray.mk #[]), 0⟩ : disk_sector)).s_).extract (0 : Int).toNat (x1.Tear.tmod 64).toNat) ++ (y52.s_.extract (x1.Tear.tmod 64).toNat (y52.s_.size : Int).toNat), (mgetD m0.wait_ y34 (⟨(ByteArray.mk #[]), 0⟩ : disk_sector)).at_⟩ : disk_sector)), mpo (kInt .i64) (fun x : disk_sector => Value.agg #[.string x.s_, i6 x.at_]) p1 m0.wait_] ++ F0) (by first | rfl | (simp only [o0, o3, o5, List.length_set]; rfl)) (aw_last (by kernel_rfl) ?_)))
        refine aw_slots (L' := [(72, .pointer (some ((base p44).add (y34.toNat * 2)))), (0, pP b0), (3, pP b21), (9, .slice r24_p1 r24.length r24_c2), (10, i6 (r24.length : Int)), (11, i6 x28), (52, .slice p44 (l43.set y34.toNat (⟨(((mgetD m0.wait_ y34 (⟨(ByteArray.mk #[]), 0⟩ : disk_sector)).s_).extract (0 : Int).toNat (x1.Tear.tmod 64).toNat) ++ (y52.s_.extract (x1.Tear.tmod 64).toNat (y52.s_.size : Int).toNat), (mgetD m0.wait_ y34 (⟨(ByteArray.mk #[]), 0⟩ : disk_sector)).at_⟩ : disk_sector)).length c45), (53, i6 y34), (71, .agg #[.string ((((mgetD m0.wait_ y34 (⟨(ByteArray.mk #[]), 0⟩ : disk_sector)).s_).extract (0 : Int).toNat (x1.Tear.tmod 64).toNat) ++ (y52.s_.extract (x1.Tear.tmod 64).toNat (y52.s_.size : Int).toNat)), i6 ((mgetD m0.wait_ y34 (⟨(ByteArray.mk #[]), 0⟩ : disk_sector)).at_)])]) (by first | rfl | (simp only [o0, o3, o5, List.length_set]; rfl)) ?_
        refine aw_keep [0, 3, 9, 10, 11] (L' := [(0, pP b0), (3, pP b21), (9, .slice r24_p1 r24.length r24_c2), (10, i6 (r24.length : Int)), (11, i6 x28)]) rfl ?_
        refine aw_end (by kernel_rfl) ?_
        refine ew_blk ?_
        refine ew_then ?_
        refine cw_region ?_
        refine ow_vals 2 (j := 2) [0, 3, 9, 10, 11] [(0, pP b0), (3, pP b21), (9, .slice r24_p1 r24.length r24_c2), (10, i6 (r24.length : Int)), (11, i6 (IntKind.i64.wrap (x28 + 1)))] rfl (by kernel_rfl) ?_
        refine ow_end rfl ?_
        have hR := Option.some.inj hF
        subst hR
        have hR := hL27
        try dsimp only at hR
        exact fun a w hf hs => ⟨k, Nat.lt_succ_self k, IntKind.i64.wrap (x28 + 1), l43.set y34.toNat (⟨(((mgetD m0.wait_ y34 (⟨(ByteArray.mk #[]), 0⟩ : disk_sector)).s_).extract (0 : Int).toNat (x1.Tear.tmod 64).toNat) ++ (y52.s_.extract (x1.Tear.tmod 64).toNat (y52.s_.size : Int).toNat), (mgetD m0.wait_ y34 (⟨(ByteArray.mk #[]), 0⟩ : disk_sector)).at_⟩ : disk_sector), p44, c45, hR, hf.keep [0, 3, 9, 10, 11], sat_to [1, 0, 0, 0, 0, 0, 0] 1 rfl hs⟩
      refine cw_cond_f rfl rfl h50 ?_
      refine cw_skip ?_
      refine ew_blk ?_
      refine ew_then ?_
      refine cw_region ?_
      refine ow_vals 2 (j := 2) [0, 3, 9, 10, 11] [(0, pP b0), (3, pP b21), (9, .slice r24_p1 r24.length r24_c2), (10, i6 (r24.length : Int)), (11, i6 (IntKind.i64.wrap (x28 + 1)))] rfl (by kernel_rfl) ?_
      refine ow_end rfl ?_
      have hR := Option.some.inj hF
      subst hR
      have hR := hL27
      try dsimp only at hR
      exact fun a w hf hs => ⟨k, Nat.lt_succ_self k, IntKind.i64.wrap (x28 + 1), l43, p44, c45, hR, hf.keep [0, 3, 9, 10, 11], sat_to [1, 0, 0, 0, 0, 0, 0] 1 rfl hs⟩
    refine cw_cond_f rfl rfl h33 ?_
    refine cw_exit ?_
    refine ew_then_exit ?_
    refine ew_then_exit ?_
    refine ew_blk_exit ?_
    have hR := Option.some.inj hF
    subst hR
    have hR := hL27
    try dsimp only at hR
    exact fun a w hf hs => ⟨l29, p30, c31, hR, hf.keep [0], sat_to [3, 0, 0, 0, 0, 0] 1 rfl hs⟩
  rintro a w ⟨l58, p59, c60, hv, hf, hs⟩
  subst hv
  replace hF := hK23
  clear hK23
  try dsimp only at hF
  revert a w
  show CW _ _ _ 91 [(0, pP b0)] (SAT w0 ([imm I, o0 b0 p59 l58 c60 p1 m0.off_ m0.armed_ m0.left_ m0.fall_.Keep m0.fall_.Tear m0.acts_ m0.falls_, o4 b21 x1.Keep x1.Tear, own e_disk_sector 51 p59 c60 l58, mpo (kInt .i64) (fun x : disk_sector => Value.agg #[.string x.s_, i6 x.at_]) p1 m0.wait_] ++ F0))
  unfold F.disk_Disk_drop.r4 at hF
  refine cw_seq ?_
  refine cw_region ?_
  refine ow_vals 3 (j := 3) [0, 76] [(0, pP b0), (76, .pointer (some ⟨b0, 1, none⟩))] rfl (by kernel_rfl) ?_
  refine ow_pw rfl (pw_quiet (v := .map (some p1)) rfl rfl rfl rfl (q_load 1 rfl rfl rfl (by kernel_rfl)) (nw_ow ?_))
  refine ow_pw rfl (pw_mapClear 4 rfl rfl rfl rfl rfl rfl rfl rfl (nw_H (H' := [imm I, o0 b0 p59 l58 c60 p1 m0.off_ m0.armed_ m0.left_ m0.fall_.Keep m0.fall_.Tear m0.acts_ m0.falls_, o4 b21 x1.Keep x1.Tear, own e_disk_sector 51 p59 c60 l58, mpo (kInt .i64) (fun x : disk_sector => Value.agg #[.string x.s_, i6 x.at_]) p1 ([] : List (Int × disk_sector))] ++ F0) rfl (nw_ow ?_)))
  refine ow_end rfl ?_
  refine ew_then ?_
  refine cw_seq ?_
  refine cw_region ?_
  refine ow_vals 4 (j := 4) [0, 79, 81] [(0, pP b0), (79, pP b0), (81, .pointer (some ⟨b0, 2, none⟩))] rfl (by kernel_rfl) ?_
  refine ow_pw rfl (pw_store 1 #[.slice p59 l58.length c60, .map (some p1), .bool true, .bool m0.armed_, i6 m0.left_, .int .u64 m0.fall_.Keep, i6 m0.fall_.Tear, i6 m0.acts_, i6 m0.falls_] rfl rfl rfl rfl rfl rfl rfl (by kernel_rfl) (nw_H (H' := [imm I, o0 b0 p59 l58 c60 p1 true m0.armed_ m0.left_ m0.fall_.Keep m0.fall_.Tear m0.acts_ m0.falls_, o4 b21 x1.Keep x1.Tear, own e_disk_sector 51 p59 c60 l58, mpo (kInt .i64) (fun x : disk_sector => Value.agg #[.string x.s_, i6 x.at_]) p1 ([] : List (Int × disk_sector))] ++ F0) rfl (nw_ow ?_)))
  refine ow_vals 2 (j := 7) [0, 83] [(0, pP b0), (83, .pointer (some ⟨b0, 3, none⟩))] rfl (by kernel_rfl) ?_
  refine ow_pw rfl (pw_store 1 #[.slice p59 l58.length c60, .map (some p1), .bool true, .bool false, i6 m0.left_, .int .u64 m0.fall_.Keep, i6 m0.fall_.Tear, i6 m0.acts_, i6 m0.falls_] rfl rfl rfl rfl rfl rfl rfl (by kernel_rfl) (nw_H (H' := [imm I, o0 b0 p59 l58 c60 p1 true false m0.left_ m0.fall_.Keep m0.fall_.Tear m0.acts_ m0.falls_, o4 b21 x1.Keep x1.Tear, own e_disk_sector 51 p59 c60 l58, mpo (kInt .i64) (fun x : disk_sector => Value.agg #[.string x.s_, i6 x.at_]) p1 ([] : List (Int × disk_sector))] ++ F0) rfl (nw_ow ?_)))
  refine ow_end rfl ?_
  refine ew_then ?_
  refine cw_region ?_
  refine ow_vals 3 (j := 3) [84, 86] [(84, pP b0), (86, .pointer (some ⟨b0, 8, none⟩))] rfl (by kernel_rfl) ?_
  refine ow_pw rfl (pw_quiet (v := i6 m0.falls_) rfl rfl rfl rfl (q_load 1 rfl rfl rfl (by kernel_rfl)) (nw_ow ?_))
  refine ow_vals 3 (j := 7) [88, 90] [(88, i6 (IntKind.i64.wrap (m0.falls_ + 1))), (90, .pointer (some ⟨b0, 8, none⟩))] rfl (by kernel_rfl) ?_
  refine ow_pw rfl (pw_store 1 #[.slice p59 l58.length c60, .map (some p1), .bool true, .bool false, i6 m0.left_, .int .u64 m0.fall_.Keep, i6 m0.fall_.Tear, i6 m0.acts_, i6 (IntKind.i64.wrap (m0.falls_ + 1))] rfl rfl rfl rfl rfl rfl rfl (by kernel_rfl) (nw_H (H' := [imm I, o0 b0 p59 l58 c60 p1 true false m0.left_ m0.fall_.Keep m0.fall_.Tear m0.acts_ (IntKind.i64.wrap (m0.falls_ + 1)), o4 b21 x1.Keep x1.Tear, own e_disk_sector 51 p59 c60 l58, mpo (kInt .i64) (fun x : disk_sector => Value.agg #[.string x.s_, i6 x.at_]) p1 ([] : List (Int × disk_sector))] ++ F0) rfl (nw_ow ?_)))
  refine ow_end rfl ?_
  have hR := Option.some.inj hF
  subst hR
  exact fin0n (H1 := [imm I, o0 b0 p59 ((⟨l58, ([] : List (Int × disk_sector)), true, false, m0.left_, m0.fall_, m0.acts_, IntKind.i64.wrap (m0.falls_ + 1)⟩ : disk_Disk).sure_) c60 p1 ((⟨l58, ([] : List (Int × disk_sector)), true, false, m0.left_, m0.fall_, m0.acts_, IntKind.i64.wrap (m0.falls_ + 1)⟩ : disk_Disk).off_) ((⟨l58, ([] : List (Int × disk_sector)), true, false, m0.left_, m0.fall_, m0.acts_, IntKind.i64.wrap (m0.falls_ + 1)⟩ : disk_Disk).armed_) ((⟨l58, ([] : List (Int × disk_sector)), true, false, m0.left_, m0.fall_, m0.acts_, IntKind.i64.wrap (m0.falls_ + 1)⟩ : disk_Disk).left_) (((⟨l58, ([] : List (Int × disk_sector)), true, false, m0.left_, m0.fall_, m0.acts_, IntKind.i64.wrap (m0.falls_ + 1)⟩ : disk_Disk).fall_).Keep) (((⟨l58, ([] : List (Int × disk_sector)), true, false, m0.left_, m0.fall_, m0.acts_, IntKind.i64.wrap (m0.falls_ + 1)⟩ : disk_Disk).fall_).Tear) ((⟨l58, ([] : List (Int × disk_sector)), true, false, m0.left_, m0.fall_, m0.acts_, IntKind.i64.wrap (m0.falls_ + 1)⟩ : disk_Disk).acts_) ((⟨l58, ([] : List (Int × disk_sector)), true, false, m0.left_, m0.fall_, m0.acts_, IntKind.i64.wrap (m0.falls_ + 1)⟩ : disk_Disk).falls_), own e_disk_sector 51 p59 c60 ((⟨l58, ([] : List (Int × disk_sector)), true, false, m0.left_, m0.fall_, m0.acts_, IntKind.i64.wrap (m0.falls_ + 1)⟩ : disk_Disk).sure_), mpo (kInt .i64) (fun x : disk_sector => Value.agg #[.string x.s_, i6 x.at_]) p1 ((⟨l58, ([] : List (Int × disk_sector)), true, false, m0.left_, m0.fall_, m0.acts_, IntKind.i64.wrap (m0.falls_ + 1)⟩ : disk_Disk).wait_)]) (fun w hs => sat_to [2, 0, 0, 0, 0] 1 rfl hs) rfl  ⟨p59, c60, p1, rfl, rfl⟩


def F.disk_Disk_act.r1 (m0 : disk_Disk) (x24 : Bool) : Option ((Unit) ⊕ (Int × disk_Disk)) :=
  if x24 then (Option.bind (F.disk_Disk_drop m0.fall_ m0) (fun (r26 : disk_Disk) => some (.inr ((8, r26))))) else (some (.inl ()))
def F.disk_Disk_act.r2 (m0 : disk_Disk) : Option (Int × disk_Disk) :=
  some ((0, (⟨m0.sure_, m0.wait_, m0.off_, m0.armed_, IntKind.i64.wrap (m0.left_ - 1), m0.fall_, IntKind.i64.wrap (m0.acts_ + 1), m0.falls_⟩ : disk_Disk)))
def F.disk_Disk_act (m0 : disk_Disk) : Option (Int × disk_Disk) :=
  thru (Option.bind (if m0.armed_ then (some ((m0.left_ == 0))) else (some (false))) (fun x => F.disk_Disk_act.r1 m0 x)) (fun x => F.disk_Disk_act.r2 m0)
set_option maxRecDepth 100000 in
set_option maxHeartbeats 4000000 in
theorem c_disk_Disk_act (I : Hl) (m0 : disk_Disk) (p0 : Option Addr) (c0 : Nat) (p1 : Nat) (b0 : Nat) (res : Int × disk_Disk) (hF : F.disk_Disk_act m0 = some res) : Tr Tryz.prog 50 [pP b0] [imm I, o0 b0 p0 m0.sure_ c0 p1 m0.off_ m0.armed_ m0.left_ m0.fall_.Keep m0.fall_.Tear m0.acts_ m0.falls_, own e_disk_sector 51 p0 c0 m0.sure_, mpo (kInt .i64) (fun x : disk_sector => Value.agg #[.string x.s_, i6 x.at_]) p1 m0.wait_] (fun r H' => ∃ (pq1 : Option Addr), ∃ (cq2 : Nat), ∃ (bq4 : Nat), r = i6 res.1 ∧ H' = [imm I, o0 b0 pq1 res.2.sure_ cq2 bq4 res.2.off_ res.2.armed_ res.2.left_ res.2.fall_.Keep res.2.fall_.Tear res.2.acts_ res.2.falls_, own e_disk_sector 51 pq1 cq2 res.2.sure_, mpo (kInt .i64) (fun x : disk_sector => Value.agg #[.string x.s_, i6 x.at_]) bq4 res.2.wait_]) := by
  unfold F.disk_Disk_act at hF
  refine tr_of_cw (fn := Tryz.f50) Tryz.func50 rfl (Nat.le_of_ble_eq_true rfl) 34 rfl fun F0 w0 => ?_
  refine cw_keep [0] (L' := [(0, pP b0)]) rfl ?_
  refine cw_state (S' := SAT w0 ([imm I, o0 b0 p0 m0.sure_ c0 p1 m0.off_ m0.armed_ m0.left_ m0.fall_.Keep m0.fall_.Tear m0.acts_ m0.falls_, own e_disk_sector 51 p0 c0 m0.sure_, mpo (kInt .i64) (fun x : disk_sector => Value.agg #[.string x.s_, i6 x.at_]) p1 m0.wait_] ++ F0)) (fun w hs => hs) ?_
  refine cw_seq ?_
  refine cw_region ?_
  refine ow_vals 1 (j := 1) [0] [(0, pP b0)] rfl (by kernel_rfl) ?_
  refine ow_end rfl ?_
  refine ew_then ?_
  obtain ⟨v21, hF, hK21⟩ := thru_some hF
  refine cw_mid (fun a w => .inl () = v21 ∧ Fr 34 [(0, pP b0)] a ∧ SAT w0 ([imm I, o0 b0 p0 m0.sure_ c0 p1 m0.off_ m0.armed_ m0.left_ m0.fall_.Keep m0.fall_.Tear m0.acts_ m0.falls_, own e_disk_sector 51 p0 c0 m0.sure_, mpo (kInt .i64) (fun x : disk_sector => Value.agg #[.string x.s_, i6 x.at_]) p1 m0.wait_] ++ F0) w) ?_ ?_
  · obtain ⟨v22, hF, hK22⟩ := bind_some hF
    refine cw_mid (fun a w => ∃ (x24 : Bool), x24 = v22 ∧ Fr 34 [(0, pP b0), (13, .bool x24)] a ∧ SAT w0 ([imm I, o0 b0 p0 m0.sure_ c0 p1 m0.off_ m0.armed_ m0.left_ m0.fall_.Keep m0.fall_.Tear m0.acts_ m0.falls_, own e_disk_sector 51 p0 c0 m0.sure_, mpo (kInt .i64) (fun x : disk_sector => Value.agg #[.string x.s_, i6 x.at_]) p1 m0.wait_] ++ F0) w) ?_ ?_
    · refine cw_region ?_
      refine ow_vals 3 (j := 3) [0, 5] [(0, pP b0), (5, .pointer (some ⟨b0, 3, none⟩))] rfl (by kernel_rfl) ?_
      refine ow_pw rfl (pw_quiet (v := .bool m0.armed_) rfl rfl rfl rfl (q_load 1 rfl rfl rfl (by kernel_rfl)) (nw_ow ?_))
      refine ow_vals 1 (j := 5) [0, 7] [(0, pP b0), (7, .bool m0.armed_)] rfl (by kernel_rfl) ?_
      rcases if_some hF with ⟨h23, hF⟩ | ⟨h23, hF⟩
      · refine ow_slots (L' := [(0, pP b0), (7, .bool true)]) (by rw [h23]) ?_
        refine ow_vals 3 (j := 8) [0, 7, 10] [(0, pP b0), (7, .bool true), (10, .pointer (some ⟨b0, 4, none⟩))] rfl (by kernel_rfl) ?_
        refine ow_pw rfl (pw_quiet (v := i6 m0.left_) rfl rfl rfl rfl (q_load 1 rfl rfl rfl (by kernel_rfl)) (nw_ow ?_))
        refine ow_vals 2 (j := 11) [0, 13] [(0, pP b0), (13, .bool (m0.left_ == 0))] rfl (by kernel_rfl) ?_
        refine ow_end rfl ?_
        have hR := Option.some.inj hF
        exact fun a w hf hs => ⟨m0.left_ == 0, hR, hf.keep [0, 13], sat_to [0, 0, 0, 0] 0 rfl hs⟩
      refine ow_slots (L' := [(0, pP b0), (7, .bool false)]) (by rw [h23]) ?_
      refine ow_vals 6 (j := 11) [0, 13] [(0, pP b0), (13, .bool false)] rfl (by kernel_rfl) ?_
      refine ow_end rfl ?_
      have hR := Option.some.inj hF
      exact fun a w hf hs => ⟨false, hR, hf.keep [0, 13], sat_to [0, 0, 0, 0] 0 rfl hs⟩
    rintro a w ⟨x24, hv, hf, hs⟩
    subst hv
    replace hF := hK22
    clear hK22
    try dsimp only at hF
    revert a w
    show CW _ _ _ 34 [(0, pP b0), (13, .bool x24)] (SAT w0 ([imm I, o0 b0 p0 m0.sure_ c0 p1 m0.off_ m0.armed_ m0.left_ m0.fall_.Keep m0.fall_.Tear m0.acts_ m0.falls_, own e_disk_sector 51 p0 c0 m0.sure_, mpo (kInt .i64) (fun x : disk_sector => Value.agg #[.string x.s_, i6 x.at_]) p1 m0.wait_] ++ F0))
    unfold F.disk_Disk_act.r1 at hF
    rcases if_some hF with ⟨h25, hF⟩ | ⟨h25, hF⟩
    · refine cw_cond_t rfl rfl h25 ?_
      refine cw_seq ?_
      refine cw_region ?_
      refine ow_vals 4 (j := 4) [14, 17] [(14, pP b0), (17, .pointer (some ⟨b0, 5, none⟩))] rfl (by kernel_rfl) ?_
      refine ow_pw rfl (pw_quiet (v := .agg #[.int .u64 m0.fall_.Keep, i6 m0.fall_.Tear]) rfl rfl rfl rfl (q_load 1 rfl rfl rfl (by kernel_rfl)) (nw_ow ?_))
      obtain ⟨r26, h27, hF⟩ := bind_some hF
      refine ow_pw rfl (pw_call (F := [] ++ F0) rfl rfl rfl rfl rfl rfl rfl (by kernel_rfl) (perm_of_pulls [0, 0, 0, 0] rfl) (c_disk_Disk_drop _ m0.fall_ m0 p0 c0 p1 b0 r26 h27) ?_)
      rintro _ _ ⟨r26_p1, r26_c2, r26_b4, rfl, rfl⟩
      refine nw_H (H' := [imm I, o0 b0 r26_p1 r26.sure_ r26_c2 r26_b4 r26.off_ r26.armed_ r26.left_ r26.fall_.Keep r26.fall_.Tear r26.acts_ r26.falls_, own e_disk_sector 51 r26_p1 r26_c2 r26.sure_, mpo (kInt .i64) (fun x : disk_sector => Value.agg #[.string x.s_, i6 x.at_]) r26_b4 r26.wait_] ++ F0) rfl (nw_ow ?_)
      refine ow_end rfl ?_
      refine ew_then ?_
      refine cw_seq ?_
      refine cw_region ?_
      refine ow_vals 1 (j := 1) [2] [(2, i6 8)] rfl (by kernel_rfl) ?_
      refine ow_end rfl ?_
      refine ew_then ?_
      refine cw_ret ?_
      refine ew_then_ret ?_
      have hR := Option.some.inj hF
      subst hR
      have hR := hK21
      try dsimp only [Thru] at hR
      subst hR
      exact fin1 (H1 := [imm I, o0 b0 r26_p1 r26.sure_ r26_c2 r26_b4 r26.off_ r26.armed_ r26.left_ r26.fall_.Keep r26.fall_.Tear r26.acts_ r26.falls_, own e_disk_sector 51 r26_p1 r26_c2 r26.sure_, mpo (kInt .i64) (fun x : disk_sector => Value.agg #[.string x.s_, i6 x.at_]) r26_b4 r26.wait_]) (fun w hs => sat_to [0, 0, 0, 0] 0 rfl hs) rfl (rr_tmp rfl) ⟨r26_p1, r26_c2, r26_b4, rfl, rfl⟩
    refine cw_cond_f rfl rfl h25 ?_
    refine cw_skip ?_
    have hR := Option.some.inj hF
    exact fun a w hf hs => ⟨hR, hf.keep [0], sat_to [0, 0, 0, 0] 0 rfl hs⟩
  rintro a w ⟨hv, hf, hs⟩
  subst hv
  replace hF := hK21
  clear hK21
  try dsimp only [Thru] at hF
  revert a w
  show CW _ _ _ 34 [(0, pP b0)] (SAT w0 ([imm I, o0 b0 p0 m0.sure_ c0 p1 m0.off_ m0.armed_ m0.left_ m0.fall_.Keep m0.fall_.Tear m0.acts_ m0.falls_, own e_disk_sector 51 p0 c0 m0.sure_, mpo (kInt .i64) (fun x : disk_sector => Value.agg #[.string x.s_, i6 x.at_]) p1 m0.wait_] ++ F0))
  unfold F.disk_Disk_act.r2 at hF
  refine cw_seq ?_
  refine cw_region ?_
  refine ow_vals 3 (j := 3) [0, 20, 22] [(0, pP b0), (20, pP b0), (22, .pointer (some ⟨b0, 4, none⟩))] rfl (by kernel_rfl) ?_
  refine ow_pw rfl (pw_quiet (v := i6 m0.left_) rfl rfl rfl rfl (q_load 1 rfl rfl rfl (by kernel_rfl)) (nw_ow ?_))
  refine ow_vals 3 (j := 7) [0, 24, 26] [(0, pP b0), (24, i6 (IntKind.i64.wrap (m0.left_ - 1))), (26, .pointer (some ⟨b0, 4, none⟩))] rfl (by kernel_rfl) ?_
  refine ow_pw rfl (pw_store 1 #[.slice p0 m0.sure_.length c0, .map (some p1), .bool m0.off_, .bool m0.armed_, i6 (IntKind.i64.wrap (m0.left_ - 1)), .int .u64 m0.fall_.Keep, i6 m0.fall_.Tear, i6 m0.acts_, i6 m0.falls_] rfl rfl rfl rfl rfl rfl rfl (by kernel_rfl) (nw_H (H' := [imm I, o0 b0 p0 m0.sure_ c0 p1 m0.off_ m0.armed_ (IntKind.i64.wrap (m0.left_ - 1)) m0.fall_.Keep m0.fall_.Tear m0.acts_ m0.falls_, own e_disk_sector 51 p0 c0 m0.sure_, mpo (kInt .i64) (fun x : disk_sector => Value.agg #[.string x.s_, i6 x.at_]) p1 m0.wait_] ++ F0) rfl (nw_ow ?_)))
  refine ow_end rfl ?_
  refine ew_then ?_
  refine cw_seq ?_
  refine cw_region ?_
  refine ow_vals 3 (j := 3) [27, 29] [(27, pP b0), (29, .pointer (some ⟨b0, 7, none⟩))] rfl (by kernel_rfl) ?_
  refine ow_pw rfl (pw_quiet (v := i6 m0.acts_) rfl rfl rfl rfl (q_load 1 rfl rfl rfl (by kernel_rfl)) (nw_ow ?_))
  refine ow_vals 3 (j := 7) [31, 33] [(31, i6 (IntKind.i64.wrap (m0.acts_ + 1))), (33, .pointer (some ⟨b0, 7, none⟩))] rfl (by kernel_rfl) ?_
  refine ow_pw rfl (pw_store 1 #[.slice p0 m0.sure_.length c0, .map (some p1), .bool m0.off_, .bool m0.armed_, i6 (IntKind.i64.wrap (m0.left_ - 1)), .int .u64 m0.fall_.Keep, i6 m0.fall_.Tear, i6 (IntKind.i64.wrap (m0.acts_ + 1)), i6 m0.falls_] rfl rfl rfl rfl rfl rfl rfl (by kernel_rfl) (nw_H (H' := [imm I, o0 b0 p0 m0.sure_ c0 p1 m0.off_ m0.armed_ (IntKind.i64.wrap (m0.left_ - 1)) m0.fall_.Keep m0.fall_.Tear (IntKind.i64.wrap (m0.acts_ + 1)) m0.falls_, own e_disk_sector 51 p0 c0 m0.sure_, mpo (kInt .i64) (fun x : disk_sector => Value.agg #[.string x.s_, i6 x.at_]) p1 m0.wait_] ++ F0) rfl (nw_ow ?_)))
  refine ow_end rfl ?_
  refine ew_then ?_
  refine cw_seq ?_
  refine cw_region ?_
  refine ow_vals 1 (j := 1) [2] [(2, i6 0)] rfl (by kernel_rfl) ?_
  refine ow_end rfl ?_
  refine ew_then ?_
  refine cw_ret ?_
  have hR := Option.some.inj hF
  subst hR
  exact fin1 (H1 := [imm I, o0 b0 p0 ((⟨m0.sure_, m0.wait_, m0.off_, m0.armed_, IntKind.i64.wrap (m0.left_ - 1), m0.fall_, IntKind.i64.wrap (m0.acts_ + 1), m0.falls_⟩ : disk_Disk).sure_) c0 p1 ((⟨m0.sure_, m0.wait_, m0.off_, m0.armed_, IntKind.i64.wrap (m0.left_ - 1), m0.fall_, IntKind.i64.wrap (m0.acts_ + 1), m0.falls_⟩ : disk_Disk).off_) ((⟨m0.sure_, m0.wait_, m0.off_, m0.armed_, IntKind.i64.wrap (m0.left_ - 1), m0.fall_, IntKind.i64.wrap (m0.acts_ + 1), m0.falls_⟩ : disk_Disk).armed_) ((⟨m0.sure_, m0.wait_, m0.off_, m0.armed_, IntKind.i64.wrap (m0.left_ - 1), m0.fall_, IntKind.i64.wrap (m0.acts_ + 1), m0.falls_⟩ : disk_Disk).left_) (((⟨m0.sure_, m0.wait_, m0.off_, m0.armed_, IntKind.i64.wrap (m0.left_ - 1), m0.fall_, IntKind.i64.wrap (m0.acts_ + 1), m0.falls_⟩ : disk_Disk).fall_).Keep) (((⟨m0.sure_, m0.wait_, m0.off_, m0.armed_, IntKind.i64.wrap (m0.left_ - 1), m0.fall_, IntKind.i64.wrap (m0.acts_ + 1), m0.falls_⟩ : disk_Disk).fall_).Tear) ((⟨m0.sure_, m0.wait_, m0.off_, m0.armed_, IntKind.i64.wrap (m0.left_ - 1), m0.fall_, IntKind.i64.wrap (m0.acts_ + 1), m0.falls_⟩ : disk_Disk).acts_) ((⟨m0.sure_, m0.wait_, m0.off_, m0.armed_, IntKind.i64.wrap (m0.left_ - 1), m0.fall_, IntKind.i64.wrap (m0.acts_ + 1), m0.falls_⟩ : disk_Disk).falls_), own e_disk_sector 51 p0 c0 ((⟨m0.sure_, m0.wait_, m0.off_, m0.armed_, IntKind.i64.wrap (m0.left_ - 1), m0.fall_, IntKind.i64.wrap (m0.acts_ + 1), m0.falls_⟩ : disk_Disk).sure_), mpo (kInt .i64) (fun x : disk_sector => Value.agg #[.string x.s_, i6 x.at_]) p1 ((⟨m0.sure_, m0.wait_, m0.off_, m0.armed_, IntKind.i64.wrap (m0.left_ - 1), m0.fall_, IntKind.i64.wrap (m0.acts_ + 1), m0.falls_⟩ : disk_Disk).wait_)]) (fun w hs => sat_to [0, 0, 0, 0] 0 rfl hs) rfl (rr_tmp rfl) ⟨p0, c0, p1, rfl, rfl⟩


def F.disk_Disk_Write (x1 : Int) (x2 : ByteArray) (m0 : disk_Disk) : Option (Int × disk_Disk) :=
  Option.bind (F.disk_Disk_why x1 m0) (fun (r21 : Int) => if r21 != 0 then (some ((r21, m0))) else (if (x2.size : Int) != 64 then (some ((1, m0))) else (Option.bind (F.disk_Disk_act m0) (fun (r25 : Int × disk_Disk) => if r25.1 != 0 then (some ((r25.1, r25.2))) else (some ((0, (⟨r25.2.sure_, mset r25.2.wait_ x1 (⟨x2, r25.2.acts_⟩ : disk_sector), r25.2.off_, r25.2.armed_, r25.2.left_, r25.2.fall_, r25.2.acts_, r25.2.falls_⟩ : disk_Disk))))))))
set_option maxRecDepth 100000 in
set_option maxHeartbeats 4000000 in
theorem c_disk_Disk_Write (I : Hl) (x1 : Int) (x2 : ByteArray) (m0 : disk_Disk) (p0 : Option Addr) (c0 : Nat) (p1 : Nat) (b0 : Nat) (res : Int × disk_Disk) (hF : F.disk_Disk_Write x1 x2 m0 = some res) : Tr Tryz.prog 49 [pP b0, i6 x1, .string x2] [imm I, o0 b0 p0 m0.sure_ c0 p1 m0.off_ m0.armed_ m0.left_ m0.fall_.Keep m0.fall_.Tear m0.acts_ m0.falls_, own e_disk_sector 51 p0 c0 m0.sure_, mpo (kInt .i64) (fun x : disk_sector => Value.agg #[.string x.s_, i6 x.at_]) p1 m0.wait_] (fun r H' => ∃ (pq1 : Option Addr), ∃ (cq2 : Nat), ∃ (bq4 : Nat), r = i6 res.1 ∧ H' = [imm I, o0 b0 pq1 res.2.sure_ cq2 bq4 res.2.off_ res.2.armed_ res.2.left_ res.2.fall_.Keep res.2.fall_.Tear res.2.acts_ res.2.falls_, own e_disk_sector 51 pq1 cq2 res.2.sure_, mpo (kInt .i64) (fun x : disk_sector => Value.agg #[.string x.s_, i6 x.at_]) bq4 res.2.wait_]) := by
  unfold F.disk_Disk_Write at hF
  refine tr_of_cw (fn := Tryz.f49) Tryz.func49 rfl (Nat.le_of_ble_eq_true rfl) 34 rfl fun F0 w0 => ?_
  refine cw_keep [0, 1, 2] (L' := [(0, pP b0), (1, i6 x1), (2, .string x2)]) rfl ?_
  refine cw_state (S' := SAT w0 ([imm I, o0 b0 p0 m0.sure_ c0 p1 m0.off_ m0.armed_ m0.left_ m0.fall_.Keep m0.fall_.Tear m0.acts_ m0.falls_, own e_disk_sector 51 p0 c0 m0.sure_, mpo (kInt .i64) (fun x : disk_sector => Value.agg #[.string x.s_, i6 x.at_]) p1 m0.wait_] ++ F0)) (fun w hs => hs) ?_
  refine cw_seq ?_
  refine cw_region ?_
  refine ow_vals 1 (j := 1) [0, 1, 2] [(0, pP b0), (1, i6 x1), (2, .string x2)] rfl (by kernel_rfl) ?_
  refine ow_end rfl ?_
  refine ew_then ?_
  refine cw_seq ?_
  refine cw_seq ?_
  refine cw_region ?_
  refine ow_vals 2 (j := 2) [0, 1, 2, 9, 10] [(0, pP b0), (1, i6 x1), (2, .string x2), (9, pP b0), (10, i6 x1)] rfl (by kernel_rfl) ?_
  obtain ⟨r21, h22, hF⟩ := bind_some hF
  refine ow_pw rfl (pw_call (F := [] ++ F0) rfl rfl rfl rfl rfl rfl rfl (by kernel_rfl) (perm_of_pulls [0, 0, 0, 0] rfl) (c_disk_Disk_why _ x1 m0 p0 c0 p1 b0 r21 h22) ?_)
  rintro _ _ ⟨rfl, rfl⟩
  refine nw_H (H' := [imm I, o0 b0 p0 m0.sure_ c0 p1 m0.off_ m0.armed_ m0.left_ m0.fall_.Keep m0.fall_.Tear m0.acts_ m0.falls_, own e_disk_sector 51 p0 c0 m0.sure_, mpo (kInt .i64) (fun x : disk_sector => Value.agg #[.string x.s_, i6 x.at_]) p1 m0.wait_] ++ F0) rfl (nw_ow ?_)
  refine ow_vals 1 (j := 4) [0, 1, 2, 7] [(0, pP b0), (1, i6 x1), (2, .string x2), (7, i6 r21)] rfl (by kernel_rfl) ?_
  refine ow_end rfl ?_
  refine ew_then ?_
  refine cw_seq ?_
  refine cw_region ?_
  refine ow_vals 2 (j := 2) [0, 1, 2, 7, 13] [(0, pP b0), (1, i6 x1), (2, .string x2), (7, i6 r21), (13, .bool (r21 != 0))] rfl (by kernel_rfl) ?_
  refine ow_end rfl ?_
  refine ew_then ?_
  rcases if_some hF with ⟨h23, hF⟩ | ⟨h23, hF⟩
  · refine cw_cond_t rfl rfl h23 ?_
    refine cw_seq ?_
    refine cw_region ?_
    refine ow_vals 2 (j := 2) [6] [(6, i6 r21)] rfl (by kernel_rfl) ?_
    refine ow_end rfl ?_
    refine ew_then ?_
    refine cw_ret ?_
    refine ew_then_ret ?_
    have hR := Option.some.inj hF
    subst hR
    exact fin1 (H1 := [imm I, o0 b0 p0 m0.sure_ c0 p1 m0.off_ m0.armed_ m0.left_ m0.fall_.Keep m0.fall_.Tear m0.acts_ m0.falls_, own e_disk_sector 51 p0 c0 m0.sure_, mpo (kInt .i64) (fun x : disk_sector => Value.agg #[.string x.s_, i6 x.at_]) p1 m0.wait_]) (fun w hs => sat_to [0, 0, 0, 0] 0 rfl hs) rfl (rr_tmp rfl) ⟨p0, c0, p1, rfl, rfl⟩
  refine cw_cond_f rfl rfl h23 ?_
  refine cw_skip ?_
  refine ew_then ?_
  refine cw_seq ?_
  refine cw_seq ?_
  refine cw_region ?_
  refine ow_vals 3 (j := 3) [0, 1, 2, 17] [(0, pP b0), (1, i6 x1), (2, .string x2), (17, .bool ((x2.size : Int) != 64))] rfl (by kernel_rfl) ?_
  refine ow_end rfl ?_
  refine ew_then ?_
  rcases if_some hF with ⟨h24, hF⟩ | ⟨h24, hF⟩
  · refine cw_cond_t rfl rfl h24 ?_
    refine cw_seq ?_
    refine cw_region ?_
    refine ow_vals 1 (j := 1) [6] [(6, i6 1)] rfl (by kernel_rfl) ?_
    refine ow_end rfl ?_
    refine ew_then ?_
    refine cw_ret ?_
    refine ew_then_ret ?_
    have hR := Option.some.inj hF
    subst hR
    exact fin1 (H1 := [imm I, o0 b0 p0 m0.sure_ c0 p1 m0.off_ m0.armed_ m0.left_ m0.fall_.Keep m0.fall_.Tear m0.acts_ m0.falls_, own e_disk_sector 51 p0 c0 m0.sure_, mpo (kInt .i64) (fun x : disk_sector => Value.agg #[.string x.s_, i6 x.at_]) p1 m0.wait_]) (fun w hs => sat_to [0, 0, 0, 0] 0 rfl hs) rfl (rr_tmp rfl) ⟨p0, c0, p1, rfl, rfl⟩
  refine cw_cond_f rfl rfl h24 ?_
  refine cw_skip ?_
  refine ew_then ?_
  refine cw_seq ?_
  refine cw_seq ?_
  refine cw_region ?_
  refine ow_vals 1 (j := 1) [0, 1, 2, 18] [(0, pP b0), (1, i6 x1), (2, .string x2), (18, pP b0)] rfl (by kernel_rfl) ?_
  obtain ⟨r25, h26, hF⟩ := bind_some hF
  refine ow_pw rfl (pw_call (F := [] ++ F0) rfl rfl rfl rfl rfl rfl rfl (by kernel_rfl) (perm_of_pulls [0, 0, 0, 0] rfl) (c_disk_Disk_act _ m0 p0 c0 p1 b0 r25 h26) ?_)
  rintro _ _ ⟨r25_p1, r25_c2, r25_b4, rfl, rfl⟩
  refine nw_H (H' := [imm I, o0 b0 r25_p1 r25.2.sure_ r25_c2 r25_b4 r25.2.off_ r25.2.armed_ r25.2.left_ r25.2.fall_.Keep r25.2.fall_.Tear r25.2.acts_ r25.2.falls_, own e_disk_sector 51 r25_p1 r25_c2 r25.2.sure_, mpo (kInt .i64) (fun x : disk_sector => Value.agg #[.string x.s_, i6 x.at_]) r25_b4 r25.2.wait_] ++ F0) rfl (nw_ow ?_)
  refine ow_vals 1 (j := 3) [0, 1, 2, 8] [(0, pP b0), (1, i6 x1), (2, .string x2), (8, i6 r25.1)] rfl (by kernel_rfl) ?_
  refine ow_end rfl ?_
  refine ew_then ?_
  refine cw_seq ?_
  refine cw_region ?_
  refine ow_vals 2 (j := 2) [0, 1, 2, 8, 21] [(0, pP b0), (1, i6 x1), (2, .string x2), (8, i6 r25.1), (21, .bool (r25.1 != 0))] rfl (by kernel_rfl) ?_
  refine ow_end rfl ?_
  refine ew_then ?_
  rcases if_some hF with ⟨h29, hF⟩ | ⟨h29, hF⟩
  · refine cw_cond_t rfl rfl h29 ?_
    refine cw_seq ?_
    refine cw_region ?_
    refine ow_vals 2 (j := 2) [6] [(6, i6 r25.1)] rfl (by kernel_rfl) ?_
    refine ow_end rfl ?_
    refine ew_then ?_
    refine cw_ret ?_
    refine ew_then_ret ?_
    have hR := Option.some.inj hF
    subst hR
    exact fin1 (H1 := [imm I, o0 b0 r25_p1 r25.2.sure_ r25_c2 r25_b4 r25.2.off_ r25.2.armed_ r25.2.left_ r25.2.fall_.Keep r25.2.fall_.Tear r25.2.acts_ r25.2.falls_, own e_disk_sector 51 r25_p1 r25_c2 r25.2.sure_, mpo (kInt .i64) (fun x : disk_sector => Value.agg #[.string x.s_, i6 x.at_]) r25_b4 r25.2.wait_]) (fun w hs => sat_to [0, 0, 0, 0] 0 rfl hs) rfl (rr_tmp rfl) ⟨r25_p1, r25_c2, r25_b4, rfl, rfl⟩
  refine cw_cond_f rfl rfl h29 ?_
  refine cw_skip ?_
  refine ew_then ?_
  refine cw_seq ?_
  refine cw_open 11 (SAT w0 ([imm I, o0 b0 r25_p1 r25.2.sure_ r25_c2 r25_b4 r25.2.off_ r25.2.armed_ r25.2.left_ r25.2.fall_.Keep r25.2.fall_.Tear r25.2.acts_ r25.2.falls_, own e_disk_sector 51 r25_p1 r25_c2 r25.2.sure_, mpo (kInt .i64) (fun x : disk_sector => Value.agg #[.string x.s_, i6 x.at_]) r25_b4 r25.2.wait_])) (by kernel_rfl) (f := 12) rfl (fun w hs => sat_drew hs) ?_
  refine aw_vals [0, 1, 2, 4, 5, 6, 7, 8] (f' := 4) (m' := 503) [25, 27, 28, 31] [(25, .pointer (some ⟨b0, 1, none⟩)), (27, i6 x1), (28, .string x2), (31, .pointer (some ⟨b0, 7, none⟩))] (fun _ _ _ _ _ h => calm_fin (P := Tryz.prog) (fn := Tryz.f49) _ _ _ _ _ h) (fun w hs => sat_pulls [0, 0, 0, 0] (G := [] ++ F0) rfl hs) rfl (by kernel_rfl) ?_
  refine aw_quiet 3 (m' := 511) (v := .map (some r25_b4)) 3 [] rfl rfl rfl rfl (by kernel_rfl) (by kernel_rfl) (by kernel_rfl) (fun _ _ _ _ _ h => calm_fin (P := Tryz.prog) (fn := Tryz.f49) _ _ _ _ _ h) (fun w hs => sat_pulls [0, 0, 0, 0] (G := [] ++ F0) rfl hs) (q_load 1 rfl rfl rfl (by kernel_rfl)) ?_
  refine aw_quiet 9 (m' := 1023) (v := i6 r25.2.acts_) 9 [] rfl rfl rfl rfl (by kernel_rfl) (by kernel_rfl) (by kernel_rfl) (fun _ _ _ _ _ h => calm_fin (P := Tryz.prog) (fn := Tryz.f49) _ _ _ _ _ h) (fun w hs => sat_pulls [0, 0, 0, 0] (G := [] ++ F0) rfl hs) (q_load 1 rfl rfl rfl (by kernel_rfl)) ?_
  refine aw_vals [10] (f' := 1) (m' := 2047) [26, 27, 33] [(26, .map (some r25_b4)), (27, i6 x1), (33, .agg #[.string x2, i6 r25.2.acts_])] (fun _ _ _ _ _ h => calm_fin (P := Tryz.prog) (fn := Tryz.f49) _ _ _ _ _ h) (fun w hs => sat_pulls [0, 0, 0, 0] (G := [] ++ F0) rfl hs) rfl (by kernel_rfl) ?_
  refine aw_only 11 (m' := 4095) (by kernel_rfl) (by kernel_rfl) (pw_mapSet 3 (key := x1) (v := (⟨x2, r25.2.acts_⟩ : disk_sector)) (mkey_int (by kernel_rfl)) rfl rfl rfl rfl rfl rfl rfl rfl rfl rfl (nw_H (H' := [imm I, o0 b0 r25_p1 r25.2.sure_ r25_c2 r25_b4 r25.2.off_ r25.2.armed_ r25.2.left_ r25.2.fall_.Keep r25.2.fall_.Tear r25.2.acts_ r25.2.falls_, own e_disk_sector 51 r25_p1 r25_c2 r25.2.sure_, mpo (kInt .i64) (fun x : disk_sector => Value.agg #[.string x.s_, i6 x.at_]) r25_b4 (mset r25.2.wait_ x1 (⟨x2, r25.2.acts_⟩ : disk_sector))] ++ F0) rfl (aw_last (by kernel_rfl) ?_)))
  refine aw_keep [] (L' := []) rfl ?_
  refine aw_end (by kernel_rfl) ?_
  refine ew_then ?_
  refine cw_seq ?_
  refine cw_region ?_
  refine ow_vals 1 (j := 1) [6] [(6, i6 0)] rfl (by kernel_rfl) ?_
  refine ow_end rfl ?_
  refine ew_then ?_
  refine cw_ret ?_
  have hR := Option.some.inj hF
  subst hR
  exact fin1 (H1 := [imm I, o0 b0 r25_p1 ((⟨r25.2.sure_, mset r25.2.wait_ x1 (⟨x2, r25.2.acts_⟩ : disk_sector), r25.2.off_, r25.2.armed_, r25.2.left_, r25.2.fall_, r25.2.acts_, r25.2.falls_⟩ : disk_Disk).sure_) r25_c2 r25_b4 ((⟨r25.2.sure_, mset r25.2.wait_ x1 (⟨x2, r25.2.acts_⟩ : disk_sector), r25.2.off_, r25.2.armed_, r25.2.left_, r25.2.fall_, r25.2.acts_, r25.2.falls_⟩ : disk_Disk).off_) ((⟨r25.2.sure_, mset r25.2.wait_ x1 (⟨x2, r25.2.acts_⟩ : disk_sector), r25.2.off_, r25.2.armed_, r25.2.left_, r25.2.fall_, r25.2.acts_, r25.2.falls_⟩ : disk_Disk).armed_) ((⟨r25.2.sure_, mset r25.2.wait_ x1 (⟨x2, r25.2.acts_⟩ : disk_sector), r25.2.off_, r25.2.armed_, r25.2.left_, r25.2.fall_, r25.2.acts_, r25.2.falls_⟩ : disk_Disk).left_) (((⟨r25.2.sure_, mset r25.2.wait_ x1 (⟨x2, r25.2.acts_⟩ : disk_sector), r25.2.off_, r25.2.armed_, r25.2.left_, r25.2.fall_, r25.2.acts_, r25.2.falls_⟩ : disk_Disk).fall_).Keep) (((⟨r25.2.sure_, mset r25.2.wait_ x1 (⟨x2, r25.2.acts_⟩ : disk_sector), r25.2.off_, r25.2.armed_, r25.2.left_, r25.2.fall_, r25.2.acts_, r25.2.falls_⟩ : disk_Disk).fall_).Tear) ((⟨r25.2.sure_, mset r25.2.wait_ x1 (⟨x2, r25.2.acts_⟩ : disk_sector), r25.2.off_, r25.2.armed_, r25.2.left_, r25.2.fall_, r25.2.acts_, r25.2.falls_⟩ : disk_Disk).acts_) ((⟨r25.2.sure_, mset r25.2.wait_ x1 (⟨x2, r25.2.acts_⟩ : disk_sector), r25.2.off_, r25.2.armed_, r25.2.left_, r25.2.fall_, r25.2.acts_, r25.2.falls_⟩ : disk_Disk).falls_), own e_disk_sector 51 r25_p1 r25_c2 ((⟨r25.2.sure_, mset r25.2.wait_ x1 (⟨x2, r25.2.acts_⟩ : disk_sector), r25.2.off_, r25.2.armed_, r25.2.left_, r25.2.fall_, r25.2.acts_, r25.2.falls_⟩ : disk_Disk).sure_), mpo (kInt .i64) (fun x : disk_sector => Value.agg #[.string x.s_, i6 x.at_]) r25_b4 ((⟨r25.2.sure_, mset r25.2.wait_ x1 (⟨x2, r25.2.acts_⟩ : disk_sector), r25.2.off_, r25.2.armed_, r25.2.left_, r25.2.fall_, r25.2.acts_, r25.2.falls_⟩ : disk_Disk).wait_)]) (fun w hs => sat_to [0, 0, 0, 0] 0 rfl hs) rfl (rr_tmp rfl) ⟨r25_p1, r25_c2, r25_b4, rfl, rfl⟩


def F.guard_Guard_Put (x1 : Int) (x2 : ByteArray) (m0 : guard_Guard) (m1 : disk_Disk) : Option (Int × Int × guard_Guard × disk_Disk) :=
  Option.bind (F.guard_Guard_none m0 m1) (fun (r21 : Unit) => if decide ((x2.size : Int) > 47) then (some ((0, 3, m0, m1))) else (if decide (m0.n_ ≥ 4294967295) then (some ((0, 6, m0, m1))) else (Option.bind (F.guard_Eight (ior .i64 (IntKind.i64.wrap (m0.boot_ * 2 ^ 32)) (IntKind.i64.wrap (m0.n_ + 1)))) (fun (r25 : ByteArray) => chk (r25.size + (bstr ([IntKind.u8.wrap ((x2.size : Int))] : List Int)).size ≤ 9223372036854775807) (chk ((r25 ++ (bstr ([IntKind.u8.wrap ((x2.size : Int))] : List Int))).size + x2.size ≤ 9223372036854775807) (Option.bind (F.strings_Repeat (ByteArray.mk #[0]) (IntKind.i64.wrap (47 - (x2.size : Int)))) (fun (r31 : ByteArray) => chk (((r25 ++ (bstr ([IntKind.u8.wrap ((x2.size : Int))] : List Int))) ++ x2).size + r31.size ≤ 9223372036854775807) (chk ((((r25 ++ (bstr ([IntKind.u8.wrap ((x2.size : Int))] : List Int))) ++ x2) ++ r31).size + r25.size ≤ 9223372036854775807) (Option.bind (F.disk_Disk_Write x1 ((((r25 ++ (bstr ([IntKind.u8.wrap ((x2.size : Int))] : List Int))) ++ x2) ++ r31) ++ r25) m1) (fun (r35 : Int × disk_Disk) => if r35.1 != 0 then (some ((0, r35.1, m0, r35.2))) else (some ((ior .i64 (IntKind.i64.wrap (m0.boot_ * 2 ^ 32)) (IntKind.i64.wrap (m0.n_ + 1)), 0, (⟨m0.boot_, IntKind.i64.wrap (m0.n_ + 1)⟩ : guard_Guard), r35.2)))))))))))))
set_option maxRecDepth 100000 in
set_option maxHeartbeats 4000000 in
theorem c_guard_Guard_Put (I : Hl) (x1 : Int) (x2 : ByteArray) (m0 : guard_Guard) (m1 : disk_Disk) (b0 : Nat) (p0 : Option Addr) (c0 : Nat) (p1 : Nat) (b1 : Nat) (res : Int × Int × guard_Guard × disk_Disk) (hF : F.guard_Guard_Put x1 x2 m0 m1 = some res) : Tr Tryz.prog 36 [pP b0, i6 x1, .string x2] [imm I, o1 b0 b1 m0.boot_ m0.n_, o0 b1 p0 m1.sure_ c0 p1 m1.off_ m1.armed_ m1.left_ m1.fall_.Keep m1.fall_.Tear m1.acts_ m1.falls_, own e_disk_sector 51 p0 c0 m1.sure_, mpo (kInt .i64) (fun x : disk_sector => Value.agg #[.string x.s_, i6 x.at_]) p1 m1.wait_] (fun r H' => ∃ (pq1 : Option Addr), ∃ (cq2 : Nat), ∃ (bq4 : Nat), r = .tuple #[i6 res.1, i6 res.2.1] ∧ H' = [imm I, o1 b0 b1 res.2.2.1.boot_ res.2.2.1.n_, o0 b1 pq1 res.2.2.2.sure_ cq2 bq4 res.2.2.2.off_ res.2.2.2.armed_ res.2.2.2.left_ res.2.2.2.fall_.Keep res.2.2.2.fall_.Tear res.2.2.2.acts_ res.2.2.2.falls_, own e_disk_sector 51 pq1 cq2 res.2.2.2.sure_, mpo (kInt .i64) (fun x : disk_sector => Value.agg #[.string x.s_, i6 x.at_]) bq4 res.2.2.2.wait_]) := by
  unfold F.guard_Guard_Put at hF
  refine tr_of_cw (fn := Tryz.f36) Tryz.func36 rfl (Nat.le_of_ble_eq_true rfl) 70 rfl fun F0 w0 => ?_
  refine cw_keep [0, 1, 2] (L' := [(0, pP b0), (1, i6 x1), (2, .string x2)]) rfl ?_
  refine cw_state (S' := SAT w0 ([imm I, o1 b0 b1 m0.boot_ m0.n_, o0 b1 p0 m1.sure_ c0 p1 m1.off_ m1.armed_ m1.left_ m1.fall_.Keep m1.fall_.Tear m1.acts_ m1.falls_, own e_disk_sector 51 p0 c0 m1.sure_, mpo (kInt .i64) (fun x : disk_sector => Value.agg #[.string x.s_, i6 x.at_]) p1 m1.wait_] ++ F0)) (fun w hs => hs) ?_
  refine cw_seq ?_
  refine cw_region ?_
  refine ow_vals 2 (j := 2) [0, 1, 2] [(0, pP b0), (1, i6 x1), (2, .string x2)] rfl (by kernel_rfl) ?_
  refine ow_end rfl ?_
  refine ew_then ?_
  refine cw_seq ?_
  refine cw_block ?_
  refine cw_seq ?_
  refine cw_region ?_
  refine ow_vals 1 (j := 1) [0, 1, 2, 12] [(0, pP b0), (1, i6 x1), (2, .string x2), (12, pP b0)] rfl (by kernel_rfl) ?_
  obtain ⟨r21, h22, hF⟩ := bind_some hF
  refine ow_pw rfl (pw_call (F := [] ++ F0) rfl rfl rfl rfl rfl rfl rfl (by kernel_rfl) (perm_of_pulls [0, 0, 0, 0, 0] rfl) (c_guard_Guard_none _ m0 m1 b0 p0 c0 p1 b1 r21 h22) ?_)
  rintro _ _ ⟨rfl, rfl⟩
  refine nw_H (H' := [imm I, o1 b0 b1 m0.boot_ m0.n_, o0 b1 p0 m1.sure_ c0 p1 m1.off_ m1.armed_ m1.left_ m1.fall_.Keep m1.fall_.Tear m1.acts_ m1.falls_, own e_disk_sector 51 p0 c0 m1.sure_, mpo (kInt .i64) (fun x : disk_sector => Value.agg #[.string x.s_, i6 x.at_]) p1 m1.wait_] ++ F0) rfl (nw_ow ?_)
  refine ow_vals 1 (j := 3) [0, 1, 2, 11] [(0, pP b0), (1, i6 x1), (2, .string x2), (11, .bool false)] rfl (by kernel_rfl) ?_
  refine ow_end rfl ?_
  refine ew_then ?_
  refine cw_cond_f rfl rfl rfl ?_
  refine cw_seq ?_
  refine cw_region ?_
  refine ow_vals 4 (j := 4) [0, 1, 2, 14] [(0, pP b0), (1, i6 x1), (2, .string x2), (14, .bool (decide ((x2.size : Int) > 47)))] rfl (by kernel_rfl) ?_
  refine ow_end rfl ?_
  refine ew_then ?_
  rcases if_some hF with ⟨h23, hF⟩ | ⟨h23, hF⟩
  · refine cw_cond_t rfl rfl h23 ?_
    refine cw_seq ?_
    refine cw_region ?_
    refine ow_vals 2 (j := 2) [6, 7] [(6, i6 0), (7, i6 3)] rfl (by kernel_rfl) ?_
    refine ow_end rfl ?_
    refine ew_then ?_
    refine cw_ret ?_
    refine ew_blk_ret ?_
    refine ew_then_ret ?_
    have hR := Option.some.inj hF
    subst hR
    exact fin2 (H1 := [imm I, o1 b0 b1 m0.boot_ m0.n_, o0 b1 p0 m1.sure_ c0 p1 m1.off_ m1.armed_ m1.left_ m1.fall_.Keep m1.fall_.Tear m1.acts_ m1.falls_, own e_disk_sector 51 p0 c0 m1.sure_, mpo (kInt .i64) (fun x : disk_sector => Value.agg #[.string x.s_, i6 x.at_]) p1 m1.wait_]) (fun w hs => sat_to [0, 0, 0, 0, 0] 0 rfl hs) rfl (rr_tmp rfl) (rr_tmp rfl) ⟨p0, c0, p1, rfl, rfl⟩
  refine cw_cond_f rfl rfl h23 ?_
  refine cw_seq ?_
  refine cw_region ?_
  refine ow_vals 3 (j := 3) [0, 1, 2, 21] [(0, pP b0), (1, i6 x1), (2, .string x2), (21, .pointer (some ⟨b0, 2, none⟩))] rfl (by kernel_rfl) ?_
  refine ow_pw rfl (pw_quiet (v := i6 m0.n_) rfl rfl rfl rfl (q_load 1 rfl rfl rfl (by kernel_rfl)) (nw_ow ?_))
  refine ow_vals 2 (j := 6) [0, 1, 2, 18] [(0, pP b0), (1, i6 x1), (2, .string x2), (18, .bool (decide (m0.n_ ≥ 4294967295)))] rfl (by kernel_rfl) ?_
  refine ow_end rfl ?_
  refine ew_then ?_
  rcases if_some hF with ⟨h24, hF⟩ | ⟨h24, hF⟩
  · refine cw_cond_t rfl rfl h24 ?_
    refine cw_seq ?_
    refine cw_region ?_
    refine ow_vals 2 (j := 2) [6, 7] [(6, i6 0), (7, i6 6)] rfl (by kernel_rfl) ?_
    refine ow_end rfl ?_
    refine ew_then ?_
    refine cw_ret ?_
    refine ew_blk_ret ?_
    refine ew_then_ret ?_
    have hR := Option.some.inj hF
    subst hR
    exact fin2 (H1 := [imm I, o1 b0 b1 m0.boot_ m0.n_, o0 b1 p0 m1.sure_ c0 p1 m1.off_ m1.armed_ m1.left_ m1.fall_.Keep m1.fall_.Tear m1.acts_ m1.falls_, own e_disk_sector 51 p0 c0 m1.sure_, mpo (kInt .i64) (fun x : disk_sector => Value.agg #[.string x.s_, i6 x.at_]) p1 m1.wait_]) (fun w hs => sat_to [0, 0, 0, 0, 0] 0 rfl hs) rfl (rr_tmp rfl) (rr_tmp rfl) ⟨p0, c0, p1, rfl, rfl⟩
  refine cw_cond_f rfl rfl h24 ?_
  refine cw_skip ?_
  refine ew_blk ?_
  refine ew_then ?_
  refine cw_seq ?_
  refine cw_open 12 (SAT w0 ([imm I, o1 b0 b1 m0.boot_ m0.n_, o0 b1 p0 m1.sure_ c0 p1 m1.off_ m1.armed_ m1.left_ m1.fall_.Keep m1.fall_.Tear m1.acts_ m1.falls_, own e_disk_sector 51 p0 c0 m1.sure_, mpo (kInt .i64) (fun x : disk_sector => Value.agg #[.string x.s_, i6 x.at_]) p1 m1.wait_])) (by kernel_rfl) (f := 12) rfl (fun w hs => sat_drew hs) ?_
  refine aw_vals [0, 1, 2, 5, 6, 7] (f' := 6) (m' := 231) [0, 1, 2, 26, 31] [(0, pP b0), (1, i6 x1), (2, .string x2), (26, .pointer (some ⟨b0, 1, none⟩)), (31, .pointer (some ⟨b0, 2, none⟩))] (fun _ _ _ _ _ h => calm_fin (P := Tryz.prog) (fn := Tryz.f36) _ _ _ _ _ h) (fun w hs => sat_pulls [0, 0, 0, 0, 0] (G := [] ++ F0) rfl hs) rfl (by kernel_rfl) ?_
  refine aw_quiet 3 (m' := 239) (v := i6 m0.boot_) 0 [] rfl rfl rfl rfl (by kernel_rfl) (by kernel_rfl) (by kernel_rfl) (fun _ _ _ _ _ h => calm_fin (P := Tryz.prog) (fn := Tryz.f36) _ _ _ _ _ h) (fun w hs => sat_pulls [0, 0, 0, 0, 0] (G := [] ++ F0) rfl hs) (q_load 1 rfl rfl rfl (by kernel_rfl)) ?_
  refine aw_vals [4] (f' := 4) (m' := 255) [0, 1, 2, 28, 31] [(0, pP b0), (1, i6 x1), (2, .string x2), (28, i6 (IntKind.i64.wrap (m0.boot_ * 2 ^ 32))), (31, .pointer (some ⟨b0, 2, none⟩))] (fun _ _ _ _ _ h => calm_fin (P := Tryz.prog) (fn := Tryz.f36) _ _ _ _ _ h) (fun w hs => sat_pulls [0, 0, 0, 0, 0] (G := [] ++ F0) rfl hs) rfl (by kernel_rfl) ?_
  refine aw_quiet 8 (m' := 511) (v := i6 m0.n_) 0 [] rfl rfl rfl rfl (by kernel_rfl) (by kernel_rfl) (by kernel_rfl) (fun _ _ _ _ _ h => calm_fin (P := Tryz.prog) (fn := Tryz.f36) _ _ _ _ _ h) (fun w hs => sat_pulls [0, 0, 0, 0, 0] (G := [] ++ F0) rfl hs) (q_load 1 rfl rfl rfl (by kernel_rfl)) ?_
  refine aw_vals [9, 10, 11] (f' := 0) (m' := 4095) [0, 1, 2, 8] [(0, pP b0), (1, i6 x1), (2, .string x2), (8, i6 (ior .i64 (IntKind.i64.wrap (m0.boot_ * 2 ^ 32)) (IntKind.i64.wrap (m0.n_ + 1))))] (fun _ _ _ _ _ h => calm_fin (P := Tryz.prog) (fn := Tryz.f36) _ _ _ _ _ h) (fun w hs => sat_pulls [0, 0, 0, 0, 0] (G := [] ++ F0) rfl hs) rfl (by kernel_rfl) ?_
  refine aw_keep [0, 1, 2, 8] (L' := [(0, pP b0), (1, i6 x1), (2, .string x2), (8, i6 (ior .i64 (IntKind.i64.wrap (m0.boot_ * 2 ^ 32)) (IntKind.i64.wrap (m0.n_ + 1))))]) rfl ?_
  refine aw_end (by kernel_rfl) ?_
  refine ew_then ?_
  refine cw_seq ?_
  refine cw_region ?_
  refine ow_vals 1 (j := 1) [0, 1, 2, 8, 35] [(0, pP b0), (1, i6 x1), (2, .string x2), (8, i6 (ior .i64 (IntKind.i64.wrap (m0.boot_ * 2 ^ 32)) (IntKind.i64.wrap (m0.n_ + 1)))), (35, i6 (ior .i64 (IntKind.i64.wrap (m0.boot_ * 2 ^ 32)) (IntKind.i64.wrap (m0.n_ + 1))))] rfl (by kernel_rfl) ?_
  obtain ⟨r25, h26, hF⟩ := bind_some hF
  refine ow_pw rfl (pw_call (F := [o1 b0 b1 m0.boot_ m0.n_, o0 b1 p0 m1.sure_ c0 p1 m1.off_ m1.armed_ m1.left_ m1.fall_.Keep m1.fall_.Tear m1.acts_ m1.falls_, own e_disk_sector 51 p0 c0 m1.sure_, mpo (kInt .i64) (fun x : disk_sector => Value.agg #[.string x.s_, i6 x.at_]) p1 m1.wait_] ++ F0) rfl rfl rfl rfl rfl rfl rfl (by kernel_rfl) (perm_of_pulls [0] rfl) (c_guard_Eight _ (ior .i64 (IntKind.i64.wrap (m0.boot_ * 2 ^ 32)) (IntKind.i64.wrap (m0.n_ + 1))) r25 h26) ?_)
  rintro _ _ ⟨rfl, rfl⟩
  refine nw_H (H' := [imm I, o1 b0 b1 m0.boot_ m0.n_, o0 b1 p0 m1.sure_ c0 p1 m1.off_ m1.armed_ m1.left_ m1.fall_.Keep m1.fall_.Tear m1.acts_ m1.falls_, own e_disk_sector 51 p0 c0 m1.sure_, mpo (kInt .i64) (fun x : disk_sector => Value.agg #[.string x.s_, i6 x.at_]) p1 m1.wait_] ++ F0) rfl (nw_ow ?_)
  refine ow_vals 1 (j := 3) [0, 1, 2, 8, 9] [(0, pP b0), (1, i6 x1), (2, .string x2), (8, i6 (ior .i64 (IntKind.i64.wrap (m0.boot_ * 2 ^ 32)) (IntKind.i64.wrap (m0.n_ + 1)))), (9, .string r25)] rfl (by kernel_rfl) ?_
  refine ow_end rfl ?_
  refine ew_then ?_
  refine cw_seq ?_
  refine cw_seq ?_
  refine cw_open 21 (SAT w0 ([imm I, o1 b0 b1 m0.boot_ m0.n_, o0 b1 p0 m1.sure_ c0 p1 m1.off_ m1.armed_ m1.left_ m1.fall_.Keep m1.fall_.Tear m1.acts_ m1.falls_, own e_disk_sector 51 p0 c0 m1.sure_, mpo (kInt .i64) (fun x : disk_sector => Value.agg #[.string x.s_, i6 x.at_]) p1 m1.wait_])) (by kernel_rfl) (f := 23) rfl (fun w hs => sat_drew hs) ?_
  refine aw_vals [0, 1, 2, 4, 5, 6, 7, 8, 12, 14, 15, 16, 19] (f' := 10) (m' := 643575) [0, 8, 39, 41, 42, 45, 49, 53, 56] [(0, pP b0), (8, i6 (ior .i64 (IntKind.i64.wrap (m0.boot_ * 2 ^ 32)) (IntKind.i64.wrap (m0.n_ + 1)))), (39, pP b0), (41, i6 x1), (42, .string r25), (45, .int .u8 (IntKind.u8.wrap ((x2.size : Int)))), (49, .string x2), (53, i6 (IntKind.i64.wrap (47 - (x2.size : Int)))), (56, .string r25)] (fun _ _ _ _ _ h => calm_fin (P := Tryz.prog) (fn := Tryz.f36) _ _ _ _ _ h) (fun w hs => sat_pulls [0, 0, 0, 0, 0] (G := [] ++ F0) rfl hs) rfl (by kernel_rfl) ?_
  refine aw_quiet 3 (m' := 643583) (v := pP b1) 3 [] rfl rfl rfl rfl (by kernel_rfl) (by kernel_rfl) (by kernel_rfl) (fun _ _ _ _ _ h => calm_fin (P := Tryz.prog) (fn := Tryz.f36) _ _ _ _ _ h) (fun w hs => sat_pulls [0, 0, 0, 0, 0] (G := [] ++ F0) rfl hs) (q_load 1 rfl rfl rfl (by kernel_rfl)) ?_
  obtain ⟨h29, hF⟩ := chk_some hF
  obtain ⟨h30, hF⟩ := chk_some hF
  obtain ⟨r31, h32, hF⟩ := bind_some hF
  obtain ⟨h33, hF⟩ := chk_some hF
  obtain ⟨h34, hF⟩ := chk_some hF
  obtain ⟨r35, h36, hF⟩ := bind_some hF
  refine aw_two 9 17 (mi := 644095) (mj := 774655) (by kernel_rfl) (by kernel_rfl) (by kernel_rfl) ?_ ?_
  · refine pw_buildSlice (E := 5) (eInt .u8) ([IntKind.u8.wrap ((x2.size : Int))] : List Int) rfl rfl rfl rfl rfl (by kernel_rfl) rfl (by kernel_rfl) rfl (by decide) rfl fun p39 => aw_next (fun w hs => sat_pulls [1, 1, 1, 1, 1] (G := [own (eInt .u8) 5 p39 1 ([IntKind.u8.wrap ((x2.size : Int))] : List Int)] ++ F0) rfl hs) ?_
    refine aw_two 10 17 (mi := 645119) (mj := 775167) (by kernel_rfl) (by kernel_rfl) (by kernel_rfl) ?_ ?_
    · refine pw_quiet (v := .string (bstr ([IntKind.u8.wrap ((x2.size : Int))] : List Int))) rfl rfl rfl rfl (q_bytes_str_own 0 rfl rfl (by kernel_rfl) (by kernel_rfl) rfl) (aw_next (fun w hs => sat_pulls [1, 1, 1, 1, 1] (G := [own (eInt .u8) 5 p39 1 ([IntKind.u8.wrap ((x2.size : Int))] : List Int)] ++ F0) rfl hs) ?_)
      refine aw_pure 11 (m' := 647167) (v := .string (r25 ++ (bstr ([IntKind.u8.wrap ((x2.size : Int))] : List Int)))) rfl rfl rfl rfl (by kernel_rfl) (by kernel_rfl) (fun _ _ _ _ _ h => calm_fin (P := Tryz.prog) (fn := Tryz.f36) _ _ _ _ _ h) (fun w hs => sat_pulls [1, 1, 1, 1, 1] (G := [own (eInt .u8) 5 p39 1 ([IntKind.u8.wrap ((x2.size : Int))] : List Int)] ++ F0) rfl hs) (q_concat rfl rfl rfl h29) ?_
      refine aw_pure 13 (m' := 655359) (v := .string ((r25 ++ (bstr ([IntKind.u8.wrap ((x2.size : Int))] : List Int))) ++ x2)) rfl rfl rfl rfl (by kernel_rfl) (by kernel_rfl) (fun _ _ _ _ _ h => calm_fin (P := Tryz.prog) (fn := Tryz.f36) _ _ _ _ _ h) (fun w hs => sat_pulls [1, 1, 1, 1, 1] (G := [own (eInt .u8) 5 p39 1 ([IntKind.u8.wrap ((x2.size : Int))] : List Int)] ++ F0) rfl hs) (q_concat rfl rfl rfl h30) ?_
      refine aw_only 17 (m' := 786431) (by kernel_rfl) (by kernel_rfl) (pw_call (F := [own (eInt .u8) 5 p39 1 ([IntKind.u8.wrap ((x2.size : Int))] : List Int), o1 b0 b1 m0.boot_ m0.n_, o0 b1 p0 m1.sure_ c0 p1 m1.off_ m1.armed_ m1.left_ m1.fall_.Keep m1.fall_.Tear m1.acts_ m1.falls_, own e_disk_sector 51 p0 c0 m1.sure_, mpo (kInt .i64) (fun x : disk_sector => Value.agg #[.string x.s_, i6 x.at_]) p1 m1.wait_] ++ F0) rfl rfl rfl rfl rfl rfl rfl (by kernel_rfl) (perm_of_pulls [1] rfl) (c_strings_Repeat _ (ByteArray.mk #[0]) (IntKind.i64.wrap (47 - (x2.size : Int))) r31 h32) ?_)
      rintro _ _ ⟨rfl, rfl⟩
      refine nw_H (H' := [imm I, own (eInt .u8) 5 p39 1 ([IntKind.u8.wrap ((x2.size : Int))] : List Int), o1 b0 b1 m0.boot_ m0.n_, o0 b1 p0 m1.sure_ c0 p1 m1.off_ m1.armed_ m1.left_ m1.fall_.Keep m1.fall_.Tear m1.acts_ m1.falls_, own e_disk_sector 51 p0 c0 m1.sure_, mpo (kInt .i64) (fun x : disk_sector => Value.agg #[.string x.s_, i6 x.at_]) p1 m1.wait_] ++ F0) rfl (aw_next (fun w hs => sat_pulls [0, 1, 1, 1, 1] (G := [own (eInt .u8) 5 p39 1 ([IntKind.u8.wrap ((x2.size : Int))] : List Int)] ++ F0) rfl hs) ?_)
      refine aw_pure 18 (m' := 1048575) (v := .string (((r25 ++ (bstr ([IntKind.u8.wrap ((x2.size : Int))] : List Int))) ++ x2) ++ r31)) rfl rfl rfl rfl (by kernel_rfl) (by kernel_rfl) (fun _ _ _ _ _ h => calm_fin (P := Tryz.prog) (fn := Tryz.f36) _ _ _ _ _ h) (fun w hs => sat_pulls [0, 1, 1, 1, 1] (G := [own (eInt .u8) 5 p39 1 ([IntKind.u8.wrap ((x2.size : Int))] : List Int)] ++ F0) rfl hs) (q_concat rfl rfl rfl h33) ?_
      refine aw_pure 20 (m' := 2097151) (v := .string ((((r25 ++ (bstr ([IntKind.u8.wrap ((x2.size : Int))] : List Int))) ++ x2) ++ r31) ++ r25)) rfl rfl rfl rfl (by kernel_rfl) (by kernel_rfl) (fun _ _ _ _ _ h => calm_fin (P := Tryz.prog) (fn := Tryz.f36) _ _ _ _ _ h) (fun w hs => sat_pulls [0, 1, 1, 1, 1] (G := [own (eInt .u8) 5 p39 1 ([IntKind.u8.wrap ((x2.size : Int))] : List Int)] ++ F0) rfl hs) (q_concat rfl rfl rfl h34) ?_
      refine aw_only 21 (m' := 4194303) (by kernel_rfl) (by kernel_rfl) (pw_call (F := [own (eInt .u8) 5 p39 1 ([IntKind.u8.wrap ((x2.size : Int))] : List Int), o1 b0 b1 m0.boot_ m0.n_] ++ F0) rfl rfl rfl rfl rfl rfl rfl (by kernel_rfl) (perm_of_pulls [0, 2, 2, 2] rfl) (c_disk_Disk_Write _ x1 ((((r25 ++ (bstr ([IntKind.u8.wrap ((x2.size : Int))] : List Int))) ++ x2) ++ r31) ++ r25) m1 p0 c0 p1 b1 r35 h36) ?_)
      rintro _ _ ⟨r35_p1, r35_c2, r35_b4, rfl, rfl⟩
      refine nw_H (H' := [imm I, o0 b1 r35_p1 r35.2.sure_ r35_c2 r35_b4 r35.2.off_ r35.2.armed_ r35.2.left_ r35.2.fall_.Keep r35.2.fall_.Tear r35.2.acts_ r35.2.falls_, own e_disk_sector 51 r35_p1 r35_c2 r35.2.sure_, mpo (kInt .i64) (fun x : disk_sector => Value.agg #[.string x.s_, i6 x.at_]) r35_b4 r35.2.wait_, own (eInt .u8) 5 p39 1 ([IntKind.u8.wrap ((x2.size : Int))] : List Int), o1 b0 b1 m0.boot_ m0.n_] ++ F0) rfl (aw_last (by kernel_rfl) ?_)
      refine aw_past (by kernel_rfl) ?_
      refine aw_vals [22] (f' := 0) (m' := 8388607) [0, 8, 10] [(0, pP b0), (8, i6 (ior .i64 (IntKind.i64.wrap (m0.boot_ * 2 ^ 32)) (IntKind.i64.wrap (m0.n_ + 1)))), (10, i6 r35.1)] (fun _ _ _ _ _ h => calm_fin (P := Tryz.prog) (fn := Tryz.f36) _ _ _ _ _ h) (fun _ _ => trivial) rfl (by kernel_rfl) ?_
      refine aw_keep [0, 8, 10] (L' := [(0, pP b0), (8, i6 (ior .i64 (IntKind.i64.wrap (m0.boot_ * 2 ^ 32)) (IntKind.i64.wrap (m0.n_ + 1)))), (10, i6 r35.1)]) rfl ?_
      refine aw_end (by kernel_rfl) ?_
      refine ew_then ?_
      refine cw_seq ?_
      refine cw_region ?_
      refine ow_vals 2 (j := 2) [0, 8, 10, 60] [(0, pP b0), (8, i6 (ior .i64 (IntKind.i64.wrap (m0.boot_ * 2 ^ 32)) (IntKind.i64.wrap (m0.n_ + 1)))), (10, i6 r35.1), (60, .bool (r35.1 != 0))] rfl (by kernel_rfl) ?_
      refine ow_end rfl ?_
      refine ew_then ?_
      rcases if_some hF with ⟨h43, hF⟩ | ⟨h43, hF⟩
      · refine cw_cond_t rfl rfl h43 ?_
        refine cw_seq ?_
        refine cw_region ?_
        refine ow_vals 3 (j := 3) [6, 7] [(6, i6 0), (7, i6 r35.1)] rfl (by kernel_rfl) ?_
        refine ow_end rfl ?_
        refine ew_then ?_
        refine cw_ret ?_
        refine ew_then_ret ?_
        have hR := Option.some.inj hF
        subst hR
        exact fin2 (H1 := [imm I, o1 b0 b1 m0.boot_ m0.n_, o0 b1 r35_p1 r35.2.sure_ r35_c2 r35_b4 r35.2.off_ r35.2.armed_ r35.2.left_ r35.2.fall_.Keep r35.2.fall_.Tear r35.2.acts_ r35.2.falls_, own e_disk_sector 51 r35_p1 r35_c2 r35.2.sure_, mpo (kInt .i64) (fun x : disk_sector => Value.agg #[.string x.s_, i6 x.at_]) r35_b4 r35.2.wait_]) (fun w hs => sat_to [4, 0, 3, 0, 0, 0] 1 rfl hs) rfl (rr_tmp rfl) (rr_tmp rfl) ⟨r35_p1, r35_c2, r35_b4, rfl, rfl⟩
      refine cw_cond_f rfl rfl h43 ?_
      refine cw_skip ?_
      refine ew_then ?_
      refine cw_seq ?_
      refine cw_region ?_
      refine ow_vals 3 (j := 3) [8, 62, 64] [(8, i6 (ior .i64 (IntKind.i64.wrap (m0.boot_ * 2 ^ 32)) (IntKind.i64.wrap (m0.n_ + 1)))), (62, pP b0), (64, .pointer (some ⟨b0, 2, none⟩))] rfl (by kernel_rfl) ?_
      refine ow_pw rfl (pw_quiet (v := i6 m0.n_) rfl rfl rfl rfl (q_load 5 rfl rfl rfl (by kernel_rfl)) (nw_ow ?_))
      refine ow_vals 3 (j := 7) [8, 66, 68] [(8, i6 (ior .i64 (IntKind.i64.wrap (m0.boot_ * 2 ^ 32)) (IntKind.i64.wrap (m0.n_ + 1)))), (66, i6 (IntKind.i64.wrap (m0.n_ + 1))), (68, .pointer (some ⟨b0, 2, none⟩))] rfl (by kernel_rfl) ?_
      refine ow_pw rfl (pw_store 5 #[pP b1, i6 m0.boot_, i6 (IntKind.i64.wrap (m0.n_ + 1))] rfl rfl rfl rfl rfl rfl rfl (by kernel_rfl) (nw_H (H' := [imm I, o0 b1 r35_p1 r35.2.sure_ r35_c2 r35_b4 r35.2.off_ r35.2.armed_ r35.2.left_ r35.2.fall_.Keep r35.2.fall_.Tear r35.2.acts_ r35.2.falls_, own e_disk_sector 51 r35_p1 r35_c2 r35.2.sure_, mpo (kInt .i64) (fun x : disk_sector => Value.agg #[.string x.s_, i6 x.at_]) r35_b4 r35.2.wait_, own (eInt .u8) 5 p39 1 ([IntKind.u8.wrap ((x2.size : Int))] : List Int), o1 b0 b1 m0.boot_ (IntKind.i64.wrap (m0.n_ + 1))] ++ F0) rfl (nw_ow ?_)))
      refine ow_end rfl ?_
      refine ew_then ?_
      refine cw_seq ?_
      refine cw_region ?_
      refine ow_vals 3 (j := 3) [6, 7] [(6, i6 (ior .i64 (IntKind.i64.wrap (m0.boot_ * 2 ^ 32)) (IntKind.i64.wrap (m0.n_ + 1)))), (7, i6 0)] rfl (by kernel_rfl) ?_
      refine ow_end rfl ?_
      refine ew_then ?_
      refine cw_ret ?_
      have hR := Option.some.inj hF
      subst hR
      exact fin2 (H1 := [imm I, o1 b0 b1 ((⟨m0.boot_, IntKind.i64.wrap (m0.n_ + 1)⟩ : guard_Guard).boot_) ((⟨m0.boot_, IntKind.i64.wrap (m0.n_ + 1)⟩ : guard_Guard).n_), o0 b1 r35_p1 r35.2.sure_ r35_c2 r35_b4 r35.2.off_ r35.2.armed_ r35.2.left_ r35.2.fall_.Keep r35.2.fall_.Tear r35.2.acts_ r35.2.falls_, own e_disk_sector 51 r35_p1 r35_c2 r35.2.sure_, mpo (kInt .i64) (fun x : disk_sector => Value.agg #[.string x.s_, i6 x.at_]) r35_b4 r35.2.wait_]) (fun w hs => sat_to [4, 0, 3, 0, 0, 0] 1 rfl hs) rfl (rr_tmp rfl) (rr_tmp rfl) ⟨r35_p1, r35_c2, r35_b4, rfl, rfl⟩
    refine pw_call (F := [own (eInt .u8) 5 p39 1 ([IntKind.u8.wrap ((x2.size : Int))] : List Int), o1 b0 b1 m0.boot_ m0.n_, o0 b1 p0 m1.sure_ c0 p1 m1.off_ m1.armed_ m1.left_ m1.fall_.Keep m1.fall_.Tear m1.acts_ m1.falls_, own e_disk_sector 51 p0 c0 m1.sure_, mpo (kInt .i64) (fun x : disk_sector => Value.agg #[.string x.s_, i6 x.at_]) p1 m1.wait_] ++ F0) rfl rfl rfl rfl rfl rfl rfl (by kernel_rfl) (perm_of_pulls [1] rfl) (c_strings_Repeat _ (ByteArray.mk #[0]) (IntKind.i64.wrap (47 - (x2.size : Int))) r31 h32) ?_
    rintro _ _ ⟨rfl, rfl⟩
    refine nw_H (H' := [imm I, own (eInt .u8) 5 p39 1 ([IntKind.u8.wrap ((x2.size : Int))] : List Int), o1 b0 b1 m0.boot_ m0.n_, o0 b1 p0 m1.sure_ c0 p1 m1.off_ m1.armed_ m1.left_ m1.fall_.Keep m1.fall_.Tear m1.acts_ m1.falls_, own e_disk_sector 51 p0 c0 m1.sure_, mpo (kInt .i64) (fun x : disk_sector => Value.agg #[.string x.s_, i6 x.at_]) p1 m1.wait_] ++ F0) rfl (aw_next (fun w hs => sat_pulls [0, 1, 1, 1, 1] (G := [own (eInt .u8) 5 p39 1 ([IntKind.u8.wrap ((x2.size : Int))] : List Int)] ++ F0) rfl hs) ?_)
    refine aw_only 10 (m' := 776191) (by kernel_rfl) (by kernel_rfl) (pw_quiet (v := .string (bstr ([IntKind.u8.wrap ((x2.size : Int))] : List Int))) rfl rfl rfl rfl (q_bytes_str_own 1 rfl rfl (by kernel_rfl) (by kernel_rfl) rfl) (aw_next (fun w hs => sat_pulls [0, 1, 1, 1, 1] (G := [own (eInt .u8) 5 p39 1 ([IntKind.u8.wrap ((x2.size : Int))] : List Int)] ++ F0) rfl hs) ?_))
    refine aw_pure 11 (m' := 778239) (v := .string (r25 ++ (bstr ([IntKind.u8.wrap ((x2.size : Int))] : List Int)))) rfl rfl rfl rfl (by kernel_rfl) (by kernel_rfl) (fun _ _ _ _ _ h => calm_fin (P := Tryz.prog) (fn := Tryz.f36) _ _ _ _ _ h) (fun w hs => sat_pulls [0, 1, 1, 1, 1] (G := [own (eInt .u8) 5 p39 1 ([IntKind.u8.wrap ((x2.size : Int))] : List Int)] ++ F0) rfl hs) (q_concat rfl rfl rfl h29) ?_
    refine aw_pure 13 (m' := 786431) (v := .string ((r25 ++ (bstr ([IntKind.u8.wrap ((x2.size : Int))] : List Int))) ++ x2)) rfl rfl rfl rfl (by kernel_rfl) (by kernel_rfl) (fun _ _ _ _ _ h => calm_fin (P := Tryz.prog) (fn := Tryz.f36) _ _ _ _ _ h) (fun w hs => sat_pulls [0, 1, 1, 1, 1] (G := [own (eInt .u8) 5 p39 1 ([IntKind.u8.wrap ((x2.size : Int))] : List Int)] ++ F0) rfl hs) (q_concat rfl rfl rfl h30) ?_
    refine aw_pure 18 (m' := 1048575) (v := .string (((r25 ++ (bstr ([IntKind.u8.wrap ((x2.size : Int))] : List Int))) ++ x2) ++ r31)) rfl rfl rfl rfl (by kernel_rfl) (by kernel_rfl) (fun _ _ _ _ _ h => calm_fin (P := Tryz.prog) (fn := Tryz.f36) _ _ _ _ _ h) (fun w hs => sat_pulls [0, 1, 1, 1, 1] (G := [own (eInt .u8) 5 p39 1 ([IntKind.u8.wrap ((x2.size : Int))] : List Int)] ++ F0) rfl hs) (q_concat rfl rfl rfl h33) ?_
    refine aw_pure 20 (m' := 2097151) (v := .string ((((r25 ++ (bstr ([IntKind.u8.wrap ((x2.size : Int))] : List Int))) ++ x2) ++ r31) ++ r25)) rfl rfl rfl rfl (by kernel_rfl) (by kernel_rfl) (fun _ _ _ _ _ h => calm_fin (P := Tryz.prog) (fn := Tryz.f36) _ _ _ _ _ h) (fun w hs => sat_pulls [0, 1, 1, 1, 1] (G := [own (eInt .u8) 5 p39 1 ([IntKind.u8.wrap ((x2.size : Int))] : List Int)] ++ F0) rfl hs) (q_concat rfl rfl rfl h34) ?_
    refine aw_only 21 (m' := 4194303) (by kernel_rfl) (by kernel_rfl) (pw_call (F := [own (eInt .u8) 5 p39 1 ([IntKind.u8.wrap ((x2.size : Int))] : List Int), o1 b0 b1 m0.boot_ m0.n_] ++ F0) rfl rfl rfl rfl rfl rfl rfl (by kernel_rfl) (perm_of_pulls [0, 2, 2, 2] rfl) (c_disk_Disk_Write _ x1 ((((r25 ++ (bstr ([IntKind.u8.wrap ((x2.size : Int))] : List Int))) ++ x2) ++ r31) ++ r25) m1 p0 c0 p1 b1 r35 h36) ?_)
    rintro _ _ ⟨r35_p1, r35_c2, r35_b4, rfl, rfl⟩
    refine nw_H (H' := [imm I, o0 b1 r35_p1 r35.2.sure_ r35_c2 r35_b4 r35.2.off_ r35.2.armed_ r35.2.left_ r35.2.fall_.Keep r35.2.fall_.Tear r35.2.acts_ r35.2.falls_, own e_disk_sector 51 r35_p1 r35_c2 r35.2.sure_, mpo (kInt .i64) (fun x : disk_sector => Value.agg #[.string x.s_, i6 x.at_]) r35_b4 r35.2.wait_, own (eInt .u8) 5 p39 1 ([IntKind.u8.wrap ((x2.size : Int))] : List Int), o1 b0 b1 m0.boot_ m0.n_] ++ F0) rfl (aw_last (by kernel_rfl) ?_)
    refine aw_past (by kernel_rfl) ?_
    refine aw_vals [22] (f' := 0) (m' := 8388607) [0, 8, 10] [(0, pP b0), (8, i6 (ior .i64 (IntKind.i64.wrap (m0.boot_ * 2 ^ 32)) (IntKind.i64.wrap (m0.n_ + 1)))), (10, i6 r35.1)] (fun _ _ _ _ _ h => calm_fin (P := Tryz.prog) (fn := Tryz.f36) _ _ _ _ _ h) (fun _ _ => trivial) rfl (by kernel_rfl) ?_
    refine aw_keep [0, 8, 10] (L' := [(0, pP b0), (8, i6 (ior .i64 (IntKind.i64.wrap (m0.boot_ * 2 ^ 32)) (IntKind.i64.wrap (m0.n_ + 1)))), (10, i6 r35.1)]) rfl ?_
    refine aw_end (by kernel_rfl) ?_
    refine ew_then ?_
    refine cw_seq ?_
    refine cw_region ?_
    refine ow_vals 2 (j := 2) [0, 8, 10, 60] [(0, pP b0), (8, i6 (ior .i64 (IntKind.i64.wrap (m0.boot_ * 2 ^ 32)) (IntKind.i64.wrap (m0.n_ + 1)))), (10, i6 r35.1), (60, .bool (r35.1 != 0))] rfl (by kernel_rfl) ?_
    refine ow_end rfl ?_
    refine ew_then ?_
    rcases if_some hF with ⟨h43, hF⟩ | ⟨h43, hF⟩
    · refine cw_cond_t rfl rfl h43 ?_
      refine cw_seq ?_
      refine cw_region ?_
      refine ow_vals 3 (j := 3) [6, 7] [(6, i6 0), (7, i6 r35.1)] rfl (by kernel_rfl) ?_
      refine ow_end rfl ?_
      refine ew_then ?_
      refine cw_ret ?_
      refine ew_then_ret ?_
      have hR := Option.some.inj hF
      subst hR
      exact fin2 (H1 := [imm I, o1 b0 b1 m0.boot_ m0.n_, o0 b1 r35_p1 r35.2.sure_ r35_c2 r35_b4 r35.2.off_ r35.2.armed_ r35.2.left_ r35.2.fall_.Keep r35.2.fall_.Tear r35.2.acts_ r35.2.falls_, own e_disk_sector 51 r35_p1 r35_c2 r35.2.sure_, mpo (kInt .i64) (fun x : disk_sector => Value.agg #[.string x.s_, i6 x.at_]) r35_b4 r35.2.wait_]) (fun w hs => sat_to [4, 0, 3, 0, 0, 0] 1 rfl hs) rfl (rr_tmp rfl) (rr_tmp rfl) ⟨r35_p1, r35_c2, r35_b4, rfl, rfl⟩
    refine cw_cond_f rfl rfl h43 ?_
    refine cw_skip ?_
    refine ew_then ?_
    refine cw_seq ?_
    refine cw_region ?_
    refine ow_vals 3 (j := 3) [8, 62, 64] [(8, i6 (ior .i64 (IntKind.i64.wrap (m0.boot_ * 2 ^ 32)) (IntKind.i64.wrap (m0.n_ + 1)))), (62, pP b0), (64, .pointer (some ⟨b0, 2, none⟩))] rfl (by kernel_rfl) ?_
    refine ow_pw rfl (pw_quiet (v := i6 m0.n_) rfl rfl rfl rfl (q_load 5 rfl rfl rfl (by kernel_rfl)) (nw_ow ?_))
    refine ow_vals 3 (j := 7) [8, 66, 68] [(8, i6 (ior .i64 (IntKind.i64.wrap (m0.boot_ * 2 ^ 32)) (IntKind.i64.wrap (m0.n_ + 1)))), (66, i6 (IntKind.i64.wrap (m0.n_ + 1))), (68, .pointer (some ⟨b0, 2, none⟩))] rfl (by kernel_rfl) ?_
    refine ow_pw rfl (pw_store 5 #[pP b1, i6 m0.boot_, i6 (IntKind.i64.wrap (m0.n_ + 1))] rfl rfl rfl rfl rfl rfl rfl (by kernel_rfl) (nw_H (H' := [imm I, o0 b1 r35_p1 r35.2.sure_ r35_c2 r35_b4 r35.2.off_ r35.2.armed_ r35.2.left_ r35.2.fall_.Keep r35.2.fall_.Tear r35.2.acts_ r35.2.falls_, own e_disk_sector 51 r35_p1 r35_c2 r35.2.sure_, mpo (kInt .i64) (fun x : disk_sector => Value.agg #[.string x.s_, i6 x.at_]) r35_b4 r35.2.wait_, own (eInt .u8) 5 p39 1 ([IntKind.u8.wrap ((x2.size : Int))] : List Int), o1 b0 b1 m0.boot_ (IntKind.i64.wrap (m0.n_ + 1))] ++ F0) rfl (nw_ow ?_)))
    refine ow_end rfl ?_
    refine ew_then ?_
    refine cw_seq ?_
    refine cw_region ?_
    refine ow_vals 3 (j := 3) [6, 7] [(6, i6 (ior .i64 (IntKind.i64.wrap (m0.boot_ * 2 ^ 32)) (IntKind.i64.wrap (m0.n_ + 1)))), (7, i6 0)] rfl (by kernel_rfl) ?_
    refine ow_end rfl ?_
    refine ew_then ?_
    refine cw_ret ?_
    have hR := Option.some.inj hF
    subst hR
    exact fin2 (H1 := [imm I, o1 b0 b1 ((⟨m0.boot_, IntKind.i64.wrap (m0.n_ + 1)⟩ : guard_Guard).boot_) ((⟨m0.boot_, IntKind.i64.wrap (m0.n_ + 1)⟩ : guard_Guard).n_), o0 b1 r35_p1 r35.2.sure_ r35_c2 r35_b4 r35.2.off_ r35.2.armed_ r35.2.left_ r35.2.fall_.Keep r35.2.fall_.Tear r35.2.acts_ r35.2.falls_, own e_disk_sector 51 r35_p1 r35_c2 r35.2.sure_, mpo (kInt .i64) (fun x : disk_sector => Value.agg #[.string x.s_, i6 x.at_]) r35_b4 r35.2.wait_]) (fun w hs => sat_to [4, 0, 3, 0, 0, 0] 1 rfl hs) rfl (rr_tmp rfl) (rr_tmp rfl) ⟨r35_p1, r35_c2, r35_b4, rfl, rfl⟩
  refine pw_call (F := [o1 b0 b1 m0.boot_ m0.n_, o0 b1 p0 m1.sure_ c0 p1 m1.off_ m1.armed_ m1.left_ m1.fall_.Keep m1.fall_.Tear m1.acts_ m1.falls_, own e_disk_sector 51 p0 c0 m1.sure_, mpo (kInt .i64) (fun x : disk_sector => Value.agg #[.string x.s_, i6 x.at_]) p1 m1.wait_] ++ F0) rfl rfl rfl rfl rfl rfl rfl (by kernel_rfl) (perm_of_pulls [0] rfl) (c_strings_Repeat _ (ByteArray.mk #[0]) (IntKind.i64.wrap (47 - (x2.size : Int))) r31 h32) ?_
  rintro _ _ ⟨rfl, rfl⟩
  refine nw_H (H' := [imm I, o1 b0 b1 m0.boot_ m0.n_, o0 b1 p0 m1.sure_ c0 p1 m1.off_ m1.armed_ m1.left_ m1.fall_.Keep m1.fall_.Tear m1.acts_ m1.falls_, own e_disk_sector 51 p0 c0 m1.sure_, mpo (kInt .i64) (fun x : disk_sector => Value.agg #[.string x.s_, i6 x.at_]) p1 m1.wait_] ++ F0) rfl (aw_next (fun w hs => sat_pulls [0, 0, 0, 0, 0] (G := [] ++ F0) rfl hs) ?_)
  refine aw_only 9 (m' := 775167) (by kernel_rfl) (by kernel_rfl) (pw_buildSlice (E := 5) (eInt .u8) ([IntKind.u8.wrap ((x2.size : Int))] : List Int) rfl rfl rfl rfl rfl (by kernel_rfl) rfl (by kernel_rfl) rfl (by decide) rfl fun p39 => aw_next (fun w hs => sat_pulls [1, 1, 1, 1, 1] (G := [own (eInt .u8) 5 p39 1 ([IntKind.u8.wrap ((x2.size : Int))] : List Int)] ++ F0) rfl hs) ?_)
  refine aw_only 10 (m' := 776191) (by kernel_rfl) (by kernel_rfl) (pw_quiet (v := .string (bstr ([IntKind.u8.wrap ((x2.size : Int))] : List Int))) rfl rfl rfl rfl (q_bytes_str_own 0 rfl rfl (by kernel_rfl) (by kernel_rfl) rfl) (aw_next (fun w hs => sat_pulls [1, 1, 1, 1, 1] (G := [own (eInt .u8) 5 p39 1 ([IntKind.u8.wrap ((x2.size : Int))] : List Int)] ++ F0) rfl hs) ?_))
  refine aw_pure 11 (m' := 778239) (v := .string (r25 ++ (bstr ([IntKind.u8.wrap ((x2.size : Int))] : List Int)))) rfl rfl rfl rfl (by kernel_rfl) (by kernel_rfl) (fun _ _ _ _ _ h => calm_fin (P := Tryz.prog) (fn := Tryz.f36) _ _ _ _ _ h) (fun w hs => sat_pulls [1, 1, 1, 1, 1] (G := [own (eInt .u8) 5 p39 1 ([IntKind.u8.wrap ((x2.size : Int))] : List Int)] ++ F0) rfl hs) (q_concat rfl rfl rfl h29) ?_
  refine aw_pure 13 (m' := 786431) (v := .string ((r25 ++ (bstr ([IntKind.u8.wrap ((x2.size : Int))] : List Int))) ++ x2)) rfl rfl rfl rfl (by kernel_rfl) (by kernel_rfl) (fun _ _ _ _ _ h => calm_fin (P := Tryz.prog) (fn := Tryz.f36) _ _ _ _ _ h) (fun w hs => sat_pulls [1, 1, 1, 1, 1] (G := [own (eInt .u8) 5 p39 1 ([IntKind.u8.wrap ((x2.size : Int))] : List Int)] ++ F0) rfl hs) (q_concat rfl rfl rfl h30) ?_
  refine aw_pure 18 (m' := 1048575) (v := .string (((r25 ++ (bstr ([IntKind.u8.wrap ((x2.size : Int))] : List Int))) ++ x2) ++ r31)) rfl rfl rfl rfl (by kernel_rfl) (by kernel_rfl) (fun _ _ _ _ _ h => calm_fin (P := Tryz.prog) (fn := Tryz.f36) _ _ _ _ _ h) (fun w hs => sat_pulls [1, 1, 1, 1, 1] (G := [own (eInt .u8) 5 p39 1 ([IntKind.u8.wrap ((x2.size : Int))] : List Int)] ++ F0) rfl hs) (q_concat rfl rfl rfl h33) ?_
  refine aw_pure 20 (m' := 2097151) (v := .string ((((r25 ++ (bstr ([IntKind.u8.wrap ((x2.size : Int))] : List Int))) ++ x2) ++ r31) ++ r25)) rfl rfl rfl rfl (by kernel_rfl) (by kernel_rfl) (fun _ _ _ _ _ h => calm_fin (P := Tryz.prog) (fn := Tryz.f36) _ _ _ _ _ h) (fun w hs => sat_pulls [1, 1, 1, 1, 1] (G := [own (eInt .u8) 5 p39 1 ([IntKind.u8.wrap ((x2.size : Int))] : List Int)] ++ F0) rfl hs) (q_concat rfl rfl rfl h34) ?_
  refine aw_only 21 (m' := 4194303) (by kernel_rfl) (by kernel_rfl) (pw_call (F := [own (eInt .u8) 5 p39 1 ([IntKind.u8.wrap ((x2.size : Int))] : List Int), o1 b0 b1 m0.boot_ m0.n_] ++ F0) rfl rfl rfl rfl rfl rfl rfl (by kernel_rfl) (perm_of_pulls [1, 2, 2, 2] rfl) (c_disk_Disk_Write _ x1 ((((r25 ++ (bstr ([IntKind.u8.wrap ((x2.size : Int))] : List Int))) ++ x2) ++ r31) ++ r25) m1 p0 c0 p1 b1 r35 h36) ?_)
  rintro _ _ ⟨r35_p1, r35_c2, r35_b4, rfl, rfl⟩
  refine nw_H (H' := [imm I, o0 b1 r35_p1 r35.2.sure_ r35_c2 r35_b4 r35.2.off_ r35.2.armed_ r35.2.left_ r35.2.fall_.Keep r35.2.fall_.Tear r35.2.acts_ r35.2.falls_, own e_disk_sector 51 r35_p1 r35_c2 r35.2.sure_, mpo (kInt .i64) (fun x : disk_sector => Value.agg #[.string x.s_, i6 x.at_]) r35_b4 r35.2.wait_, own (eInt .u8) 5 p39 1 ([IntKind.u8.wrap ((x2.size : Int))] : List Int), o1 b0 b1 m0.boot_ m0.n_] ++ F0) rfl (aw_last (by kernel_rfl) ?_)
  refine aw_past (by kernel_rfl) ?_
  refine aw_vals [22] (f' := 0) (m' := 8388607) [0, 8, 10] [(0, pP b0), (8, i6 (ior .i64 (IntKind.i64.wrap (m0.boot_ * 2 ^ 32)) (IntKind.i64.wrap (m0.n_ + 1)))), (10, i6 r35.1)] (fun _ _ _ _ _ h => calm_fin (P := Tryz.prog) (fn := Tryz.f36) _ _ _ _ _ h) (fun _ _ => trivial) rfl (by kernel_rfl) ?_
  refine aw_keep [0, 8, 10] (L' := [(0, pP b0), (8, i6 (ior .i64 (IntKind.i64.wrap (m0.boot_ * 2 ^ 32)) (IntKind.i64.wrap (m0.n_ + 1)))), (10, i6 r35.1)]) rfl ?_
  refine aw_end (by kernel_rfl) ?_
  refine ew_then ?_
  refine cw_seq ?_
  refine cw_region ?_
  refine ow_vals 2 (j := 2) [0, 8, 10, 60] [(0, pP b0), (8, i6 (ior .i64 (IntKind.i64.wrap (m0.boot_ * 2 ^ 32)) (IntKind.i64.wrap (m0.n_ + 1)))), (10, i6 r35.1), (60, .bool (r35.1 != 0))] rfl (by kernel_rfl) ?_
  refine ow_end rfl ?_
  refine ew_then ?_
  rcases if_some hF with ⟨h43, hF⟩ | ⟨h43, hF⟩
  · refine cw_cond_t rfl rfl h43 ?_
    refine cw_seq ?_
    refine cw_region ?_
    refine ow_vals 3 (j := 3) [6, 7] [(6, i6 0), (7, i6 r35.1)] rfl (by kernel_rfl) ?_
    refine ow_end rfl ?_
    refine ew_then ?_
    refine cw_ret ?_
    refine ew_then_ret ?_
    have hR := Option.some.inj hF
    subst hR
    exact fin2 (H1 := [imm I, o1 b0 b1 m0.boot_ m0.n_, o0 b1 r35_p1 r35.2.sure_ r35_c2 r35_b4 r35.2.off_ r35.2.armed_ r35.2.left_ r35.2.fall_.Keep r35.2.fall_.Tear r35.2.acts_ r35.2.falls_, own e_disk_sector 51 r35_p1 r35_c2 r35.2.sure_, mpo (kInt .i64) (fun x : disk_sector => Value.agg #[.string x.s_, i6 x.at_]) r35_b4 r35.2.wait_]) (fun w hs => sat_to [4, 0, 3, 0, 0, 0] 1 rfl hs) rfl (rr_tmp rfl) (rr_tmp rfl) ⟨r35_p1, r35_c2, r35_b4, rfl, rfl⟩
  refine cw_cond_f rfl rfl h43 ?_
  refine cw_skip ?_
  refine ew_then ?_
  refine cw_seq ?_
  refine cw_region ?_
  refine ow_vals 3 (j := 3) [8, 62, 64] [(8, i6 (ior .i64 (IntKind.i64.wrap (m0.boot_ * 2 ^ 32)) (IntKind.i64.wrap (m0.n_ + 1)))), (62, pP b0), (64, .pointer (some ⟨b0, 2, none⟩))] rfl (by kernel_rfl) ?_
  refine ow_pw rfl (pw_quiet (v := i6 m0.n_) rfl rfl rfl rfl (q_load 5 rfl rfl rfl (by kernel_rfl)) (nw_ow ?_))
  refine ow_vals 3 (j := 7) [8, 66, 68] [(8, i6 (ior .i64 (IntKind.i64.wrap (m0.boot_ * 2 ^ 32)) (IntKind.i64.wrap (m0.n_ + 1)))), (66, i6 (IntKind.i64.wrap (m0.n_ + 1))), (68, .pointer (some ⟨b0, 2, none⟩))] rfl (by kernel_rfl) ?_
  refine ow_pw rfl (pw_store 5 #[pP b1, i6 m0.boot_, i6 (IntKind.i64.wrap (m0.n_ + 1))] rfl rfl rfl rfl rfl rfl rfl (by kernel_rfl) (nw_H (H' := [imm I, o0 b1 r35_p1 r35.2.sure_ r35_c2 r35_b4 r35.2.off_ r35.2.armed_ r35.2.left_ r35.2.fall_.Keep r35.2.fall_.Tear r35.2.acts_ r35.2.falls_, own e_disk_sector 51 r35_p1 r35_c2 r35.2.sure_, mpo (kInt .i64) (fun x : disk_sector => Value.agg #[.string x.s_, i6 x.at_]) r35_b4 r35.2.wait_, own (eInt .u8) 5 p39 1 ([IntKind.u8.wrap ((x2.size : Int))] : List Int), o1 b0 b1 m0.boot_ (IntKind.i64.wrap (m0.n_ + 1))] ++ F0) rfl (nw_ow ?_)))
  refine ow_end rfl ?_
  refine ew_then ?_
  refine cw_seq ?_
  refine cw_region ?_
  refine ow_vals 3 (j := 3) [6, 7] [(6, i6 (ior .i64 (IntKind.i64.wrap (m0.boot_ * 2 ^ 32)) (IntKind.i64.wrap (m0.n_ + 1)))), (7, i6 0)] rfl (by kernel_rfl) ?_
  refine ow_end rfl ?_
  refine ew_then ?_
  refine cw_ret ?_
  have hR := Option.some.inj hF
  subst hR
  exact fin2 (H1 := [imm I, o1 b0 b1 ((⟨m0.boot_, IntKind.i64.wrap (m0.n_ + 1)⟩ : guard_Guard).boot_) ((⟨m0.boot_, IntKind.i64.wrap (m0.n_ + 1)⟩ : guard_Guard).n_), o0 b1 r35_p1 r35.2.sure_ r35_c2 r35_b4 r35.2.off_ r35.2.armed_ r35.2.left_ r35.2.fall_.Keep r35.2.fall_.Tear r35.2.acts_ r35.2.falls_, own e_disk_sector 51 r35_p1 r35_c2 r35.2.sure_, mpo (kInt .i64) (fun x : disk_sector => Value.agg #[.string x.s_, i6 x.at_]) r35_b4 r35.2.wait_]) (fun w hs => sat_to [4, 0, 3, 0, 0, 0] 1 rfl hs) rfl (rr_tmp rfl) (rr_tmp rfl) ⟨r35_p1, r35_c2, r35_b4, rfl, rfl⟩


def F.journal_Journal_fall (x1 : Int) (m0 : journal_Journal) (m1 : guard_Guard) (m2 : disk_Disk) : Option (Int × journal_Journal) :=
  some ((x1, (⟨m0.base_, m0.size_, m0.next_, m0.last_, m0.list_, m0.sure_, true⟩ : journal_Journal)))
set_option maxRecDepth 100000 in
set_option maxHeartbeats 4000000 in
theorem c_journal_Journal_fall (I : Hl) (x1 : Int) (m0 : journal_Journal) (m1 : guard_Guard) (m2 : disk_Disk) (p0 : Option Addr) (c0 : Nat) (b0 : Nat) (b1 : Nat) (p1 : Option Addr) (c1 : Nat) (p2 : Nat) (b2 : Nat) (res : Int × journal_Journal) (hF : F.journal_Journal_fall x1 m0 m1 m2 = some res) : Tr Tryz.prog 22 [pP b0, i6 x1] [imm I, o3 b0 b1 m0.base_ m0.size_ m0.next_ m0.last_ p0 m0.list_ c0 m0.sure_ m0.dead_, o1 b1 b2 m1.boot_ m1.n_, o0 b2 p1 m2.sure_ c1 p2 m2.off_ m2.armed_ m2.left_ m2.fall_.Keep m2.fall_.Tear m2.acts_ m2.falls_, own eStr 9 p0 c0 m0.list_, own e_disk_sector 51 p1 c1 m2.sure_, mpo (kInt .i64) (fun x : disk_sector => Value.agg #[.string x.s_, i6 x.at_]) p2 m2.wait_] (fun r H' => ∃ (pq1 : Option Addr), ∃ (cq2 : Nat), r = i6 res.1 ∧ H' = [imm I, o3 b0 b1 res.2.base_ res.2.size_ res.2.next_ res.2.last_ pq1 res.2.list_ cq2 res.2.sure_ res.2.dead_, o1 b1 b2 m1.boot_ m1.n_, o0 b2 p1 m2.sure_ c1 p2 m2.off_ m2.armed_ m2.left_ m2.fall_.Keep m2.fall_.Tear m2.acts_ m2.falls_, own eStr 9 pq1 cq2 res.2.list_, own e_disk_sector 51 p1 c1 m2.sure_, mpo (kInt .i64) (fun x : disk_sector => Value.agg #[.string x.s_, i6 x.at_]) p2 m2.wait_]) := by
  unfold F.journal_Journal_fall at hF
  refine tr_of_cw (fn := Tryz.f22) Tryz.func22 rfl (Nat.le_of_ble_eq_true rfl) 9 rfl fun F0 w0 => ?_
  refine cw_keep [0, 1] (L' := [(0, pP b0), (1, i6 x1)]) rfl ?_
  refine cw_state (S' := SAT w0 ([imm I, o3 b0 b1 m0.base_ m0.size_ m0.next_ m0.last_ p0 m0.list_ c0 m0.sure_ m0.dead_, o1 b1 b2 m1.boot_ m1.n_, o0 b2 p1 m2.sure_ c1 p2 m2.off_ m2.armed_ m2.left_ m2.fall_.Keep m2.fall_.Tear m2.acts_ m2.falls_, own eStr 9 p0 c0 m0.list_, own e_disk_sector 51 p1 c1 m2.sure_, mpo (kInt .i64) (fun x : disk_sector => Value.agg #[.string x.s_, i6 x.at_]) p2 m2.wait_] ++ F0)) (fun w hs => hs) ?_
  refine cw_seq ?_
  refine cw_region ?_
  refine ow_vals 1 (j := 1) [0, 1] [(0, pP b0), (1, i6 x1)] rfl (by kernel_rfl) ?_
  refine ow_end rfl ?_
  refine ew_then ?_
  refine cw_seq ?_
  refine cw_region ?_
  refine ow_vals 3 (j := 3) [1, 7] [(1, i6 x1), (7, .pointer (some ⟨b0, 7, none⟩))] rfl (by kernel_rfl) ?_
  refine ow_pw rfl (pw_store 1 #[pP b1, i6 m0.base_, i6 m0.size_, i6 m0.next_, i6 m0.last_, .slice p0 m0.list_.length c0, i6 m0.sure_, .bool true] rfl rfl rfl rfl rfl rfl rfl (by kernel_rfl) (nw_H (H' := [imm I, o3 b0 b1 m0.base_ m0.size_ m0.next_ m0.last_ p0 m0.list_ c0 m0.sure_ true, o1 b1 b2 m1.boot_ m1.n_, o0 b2 p1 m2.sure_ c1 p2 m2.off_ m2.armed_ m2.left_ m2.fall_.Keep m2.fall_.Tear m2.acts_ m2.falls_, own eStr 9 p0 c0 m0.list_, own e_disk_sector 51 p1 c1 m2.sure_, mpo (kInt .i64) (fun x : disk_sector => Value.agg #[.string x.s_, i6 x.at_]) p2 m2.wait_] ++ F0) rfl (nw_ow ?_)))
  refine ow_end rfl ?_
  refine ew_then ?_
  refine cw_seq ?_
  refine cw_region ?_
  refine ow_vals 2 (j := 2) [4] [(4, i6 x1)] rfl (by kernel_rfl) ?_
  refine ow_end rfl ?_
  refine ew_then ?_
  refine cw_ret ?_
  have hR := Option.some.inj hF
  subst hR
  exact fin1 (H1 := [imm I, o3 b0 b1 ((⟨m0.base_, m0.size_, m0.next_, m0.last_, m0.list_, m0.sure_, true⟩ : journal_Journal).base_) ((⟨m0.base_, m0.size_, m0.next_, m0.last_, m0.list_, m0.sure_, true⟩ : journal_Journal).size_) ((⟨m0.base_, m0.size_, m0.next_, m0.last_, m0.list_, m0.sure_, true⟩ : journal_Journal).next_) ((⟨m0.base_, m0.size_, m0.next_, m0.last_, m0.list_, m0.sure_, true⟩ : journal_Journal).last_) p0 ((⟨m0.base_, m0.size_, m0.next_, m0.last_, m0.list_, m0.sure_, true⟩ : journal_Journal).list_) c0 ((⟨m0.base_, m0.size_, m0.next_, m0.last_, m0.list_, m0.sure_, true⟩ : journal_Journal).sure_) ((⟨m0.base_, m0.size_, m0.next_, m0.last_, m0.list_, m0.sure_, true⟩ : journal_Journal).dead_), o1 b1 b2 m1.boot_ m1.n_, o0 b2 p1 m2.sure_ c1 p2 m2.off_ m2.armed_ m2.left_ m2.fall_.Keep m2.fall_.Tear m2.acts_ m2.falls_, own eStr 9 p0 c0 ((⟨m0.base_, m0.size_, m0.next_, m0.last_, m0.list_, m0.sure_, true⟩ : journal_Journal).list_), own e_disk_sector 51 p1 c1 m2.sure_, mpo (kInt .i64) (fun x : disk_sector => Value.agg #[.string x.s_, i6 x.at_]) p2 m2.wait_]) (fun w hs => sat_to [0, 0, 0, 0, 0, 0, 0] 0 rfl hs) rfl (rr_tmp rfl) ⟨p0, c0, rfl, rfl⟩

end Go.Proofs.YtgbloaophfaaoaaGreatDoor
