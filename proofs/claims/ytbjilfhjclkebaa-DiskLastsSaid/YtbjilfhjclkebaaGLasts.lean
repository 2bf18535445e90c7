/- What the functions compute, and that the code computes it: printed by a program of this claim (wip/tools), for the group Lasts. -/
import Derived.Test.YtbjilfhjclkebaaGDisk
namespace Go.Proofs.Ytbjilfhjclkebaa
set_option linter.all false
open Go Go.RowKit Go.Fw
set_option linter.unusedVariables false

def F.disk_Disk_Flush.l1 (q32 : Int × disk_sector) (l33 : List disk_sector) (l37 : List (Int × disk_sector)) : Option ((List disk_sector) × (List (Int × disk_sector))) :=
  Option.bind (at_ l33 q32.1) (fun (y41 : disk_sector) => some ((l33.set q32.1.toNat q32.2, mdel l37 q32.1)))
def F.disk_Disk_Flush.x2 (l33 : List disk_sector) (l37 : List (Int × disk_sector)) : Option ((List disk_sector) × (List (Int × disk_sector))) :=
  some ((l33, l37))
theorem ord_F_disk_Disk_Flush_l1 (L : List (Int × disk_sector)) (s v : (List disk_sector) × (List (Int × disk_sector))) (hn : (L.map Prod.fst).Nodup) (h : mloop (fun q x => F.disk_Disk_Flush.l1 q x.1 x.2) L s = some v) : ∀ l, l.Perm L → ∃ w, mloop (fun q x => F.disk_Disk_Flush.l1 q x.1 x.2) l s = some w ∧ w = v := by
  refine fun l hl => ⟨v, ?_, rfl⟩
  rw [← h]
  refine (mloop_perm (D := fun a b => a.1 ≠ b.1) (fun _ _ h => h.symm) (fun a b s hab => ?_) hl.symm (map_fst_pair hn) s).symm
  obtain ⟨s, t⟩ := s
  dsimp only
  unfold F.disk_Disk_Flush.l1
  cases ha : at_ s a.1 with
  | none =>
    cases hb : at_ s b.1 with
    | none => rfl
    | some y => simp only [Option.bind_some, Option.bind_none, at_set_none ha]
  | some x =>
    cases hb : at_ s b.1 with
    | none => simp only [Option.bind_some, Option.bind_none, at_set_none hb]
    | some y =>
      obtain ⟨y2, hb2⟩ := at_set_some (i := a.1.toNat) (v := a.2) hb
      obtain ⟨x2, ha2⟩ := at_set_some (i := b.1.toNat) (v := b.2) ha
      simp only [Option.bind_some, ha2, hb2]
      have h1 := (at_some ha).1
      have h2 := (at_some hb).1
      rw [mdel_comm, List.set_comm _ _ (by omega)]
def F.disk_Disk_Flush.r3 (r24 : Int × disk_Disk) (l43 : List disk_sector) (l47 : List (Int × disk_sector)) : Option (Int × disk_Disk) :=
  some ((0, (⟨l43, l47, r24.2.off_, r24.2.armed_, r24.2.left_, r24.2.fall_, r24.2.acts_, r24.2.falls_⟩ : disk_Disk)))
def F.disk_Disk_Flush (m0 : disk_Disk) : Option (Int × disk_Disk) :=
  Option.bind (F.disk_Disk_why 0 m0) (fun (r21 : Int) => if r21 != 0 then (some ((r21, m0))) else (Option.bind (F.disk_Disk_act m0) (fun (r24 : Int × disk_Disk) => if r24.1 != 0 then (some ((r24.1, r24.2))) else (Option.bind (chk (r24.2.wait_.length ≤ 1000000) (Option.bind (mloop (fun q x => F.disk_Disk_Flush.l1 q x.1 x.2) r24.2.wait_ (r24.2.sure_, r24.2.wait_)) (fun x => F.disk_Disk_Flush.x2 x.1 x.2))) (fun x => F.disk_Disk_Flush.r3 r24 x.1 x.2)))))
set_option maxRecDepth 100000 in
set_option maxHeartbeats 4000000 in
theorem c_disk_Disk_Flush (I : Hl) (m0 : disk_Disk) (p0 : Option Addr) (c0 : Nat) (p1 : Nat) (b0 : Nat) (res : Int × disk_Disk) (hF : F.disk_Disk_Flush m0 = some res) : Tr Try.prog 11 [.pointer (some ⟨b0, 0, none⟩)] [imm I, pt b0 #[.slice p0 m0.sure_.length c0, .map (some p1), .bool m0.off_, .bool m0.armed_, .int .i64 m0.left_, .int .u64 m0.fall_.Keep, .int .i64 m0.fall_.Tear, .int .i64 m0.acts_, .int .i64 m0.falls_] 43, own e_disk_sector 51 p0 c0 m0.sure_, mpo (kInt .i64) (fun x : disk_sector => Value.agg #[.string x.s_, .int .i64 x.at_]) p1 m0.wait_] (fun r H' => ∃ (pq1 : Option Addr), ∃ (cq2 : Nat), ∃ (bq4 : Nat), r = .int .i64 res.1 ∧ H' = [imm I, pt b0 #[.slice pq1 res.2.sure_.length cq2, .map (some bq4), .bool res.2.off_, .bool res.2.armed_, .int .i64 res.2.left_, .int .u64 res.2.fall_.Keep, .int .i64 res.2.fall_.Tear, .int .i64 res.2.acts_, .int .i64 res.2.falls_] 43, own e_disk_sector 51 pq1 cq2 res.2.sure_, mpo (kInt .i64) (fun x : disk_sector => Value.agg #[.string x.s_, .int .i64 x.at_]) bq4 res.2.wait_]) := by
  unfold F.disk_Disk_Flush at hF
  refine tr_of_cw (fn := Try.f11) Try.func11 rfl (Nat.le_of_ble_eq_true rfl) 39 rfl fun F0 w0 => ?_
  refine cw_keep [0] (L' := [(0, .pointer (some ⟨b0, 0, none⟩))]) rfl ?_
  refine cw_state (S' := SAT w0 ([imm I, pt b0 #[.slice p0 m0.sure_.length c0, .map (some p1), .bool m0.off_, .bool m0.armed_, .int .i64 m0.left_, .int .u64 m0.fall_.Keep, .int .i64 m0.fall_.Tear, .int .i64 m0.acts_, .int .i64 m0.falls_] 43, own e_disk_sector 51 p0 c0 m0.sure_, mpo (kInt .i64) (fun x : disk_sector => Value.agg #[.string x.s_, .int .i64 x.at_]) p1 m0.wait_] ++ F0)) (fun w hs => hs) ?_
  refine cw_seq ?_
  refine cw_region ?_
  refine ow_vals 1 (j := 1) [0] [(0, .pointer (some ⟨b0, 0, none⟩))] rfl (by kernel_rfl) ?_
  refine ow_end rfl ?_
  refine ew_then ?_
  refine cw_seq ?_
  refine cw_seq ?_
  refine cw_region ?_
  refine ow_vals 1 (j := 1) [0, 7] [(0, .pointer (some ⟨b0, 0, none⟩)), (7, .pointer (some ⟨b0, 0, none⟩))] rfl (by kernel_rfl) ?_
  obtain ⟨r21, h22, hF⟩ := bind_some hF
  refine ow_pw rfl (pw_call (F := [] ++ F0) rfl rfl rfl rfl rfl rfl rfl (by kernel_rfl) (perm_of_pulls [0, 0, 0, 0] rfl) (c_disk_Disk_why _ 0 m0 p0 c0 p1 b0 r21 h22) ?_)
  rintro _ _ ⟨rfl, rfl⟩
  refine nw_H (H' := [imm I, pt b0 #[.slice p0 m0.sure_.length c0, .map (some p1), .bool m0.off_, .bool m0.armed_, .int .i64 m0.left_, .int .u64 m0.fall_.Keep, .int .i64 m0.fall_.Tear, .int .i64 m0.acts_, .int .i64 m0.falls_] 43, own e_disk_sector 51 p0 c0 m0.sure_, mpo (kInt .i64) (fun x : disk_sector => Value.agg #[.string x.s_, .int .i64 x.at_]) p1 m0.wait_] ++ F0) rfl (nw_ow ?_)
  refine ow_vals 1 (j := 3) [0, 3] [(0, .pointer (some ⟨b0, 0, none⟩)), (3, .int .i64 r21)] rfl (by kernel_rfl) ?_
  refine ow_end rfl ?_
  refine ew_then ?_
  refine cw_seq ?_
  refine cw_region ?_
  refine ow_vals 2 (j := 2) [0, 3, 10] [(0, .pointer (some ⟨b0, 0, none⟩)), (3, .int .i64 r21), (10, .bool (r21 != 0))] rfl (by kernel_rfl) ?_
  refine ow_end rfl ?_
  refine ew_then ?_
  rcases if_some hF with ⟨h23, hF⟩ | ⟨h23, hF⟩
  · refine cw_cond_t rfl rfl h23 ?_
    refine cw_seq ?_
    refine cw_region ?_
    refine ow_vals 2 (j := 2) [2] [(2, .int .i64 r21)] rfl (by kernel_rfl) ?_
    refine ow_end rfl ?_
    refine ew_then ?_
    refine cw_ret ?_
    refine ew_then_ret ?_
    have hR := Option.some.inj hF
    subst hR
    exact fin1 (H1 := [imm I, pt b0 #[.slice p0 m0.sure_.length c0, .map (some p1), .bool m0.off_, .bool m0.armed_, .int .i64 m0.left_, .int .u64 m0.fall_.Keep, .int .i64 m0.fall_.Tear, .int .i64 m0.acts_, .int .i64 m0.falls_] 43, own e_disk_sector 51 p0 c0 m0.sure_, mpo (kInt .i64) (fun x : disk_sector => Value.agg #[.string x.s_, .int .i64 x.at_]) p1 m0.wait_]) (fun w hs => sat_to [0, 0, 0, 0] 0 rfl hs) rfl (rr_tmp rfl) ⟨p0, c0, p1, rfl, rfl⟩
  · refine cw_cond_f rfl rfl h23 ?_
    refine cw_skip ?_
    refine ew_then ?_
    refine cw_seq ?_
    refine cw_seq ?_
    refine cw_region ?_
    refine ow_vals 1 (j := 1) [0, 12] [(0, .pointer (some ⟨b0, 0, none⟩)), (12, .pointer (some ⟨b0, 0, none⟩))] rfl (by kernel_rfl) ?_
    obtain ⟨r24, h25, hF⟩ := bind_some hF
    refine ow_pw rfl (pw_call (F := [] ++ F0) rfl rfl rfl rfl rfl rfl rfl (by kernel_rfl) (perm_of_pulls [0, 0, 0, 0] rfl) (c_disk_Disk_act _ m0 p0 c0 p1 b0 r24 h25) ?_)
    rintro _ _ ⟨r24_p1, r24_c2, r24_b4, rfl, rfl⟩
    refine nw_H (H' := [imm I, pt b0 #[.slice r24_p1 r24.2.sure_.length r24_c2, .map (some r24_b4), .bool r24.2.off_, .bool r24.2.armed_, .int .i64 r24.2.left_, .int .u64 r24.2.fall_.Keep, .int .i64 r24.2.fall_.Tear, .int .i64 r24.2.acts_, .int .i64 r24.2.falls_] 43, own e_disk_sector 51 r24_p1 r24_c2 r24.2.sure_, mpo (kInt .i64) (fun x : disk_sector => Value.agg #[.string x.s_, .int .i64 x.at_]) r24_b4 r24.2.wait_] ++ F0) rfl (nw_ow ?_)
    refine ow_vals 1 (j := 3) [0, 4] [(0, .pointer (some ⟨b0, 0, none⟩)), (4, .int .i64 r24.1)] rfl (by kernel_rfl) ?_
    refine ow_end rfl ?_
    refine ew_then ?_
    refine cw_seq ?_
    refine cw_region ?_
    refine ow_vals 2 (j := 2) [0, 4, 15] [(0, .pointer (some ⟨b0, 0, none⟩)), (4, .int .i64 r24.1), (15, .bool (r24.1 != 0))] rfl (by kernel_rfl) ?_
    refine ow_end rfl ?_
    refine ew_then ?_
    rcases if_some hF with ⟨h28, hF⟩ | ⟨h28, hF⟩
    · refine cw_cond_t rfl rfl h28 ?_
      refine cw_seq ?_
      refine cw_region ?_
      refine ow_vals 2 (j := 2) [2] [(2, .int .i64 r24.1)] rfl (by kernel_rfl) ?_
      refine ow_end rfl ?_
      refine ew_then ?_
      refine cw_ret ?_
      refine ew_then_ret ?_
      have hR := Option.some.inj hF
      subst hR
      exact fin1 (H1 := [imm I, pt b0 #[.slice r24_p1 r24.2.sure_.length r24_c2, .map (some r24_b4), .bool r24.2.off_, .bool r24.2.armed_, .int .i64 r24.2.left_, .int .u64 r24.2.fall_.Keep, .int .i64 r24.2.fall_.Tear, .int .i64 r24.2.acts_, .int .i64 r24.2.falls_] 43, own e_disk_sector 51 r24_p1 r24_c2 r24.2.sure_, mpo (kInt .i64) (fun x : disk_sector => Value.agg #[.string x.s_, .int .i64 x.at_]) r24_b4 r24.2.wait_]) (fun w hs => sat_to [0, 0, 0, 0] 0 rfl hs) rfl (rr_tmp rfl) ⟨r24_p1, r24_c2, r24_b4, rfl, rfl⟩
    · refine cw_cond_f rfl rfl h28 ?_
      refine cw_skip ?_
      refine ew_then ?_
      obtain ⟨v29, hF, hK29⟩ := bind_some hF
      refine cw_mid (fun a w => ∃ (l43 : List disk_sector), ∃ (l47 : List (Int × disk_sector)), ∃ (p44 : Option Addr), ∃ (c45 : Nat), (l43, l47) = v29 ∧ Fr 39 [] a ∧ SAT w0 ([imm I, pt b0 #[.slice p44 l43.length c45, .map (some r24_b4), .bool r24.2.off_, .bool r24.2.armed_, .int .i64 r24.2.left_, .int .u64 r24.2.fall_.Keep, .int .i64 r24.2.fall_.Tear, .int .i64 r24.2.acts_, .int .i64 r24.2.falls_] 43, own e_disk_sector 51 p44 c45 l43, mpo (kInt .i64) (fun x : disk_sector => Value.agg #[.string x.s_, .int .i64 x.at_]) r24_b4 l47] ++ F0) w) ?_ ?_
      · refine cw_seq ?_
        refine cw_region ?_
        refine ow_vals 3 (j := 3) [0, 19] [(0, .pointer (some ⟨b0, 0, none⟩)), (19, .pointer (some ⟨b0, 1, none⟩))] rfl (by kernel_rfl) ?_
        refine ow_pw rfl (pw_quiet (v := .map (some r24_b4)) rfl rfl rfl rfl (q_load 1 rfl rfl rfl (by kernel_rfl)) (nw_ow ?_))
        refine ow_pw rfl (pw_range 3 rfl rfl rfl rfl rfl rfl rfl rfl fun b30 => nw_H (H' := [imm I, pt b0 #[.slice r24_p1 r24.2.sure_.length r24_c2, .map (some r24_b4), .bool r24.2.off_, .bool r24.2.armed_, .int .i64 r24.2.left_, .int .u64 r24.2.fall_.Keep, .int .i64 r24.2.fall_.Tear, .int .i64 r24.2.acts_, .int .i64 r24.2.falls_] 43, own e_disk_sector 51 r24_p1 r24_c2 r24.2.sure_, mrg (kInt .i64) (fun x : disk_sector => Value.agg #[.string x.s_, .int .i64 x.at_]) r24_b4 b30 r24.2.wait_ r24.2.wait_ none] ++ F0) rfl (nw_ow ?_))
        refine ow_end rfl ?_
        refine ew_then ?_
        refine cw_block ?_
        obtain ⟨h31, hF⟩ := chk_some hF
        obtain ⟨v32, hv32, hX32⟩ := bind_some hF
        clear hF
        refine fun a w hf hs => ?_
        have hn32 := mrg_keys (k := 3) rfl hs
        have ho32 := ord_F_disk_Disk_Flush_l1 r24.2.wait_ (r24.2.sure_, r24.2.wait_) _ hn32 hv32
        refine wp_rounds (fun k a w => ∃ (l33 : List disk_sector), ∃ (l37 : List (Int × disk_sector)), ∃ (p34 : Option Addr), ∃ (c35 : Nat), ∃ (dn32 : List (Int × disk_sector)), ∃ (lt32 : List (Int × disk_sector)), (dn32 ++ lt32).Perm r24.2.wait_ ∧ mloop (fun q x => F.disk_Disk_Flush.l1 q x.1 x.2) dn32 (r24.2.sure_, r24.2.wait_) = some (l33, l37) ∧ lt32.length < k ∧ Fr 39 [(0, .pointer (some ⟨b0, 0, none⟩)), (21, .pointer (some ⟨b30, 0, none⟩))] a ∧ SAT w0 ([imm I, pt b0 #[.slice p34 l33.length c35, .map (some r24_b4), .bool r24.2.off_, .bool r24.2.armed_, .int .i64 r24.2.left_, .int .u64 r24.2.fall_.Keep, .int .i64 r24.2.fall_.Tear, .int .i64 r24.2.acts_, .int .i64 r24.2.falls_] 43, own e_disk_sector 51 p34 c35 l33, mrg (kInt .i64) (fun x : disk_sector => Value.agg #[.string x.s_, .int .i64 x.at_]) r24_b4 b30 l37 lt32 none] ++ F0) w) ?_ FUEL a w ⟨r24.2.sure_, r24.2.wait_, r24_p1, r24_c2, [], r24.2.wait_, List.Perm.refl _, rfl, (by rw [FUEL_eq]; omega), hf.keep [0, 21], sat_to [0, 0, 0, 0] 0 rfl hs⟩
        clear hf hs
        clear a w
        rintro k a w ⟨l33, l37, p34, c35, dn32, lt32, hP32, hD32, hk32, hf, hs⟩
        revert a w
        show CW _ _ _ 39 [(0, .pointer (some ⟨b0, 0, none⟩)), (21, .pointer (some ⟨b30, 0, none⟩))] (SAT w0 ([imm I, pt b0 #[.slice p34 l33.length c35, .map (some r24_b4), .bool r24.2.off_, .bool r24.2.armed_, .int .i64 r24.2.left_, .int .u64 r24.2.fall_.Keep, .int .i64 r24.2.fall_.Tear, .int .i64 r24.2.acts_, .int .i64 r24.2.falls_] 43, own e_disk_sector 51 p34 c35 l33, mrg (kInt .i64) (fun x : disk_sector => Value.agg #[.string x.s_, .int .i64 x.at_]) r24_b4 b30 l37 lt32 none] ++ F0))
        refine cw_seq ?_
        refine cw_region ?_
        refine ow_pw rfl (pw_next 3 rfl rfl rfl rfl rfl rfl rfl (fun h032 => nw_ow ?_) (fun q32 lf32 hq32 => nw_H (H' := [imm I, pt b0 #[.slice p34 l33.length c35, .map (some r24_b4), .bool r24.2.off_, .bool r24.2.armed_, .int .i64 r24.2.left_, .int .u64 r24.2.fall_.Keep, .int .i64 r24.2.fall_.Tear, .int .i64 r24.2.acts_, .int .i64 r24.2.falls_] 43, own e_disk_sector 51 p34 c35 l33, mrg (kInt .i64) (fun x : disk_sector => Value.agg #[.string x.s_, .int .i64 x.at_]) r24_b4 b30 l37 lf32 (some q32)] ++ F0) rfl (nw_ow ?_)))
        · obtain ⟨w32, hv32, hR32⟩ := ho32 dn32 (by rw [h032, List.append_nil] at hP32; exact hP32)
          rw [hD32] at hv32
          obtain rfl := Option.some.inj hv32
          subst hR32
          have hF := hX32
          try dsimp only at hF
          unfold F.disk_Disk_Flush.x2 at hF
          refine ow_state (S' := SAT w0 ([imm I, pt b0 #[.slice p34 l33.length c35, .map (some r24_b4), .bool r24.2.off_, .bool r24.2.armed_, .int .i64 r24.2.left_, .int .u64 r24.2.fall_.Keep, .int .i64 r24.2.fall_.Tear, .int .i64 r24.2.acts_, .int .i64 r24.2.falls_] 43, own e_disk_sector 51 p34 c35 l33, mpo (kInt .i64) (fun x : disk_sector => Value.agg #[.string x.s_, .int .i64 x.at_]) r24_b4 l37] ++ F0)) (fun w hs => sat_mrg_end (k := 3) rfl hs) ?_
          refine ow_vals 1 (j := 2) [0, 21, 23] [(0, .pointer (some ⟨b0, 0, none⟩)), (21, .pointer (some ⟨b30, 0, none⟩)), (23, .bool false)] rfl (by kernel_rfl) ?_
          refine ow_end rfl ?_
          refine ew_then ?_
          refine cw_seq ?_
          refine cw_cond_f rfl rfl rfl ?_
          refine cw_exit ?_
          refine ew_then_exit ?_
          refine ew_then_exit ?_
          refine ew_blk_exit ?_
          have hR := Option.some.inj hF
          exact fun a w hf hs => ⟨l33, l37, p34, c35, hR, hf.keep [], sat_to [0, 0, 0, 0] 0 rfl hs⟩
        · obtain ⟨u32, hu32⟩ := mloop_step (fun l' h => (ho32 l' h).imp fun _ h => h.1) hD32 ((hq32.append_left dn32).symm.trans hP32)
          have hF := hu32
          try dsimp only at hF
          unfold F.disk_Disk_Flush.l1 at hF
          refine ow_vals 1 (j := 2) [0, 21, 23] [(0, .pointer (some ⟨b0, 0, none⟩)), (21, .pointer (some ⟨b30, 0, none⟩)), (23, .bool true)] rfl (by kernel_rfl) ?_
          refine ow_end rfl ?_
          refine ew_then ?_
          refine cw_seq ?_
          refine cw_cond_t rfl rfl rfl ?_
          refine cw_skip ?_
          refine ew_then ?_
          refine cw_block ?_
          refine cw_seq ?_
          refine cw_region ?_
          refine ow_pw rfl (pw_quiet (v := .tuple #[.int .i64 q32.1, .agg #[.string q32.2.s_, .int .i64 q32.2.at_]]) rfl rfl rfl rfl (q_entry (kf := (kInt .i64)) (vf := (fun x : disk_sector => Value.agg #[.string x.s_, .int .i64 x.at_])) (p := q32) 3 rfl rfl rfl) (nw_ow ?_))
          refine ow_vals 2 (j := 3) [0, 21, 25, 26] [(0, .pointer (some ⟨b0, 0, none⟩)), (21, .pointer (some ⟨b30, 0, none⟩)), (25, .int .i64 q32.1), (26, .agg #[.string q32.2.s_, .int .i64 q32.2.at_])] rfl (by kernel_rfl) ?_
          refine ow_pw rfl (pw_alloc (cs := #[.string (ByteArray.mk #[]), .int .i64 0]) rfl rfl rfl rfl rfl (by kernel_rfl) fun b39 => nw_ow ?_)
          refine ow_vals 1 (j := 5) [0, 5, 6, 21, 26] [(0, .pointer (some ⟨b0, 0, none⟩)), (5, .int .i64 q32.1), (6, .pointer (some ⟨b39, 0, none⟩)), (21, .pointer (some ⟨b30, 0, none⟩)), (26, .agg #[.string q32.2.s_, .int .i64 q32.2.at_])] rfl (by kernel_rfl) ?_
          refine ow_pw rfl (pw_store 0 #[.string q32.2.s_, .int .i64 q32.2.at_] rfl rfl rfl rfl rfl rfl rfl (by kernel_rfl) (nw_H (H' := [pt b39 #[.string q32.2.s_, .int .i64 q32.2.at_] 51, imm I, pt b0 #[.slice p34 l33.length c35, .map (some r24_b4), .bool r24.2.off_, .bool r24.2.armed_, .int .i64 r24.2.left_, .int .u64 r24.2.fall_.Keep, .int .i64 r24.2.fall_.Tear, .int .i64 r24.2.acts_, .int .i64 r24.2.falls_] 43, own e_disk_sector 51 p34 c35 l33, mrg (kInt .i64) (fun x : disk_sector => Value.agg #[.string x.s_, .int .i64 x.at_]) r24_b4 b30 l37 lf32 (some q32)] ++ F0) rfl (nw_ow ?_)))
          refine ow_end rfl ?_
          refine ew_then ?_
          refine cw_seq ?_
          refine cw_open 7 (SAT w0 ([pt b39 #[.string q32.2.s_, .int .i64 q32.2.at_] 51, imm I, pt b0 #[.slice p34 l33.length c35, .map (some r24_b4), .bool r24.2.off_, .bool r24.2.armed_, .int .i64 r24.2.left_, .int .u64 r24.2.fall_.Keep, .int .i64 r24.2.fall_.Tear, .int .i64 r24.2.acts_, .int .i64 r24.2.falls_] 43, own e_disk_sector 51 p34 c35 l33, mrg (kInt .i64) (fun x : disk_sector => Value.agg #[.string x.s_, .int .i64 x.at_]) r24_b4 b30 l37 lf32 (some q32)])) (by kernel_rfl) (f := 8) rfl (fun w hs => sat_drew hs) ?_
          refine aw_vals [0, 1, 2, 4] (f' := 4) (m' := 23) [0, 5, 6, 21, 29, 31] [(0, .pointer (some ⟨b0, 0, none⟩)), (5, .int .i64 q32.1), (6, .pointer (some ⟨b39, 0, none⟩)), (21, .pointer (some ⟨b30, 0, none⟩)), (29, .pointer (some ⟨b0, 0, none⟩)), (31, .int .i64 q32.1)] (fun _ _ _ _ _ h => calm_fin (P := Try.prog) (fn := Try.f11) _ _ _ _ _ h) (fun w hs => sat_pulls [0, 0, 0, 0, 0] (G := [] ++ F0) rfl hs) rfl (by kernel_rfl) ?_
          refine aw_quiet 3 (m' := 31) (v := .slice p34 l33.length c35) 3 [] rfl rfl rfl rfl (by kernel_rfl) (by kernel_rfl) (by kernel_rfl) (fun _ _ _ _ _ h => calm_fin (P := Try.prog) (fn := Try.f11) _ _ _ _ _ h) (fun w hs => sat_pulls [0, 0, 0, 0, 0] (G := [] ++ F0) rfl hs) (q_load 2 rfl rfl rfl (by kernel_rfl)) ?_
          refine aw_quiet 5 (m' := 63) (v := .agg #[.string q32.2.s_, .int .i64 q32.2.at_]) 5 [] rfl rfl rfl rfl (by kernel_rfl) (by kernel_rfl) (by kernel_rfl) (fun _ _ _ _ _ h => calm_fin (P := Try.prog) (fn := Try.f11) _ _ _ _ _ h) (fun w hs => sat_pulls [0, 0, 0, 0, 0] (G := [] ++ F0) rfl hs) (q_load 0 rfl rfl rfl (by kernel_rfl)) ?_
          obtain ⟨y41, h42, hF⟩ := bind_some hF
          refine aw_quiet 6 (m' := 127) (v := .pointer (some ((base p34).add (q32.1.toNat * 2)))) 6 [] rfl rfl rfl rfl (by kernel_rfl) (by kernel_rfl) (by kernel_rfl) (fun _ _ _ _ _ h => calm_fin (P := Try.prog) (fn := Try.f11) _ _ _ _ _ h) (fun w hs => sat_pulls [0, 0, 0, 0, 0] (G := [] ++ F0) rfl hs) (q_index_own 3 2 rfl rfl (by kernel_rfl) rfl rfl (at_some h42).1 (at_lt h42)) ?_
          refine aw_only 7 (m' := 255) (by kernel_rfl) (by kernel_rfl) (pw_store_own 3 2 (z' := q32.2) (off := 0) rfl rfl rfl rfl rfl rfl rfl rfl (at_some h42).2 (by kernel_rfl) (nw_H (H' := [pt b39 #[.string q32.2.s_, .int .i64 q32.2.at_] 51, imm I, pt b0 #[.slice p34 (l33.set q32.1.toNat q32.2).length c35, .map (some r24_b4), .bool r24.2.off_, .bool r24.2.armed_, .int .i64 r24.2.left_, .int .u64 r24.2.fall_.Keep, .int .i64 r24.2.fall_.Tear, .int .i64 r24.2.acts_, .int .i64 r24.2.falls_] 43, own e_disk_sector 51 p34 c35 (l33.set q32.1.toNat q32.2), mrg (kInt .i64) (fun x : disk_sector => Value.agg #[.string x.s_, .int .i64 x.at_]) r24_b4 b30 l37 lf32 (some q32)] ++ F0) (by first | rfl | (simp only [List.length_set]; rfl)) (aw_last (by kernel_rfl) ?_)))
          refine aw_slots (L' := [(33, .pointer (some ((base p34).add (q32.1.toNat * 2)))), (32, .agg #[.string q32.2.s_, .int .i64 q32.2.at_]), (30, .slice p34 (l33.set q32.1.toNat q32.2).length c35), (0, .pointer (some ⟨b0, 0, none⟩)), (5, .int .i64 q32.1), (6, .pointer (some ⟨b39, 0, none⟩)), (21, .pointer (some ⟨b30, 0, none⟩)), (29, .pointer (some ⟨b0, 0, none⟩)), (31, .int .i64 q32.1)]) (by first | rfl | (simp only [List.length_set]; rfl)) ?_
          refine aw_keep [0, 5, 21] (L' := [(0, .pointer (some ⟨b0, 0, none⟩)), (5, .int .i64 q32.1), (21, .pointer (some ⟨b30, 0, none⟩))]) rfl ?_
          refine aw_end (by kernel_rfl) ?_
          refine ew_then ?_
          refine cw_region ?_
          refine ow_vals 3 (j := 3) [0, 5, 21, 36] [(0, .pointer (some ⟨b0, 0, none⟩)), (5, .int .i64 q32.1), (21, .pointer (some ⟨b30, 0, none⟩)), (36, .pointer (some ⟨b0, 1, none⟩))] rfl (by kernel_rfl) ?_
          refine ow_pw rfl (pw_quiet (v := .map (some r24_b4)) rfl rfl rfl rfl (q_load 2 rfl rfl rfl (by kernel_rfl)) (nw_ow ?_))
          refine ow_vals 1 (j := 5) [0, 21, 37, 38] [(0, .pointer (some ⟨b0, 0, none⟩)), (21, .pointer (some ⟨b30, 0, none⟩)), (37, .map (some r24_b4)), (38, .int .i64 q32.1)] rfl (by kernel_rfl) ?_
          refine ow_pw rfl (pw_mapDel_cur 4 (p := q32) (mkey_int (by kernel_rfl)) rfl rfl rfl rfl rfl rfl rfl rfl rfl (nw_H (H' := [pt b39 #[.string q32.2.s_, .int .i64 q32.2.at_] 51, imm I, pt b0 #[.slice p34 (l33.set q32.1.toNat q32.2).length c35, .map (some r24_b4), .bool r24.2.off_, .bool r24.2.armed_, .int .i64 r24.2.left_, .int .u64 r24.2.fall_.Keep, .int .i64 r24.2.fall_.Tear, .int .i64 r24.2.acts_, .int .i64 r24.2.falls_] 43, own e_disk_sector 51 p34 c35 (l33.set q32.1.toNat q32.2), mrg (kInt .i64) (fun x : disk_sector => Value.agg #[.string x.s_, .int .i64 x.at_]) r24_b4 b30 (mdel l37 q32.1) lf32 none] ++ F0) rfl (nw_ow ?_)))
          refine ow_end rfl ?_
          refine ew_blk ?_
          have hR := Option.some.inj hF
          subst hR
          exact fun a w hf hs => ⟨lt32.length, hk32, l33.set q32.1.toNat q32.2, mdel l37 q32.1, p34, c35, dn32 ++ [q32], lf32, (by rw [List.append_assoc]; exact (hq32.append_left dn32).symm.trans hP32), mloop_snoc hD32 hu32, (by rw [hq32.length_eq]; exact Nat.lt_succ_self _), hf.keep [0, 21], sat_to [0, 0, 0, 0, 0] 1 rfl (sat_mrg_none (k := 4) rfl hs)⟩
      · rintro a w ⟨l43, l47, p44, c45, hv, hf, hs⟩
        subst hv
        replace hF := hK29
        clear hK29
        try dsimp only at hF
        revert a w
        show CW _ _ _ 39 [] (SAT w0 ([imm I, pt b0 #[.slice p44 l43.length c45, .map (some r24_b4), .bool r24.2.off_, .bool r24.2.armed_, .int .i64 r24.2.left_, .int .u64 r24.2.fall_.Keep, .int .i64 r24.2.fall_.Tear, .int .i64 r24.2.acts_, .int .i64 r24.2.falls_] 43, own e_disk_sector 51 p44 c45 l43, mpo (kInt .i64) (fun x : disk_sector => Value.agg #[.string x.s_, .int .i64 x.at_]) r24_b4 l47] ++ F0))
        unfold F.disk_Disk_Flush.r3 at hF
        refine cw_seq ?_
        refine cw_region ?_
        refine ow_vals 1 (j := 1) [2] [(2, .int .i64 0)] rfl (by kernel_rfl) ?_
        refine ow_end rfl ?_
        refine ew_then ?_
        refine cw_ret ?_
        have hR := Option.some.inj hF
        subst hR
        exact fin1 (H1 := [imm I, pt b0 #[.slice p44 ((⟨l43, l47, r24.2.off_, r24.2.armed_, r24.2.left_, r24.2.fall_, r24.2.acts_, r24.2.falls_⟩ : disk_Disk).sure_).length c45, .map (some r24_b4), .bool ((⟨l43, l47, r24.2.off_, r24.2.armed_, r24.2.left_, r24.2.fall_, r24.2.acts_, r24.2.falls_⟩ : disk_Disk).off_), .bool ((⟨l43, l47, r24.2.off_, r24.2.armed_, r24.2.left_, r24.2.fall_, r24.2.acts_, r24.2.falls_⟩ : disk_Disk).armed_), .int .i64 ((⟨l43, l47, r24.2.off_, r24.2.armed_, r24.2.left_, r24.2.fall_, r24.2.acts_, r24.2.falls_⟩ : disk_Disk).left_), .int .u64 (((⟨l43, l47, r24.2.off_, r24.2.armed_, r24.2.left_, r24.2.fall_, r24.2.acts_, r24.2.falls_⟩ : disk_Disk).fall_).Keep), .int .i64 (((⟨l43, l47, r24.2.off_, r24.2.armed_, r24.2.left_, r24.2.fall_, r24.2.acts_, r24.2.falls_⟩ : disk_Disk).fall_).Tear), .int .i64 ((⟨l43, l47, r24.2.off_, r24.2.armed_, r24.2.left_, r24.2.fall_, r24.2.acts_, r24.2.falls_⟩ : disk_Disk).acts_), .int .i64 ((⟨l43, l47, r24.2.off_, r24.2.armed_, r24.2.left_, r24.2.fall_, r24.2.acts_, r24.2.falls_⟩ : disk_Disk).falls_)] 43, own e_disk_sector 51 p44 c45 ((⟨l43, l47, r24.2.off_, r24.2.armed_, r24.2.left_, r24.2.fall_, r24.2.acts_, r24.2.falls_⟩ : disk_Disk).sure_), mpo (kInt .i64) (fun x : disk_sector => Value.agg #[.string x.s_, .int .i64 x.at_]) r24_b4 ((⟨l43, l47, r24.2.off_, r24.2.armed_, r24.2.left_, r24.2.fall_, r24.2.acts_, r24.2.falls_⟩ : disk_Disk).wait_)]) (fun w hs => sat_to [0, 0, 0, 0] 0 rfl hs) rfl (rr_tmp rfl) ⟨p44, c45, r24_b4, rfl, rfl⟩


def F.law09_DiskLasts.r2 (x0 : List Int) (x34 : Int) (l35 : List disk_sector) (l39 : List (Int × disk_sector)) (x42 : Bool) (x43 : Bool) (x44 : Int) (x45 : Int) (x46 : Int) (x47 : Int) (x48 : Int) : Option ((Int × (List disk_sector) × (List (Int × disk_sector)) × Bool × Bool × Int × Int × Int × Int × Int) ⊕ (((List disk_sector) × (List (Int × disk_sector)) × Bool × Bool × Int × Int × Int × Int × Int) ⊕ (Bool))) :=
  Option.bind (at_ x0 x34) (fun (y52 : Int) => Option.bind (F.law09_fill y52 64) (fun (r56 : ByteArray) => Option.bind (F.disk_Disk_Write x34 r56 (⟨l35, l39, x42, x43, x44, (⟨x45, x46⟩ : disk_Fall), x47, x48⟩ : disk_Disk)) (fun (r58 : Int × disk_Disk) => if r58.1 != 0 then (some (.inr (.inr (false)))) else (some (.inl (IntKind.i64.wrap (x34 + 1), r58.2.sure_, r58.2.wait_, r58.2.off_, r58.2.armed_, r58.2.left_, r58.2.fall_.Keep, r58.2.fall_.Tear, r58.2.acts_, r58.2.falls_))))))
def F.law09_DiskLasts.l3 (x0 : List Int) (x34 : Int) (l35 : List disk_sector) (l39 : List (Int × disk_sector)) (x42 : Bool) (x43 : Bool) (x44 : Int) (x45 : Int) (x46 : Int) (x47 : Int) (x48 : Int) : Option ((Int × (List disk_sector) × (List (Int × disk_sector)) × Bool × Bool × Int × Int × Int × Int × Int) ⊕ (((List disk_sector) × (List (Int × disk_sector)) × Bool × Bool × Int × Int × Int × Int × Int) ⊕ (Bool))) :=
  thru (if decide (x34 < (x0.length : Int)) then (if decide (x34 < 20) then (some (.inl ())) else (some (.inr (.inr (.inl (l35, l39, x42, x43, x44, x45, x46, x47, x48)))))) else (some (.inr (.inr (.inl (l35, l39, x42, x43, x44, x45, x46, x47, x48)))))) (fun x => F.law09_DiskLasts.r2 x0 x34 l35 l39 x42 x43 x44 x45 x46 x47 x48)
def F.law09_DiskLasts.r5 (x1 : List Int) (x84 : Int) (l85 : List disk_sector) (l89 : List (Int × disk_sector)) (x92 : Bool) (x93 : Bool) (x94 : Int) (x95 : Int) (x96 : Int) (x97 : Int) (x98 : Int) : Option ((Int × (List disk_sector) × (List (Int × disk_sector)) × Bool × Bool × Int × Int × Int × Int × Int) ⊕ (((List disk_sector) × (List (Int × disk_sector)) × Bool × Bool × Int × Int × Int × Int × Int) ⊕ (Bool))) :=
  Option.bind (at_ x1 x84) (fun (y102 : Int) => Option.bind (F.law09_fill y102 64) (fun (r106 : ByteArray) => Option.bind (F.disk_Disk_Write x84 r106 (⟨l85, l89, x92, x93, x94, (⟨x95, x96⟩ : disk_Fall), x97, x98⟩ : disk_Disk)) (fun (r108 : Int × disk_Disk) => if r108.1 != 0 then (some (.inr (.inr (false)))) else (some (.inl (IntKind.i64.wrap (x84 + 1), r108.2.sure_, r108.2.wait_, r108.2.off_, r108.2.armed_, r108.2.left_, r108.2.fall_.Keep, r108.2.fall_.Tear, r108.2.acts_, r108.2.falls_))))))
def F.law09_DiskLasts.l6 (x1 : List Int) (x84 : Int) (l85 : List disk_sector) (l89 : List (Int × disk_sector)) (x92 : Bool) (x93 : Bool) (x94 : Int) (x95 : Int) (x96 : Int) (x97 : Int) (x98 : Int) : Option ((Int × (List disk_sector) × (List (Int × disk_sector)) × Bool × Bool × Int × Int × Int × Int × Int) ⊕ (((List disk_sector) × (List (Int × disk_sector)) × Bool × Bool × Int × Int × Int × Int × Int) ⊕ (Bool))) :=
  thru (if decide (x84 < (x1.length : Int)) then (if decide (x84 < 20) then (some (.inl ())) else (some (.inr (.inr (.inl (l85, l89, x92, x93, x94, x95, x96, x97, x98)))))) else (some (.inr (.inr (.inl (l85, l89, x92, x93, x94, x95, x96, x97, x98)))))) (fun x => F.law09_DiskLasts.r5 x1 x84 l85 l89 x92 x93 x94 x95 x96 x97 x98)
def F.law09_DiskLasts.r11 (x154 : Int) (x155 : Int) (l156 : List disk_sector) (l160 : List (Int × disk_sector)) (x162 : Bool) (x163 : Bool) (x164 : Int) (x165 : Int) (x166 : Int) (x167 : Int) (x168 : Int) (r170 : ByteArray × Int) (s182 : ByteArray) (s191 : ByteArray) : Option ((Int × Int × (List disk_sector) × (List (Int × disk_sector)) × Bool × Bool × Int × Int × Int × Int × Int) ⊕ ((Int × (List disk_sector) × (List (Int × disk_sector)) × Bool × Bool × Int × Int × Int × Int × Int) ⊕ (Bool))) :=
  if !(seqB r170.1 s182) then (if !(seqB r170.1 s191) then (some (.inl (IntKind.i64.wrap (x154 + 1), IntKind.i64.wrap (x155 + 1), (⟨l156, l160, x162, x163, x164, (⟨x165, x166⟩ : disk_Fall), x167, x168⟩ : disk_Disk).sure_, (⟨l156, l160, x162, x163, x164, (⟨x165, x166⟩ : disk_Fall), x167, x168⟩ : disk_Disk).wait_, (⟨l156, l160, x162, x163, x164, (⟨x165, x166⟩ : disk_Fall), x167, x168⟩ : disk_Disk).off_, (⟨l156, l160, x162, x163, x164, (⟨x165, x166⟩ : disk_Fall), x167, x168⟩ : disk_Disk).armed_, (⟨l156, l160, x162, x163, x164, (⟨x165, x166⟩ : disk_Fall), x167, x168⟩ : disk_Disk).left_, (⟨l156, l160, x162, x163, x164, (⟨x165, x166⟩ : disk_Fall), x167, x168⟩ : disk_Disk).fall_.Keep, (⟨l156, l160, x162, x163, x164, (⟨x165, x166⟩ : disk_Fall), x167, x168⟩ : disk_Disk).fall_.Tear, (⟨l156, l160, x162, x163, x164, (⟨x165, x166⟩ : disk_Fall), x167, x168⟩ : disk_Disk).acts_, (⟨l156, l160, x162, x163, x164, (⟨x165, x166⟩ : disk_Fall), x167, x168⟩ : disk_Disk).falls_))) else (some (.inl (x154, IntKind.i64.wrap (x155 + 1), (⟨l156, l160, x162, x163, x164, (⟨x165, x166⟩ : disk_Fall), x167, x168⟩ : disk_Disk).sure_, (⟨l156, l160, x162, x163, x164, (⟨x165, x166⟩ : disk_Fall), x167, x168⟩ : disk_Disk).wait_, (⟨l156, l160, x162, x163, x164, (⟨x165, x166⟩ : disk_Fall), x167, x168⟩ : disk_Disk).off_, (⟨l156, l160, x162, x163, x164, (⟨x165, x166⟩ : disk_Fall), x167, x168⟩ : disk_Disk).armed_, (⟨l156, l160, x162, x163, x164, (⟨x165, x166⟩ : disk_Fall), x167, x168⟩ : disk_Disk).left_, (⟨l156, l160, x162, x163, x164, (⟨x165, x166⟩ : disk_Fall), x167, x168⟩ : disk_Disk).fall_.Keep, (⟨l156, l160, x162, x163, x164, (⟨x165, x166⟩ : disk_Fall), x167, x168⟩ : disk_Disk).fall_.Tear, (⟨l156, l160, x162, x163, x164, (⟨x165, x166⟩ : disk_Fall), x167, x168⟩ : disk_Disk).acts_, (⟨l156, l160, x162, x163, x164, (⟨x165, x166⟩ : disk_Fall), x167, x168⟩ : disk_Disk).falls_)))) else (some (.inl (x154, IntKind.i64.wrap (x155 + 1), (⟨l156, l160, x162, x163, x164, (⟨x165, x166⟩ : disk_Fall), x167, x168⟩ : disk_Disk).sure_, (⟨l156, l160, x162, x163, x164, (⟨x165, x166⟩ : disk_Fall), x167, x168⟩ : disk_Disk).wait_, (⟨l156, l160, x162, x163, x164, (⟨x165, x166⟩ : disk_Fall), x167, x168⟩ : disk_Disk).off_, (⟨l156, l160, x162, x163, x164, (⟨x165, x166⟩ : disk_Fall), x167, x168⟩ : disk_Disk).armed_, (⟨l156, l160, x162, x163, x164, (⟨x165, x166⟩ : disk_Fall), x167, x168⟩ : disk_Disk).left_, (⟨l156, l160, x162, x163, x164, (⟨x165, x166⟩ : disk_Fall), x167, x168⟩ : disk_Disk).fall_.Keep, (⟨l156, l160, x162, x163, x164, (⟨x165, x166⟩ : disk_Fall), x167, x168⟩ : disk_Disk).fall_.Tear, (⟨l156, l160, x162, x163, x164, (⟨x165, x166⟩ : disk_Fall), x167, x168⟩ : disk_Disk).acts_, (⟨l156, l160, x162, x163, x164, (⟨x165, x166⟩ : disk_Fall), x167, x168⟩ : disk_Disk).falls_)))
def F.law09_DiskLasts.r10 (x154 : Int) (x155 : Int) (l156 : List disk_sector) (l160 : List (Int × disk_sector)) (x162 : Bool) (x163 : Bool) (x164 : Int) (x165 : Int) (x166 : Int) (x167 : Int) (x168 : Int) (r170 : ByteArray × Int) (s182 : ByteArray) (s191 : ByteArray) : Option ((Int × Int × (List disk_sector) × (List (Int × disk_sector)) × Bool × Bool × Int × Int × Int × Int × Int) ⊕ ((Int × (List disk_sector) × (List (Int × disk_sector)) × Bool × Bool × Int × Int × Int × Int × Int) ⊕ (Bool))) :=
  thru (if r170.2 != 0 then (some (.inr (.inr (.inr (false))))) else (if (r170.1.size : Int) != 64 then (some (.inr (.inr (.inr (false))))) else (some (.inl ())))) (fun x => F.law09_DiskLasts.r11 x154 x155 l156 l160 x162 x163 x164 x165 x166 x167 x168 r170 s182 s191)
def F.law09_DiskLasts.r9 (x1 : List Int) (x154 : Int) (x155 : Int) (l156 : List disk_sector) (l160 : List (Int × disk_sector)) (x162 : Bool) (x163 : Bool) (x164 : Int) (x165 : Int) (x166 : Int) (x167 : Int) (x168 : Int) (r170 : ByteArray × Int) (s182 : ByteArray) : Option ((Int × Int × (List disk_sector) × (List (Int × disk_sector)) × Bool × Bool × Int × Int × Int × Int × Int) ⊕ ((Int × (List disk_sector) × (List (Int × disk_sector)) × Bool × Bool × Int × Int × Int × Int × Int) ⊕ (Bool))) :=
  Option.bind (if decide (x155 < (x1.length : Int)) then (Option.bind (at_ x1 x155) (fun (y185 : Int) => Option.bind (F.law09_fill y185 64) (fun (r189 : ByteArray) => some (r189)))) else (some (s182))) (fun x => F.law09_DiskLasts.r10 x154 x155 l156 l160 x162 x163 x164 x165 x166 x167 x168 r170 s182 x)
def F.law09_DiskLasts.l12 (x0 : List Int) (x1 : List Int) (x154 : Int) (x155 : Int) (l156 : List disk_sector) (l160 : List (Int × disk_sector)) (x162 : Bool) (x163 : Bool) (x164 : Int) (x165 : Int) (x166 : Int) (x167 : Int) (x168 : Int) : Option ((Int × Int × (List disk_sector) × (List (Int × disk_sector)) × Bool × Bool × Int × Int × Int × Int × Int) ⊕ ((Int × (List disk_sector) × (List (Int × disk_sector)) × Bool × Bool × Int × Int × Int × Int × Int) ⊕ (Bool))) :=
  if decide (x155 < 20) then (Option.bind (F.disk_Disk_Read x155 (⟨l156, l160, x162, x163, x164, (⟨x165, x166⟩ : disk_Fall), x167, x168⟩ : disk_Disk)) (fun (r170 : ByteArray × Int) => Option.bind (F.law09_fill 0 64) (fun (r172 : ByteArray) => Option.bind (if decide (x155 < (x0.length : Int)) then (Option.bind (at_ x0 x155) (fun (y176 : Int) => Option.bind (F.law09_fill y176 64) (fun (r180 : ByteArray) => some (r180)))) else (some (r172))) (fun x => F.law09_DiskLasts.r9 x1 x154 x155 l156 l160 x162 x163 x164 x165 x166 x167 x168 r170 x)))) else (some (.inr (.inl (x154, l156, l160, x162, x163, x164, x165, x166, x167, x168))))
def F.law09_DiskLasts.r13 (x2 : disk_Fall) (x197 : Int) (l198 : List disk_sector) (l202 : List (Int × disk_sector)) (x204 : Bool) (x205 : Bool) (x206 : Int) (x207 : Int) (x208 : Int) (x209 : Int) (x210 : Int) : Option (Bool) :=
  if decide (x197 ≤ 1) then (if x197 == 0 then (Option.bind (F.law09_awake) (fun (r213 : Bool) => some (r213))) else (if decide (x2.Tear ≥ 0) then (Option.bind (F.law09_awake) (fun (r216 : Bool) => some (r216))) else (some (false)))) else (some (false))
def F.law09_DiskLasts.r8 (x0 : List Int) (x1 : List Int) (x2 : disk_Fall) (l138 : List disk_sector) (l142 : List (Int × disk_sector)) (x145 : Bool) (x146 : Bool) (x147 : Int) (x148 : Int) (x149 : Int) (x150 : Int) (x151 : Int) : Option (Bool) :=
  thru (iter (fun x => F.law09_DiskLasts.l12 x0 x1 x.1 x.2.1 x.2.2.1 x.2.2.2.1 x.2.2.2.2.1 x.2.2.2.2.2.1 x.2.2.2.2.2.2.1 x.2.2.2.2.2.2.2.1 x.2.2.2.2.2.2.2.2.1 x.2.2.2.2.2.2.2.2.2.1 x.2.2.2.2.2.2.2.2.2.2) FUEL (0, 0, l138, l142, x145, x146, x147, x148, x149, x150, x151)) (fun x => F.law09_DiskLasts.r13 x2 x.1 x.2.1 x.2.2.1 x.2.2.2.1 x.2.2.2.2.1 x.2.2.2.2.2.1 x.2.2.2.2.2.2.1 x.2.2.2.2.2.2.2.1 x.2.2.2.2.2.2.2.2.1 x.2.2.2.2.2.2.2.2.2)
def F.law09_DiskLasts.r7 (x0 : List Int) (x1 : List Int) (x2 : disk_Fall) (l113 : List disk_sector) (l117 : List (Int × disk_sector)) (x120 : Bool) (x121 : Bool) (x122 : Int) (x123 : Int) (x124 : Int) (x125 : Int) (x126 : Int) : Option (Bool) :=
  thru (Option.bind (F.disk_Disk_Crash x2 (⟨l113, l117, x120, x121, x122, (⟨x123, x124⟩ : disk_Fall), x125, x126⟩ : disk_Disk)) (fun (r128 : Int × disk_Disk) => if r128.1 != 0 then (some (.inr (false))) else (Option.bind (F.disk_Disk_Start r128.2) (fun (r133 : Int × disk_Disk) => if r133.1 != 0 then (some (.inr (false))) else (some (.inl (r133.2.sure_, r133.2.wait_, r133.2.off_, r133.2.armed_, r133.2.left_, r133.2.fall_.Keep, r133.2.fall_.Tear, r133.2.acts_, r133.2.falls_))))))) (fun x => F.law09_DiskLasts.r8 x0 x1 x2 x.1 x.2.1 x.2.2.1 x.2.2.2.1 x.2.2.2.2.1 x.2.2.2.2.2.1 x.2.2.2.2.2.2.1 x.2.2.2.2.2.2.2.1 x.2.2.2.2.2.2.2.2)
def F.law09_DiskLasts.r4 (x0 : List Int) (x1 : List Int) (x2 : disk_Fall) (l63 : List disk_sector) (l67 : List (Int × disk_sector)) (x70 : Bool) (x71 : Bool) (x72 : Int) (x73 : Int) (x74 : Int) (x75 : Int) (x76 : Int) : Option (Bool) :=
  Option.bind (F.disk_Disk_Flush (⟨l63, l67, x70, x71, x72, (⟨x73, x74⟩ : disk_Fall), x75, x76⟩ : disk_Disk)) (fun (r77 : Int × disk_Disk) => if r77.1 != 0 then (some (false)) else (thru (iter (fun x => F.law09_DiskLasts.l6 x1 x.1 x.2.1 x.2.2.1 x.2.2.2.1 x.2.2.2.2.1 x.2.2.2.2.2.1 x.2.2.2.2.2.2.1 x.2.2.2.2.2.2.2.1 x.2.2.2.2.2.2.2.2.1 x.2.2.2.2.2.2.2.2.2) FUEL (0, r77.2.sure_, r77.2.wait_, r77.2.off_, r77.2.armed_, r77.2.left_, r77.2.fall_.Keep, r77.2.fall_.Tear, r77.2.acts_, r77.2.falls_)) (fun x => F.law09_DiskLasts.r7 x0 x1 x2 x.1 x.2.1 x.2.2.1 x.2.2.2.1 x.2.2.2.2.1 x.2.2.2.2.2.1 x.2.2.2.2.2.2.1 x.2.2.2.2.2.2.2.1 x.2.2.2.2.2.2.2.2)))
def F.law09_DiskLasts.r1 (x0 : List Int) (x1 : List Int) (x2 : disk_Fall) (r23_s1 : disk_Disk) : Option (Bool) :=
  thru (iter (fun x => F.law09_DiskLasts.l3 x0 x.1 x.2.1 x.2.2.1 x.2.2.2.1 x.2.2.2.2.1 x.2.2.2.2.2.1 x.2.2.2.2.2.2.1 x.2.2.2.2.2.2.2.1 x.2.2.2.2.2.2.2.2.1 x.2.2.2.2.2.2.2.2.2) FUEL (0, r23_s1.sure_, r23_s1.wait_, r23_s1.off_, r23_s1.armed_, r23_s1.left_, r23_s1.fall_.Keep, r23_s1.fall_.Tear, r23_s1.acts_, r23_s1.falls_)) (fun x => F.law09_DiskLasts.r4 x0 x1 x2 x.1 x.2.1 x.2.2.1 x.2.2.2.1 x.2.2.2.2.1 x.2.2.2.2.2.1 x.2.2.2.2.2.2.1 x.2.2.2.2.2.2.2.1 x.2.2.2.2.2.2.2.2)
def F.law09_DiskLasts (x0 : List Int) (x1 : List Int) (x2 : disk_Fall) : Option Bool :=
  Option.bind (F.disk_New 20) (fun (r23 : (Option disk_Disk) × Int) => optC r23.1 (if r23.2 != 0 then (some (false)) else (some (false))) (fun (r23_s1 : disk_Disk) => thru (if r23.2 != 0 then (some (.inr (false))) else (some (.inl ()))) (fun x => F.law09_DiskLasts.r1 x0 x1 x2 r23_s1)))
set_option maxRecDepth 100000 in
set_option maxHeartbeats 4000000 in
theorem c_law09_DiskLasts (I : Hl) (x0 : List Int) (x1 : List Int) (x2 : disk_Fall) (p0 : Option Addr) (c0 : Nat) (p1 : Option Addr) (c1 : Nat) (res : Bool) (hF : F.law09_DiskLasts x0 x1 x2 = some res) (hr0 : ro I (eInt .u8) p0 c0 x0) (hr1 : ro I (eInt .u8) p1 c1 x1) : Tr Try.prog 4 [.slice p0 x0.length c0, .slice p1 x1.length c1, .agg #[.int .u64 x2.Keep, .int .i64 x2.Tear]] [imm I] (fun r H' => r = .bool res ∧ H' = [imm I]) := by
  unfold F.law09_DiskLasts at hF
  refine tr_of_cw (fn := Try.f4) Try.func4 rfl (Nat.le_of_ble_eq_true rfl) 138 rfl fun F0 w0 => ?_
  refine cw_keep [0, 1, 2] (L' := [(0, .slice p0 x0.length c0), (1, .slice p1 x1.length c1), (2, .agg #[.int .u64 x2.Keep, .int .i64 x2.Tear])]) rfl ?_
  refine cw_state (S' := SAT w0 ([imm I] ++ F0)) (fun w hs => hs) ?_
  refine cw_seq ?_
  refine cw_region ?_
  refine ow_pw rfl (pw_box (cs := #[.int .u64 x2.Keep, .int .i64 x2.Tear]) rfl rfl rfl rfl rfl rfl fun b21 => nw_ow ?_)
  refine ow_vals 1 (j := 2) [0, 1, 5] [(0, .slice p0 x0.length c0), (1, .slice p1 x1.length c1), (5, .pointer (some ⟨b21, 0, none⟩))] rfl (by kernel_rfl) ?_
  refine ow_end rfl ?_
  refine ew_then ?_
  refine cw_seq ?_
  refine cw_region ?_
  obtain ⟨r23, h24, hF⟩ := bind_some hF
  refine ow_pw rfl (pw_call (F := [pt b21 #[.int .u64 x2.Keep, .int .i64 x2.Tear] 34] ++ F0) rfl rfl rfl rfl rfl rfl rfl (by kernel_rfl) (perm_of_pulls [1] rfl) (c_disk_New _ 20 r23 h24) ?_)
  rintro _ _ (⟨hO, rfl, rfl⟩ | ⟨r23_s1, r23_b2, r23_p4, r23_c5, r23_b7, hO, rfl, rfl⟩)
  · rw [hO] at hF
    try dsimp only [optC] at hF
    refine nw_H (H' := [imm I, pt b21 #[.int .u64 x2.Keep, .int .i64 x2.Tear] 34] ++ F0) rfl (nw_ow ?_)
    refine ow_vals 5 (j := 6) [0, 1, 5, 7, 8] [(0, .slice p0 x0.length c0), (1, .slice p1 x1.length c1), (5, .pointer (some ⟨b21, 0, none⟩)), (7, .pointer none), (8, .int .i64 r23.2)] rfl (by kernel_rfl) ?_
    refine ow_end rfl ?_
    refine ew_then ?_
    refine cw_seq ?_
    refine cw_seq ?_
    refine cw_region ?_
    refine ow_vals 3 (j := 3) [0, 1, 5, 7, 23] [(0, .slice p0 x0.length c0), (1, .slice p1 x1.length c1), (5, .pointer (some ⟨b21, 0, none⟩)), (7, .pointer none), (23, .bool (r23.2 != 0))] rfl (by kernel_rfl) ?_
    rcases if_some hF with ⟨h29, hF⟩ | ⟨h29, hF⟩
    · refine ow_slots (L' := [(0, .slice p0 x0.length c0), (1, .slice p1 x1.length c1), (5, .pointer (some ⟨b21, 0, none⟩)), (7, .pointer none), (23, .bool true)]) (by rw [h29]) ?_
      refine ow_vals 3 (j := 6) [0, 1, 5, 7, 26] [(0, .slice p0 x0.length c0), (1, .slice p1 x1.length c1), (5, .pointer (some ⟨b21, 0, none⟩)), (7, .pointer none), (26, .bool true)] rfl (by kernel_rfl) ?_
      refine ow_end rfl ?_
      refine ew_then ?_
      refine cw_cond_t rfl rfl rfl ?_
      refine cw_seq ?_
      refine cw_region ?_
      refine ow_vals 1 (j := 1) [6] [(6, .bool false)] rfl (by kernel_rfl) ?_
      refine ow_end rfl ?_
      refine ew_then ?_
      refine cw_ret ?_
      refine ew_then_ret ?_
      have hR := Option.some.inj hF
      subst hR
      exact fin1 (H1 := [imm I]) (fun w hs => sat_to [1, 0] 1 rfl hs) rfl (rr_tmp rfl) ⟨rfl, rfl⟩
    · refine ow_slots (L' := [(0, .slice p0 x0.length c0), (1, .slice p1 x1.length c1), (5, .pointer (some ⟨b21, 0, none⟩)), (7, .pointer none), (23, .bool false)]) (by rw [h29]) ?_
      refine ow_vals 3 (j := 6) [0, 1, 5, 7, 26] [(0, .slice p0 x0.length c0), (1, .slice p1 x1.length c1), (5, .pointer (some ⟨b21, 0, none⟩)), (7, .pointer none), (26, .bool true)] rfl (by kernel_rfl) ?_
      refine ow_end rfl ?_
      refine ew_then ?_
      refine cw_cond_t rfl rfl rfl ?_
      refine cw_seq ?_
      refine cw_region ?_
      refine ow_vals 1 (j := 1) [6] [(6, .bool false)] rfl (by kernel_rfl) ?_
      refine ow_end rfl ?_
      refine ew_then ?_
      refine cw_ret ?_
      refine ew_then_ret ?_
      have hR := Option.some.inj hF
      subst hR
      exact fin1 (H1 := [imm I]) (fun w hs => sat_to [1, 0] 1 rfl hs) rfl (rr_tmp rfl) ⟨rfl, rfl⟩
  · rw [hO] at hF
    try dsimp only [optC] at hF
    refine nw_H (H' := [imm I, pt r23_b2 #[.slice r23_p4 r23_s1.sure_.length r23_c5, .map (some r23_b7), .bool r23_s1.off_, .bool r23_s1.armed_, .int .i64 r23_s1.left_, .int .u64 r23_s1.fall_.Keep, .int .i64 r23_s1.fall_.Tear, .int .i64 r23_s1.acts_, .int .i64 r23_s1.falls_] 43, own e_disk_sector 51 r23_p4 r23_c5 r23_s1.sure_, mpo (kInt .i64) (fun x : disk_sector => Value.agg #[.string x.s_, .int .i64 x.at_]) r23_b7 r23_s1.wait_, pt b21 #[.int .u64 x2.Keep, .int .i64 x2.Tear] 34] ++ F0) rfl (nw_ow ?_)
    refine ow_vals 5 (j := 6) [0, 1, 5, 7, 8] [(0, .slice p0 x0.length c0), (1, .slice p1 x1.length c1), (5, .pointer (some ⟨b21, 0, none⟩)), (7, .pointer (some ⟨r23_b2, 0, none⟩)), (8, .int .i64 r23.2)] rfl (by kernel_rfl) ?_
    refine ow_end rfl ?_
    refine ew_then ?_
    obtain ⟨v30, hF, hK30⟩ := thru_some hF
    refine cw_mid (fun a w => .inl () = v30 ∧ Fr 138 [(0, .slice p0 x0.length c0), (1, .slice p1 x1.length c1), (5, .pointer (some ⟨b21, 0, none⟩)), (7, .pointer (some ⟨r23_b2, 0, none⟩))] a ∧ SAT w0 ([imm I, pt r23_b2 #[.slice r23_p4 r23_s1.sure_.length r23_c5, .map (some r23_b7), .bool r23_s1.off_, .bool r23_s1.armed_, .int .i64 r23_s1.left_, .int .u64 r23_s1.fall_.Keep, .int .i64 r23_s1.fall_.Tear, .int .i64 r23_s1.acts_, .int .i64 r23_s1.falls_] 43, pt b21 #[.int .u64 x2.Keep, .int .i64 x2.Tear] 34, own e_disk_sector 51 r23_p4 r23_c5 r23_s1.sure_, mpo (kInt .i64) (fun x : disk_sector => Value.agg #[.string x.s_, .int .i64 x.at_]) r23_b7 r23_s1.wait_] ++ F0) w) ?_ ?_
    · refine cw_seq ?_
      refine cw_region ?_
      refine ow_vals 3 (j := 3) [0, 1, 5, 7, 23] [(0, .slice p0 x0.length c0), (1, .slice p1 x1.length c1), (5, .pointer (some ⟨b21, 0, none⟩)), (7, .pointer (some ⟨r23_b2, 0, none⟩)), (23, .bool (r23.2 != 0))] rfl (by kernel_rfl) ?_
      rcases if_some hF with ⟨h31, hF⟩ | ⟨h31, hF⟩
      · refine ow_slots (L' := [(0, .slice p0 x0.length c0), (1, .slice p1 x1.length c1), (5, .pointer (some ⟨b21, 0, none⟩)), (7, .pointer (some ⟨r23_b2, 0, none⟩)), (23, .bool true)]) (by rw [h31]) ?_
        refine ow_vals 3 (j := 6) [0, 1, 5, 7, 26] [(0, .slice p0 x0.length c0), (1, .slice p1 x1.length c1), (5, .pointer (some ⟨b21, 0, none⟩)), (7, .pointer (some ⟨r23_b2, 0, none⟩)), (26, .bool true)] rfl (by kernel_rfl) ?_
        refine ow_end rfl ?_
        refine ew_then ?_
        refine cw_cond_t rfl rfl rfl ?_
        refine cw_seq ?_
        refine cw_region ?_
        refine ow_vals 1 (j := 1) [6] [(6, .bool false)] rfl (by kernel_rfl) ?_
        refine ow_end rfl ?_
        refine ew_then ?_
        refine cw_ret ?_
        refine ew_then_ret ?_
        have hR := Option.some.inj hF
        subst hR
        have hR := hK30
        try dsimp only [Thru] at hR
        subst hR
        exact fin1 (H1 := [imm I]) (fun w hs => sat_to [1, 1, 1, 1, 0] 4 rfl hs) rfl (rr_tmp rfl) ⟨rfl, rfl⟩
      · refine ow_slots (L' := [(0, .slice p0 x0.length c0), (1, .slice p1 x1.length c1), (5, .pointer (some ⟨b21, 0, none⟩)), (7, .pointer (some ⟨r23_b2, 0, none⟩)), (23, .bool false)]) (by rw [h31]) ?_
        refine ow_vals 3 (j := 6) [0, 1, 5, 7, 26] [(0, .slice p0 x0.length c0), (1, .slice p1 x1.length c1), (5, .pointer (some ⟨b21, 0, none⟩)), (7, .pointer (some ⟨r23_b2, 0, none⟩)), (26, .bool false)] rfl (by kernel_rfl) ?_
        refine ow_end rfl ?_
        refine ew_then ?_
        refine cw_cond_f rfl rfl rfl ?_
        refine cw_skip ?_
        have hR := Option.some.inj hF
        exact fun a w hf hs => ⟨hR, hf.keep [0, 1, 5, 7], sat_to [0, 0, 2, 0, 0] 0 rfl hs⟩
    · rintro a w ⟨hv, hf, hs⟩
      subst hv
      replace hF := hK30
      clear hK30
      try dsimp only [Thru] at hF
      revert a w
      show CW _ _ _ 138 [(0, .slice p0 x0.length c0), (1, .slice p1 x1.length c1), (5, .pointer (some ⟨b21, 0, none⟩)), (7, .pointer (some ⟨r23_b2, 0, none⟩))] (SAT w0 ([imm I, pt r23_b2 #[.slice r23_p4 r23_s1.sure_.length r23_c5, .map (some r23_b7), .bool r23_s1.off_, .bool r23_s1.armed_, .int .i64 r23_s1.left_, .int .u64 r23_s1.fall_.Keep, .int .i64 r23_s1.fall_.Tear, .int .i64 r23_s1.acts_, .int .i64 r23_s1.falls_] 43, pt b21 #[.int .u64 x2.Keep, .int .i64 x2.Tear] 34, own e_disk_sector 51 r23_p4 r23_c5 r23_s1.sure_, mpo (kInt .i64) (fun x : disk_sector => Value.agg #[.string x.s_, .int .i64 x.at_]) r23_b7 r23_s1.wait_] ++ F0))
      unfold F.law09_DiskLasts.r1 at hF
      obtain ⟨v32, hF, hK32⟩ := thru_some hF
      refine cw_mid (fun a w => ∃ (l63 : List disk_sector), ∃ (l67 : List (Int × disk_sector)), ∃ (x70 : Bool), ∃ (x71 : Bool), ∃ (x72 : Int), ∃ (x73 : Int), ∃ (x74 : Int), ∃ (x75 : Int), ∃ (x76 : Int), ∃ (p64 : Option Addr), ∃ (c65 : Nat), ∃ (b69 : Nat), .inl (l63, l67, x70, x71, x72, x73, x74, x75, x76) = v32 ∧ Fr 138 [(0, .slice p0 x0.length c0), (1, .slice p1 x1.length c1), (5, .pointer (some ⟨b21, 0, none⟩)), (7, .pointer (some ⟨r23_b2, 0, none⟩))] a ∧ SAT w0 ([imm I, pt r23_b2 #[.slice p64 l63.length c65, .map (some b69), .bool x70, .bool x71, .int .i64 x72, .int .u64 x73, .int .i64 x74, .int .i64 x75, .int .i64 x76] 43, pt b21 #[.int .u64 x2.Keep, .int .i64 x2.Tear] 34, own e_disk_sector 51 p64 c65 l63, mpo (kInt .i64) (fun x : disk_sector => Value.agg #[.string x.s_, .int .i64 x.at_]) b69 l67] ++ F0) w) ?_ ?_
      · refine cw_seq ?_
        refine cw_region ?_
        refine ow_vals 1 (j := 1) [0, 1, 5, 7, 9] [(0, .slice p0 x0.length c0), (1, .slice p1 x1.length c1), (5, .pointer (some ⟨b21, 0, none⟩)), (7, .pointer (some ⟨r23_b2, 0, none⟩)), (9, .int .i64 0)] rfl (by kernel_rfl) ?_
        refine ow_end rfl ?_
        refine ew_then ?_
        refine cw_block ?_
        refine fun a w hf hs => wp_rounds (fun k a w => ∃ (x34 : Int), ∃ (l35 : List disk_sector), ∃ (l39 : List (Int × disk_sector)), ∃ (x42 : Bool), ∃ (x43 : Bool), ∃ (x44 : Int), ∃ (x45 : Int), ∃ (x46 : Int), ∃ (x47 : Int), ∃ (x48 : Int), ∃ (p36 : Option Addr), ∃ (c37 : Nat), ∃ (b41 : Nat), iter (fun x => F.law09_DiskLasts.l3 x0 x.1 x.2.1 x.2.2.1 x.2.2.2.1 x.2.2.2.2.1 x.2.2.2.2.2.1 x.2.2.2.2.2.2.1 x.2.2.2.2.2.2.2.1 x.2.2.2.2.2.2.2.2.1 x.2.2.2.2.2.2.2.2.2) k (x34, l35, l39, x42, x43, x44, x45, x46, x47, x48) = some v32 ∧ Fr 138 [(0, .slice p0 x0.length c0), (1, .slice p1 x1.length c1), (5, .pointer (some ⟨b21, 0, none⟩)), (7, .pointer (some ⟨r23_b2, 0, none⟩)), (9, .int .i64 x34)] a ∧ SAT w0 ([imm I, pt r23_b2 #[.slice p36 l35.length c37, .map (some b41), .bool x42, .bool x43, .int .i64 x44, .int .u64 x45, .int .i64 x46, .int .i64 x47, .int .i64 x48] 43, pt b21 #[.int .u64 x2.Keep, .int .i64 x2.Tear] 34, own e_disk_sector 51 p36 c37 l35, mpo (kInt .i64) (fun x : disk_sector => Value.agg #[.string x.s_, .int .i64 x.at_]) b41 l39] ++ F0) w) ?_ FUEL a w ⟨0, r23_s1.sure_, r23_s1.wait_, r23_s1.off_, r23_s1.armed_, r23_s1.left_, r23_s1.fall_.Keep, r23_s1.fall_.Tear, r23_s1.acts_, r23_s1.falls_, r23_p4, r23_c5, r23_b7, hF, hf.keep [0, 1, 5, 7, 9], sat_to [0, 0, 0, 0, 0] 0 rfl hs⟩
        clear hf hs
        clear a w hF
        rintro k a w ⟨x34, l35, l39, x42, x43, x44, x45, x46, x47, x48, p36, c37, b41, hF2, hf, hs⟩
        obtain ⟨k, r33, rfl, hF, hL33⟩ := iter_some hF2
        clear hF2
        revert a w
        show CW _ _ _ 138 [(0, .slice p0 x0.length c0), (1, .slice p1 x1.length c1), (5, .pointer (some ⟨b21, 0, none⟩)), (7, .pointer (some ⟨r23_b2, 0, none⟩)), (9, .int .i64 x34)] (SAT w0 ([imm I, pt r23_b2 #[.slice p36 l35.length c37, .map (some b41), .bool x42, .bool x43, .int .i64 x44, .int .u64 x45, .int .i64 x46, .int .i64 x47, .int .i64 x48] 43, pt b21 #[.int .u64 x2.Keep, .int .i64 x2.Tear] 34, own e_disk_sector 51 p36 c37 l35, mpo (kInt .i64) (fun x : disk_sector => Value.agg #[.string x.s_, .int .i64 x.at_]) b41 l39] ++ F0))
        try dsimp only at hF
        unfold F.law09_DiskLasts.l3 at hF
        obtain ⟨v49, hF, hK49⟩ := thru_some hF
        refine cw_mid (fun a w => .inl () = v49 ∧ Fr 138 [(0, .slice p0 x0.length c0), (1, .slice p1 x1.length c1), (5, .pointer (some ⟨b21, 0, none⟩)), (7, .pointer (some ⟨r23_b2, 0, none⟩)), (9, .int .i64 x34)] a ∧ SAT w0 ([imm I, pt r23_b2 #[.slice p36 l35.length c37, .map (some b41), .bool x42, .bool x43, .int .i64 x44, .int .u64 x45, .int .i64 x46, .int .i64 x47, .int .i64 x48] 43, pt b21 #[.int .u64 x2.Keep, .int .i64 x2.Tear] 34, own e_disk_sector 51 p36 c37 l35, mpo (kInt .i64) (fun x : disk_sector => Value.agg #[.string x.s_, .int .i64 x.at_]) b41 l39] ++ F0) w) ?_ ?_
        · refine cw_seq ?_
          refine cw_region ?_
          refine ow_vals 5 (j := 5) [0, 1, 5, 7, 9, 31] [(0, .slice p0 x0.length c0), (1, .slice p1 x1.length c1), (5, .pointer (some ⟨b21, 0, none⟩)), (7, .pointer (some ⟨r23_b2, 0, none⟩)), (9, .int .i64 x34), (31, .bool (decide (x34 < (x0.length : Int))))] rfl (by kernel_rfl) ?_
          rcases if_some hF with ⟨h50, hF⟩ | ⟨h50, hF⟩
          · refine ow_slots (L' := [(0, .slice p0 x0.length c0), (1, .slice p1 x1.length c1), (5, .pointer (some ⟨b21, 0, none⟩)), (7, .pointer (some ⟨r23_b2, 0, none⟩)), (9, .int .i64 x34), (31, .bool true)]) (by rw [h50]) ?_
            refine ow_vals 3 (j := 8) [0, 1, 5, 7, 9, 34] [(0, .slice p0 x0.length c0), (1, .slice p1 x1.length c1), (5, .pointer (some ⟨b21, 0, none⟩)), (7, .pointer (some ⟨r23_b2, 0, none⟩)), (9, .int .i64 x34), (34, .bool (decide (x34 < 20)))] rfl (by kernel_rfl) ?_
            refine ow_end rfl ?_
            refine ew_then ?_
            rcases if_some hF with ⟨h51, hF⟩ | ⟨h51, hF⟩
            · refine cw_cond_t rfl rfl h51 ?_
              refine cw_skip ?_
              have hR := Option.some.inj hF
              exact fun a w hf hs => ⟨hR, hf.keep [0, 1, 5, 7, 9], sat_to [0, 0, 0, 0, 0] 0 rfl hs⟩
            · refine cw_cond_f rfl rfl h51 ?_
              refine cw_exit ?_
              refine ew_then_exit ?_
              refine ew_then_exit ?_
              refine ew_blk_exit ?_
              have hR := Option.some.inj hF
              subst hR
              have hR := hK49
              try dsimp only [Thru] at hR
              subst hR
              have hR := hL33
              try dsimp only at hR
              exact fun a w hf hs => ⟨l35, l39, x42, x43, x44, x45, x46, x47, x48, p36, c37, b41, hR, hf.keep [0, 1, 5, 7], sat_to [0, 0, 0, 0, 0] 0 rfl hs⟩
          · refine ow_slots (L' := [(0, .slice p0 x0.length c0), (1, .slice p1 x1.length c1), (5, .pointer (some ⟨b21, 0, none⟩)), (7, .pointer (some ⟨r23_b2, 0, none⟩)), (9, .int .i64 x34), (31, .bool false)]) (by rw [h50]) ?_
            refine ow_vals 3 (j := 8) [0, 1, 5, 7, 9, 34] [(0, .slice p0 x0.length c0), (1, .slice p1 x1.length c1), (5, .pointer (some ⟨b21, 0, none⟩)), (7, .pointer (some ⟨r23_b2, 0, none⟩)), (9, .int .i64 x34), (34, .bool false)] rfl (by kernel_rfl) ?_
            refine ow_end rfl ?_
            refine ew_then ?_
            refine cw_cond_f rfl rfl rfl ?_
            refine cw_exit ?_
            refine ew_then_exit ?_
            refine ew_then_exit ?_
            refine ew_blk_exit ?_
            have hR := Option.some.inj hF
            subst hR
            have hR := hK49
            try dsimp only [Thru] at hR
            subst hR
            have hR := hL33
            try dsimp only at hR
            exact fun a w hf hs => ⟨l35, l39, x42, x43, x44, x45, x46, x47, x48, p36, c37, b41, hR, hf.keep [0, 1, 5, 7], sat_to [0, 0, 0, 0, 0] 0 rfl hs⟩
        · rintro a w ⟨hv, hf, hs⟩
          subst hv
          replace hF := hK49
          clear hK49
          try dsimp only [Thru] at hF
          revert a w
          show CW _ _ _ 138 [(0, .slice p0 x0.length c0), (1, .slice p1 x1.length c1), (5, .pointer (some ⟨b21, 0, none⟩)), (7, .pointer (some ⟨r23_b2, 0, none⟩)), (9, .int .i64 x34)] (SAT w0 ([imm I, pt r23_b2 #[.slice p36 l35.length c37, .map (some b41), .bool x42, .bool x43, .int .i64 x44, .int .u64 x45, .int .i64 x46, .int .i64 x47, .int .i64 x48] 43, pt b21 #[.int .u64 x2.Keep, .int .i64 x2.Tear] 34, own e_disk_sector 51 p36 c37 l35, mpo (kInt .i64) (fun x : disk_sector => Value.agg #[.string x.s_, .int .i64 x.at_]) b41 l39] ++ F0))
          unfold F.law09_DiskLasts.r2 at hF
          refine cw_seq ?_
          refine cw_block ?_
          refine cw_seq ?_
          refine cw_region ?_
          refine ow_vals 4 (j := 4) [0, 1, 5, 7, 9, 37, 38, 39, 40] [(0, .slice p0 x0.length c0), (1, .slice p1 x1.length c1), (5, .pointer (some ⟨b21, 0, none⟩)), (7, .pointer (some ⟨r23_b2, 0, none⟩)), (9, .int .i64 x34), (37, .pointer (some ⟨r23_b2, 0, none⟩)), (38, .int .i64 x34), (39, .slice p0 x0.length c0), (40, .int .i64 x34)] rfl (by kernel_rfl) ?_
          obtain ⟨y52, h53, hF⟩ := bind_some hF
          refine ow_pw rfl (pw_index_ro (E := 5) 1 hr0 rfl rfl rfl rfl rfl (by kernel_rfl) rfl rfl rfl h53 fun q54 h55 => nw_ow ?_)
          refine ow_pw rfl (pw_quiet (v := .int .u8 y52) rfl rfl rfl rfl (q_load_el0 0 rfl h55 rfl rfl (by kernel_rfl)) (nw_ow ?_))
          obtain ⟨r56, h57, hF⟩ := bind_some hF
          refine ow_pw rfl (pw_call (F := [pt r23_b2 #[.slice p36 l35.length c37, .map (some b41), .bool x42, .bool x43, .int .i64 x44, .int .u64 x45, .int .i64 x46, .int .i64 x47, .int .i64 x48] 43, pt b21 #[.int .u64 x2.Keep, .int .i64 x2.Tear] 34, own e_disk_sector 51 p36 c37 l35, mpo (kInt .i64) (fun x : disk_sector => Value.agg #[.string x.s_, .int .i64 x.at_]) b41 l39] ++ F0) rfl rfl rfl rfl rfl rfl rfl (by kernel_rfl) (perm_of_pulls [0] rfl) (c_law09_fill _ y52 64 r56 h57) ?_)
          rintro _ _ ⟨rfl, rfl⟩
          refine nw_H (H' := [imm I, pt r23_b2 #[.slice p36 l35.length c37, .map (some b41), .bool x42, .bool x43, .int .i64 x44, .int .u64 x45, .int .i64 x46, .int .i64 x47, .int .i64 x48] 43, pt b21 #[.int .u64 x2.Keep, .int .i64 x2.Tear] 34, own e_disk_sector 51 p36 c37 l35, mpo (kInt .i64) (fun x : disk_sector => Value.agg #[.string x.s_, .int .i64 x.at_]) b41 l39] ++ F0) rfl (nw_ow ?_)
          obtain ⟨r58, h59, hF⟩ := bind_some hF
          refine ow_pw rfl (pw_call (F := [pt b21 #[.int .u64 x2.Keep, .int .i64 x2.Tear] 34] ++ F0) rfl rfl rfl rfl rfl rfl rfl (by kernel_rfl) (perm_of_pulls [0, 0, 1, 1] rfl) (c_disk_Disk_Write _ x34 r56 (⟨l35, l39, x42, x43, x44, (⟨x45, x46⟩ : disk_Fall), x47, x48⟩ : disk_Disk) p36 c37 b41 r23_b2 r58 h59) ?_)
          rintro _ _ ⟨r58_p1, r58_c2, r58_b4, rfl, rfl⟩
          refine nw_H (H' := [imm I, pt r23_b2 #[.slice r58_p1 r58.2.sure_.length r58_c2, .map (some r58_b4), .bool r58.2.off_, .bool r58.2.armed_, .int .i64 r58.2.left_, .int .u64 r58.2.fall_.Keep, .int .i64 r58.2.fall_.Tear, .int .i64 r58.2.acts_, .int .i64 r58.2.falls_] 43, own e_disk_sector 51 r58_p1 r58_c2 r58.2.sure_, mpo (kInt .i64) (fun x : disk_sector => Value.agg #[.string x.s_, .int .i64 x.at_]) r58_b4 r58.2.wait_, pt b21 #[.int .u64 x2.Keep, .int .i64 x2.Tear] 34] ++ F0) rfl (nw_ow ?_)
          refine ow_vals 1 (j := 9) [0, 1, 5, 7, 9, 45] [(0, .slice p0 x0.length c0), (1, .slice p1 x1.length c1), (5, .pointer (some ⟨b21, 0, none⟩)), (7, .pointer (some ⟨r23_b2, 0, none⟩)), (9, .int .i64 x34), (45, .bool (r58.1 != 0))] rfl (by kernel_rfl) ?_
          refine ow_end rfl ?_
          refine ew_then ?_
          rcases if_some hF with ⟨h62, hF⟩ | ⟨h62, hF⟩
          · refine cw_cond_t rfl rfl h62 ?_
            refine cw_seq ?_
            refine cw_region ?_
            refine ow_vals 1 (j := 1) [6] [(6, .bool false)] rfl (by kernel_rfl) ?_
            refine ow_end rfl ?_
            refine ew_then ?_
            refine cw_ret ?_
            refine ew_blk_ret ?_
            refine ew_then_ret ?_
            refine ew_then_ret ?_
            refine ew_blk_ret ?_
            refine ew_then_ret ?_
            have hR := Option.some.inj hF
            subst hR
            have hR := hL33
            try dsimp only at hR
            subst hR
            have hR := hK32
            try dsimp only [Thru] at hR
            subst hR
            exact fin1 (H1 := [imm I]) (fun w hs => sat_to [1, 1, 1, 1, 0] 4 rfl hs) rfl (rr_tmp rfl) ⟨rfl, rfl⟩
          · refine cw_cond_f rfl rfl h62 ?_
            refine cw_skip ?_
            refine ew_blk ?_
            refine ew_then ?_
            refine cw_region ?_
            refine ow_vals 3 (j := 3) [0, 1, 5, 7, 9] [(0, .slice p0 x0.length c0), (1, .slice p1 x1.length c1), (5, .pointer (some ⟨b21, 0, none⟩)), (7, .pointer (some ⟨r23_b2, 0, none⟩)), (9, .int .i64 (IntKind.i64.wrap (x34 + 1)))] rfl (by kernel_rfl) ?_
            refine ow_end rfl ?_
            have hR := Option.some.inj hF
            subst hR
            have hR := hL33
            try dsimp only at hR
            exact fun a w hf hs => ⟨k, Nat.lt_succ_self k, IntKind.i64.wrap (x34 + 1), r58.2.sure_, r58.2.wait_, r58.2.off_, r58.2.armed_, r58.2.left_, r58.2.fall_.Keep, r58.2.fall_.Tear, r58.2.acts_, r58.2.falls_, r58_p1, r58_c2, r58_b4, hR, hf.keep [0, 1, 5, 7, 9], sat_to [0, 0, 2, 0, 0] 0 rfl hs⟩
      · rintro a w ⟨l63, l67, x70, x71, x72, x73, x74, x75, x76, p64, c65, b69, hv, hf, hs⟩
        subst hv
        replace hF := hK32
        clear hK32
        try dsimp only [Thru] at hF
        revert a w
        show CW _ _ _ 138 [(0, .slice p0 x0.length c0), (1, .slice p1 x1.length c1), (5, .pointer (some ⟨b21, 0, none⟩)), (7, .pointer (some ⟨r23_b2, 0, none⟩))] (SAT w0 ([imm I, pt r23_b2 #[.slice p64 l63.length c65, .map (some b69), .bool x70, .bool x71, .int .i64 x72, .int .u64 x73, .int .i64 x74, .int .i64 x75, .int .i64 x76] 43, pt b21 #[.int .u64 x2.Keep, .int .i64 x2.Tear] 34, own e_disk_sector 51 p64 c65 l63, mpo (kInt .i64) (fun x : disk_sector => Value.agg #[.string x.s_, .int .i64 x.at_]) b69 l67] ++ F0))
        unfold F.law09_DiskLasts.r4 at hF
        refine cw_seq ?_
        refine cw_seq ?_
        refine cw_region ?_
        refine ow_vals 1 (j := 1) [0, 1, 5, 7, 46] [(0, .slice p0 x0.length c0), (1, .slice p1 x1.length c1), (5, .pointer (some ⟨b21, 0, none⟩)), (7, .pointer (some ⟨r23_b2, 0, none⟩)), (46, .pointer (some ⟨r23_b2, 0, none⟩))] rfl (by kernel_rfl) ?_
        obtain ⟨r77, h78, hF⟩ := bind_some hF
        refine ow_pw rfl (pw_call (F := [pt b21 #[.int .u64 x2.Keep, .int .i64 x2.Tear] 34] ++ F0) rfl rfl rfl rfl rfl rfl rfl (by kernel_rfl) (perm_of_pulls [0, 0, 1, 1] rfl) (c_disk_Disk_Flush _ (⟨l63, l67, x70, x71, x72, (⟨x73, x74⟩ : disk_Fall), x75, x76⟩ : disk_Disk) p64 c65 b69 r23_b2 r77 h78) ?_)
        rintro _ _ ⟨r77_p1, r77_c2, r77_b4, rfl, rfl⟩
        refine nw_H (H' := [imm I, pt r23_b2 #[.slice r77_p1 r77.2.sure_.length r77_c2, .map (some r77_b4), .bool r77.2.off_, .bool r77.2.armed_, .int .i64 r77.2.left_, .int .u64 r77.2.fall_.Keep, .int .i64 r77.2.fall_.Tear, .int .i64 r77.2.acts_, .int .i64 r77.2.falls_] 43, own e_disk_sector 51 r77_p1 r77_c2 r77.2.sure_, mpo (kInt .i64) (fun x : disk_sector => Value.agg #[.string x.s_, .int .i64 x.at_]) r77_b4 r77.2.wait_, pt b21 #[.int .u64 x2.Keep, .int .i64 x2.Tear] 34] ++ F0) rfl (nw_ow ?_)
        refine ow_vals 1 (j := 3) [0, 1, 5, 7, 48] [(0, .slice p0 x0.length c0), (1, .slice p1 x1.length c1), (5, .pointer (some ⟨b21, 0, none⟩)), (7, .pointer (some ⟨r23_b2, 0, none⟩)), (48, .bool (r77.1 != 0))] rfl (by kernel_rfl) ?_
        refine ow_end rfl ?_
        refine ew_then ?_
        rcases if_some hF with ⟨h81, hF⟩ | ⟨h81, hF⟩
        · refine cw_cond_t rfl rfl h81 ?_
          refine cw_seq ?_
          refine cw_region ?_
          refine ow_vals 1 (j := 1) [6] [(6, .bool false)] rfl (by kernel_rfl) ?_
          refine ow_end rfl ?_
          refine ew_then ?_
          refine cw_ret ?_
          refine ew_then_ret ?_
          have hR := Option.some.inj hF
          subst hR
          exact fin1 (H1 := [imm I]) (fun w hs => sat_to [1, 1, 1, 1, 0] 4 rfl hs) rfl (rr_tmp rfl) ⟨rfl, rfl⟩
        · refine cw_cond_f rfl rfl h81 ?_
          refine cw_skip ?_
          refine ew_then ?_
          obtain ⟨v82, hF, hK82⟩ := thru_some hF
          refine cw_mid (fun a w => ∃ (l113 : List disk_sector), ∃ (l117 : List (Int × disk_sector)), ∃ (x120 : Bool), ∃ (x121 : Bool), ∃ (x122 : Int), ∃ (x123 : Int), ∃ (x124 : Int), ∃ (x125 : Int), ∃ (x126 : Int), ∃ (p114 : Option Addr), ∃ (c115 : Nat), ∃ (b119 : Nat), .inl (l113, l117, x120, x121, x122, x123, x124, x125, x126) = v82 ∧ Fr 138 [(0, .slice p0 x0.length c0), (1, .slice p1 x1.length c1), (5, .pointer (some ⟨b21, 0, none⟩)), (7, .pointer (some ⟨r23_b2, 0, none⟩))] a ∧ SAT w0 ([imm I, pt r23_b2 #[.slice p114 l113.length c115, .map (some b119), .bool x120, .bool x121, .int .i64 x122, .int .u64 x123, .int .i64 x124, .int .i64 x125, .int .i64 x126] 43, pt b21 #[.int .u64 x2.Keep, .int .i64 x2.Tear] 34, own e_disk_sector 51 p114 c115 l113, mpo (kInt .i64) (fun x : disk_sector => Value.agg #[.string x.s_, .int .i64 x.at_]) b119 l117] ++ F0) w) ?_ ?_
          · refine cw_seq ?_
            refine cw_region ?_
            refine ow_vals 1 (j := 1) [0, 1, 5, 7, 10] [(0, .slice p0 x0.length c0), (1, .slice p1 x1.length c1), (5, .pointer (some ⟨b21, 0, none⟩)), (7, .pointer (some ⟨r23_b2, 0, none⟩)), (10, .int .i64 0)] rfl (by kernel_rfl) ?_
            refine ow_end rfl ?_
            refine ew_then ?_
            refine cw_block ?_
            refine fun a w hf hs => wp_rounds (fun k a w => ∃ (x84 : Int), ∃ (l85 : List disk_sector), ∃ (l89 : List (Int × disk_sector)), ∃ (x92 : Bool), ∃ (x93 : Bool), ∃ (x94 : Int), ∃ (x95 : Int), ∃ (x96 : Int), ∃ (x97 : Int), ∃ (x98 : Int), ∃ (p86 : Option Addr), ∃ (c87 : Nat), ∃ (b91 : Nat), iter (fun x => F.law09_DiskLasts.l6 x1 x.1 x.2.1 x.2.2.1 x.2.2.2.1 x.2.2.2.2.1 x.2.2.2.2.2.1 x.2.2.2.2.2.2.1 x.2.2.2.2.2.2.2.1 x.2.2.2.2.2.2.2.2.1 x.2.2.2.2.2.2.2.2.2) k (x84, l85, l89, x92, x93, x94, x95, x96, x97, x98) = some v82 ∧ Fr 138 [(0, .slice p0 x0.length c0), (1, .slice p1 x1.length c1), (5, .pointer (some ⟨b21, 0, none⟩)), (7, .pointer (some ⟨r23_b2, 0, none⟩)), (10, .int .i64 x84)] a ∧ SAT w0 ([imm I, pt r23_b2 #[.slice p86 l85.length c87, .map (some b91), .bool x92, .bool x93, .int .i64 x94, .int .u64 x95, .int .i64 x96, .int .i64 x97, .int .i64 x98] 43, pt b21 #[.int .u64 x2.Keep, .int .i64 x2.Tear] 34, own e_disk_sector 51 p86 c87 l85, mpo (kInt .i64) (fun x : disk_sector => Value.agg #[.string x.s_, .int .i64 x.at_]) b91 l89] ++ F0) w) ?_ FUEL a w ⟨0, r77.2.sure_, r77.2.wait_, r77.2.off_, r77.2.armed_, r77.2.left_, r77.2.fall_.Keep, r77.2.fall_.Tear, r77.2.acts_, r77.2.falls_, r77_p1, r77_c2, r77_b4, hF, hf.keep [0, 1, 5, 7, 10], sat_to [0, 0, 2, 0, 0] 0 rfl hs⟩
            clear hf hs
            clear a w hF
            rintro k a w ⟨x84, l85, l89, x92, x93, x94, x95, x96, x97, x98, p86, c87, b91, hF2, hf, hs⟩
            obtain ⟨k, r83, rfl, hF, hL83⟩ := iter_some hF2
            clear hF2
            revert a w
            show CW _ _ _ 138 [(0, .slice p0 x0.length c0), (1, .slice p1 x1.length c1), (5, .pointer (some ⟨b21, 0, none⟩)), (7, .pointer (some ⟨r23_b2, 0, none⟩)), (10, .int .i64 x84)] (SAT w0 ([imm I, pt r23_b2 #[.slice p86 l85.length c87, .map (some b91), .bool x92, .bool x93, .int .i64 x94, .int .u64 x95, .int .i64 x96, .int .i64 x97, .int .i64 x98] 43, pt b21 #[.int .u64 x2.Keep, .int .i64 x2.Tear] 34, own e_disk_sector 51 p86 c87 l85, mpo (kInt .i64) (fun x : disk_sector => Value.agg #[.string x.s_, .int .i64 x.at_]) b91 l89] ++ F0))
            try dsimp only at hF
            unfold F.law09_DiskLasts.l6 at hF
            obtain ⟨v99, hF, hK99⟩ := thru_some hF
            refine cw_mid (fun a w => .inl () = v99 ∧ Fr 138 [(0, .slice p0 x0.length c0), (1, .slice p1 x1.length c1), (5, .pointer (some ⟨b21, 0, none⟩)), (7, .pointer (some ⟨r23_b2, 0, none⟩)), (10, .int .i64 x84)] a ∧ SAT w0 ([imm I, pt r23_b2 #[.slice p86 l85.length c87, .map (some b91), .bool x92, .bool x93, .int .i64 x94, .int .u64 x95, .int .i64 x96, .int .i64 x97, .int .i64 x98] 43, pt b21 #[.int .u64 x2.Keep, .int .i64 x2.Tear] 34, own e_disk_sector 51 p86 c87 l85, mpo (kInt .i64) (fun x : disk_sector => Value.agg #[.string x.s_, .int .i64 x.at_]) b91 l89] ++ F0) w) ?_ ?_
            · refine cw_seq ?_
              refine cw_region ?_
              refine ow_vals 5 (j := 5) [0, 1, 5, 7, 10, 53] [(0, .slice p0 x0.length c0), (1, .slice p1 x1.length c1), (5, .pointer (some ⟨b21, 0, none⟩)), (7, .pointer (some ⟨r23_b2, 0, none⟩)), (10, .int .i64 x84), (53, .bool (decide (x84 < (x1.length : Int))))] rfl (by kernel_rfl) ?_
              rcases if_some hF with ⟨h100, hF⟩ | ⟨h100, hF⟩
              · refine ow_slots (L' := [(0, .slice p0 x0.length c0), (1, .slice p1 x1.length c1), (5, .pointer (some ⟨b21, 0, none⟩)), (7, .pointer (some ⟨r23_b2, 0, none⟩)), (10, .int .i64 x84), (53, .bool true)]) (by rw [h100]) ?_
                refine ow_vals 3 (j := 8) [0, 1, 5, 7, 10, 56] [(0, .slice p0 x0.length c0), (1, .slice p1 x1.length c1), (5, .pointer (some ⟨b21, 0, none⟩)), (7, .pointer (some ⟨r23_b2, 0, none⟩)), (10, .int .i64 x84), (56, .bool (decide (x84 < 20)))] rfl (by kernel_rfl) ?_
                refine ow_end rfl ?_
                refine ew_then ?_
                rcases if_some hF with ⟨h101, hF⟩ | ⟨h101, hF⟩
                · refine cw_cond_t rfl rfl h101 ?_
                  refine cw_skip ?_
                  have hR := Option.some.inj hF
                  exact fun a w hf hs => ⟨hR, hf.keep [0, 1, 5, 7, 10], sat_to [0, 0, 0, 0, 0] 0 rfl hs⟩
                · refine cw_cond_f rfl rfl h101 ?_
                  refine cw_exit ?_
                  refine ew_then_exit ?_
                  refine ew_then_exit ?_
                  refine ew_blk_exit ?_
                  have hR := Option.some.inj hF
                  subst hR
                  have hR := hK99
                  try dsimp only [Thru] at hR
                  subst hR
                  have hR := hL83
                  try dsimp only at hR
                  exact fun a w hf hs => ⟨l85, l89, x92, x93, x94, x95, x96, x97, x98, p86, c87, b91, hR, hf.keep [0, 1, 5, 7], sat_to [0, 0, 0, 0, 0] 0 rfl hs⟩
              · refine ow_slots (L' := [(0, .slice p0 x0.length c0), (1, .slice p1 x1.length c1), (5, .pointer (some ⟨b21, 0, none⟩)), (7, .pointer (some ⟨r23_b2, 0, none⟩)), (10, .int .i64 x84), (53, .bool false)]) (by rw [h100]) ?_
                refine ow_vals 3 (j := 8) [0, 1, 5, 7, 10, 56] [(0, .slice p0 x0.length c0), (1, .slice p1 x1.length c1), (5, .pointer (some ⟨b21, 0, none⟩)), (7, .pointer (some ⟨r23_b2, 0, none⟩)), (10, .int .i64 x84), (56, .bool false)] rfl (by kernel_rfl) ?_
                refine ow_end rfl ?_
                refine ew_then ?_
                refine cw_cond_f rfl rfl rfl ?_
                refine cw_exit ?_
                refine ew_then_exit ?_
                refine ew_then_exit ?_
                refine ew_blk_exit ?_
                have hR := Option.some.inj hF
                subst hR
                have hR := hK99
                try dsimp only [Thru] at hR
                subst hR
                have hR := hL83
                try dsimp only at hR
                exact fun a w hf hs => ⟨l85, l89, x92, x93, x94, x95, x96, x97, x98, p86, c87, b91, hR, hf.keep [0, 1, 5, 7], sat_to [0, 0, 0, 0, 0] 0 rfl hs⟩
            · rintro a w ⟨hv, hf, hs⟩
              subst hv
              replace hF := hK99
              clear hK99
              try dsimp only [Thru] at hF
              revert a w
              show CW _ _ _ 138 [(0, .slice p0 x0.length c0), (1, .slice p1 x1.length c1), (5, .pointer (some ⟨b21, 0, none⟩)), (7, .pointer (some ⟨r23_b2, 0, none⟩)), (10, .int .i64 x84)] (SAT w0 ([imm I, pt r23_b2 #[.slice p86 l85.length c87, .map (some b91), .bool x92, .bool x93, .int .i64 x94, .int .u64 x95, .int .i64 x96, .int .i64 x97, .int .i64 x98] 43, pt b21 #[.int .u64 x2.Keep, .int .i64 x2.Tear] 34, own e_disk_sector 51 p86 c87 l85, mpo (kInt .i64) (fun x : disk_sector => Value.agg #[.string x.s_, .int .i64 x.at_]) b91 l89] ++ F0))
              unfold F.law09_DiskLasts.r5 at hF
              refine cw_seq ?_
              refine cw_block ?_
              refine cw_seq ?_
              refine cw_region ?_
              refine ow_vals 4 (j := 4) [0, 1, 5, 7, 10, 59, 60, 61, 62] [(0, .slice p0 x0.length c0), (1, .slice p1 x1.length c1), (5, .pointer (some ⟨b21, 0, none⟩)), (7, .pointer (some ⟨r23_b2, 0, none⟩)), (10, .int .i64 x84), (59, .pointer (some ⟨r23_b2, 0, none⟩)), (60, .int .i64 x84), (61, .slice p1 x1.length c1), (62, .int .i64 x84)] rfl (by kernel_rfl) ?_
              obtain ⟨y102, h103, hF⟩ := bind_some hF
              refine ow_pw rfl (pw_index_ro (E := 5) 1 hr1 rfl rfl rfl rfl rfl (by kernel_rfl) rfl rfl rfl h103 fun q104 h105 => nw_ow ?_)
              refine ow_pw rfl (pw_quiet (v := .int .u8 y102) rfl rfl rfl rfl (q_load_el0 0 rfl h105 rfl rfl (by kernel_rfl)) (nw_ow ?_))
              obtain ⟨r106, h107, hF⟩ := bind_some hF
              refine ow_pw rfl (pw_call (F := [pt r23_b2 #[.slice p86 l85.length c87, .map (some b91), .bool x92, .bool x93, .int .i64 x94, .int .u64 x95, .int .i64 x96, .int .i64 x97, .int .i64 x98] 43, pt b21 #[.int .u64 x2.Keep, .int .i64 x2.Tear] 34, own e_disk_sector 51 p86 c87 l85, mpo (kInt .i64) (fun x : disk_sector => Value.agg #[.string x.s_, .int .i64 x.at_]) b91 l89] ++ F0) rfl rfl rfl rfl rfl rfl rfl (by kernel_rfl) (perm_of_pulls [0] rfl) (c_law09_fill _ y102 64 r106 h107) ?_)
              rintro _ _ ⟨rfl, rfl⟩
              refine nw_H (H' := [imm I, pt r23_b2 #[.slice p86 l85.length c87, .map (some b91), .bool x92, .bool x93, .int .i64 x94, .int .u64 x95, .int .i64 x96, .int .i64 x97, .int .i64 x98] 43, pt b21 #[.int .u64 x2.Keep, .int .i64 x2.Tear] 34, own e_disk_sector 51 p86 c87 l85, mpo (kInt .i64) (fun x : disk_sector => Value.agg #[.string x.s_, .int .i64 x.at_]) b91 l89] ++ F0) rfl (nw_ow ?_)
              obtain ⟨r108, h109, hF⟩ := bind_some hF
              refine ow_pw rfl (pw_call (F := [pt b21 #[.int .u64 x2.Keep, .int .i64 x2.Tear] 34] ++ F0) rfl rfl rfl rfl rfl rfl rfl (by kernel_rfl) (perm_of_pulls [0, 0, 1, 1] rfl) (c_disk_Disk_Write _ x84 r106 (⟨l85, l89, x92, x93, x94, (⟨x95, x96⟩ : disk_Fall), x97, x98⟩ : disk_Disk) p86 c87 b91 r23_b2 r108 h109) ?_)
              rintro _ _ ⟨r108_p1, r108_c2, r108_b4, rfl, rfl⟩
              refine nw_H (H' := [imm I, pt r23_b2 #[.slice r108_p1 r108.2.sure_.length r108_c2, .map (some r108_b4), .bool r108.2.off_, .bool r108.2.armed_, .int .i64 r108.2.left_, .int .u64 r108.2.fall_.Keep, .int .i64 r108.2.fall_.Tear, .int .i64 r108.2.acts_, .int .i64 r108.2.falls_] 43, own e_disk_sector 51 r108_p1 r108_c2 r108.2.sure_, mpo (kInt .i64) (fun x : disk_sector => Value.agg #[.string x.s_, .int .i64 x.at_]) r108_b4 r108.2.wait_, pt b21 #[.int .u64 x2.Keep, .int .i64 x2.Tear] 34] ++ F0) rfl (nw_ow ?_)
              refine ow_vals 1 (j := 9) [0, 1, 5, 7, 10, 67] [(0, .slice p0 x0.length c0), (1, .slice p1 x1.length c1), (5, .pointer (some ⟨b21, 0, none⟩)), (7, .pointer (some ⟨r23_b2, 0, none⟩)), (10, .int .i64 x84), (67, .bool (r108.1 != 0))] rfl (by kernel_rfl) ?_
              refine ow_end rfl ?_
              refine ew_then ?_
              rcases if_some hF with ⟨h112, hF⟩ | ⟨h112, hF⟩
              · refine cw_cond_t rfl rfl h112 ?_
                refine cw_seq ?_
                refine cw_region ?_
                refine ow_vals 1 (j := 1) [6] [(6, .bool false)] rfl (by kernel_rfl) ?_
                refine ow_end rfl ?_
                refine ew_then ?_
                refine cw_ret ?_
                refine ew_blk_ret ?_
                refine ew_then_ret ?_
                refine ew_then_ret ?_
                refine ew_blk_ret ?_
                refine ew_then_ret ?_
                have hR := Option.some.inj hF
                subst hR
                have hR := hL83
                try dsimp only at hR
                subst hR
                have hR := hK82
                try dsimp only [Thru] at hR
                subst hR
                exact fin1 (H1 := [imm I]) (fun w hs => sat_to [1, 1, 1, 1, 0] 4 rfl hs) rfl (rr_tmp rfl) ⟨rfl, rfl⟩
              · refine cw_cond_f rfl rfl h112 ?_
                refine cw_skip ?_
                refine ew_blk ?_
                refine ew_then ?_
                refine cw_region ?_
                refine ow_vals 3 (j := 3) [0, 1, 5, 7, 10] [(0, .slice p0 x0.length c0), (1, .slice p1 x1.length c1), (5, .pointer (some ⟨b21, 0, none⟩)), (7, .pointer (some ⟨r23_b2, 0, none⟩)), (10, .int .i64 (IntKind.i64.wrap (x84 + 1)))] rfl (by kernel_rfl) ?_
                refine ow_end rfl ?_
                have hR := Option.some.inj hF
                subst hR
                have hR := hL83
                try dsimp only at hR
                exact fun a w hf hs => ⟨k, Nat.lt_succ_self k, IntKind.i64.wrap (x84 + 1), r108.2.sure_, r108.2.wait_, r108.2.off_, r108.2.armed_, r108.2.left_, r108.2.fall_.Keep, r108.2.fall_.Tear, r108.2.acts_, r108.2.falls_, r108_p1, r108_c2, r108_b4, hR, hf.keep [0, 1, 5, 7, 10], sat_to [0, 0, 2, 0, 0] 0 rfl hs⟩
          · rintro a w ⟨l113, l117, x120, x121, x122, x123, x124, x125, x126, p114, c115, b119, hv, hf, hs⟩
            subst hv
            replace hF := hK82
            clear hK82
            try dsimp only [Thru] at hF
            revert a w
            show CW _ _ _ 138 [(0, .slice p0 x0.length c0), (1, .slice p1 x1.length c1), (5, .pointer (some ⟨b21, 0, none⟩)), (7, .pointer (some ⟨r23_b2, 0, none⟩))] (SAT w0 ([imm I, pt r23_b2 #[.slice p114 l113.length c115, .map (some b119), .bool x120, .bool x121, .int .i64 x122, .int .u64 x123, .int .i64 x124, .int .i64 x125, .int .i64 x126] 43, pt b21 #[.int .u64 x2.Keep, .int .i64 x2.Tear] 34, own e_disk_sector 51 p114 c115 l113, mpo (kInt .i64) (fun x : disk_sector => Value.agg #[.string x.s_, .int .i64 x.at_]) b119 l117] ++ F0))
            unfold F.law09_DiskLasts.r7 at hF
            obtain ⟨v127, hF, hK127⟩ := thru_some hF
            refine cw_mid (fun a w => ∃ (l138 : List disk_sector), ∃ (l142 : List (Int × disk_sector)), ∃ (x145 : Bool), ∃ (x146 : Bool), ∃ (x147 : Int), ∃ (x148 : Int), ∃ (x149 : Int), ∃ (x150 : Int), ∃ (x151 : Int), ∃ (p139 : Option Addr), ∃ (c140 : Nat), ∃ (b144 : Nat), .inl (l138, l142, x145, x146, x147, x148, x149, x150, x151) = v127 ∧ Fr 138 [(0, .slice p0 x0.length c0), (1, .slice p1 x1.length c1), (5, .pointer (some ⟨b21, 0, none⟩)), (7, .pointer (some ⟨r23_b2, 0, none⟩))] a ∧ SAT w0 ([imm I, pt r23_b2 #[.slice p139 l138.length c140, .map (some b144), .bool x145, .bool x146, .int .i64 x147, .int .u64 x148, .int .i64 x149, .int .i64 x150, .int .i64 x151] 43, pt b21 #[.int .u64 x2.Keep, .int .i64 x2.Tear] 34, own e_disk_sector 51 p139 c140 l138, mpo (kInt .i64) (fun x : disk_sector => Value.agg #[.string x.s_, .int .i64 x.at_]) b144 l142] ++ F0) w) ?_ ?_
            · refine cw_seq ?_
              refine cw_region ?_
              refine ow_vals 1 (j := 1) [0, 1, 5, 7, 68] [(0, .slice p0 x0.length c0), (1, .slice p1 x1.length c1), (5, .pointer (some ⟨b21, 0, none⟩)), (7, .pointer (some ⟨r23_b2, 0, none⟩)), (68, .pointer (some ⟨r23_b2, 0, none⟩))] rfl (by kernel_rfl) ?_
              refine ow_pw rfl (pw_quiet (v := .agg #[.int .u64 x2.Keep, .int .i64 x2.Tear]) rfl rfl rfl rfl (q_load 2 rfl rfl rfl (by kernel_rfl)) (nw_ow ?_))
              obtain ⟨r128, h129, hF⟩ := bind_some hF
              refine ow_pw rfl (pw_call (F := [pt b21 #[.int .u64 x2.Keep, .int .i64 x2.Tear] 34] ++ F0) rfl rfl rfl rfl rfl rfl rfl (by kernel_rfl) (perm_of_pulls [0, 0, 1, 1] rfl) (c_disk_Disk_Crash _ x2 (⟨l113, l117, x120, x121, x122, (⟨x123, x124⟩ : disk_Fall), x125, x126⟩ : disk_Disk) p114 c115 b119 r23_b2 r128 h129) ?_)
              rintro _ _ ⟨r128_p1, r128_c2, r128_b4, rfl, rfl⟩
              refine nw_H (H' := [imm I, pt r23_b2 #[.slice r128_p1 r128.2.sure_.length r128_c2, .map (some r128_b4), .bool r128.2.off_, .bool r128.2.armed_, .int .i64 r128.2.left_, .int .u64 r128.2.fall_.Keep, .int .i64 r128.2.fall_.Tear, .int .i64 r128.2.acts_, .int .i64 r128.2.falls_] 43, own e_disk_sector 51 r128_p1 r128_c2 r128.2.sure_, mpo (kInt .i64) (fun x : disk_sector => Value.agg #[.string x.s_, .int .i64 x.at_]) r128_b4 r128.2.wait_, pt b21 #[.int .u64 x2.Keep, .int .i64 x2.Tear] 34] ++ F0) rfl (nw_ow ?_)
              refine ow_vals 2 (j := 5) [0, 1, 5, 7, 72] [(0, .slice p0 x0.length c0), (1, .slice p1 x1.length c1), (5, .pointer (some ⟨b21, 0, none⟩)), (7, .pointer (some ⟨r23_b2, 0, none⟩)), (72, .bool (r128.1 != 0))] rfl (by kernel_rfl) ?_
              rcases if_some hF with ⟨h132, hF⟩ | ⟨h132, hF⟩
              · refine ow_slots (L' := [(0, .slice p0 x0.length c0), (1, .slice p1 x1.length c1), (5, .pointer (some ⟨b21, 0, none⟩)), (7, .pointer (some ⟨r23_b2, 0, none⟩)), (72, .bool true)]) (by rw [h132]) ?_
                refine ow_vals 4 (j := 9) [0, 1, 5, 7, 76] [(0, .slice p0 x0.length c0), (1, .slice p1 x1.length c1), (5, .pointer (some ⟨b21, 0, none⟩)), (7, .pointer (some ⟨r23_b2, 0, none⟩)), (76, .bool true)] rfl (by kernel_rfl) ?_
                refine ow_end rfl ?_
                refine ew_then ?_
                refine cw_cond_t rfl rfl rfl ?_
                refine cw_seq ?_
                refine cw_region ?_
                refine ow_vals 1 (j := 1) [6] [(6, .bool false)] rfl (by kernel_rfl) ?_
                refine ow_end rfl ?_
                refine ew_then ?_
                refine cw_ret ?_
                refine ew_then_ret ?_
                have hR := Option.some.inj hF
                subst hR
                have hR := hK127
                try dsimp only [Thru] at hR
                subst hR
                exact fin1 (H1 := [imm I]) (fun w hs => sat_to [1, 1, 1, 1, 0] 4 rfl hs) rfl (rr_tmp rfl) ⟨rfl, rfl⟩
              · refine ow_slots (L' := [(0, .slice p0 x0.length c0), (1, .slice p1 x1.length c1), (5, .pointer (some ⟨b21, 0, none⟩)), (7, .pointer (some ⟨r23_b2, 0, none⟩)), (72, .bool false)]) (by rw [h132]) ?_
                refine ow_vals 1 (j := 6) [0, 1, 5, 7, 72, 73] [(0, .slice p0 x0.length c0), (1, .slice p1 x1.length c1), (5, .pointer (some ⟨b21, 0, none⟩)), (7, .pointer (some ⟨r23_b2, 0, none⟩)), (72, .bool false), (73, .pointer (some ⟨r23_b2, 0, none⟩))] rfl (by kernel_rfl) ?_
                obtain ⟨r133, h134, hF⟩ := bind_some hF
                refine ow_pw rfl (pw_call (F := [pt b21 #[.int .u64 x2.Keep, .int .i64 x2.Tear] 34] ++ F0) rfl rfl rfl rfl rfl rfl rfl (by kernel_rfl) (perm_of_pulls [0, 0, 0, 0] rfl) (c_disk_Disk_Start _ r128.2 r128_p1 r128_c2 r128_b4 r23_b2 r133 h134) ?_)
                rintro _ _ ⟨r133_p1, r133_c2, r133_b4, rfl, rfl⟩
                refine nw_H (H' := [imm I, pt r23_b2 #[.slice r133_p1 r133.2.sure_.length r133_c2, .map (some r133_b4), .bool r133.2.off_, .bool r133.2.armed_, .int .i64 r133.2.left_, .int .u64 r133.2.fall_.Keep, .int .i64 r133.2.fall_.Tear, .int .i64 r133.2.acts_, .int .i64 r133.2.falls_] 43, own e_disk_sector 51 r133_p1 r133_c2 r133.2.sure_, mpo (kInt .i64) (fun x : disk_sector => Value.agg #[.string x.s_, .int .i64 x.at_]) r133_b4 r133.2.wait_, pt b21 #[.int .u64 x2.Keep, .int .i64 x2.Tear] 34] ++ F0) rfl (nw_ow ?_)
                refine ow_vals 2 (j := 9) [0, 1, 5, 7, 76] [(0, .slice p0 x0.length c0), (1, .slice p1 x1.length c1), (5, .pointer (some ⟨b21, 0, none⟩)), (7, .pointer (some ⟨r23_b2, 0, none⟩)), (76, .bool (r133.1 != 0))] rfl (by kernel_rfl) ?_
                refine ow_end rfl ?_
                refine ew_then ?_
                rcases if_some hF with ⟨h137, hF⟩ | ⟨h137, hF⟩
                · refine cw_cond_t rfl rfl h137 ?_
                  refine cw_seq ?_
                  refine cw_region ?_
                  refine ow_vals 1 (j := 1) [6] [(6, .bool false)] rfl (by kernel_rfl) ?_
                  refine ow_end rfl ?_
                  refine ew_then ?_
                  refine cw_ret ?_
                  refine ew_then_ret ?_
                  have hR := Option.some.inj hF
                  subst hR
                  have hR := hK127
                  try dsimp only [Thru] at hR
                  subst hR
                  exact fin1 (H1 := [imm I]) (fun w hs => sat_to [1, 1, 1, 1, 0] 4 rfl hs) rfl (rr_tmp rfl) ⟨rfl, rfl⟩
                · refine cw_cond_f rfl rfl h137 ?_
                  refine cw_skip ?_
                  have hR := Option.some.inj hF
                  exact fun a w hf hs => ⟨r133.2.sure_, r133.2.wait_, r133.2.off_, r133.2.armed_, r133.2.left_, r133.2.fall_.Keep, r133.2.fall_.Tear, r133.2.acts_, r133.2.falls_, r133_p1, r133_c2, r133_b4, hR, hf.keep [0, 1, 5, 7], sat_to [0, 0, 2, 0, 0] 0 rfl hs⟩
            · rintro a w ⟨l138, l142, x145, x146, x147, x148, x149, x150, x151, p139, c140, b144, hv, hf, hs⟩
              subst hv
              replace hF := hK127
              clear hK127
              try dsimp only [Thru] at hF
              revert a w
              show CW _ _ _ 138 [(0, .slice p0 x0.length c0), (1, .slice p1 x1.length c1), (5, .pointer (some ⟨b21, 0, none⟩)), (7, .pointer (some ⟨r23_b2, 0, none⟩))] (SAT w0 ([imm I, pt r23_b2 #[.slice p139 l138.length c140, .map (some b144), .bool x145, .bool x146, .int .i64 x147, .int .u64 x148, .int .i64 x149, .int .i64 x150, .int .i64 x151] 43, pt b21 #[.int .u64 x2.Keep, .int .i64 x2.Tear] 34, own e_disk_sector 51 p139 c140 l138, mpo (kInt .i64) (fun x : disk_sector => Value.agg #[.string x.s_, .int .i64 x.at_]) b144 l142] ++ F0))
              unfold F.law09_DiskLasts.r8 at hF
              refine cw_seq ?_
              refine cw_region ?_
              refine ow_vals 1 (j := 1) [0, 1, 5, 7, 11] [(0, .slice p0 x0.length c0), (1, .slice p1 x1.length c1), (5, .pointer (some ⟨b21, 0, none⟩)), (7, .pointer (some ⟨r23_b2, 0, none⟩)), (11, .int .i64 0)] rfl (by kernel_rfl) ?_
              refine ow_end rfl ?_
              refine ew_then ?_
              obtain ⟨v152, hF, hK152⟩ := thru_some hF
              refine cw_mid (fun a w => ∃ (x197 : Int), ∃ (l198 : List disk_sector), ∃ (l202 : List (Int × disk_sector)), ∃ (x204 : Bool), ∃ (x205 : Bool), ∃ (x206 : Int), ∃ (x207 : Int), ∃ (x208 : Int), ∃ (x209 : Int), ∃ (x210 : Int), ∃ (p199 : Option Addr), ∃ (c200 : Nat), .inl (x197, l198, l202, x204, x205, x206, x207, x208, x209, x210) = v152 ∧ Fr 138 [(5, .pointer (some ⟨b21, 0, none⟩)), (11, .int .i64 x197)] a ∧ SAT w0 ([imm I, pt r23_b2 #[.slice p199 l198.length c200, .map (some b144), .bool x204, .bool x205, .int .i64 x206, .int .u64 x207, .int .i64 x208, .int .i64 x209, .int .i64 x210] 43, pt b21 #[.int .u64 x2.Keep, .int .i64 x2.Tear] 34, own e_disk_sector 51 p199 c200 l198, mpo (kInt .i64) (fun x : disk_sector => Value.agg #[.string x.s_, .int .i64 x.at_]) b144 l202] ++ F0) w) ?_ ?_
              · refine cw_seq ?_
                refine cw_region ?_
                refine ow_vals 1 (j := 1) [0, 1, 5, 7, 11, 12] [(0, .slice p0 x0.length c0), (1, .slice p1 x1.length c1), (5, .pointer (some ⟨b21, 0, none⟩)), (7, .pointer (some ⟨r23_b2, 0, none⟩)), (11, .int .i64 0), (12, .int .i64 0)] rfl (by kernel_rfl) ?_
                refine ow_end rfl ?_
                refine ew_then ?_
                refine cw_block ?_
                refine fun a w hf hs => wp_rounds (fun k a w => ∃ (x154 : Int), ∃ (x155 : Int), ∃ (l156 : List disk_sector), ∃ (l160 : List (Int × disk_sector)), ∃ (x162 : Bool), ∃ (x163 : Bool), ∃ (x164 : Int), ∃ (x165 : Int), ∃ (x166 : Int), ∃ (x167 : Int), ∃ (x168 : Int), ∃ (p157 : Option Addr), ∃ (c158 : Nat), iter (fun x => F.law09_DiskLasts.l12 x0 x1 x.1 x.2.1 x.2.2.1 x.2.2.2.1 x.2.2.2.2.1 x.2.2.2.2.2.1 x.2.2.2.2.2.2.1 x.2.2.2.2.2.2.2.1 x.2.2.2.2.2.2.2.2.1 x.2.2.2.2.2.2.2.2.2.1 x.2.2.2.2.2.2.2.2.2.2) k (x154, x155, l156, l160, x162, x163, x164, x165, x166, x167, x168) = some v152 ∧ Fr 138 [(0, .slice p0 x0.length c0), (1, .slice p1 x1.length c1), (5, .pointer (some ⟨b21, 0, none⟩)), (7, .pointer (some ⟨r23_b2, 0, none⟩)), (11, .int .i64 x154), (12, .int .i64 x155)] a ∧ SAT w0 ([imm I, pt r23_b2 #[.slice p157 l156.length c158, .map (some b144), .bool x162, .bool x163, .int .i64 x164, .int .u64 x165, .int .i64 x166, .int .i64 x167, .int .i64 x168] 43, pt b21 #[.int .u64 x2.Keep, .int .i64 x2.Tear] 34, own e_disk_sector 51 p157 c158 l156, mpo (kInt .i64) (fun x : disk_sector => Value.agg #[.string x.s_, .int .i64 x.at_]) b144 l160] ++ F0) w) ?_ FUEL a w ⟨0, 0, l138, l142, x145, x146, x147, x148, x149, x150, x151, p139, c140, hF, hf.keep [0, 1, 5, 7, 11, 12], sat_to [0, 0, 0, 0, 0] 0 rfl hs⟩
                clear hf hs
                clear a w hF
                rintro k a w ⟨x154, x155, l156, l160, x162, x163, x164, x165, x166, x167, x168, p157, c158, hF2, hf, hs⟩
                obtain ⟨k, r153, rfl, hF, hL153⟩ := iter_some hF2
                clear hF2
                revert a w
                show CW _ _ _ 138 [(0, .slice p0 x0.length c0), (1, .slice p1 x1.length c1), (5, .pointer (some ⟨b21, 0, none⟩)), (7, .pointer (some ⟨r23_b2, 0, none⟩)), (11, .int .i64 x154), (12, .int .i64 x155)] (SAT w0 ([imm I, pt r23_b2 #[.slice p157 l156.length c158, .map (some b144), .bool x162, .bool x163, .int .i64 x164, .int .u64 x165, .int .i64 x166, .int .i64 x167, .int .i64 x168] 43, pt b21 #[.int .u64 x2.Keep, .int .i64 x2.Tear] 34, own e_disk_sector 51 p157 c158 l156, mpo (kInt .i64) (fun x : disk_sector => Value.agg #[.string x.s_, .int .i64 x.at_]) b144 l160] ++ F0))
                try dsimp only at hF
                unfold F.law09_DiskLasts.l12 at hF
                refine cw_seq ?_
                refine cw_seq ?_
                refine cw_region ?_
                refine ow_vals 2 (j := 2) [0, 1, 5, 7, 11, 12, 78] [(0, .slice p0 x0.length c0), (1, .slice p1 x1.length c1), (5, .pointer (some ⟨b21, 0, none⟩)), (7, .pointer (some ⟨r23_b2, 0, none⟩)), (11, .int .i64 x154), (12, .int .i64 x155), (78, .bool (decide (x155 < 20)))] rfl (by kernel_rfl) ?_
                refine ow_end rfl ?_
                refine ew_then ?_
                rcases if_some hF with ⟨h169, hF⟩ | ⟨h169, hF⟩
                · refine cw_cond_t rfl rfl h169 ?_
                  refine cw_skip ?_
                  refine ew_then ?_
                  refine cw_seq ?_
                  refine cw_block ?_
                  refine cw_seq ?_
                  refine cw_region ?_
                  refine ow_vals 2 (j := 2) [0, 1, 5, 7, 11, 12, 82, 83] [(0, .slice p0 x0.length c0), (1, .slice p1 x1.length c1), (5, .pointer (some ⟨b21, 0, none⟩)), (7, .pointer (some ⟨r23_b2, 0, none⟩)), (11, .int .i64 x154), (12, .int .i64 x155), (82, .pointer (some ⟨r23_b2, 0, none⟩)), (83, .int .i64 x155)] rfl (by kernel_rfl) ?_
                  obtain ⟨r170, h171, hF⟩ := bind_some hF
                  refine ow_pw rfl (pw_call (F := [pt b21 #[.int .u64 x2.Keep, .int .i64 x2.Tear] 34] ++ F0) rfl rfl rfl rfl rfl rfl rfl (by kernel_rfl) (perm_of_pulls [0, 0, 1, 1] rfl) (c_disk_Disk_Read _ x155 (⟨l156, l160, x162, x163, x164, (⟨x165, x166⟩ : disk_Fall), x167, x168⟩ : disk_Disk) p157 c158 b144 r23_b2 r170 h171) ?_)
                  rintro _ _ ⟨rfl, rfl⟩
                  refine nw_H (H' := [imm I, pt r23_b2 #[.slice p157 ((⟨l156, l160, x162, x163, x164, (⟨x165, x166⟩ : disk_Fall), x167, x168⟩ : disk_Disk).sure_).length c158, .map (some b144), .bool ((⟨l156, l160, x162, x163, x164, (⟨x165, x166⟩ : disk_Fall), x167, x168⟩ : disk_Disk).off_), .bool ((⟨l156, l160, x162, x163, x164, (⟨x165, x166⟩ : disk_Fall), x167, x168⟩ : disk_Disk).armed_), .int .i64 ((⟨l156, l160, x162, x163, x164, (⟨x165, x166⟩ : disk_Fall), x167, x168⟩ : disk_Disk).left_), .int .u64 ((⟨l156, l160, x162, x163, x164, (⟨x165, x166⟩ : disk_Fall), x167, x168⟩ : disk_Disk).fall_.Keep), .int .i64 ((⟨l156, l160, x162, x163, x164, (⟨x165, x166⟩ : disk_Fall), x167, x168⟩ : disk_Disk).fall_.Tear), .int .i64 ((⟨l156, l160, x162, x163, x164, (⟨x165, x166⟩ : disk_Fall), x167, x168⟩ : disk_Disk).acts_), .int .i64 ((⟨l156, l160, x162, x163, x164, (⟨x165, x166⟩ : disk_Fall), x167, x168⟩ : disk_Disk).falls_)] 43, own e_disk_sector 51 p157 c158 ((⟨l156, l160, x162, x163, x164, (⟨x165, x166⟩ : disk_Fall), x167, x168⟩ : disk_Disk).sure_), mpo (kInt .i64) (fun x : disk_sector => Value.agg #[.string x.s_, .int .i64 x.at_]) b144 ((⟨l156, l160, x162, x163, x164, (⟨x165, x166⟩ : disk_Fall), x167, x168⟩ : disk_Disk).wait_), pt b21 #[.int .u64 x2.Keep, .int .i64 x2.Tear] 34] ++ F0) rfl (nw_ow ?_)
                  refine ow_vals 5 (j := 8) [0, 1, 5, 7, 11, 12, 13, 14] [(0, .slice p0 x0.length c0), (1, .slice p1 x1.length c1), (5, .pointer (some ⟨b21, 0, none⟩)), (7, .pointer (some ⟨r23_b2, 0, none⟩)), (11, .int .i64 x154), (12, .int .i64 x155), (13, .string r170.1), (14, .int .i64 r170.2)] rfl (by kernel_rfl) ?_
                  refine ow_end rfl ?_
                  refine ew_then ?_
                  refine cw_seq ?_
                  refine cw_region ?_
                  obtain ⟨r172, h173, hF⟩ := bind_some hF
                  refine ow_pw rfl (pw_call (F := [pt r23_b2 #[.slice p157 ((⟨l156, l160, x162, x163, x164, (⟨x165, x166⟩ : disk_Fall), x167, x168⟩ : disk_Disk).sure_).length c158, .map (some b144), .bool ((⟨l156, l160, x162, x163, x164, (⟨x165, x166⟩ : disk_Fall), x167, x168⟩ : disk_Disk).off_), .bool ((⟨l156, l160, x162, x163, x164, (⟨x165, x166⟩ : disk_Fall), x167, x168⟩ : disk_Disk).armed_), .int .i64 ((⟨l156, l160, x162, x163, x164, (⟨x165, x166⟩ : disk_Fall), x167, x168⟩ : disk_Disk).left_), .int .u64 ((⟨l156, l160, x162, x163, x164, (⟨x165, x166⟩ : disk_Fall), x167, x168⟩ : disk_Disk).fall_.Keep), .int .i64 ((⟨l156, l160, x162, x163, x164, (⟨x165, x166⟩ : disk_Fall), x167, x168⟩ : disk_Disk).fall_.Tear), .int .i64 ((⟨l156, l160, x162, x163, x164, (⟨x165, x166⟩ : disk_Fall), x167, x168⟩ : disk_Disk).acts_), .int .i64 ((⟨l156, l160, x162, x163, x164, (⟨x165, x166⟩ : disk_Fall), x167, x168⟩ : disk_Disk).falls_)] 43, own e_disk_sector 51 p157 c158 ((⟨l156, l160, x162, x163, x164, (⟨x165, x166⟩ : disk_Fall), x167, x168⟩ : disk_Disk).sure_), mpo (kInt .i64) (fun x : disk_sector => Value.agg #[.string x.s_, .int .i64 x.at_]) b144 ((⟨l156, l160, x162, x163, x164, (⟨x165, x166⟩ : disk_Fall), x167, x168⟩ : disk_Disk).wait_), pt b21 #[.int .u64 x2.Keep, .int .i64 x2.Tear] 34] ++ F0) rfl rfl rfl rfl rfl rfl rfl (by kernel_rfl) (perm_of_pulls [0] rfl) (c_law09_fill _ 0 64 r172 h173) ?_)
                  rintro _ _ ⟨rfl, rfl⟩
                  refine nw_H (H' := [imm I, pt r23_b2 #[.slice p157 ((⟨l156, l160, x162, x163, x164, (⟨x165, x166⟩ : disk_Fall), x167, x168⟩ : disk_Disk).sure_).length c158, .map (some b144), .bool ((⟨l156, l160, x162, x163, x164, (⟨x165, x166⟩ : disk_Fall), x167, x168⟩ : disk_Disk).off_), .bool ((⟨l156, l160, x162, x163, x164, (⟨x165, x166⟩ : disk_Fall), x167, x168⟩ : disk_Disk).armed_), .int .i64 ((⟨l156, l160, x162, x163, x164, (⟨x165, x166⟩ : disk_Fall), x167, x168⟩ : disk_Disk).left_), .int .u64 ((⟨l156, l160, x162, x163, x164, (⟨x165, x166⟩ : disk_Fall), x167, x168⟩ : disk_Disk).fall_.Keep), .int .i64 ((⟨l156, l160, x162, x163, x164, (⟨x165, x166⟩ : disk_Fall), x167, x168⟩ : disk_Disk).fall_.Tear), .int .i64 ((⟨l156, l160, x162, x163, x164, (⟨x165, x166⟩ : disk_Fall), x167, x168⟩ : disk_Disk).acts_), .int .i64 ((⟨l156, l160, x162, x163, x164, (⟨x165, x166⟩ : disk_Fall), x167, x168⟩ : disk_Disk).falls_)] 43, own e_disk_sector 51 p157 c158 ((⟨l156, l160, x162, x163, x164, (⟨x165, x166⟩ : disk_Fall), x167, x168⟩ : disk_Disk).sure_), mpo (kInt .i64) (fun x : disk_sector => Value.agg #[.string x.s_, .int .i64 x.at_]) b144 ((⟨l156, l160, x162, x163, x164, (⟨x165, x166⟩ : disk_Fall), x167, x168⟩ : disk_Disk).wait_), pt b21 #[.int .u64 x2.Keep, .int .i64 x2.Tear] 34] ++ F0) rfl (nw_ow ?_)
                  refine ow_vals 1 (j := 2) [0, 1, 5, 7, 11, 12, 13, 14, 15] [(0, .slice p0 x0.length c0), (1, .slice p1 x1.length c1), (5, .pointer (some ⟨b21, 0, none⟩)), (7, .pointer (some ⟨r23_b2, 0, none⟩)), (11, .int .i64 x154), (12, .int .i64 x155), (13, .string r170.1), (14, .int .i64 r170.2), (15, .string r172)] rfl (by kernel_rfl) ?_
                  refine ow_end rfl ?_
                  refine ew_then ?_
                  obtain ⟨v174, hF, hK174⟩ := bind_some hF
                  refine cw_mid (fun a w => ∃ (s182 : ByteArray), s182 = v174 ∧ Fr 138 [(0, .slice p0 x0.length c0), (1, .slice p1 x1.length c1), (5, .pointer (some ⟨b21, 0, none⟩)), (7, .pointer (some ⟨r23_b2, 0, none⟩)), (11, .int .i64 x154), (12, .int .i64 x155), (13, .string r170.1), (14, .int .i64 r170.2), (15, .string s182)] a ∧ SAT w0 ([imm I, pt r23_b2 #[.slice p157 ((⟨l156, l160, x162, x163, x164, (⟨x165, x166⟩ : disk_Fall), x167, x168⟩ : disk_Disk).sure_).length c158, .map (some b144), .bool ((⟨l156, l160, x162, x163, x164, (⟨x165, x166⟩ : disk_Fall), x167, x168⟩ : disk_Disk).off_), .bool ((⟨l156, l160, x162, x163, x164, (⟨x165, x166⟩ : disk_Fall), x167, x168⟩ : disk_Disk).armed_), .int .i64 ((⟨l156, l160, x162, x163, x164, (⟨x165, x166⟩ : disk_Fall), x167, x168⟩ : disk_Disk).left_), .int .u64 ((⟨l156, l160, x162, x163, x164, (⟨x165, x166⟩ : disk_Fall), x167, x168⟩ : disk_Disk).fall_.Keep), .int .i64 ((⟨l156, l160, x162, x163, x164, (⟨x165, x166⟩ : disk_Fall), x167, x168⟩ : disk_Disk).fall_.Tear), .int .i64 ((⟨l156, l160, x162, x163, x164, (⟨x165, x166⟩ : disk_Fall), x167, x168⟩ : disk_Disk).acts_), .int .i64 ((⟨l156, l160, x162, x163, x164, (⟨x165, x166⟩ : disk_Fall), x167, x168⟩ : disk_Disk).falls_)] 43, pt b21 #[.int .u64 x2.Keep, .int .i64 x2.Tear] 34, own e_disk_sector 51 p157 c158 ((⟨l156, l160, x162, x163, x164, (⟨x165, x166⟩ : disk_Fall), x167, x168⟩ : disk_Disk).sure_), mpo (kInt .i64) (fun x : disk_sector => Value.agg #[.string x.s_, .int .i64 x.at_]) b144 ((⟨l156, l160, x162, x163, x164, (⟨x165, x166⟩ : disk_Fall), x167, x168⟩ : disk_Disk).wait_)] ++ F0) w) ?_ ?_
                  · refine cw_seq ?_
                    refine cw_region ?_
                    refine ow_vals 4 (j := 4) [0, 1, 5, 7, 11, 12, 13, 14, 15, 91] [(0, .slice p0 x0.length c0), (1, .slice p1 x1.length c1), (5, .pointer (some ⟨b21, 0, none⟩)), (7, .pointer (some ⟨r23_b2, 0, none⟩)), (11, .int .i64 x154), (12, .int .i64 x155), (13, .string r170.1), (14, .int .i64 r170.2), (15, .string r172), (91, .bool (decide (x155 < (x0.length : Int))))] rfl (by kernel_rfl) ?_
                    refine ow_end rfl ?_
                    refine ew_then ?_
                    rcases if_some hF with ⟨h175, hF⟩ | ⟨h175, hF⟩
                    · refine cw_cond_t rfl rfl h175 ?_
                      refine cw_region ?_
                      refine ow_vals 2 (j := 2) [0, 1, 5, 7, 11, 12, 13, 14, 92, 93] [(0, .slice p0 x0.length c0), (1, .slice p1 x1.length c1), (5, .pointer (some ⟨b21, 0, none⟩)), (7, .pointer (some ⟨r23_b2, 0, none⟩)), (11, .int .i64 x154), (12, .int .i64 x155), (13, .string r170.1), (14, .int .i64 r170.2), (92, .slice p0 x0.length c0), (93, .int .i64 x155)] rfl (by kernel_rfl) ?_
                      obtain ⟨y176, h177, hF⟩ := bind_some hF
                      refine ow_pw rfl (pw_index_ro (E := 5) 1 hr0 rfl rfl rfl rfl rfl (by kernel_rfl) rfl rfl rfl h177 fun q178 h179 => nw_ow ?_)
                      refine ow_pw rfl (pw_quiet (v := .int .u8 y176) rfl rfl rfl rfl (q_load_el0 0 rfl h179 rfl rfl (by kernel_rfl)) (nw_ow ?_))
                      obtain ⟨r180, h181, hF⟩ := bind_some hF
                      refine ow_pw rfl (pw_call (F := [pt r23_b2 #[.slice p157 ((⟨l156, l160, x162, x163, x164, (⟨x165, x166⟩ : disk_Fall), x167, x168⟩ : disk_Disk).sure_).length c158, .map (some b144), .bool ((⟨l156, l160, x162, x163, x164, (⟨x165, x166⟩ : disk_Fall), x167, x168⟩ : disk_Disk).off_), .bool ((⟨l156, l160, x162, x163, x164, (⟨x165, x166⟩ : disk_Fall), x167, x168⟩ : disk_Disk).armed_), .int .i64 ((⟨l156, l160, x162, x163, x164, (⟨x165, x166⟩ : disk_Fall), x167, x168⟩ : disk_Disk).left_), .int .u64 ((⟨l156, l160, x162, x163, x164, (⟨x165, x166⟩ : disk_Fall), x167, x168⟩ : disk_Disk).fall_.Keep), .int .i64 ((⟨l156, l160, x162, x163, x164, (⟨x165, x166⟩ : disk_Fall), x167, x168⟩ : disk_Disk).fall_.Tear), .int .i64 ((⟨l156, l160, x162, x163, x164, (⟨x165, x166⟩ : disk_Fall), x167, x168⟩ : disk_Disk).acts_), .int .i64 ((⟨l156, l160, x162, x163, x164, (⟨x165, x166⟩ : disk_Fall), x167, x168⟩ : disk_Disk).falls_)] 43, own e_disk_sector 51 p157 c158 ((⟨l156, l160, x162, x163, x164, (⟨x165, x166⟩ : disk_Fall), x167, x168⟩ : disk_Disk).sure_), mpo (kInt .i64) (fun x : disk_sector => Value.agg #[.string x.s_, .int .i64 x.at_]) b144 ((⟨l156, l160, x162, x163, x164, (⟨x165, x166⟩ : disk_Fall), x167, x168⟩ : disk_Disk).wait_), pt b21 #[.int .u64 x2.Keep, .int .i64 x2.Tear] 34] ++ F0) rfl rfl rfl rfl rfl rfl rfl (by kernel_rfl) (perm_of_pulls [0] rfl) (c_law09_fill _ y176 64 r180 h181) ?_)
                      rintro _ _ ⟨rfl, rfl⟩
                      refine nw_H (H' := [imm I, pt r23_b2 #[.slice p157 ((⟨l156, l160, x162, x163, x164, (⟨x165, x166⟩ : disk_Fall), x167, x168⟩ : disk_Disk).sure_).length c158, .map (some b144), .bool ((⟨l156, l160, x162, x163, x164, (⟨x165, x166⟩ : disk_Fall), x167, x168⟩ : disk_Disk).off_), .bool ((⟨l156, l160, x162, x163, x164, (⟨x165, x166⟩ : disk_Fall), x167, x168⟩ : disk_Disk).armed_), .int .i64 ((⟨l156, l160, x162, x163, x164, (⟨x165, x166⟩ : disk_Fall), x167, x168⟩ : disk_Disk).left_), .int .u64 ((⟨l156, l160, x162, x163, x164, (⟨x165, x166⟩ : disk_Fall), x167, x168⟩ : disk_Disk).fall_.Keep), .int .i64 ((⟨l156, l160, x162, x163, x164, (⟨x165, x166⟩ : disk_Fall), x167, x168⟩ : disk_Disk).fall_.Tear), .int .i64 ((⟨l156, l160, x162, x163, x164, (⟨x165, x166⟩ : disk_Fall), x167, x168⟩ : disk_Disk).acts_), .int .i64 ((⟨l156, l160, x162, x163, x164, (⟨x165, x166⟩ : disk_Fall), x167, x168⟩ : disk_Disk).falls_)] 43, own e_disk_sector 51 p157 c158 ((⟨l156, l160, x162, x163, x164, (⟨x165, x166⟩ : disk_Fall), x167, x168⟩ : disk_Disk).sure_), mpo (kInt .i64) (fun x : disk_sector => Value.agg #[.string x.s_, .int .i64 x.at_]) b144 ((⟨l156, l160, x162, x163, x164, (⟨x165, x166⟩ : disk_Fall), x167, x168⟩ : disk_Disk).wait_), pt b21 #[.int .u64 x2.Keep, .int .i64 x2.Tear] 34] ++ F0) rfl (nw_ow ?_)
                      refine ow_vals 1 (j := 6) [0, 1, 5, 7, 11, 12, 13, 14, 15] [(0, .slice p0 x0.length c0), (1, .slice p1 x1.length c1), (5, .pointer (some ⟨b21, 0, none⟩)), (7, .pointer (some ⟨r23_b2, 0, none⟩)), (11, .int .i64 x154), (12, .int .i64 x155), (13, .string r170.1), (14, .int .i64 r170.2), (15, .string r180)] rfl (by kernel_rfl) ?_
                      refine ow_end rfl ?_
                      have hR := Option.some.inj hF
                      exact fun a w hf hs => ⟨r180, hR, hf.keep [0, 1, 5, 7, 11, 12, 13, 14, 15], sat_to [0, 0, 2, 0, 0] 0 rfl hs⟩
                    · refine cw_cond_f rfl rfl h175 ?_
                      refine cw_skip ?_
                      have hR := Option.some.inj hF
                      exact fun a w hf hs => ⟨r172, hR, hf.keep [0, 1, 5, 7, 11, 12, 13, 14, 15], sat_to [0, 0, 2, 0, 0] 0 rfl hs⟩
                  · rintro a w ⟨s182, hv, hf, hs⟩
                    subst hv
                    replace hF := hK174
                    clear hK174
                    try dsimp only at hF
                    revert a w
                    show CW _ _ _ 138 [(0, .slice p0 x0.length c0), (1, .slice p1 x1.length c1), (5, .pointer (some ⟨b21, 0, none⟩)), (7, .pointer (some ⟨r23_b2, 0, none⟩)), (11, .int .i64 x154), (12, .int .i64 x155), (13, .string r170.1), (14, .int .i64 r170.2), (15, .string s182)] (SAT w0 ([imm I, pt r23_b2 #[.slice p157 ((⟨l156, l160, x162, x163, x164, (⟨x165, x166⟩ : disk_Fall), x167, x168⟩ : disk_Disk).sure_).length c158, .map (some b144), .bool ((⟨l156, l160, x162, x163, x164, (⟨x165, x166⟩ : disk_Fall), x167, x168⟩ : disk_Disk).off_), .bool ((⟨l156, l160, x162, x163, x164, (⟨x165, x166⟩ : disk_Fall), x167, x168⟩ : disk_Disk).armed_), .int .i64 ((⟨l156, l160, x162, x163, x164, (⟨x165, x166⟩ : disk_Fall), x167, x168⟩ : disk_Disk).left_), .int .u64 ((⟨l156, l160, x162, x163, x164, (⟨x165, x166⟩ : disk_Fall), x167, x168⟩ : disk_Disk).fall_.Keep), .int .i64 ((⟨l156, l160, x162, x163, x164, (⟨x165, x166⟩ : disk_Fall), x167, x168⟩ : disk_Disk).fall_.Tear), .int .i64 ((⟨l156, l160, x162, x163, x164, (⟨x165, x166⟩ : disk_Fall), x167, x168⟩ : disk_Disk).acts_), .int .i64 ((⟨l156, l160, x162, x163, x164, (⟨x165, x166⟩ : disk_Fall), x167, x168⟩ : disk_Disk).falls_)] 43, pt b21 #[.int .u64 x2.Keep, .int .i64 x2.Tear] 34, own e_disk_sector 51 p157 c158 ((⟨l156, l160, x162, x163, x164, (⟨x165, x166⟩ : disk_Fall), x167, x168⟩ : disk_Disk).sure_), mpo (kInt .i64) (fun x : disk_sector => Value.agg #[.string x.s_, .int .i64 x.at_]) b144 ((⟨l156, l160, x162, x163, x164, (⟨x165, x166⟩ : disk_Fall), x167, x168⟩ : disk_Disk).wait_)] ++ F0))
                    unfold F.law09_DiskLasts.r9 at hF
                    refine cw_seq ?_
                    refine cw_region ?_
                    refine ow_vals 2 (j := 2) [0, 1, 5, 7, 11, 12, 13, 14, 15, 16] [(0, .slice p0 x0.length c0), (1, .slice p1 x1.length c1), (5, .pointer (some ⟨b21, 0, none⟩)), (7, .pointer (some ⟨r23_b2, 0, none⟩)), (11, .int .i64 x154), (12, .int .i64 x155), (13, .string r170.1), (14, .int .i64 r170.2), (15, .string s182), (16, .string s182)] rfl (by kernel_rfl) ?_
                    refine ow_end rfl ?_
                    refine ew_then ?_
                    obtain ⟨v183, hF, hK183⟩ := bind_some hF
                    refine cw_mid (fun a w => ∃ (s191 : ByteArray), s191 = v183 ∧ Fr 138 [(0, .slice p0 x0.length c0), (1, .slice p1 x1.length c1), (5, .pointer (some ⟨b21, 0, none⟩)), (7, .pointer (some ⟨r23_b2, 0, none⟩)), (11, .int .i64 x154), (12, .int .i64 x155), (13, .string r170.1), (14, .int .i64 r170.2), (15, .string s182), (16, .string s191)] a ∧ SAT w0 ([imm I, pt r23_b2 #[.slice p157 ((⟨l156, l160, x162, x163, x164, (⟨x165, x166⟩ : disk_Fall), x167, x168⟩ : disk_Disk).sure_).length c158, .map (some b144), .bool ((⟨l156, l160, x162, x163, x164, (⟨x165, x166⟩ : disk_Fall), x167, x168⟩ : disk_Disk).off_), .bool ((⟨l156, l160, x162, x163, x164, (⟨x165, x166⟩ : disk_Fall), x167, x168⟩ : disk_Disk).armed_), .int .i64 ((⟨l156, l160, x162, x163, x164, (⟨x165, x166⟩ : disk_Fall), x167, x168⟩ : disk_Disk).left_), .int .u64 ((⟨l156, l160, x162, x163, x164, (⟨x165, x166⟩ : disk_Fall), x167, x168⟩ : disk_Disk).fall_.Keep), .int .i64 ((⟨l156, l160, x162, x163, x164, (⟨x165, x166⟩ : disk_Fall), x167, x168⟩ : disk_Disk).fall_.Tear), .int .i64 ((⟨l156, l160, x162, x163, x164, (⟨x165, x166⟩ : disk_Fall), x167, x168⟩ : disk_Disk).acts_), .int .i64 ((⟨l156, l160, x162, x163, x164, (⟨x165, x166⟩ : disk_Fall), x167, x168⟩ : disk_Disk).falls_)] 43, pt b21 #[.int .u64 x2.Keep, .int .i64 x2.Tear] 34, own e_disk_sector 51 p157 c158 ((⟨l156, l160, x162, x163, x164, (⟨x165, x166⟩ : disk_Fall), x167, x168⟩ : disk_Disk).sure_), mpo (kInt .i64) (fun x : disk_sector => Value.agg #[.string x.s_, .int .i64 x.at_]) b144 ((⟨l156, l160, x162, x163, x164, (⟨x165, x166⟩ : disk_Fall), x167, x168⟩ : disk_Disk).wait_)] ++ F0) w) ?_ ?_
                    · refine cw_seq ?_
                      refine cw_region ?_
                      refine ow_vals 4 (j := 4) [0, 1, 5, 7, 11, 12, 13, 14, 15, 16, 101] [(0, .slice p0 x0.length c0), (1, .slice p1 x1.length c1), (5, .pointer (some ⟨b21, 0, none⟩)), (7, .pointer (some ⟨r23_b2, 0, none⟩)), (11, .int .i64 x154), (12, .int .i64 x155), (13, .string r170.1), (14, .int .i64 r170.2), (15, .string s182), (16, .string s182), (101, .bool (decide (x155 < (x1.length : Int))))] rfl (by kernel_rfl) ?_
                      refine ow_end rfl ?_
                      refine ew_then ?_
                      rcases if_some hF with ⟨h184, hF⟩ | ⟨h184, hF⟩
                      · refine cw_cond_t rfl rfl h184 ?_
                        refine cw_region ?_
                        refine ow_vals 2 (j := 2) [0, 1, 5, 7, 11, 12, 13, 14, 15, 102, 103] [(0, .slice p0 x0.length c0), (1, .slice p1 x1.length c1), (5, .pointer (some ⟨b21, 0, none⟩)), (7, .pointer (some ⟨r23_b2, 0, none⟩)), (11, .int .i64 x154), (12, .int .i64 x155), (13, .string r170.1), (14, .int .i64 r170.2), (15, .string s182), (102, .slice p1 x1.length c1), (103, .int .i64 x155)] rfl (by kernel_rfl) ?_
                        obtain ⟨y185, h186, hF⟩ := bind_some hF
                        refine ow_pw rfl (pw_index_ro (E := 5) 1 hr1 rfl rfl rfl rfl rfl (by kernel_rfl) rfl rfl rfl h186 fun q187 h188 => nw_ow ?_)
                        refine ow_pw rfl (pw_quiet (v := .int .u8 y185) rfl rfl rfl rfl (q_load_el0 0 rfl h188 rfl rfl (by kernel_rfl)) (nw_ow ?_))
                        obtain ⟨r189, h190, hF⟩ := bind_some hF
                        refine ow_pw rfl (pw_call (F := [pt r23_b2 #[.slice p157 ((⟨l156, l160, x162, x163, x164, (⟨x165, x166⟩ : disk_Fall), x167, x168⟩ : disk_Disk).sure_).length c158, .map (some b144), .bool ((⟨l156, l160, x162, x163, x164, (⟨x165, x166⟩ : disk_Fall), x167, x168⟩ : disk_Disk).off_), .bool ((⟨l156, l160, x162, x163, x164, (⟨x165, x166⟩ : disk_Fall), x167, x168⟩ : disk_Disk).armed_), .int .i64 ((⟨l156, l160, x162, x163, x164, (⟨x165, x166⟩ : disk_Fall), x167, x168⟩ : disk_Disk).left_), .int .u64 ((⟨l156, l160, x162, x163, x164, (⟨x165, x166⟩ : disk_Fall), x167, x168⟩ : disk_Disk).fall_.Keep), .int .i64 ((⟨l156, l160, x162, x163, x164, (⟨x165, x166⟩ : disk_Fall), x167, x168⟩ : disk_Disk).fall_.Tear), .int .i64 ((⟨l156, l160, x162, x163, x164, (⟨x165, x166⟩ : disk_Fall), x167, x168⟩ : disk_Disk).acts_), .int .i64 ((⟨l156, l160, x162, x163, x164, (⟨x165, x166⟩ : disk_Fall), x167, x168⟩ : disk_Disk).falls_)] 43, pt b21 #[.int .u64 x2.Keep, .int .i64 x2.Tear] 34, own e_disk_sector 51 p157 c158 ((⟨l156, l160, x162, x163, x164, (⟨x165, x166⟩ : disk_Fall), x167, x168⟩ : disk_Disk).sure_), mpo (kInt .i64) (fun x : disk_sector => Value.agg #[.string x.s_, .int .i64 x.at_]) b144 ((⟨l156, l160, x162, x163, x164, (⟨x165, x166⟩ : disk_Fall), x167, x168⟩ : disk_Disk).wait_)] ++ F0) rfl rfl rfl rfl rfl rfl rfl (by kernel_rfl) (perm_of_pulls [0] rfl) (c_law09_fill _ y185 64 r189 h190) ?_)
                        rintro _ _ ⟨rfl, rfl⟩
                        refine nw_H (H' := [imm I, pt r23_b2 #[.slice p157 ((⟨l156, l160, x162, x163, x164, (⟨x165, x166⟩ : disk_Fall), x167, x168⟩ : disk_Disk).sure_).length c158, .map (some b144), .bool ((⟨l156, l160, x162, x163, x164, (⟨x165, x166⟩ : disk_Fall), x167, x168⟩ : disk_Disk).off_), .bool ((⟨l156, l160, x162, x163, x164, (⟨x165, x166⟩ : disk_Fall), x167, x168⟩ : disk_Disk).armed_), .int .i64 ((⟨l156, l160, x162, x163, x164, (⟨x165, x166⟩ : disk_Fall), x167, x168⟩ : disk_Disk).left_), .int .u64 ((⟨l156, l160, x162, x163, x164, (⟨x165, x166⟩ : disk_Fall), x167, x168⟩ : disk_Disk).fall_.Keep), .int .i64 ((⟨l156, l160, x162, x163, x164, (⟨x165, x166⟩ : disk_Fall), x167, x168⟩ : disk_Disk).fall_.Tear), .int .i64 ((⟨l156, l160, x162, x163, x164, (⟨x165, x166⟩ : disk_Fall), x167, x168⟩ : disk_Disk).acts_), .int .i64 ((⟨l156, l160, x162, x163, x164, (⟨x165, x166⟩ : disk_Fall), x167, x168⟩ : disk_Disk).falls_)] 43, pt b21 #[.int .u64 x2.Keep, .int .i64 x2.Tear] 34, own e_disk_sector 51 p157 c158 ((⟨l156, l160, x162, x163, x164, (⟨x165, x166⟩ : disk_Fall), x167, x168⟩ : disk_Disk).sure_), mpo (kInt .i64) (fun x : disk_sector => Value.agg #[.string x.s_, .int .i64 x.at_]) b144 ((⟨l156, l160, x162, x163, x164, (⟨x165, x166⟩ : disk_Fall), x167, x168⟩ : disk_Disk).wait_)] ++ F0) rfl (nw_ow ?_)
                        refine ow_vals 1 (j := 6) [0, 1, 5, 7, 11, 12, 13, 14, 15, 16] [(0, .slice p0 x0.length c0), (1, .slice p1 x1.length c1), (5, .pointer (some ⟨b21, 0, none⟩)), (7, .pointer (some ⟨r23_b2, 0, none⟩)), (11, .int .i64 x154), (12, .int .i64 x155), (13, .string r170.1), (14, .int .i64 r170.2), (15, .string s182), (16, .string r189)] rfl (by kernel_rfl) ?_
                        refine ow_end rfl ?_
                        have hR := Option.some.inj hF
                        exact fun a w hf hs => ⟨r189, hR, hf.keep [0, 1, 5, 7, 11, 12, 13, 14, 15, 16], sat_to [0, 0, 0, 0, 0] 0 rfl hs⟩
                      · refine cw_cond_f rfl rfl h184 ?_
                        refine cw_skip ?_
                        have hR := Option.some.inj hF
                        exact fun a w hf hs => ⟨s182, hR, hf.keep [0, 1, 5, 7, 11, 12, 13, 14, 15, 16], sat_to [0, 0, 0, 0, 0] 0 rfl hs⟩
                    · rintro a w ⟨s191, hv, hf, hs⟩
                      subst hv
                      replace hF := hK183
                      clear hK183
                      try dsimp only at hF
                      revert a w
                      show CW _ _ _ 138 [(0, .slice p0 x0.length c0), (1, .slice p1 x1.length c1), (5, .pointer (some ⟨b21, 0, none⟩)), (7, .pointer (some ⟨r23_b2, 0, none⟩)), (11, .int .i64 x154), (12, .int .i64 x155), (13, .string r170.1), (14, .int .i64 r170.2), (15, .string s182), (16, .string s191)] (SAT w0 ([imm I, pt r23_b2 #[.slice p157 ((⟨l156, l160, x162, x163, x164, (⟨x165, x166⟩ : disk_Fall), x167, x168⟩ : disk_Disk).sure_).length c158, .map (some b144), .bool ((⟨l156, l160, x162, x163, x164, (⟨x165, x166⟩ : disk_Fall), x167, x168⟩ : disk_Disk).off_), .bool ((⟨l156, l160, x162, x163, x164, (⟨x165, x166⟩ : disk_Fall), x167, x168⟩ : disk_Disk).armed_), .int .i64 ((⟨l156, l160, x162, x163, x164, (⟨x165, x166⟩ : disk_Fall), x167, x168⟩ : disk_Disk).left_), .int .u64 ((⟨l156, l160, x162, x163, x164, (⟨x165, x166⟩ : disk_Fall), x167, x168⟩ : disk_Disk).fall_.Keep), .int .i64 ((⟨l156, l160, x162, x163, x164, (⟨x165, x166⟩ : disk_Fall), x167, x168⟩ : disk_Disk).fall_.Tear), .int .i64 ((⟨l156, l160, x162, x163, x164, (⟨x165, x166⟩ : disk_Fall), x167, x168⟩ : disk_Disk).acts_), .int .i64 ((⟨l156, l160, x162, x163, x164, (⟨x165, x166⟩ : disk_Fall), x167, x168⟩ : disk_Disk).falls_)] 43, pt b21 #[.int .u64 x2.Keep, .int .i64 x2.Tear] 34, own e_disk_sector 51 p157 c158 ((⟨l156, l160, x162, x163, x164, (⟨x165, x166⟩ : disk_Fall), x167, x168⟩ : disk_Disk).sure_), mpo (kInt .i64) (fun x : disk_sector => Value.agg #[.string x.s_, .int .i64 x.at_]) b144 ((⟨l156, l160, x162, x163, x164, (⟨x165, x166⟩ : disk_Fall), x167, x168⟩ : disk_Disk).wait_)] ++ F0))
                      unfold F.law09_DiskLasts.r10 at hF
                      obtain ⟨v192, hF, hK192⟩ := thru_some hF
                      refine cw_mid (fun a w => .inl () = v192 ∧ Fr 138 [(0, .slice p0 x0.length c0), (1, .slice p1 x1.length c1), (5, .pointer (some ⟨b21, 0, none⟩)), (7, .pointer (some ⟨r23_b2, 0, none⟩)), (11, .int .i64 x154), (12, .int .i64 x155), (13, .string r170.1), (15, .string s182), (16, .string s191)] a ∧ SAT w0 ([imm I, pt r23_b2 #[.slice p157 ((⟨l156, l160, x162, x163, x164, (⟨x165, x166⟩ : disk_Fall), x167, x168⟩ : disk_Disk).sure_).length c158, .map (some b144), .bool ((⟨l156, l160, x162, x163, x164, (⟨x165, x166⟩ : disk_Fall), x167, x168⟩ : disk_Disk).off_), .bool ((⟨l156, l160, x162, x163, x164, (⟨x165, x166⟩ : disk_Fall), x167, x168⟩ : disk_Disk).armed_), .int .i64 ((⟨l156, l160, x162, x163, x164, (⟨x165, x166⟩ : disk_Fall), x167, x168⟩ : disk_Disk).left_), .int .u64 ((⟨l156, l160, x162, x163, x164, (⟨x165, x166⟩ : disk_Fall), x167, x168⟩ : disk_Disk).fall_.Keep), .int .i64 ((⟨l156, l160, x162, x163, x164, (⟨x165, x166⟩ : disk_Fall), x167, x168⟩ : disk_Disk).fall_.Tear), .int .i64 ((⟨l156, l160, x162, x163, x164, (⟨x165, x166⟩ : disk_Fall), x167, x168⟩ : disk_Disk).acts_), .int .i64 ((⟨l156, l160, x162, x163, x164, (⟨x165, x166⟩ : disk_Fall), x167, x168⟩ : disk_Disk).falls_)] 43, pt b21 #[.int .u64 x2.Keep, .int .i64 x2.Tear] 34, own e_disk_sector 51 p157 c158 ((⟨l156, l160, x162, x163, x164, (⟨x165, x166⟩ : disk_Fall), x167, x168⟩ : disk_Disk).sure_), mpo (kInt .i64) (fun x : disk_sector => Value.agg #[.string x.s_, .int .i64 x.at_]) b144 ((⟨l156, l160, x162, x163, x164, (⟨x165, x166⟩ : disk_Fall), x167, x168⟩ : disk_Disk).wait_)] ++ F0) w) ?_ ?_
                      · refine cw_seq ?_
                        refine cw_region ?_
                        refine ow_vals 3 (j := 3) [0, 1, 5, 7, 11, 12, 13, 15, 16, 109] [(0, .slice p0 x0.length c0), (1, .slice p1 x1.length c1), (5, .pointer (some ⟨b21, 0, none⟩)), (7, .pointer (some ⟨r23_b2, 0, none⟩)), (11, .int .i64 x154), (12, .int .i64 x155), (13, .string r170.1), (15, .string s182), (16, .string s191), (109, .bool (r170.2 != 0))] rfl (by kernel_rfl) ?_
                        rcases if_some hF with ⟨h193, hF⟩ | ⟨h193, hF⟩
                        · refine ow_slots (L' := [(0, .slice p0 x0.length c0), (1, .slice p1 x1.length c1), (5, .pointer (some ⟨b21, 0, none⟩)), (7, .pointer (some ⟨r23_b2, 0, none⟩)), (11, .int .i64 x154), (12, .int .i64 x155), (13, .string r170.1), (15, .string s182), (16, .string s191), (109, .bool true)]) (by rw [h193]) ?_
                          refine ow_vals 4 (j := 7) [0, 1, 5, 7, 11, 12, 13, 15, 16, 113] [(0, .slice p0 x0.length c0), (1, .slice p1 x1.length c1), (5, .pointer (some ⟨b21, 0, none⟩)), (7, .pointer (some ⟨r23_b2, 0, none⟩)), (11, .int .i64 x154), (12, .int .i64 x155), (13, .string r170.1), (15, .string s182), (16, .string s191), (113, .bool true)] rfl (by kernel_rfl) ?_
                          refine ow_end rfl ?_
                          refine ew_then ?_
                          refine cw_cond_t rfl rfl rfl ?_
                          refine cw_seq ?_
                          refine cw_region ?_
                          refine ow_vals 1 (j := 1) [6] [(6, .bool false)] rfl (by kernel_rfl) ?_
                          refine ow_end rfl ?_
                          refine ew_then ?_
                          refine cw_ret ?_
                          refine ew_then_ret ?_
                          refine ew_blk_ret ?_
                          refine ew_then_ret ?_
                          refine ew_then_ret ?_
                          refine ew_blk_ret ?_
                          refine ew_then_ret ?_
                          have hR := Option.some.inj hF
                          subst hR
                          have hR := hK192
                          try dsimp only [Thru] at hR
                          subst hR
                          have hR := hL153
                          try dsimp only at hR
                          subst hR
                          have hR := hK152
                          try dsimp only [Thru] at hR
                          subst hR
                          exact fin1 (H1 := [imm I]) (fun w hs => sat_to [1, 1, 1, 1, 0] 4 rfl hs) rfl (rr_tmp rfl) ⟨rfl, rfl⟩
                        · refine ow_slots (L' := [(0, .slice p0 x0.length c0), (1, .slice p1 x1.length c1), (5, .pointer (some ⟨b21, 0, none⟩)), (7, .pointer (some ⟨r23_b2, 0, none⟩)), (11, .int .i64 x154), (12, .int .i64 x155), (13, .string r170.1), (15, .string s182), (16, .string s191), (109, .bool false)]) (by rw [h193]) ?_
                          refine ow_vals 4 (j := 7) [0, 1, 5, 7, 11, 12, 13, 15, 16, 113] [(0, .slice p0 x0.length c0), (1, .slice p1 x1.length c1), (5, .pointer (some ⟨b21, 0, none⟩)), (7, .pointer (some ⟨r23_b2, 0, none⟩)), (11, .int .i64 x154), (12, .int .i64 x155), (13, .string r170.1), (15, .string s182), (16, .string s191), (113, .bool ((r170.1.size : Int) != 64))] rfl (by kernel_rfl) ?_
                          refine ow_end rfl ?_
                          refine ew_then ?_
                          rcases if_some hF with ⟨h194, hF⟩ | ⟨h194, hF⟩
                          · refine cw_cond_t rfl rfl h194 ?_
                            refine cw_seq ?_
                            refine cw_region ?_
                            refine ow_vals 1 (j := 1) [6] [(6, .bool false)] rfl (by kernel_rfl) ?_
                            refine ow_end rfl ?_
                            refine ew_then ?_
                            refine cw_ret ?_
                            refine ew_then_ret ?_
                            refine ew_blk_ret ?_
                            refine ew_then_ret ?_
                            refine ew_then_ret ?_
                            refine ew_blk_ret ?_
                            refine ew_then_ret ?_
                            have hR := Option.some.inj hF
                            subst hR
                            have hR := hK192
                            try dsimp only [Thru] at hR
                            subst hR
                            have hR := hL153
                            try dsimp only at hR
                            subst hR
                            have hR := hK152
                            try dsimp only [Thru] at hR
                            subst hR
                            exact fin1 (H1 := [imm I]) (fun w hs => sat_to [1, 1, 1, 1, 0] 4 rfl hs) rfl (rr_tmp rfl) ⟨rfl, rfl⟩
                          · refine cw_cond_f rfl rfl h194 ?_
                            refine cw_skip ?_
                            have hR := Option.some.inj hF
                            exact fun a w hf hs => ⟨hR, hf.keep [0, 1, 5, 7, 11, 12, 13, 15, 16], sat_to [0, 0, 0, 0, 0] 0 rfl hs⟩
                      · rintro a w ⟨hv, hf, hs⟩
                        subst hv
                        replace hF := hK192
                        clear hK192
                        try dsimp only [Thru] at hF
                        revert a w
                        show CW _ _ _ 138 [(0, .slice p0 x0.length c0), (1, .slice p1 x1.length c1), (5, .pointer (some ⟨b21, 0, none⟩)), (7, .pointer (some ⟨r23_b2, 0, none⟩)), (11, .int .i64 x154), (12, .int .i64 x155), (13, .string r170.1), (15, .string s182), (16, .string s191)] (SAT w0 ([imm I, pt r23_b2 #[.slice p157 ((⟨l156, l160, x162, x163, x164, (⟨x165, x166⟩ : disk_Fall), x167, x168⟩ : disk_Disk).sure_).length c158, .map (some b144), .bool ((⟨l156, l160, x162, x163, x164, (⟨x165, x166⟩ : disk_Fall), x167, x168⟩ : disk_Disk).off_), .bool ((⟨l156, l160, x162, x163, x164, (⟨x165, x166⟩ : disk_Fall), x167, x168⟩ : disk_Disk).armed_), .int .i64 ((⟨l156, l160, x162, x163, x164, (⟨x165, x166⟩ : disk_Fall), x167, x168⟩ : disk_Disk).left_), .int .u64 ((⟨l156, l160, x162, x163, x164, (⟨x165, x166⟩ : disk_Fall), x167, x168⟩ : disk_Disk).fall_.Keep), .int .i64 ((⟨l156, l160, x162, x163, x164, (⟨x165, x166⟩ : disk_Fall), x167, x168⟩ : disk_Disk).fall_.Tear), .int .i64 ((⟨l156, l160, x162, x163, x164, (⟨x165, x166⟩ : disk_Fall), x167, x168⟩ : disk_Disk).acts_), .int .i64 ((⟨l156, l160, x162, x163, x164, (⟨x165, x166⟩ : disk_Fall), x167, x168⟩ : disk_Disk).falls_)] 43, pt b21 #[.int .u64 x2.Keep, .int .i64 x2.Tear] 34, own e_disk_sector 51 p157 c158 ((⟨l156, l160, x162, x163, x164, (⟨x165, x166⟩ : disk_Fall), x167, x168⟩ : disk_Disk).sure_), mpo (kInt .i64) (fun x : disk_sector => Value.agg #[.string x.s_, .int .i64 x.at_]) b144 ((⟨l156, l160, x162, x163, x164, (⟨x165, x166⟩ : disk_Fall), x167, x168⟩ : disk_Disk).wait_)] ++ F0))
                        unfold F.law09_DiskLasts.r11 at hF
                        refine cw_seq ?_
                        refine cw_region ?_
                        refine ow_vals 4 (j := 4) [0, 1, 5, 7, 11, 12, 13, 16, 117] [(0, .slice p0 x0.length c0), (1, .slice p1 x1.length c1), (5, .pointer (some ⟨b21, 0, none⟩)), (7, .pointer (some ⟨r23_b2, 0, none⟩)), (11, .int .i64 x154), (12, .int .i64 x155), (13, .string r170.1), (16, .string s191), (117, .bool (!(seqB r170.1 s182)))] rfl (by kernel_rfl) ?_
                        rcases if_some hF with ⟨h195, hF⟩ | ⟨h195, hF⟩
                        · refine ow_slots (L' := [(0, .slice p0 x0.length c0), (1, .slice p1 x1.length c1), (5, .pointer (some ⟨b21, 0, none⟩)), (7, .pointer (some ⟨r23_b2, 0, none⟩)), (11, .int .i64 x154), (12, .int .i64 x155), (13, .string r170.1), (16, .string s191), (117, .bool true)]) (by rw [h195]) ?_
                          refine ow_vals 4 (j := 8) [0, 1, 5, 7, 11, 12, 121] [(0, .slice p0 x0.length c0), (1, .slice p1 x1.length c1), (5, .pointer (some ⟨b21, 0, none⟩)), (7, .pointer (some ⟨r23_b2, 0, none⟩)), (11, .int .i64 x154), (12, .int .i64 x155), (121, .bool (!(seqB r170.1 s191)))] rfl (by kernel_rfl) ?_
                          refine ow_end rfl ?_
                          refine ew_then ?_
                          rcases if_some hF with ⟨h196, hF⟩ | ⟨h196, hF⟩
                          · refine cw_cond_t rfl rfl h196 ?_
                            refine cw_region ?_
                            refine ow_vals 3 (j := 3) [0, 1, 5, 7, 11, 12] [(0, .slice p0 x0.length c0), (1, .slice p1 x1.length c1), (5, .pointer (some ⟨b21, 0, none⟩)), (7, .pointer (some ⟨r23_b2, 0, none⟩)), (11, .int .i64 (IntKind.i64.wrap (x154 + 1))), (12, .int .i64 x155)] rfl (by kernel_rfl) ?_
                            refine ow_end rfl ?_
                            refine ew_blk ?_
                            refine ew_then ?_
                            refine cw_region ?_
                            refine ow_vals 3 (j := 3) [0, 1, 5, 7, 11, 12] [(0, .slice p0 x0.length c0), (1, .slice p1 x1.length c1), (5, .pointer (some ⟨b21, 0, none⟩)), (7, .pointer (some ⟨r23_b2, 0, none⟩)), (11, .int .i64 (IntKind.i64.wrap (x154 + 1))), (12, .int .i64 (IntKind.i64.wrap (x155 + 1)))] rfl (by kernel_rfl) ?_
                            refine ow_end rfl ?_
                            have hR := Option.some.inj hF
                            subst hR
                            have hR := hL153
                            try dsimp only at hR
                            exact fun a w hf hs => ⟨k, Nat.lt_succ_self k, IntKind.i64.wrap (x154 + 1), IntKind.i64.wrap (x155 + 1), (⟨l156, l160, x162, x163, x164, (⟨x165, x166⟩ : disk_Fall), x167, x168⟩ : disk_Disk).sure_, (⟨l156, l160, x162, x163, x164, (⟨x165, x166⟩ : disk_Fall), x167, x168⟩ : disk_Disk).wait_, (⟨l156, l160, x162, x163, x164, (⟨x165, x166⟩ : disk_Fall), x167, x168⟩ : disk_Disk).off_, (⟨l156, l160, x162, x163, x164, (⟨x165, x166⟩ : disk_Fall), x167, x168⟩ : disk_Disk).armed_, (⟨l156, l160, x162, x163, x164, (⟨x165, x166⟩ : disk_Fall), x167, x168⟩ : disk_Disk).left_, (⟨l156, l160, x162, x163, x164, (⟨x165, x166⟩ : disk_Fall), x167, x168⟩ : disk_Disk).fall_.Keep, (⟨l156, l160, x162, x163, x164, (⟨x165, x166⟩ : disk_Fall), x167, x168⟩ : disk_Disk).fall_.Tear, (⟨l156, l160, x162, x163, x164, (⟨x165, x166⟩ : disk_Fall), x167, x168⟩ : disk_Disk).acts_, (⟨l156, l160, x162, x163, x164, (⟨x165, x166⟩ : disk_Fall), x167, x168⟩ : disk_Disk).falls_, p157, c158, hR, hf.keep [0, 1, 5, 7, 11, 12], sat_to [0, 0, 0, 0, 0] 0 rfl hs⟩
                          · refine cw_cond_f rfl rfl h196 ?_
                            refine cw_skip ?_
                            refine ew_blk ?_
                            refine ew_then ?_
                            refine cw_region ?_
                            refine ow_vals 3 (j := 3) [0, 1, 5, 7, 11, 12] [(0, .slice p0 x0.length c0), (1, .slice p1 x1.length c1), (5, .pointer (some ⟨b21, 0, none⟩)), (7, .pointer (some ⟨r23_b2, 0, none⟩)), (11, .int .i64 x154), (12, .int .i64 (IntKind.i64.wrap (x155 + 1)))] rfl (by kernel_rfl) ?_
                            refine ow_end rfl ?_
                            have hR := Option.some.inj hF
                            subst hR
                            have hR := hL153
                            try dsimp only at hR
                            exact fun a w hf hs => ⟨k, Nat.lt_succ_self k, x154, IntKind.i64.wrap (x155 + 1), (⟨l156, l160, x162, x163, x164, (⟨x165, x166⟩ : disk_Fall), x167, x168⟩ : disk_Disk).sure_, (⟨l156, l160, x162, x163, x164, (⟨x165, x166⟩ : disk_Fall), x167, x168⟩ : disk_Disk).wait_, (⟨l156, l160, x162, x163, x164, (⟨x165, x166⟩ : disk_Fall), x167, x168⟩ : disk_Disk).off_, (⟨l156, l160, x162, x163, x164, (⟨x165, x166⟩ : disk_Fall), x167, x168⟩ : disk_Disk).armed_, (⟨l156, l160, x162, x163, x164, (⟨x165, x166⟩ : disk_Fall), x167, x168⟩ : disk_Disk).left_, (⟨l156, l160, x162, x163, x164, (⟨x165, x166⟩ : disk_Fall), x167, x168⟩ : disk_Disk).fall_.Keep, (⟨l156, l160, x162, x163, x164, (⟨x165, x166⟩ : disk_Fall), x167, x168⟩ : disk_Disk).fall_.Tear, (⟨l156, l160, x162, x163, x164, (⟨x165, x166⟩ : disk_Fall), x167, x168⟩ : disk_Disk).acts_, (⟨l156, l160, x162, x163, x164, (⟨x165, x166⟩ : disk_Fall), x167, x168⟩ : disk_Disk).falls_, p157, c158, hR, hf.keep [0, 1, 5, 7, 11, 12], sat_to [0, 0, 0, 0, 0] 0 rfl hs⟩
                        · refine ow_slots (L' := [(0, .slice p0 x0.length c0), (1, .slice p1 x1.length c1), (5, .pointer (some ⟨b21, 0, none⟩)), (7, .pointer (some ⟨r23_b2, 0, none⟩)), (11, .int .i64 x154), (12, .int .i64 x155), (13, .string r170.1), (16, .string s191), (117, .bool false)]) (by rw [h195]) ?_
                          refine ow_vals 4 (j := 8) [0, 1, 5, 7, 11, 12, 121] [(0, .slice p0 x0.length c0), (1, .slice p1 x1.length c1), (5, .pointer (some ⟨b21, 0, none⟩)), (7, .pointer (some ⟨r23_b2, 0, none⟩)), (11, .int .i64 x154), (12, .int .i64 x155), (121, .bool false)] rfl (by kernel_rfl) ?_
                          refine ow_end rfl ?_
                          refine ew_then ?_
                          refine cw_cond_f rfl rfl rfl ?_
                          refine cw_skip ?_
                          refine ew_blk ?_
                          refine ew_then ?_
                          refine cw_region ?_
                          refine ow_vals 3 (j := 3) [0, 1, 5, 7, 11, 12] [(0, .slice p0 x0.length c0), (1, .slice p1 x1.length c1), (5, .pointer (some ⟨b21, 0, none⟩)), (7, .pointer (some ⟨r23_b2, 0, none⟩)), (11, .int .i64 x154), (12, .int .i64 (IntKind.i64.wrap (x155 + 1)))] rfl (by kernel_rfl) ?_
                          refine ow_end rfl ?_
                          have hR := Option.some.inj hF
                          subst hR
                          have hR := hL153
                          try dsimp only at hR
                          exact fun a w hf hs => ⟨k, Nat.lt_succ_self k, x154, IntKind.i64.wrap (x155 + 1), (⟨l156, l160, x162, x163, x164, (⟨x165, x166⟩ : disk_Fall), x167, x168⟩ : disk_Disk).sure_, (⟨l156, l160, x162, x163, x164, (⟨x165, x166⟩ : disk_Fall), x167, x168⟩ : disk_Disk).wait_, (⟨l156, l160, x162, x163, x164, (⟨x165, x166⟩ : disk_Fall), x167, x168⟩ : disk_Disk).off_, (⟨l156, l160, x162, x163, x164, (⟨x165, x166⟩ : disk_Fall), x167, x168⟩ : disk_Disk).armed_, (⟨l156, l160, x162, x163, x164, (⟨x165, x166⟩ : disk_Fall), x167, x168⟩ : disk_Disk).left_, (⟨l156, l160, x162, x163, x164, (⟨x165, x166⟩ : disk_Fall), x167, x168⟩ : disk_Disk).fall_.Keep, (⟨l156, l160, x162, x163, x164, (⟨x165, x166⟩ : disk_Fall), x167, x168⟩ : disk_Disk).fall_.Tear, (⟨l156, l160, x162, x163, x164, (⟨x165, x166⟩ : disk_Fall), x167, x168⟩ : disk_Disk).acts_, (⟨l156, l160, x162, x163, x164, (⟨x165, x166⟩ : disk_Fall), x167, x168⟩ : disk_Disk).falls_, p157, c158, hR, hf.keep [0, 1, 5, 7, 11, 12], sat_to [0, 0, 0, 0, 0] 0 rfl hs⟩
                · refine cw_cond_f rfl rfl h169 ?_
                  refine cw_exit ?_
                  refine ew_then_exit ?_
                  refine ew_then_exit ?_
                  refine ew_blk_exit ?_
                  have hR := Option.some.inj hF
                  subst hR
                  have hR := hL153
                  try dsimp only at hR
                  exact fun a w hf hs => ⟨x154, l156, l160, x162, x163, x164, x165, x166, x167, x168, p157, c158, hR, hf.keep [5, 11], sat_to [0, 0, 0, 0, 0] 0 rfl hs⟩
              · rintro a w ⟨x197, l198, l202, x204, x205, x206, x207, x208, x209, x210, p199, c200, hv, hf, hs⟩
                subst hv
                replace hF := hK152
                clear hK152
                try dsimp only [Thru] at hF
                revert a w
                show CW _ _ _ 138 [(5, .pointer (some ⟨b21, 0, none⟩)), (11, .int .i64 x197)] (SAT w0 ([imm I, pt r23_b2 #[.slice p199 l198.length c200, .map (some b144), .bool x204, .bool x205, .int .i64 x206, .int .u64 x207, .int .i64 x208, .int .i64 x209, .int .i64 x210] 43, pt b21 #[.int .u64 x2.Keep, .int .i64 x2.Tear] 34, own e_disk_sector 51 p199 c200 l198, mpo (kInt .i64) (fun x : disk_sector => Value.agg #[.string x.s_, .int .i64 x.at_]) b144 l202] ++ F0))
                unfold F.law09_DiskLasts.r13 at hF
                refine cw_seq ?_
                refine cw_region ?_
                refine ow_vals 3 (j := 3) [5, 11, 126] [(5, .pointer (some ⟨b21, 0, none⟩)), (11, .int .i64 x197), (126, .bool (decide (x197 ≤ 1)))] rfl (by kernel_rfl) ?_
                rcases if_some hF with ⟨h211, hF⟩ | ⟨h211, hF⟩
                · refine ow_slots (L' := [(5, .pointer (some ⟨b21, 0, none⟩)), (11, .int .i64 x197), (126, .bool true)]) (by rw [h211]) ?_
                  refine ow_vals 3 (j := 6) [5, 126, 129] [(5, .pointer (some ⟨b21, 0, none⟩)), (126, .bool true), (129, .bool (x197 == 0))] rfl (by kernel_rfl) ?_
                  rcases if_some hF with ⟨h212, hF⟩ | ⟨h212, hF⟩
                  · refine ow_slots (L' := [(5, .pointer (some ⟨b21, 0, none⟩)), (126, .bool true), (129, .bool true)]) (by rw [h212]) ?_
                    refine ow_vals 6 (j := 12) [135] [(135, .bool true)] rfl (by kernel_rfl) ?_
                    obtain ⟨r213, h214, hF⟩ := bind_some hF
                    refine ow_pw rfl (pw_call (F := [pt r23_b2 #[.slice p199 l198.length c200, .map (some b144), .bool x204, .bool x205, .int .i64 x206, .int .u64 x207, .int .i64 x208, .int .i64 x209, .int .i64 x210] 43, pt b21 #[.int .u64 x2.Keep, .int .i64 x2.Tear] 34, own e_disk_sector 51 p199 c200 l198, mpo (kInt .i64) (fun x : disk_sector => Value.agg #[.string x.s_, .int .i64 x.at_]) b144 l202] ++ F0) rfl rfl rfl rfl rfl rfl rfl (by kernel_rfl) (perm_of_pulls [0] rfl) (c_law09_awake _ r213 h214) ?_)
                    rintro _ _ ⟨rfl, rfl⟩
                    refine nw_H (H' := [imm I, pt r23_b2 #[.slice p199 l198.length c200, .map (some b144), .bool x204, .bool x205, .int .i64 x206, .int .u64 x207, .int .i64 x208, .int .i64 x209, .int .i64 x210] 43, pt b21 #[.int .u64 x2.Keep, .int .i64 x2.Tear] 34, own e_disk_sector 51 p199 c200 l198, mpo (kInt .i64) (fun x : disk_sector => Value.agg #[.string x.s_, .int .i64 x.at_]) b144 l202] ++ F0) rfl (nw_ow ?_)
                    refine ow_vals 2 (j := 15) [6] [(6, .bool r213)] rfl (by kernel_rfl) ?_
                    refine ow_end rfl ?_
                    refine ew_then ?_
                    refine cw_ret ?_
                    have hR := Option.some.inj hF
                    subst hR
                    exact fin1 (H1 := [imm I]) (fun w hs => sat_to [1, 1, 1, 1, 0] 4 rfl hs) rfl (rr_tmp rfl) ⟨rfl, rfl⟩
                  · refine ow_slots (L' := [(5, .pointer (some ⟨b21, 0, none⟩)), (126, .bool true), (129, .bool false)]) (by rw [h212]) ?_
                    refine ow_vals 1 (j := 7) [126, 129, 130] [(126, .bool true), (129, .bool false), (130, .pointer (some ⟨b21, 1, none⟩))] rfl (by kernel_rfl) ?_
                    refine ow_pw rfl (pw_quiet (v := .int .i64 x2.Tear) rfl rfl rfl rfl (q_load 2 rfl rfl rfl (by kernel_rfl)) (nw_ow ?_))
                    refine ow_vals 4 (j := 12) [135] [(135, .bool (decide (x2.Tear ≥ 0)))] rfl (by kernel_rfl) ?_
                    rcases if_some hF with ⟨h215, hF⟩ | ⟨h215, hF⟩
                    · refine ow_slots (L' := [(135, .bool true)]) (by rw [h215]) ?_
                      obtain ⟨r216, h217, hF⟩ := bind_some hF
                      refine ow_pw rfl (pw_call (F := [pt r23_b2 #[.slice p199 l198.length c200, .map (some b144), .bool x204, .bool x205, .int .i64 x206, .int .u64 x207, .int .i64 x208, .int .i64 x209, .int .i64 x210] 43, pt b21 #[.int .u64 x2.Keep, .int .i64 x2.Tear] 34, own e_disk_sector 51 p199 c200 l198, mpo (kInt .i64) (fun x : disk_sector => Value.agg #[.string x.s_, .int .i64 x.at_]) b144 l202] ++ F0) rfl rfl rfl rfl rfl rfl rfl (by kernel_rfl) (perm_of_pulls [0] rfl) (c_law09_awake _ r216 h217) ?_)
                      rintro _ _ ⟨rfl, rfl⟩
                      refine nw_H (H' := [imm I, pt r23_b2 #[.slice p199 l198.length c200, .map (some b144), .bool x204, .bool x205, .int .i64 x206, .int .u64 x207, .int .i64 x208, .int .i64 x209, .int .i64 x210] 43, pt b21 #[.int .u64 x2.Keep, .int .i64 x2.Tear] 34, own e_disk_sector 51 p199 c200 l198, mpo (kInt .i64) (fun x : disk_sector => Value.agg #[.string x.s_, .int .i64 x.at_]) b144 l202] ++ F0) rfl (nw_ow ?_)
                      refine ow_vals 2 (j := 15) [6] [(6, .bool r216)] rfl (by kernel_rfl) ?_
                      refine ow_end rfl ?_
                      refine ew_then ?_
                      refine cw_ret ?_
                      have hR := Option.some.inj hF
                      subst hR
                      exact fin1 (H1 := [imm I]) (fun w hs => sat_to [1, 1, 1, 1, 0] 4 rfl hs) rfl (rr_tmp rfl) ⟨rfl, rfl⟩
                    · refine ow_slots (L' := [(135, .bool false)]) (by rw [h215]) ?_
                      refine ow_vals 3 (j := 15) [6] [(6, .bool false)] rfl (by kernel_rfl) ?_
                      refine ow_end rfl ?_
                      refine ew_then ?_
                      refine cw_ret ?_
                      have hR := Option.some.inj hF
                      subst hR
                      exact fin1 (H1 := [imm I]) (fun w hs => sat_to [1, 1, 1, 1, 0] 4 rfl hs) rfl (rr_tmp rfl) ⟨rfl, rfl⟩
                · refine ow_slots (L' := [(5, .pointer (some ⟨b21, 0, none⟩)), (11, .int .i64 x197), (126, .bool false)]) (by rw [h211]) ?_
                  refine ow_vals 12 (j := 15) [6] [(6, .bool false)] rfl (by kernel_rfl) ?_
                  refine ow_end rfl ?_
                  refine ew_then ?_
                  refine cw_ret ?_
                  have hR := Option.some.inj hF
                  subst hR
                  exact fin1 (H1 := [imm I]) (fun w hs => sat_to [1, 1, 1, 1, 0] 4 rfl hs) rfl (rr_tmp rfl) ⟨rfl, rfl⟩

end Go.Proofs.Ytbjilfhjclkebaa
