/- What the functions compute, and that the code computes it: printed by a program of this claim (wip/tools), for the group Plays. -/
import Derived.Test.YtgbloaophfaaoaaGreatDoorGPlaysd
namespace Go.Proofs.YtgbloaophfaaoaaGreatDoor
set_option linter.all false
open Go Go.RowKit Go.Fw
set_option linter.unusedVariables false

def F.journal_Journal_Flush (m0 : journal_Journal) (m1 : guard_Guard) (m2 : disk_Disk) : Option (Int × journal_Journal × disk_Disk) :=
  Option.bind (F.journal_Journal_off m0 m1 m2) (fun (r21 : Int) => if r21 != 0 then (some ((r21, m0, m2))) else (if m0.sure_ == (m0.list_.length : Int) then (some ((0, m0, m2))) else (Option.bind (F.guard_Guard_Flush m1 m2) (fun (r25 : Int × disk_Disk) => if r25.1 != 0 then (Option.bind (F.journal_Journal_fall r25.1 m0 m1 r25.2) (fun (r30 : Int × journal_Journal) => some ((r30.1, r30.2, r25.2)))) else (some ((0, (⟨m0.base_, m0.size_, m0.next_, m0.last_, m0.list_, (m0.list_.length : Int), m0.dead_⟩ : journal_Journal), r25.2)))))))
set_option maxRecDepth 100000 in
set_option maxHeartbeats 4000000 in
theorem c_journal_Journal_Flush (I : Hl) (m0 : journal_Journal) (m1 : guard_Guard) (m2 : disk_Disk) (p0 : Option Addr) (c0 : Nat) (b0 : Nat) (b1 : Nat) (p1 : Option Addr) (c1 : Nat) (p2 : Nat) (b2 : Nat) (res : Int × journal_Journal × disk_Disk) (hF : F.journal_Journal_Flush m0 m1 m2 = some res) : Tr Tryz.prog 7 [pP b0] [imm I, o3 b0 b1 m0.base_ m0.size_ m0.next_ m0.last_ p0 m0.list_ c0 m0.sure_ m0.dead_, o1 b1 b2 m1.boot_ m1.n_, o0 b2 p1 m2.sure_ c1 p2 m2.off_ m2.armed_ m2.left_ m2.fall_.Keep m2.fall_.Tear m2.acts_ m2.falls_, own eStr 9 p0 c0 m0.list_, own e_disk_sector 51 p1 c1 m2.sure_, mpo (kInt .i64) (fun x : disk_sector => Value.agg #[.string x.s_, i6 x.at_]) p2 m2.wait_] (fun r H' => ∃ (pq1 : Option Addr), ∃ (cq2 : Nat), ∃ (pq4 : Option Addr), ∃ (cq5 : Nat), ∃ (bq7 : Nat), r = i6 res.1 ∧ H' = [imm I, o3 b0 b1 res.2.1.base_ res.2.1.size_ res.2.1.next_ res.2.1.last_ pq1 res.2.1.list_ cq2 res.2.1.sure_ res.2.1.dead_, o1 b1 b2 m1.boot_ m1.n_, o0 b2 pq4 res.2.2.sure_ cq5 bq7 res.2.2.off_ res.2.2.armed_ res.2.2.left_ res.2.2.fall_.Keep res.2.2.fall_.Tear res.2.2.acts_ res.2.2.falls_, own eStr 9 pq1 cq2 res.2.1.list_, own e_disk_sector 51 pq4 cq5 res.2.2.sure_, mpo (kInt .i64) (fun x : disk_sector => Value.agg #[.string x.s_, i6 x.at_]) bq7 res.2.2.wait_]) := by
  unfold F.journal_Journal_Flush at hF
  refine tr_of_cw (fn := Tryz.f7) Tryz.func7 rfl (Nat.le_of_ble_eq_true rfl) 38 rfl fun F0 w0 => ?_
  refine cw_keep [0] (L' := [(0, pP b0)]) rfl ?_
  refine cw_state (S' := SAT w0 ([imm I, o3 b0 b1 m0.base_ m0.size_ m0.next_ m0.last_ p0 m0.list_ c0 m0.sure_ m0.dead_, o1 b1 b2 m1.boot_ m1.n_, o0 b2 p1 m2.sure_ c1 p2 m2.off_ m2.armed_ m2.left_ m2.fall_.Keep m2.fall_.Tear m2.acts_ m2.falls_, own eStr 9 p0 c0 m0.list_, own e_disk_sector 51 p1 c1 m2.sure_, mpo (kInt .i64) (fun x : disk_sector => Value.agg #[.string x.s_, i6 x.at_]) p2 m2.wait_] ++ F0)) (fun w hs => hs) ?_
  refine cw_seq ?_
  refine cw_region ?_
  refine ow_vals 1 (j := 1) [0] [(0, pP b0)] rfl (by kernel_rfl) ?_
  refine ow_end rfl ?_
  refine ew_then ?_
  refine cw_seq ?_
  refine cw_seq ?_
  refine cw_region ?_
  refine ow_vals 1 (j := 1) [0, 5] [(0, pP b0), (5, pP b0)] rfl (by kernel_rfl) ?_
  obtain ⟨r21, h22, hF⟩ := bind_some hF
  refine ow_pw rfl (pw_call (F := [] ++ F0) rfl rfl rfl rfl rfl rfl rfl (by kernel_rfl) (perm_of_pulls [0, 0, 0, 0, 0, 0, 0] rfl) (c_journal_Journal_off _ m0 m1 m2 p0 c0 b0 b1 p1 c1 p2 b2 r21 h22) ?_)
  rintro _ _ ⟨rfl, rfl⟩
  refine nw_H (H' := [imm I, o3 b0 b1 m0.base_ m0.size_ m0.next_ m0.last_ p0 m0.list_ c0 m0.sure_ m0.dead_, o1 b1 b2 m1.boot_ m1.n_, o0 b2 p1 m2.sure_ c1 p2 m2.off_ m2.armed_ m2.left_ m2.fall_.Keep m2.fall_.Tear m2.acts_ m2.falls_, own eStr 9 p0 c0 m0.list_, own e_disk_sector 51 p1 c1 m2.sure_, mpo (kInt .i64) (fun x : disk_sector => Value.agg #[.string x.s_, i6 x.at_]) p2 m2.wait_] ++ F0) rfl (nw_ow ?_)
  refine ow_vals 1 (j := 3) [0, 3] [(0, pP b0), (3, i6 r21)] rfl (by kernel_rfl) ?_
  refine ow_end rfl ?_
  refine ew_then ?_
  refine cw_seq ?_
  refine cw_region ?_
  refine ow_vals 2 (j := 2) [0, 3, 8] [(0, pP b0), (3, i6 r21), (8, .bool (r21 != 0))] rfl (by kernel_rfl) ?_
  refine ow_end rfl ?_
  refine ew_then ?_
  rcases if_some hF with ⟨h23, hF⟩ | ⟨h23, hF⟩
  · refine cw_cond_t rfl rfl h23 ?_
    refine cw_seq ?_
    refine cw_region ?_
    refine ow_vals 2 (j := 2) [2] [(2, i6 r21)] rfl (by kernel_rfl) ?_
    refine ow_end rfl ?_
    refine ew_then ?_
    refine cw_ret ?_
    refine ew_then_ret ?_
    have hR := Option.some.inj hF
    subst hR
    exact fin1 (H1 := [imm I, o3 b0 b1 m0.base_ m0.size_ m0.next_ m0.last_ p0 m0.list_ c0 m0.sure_ m0.dead_, o1 b1 b2 m1.boot_ m1.n_, o0 b2 p1 m2.sure_ c1 p2 m2.off_ m2.armed_ m2.left_ m2.fall_.Keep m2.fall_.Tear m2.acts_ m2.falls_, own eStr 9 p0 c0 m0.list_, own e_disk_sector 51 p1 c1 m2.sure_, mpo (kInt .i64) (fun x : disk_sector => Value.agg #[.string x.s_, i6 x.at_]) p2 m2.wait_]) (fun w hs => sat_to [0, 0, 0, 0, 0, 0, 0] 0 rfl hs) rfl (rr_tmp rfl) ⟨p0, c0, p1, c1, p2, rfl, rfl⟩
  refine cw_cond_f rfl rfl h23 ?_
  refine cw_skip ?_
  refine ew_then ?_
  refine cw_seq ?_
  refine cw_seq ?_
  refine cw_open 10 (SAT w0 ([imm I, o3 b0 b1 m0.base_ m0.size_ m0.next_ m0.last_ p0 m0.list_ c0 m0.sure_ m0.dead_, o1 b1 b2 m1.boot_ m1.n_, o0 b2 p1 m2.sure_ c1 p2 m2.off_ m2.armed_ m2.left_ m2.fall_.Keep m2.fall_.Tear m2.acts_ m2.falls_, own eStr 9 p0 c0 m0.list_, own e_disk_sector 51 p1 c1 m2.sure_, mpo (kInt .i64) (fun x : disk_sector => Value.agg #[.string x.s_, i6 x.at_]) p2 m2.wait_])) (by kernel_rfl) (f := 10) rfl (fun w hs => sat_drew hs) ?_
  refine aw_vals [0, 1, 2, 4, 5, 6] (f' := 4) (m' := 119) [0, 12, 16] [(0, pP b0), (12, .pointer (some ⟨b0, 6, none⟩)), (16, .pointer (some ⟨b0, 5, none⟩))] (fun _ _ _ _ _ h => calm_fin (P := Tryz.prog) (fn := Tryz.f7) _ _ _ _ _ h) (fun w hs => sat_pulls [0, 0, 0, 0, 0, 0, 0] (G := [] ++ F0) rfl hs) rfl (by kernel_rfl) ?_
  refine aw_quiet 3 (m' := 127) (v := i6 m0.sure_) 0 [] rfl rfl rfl rfl (by kernel_rfl) (by kernel_rfl) (by kernel_rfl) (fun _ _ _ _ _ h => calm_fin (P := Tryz.prog) (fn := Tryz.f7) _ _ _ _ _ h) (fun w hs => sat_pulls [0, 0, 0, 0, 0, 0, 0] (G := [] ++ F0) rfl hs) (q_load 1 rfl rfl rfl (by kernel_rfl)) ?_
  refine aw_quiet 7 (m' := 255) (v := .slice p0 m0.list_.length c0) 0 [] rfl rfl rfl rfl (by kernel_rfl) (by kernel_rfl) (by kernel_rfl) (fun _ _ _ _ _ h => calm_fin (P := Tryz.prog) (fn := Tryz.f7) _ _ _ _ _ h) (fun w hs => sat_pulls [0, 0, 0, 0, 0, 0, 0] (G := [] ++ F0) rfl hs) (q_load 1 rfl rfl rfl (by kernel_rfl)) ?_
  refine aw_vals [8, 9] (f' := 0) (m' := 1023) [0, 19] [(0, pP b0), (19, .bool (m0.sure_ == (m0.list_.length : Int)))] (fun _ _ _ _ _ h => calm_fin (P := Tryz.prog) (fn := Tryz.f7) _ _ _ _ _ h) (fun w hs => sat_pulls [0, 0, 0, 0, 0, 0, 0] (G := [] ++ F0) rfl hs) rfl (by kernel_rfl) ?_
  refine aw_keep [0, 19] (L' := [(0, pP b0), (19, .bool (m0.sure_ == (m0.list_.length : Int)))]) rfl ?_
  refine aw_end (by kernel_rfl) ?_
  refine ew_then ?_
  rcases if_some hF with ⟨h24, hF⟩ | ⟨h24, hF⟩
  · refine cw_cond_t rfl rfl h24 ?_
    refine cw_seq ?_
    refine cw_region ?_
    refine ow_vals 1 (j := 1) [2] [(2, i6 0)] rfl (by kernel_rfl) ?_
    refine ow_end rfl ?_
    refine ew_then ?_
    refine cw_ret ?_
    refine ew_then_ret ?_
    have hR := Option.some.inj hF
    subst hR
    exact fin1 (H1 := [imm I, o3 b0 b1 m0.base_ m0.size_ m0.next_ m0.last_ p0 m0.list_ c0 m0.sure_ m0.dead_, o1 b1 b2 m1.boot_ m1.n_, o0 b2 p1 m2.sure_ c1 p2 m2.off_ m2.armed_ m2.left_ m2.fall_.Keep m2.fall_.Tear m2.acts_ m2.falls_, own eStr 9 p0 c0 m0.list_, own e_disk_sector 51 p1 c1 m2.sure_, mpo (kInt .i64) (fun x : disk_sector => Value.agg #[.string x.s_, i6 x.at_]) p2 m2.wait_]) (fun w hs => sat_to [0, 0, 0, 0, 0, 0, 0] 0 rfl hs) rfl (rr_tmp rfl) ⟨p0, c0, p1, c1, p2, rfl, rfl⟩
  refine cw_cond_f rfl rfl h24 ?_
  refine cw_skip ?_
  refine ew_then ?_
  refine cw_seq ?_
  refine cw_seq ?_
  refine cw_region ?_
  refine ow_vals 3 (j := 3) [0, 22] [(0, pP b0), (22, pP b0)] rfl (by kernel_rfl) ?_
  refine ow_pw rfl (pw_quiet (v := pP b1) rfl rfl rfl rfl (q_load 1 rfl rfl rfl (by kernel_rfl)) (nw_ow ?_))
  obtain ⟨r25, h26, hF⟩ := bind_some hF
  refine ow_pw rfl (pw_call (F := [o3 b0 b1 m0.base_ m0.size_ m0.next_ m0.last_ p0 m0.list_ c0 m0.sure_ m0.dead_, own eStr 9 p0 c0 m0.list_] ++ F0) rfl rfl rfl rfl rfl rfl rfl (by kernel_rfl) (perm_of_pulls [0, 1, 1, 2, 2] rfl) (c_guard_Guard_Flush _ m1 m2 b1 p1 c1 p2 b2 r25 h26) ?_)
  rintro _ _ ⟨r25_p1, r25_c2, r25_b4, rfl, rfl⟩
  refine nw_H (H' := [imm I, o1 b1 b2 m1.boot_ m1.n_, o0 b2 r25_p1 r25.2.sure_ r25_c2 r25_b4 r25.2.off_ r25.2.armed_ r25.2.left_ r25.2.fall_.Keep r25.2.fall_.Tear r25.2.acts_ r25.2.falls_, own e_disk_sector 51 r25_p1 r25_c2 r25.2.sure_, mpo (kInt .i64) (fun x : disk_sector => Value.agg #[.string x.s_, i6 x.at_]) r25_b4 r25.2.wait_, o3 b0 b1 m0.base_ m0.size_ m0.next_ m0.last_ p0 m0.list_ c0 m0.sure_ m0.dead_, own eStr 9 p0 c0 m0.list_] ++ F0) rfl (nw_ow ?_)
  refine ow_vals 1 (j := 6) [0, 4] [(0, pP b0), (4, i6 r25.1)] rfl (by kernel_rfl) ?_
  refine ow_end rfl ?_
  refine ew_then ?_
  refine cw_seq ?_
  refine cw_region ?_
  refine ow_vals 2 (j := 2) [0, 4, 26] [(0, pP b0), (4, i6 r25.1), (26, .bool (r25.1 != 0))] rfl (by kernel_rfl) ?_
  refine ow_end rfl ?_
  refine ew_then ?_
  rcases if_some hF with ⟨h29, hF⟩ | ⟨h29, hF⟩
  · refine cw_cond_t rfl rfl h29 ?_
    refine cw_seq ?_
    refine cw_region ?_
    refine ow_vals 2 (j := 2) [27, 28] [(27, pP b0), (28, i6 r25.1)] rfl (by kernel_rfl) ?_
    obtain ⟨r30, h31, hF⟩ := bind_some hF
    refine ow_pw rfl (pw_call (F := [] ++ F0) rfl rfl rfl rfl rfl rfl rfl (by kernel_rfl) (perm_of_pulls [0, 4, 0, 0, 2, 0, 0] rfl) (c_journal_Journal_fall _ r25.1 m0 m1 r25.2 p0 c0 b0 b1 r25_p1 r25_c2 r25_b4 b2 r30 h31) ?_)
    rintro _ _ ⟨r30_p1, r30_c2, rfl, rfl⟩
    refine nw_H (H' := [imm I, o3 b0 b1 r30.2.base_ r30.2.size_ r30.2.next_ r30.2.last_ r30_p1 r30.2.list_ r30_c2 r30.2.sure_ r30.2.dead_, o1 b1 b2 m1.boot_ m1.n_, o0 b2 r25_p1 r25.2.sure_ r25_c2 r25_b4 r25.2.off_ r25.2.armed_ r25.2.left_ r25.2.fall_.Keep r25.2.fall_.Tear r25.2.acts_ r25.2.falls_, own eStr 9 r30_p1 r30_c2 r30.2.list_, own e_disk_sector 51 r25_p1 r25_c2 r25.2.sure_, mpo (kInt .i64) (fun x : disk_sector => Value.agg #[.string x.s_, i6 x.at_]) r25_b4 r25.2.wait_] ++ F0) rfl (nw_ow ?_)
    refine ow_vals 1 (j := 4) [2] [(2, i6 r30.1)] rfl (by kernel_rfl) ?_
    refine ow_end rfl ?_
    refine ew_then ?_
    refine cw_ret ?_
    refine ew_then_ret ?_
    have hR := Option.some.inj hF
    subst hR
    exact fin1 (H1 := [imm I, o3 b0 b1 r30.2.base_ r30.2.size_ r30.2.next_ r30.2.last_ r30_p1 r30.2.list_ r30_c2 r30.2.sure_ r30.2.dead_, o1 b1 b2 m1.boot_ m1.n_, o0 b2 r25_p1 r25.2.sure_ r25_c2 r25_b4 r25.2.off_ r25.2.armed_ r25.2.left_ r25.2.fall_.Keep r25.2.fall_.Tear r25.2.acts_ r25.2.falls_, own eStr 9 r30_p1 r30_c2 r30.2.list_, own e_disk_sector 51 r25_p1 r25_c2 r25.2.sure_, mpo (kInt .i64) (fun x : disk_sector => Value.agg #[.string x.s_, i6 x.at_]) r25_b4 r25.2.wait_]) (fun w hs => sat_to [0, 0, 0, 0, 0, 0, 0] 0 rfl hs) rfl (rr_tmp rfl) ⟨r30_p1, r30_c2, r25_p1, r25_c2, r25_b4, rfl, rfl⟩
  refine cw_cond_f rfl rfl h29 ?_
  refine cw_skip ?_
  refine ew_then ?_
  refine cw_seq ?_
  refine cw_region ?_
  refine ow_vals 4 (j := 4) [30, 33] [(30, pP b0), (33, .pointer (some ⟨b0, 5, none⟩))] rfl (by kernel_rfl) ?_
  refine ow_pw rfl (pw_quiet (v := .slice p0 m0.list_.length c0) rfl rfl rfl rfl (q_load 5 rfl rfl rfl (by kernel_rfl)) (nw_ow ?_))
  refine ow_vals 3 (j := 8) [35, 37] [(35, i6 (m0.list_.length : Int)), (37, .pointer (some ⟨b0, 6, none⟩))] rfl (by kernel_rfl) ?_
  refine ow_pw rfl (pw_store 5 #[pP b1, i6 m0.base_, i6 m0.size_, i6 m0.next_, i6 m0.last_, .slice p0 m0.list_.length c0, i6 (m0.list_.length : Int), .bool m0.dead_] rfl rfl rfl rfl rfl rfl rfl (by kernel_rfl) (nw_H (H' := [imm I, o1 b1 b2 m1.boot_ m1.n_, o0 b2 r25_p1 r25.2.sure_ r25_c2 r25_b4 r25.2.off_ r25.2.armed_ r25.2.left_ r25.2.fall_.Keep r25.2.fall_.Tear r25.2.acts_ r25.2.falls_, own e_disk_sector 51 r25_p1 r25_c2 r25.2.sure_, mpo (kInt .i64) (fun x : disk_sector => Value.agg #[.string x.s_, i6 x.at_]) r25_b4 r25.2.wait_, o3 b0 b1 m0.base_ m0.size_ m0.next_ m0.last_ p0 m0.list_ c0 (m0.list_.length : Int) m0.dead_, own eStr 9 p0 c0 m0.list_] ++ F0) rfl (nw_ow ?_)))
  refine ow_end rfl ?_
  refine ew_then ?_
  refine cw_seq ?_
  refine cw_region ?_
  refine ow_vals 1 (j := 1) [2] [(2, i6 0)] rfl (by kernel_rfl) ?_
  refine ow_end rfl ?_
  refine ew_then ?_
  refine cw_ret ?_
  have hR := Option.some.inj hF
  subst hR
  exact fin1 (H1 := [imm I, o3 b0 b1 ((⟨m0.base_, m0.size_, m0.next_, m0.last_, m0.list_, (m0.list_.length : Int), m0.dead_⟩ : journal_Journal).base_) ((⟨m0.base_, m0.size_, m0.next_, m0.last_, m0.list_, (m0.list_.length : Int), m0.dead_⟩ : journal_Journal).size_) ((⟨m0.base_, m0.size_, m0.next_, m0.last_, m0.list_, (m0.list_.length : Int), m0.dead_⟩ : journal_Journal).next_) ((⟨m0.base_, m0.size_, m0.next_, m0.last_, m0.list_, (m0.list_.length : Int), m0.dead_⟩ : journal_Journal).last_) p0 ((⟨m0.base_, m0.size_, m0.next_, m0.last_, m0.list_, (m0.list_.length : Int), m0.dead_⟩ : journal_Journal).list_) c0 ((⟨m0.base_, m0.size_, m0.next_, m0.last_, m0.list_, (m0.list_.length : Int), m0.dead_⟩ : journal_Journal).sure_) ((⟨m0.base_, m0.size_, m0.next_, m0.last_, m0.list_, (m0.list_.length : Int), m0.dead_⟩ : journal_Journal).dead_), o1 b1 b2 m1.boot_ m1.n_, o0 b2 r25_p1 r25.2.sure_ r25_c2 r25_b4 r25.2.off_ r25.2.armed_ r25.2.left_ r25.2.fall_.Keep r25.2.fall_.Tear r25.2.acts_ r25.2.falls_, own eStr 9 p0 c0 ((⟨m0.base_, m0.size_, m0.next_, m0.last_, m0.list_, (m0.list_.length : Int), m0.dead_⟩ : journal_Journal).list_), own e_disk_sector 51 r25_p1 r25_c2 r25.2.sure_, mpo (kInt .i64) (fun x : disk_sector => Value.agg #[.string x.s_, i6 x.at_]) r25_b4 r25.2.wait_]) (fun w hs => sat_to [0, 4, 0, 0, 2, 0, 0] 0 rfl hs) rfl (rr_tmp rfl) ⟨p0, c0, r25_p1, r25_c2, r25_b4, rfl, rfl⟩


def F.disk_Disk_Crash (x1 : disk_Fall) (m0 : disk_Disk) : Option (Int × disk_Disk) :=
  Option.bind (F.disk_Disk_why 0 m0) (fun (r23 : Int) => if r23 != 0 then (some ((r23, m0))) else (Option.bind (F.disk_Disk_drop x1 m0) (fun (r26 : disk_Disk) => some ((0, r26)))))
set_option maxRecDepth 100000 in
set_option maxHeartbeats 4000000 in
theorem c_disk_Disk_Crash (I : Hl) (x1 : disk_Fall) (m0 : disk_Disk) (p0 : Option Addr) (c0 : Nat) (p1 : Nat) (b0 : Nat) (res : Int × disk_Disk) (hF : F.disk_Disk_Crash x1 m0 = some res) : Tr Tryz.prog 24 [pP b0, .agg #[.int .u64 x1.Keep, i6 x1.Tear]] [imm I, o0 b0 p0 m0.sure_ c0 p1 m0.off_ m0.armed_ m0.left_ m0.fall_.Keep m0.fall_.Tear m0.acts_ m0.falls_, own e_disk_sector 51 p0 c0 m0.sure_, mpo (kInt .i64) (fun x : disk_sector => Value.agg #[.string x.s_, i6 x.at_]) p1 m0.wait_] (fun r H' => ∃ (pq1 : Option Addr), ∃ (cq2 : Nat), ∃ (bq4 : Nat), r = i6 res.1 ∧ H' = [imm I, o0 b0 pq1 res.2.sure_ cq2 bq4 res.2.off_ res.2.armed_ res.2.left_ res.2.fall_.Keep res.2.fall_.Tear res.2.acts_ res.2.falls_, own e_disk_sector 51 pq1 cq2 res.2.sure_, mpo (kInt .i64) (fun x : disk_sector => Value.agg #[.string x.s_, i6 x.at_]) bq4 res.2.wait_]) := by
  unfold F.disk_Disk_Crash at hF
  refine tr_of_cw (fn := Tryz.f24) Tryz.func24 rfl (Nat.le_of_ble_eq_true rfl) 14 rfl fun F0 w0 => ?_
  refine cw_keep [0, 1] (L' := [(0, pP b0), (1, .agg #[.int .u64 x1.Keep, i6 x1.Tear])]) rfl ?_
  refine cw_state (S' := SAT w0 ([imm I, o0 b0 p0 m0.sure_ c0 p1 m0.off_ m0.armed_ m0.left_ m0.fall_.Keep m0.fall_.Tear m0.acts_ m0.falls_, own e_disk_sector 51 p0 c0 m0.sure_, mpo (kInt .i64) (fun x : disk_sector => Value.agg #[.string x.s_, i6 x.at_]) p1 m0.wait_] ++ F0)) (fun w hs => hs) ?_
  refine cw_seq ?_
  refine cw_region ?_
  refine ow_pw rfl (pw_box (cs := #[.int .u64 x1.Keep, i6 x1.Tear]) rfl rfl rfl rfl rfl rfl fun b21 => nw_ow ?_)
  refine ow_vals 1 (j := 2) [0, 3] [(0, pP b0), (3, pP b21)] rfl (by kernel_rfl) ?_
  refine ow_end rfl ?_
  refine ew_then ?_
  refine cw_seq ?_
  refine cw_seq ?_
  refine cw_region ?_
  refine ow_vals 1 (j := 1) [0, 3, 6] [(0, pP b0), (3, pP b21), (6, pP b0)] rfl (by kernel_rfl) ?_
  obtain ⟨r23, h24, hF⟩ := bind_some hF
  refine ow_pw rfl (pw_call (F := [o4 b21 x1.Keep x1.Tear] ++ F0) rfl rfl rfl rfl rfl rfl rfl (by kernel_rfl) (perm_of_pulls [1, 1, 1, 1] rfl) (c_disk_Disk_why _ 0 m0 p0 c0 p1 b0 r23 h24) ?_)
  rintro _ _ ⟨rfl, rfl⟩
  refine nw_H (H' := [imm I, o0 b0 p0 m0.sure_ c0 p1 m0.off_ m0.armed_ m0.left_ m0.fall_.Keep m0.fall_.Tear m0.acts_ m0.falls_, own e_disk_sector 51 p0 c0 m0.sure_, mpo (kInt .i64) (fun x : disk_sector => Value.agg #[.string x.s_, i6 x.at_]) p1 m0.wait_, o4 b21 x1.Keep x1.Tear] ++ F0) rfl (nw_ow ?_)
  refine ow_vals 1 (j := 3) [0, 3, 5] [(0, pP b0), (3, pP b21), (5, i6 r23)] rfl (by kernel_rfl) ?_
  refine ow_end rfl ?_
  refine ew_then ?_
  refine cw_seq ?_
  refine cw_region ?_
  refine ow_vals 2 (j := 2) [0, 3, 5, 9] [(0, pP b0), (3, pP b21), (5, i6 r23), (9, .bool (r23 != 0))] rfl (by kernel_rfl) ?_
  refine ow_end rfl ?_
  refine ew_then ?_
  rcases if_some hF with ⟨h25, hF⟩ | ⟨h25, hF⟩
  · refine cw_cond_t rfl rfl h25 ?_
    refine cw_seq ?_
    refine cw_region ?_
    refine ow_vals 2 (j := 2) [4] [(4, i6 r23)] rfl (by kernel_rfl) ?_
    refine ow_end rfl ?_
    refine ew_then ?_
    refine cw_ret ?_
    refine ew_then_ret ?_
    have hR := Option.some.inj hF
    subst hR
    exact fin1 (H1 := [imm I, o0 b0 p0 m0.sure_ c0 p1 m0.off_ m0.armed_ m0.left_ m0.fall_.Keep m0.fall_.Tear m0.acts_ m0.falls_, own e_disk_sector 51 p0 c0 m0.sure_, mpo (kInt .i64) (fun x : disk_sector => Value.agg #[.string x.s_, i6 x.at_]) p1 m0.wait_]) (fun w hs => sat_to [4, 0, 0, 0, 0] 1 rfl hs) rfl (rr_tmp rfl) ⟨p0, c0, p1, rfl, rfl⟩
  refine cw_cond_f rfl rfl h25 ?_
  refine cw_skip ?_
  refine ew_then ?_
  refine cw_seq ?_
  refine cw_region ?_
  refine ow_vals 1 (j := 1) [3, 11] [(3, pP b21), (11, pP b0)] rfl (by kernel_rfl) ?_
  refine ow_pw rfl (pw_quiet (v := .agg #[.int .u64 x1.Keep, i6 x1.Tear]) rfl rfl rfl rfl (q_load 4 rfl rfl rfl (by kernel_rfl)) (nw_ow ?_))
  obtain ⟨r26, h27, hF⟩ := bind_some hF
  refine ow_pw rfl (pw_call (F := [o4 b21 x1.Keep x1.Tear] ++ F0) rfl rfl rfl rfl rfl rfl rfl (by kernel_rfl) (perm_of_pulls [0, 0, 0, 0] rfl) (c_disk_Disk_drop _ x1 m0 p0 c0 p1 b0 r26 h27) ?_)
  rintro _ _ ⟨r26_p1, r26_c2, r26_b4, rfl, rfl⟩
  refine nw_H (H' := [imm I, o0 b0 r26_p1 r26.sure_ r26_c2 r26_b4 r26.off_ r26.armed_ r26.left_ r26.fall_.Keep r26.fall_.Tear r26.acts_ r26.falls_, own e_disk_sector 51 r26_p1 r26_c2 r26.sure_, mpo (kInt .i64) (fun x : disk_sector => Value.agg #[.string x.s_, i6 x.at_]) r26_b4 r26.wait_, o4 b21 x1.Keep x1.Tear] ++ F0) rfl (nw_ow ?_)
  refine ow_end rfl ?_
  refine ew_then ?_
  refine cw_seq ?_
  refine cw_region ?_
  refine ow_vals 1 (j := 1) [4] [(4, i6 0)] rfl (by kernel_rfl) ?_
  refine ow_end rfl ?_
  refine ew_then ?_
  refine cw_ret ?_
  have hR := Option.some.inj hF
  subst hR
  exact fin1 (H1 := [imm I, o0 b0 r26_p1 r26.sure_ r26_c2 r26_b4 r26.off_ r26.armed_ r26.left_ r26.fall_.Keep r26.fall_.Tear r26.acts_ r26.falls_, own e_disk_sector 51 r26_p1 r26_c2 r26.sure_, mpo (kInt .i64) (fun x : disk_sector => Value.agg #[.string x.s_, i6 x.at_]) r26_b4 r26.wait_]) (fun w hs => sat_to [4, 0, 0, 0, 0] 1 rfl hs) rfl (rr_tmp rfl) ⟨r26_p1, r26_c2, r26_b4, rfl, rfl⟩


def F.disk_Disk_Calm (m0 : disk_Disk) : Option disk_Disk :=
  some ((⟨m0.sure_, m0.wait_, m0.off_, false, m0.left_, m0.fall_, m0.acts_, m0.falls_⟩ : disk_Disk))
set_option maxRecDepth 100000 in
set_option maxHeartbeats 4000000 in
theorem c_disk_Disk_Calm (I : Hl) (m0 : disk_Disk) (p0 : Option Addr) (c0 : Nat) (p1 : Nat) (b0 : Nat) (res : disk_Disk) (hF : F.disk_Disk_Calm m0 = some res) : Tr Tryz.prog 25 [pP b0] [imm I, o0 b0 p0 m0.sure_ c0 p1 m0.off_ m0.armed_ m0.left_ m0.fall_.Keep m0.fall_.Tear m0.acts_ m0.falls_, own e_disk_sector 51 p0 c0 m0.sure_, mpo (kInt .i64) (fun x : disk_sector => Value.agg #[.string x.s_, i6 x.at_]) p1 m0.wait_] (fun r H' => ∃ (pq1 : Option Addr), ∃ (cq2 : Nat), ∃ (bq4 : Nat), r = .tuple #[] ∧ H' = [imm I, o0 b0 pq1 res.sure_ cq2 bq4 res.off_ res.armed_ res.left_ res.fall_.Keep res.fall_.Tear res.acts_ res.falls_, own e_disk_sector 51 pq1 cq2 res.sure_, mpo (kInt .i64) (fun x : disk_sector => Value.agg #[.string x.s_, i6 x.at_]) bq4 res.wait_]) := by
  unfold F.disk_Disk_Calm at hF
  refine tr_of_cw (fn := Tryz.f25) Tryz.func25 rfl (Nat.le_of_ble_eq_true rfl) 7 rfl fun F0 w0 => ?_
  refine cw_keep [0] (L' := [(0, pP b0)]) rfl ?_
  refine cw_state (S' := SAT w0 ([imm I, o0 b0 p0 m0.sure_ c0 p1 m0.off_ m0.armed_ m0.left_ m0.fall_.Keep m0.fall_.Tear m0.acts_ m0.falls_, own e_disk_sector 51 p0 c0 m0.sure_, mpo (kInt .i64) (fun x : disk_sector => Value.agg #[.string x.s_, i6 x.at_]) p1 m0.wait_] ++ F0)) (fun w hs => hs) ?_
  refine cw_seq ?_
  refine cw_region ?_
  refine ow_vals 2 (j := 2) [0, 3] [(0, pP b0), (3, .bool true)] rfl (by kernel_rfl) ?_
  refine ow_end rfl ?_
  refine ew_then ?_
  refine cw_cond_t rfl rfl rfl ?_
  refine cw_region ?_
  refine ow_vals 3 (j := 3) [6] [(6, .pointer (some ⟨b0, 3, none⟩))] rfl (by kernel_rfl) ?_
  refine ow_pw rfl (pw_store 1 #[.slice p0 m0.sure_.length c0, .map (some p1), .bool m0.off_, .bool false, i6 m0.left_, .int .u64 m0.fall_.Keep, i6 m0.fall_.Tear, i6 m0.acts_, i6 m0.falls_] rfl rfl rfl rfl rfl rfl rfl (by kernel_rfl) (nw_H (H' := [imm I, o0 b0 p0 m0.sure_ c0 p1 m0.off_ false m0.left_ m0.fall_.Keep m0.fall_.Tear m0.acts_ m0.falls_, own e_disk_sector 51 p0 c0 m0.sure_, mpo (kInt .i64) (fun x : disk_sector => Value.agg #[.string x.s_, i6 x.at_]) p1 m0.wait_] ++ F0) rfl (nw_ow ?_)))
  refine ow_end rfl ?_
  have hR := Option.some.inj hF
  subst hR
  exact fin0n (H1 := [imm I, o0 b0 p0 ((⟨m0.sure_, m0.wait_, m0.off_, false, m0.left_, m0.fall_, m0.acts_, m0.falls_⟩ : disk_Disk).sure_) c0 p1 ((⟨m0.sure_, m0.wait_, m0.off_, false, m0.left_, m0.fall_, m0.acts_, m0.falls_⟩ : disk_Disk).off_) ((⟨m0.sure_, m0.wait_, m0.off_, false, m0.left_, m0.fall_, m0.acts_, m0.falls_⟩ : disk_Disk).armed_) ((⟨m0.sure_, m0.wait_, m0.off_, false, m0.left_, m0.fall_, m0.acts_, m0.falls_⟩ : disk_Disk).left_) (((⟨m0.sure_, m0.wait_, m0.off_, false, m0.left_, m0.fall_, m0.acts_, m0.falls_⟩ : disk_Disk).fall_).Keep) (((⟨m0.sure_, m0.wait_, m0.off_, false, m0.left_, m0.fall_, m0.acts_, m0.falls_⟩ : disk_Disk).fall_).Tear) ((⟨m0.sure_, m0.wait_, m0.off_, false, m0.left_, m0.fall_, m0.acts_, m0.falls_⟩ : disk_Disk).acts_) ((⟨m0.sure_, m0.wait_, m0.off_, false, m0.left_, m0.fall_, m0.acts_, m0.falls_⟩ : disk_Disk).falls_), own e_disk_sector 51 p0 c0 ((⟨m0.sure_, m0.wait_, m0.off_, false, m0.left_, m0.fall_, m0.acts_, m0.falls_⟩ : disk_Disk).sure_), mpo (kInt .i64) (fun x : disk_sector => Value.agg #[.string x.s_, i6 x.at_]) p1 ((⟨m0.sure_, m0.wait_, m0.off_, false, m0.left_, m0.fall_, m0.acts_, m0.falls_⟩ : disk_Disk).wait_)]) (fun w hs => sat_to [0, 0, 0, 0] 0 rfl hs) rfl  ⟨p0, c0, p1, rfl, rfl⟩


def F.disk_Disk_Start (m0 : disk_Disk) : Option (Int × disk_Disk) :=
  Option.bind (F.disk_Disk_Size m0) (fun (r21 : Int) => if r21 == 0 then (some ((9, m0))) else (if !m0.off_ then (some ((25, m0))) else (some ((0, (⟨m0.sure_, m0.wait_, false, m0.armed_, m0.left_, m0.fall_, m0.acts_, m0.falls_⟩ : disk_Disk))))))
set_option maxRecDepth 100000 in
set_option maxHeartbeats 4000000 in
theorem c_disk_Disk_Start (I : Hl) (m0 : disk_Disk) (p0 : Option Addr) (c0 : Nat) (p1 : Nat) (b0 : Nat) (res : Int × disk_Disk) (hF : F.disk_Disk_Start m0 = some res) : Tr Tryz.prog 26 [pP b0] [imm I, o0 b0 p0 m0.sure_ c0 p1 m0.off_ m0.armed_ m0.left_ m0.fall_.Keep m0.fall_.Tear m0.acts_ m0.falls_, own e_disk_sector 51 p0 c0 m0.sure_, mpo (kInt .i64) (fun x : disk_sector => Value.agg #[.string x.s_, i6 x.at_]) p1 m0.wait_] (fun r H' => ∃ (pq1 : Option Addr), ∃ (cq2 : Nat), ∃ (bq4 : Nat), r = i6 res.1 ∧ H' = [imm I, o0 b0 pq1 res.2.sure_ cq2 bq4 res.2.off_ res.2.armed_ res.2.left_ res.2.fall_.Keep res.2.fall_.Tear res.2.acts_ res.2.falls_, own e_disk_sector 51 pq1 cq2 res.2.sure_, mpo (kInt .i64) (fun x : disk_sector => Value.agg #[.string x.s_, i6 x.at_]) bq4 res.2.wait_]) := by
  unfold F.disk_Disk_Start at hF
  refine tr_of_cw (fn := Tryz.f26) Tryz.func26 rfl (Nat.le_of_ble_eq_true rfl) 16 rfl fun F0 w0 => ?_
  refine cw_keep [0] (L' := [(0, pP b0)]) rfl ?_
  refine cw_state (S' := SAT w0 ([imm I, o0 b0 p0 m0.sure_ c0 p1 m0.off_ m0.armed_ m0.left_ m0.fall_.Keep m0.fall_.Tear m0.acts_ m0.falls_, own e_disk_sector 51 p0 c0 m0.sure_, mpo (kInt .i64) (fun x : disk_sector => Value.agg #[.string x.s_, i6 x.at_]) p1 m0.wait_] ++ F0)) (fun w hs => hs) ?_
  refine cw_seq ?_
  refine cw_region ?_
  refine ow_vals 1 (j := 1) [0] [(0, pP b0)] rfl (by kernel_rfl) ?_
  refine ow_end rfl ?_
  refine ew_then ?_
  refine cw_seq ?_
  refine cw_block ?_
  refine cw_seq ?_
  refine cw_region ?_
  refine ow_vals 1 (j := 1) [0, 4] [(0, pP b0), (4, pP b0)] rfl (by kernel_rfl) ?_
  obtain ⟨r21, h22, hF⟩ := bind_some hF
  refine ow_pw rfl (pw_call (F := [] ++ F0) rfl rfl rfl rfl rfl rfl rfl (by kernel_rfl) (perm_of_pulls [0, 0, 0, 0] rfl) (c_disk_Disk_Size _ m0 p0 c0 p1 b0 r21 h22) ?_)
  rintro _ _ ⟨rfl, rfl⟩
  refine nw_H (H' := [imm I, o0 b0 p0 m0.sure_ c0 p1 m0.off_ m0.armed_ m0.left_ m0.fall_.Keep m0.fall_.Tear m0.acts_ m0.falls_, own e_disk_sector 51 p0 c0 m0.sure_, mpo (kInt .i64) (fun x : disk_sector => Value.agg #[.string x.s_, i6 x.at_]) p1 m0.wait_] ++ F0) rfl (nw_ow ?_)
  refine ow_vals 2 (j := 4) [0, 3] [(0, pP b0), (3, .bool (r21 == 0))] rfl (by kernel_rfl) ?_
  refine ow_end rfl ?_
  refine ew_then ?_
  rcases if_some hF with ⟨h23, hF⟩ | ⟨h23, hF⟩
  · refine cw_cond_t rfl rfl h23 ?_
    refine cw_seq ?_
    refine cw_region ?_
    refine ow_vals 1 (j := 1) [2] [(2, i6 9)] rfl (by kernel_rfl) ?_
    refine ow_end rfl ?_
    refine ew_then ?_
    refine cw_ret ?_
    refine ew_blk_ret ?_
    refine ew_then_ret ?_
    have hR := Option.some.inj hF
    subst hR
    exact fin1 (H1 := [imm I, o0 b0 p0 m0.sure_ c0 p1 m0.off_ m0.armed_ m0.left_ m0.fall_.Keep m0.fall_.Tear m0.acts_ m0.falls_, own e_disk_sector 51 p0 c0 m0.sure_, mpo (kInt .i64) (fun x : disk_sector => Value.agg #[.string x.s_, i6 x.at_]) p1 m0.wait_]) (fun w hs => sat_to [0, 0, 0, 0] 0 rfl hs) rfl (rr_tmp rfl) ⟨p0, c0, p1, rfl, rfl⟩
  refine cw_cond_f rfl rfl h23 ?_
  refine cw_seq ?_
  refine cw_region ?_
  refine ow_vals 3 (j := 3) [0, 10] [(0, pP b0), (10, .pointer (some ⟨b0, 2, none⟩))] rfl (by kernel_rfl) ?_
  refine ow_pw rfl (pw_quiet (v := .bool m0.off_) rfl rfl rfl rfl (q_load 1 rfl rfl rfl (by kernel_rfl)) (nw_ow ?_))
  refine ow_vals 2 (j := 6) [0, 7] [(0, pP b0), (7, .bool (!m0.off_))] rfl (by kernel_rfl) ?_
  refine ow_end rfl ?_
  refine ew_then ?_
  rcases if_some hF with ⟨h24, hF⟩ | ⟨h24, hF⟩
  · refine cw_cond_t rfl rfl h24 ?_
    refine cw_seq ?_
    refine cw_region ?_
    refine ow_vals 1 (j := 1) [2] [(2, i6 25)] rfl (by kernel_rfl) ?_
    refine ow_end rfl ?_
    refine ew_then ?_
    refine cw_ret ?_
    refine ew_blk_ret ?_
    refine ew_then_ret ?_
    have hR := Option.some.inj hF
    subst hR
    exact fin1 (H1 := [imm I, o0 b0 p0 m0.sure_ c0 p1 m0.off_ m0.armed_ m0.left_ m0.fall_.Keep m0.fall_.Tear m0.acts_ m0.falls_, own e_disk_sector 51 p0 c0 m0.sure_, mpo (kInt .i64) (fun x : disk_sector => Value.agg #[.string x.s_, i6 x.at_]) p1 m0.wait_]) (fun w hs => sat_to [0, 0, 0, 0] 0 rfl hs) rfl (rr_tmp rfl) ⟨p0, c0, p1, rfl, rfl⟩
  refine cw_cond_f rfl rfl h24 ?_
  refine cw_skip ?_
  refine ew_blk ?_
  refine ew_then ?_
  refine cw_seq ?_
  refine cw_region ?_
  refine ow_vals 3 (j := 3) [15] [(15, .pointer (some ⟨b0, 2, none⟩))] rfl (by kernel_rfl) ?_
  refine ow_pw rfl (pw_store 1 #[.slice p0 m0.sure_.length c0, .map (some p1), .bool false, .bool m0.armed_, i6 m0.left_, .int .u64 m0.fall_.Keep, i6 m0.fall_.Tear, i6 m0.acts_, i6 m0.falls_] rfl rfl rfl rfl rfl rfl rfl (by kernel_rfl) (nw_H (H' := [imm I, o0 b0 p0 m0.sure_ c0 p1 false m0.armed_ m0.left_ m0.fall_.Keep m0.fall_.Tear m0.acts_ m0.falls_, own e_disk_sector 51 p0 c0 m0.sure_, mpo (kInt .i64) (fun x : disk_sector => Value.agg #[.string x.s_, i6 x.at_]) p1 m0.wait_] ++ F0) rfl (nw_ow ?_)))
  refine ow_end rfl ?_
  refine ew_then ?_
  refine cw_seq ?_
  refine cw_region ?_
  refine ow_vals 1 (j := 1) [2] [(2, i6 0)] rfl (by kernel_rfl) ?_
  refine ow_end rfl ?_
  refine ew_then ?_
  refine cw_ret ?_
  have hR := Option.some.inj hF
  subst hR
  exact fin1 (H1 := [imm I, o0 b0 p0 ((⟨m0.sure_, m0.wait_, false, m0.armed_, m0.left_, m0.fall_, m0.acts_, m0.falls_⟩ : disk_Disk).sure_) c0 p1 ((⟨m0.sure_, m0.wait_, false, m0.armed_, m0.left_, m0.fall_, m0.acts_, m0.falls_⟩ : disk_Disk).off_) ((⟨m0.sure_, m0.wait_, false, m0.armed_, m0.left_, m0.fall_, m0.acts_, m0.falls_⟩ : disk_Disk).armed_) ((⟨m0.sure_, m0.wait_, false, m0.armed_, m0.left_, m0.fall_, m0.acts_, m0.falls_⟩ : disk_Disk).left_) (((⟨m0.sure_, m0.wait_, false, m0.armed_, m0.left_, m0.fall_, m0.acts_, m0.falls_⟩ : disk_Disk).fall_).Keep) (((⟨m0.sure_, m0.wait_, false, m0.armed_, m0.left_, m0.fall_, m0.acts_, m0.falls_⟩ : disk_Disk).fall_).Tear) ((⟨m0.sure_, m0.wait_, false, m0.armed_, m0.left_, m0.fall_, m0.acts_, m0.falls_⟩ : disk_Disk).acts_) ((⟨m0.sure_, m0.wait_, false, m0.armed_, m0.left_, m0.fall_, m0.acts_, m0.falls_⟩ : disk_Disk).falls_), own e_disk_sector 51 p0 c0 ((⟨m0.sure_, m0.wait_, false, m0.armed_, m0.left_, m0.fall_, m0.acts_, m0.falls_⟩ : disk_Disk).sure_), mpo (kInt .i64) (fun x : disk_sector => Value.agg #[.string x.s_, i6 x.at_]) p1 ((⟨m0.sure_, m0.wait_, false, m0.armed_, m0.left_, m0.fall_, m0.acts_, m0.falls_⟩ : disk_Disk).wait_)]) (fun w hs => sat_to [0, 0, 0, 0] 0 rfl hs) rfl (rr_tmp rfl) ⟨p0, c0, p1, rfl, rfl⟩


def F.journal_Journal_Records (m0 : journal_Journal) (m1 : guard_Guard) (m2 : disk_Disk) : Option (List ByteArray) :=
  Option.bind (F.journal_Journal_none m0 m1 m2) (fun (r21 : Bool) => if r21 then (some (([] : List ByteArray))) else (chk (room (([] : List ByteArray).length + m0.list_.length) 16) (some ((([] : List ByteArray) ++ m0.list_)))))
set_option maxRecDepth 100000 in
set_option maxHeartbeats 4000000 in
theorem c_journal_Journal_Records (I : Hl) (m0 : journal_Journal) (m1 : guard_Guard) (m2 : disk_Disk) (p0 : Option Addr) (c0 : Nat) (b0 : Nat) (b1 : Nat) (p1 : Option Addr) (c1 : Nat) (p2 : Nat) (b2 : Nat) (res : (List ByteArray)) (hF : F.journal_Journal_Records m0 m1 m2 = some res) : Tr Tryz.prog 27 [pP b0] [imm I, o3 b0 b1 m0.base_ m0.size_ m0.next_ m0.last_ p0 m0.list_ c0 m0.sure_ m0.dead_, o1 b1 b2 m1.boot_ m1.n_, o0 b2 p1 m2.sure_ c1 p2 m2.off_ m2.armed_ m2.left_ m2.fall_.Keep m2.fall_.Tear m2.acts_ m2.falls_, own eStr 9 p0 c0 m0.list_, own e_disk_sector 51 p1 c1 m2.sure_, mpo (kInt .i64) (fun x : disk_sector => Value.agg #[.string x.s_, i6 x.at_]) p2 m2.wait_] (fun r H' => ∃ (pq1 : Option Addr), ∃ (cq2 : Nat), r = .slice pq1 res.length cq2 ∧ H' = [imm I, o3 b0 b1 m0.base_ m0.size_ m0.next_ m0.last_ p0 m0.list_ c0 m0.sure_ m0.dead_, o1 b1 b2 m1.boot_ m1.n_, o0 b2 p1 m2.sure_ c1 p2 m2.off_ m2.armed_ m2.left_ m2.fall_.Keep m2.fall_.Tear m2.acts_ m2.falls_, own eStr 9 pq1 cq2 res, own eStr 9 p0 c0 m0.list_, own e_disk_sector 51 p1 c1 m2.sure_, mpo (kInt .i64) (fun x : disk_sector => Value.agg #[.string x.s_, i6 x.at_]) p2 m2.wait_]) := by
  unfold F.journal_Journal_Records at hF
  refine tr_of_cw (fn := Tryz.f27) Tryz.func27 rfl (Nat.le_of_ble_eq_true rfl) 10 rfl fun F0 w0 => ?_
  refine cw_keep [0] (L' := [(0, pP b0)]) rfl ?_
  refine cw_state (S' := SAT w0 ([imm I, o3 b0 b1 m0.base_ m0.size_ m0.next_ m0.last_ p0 m0.list_ c0 m0.sure_ m0.dead_, o1 b1 b2 m1.boot_ m1.n_, o0 b2 p1 m2.sure_ c1 p2 m2.off_ m2.armed_ m2.left_ m2.fall_.Keep m2.fall_.Tear m2.acts_ m2.falls_, own eStr 9 p0 c0 m0.list_, own e_disk_sector 51 p1 c1 m2.sure_, mpo (kInt .i64) (fun x : disk_sector => Value.agg #[.string x.s_, i6 x.at_]) p2 m2.wait_] ++ F0)) (fun w hs => hs) ?_
  refine cw_seq ?_
  refine cw_region ?_
  refine ow_vals 1 (j := 1) [0] [(0, pP b0)] rfl (by kernel_rfl) ?_
  refine ow_end rfl ?_
  refine ew_then ?_
  refine cw_seq ?_
  refine cw_seq ?_
  refine cw_region ?_
  refine ow_vals 1 (j := 1) [0, 3] [(0, pP b0), (3, pP b0)] rfl (by kernel_rfl) ?_
  obtain ⟨r21, h22, hF⟩ := bind_some hF
  refine ow_pw rfl (pw_call (F := [] ++ F0) rfl rfl rfl rfl rfl rfl rfl (by kernel_rfl) (perm_of_pulls [0, 0, 0, 0, 0, 0, 0] rfl) (c_journal_Journal_none _ m0 m1 m2 p0 c0 b0 b1 p1 c1 p2 b2 r21 h22) ?_)
  rintro _ _ ⟨rfl, rfl⟩
  refine nw_H (H' := [imm I, o3 b0 b1 m0.base_ m0.size_ m0.next_ m0.last_ p0 m0.list_ c0 m0.sure_ m0.dead_, o1 b1 b2 m1.boot_ m1.n_, o0 b2 p1 m2.sure_ c1 p2 m2.off_ m2.armed_ m2.left_ m2.fall_.Keep m2.fall_.Tear m2.acts_ m2.falls_, own eStr 9 p0 c0 m0.list_, own e_disk_sector 51 p1 c1 m2.sure_, mpo (kInt .i64) (fun x : disk_sector => Value.agg #[.string x.s_, i6 x.at_]) p2 m2.wait_] ++ F0) rfl (nw_ow ?_)
  refine ow_end rfl ?_
  refine ew_then ?_
  rcases if_some hF with ⟨h23, hF⟩ | ⟨h23, hF⟩
  · refine cw_cond_t rfl rfl h23 ?_
    refine cw_seq ?_
    refine cw_region ?_
    refine ow_vals 1 (j := 1) [2] [(2, .slice none 0 0)] rfl (by kernel_rfl) ?_
    refine ow_end rfl ?_
    refine ew_then ?_
    refine cw_ret ?_
    refine ew_then_ret ?_
    have hR := Option.some.inj hF
    subst hR
    exact fin1 (H1 := [imm I, o3 b0 b1 m0.base_ m0.size_ m0.next_ m0.last_ p0 m0.list_ c0 m0.sure_ m0.dead_, o1 b1 b2 m1.boot_ m1.n_, o0 b2 p1 m2.sure_ c1 p2 m2.off_ m2.armed_ m2.left_ m2.fall_.Keep m2.fall_.Tear m2.acts_ m2.falls_, own eStr 9 none 0 ([] : List ByteArray), own eStr 9 p0 c0 m0.list_, own e_disk_sector 51 p1 c1 m2.sure_, mpo (kInt .i64) (fun x : disk_sector => Value.agg #[.string x.s_, i6 x.at_]) p2 m2.wait_]) (fun w hs => sat_to [1, 1, 1, 1, 0, 0, 0, 0] 0 rfl (sat_own_nil eStr 9 hs)) rfl (rr_tmp rfl) ⟨none, 0, rfl, rfl⟩
  refine cw_cond_f rfl rfl h23 ?_
  refine cw_skip ?_
  refine ew_then ?_
  refine cw_seq ?_
  refine cw_region ?_
  refine ow_vals 3 (j := 3) [7] [(7, .pointer (some ⟨b0, 5, none⟩))] rfl (by kernel_rfl) ?_
  refine ow_pw rfl (pw_quiet (v := .slice p0 m0.list_.length c0) rfl rfl rfl rfl (q_load 1 rfl rfl rfl (by kernel_rfl)) (nw_ow ?_))
  refine ow_state (S' := SAT w0 ([own eStr 9 none 0 ([] : List ByteArray), imm I, o3 b0 b1 m0.base_ m0.size_ m0.next_ m0.last_ p0 m0.list_ c0 m0.sure_ m0.dead_, o1 b1 b2 m1.boot_ m1.n_, o0 b2 p1 m2.sure_ c1 p2 m2.off_ m2.armed_ m2.left_ m2.fall_.Keep m2.fall_.Tear m2.acts_ m2.falls_, own eStr 9 p0 c0 m0.list_, own e_disk_sector 51 p1 c1 m2.sure_, mpo (kInt .i64) (fun x : disk_sector => Value.agg #[.string x.s_, i6 x.at_]) p2 m2.wait_] ++ F0)) (fun w hs => (sat_own_nil eStr 9 hs)) ?_
  obtain ⟨h25, hF⟩ := chk_some hF
  refine ow_pw rfl (pw_append 0 (l' := m0.list_) rfl rfl rfl rfl rfl rfl (by kernel_rfl) (by kernel_rfl) rfl rfl rfl (src_own (E' := 9) 5 rfl (by kernel_rfl) rfl) rfl h25.1 h25.2 fun p26 c27 => nw_H (H' := [own eStr 9 p26 c27 (([] : List ByteArray) ++ m0.list_), imm I, o3 b0 b1 m0.base_ m0.size_ m0.next_ m0.last_ p0 m0.list_ c0 m0.sure_ m0.dead_, o1 b1 b2 m1.boot_ m1.n_, o0 b2 p1 m2.sure_ c1 p2 m2.off_ m2.armed_ m2.left_ m2.fall_.Keep m2.fall_.Tear m2.acts_ m2.falls_, own eStr 9 p0 c0 m0.list_, own e_disk_sector 51 p1 c1 m2.sure_, mpo (kInt .i64) (fun x : disk_sector => Value.agg #[.string x.s_, i6 x.at_]) p2 m2.wait_] ++ F0) rfl (nw_ow ?_))
  refine ow_vals 1 (j := 6) [2] [(2, .slice p26 (([] : List ByteArray) ++ m0.list_).length c27)] rfl (by kernel_rfl) ?_
  refine ow_end rfl ?_
  refine ew_then ?_
  refine cw_ret ?_
  have hR := Option.some.inj hF
  subst hR
  exact fin1 (H1 := [imm I, o3 b0 b1 m0.base_ m0.size_ m0.next_ m0.last_ p0 m0.list_ c0 m0.sure_ m0.dead_, o1 b1 b2 m1.boot_ m1.n_, o0 b2 p1 m2.sure_ c1 p2 m2.off_ m2.armed_ m2.left_ m2.fall_.Keep m2.fall_.Tear m2.acts_ m2.falls_, own eStr 9 p26 c27 (([] : List ByteArray) ++ m0.list_), own eStr 9 p0 c0 m0.list_, own e_disk_sector 51 p1 c1 m2.sure_, mpo (kInt .i64) (fun x : disk_sector => Value.agg #[.string x.s_, i6 x.at_]) p2 m2.wait_]) (fun w hs => sat_to [1, 1, 1, 1, 0, 0, 0, 0] 0 rfl hs) rfl (rr_tmp rfl) ⟨p26, c27, rfl, rfl⟩


def F.journal_Journal_Sure (m0 : journal_Journal) (m1 : guard_Guard) (m2 : disk_Disk) : Option Int :=
  Option.bind (F.journal_Journal_none m0 m1 m2) (fun (r21 : Bool) => if r21 then (some (0)) else (some (m0.sure_)))
set_option maxRecDepth 100000 in
set_option maxHeartbeats 4000000 in
theorem c_journal_Journal_Sure (I : Hl) (m0 : journal_Journal) (m1 : guard_Guard) (m2 : disk_Disk) (p0 : Option Addr) (c0 : Nat) (b0 : Nat) (b1 : Nat) (p1 : Option Addr) (c1 : Nat) (p2 : Nat) (b2 : Nat) (res : Int) (hF : F.journal_Journal_Sure m0 m1 m2 = some res) : Tr Tryz.prog 29 [pP b0] [imm I, o3 b0 b1 m0.base_ m0.size_ m0.next_ m0.last_ p0 m0.list_ c0 m0.sure_ m0.dead_, o1 b1 b2 m1.boot_ m1.n_, o0 b2 p1 m2.sure_ c1 p2 m2.off_ m2.armed_ m2.left_ m2.fall_.Keep m2.fall_.Tear m2.acts_ m2.falls_, own eStr 9 p0 c0 m0.list_, own e_disk_sector 51 p1 c1 m2.sure_, mpo (kInt .i64) (fun x : disk_sector => Value.agg #[.string x.s_, i6 x.at_]) p2 m2.wait_] (fun r H' => r = i6 res ∧ H' = [imm I, o3 b0 b1 m0.base_ m0.size_ m0.next_ m0.last_ p0 m0.list_ c0 m0.sure_ m0.dead_, o1 b1 b2 m1.boot_ m1.n_, o0 b2 p1 m2.sure_ c1 p2 m2.off_ m2.armed_ m2.left_ m2.fall_.Keep m2.fall_.Tear m2.acts_ m2.falls_, own eStr 9 p0 c0 m0.list_, own e_disk_sector 51 p1 c1 m2.sure_, mpo (kInt .i64) (fun x : disk_sector => Value.agg #[.string x.s_, i6 x.at_]) p2 m2.wait_]) := by
  unfold F.journal_Journal_Sure at hF
  refine tr_of_cw (fn := Tryz.f29) Tryz.func29 rfl (Nat.le_of_ble_eq_true rfl) 9 rfl fun F0 w0 => ?_
  refine cw_keep [0] (L' := [(0, pP b0)]) rfl ?_
  refine cw_state (S' := SAT w0 ([imm I, o3 b0 b1 m0.base_ m0.size_ m0.next_ m0.last_ p0 m0.list_ c0 m0.sure_ m0.dead_, o1 b1 b2 m1.boot_ m1.n_, o0 b2 p1 m2.sure_ c1 p2 m2.off_ m2.armed_ m2.left_ m2.fall_.Keep m2.fall_.Tear m2.acts_ m2.falls_, own eStr 9 p0 c0 m0.list_, own e_disk_sector 51 p1 c1 m2.sure_, mpo (kInt .i64) (fun x : disk_sector => Value.agg #[.string x.s_, i6 x.at_]) p2 m2.wait_] ++ F0)) (fun w hs => hs) ?_
  refine cw_seq ?_
  refine cw_region ?_
  refine ow_vals 1 (j := 1) [0] [(0, pP b0)] rfl (by kernel_rfl) ?_
  refine ow_end rfl ?_
  refine ew_then ?_
  refine cw_seq ?_
  refine cw_seq ?_
  refine cw_region ?_
  refine ow_vals 1 (j := 1) [0, 3] [(0, pP b0), (3, pP b0)] rfl (by kernel_rfl) ?_
  obtain ⟨r21, h22, hF⟩ := bind_some hF
  refine ow_pw rfl (pw_call (F := [] ++ F0) rfl rfl rfl rfl rfl rfl rfl (by kernel_rfl) (perm_of_pulls [0, 0, 0, 0, 0, 0, 0] rfl) (c_journal_Journal_none _ m0 m1 m2 p0 c0 b0 b1 p1 c1 p2 b2 r21 h22) ?_)
  rintro _ _ ⟨rfl, rfl⟩
  refine nw_H (H' := [imm I, o3 b0 b1 m0.base_ m0.size_ m0.next_ m0.last_ p0 m0.list_ c0 m0.sure_ m0.dead_, o1 b1 b2 m1.boot_ m1.n_, o0 b2 p1 m2.sure_ c1 p2 m2.off_ m2.armed_ m2.left_ m2.fall_.Keep m2.fall_.Tear m2.acts_ m2.falls_, own eStr 9 p0 c0 m0.list_, own e_disk_sector 51 p1 c1 m2.sure_, mpo (kInt .i64) (fun x : disk_sector => Value.agg #[.string x.s_, i6 x.at_]) p2 m2.wait_] ++ F0) rfl (nw_ow ?_)
  refine ow_end rfl ?_
  refine ew_then ?_
  rcases if_some hF with ⟨h23, hF⟩ | ⟨h23, hF⟩
  · refine cw_cond_t rfl rfl h23 ?_
    refine cw_seq ?_
    refine cw_region ?_
    refine ow_vals 1 (j := 1) [2] [(2, i6 0)] rfl (by kernel_rfl) ?_
    refine ow_end rfl ?_
    refine ew_then ?_
    refine cw_ret ?_
    refine ew_then_ret ?_
    have hR := Option.some.inj hF
    subst hR
    exact fin1 (H1 := [imm I, o3 b0 b1 m0.base_ m0.size_ m0.next_ m0.last_ p0 m0.list_ c0 m0.sure_ m0.dead_, o1 b1 b2 m1.boot_ m1.n_, o0 b2 p1 m2.sure_ c1 p2 m2.off_ m2.armed_ m2.left_ m2.fall_.Keep m2.fall_.Tear m2.acts_ m2.falls_, own eStr 9 p0 c0 m0.list_, own e_disk_sector 51 p1 c1 m2.sure_, mpo (kInt .i64) (fun x : disk_sector => Value.agg #[.string x.s_, i6 x.at_]) p2 m2.wait_]) (fun w hs => sat_to [0, 0, 0, 0, 0, 0, 0] 0 rfl hs) rfl (rr_tmp rfl) ⟨rfl, rfl⟩
  refine cw_cond_f rfl rfl h23 ?_
  refine cw_skip ?_
  refine ew_then ?_
  refine cw_seq ?_
  refine cw_region ?_
  refine ow_vals 3 (j := 3) [7] [(7, .pointer (some ⟨b0, 6, none⟩))] rfl (by kernel_rfl) ?_
  refine ow_pw rfl (pw_quiet (v := i6 m0.sure_) rfl rfl rfl rfl (q_load 1 rfl rfl rfl (by kernel_rfl)) (nw_ow ?_))
  refine ow_vals 1 (j := 5) [2] [(2, i6 m0.sure_)] rfl (by kernel_rfl) ?_
  refine ow_end rfl ?_
  refine ew_then ?_
  refine cw_ret ?_
  have hR := Option.some.inj hF
  subst hR
  exact fin1 (H1 := [imm I, o3 b0 b1 m0.base_ m0.size_ m0.next_ m0.last_ p0 m0.list_ c0 m0.sure_ m0.dead_, o1 b1 b2 m1.boot_ m1.n_, o0 b2 p1 m2.sure_ c1 p2 m2.off_ m2.armed_ m2.left_ m2.fall_.Keep m2.fall_.Tear m2.acts_ m2.falls_, own eStr 9 p0 c0 m0.list_, own e_disk_sector 51 p1 c1 m2.sure_, mpo (kInt .i64) (fun x : disk_sector => Value.agg #[.string x.s_, i6 x.at_]) p2 m2.wait_]) (fun w hs => sat_to [0, 0, 0, 0, 0, 0, 0] 0 rfl hs) rfl (rr_tmp rfl) ⟨rfl, rfl⟩


def F.journal_Journal_Used (m0 : journal_Journal) (m1 : guard_Guard) (m2 : disk_Disk) : Option Int :=
  Option.bind (F.journal_Journal_none m0 m1 m2) (fun (r21 : Bool) => if r21 then (some (0)) else (some (m0.next_)))
set_option maxRecDepth 100000 in
set_option maxHeartbeats 4000000 in
theorem c_journal_Journal_Used (I : Hl) (m0 : journal_Journal) (m1 : guard_Guard) (m2 : disk_Disk) (p0 : Option Addr) (c0 : Nat) (b0 : Nat) (b1 : Nat) (p1 : Option Addr) (c1 : Nat) (p2 : Nat) (b2 : Nat) (res : Int) (hF : F.journal_Journal_Used m0 m1 m2 = some res) : Tr Tryz.prog 30 [pP b0] [imm I, o3 b0 b1 m0.base_ m0.size_ m0.next_ m0.last_ p0 m0.list_ c0 m0.sure_ m0.dead_, o1 b1 b2 m1.boot_ m1.n_, o0 b2 p1 m2.sure_ c1 p2 m2.off_ m2.armed_ m2.left_ m2.fall_.Keep m2.fall_.Tear m2.acts_ m2.falls_, own eStr 9 p0 c0 m0.list_, own e_disk_sector 51 p1 c1 m2.sure_, mpo (kInt .i64) (fun x : disk_sector => Value.agg #[.string x.s_, i6 x.at_]) p2 m2.wait_] (fun r H' => r = i6 res ∧ H' = [imm I, o3 b0 b1 m0.base_ m0.size_ m0.next_ m0.last_ p0 m0.list_ c0 m0.sure_ m0.dead_, o1 b1 b2 m1.boot_ m1.n_, o0 b2 p1 m2.sure_ c1 p2 m2.off_ m2.armed_ m2.left_ m2.fall_.Keep m2.fall_.Tear m2.acts_ m2.falls_, own eStr 9 p0 c0 m0.list_, own e_disk_sector 51 p1 c1 m2.sure_, mpo (kInt .i64) (fun x : disk_sector => Value.agg #[.string x.s_, i6 x.at_]) p2 m2.wait_]) := by
  unfold F.journal_Journal_Used at hF
  refine tr_of_cw (fn := Tryz.f30) Tryz.func30 rfl (Nat.le_of_ble_eq_true rfl) 9 rfl fun F0 w0 => ?_
  refine cw_keep [0] (L' := [(0, pP b0)]) rfl ?_
  refine cw_state (S' := SAT w0 ([imm I, o3 b0 b1 m0.base_ m0.size_ m0.next_ m0.last_ p0 m0.list_ c0 m0.sure_ m0.dead_, o1 b1 b2 m1.boot_ m1.n_, o0 b2 p1 m2.sure_ c1 p2 m2.off_ m2.armed_ m2.left_ m2.fall_.Keep m2.fall_.Tear m2.acts_ m2.falls_, own eStr 9 p0 c0 m0.list_, own e_disk_sector 51 p1 c1 m2.sure_, mpo (kInt .i64) (fun x : disk_sector => Value.agg #[.string x.s_, i6 x.at_]) p2 m2.wait_] ++ F0)) (fun w hs => hs) ?_
  refine cw_seq ?_
  refine cw_region ?_
  refine ow_vals 1 (j := 1) [0] [(0, pP b0)] rfl (by kernel_rfl) ?_
  refine ow_end rfl ?_
  refine ew_then ?_
  refine cw_seq ?_
  refine cw_seq ?_
  refine cw_region ?_
  refine ow_vals 1 (j := 1) [0, 3] [(0, pP b0), (3, pP b0)] rfl (by kernel_rfl) ?_
  obtain ⟨r21, h22, hF⟩ := bind_some hF
  refine ow_pw rfl (pw_call (F := [] ++ F0) rfl rfl rfl rfl rfl rfl rfl (by kernel_rfl) (perm_of_pulls [0, 0, 0, 0, 0, 0, 0] rfl) (c_journal_Journal_none _ m0 m1 m2 p0 c0 b0 b1 p1 c1 p2 b2 r21 h22) ?_)
  rintro _ _ ⟨rfl, rfl⟩
  refine nw_H (H' := [imm I, o3 b0 b1 m0.base_ m0.size_ m0.next_ m0.last_ p0 m0.list_ c0 m0.sure_ m0.dead_, o1 b1 b2 m1.boot_ m1.n_, o0 b2 p1 m2.sure_ c1 p2 m2.off_ m2.armed_ m2.left_ m2.fall_.Keep m2.fall_.Tear m2.acts_ m2.falls_, own eStr 9 p0 c0 m0.list_, own e_disk_sector 51 p1 c1 m2.sure_, mpo (kInt .i64) (fun x : disk_sector => Value.agg #[.string x.s_, i6 x.at_]) p2 m2.wait_] ++ F0) rfl (nw_ow ?_)
  refine ow_end rfl ?_
  refine ew_then ?_
  rcases if_some hF with ⟨h23, hF⟩ | ⟨h23, hF⟩
  · refine cw_cond_t rfl rfl h23 ?_
    refine cw_seq ?_
    refine cw_region ?_
    refine ow_vals 1 (j := 1) [2] [(2, i6 0)] rfl (by kernel_rfl) ?_
    refine ow_end rfl ?_
    refine ew_then ?_
    refine cw_ret ?_
    refine ew_then_ret ?_
    have hR := Option.some.inj hF
    subst hR
    exact fin1 (H1 := [imm I, o3 b0 b1 m0.base_ m0.size_ m0.next_ m0.last_ p0 m0.list_ c0 m0.sure_ m0.dead_, o1 b1 b2 m1.boot_ m1.n_, o0 b2 p1 m2.sure_ c1 p2 m2.off_ m2.armed_ m2.left_ m2.fall_.Keep m2.fall_.Tear m2.acts_ m2.falls_, own eStr 9 p0 c0 m0.list_, own e_disk_sector 51 p1 c1 m2.sure_, mpo (kInt .i64) (fun x : disk_sector => Value.agg #[.string x.s_, i6 x.at_]) p2 m2.wait_]) (fun w hs => sat_to [0, 0, 0, 0, 0, 0, 0] 0 rfl hs) rfl (rr_tmp rfl) ⟨rfl, rfl⟩
  refine cw_cond_f rfl rfl h23 ?_
  refine cw_skip ?_
  refine ew_then ?_
  refine cw_seq ?_
  refine cw_region ?_
  refine ow_vals 3 (j := 3) [7] [(7, .pointer (some ⟨b0, 3, none⟩))] rfl (by kernel_rfl) ?_
  refine ow_pw rfl (pw_quiet (v := i6 m0.next_) rfl rfl rfl rfl (q_load 1 rfl rfl rfl (by kernel_rfl)) (nw_ow ?_))
  refine ow_vals 1 (j := 5) [2] [(2, i6 m0.next_)] rfl (by kernel_rfl) ?_
  refine ow_end rfl ?_
  refine ew_then ?_
  refine cw_ret ?_
  have hR := Option.some.inj hF
  subst hR
  exact fin1 (H1 := [imm I, o3 b0 b1 m0.base_ m0.size_ m0.next_ m0.last_ p0 m0.list_ c0 m0.sure_ m0.dead_, o1 b1 b2 m1.boot_ m1.n_, o0 b2 p1 m2.sure_ c1 p2 m2.off_ m2.armed_ m2.left_ m2.fall_.Keep m2.fall_.Tear m2.acts_ m2.falls_, own eStr 9 p0 c0 m0.list_, own e_disk_sector 51 p1 c1 m2.sure_, mpo (kInt .i64) (fun x : disk_sector => Value.agg #[.string x.s_, i6 x.at_]) p2 m2.wait_]) (fun w hs => sat_to [0, 0, 0, 0, 0, 0, 0] 0 rfl hs) rfl (rr_tmp rfl) ⟨rfl, rfl⟩


def F.law12_holds.l2 (m3 : law12_plain) (r21 : (List ByteArray)) (x41 : Int) : Option ((Int) ⊕ ((Unit) ⊕ (Bool))) :=
  if decide (x41 < (r21.length : Int)) then (Option.bind (at_ r21 x41) (fun (y43 : ByteArray) => Option.bind (at_ m3.l_ x41) (fun (y45 : ByteArray) => if !(seqB y43 y45) then (some (.inr (.inr (false)))) else (some (.inl (IntKind.i64.wrap (x41 + 1))))))) else (some (.inr (.inl ())))
def F.law12_holds.r3 : Option (Bool) :=
  some (true)
def F.law12_holds.r1 (m3 : law12_plain) (r21 : (List ByteArray)) : Option (Bool) :=
  thru (iter (fun x => F.law12_holds.l2 m3 r21 x) FUEL 0) (fun x => F.law12_holds.r3)
def F.law12_holds (m0 : journal_Journal) (m1 : guard_Guard) (m2 : disk_Disk) (m3 : law12_plain) : Option Bool :=
  Option.bind (F.journal_Journal_Records m0 m1 m2) (fun (r21 : (List ByteArray)) => thru (if (r21.length : Int) != (m3.l_.length : Int) then (some (.inr (false))) else (Option.bind (F.journal_Journal_Sure m0 m1 m2) (fun (r26 : Int) => if r26 != m3.sure_ then (some (.inr (false))) else (Option.bind (F.journal_Journal_Used m0 m1 m2) (fun (r29 : Int) => Option.bind (F.law12_plain_used m3) (fun (r31 : Int) => if r29 != r31 then (some (.inr (false))) else (Option.bind (F.journal_Journal_Left m0 m1 m2) (fun (r34 : Int) => Option.bind (F.law12_plain_used m3) (fun (r36 : Int) => if r34 != (IntKind.i64.wrap (60 - r36)) then (some (.inr (false))) else (some (.inl ()))))))))))) (fun x => F.law12_holds.r1 m3 r21))
set_option maxRecDepth 100000 in
set_option maxHeartbeats 4000000 in
theorem c_law12_holds (I : Hl) (m0 : journal_Journal) (m1 : guard_Guard) (m2 : disk_Disk) (m3 : law12_plain) (p0 : Option Addr) (c0 : Nat) (b0 : Nat) (b1 : Nat) (p1 : Option Addr) (c1 : Nat) (p2 : Nat) (b2 : Nat) (p3 : Option Addr) (c3 : Nat) (b3 : Nat) (res : Bool) (hF : F.law12_holds m0 m1 m2 m3 = some res) : Tr Tryz.prog 11 [pP b0, pP b3] [imm I, o3 b0 b1 m0.base_ m0.size_ m0.next_ m0.last_ p0 m0.list_ c0 m0.sure_ m0.dead_, o1 b1 b2 m1.boot_ m1.n_, o0 b2 p1 m2.sure_ c1 p2 m2.off_ m2.armed_ m2.left_ m2.fall_.Keep m2.fall_.Tear m2.acts_ m2.falls_, o5 b3 p3 m3.l_ c3 m3.sure_ m3.boot_, own eStr 9 p0 c0 m0.list_, own e_disk_sector 51 p1 c1 m2.sure_, mpo (kInt .i64) (fun x : disk_sector => Value.agg #[.string x.s_, i6 x.at_]) p2 m2.wait_, own eStr 9 p3 c3 m3.l_] (fun r H' => r = .bool res ∧ H' = [imm I, o3 b0 b1 m0.base_ m0.size_ m0.next_ m0.last_ p0 m0.list_ c0 m0.sure_ m0.dead_, o1 b1 b2 m1.boot_ m1.n_, o0 b2 p1 m2.sure_ c1 p2 m2.off_ m2.armed_ m2.left_ m2.fall_.Keep m2.fall_.Tear m2.acts_ m2.falls_, o5 b3 p3 m3.l_ c3 m3.sure_ m3.boot_, own eStr 9 p0 c0 m0.list_, own e_disk_sector 51 p1 c1 m2.sure_, mpo (kInt .i64) (fun x : disk_sector => Value.agg #[.string x.s_, i6 x.at_]) p2 m2.wait_, own eStr 9 p3 c3 m3.l_]) := by
  unfold F.law12_holds at hF
  refine tr_of_cw (fn := Tryz.f11) Tryz.func11 rfl (Nat.le_of_ble_eq_true rfl) 59 rfl fun F0 w0 => ?_
  refine cw_keep [0, 1] (L' := [(0, pP b0), (1, pP b3)]) rfl ?_
  refine cw_state (S' := SAT w0 ([imm I, o3 b0 b1 m0.base_ m0.size_ m0.next_ m0.last_ p0 m0.list_ c0 m0.sure_ m0.dead_, o1 b1 b2 m1.boot_ m1.n_, o0 b2 p1 m2.sure_ c1 p2 m2.off_ m2.armed_ m2.left_ m2.fall_.Keep m2.fall_.Tear m2.acts_ m2.falls_, o5 b3 p3 m3.l_ c3 m3.sure_ m3.boot_, own eStr 9 p0 c0 m0.list_, own e_disk_sector 51 p1 c1 m2.sure_, mpo (kInt .i64) (fun x : disk_sector => Value.agg #[.string x.s_, i6 x.at_]) p2 m2.wait_, own eStr 9 p3 c3 m3.l_] ++ F0)) (fun w hs => hs) ?_
  refine cw_seq ?_
  refine cw_region ?_
  refine ow_vals 1 (j := 1) [0, 1] [(0, pP b0), (1, pP b3)] rfl (by kernel_rfl) ?_
  refine ow_end rfl ?_
  refine ew_then ?_
  refine cw_seq ?_
  refine cw_region ?_
  refine ow_vals 1 (j := 1) [0, 1, 7] [(0, pP b0), (1, pP b3), (7, pP b0)] rfl (by kernel_rfl) ?_
  obtain ⟨r21, h22, hF⟩ := bind_some hF
  refine ow_pw rfl (pw_call (F := [o5 b3 p3 m3.l_ c3 m3.sure_ m3.boot_, own eStr 9 p3 c3 m3.l_] ++ F0) rfl rfl rfl rfl rfl rfl rfl (by kernel_rfl) (perm_of_pulls [0, 0, 0, 0, 1, 1, 1] rfl) (c_journal_Journal_Records _ m0 m1 m2 p0 c0 b0 b1 p1 c1 p2 b2 r21 h22) ?_)
  rintro _ _ ⟨r21_p1, r21_c2, rfl, rfl⟩
  refine nw_H (H' := [imm I, o3 b0 b1 m0.base_ m0.size_ m0.next_ m0.last_ p0 m0.list_ c0 m0.sure_ m0.dead_, o1 b1 b2 m1.boot_ m1.n_, o0 b2 p1 m2.sure_ c1 p2 m2.off_ m2.armed_ m2.left_ m2.fall_.Keep m2.fall_.Tear m2.acts_ m2.falls_, own eStr 9 r21_p1 r21_c2 r21, own eStr 9 p0 c0 m0.list_, own e_disk_sector 51 p1 c1 m2.sure_, mpo (kInt .i64) (fun x : disk_sector => Value.agg #[.string x.s_, i6 x.at_]) p2 m2.wait_, o5 b3 p3 m3.l_ c3 m3.sure_ m3.boot_, own eStr 9 p3 c3 m3.l_] ++ F0) rfl (nw_ow ?_)
  refine ow_vals 1 (j := 3) [0, 1, 5] [(0, pP b0), (1, pP b3), (5, .slice r21_p1 r21.length r21_c2)] rfl (by kernel_rfl) ?_
  refine ow_end rfl ?_
  refine ew_then ?_
  obtain ⟨v24, hF, hK24⟩ := thru_some hF
  refine cw_mid (fun a w => .inl () = v24 ∧ Fr 59 [(1, pP b3), (5, .slice r21_p1 r21.length r21_c2)] a ∧ SAT w0 ([imm I, o5 b3 p3 m3.l_ c3 m3.sure_ m3.boot_, o3 b0 b1 m0.base_ m0.size_ m0.next_ m0.last_ p0 m0.list_ c0 m0.sure_ m0.dead_, o1 b1 b2 m1.boot_ m1.n_, o0 b2 p1 m2.sure_ c1 p2 m2.off_ m2.armed_ m2.left_ m2.fall_.Keep m2.fall_.Tear m2.acts_ m2.falls_, own eStr 9 r21_p1 r21_c2 r21, own eStr 9 p3 c3 m3.l_, own eStr 9 p0 c0 m0.list_, own e_disk_sector 51 p1 c1 m2.sure_, mpo (kInt .i64) (fun x : disk_sector => Value.agg #[.string x.s_, i6 x.at_]) p2 m2.wait_] ++ F0) w) ?_ ?_
  · refine cw_seq ?_
    refine cw_open 32 (SAT w0 ([imm I, o3 b0 b1 m0.base_ m0.size_ m0.next_ m0.last_ p0 m0.list_ c0 m0.sure_ m0.dead_, o1 b1 b2 m1.boot_ m1.n_, o0 b2 p1 m2.sure_ c1 p2 m2.off_ m2.armed_ m2.left_ m2.fall_.Keep m2.fall_.Tear m2.acts_ m2.falls_, own eStr 9 r21_p1 r21_c2 r21, own eStr 9 p0 c0 m0.list_, own e_disk_sector 51 p1 c1 m2.sure_, mpo (kInt .i64) (fun x : disk_sector => Value.agg #[.string x.s_, i6 x.at_]) p2 m2.wait_, o5 b3 p3 m3.l_ c3 m3.sure_ m3.boot_, own eStr 9 p3 c3 m3.l_])) (by kernel_rfl) (f := 32) rfl (fun w hs => sat_drew hs) ?_
    refine aw_vals [0, 1, 2, 3, 4] (f' := 27) (m' := 31) [0, 1, 5, 10, 13] [(0, pP b0), (1, pP b3), (5, .slice r21_p1 r21.length r21_c2), (10, i6 (r21.length : Int)), (13, pP b3)] (fun _ _ _ _ _ h => calm_fin (P := Tryz.prog) (fn := Tryz.f11) _ _ _ _ _ h) (fun w hs => sat_pulls [0, 0, 0, 0, 0, 0, 0, 0, 0, 0] (G := [] ++ F0) rfl hs) rfl (by kernel_rfl) ?_
    refine aw_quiet 5 (m' := 63) (v := .slice p3 m3.l_.length c3) 0 [] rfl rfl rfl rfl (by kernel_rfl) (by kernel_rfl) (by kernel_rfl) (fun _ _ _ _ _ h => calm_fin (P := Tryz.prog) (fn := Tryz.f11) _ _ _ _ _ h) (fun w hs => sat_pulls [0, 0, 0, 0, 0, 0, 0, 0, 0, 0] (G := [] ++ F0) rfl hs) (q_load 8 rfl rfl rfl (by kernel_rfl)) ?_
    refine aw_vals [6, 7, 8] (f' := 23) (m' := 511) [0, 1, 5, 17] [(0, pP b0), (1, pP b3), (5, .slice r21_p1 r21.length r21_c2), (17, .bool ((r21.length : Int) != (m3.l_.length : Int)))] (fun _ _ _ _ _ h => calm_fin (P := Tryz.prog) (fn := Tryz.f11) _ _ _ _ _ h) (fun w hs => sat_pulls [0, 0, 0, 0, 0, 0, 0, 0, 0, 0] (G := [] ++ F0) rfl hs) rfl (by kernel_rfl) ?_
    rcases if_some hF with ⟨h25, hF⟩ | ⟨h25, hF⟩
    · refine aw_slots (L' := [(0, pP b0), (1, pP b3), (5, .slice r21_p1 r21.length r21_c2), (17, .bool true)]) (by rw [h25]) ?_
      refine aw_vals [9, 10, 11, 12, 13, 14, 15, 16, 17, 18, 19, 20, 21, 22, 23, 24, 25, 26, 27, 28, 29, 30, 31] (f' := 0) (m' := 4294967295) [1, 5, 40] [(1, pP b3), (5, .slice r21_p1 r21.length r21_c2), (40, .bool true)] (fun _ _ _ _ _ h => calm_fin (P := Tryz.prog) (fn := Tryz.f11) _ _ _ _ _ h) (fun w hs => sat_pulls [0, 0, 0, 0, 0, 0, 0, 0, 0, 0] (G := [] ++ F0) rfl hs) rfl (by kernel_rfl) ?_
      refine aw_keep [1, 5, 40] (L' := [(1, pP b3), (5, .slice r21_p1 r21.length r21_c2), (40, .bool true)]) rfl ?_
      refine aw_end (by kernel_rfl) ?_
      refine ew_then ?_
      refine cw_cond_t rfl rfl rfl ?_
      refine cw_seq ?_
      refine cw_region ?_
      refine ow_vals 1 (j := 1) [4] [(4, .bool false)] rfl (by kernel_rfl) ?_
      refine ow_end rfl ?_
      refine ew_then ?_
      refine cw_ret ?_
      refine ew_then_ret ?_
      have hR := Option.some.inj hF
      subst hR
      have hR := hK24
      try dsimp only [Thru] at hR
      subst hR
      exact fin1 (H1 := [imm I, o3 b0 b1 m0.base_ m0.size_ m0.next_ m0.last_ p0 m0.list_ c0 m0.sure_ m0.dead_, o1 b1 b2 m1.boot_ m1.n_, o0 b2 p1 m2.sure_ c1 p2 m2.off_ m2.armed_ m2.left_ m2.fall_.Keep m2.fall_.Tear m2.acts_ m2.falls_, o5 b3 p3 m3.l_ c3 m3.sure_ m3.boot_, own eStr 9 p0 c0 m0.list_, own e_disk_sector 51 p1 c1 m2.sure_, mpo (kInt .i64) (fun x : disk_sector => Value.agg #[.string x.s_, i6 x.at_]) p2 m2.wait_, own eStr 9 p3 c3 m3.l_]) (fun w hs => sat_to [4, 0, 0, 0, 0, 3, 0, 0, 0, 0] 1 rfl hs) rfl (rr_tmp rfl) ⟨rfl, rfl⟩
    refine aw_slots (L' := [(0, pP b0), (1, pP b3), (5, .slice r21_p1 r21.length r21_c2), (17, .bool false)]) (by rw [h25]) ?_
    refine aw_vals [9, 11, 12, 13] (f' := 19) (m' := 15359) [0, 1, 5, 17, 18, 22] [(0, pP b0), (1, pP b3), (5, .slice r21_p1 r21.length r21_c2), (17, .bool false), (18, pP b0), (22, .pointer (some ⟨b3, 1, none⟩))] (fun _ _ _ _ _ h => calm_fin (P := Tryz.prog) (fn := Tryz.f11) _ _ _ _ _ h) (fun w hs => sat_pulls [0, 0, 0, 0, 0, 0, 0, 0, 0, 0] (G := [] ++ F0) rfl hs) rfl (by kernel_rfl) ?_
    refine aw_quiet 14 (m' := 31743) (v := i6 m3.sure_) 0 [] rfl rfl rfl rfl (by kernel_rfl) (by kernel_rfl) (by kernel_rfl) (fun _ _ _ _ _ h => calm_fin (P := Tryz.prog) (fn := Tryz.f11) _ _ _ _ _ h) (fun w hs => sat_pulls [0, 0, 0, 0, 0, 0, 0, 0, 0, 0] (G := [] ++ F0) rfl hs) (q_load 8 rfl rfl rfl (by kernel_rfl)) ?_
    obtain ⟨r26, h27, hF⟩ := bind_some hF
    refine aw_only 10 (m' := 32767) (by kernel_rfl) (by kernel_rfl) (pw_call (F := [own eStr 9 r21_p1 r21_c2 r21, o5 b3 p3 m3.l_ c3 m3.sure_ m3.boot_, own eStr 9 p3 c3 m3.l_] ++ F0) rfl rfl rfl rfl rfl rfl rfl (by kernel_rfl) (perm_of_pulls [0, 0, 0, 0, 1, 1, 1] rfl) (c_journal_Journal_Sure _ m0 m1 m2 p0 c0 b0 b1 p1 c1 p2 b2 r26 h27) ?_)
    rintro _ _ ⟨rfl, rfl⟩
    refine nw_H (H' := [imm I, o3 b0 b1 m0.base_ m0.size_ m0.next_ m0.last_ p0 m0.list_ c0 m0.sure_ m0.dead_, o1 b1 b2 m1.boot_ m1.n_, o0 b2 p1 m2.sure_ c1 p2 m2.off_ m2.armed_ m2.left_ m2.fall_.Keep m2.fall_.Tear m2.acts_ m2.falls_, own eStr 9 p0 c0 m0.list_, own e_disk_sector 51 p1 c1 m2.sure_, mpo (kInt .i64) (fun x : disk_sector => Value.agg #[.string x.s_, i6 x.at_]) p2 m2.wait_, own eStr 9 r21_p1 r21_c2 r21, o5 b3 p3 m3.l_ c3 m3.sure_ m3.boot_, own eStr 9 p3 c3 m3.l_] ++ F0) rfl (aw_next (fun w hs => sat_pulls [0, 0, 0, 0, 3, 0, 0, 0, 0, 0] (G := [] ++ F0) rfl hs) ?_)
    refine aw_vals [15, 16, 17] (f' := 14) (m' := 262143) [0, 1, 5, 26] [(0, pP b0), (1, pP b3), (5, .slice r21_p1 r21.length r21_c2), (26, .bool (r26 != m3.sure_))] (fun _ _ _ _ _ h => calm_fin (P := Tryz.prog) (fn := Tryz.f11) _ _ _ _ _ h) (fun w hs => sat_pulls [0, 0, 0, 0, 3, 0, 0, 0, 0, 0] (G := [] ++ F0) rfl hs) rfl (by kernel_rfl) ?_
    rcases if_some hF with ⟨h28, hF⟩ | ⟨h28, hF⟩
    · refine aw_slots (L' := [(0, pP b0), (1, pP b3), (5, .slice r21_p1 r21.length r21_c2), (26, .bool true)]) (by rw [h28]) ?_
      refine aw_vals [18, 19, 20, 21, 22, 23, 24, 25, 26, 27, 28, 29, 30, 31] (f' := 0) (m' := 4294967295) [1, 5, 40] [(1, pP b3), (5, .slice r21_p1 r21.length r21_c2), (40, .bool true)] (fun _ _ _ _ _ h => calm_fin (P := Tryz.prog) (fn := Tryz.f11) _ _ _ _ _ h) (fun w hs => sat_pulls [0, 0, 0, 0, 3, 0, 0, 0, 0, 0] (G := [] ++ F0) rfl hs) rfl (by kernel_rfl) ?_
      refine aw_keep [1, 5, 40] (L' := [(1, pP b3), (5, .slice r21_p1 r21.length r21_c2), (40, .bool true)]) rfl ?_
      refine aw_end (by kernel_rfl) ?_
      refine ew_then ?_
      refine cw_cond_t rfl rfl rfl ?_
      refine cw_seq ?_
      refine cw_region ?_
      refine ow_vals 1 (j := 1) [4] [(4, .bool false)] rfl (by kernel_rfl) ?_
      refine ow_end rfl ?_
      refine ew_then ?_
      refine cw_ret ?_
      refine ew_then_ret ?_
      have hR := Option.some.inj hF
      subst hR
      have hR := hK24
      try dsimp only [Thru] at hR
      subst hR
      exact fin1 (H1 := [imm I, o3 b0 b1 m0.base_ m0.size_ m0.next_ m0.last_ p0 m0.list_ c0 m0.sure_ m0.dead_, o1 b1 b2 m1.boot_ m1.n_, o0 b2 p1 m2.sure_ c1 p2 m2.off_ m2.armed_ m2.left_ m2.fall_.Keep m2.fall_.Tear m2.acts_ m2.falls_, o5 b3 p3 m3.l_ c3 m3.sure_ m3.boot_, own eStr 9 p0 c0 m0.list_, own e_disk_sector 51 p1 c1 m2.sure_, mpo (kInt .i64) (fun x : disk_sector => Value.agg #[.string x.s_, i6 x.at_]) p2 m2.wait_, own eStr 9 p3 c3 m3.l_]) (fun w hs => sat_to [7, 0, 0, 0, 0, 3, 0, 0, 0, 0] 1 rfl hs) rfl (rr_tmp rfl) ⟨rfl, rfl⟩
    refine aw_slots (L' := [(0, pP b0), (1, pP b3), (5, .slice r21_p1 r21.length r21_c2), (26, .bool false)]) (by rw [h28]) ?_
    refine aw_vals [18, 20] (f' := 12) (m' := 1572863) [0, 1, 5, 26, 27, 29] [(0, pP b0), (1, pP b3), (5, .slice r21_p1 r21.length r21_c2), (26, .bool false), (27, pP b0), (29, pP b3)] (fun _ _ _ _ _ h => calm_fin (P := Tryz.prog) (fn := Tryz.f11) _ _ _ _ _ h) (fun w hs => sat_pulls [0, 0, 0, 0, 3, 0, 0, 0, 0, 0] (G := [] ++ F0) rfl hs) rfl (by kernel_rfl) ?_
    obtain ⟨r29, h30, hF⟩ := bind_some hF
    refine aw_only 19 (m' := 2097151) (by kernel_rfl) (by kernel_rfl) (pw_call (F := [own eStr 9 r21_p1 r21_c2 r21, o5 b3 p3 m3.l_ c3 m3.sure_ m3.boot_, own eStr 9 p3 c3 m3.l_] ++ F0) rfl rfl rfl rfl rfl rfl rfl (by kernel_rfl) (perm_of_pulls [0, 0, 0, 0, 0, 0, 0] rfl) (c_journal_Journal_Used _ m0 m1 m2 p0 c0 b0 b1 p1 c1 p2 b2 r29 h30) ?_)
    rintro _ _ ⟨rfl, rfl⟩
    refine nw_H (H' := [imm I, o3 b0 b1 m0.base_ m0.size_ m0.next_ m0.last_ p0 m0.list_ c0 m0.sure_ m0.dead_, o1 b1 b2 m1.boot_ m1.n_, o0 b2 p1 m2.sure_ c1 p2 m2.off_ m2.armed_ m2.left_ m2.fall_.Keep m2.fall_.Tear m2.acts_ m2.falls_, own eStr 9 p0 c0 m0.list_, own e_disk_sector 51 p1 c1 m2.sure_, mpo (kInt .i64) (fun x : disk_sector => Value.agg #[.string x.s_, i6 x.at_]) p2 m2.wait_, own eStr 9 r21_p1 r21_c2 r21, o5 b3 p3 m3.l_ c3 m3.sure_ m3.boot_, own eStr 9 p3 c3 m3.l_] ++ F0) rfl (aw_next (fun w hs => sat_pulls [0, 0, 0, 0, 3, 0, 0, 0, 0, 0] (G := [] ++ F0) rfl hs) ?_)
    obtain ⟨r31, h32, hF⟩ := bind_some hF
    refine aw_only 21 (m' := 4194303) (by kernel_rfl) (by kernel_rfl) (pw_call (F := [o3 b0 b1 m0.base_ m0.size_ m0.next_ m0.last_ p0 m0.list_ c0 m0.sure_ m0.dead_, o1 b1 b2 m1.boot_ m1.n_, o0 b2 p1 m2.sure_ c1 p2 m2.off_ m2.armed_ m2.left_ m2.fall_.Keep m2.fall_.Tear m2.acts_ m2.falls_, own eStr 9 p0 c0 m0.list_, own e_disk_sector 51 p1 c1 m2.sure_, mpo (kInt .i64) (fun x : disk_sector => Value.agg #[.string x.s_, i6 x.at_]) p2 m2.wait_, own eStr 9 r21_p1 r21_c2 r21] ++ F0) rfl rfl rfl rfl rfl rfl rfl (by kernel_rfl) (perm_of_pulls [0, 7, 7] rfl) (c_law12_plain_used _ m3 p3 c3 b3 r31 h32) ?_)
    rintro _ _ ⟨rfl, rfl⟩
    refine nw_H (H' := [imm I, o5 b3 p3 m3.l_ c3 m3.sure_ m3.boot_, own eStr 9 p3 c3 m3.l_, o3 b0 b1 m0.base_ m0.size_ m0.next_ m0.last_ p0 m0.list_ c0 m0.sure_ m0.dead_, o1 b1 b2 m1.boot_ m1.n_, o0 b2 p1 m2.sure_ c1 p2 m2.off_ m2.armed_ m2.left_ m2.fall_.Keep m2.fall_.Tear m2.acts_ m2.falls_, own eStr 9 p0 c0 m0.list_, own e_disk_sector 51 p1 c1 m2.sure_, mpo (kInt .i64) (fun x : disk_sector => Value.agg #[.string x.s_, i6 x.at_]) p2 m2.wait_, own eStr 9 r21_p1 r21_c2 r21] ++ F0) rfl (aw_next (fun w hs => sat_pulls [0, 2, 2, 2, 5, 2, 2, 2, 0, 0] (G := [] ++ F0) rfl hs) ?_)
    refine aw_vals [22, 23, 24] (f' := 7) (m' := 33554431) [0, 1, 5, 33] [(0, pP b0), (1, pP b3), (5, .slice r21_p1 r21.length r21_c2), (33, .bool (r29 != r31))] (fun _ _ _ _ _ h => calm_fin (P := Tryz.prog) (fn := Tryz.f11) _ _ _ _ _ h) (fun w hs => sat_pulls [0, 2, 2, 2, 5, 2, 2, 2, 0, 0] (G := [] ++ F0) rfl hs) rfl (by kernel_rfl) ?_
    rcases if_some hF with ⟨h33, hF⟩ | ⟨h33, hF⟩
    · refine aw_slots (L' := [(0, pP b0), (1, pP b3), (5, .slice r21_p1 r21.length r21_c2), (33, .bool true)]) (by rw [h33]) ?_
      refine aw_vals [25, 26, 27, 28, 29, 30, 31] (f' := 0) (m' := 4294967295) [1, 5, 40] [(1, pP b3), (5, .slice r21_p1 r21.length r21_c2), (40, .bool true)] (fun _ _ _ _ _ h => calm_fin (P := Tryz.prog) (fn := Tryz.f11) _ _ _ _ _ h) (fun w hs => sat_pulls [0, 2, 2, 2, 5, 2, 2, 2, 0, 0] (G := [] ++ F0) rfl hs) rfl (by kernel_rfl) ?_
      refine aw_keep [1, 5, 40] (L' := [(1, pP b3), (5, .slice r21_p1 r21.length r21_c2), (40, .bool true)]) rfl ?_
      refine aw_end (by kernel_rfl) ?_
      refine ew_then ?_
      refine cw_cond_t rfl rfl rfl ?_
      refine cw_seq ?_
      refine cw_region ?_
      refine ow_vals 1 (j := 1) [4] [(4, .bool false)] rfl (by kernel_rfl) ?_
      refine ow_end rfl ?_
      refine ew_then ?_
      refine cw_ret ?_
      refine ew_then_ret ?_
      have hR := Option.some.inj hF
      subst hR
      have hR := hK24
      try dsimp only [Thru] at hR
      subst hR
      exact fin1 (H1 := [imm I, o3 b0 b1 m0.base_ m0.size_ m0.next_ m0.last_ p0 m0.list_ c0 m0.sure_ m0.dead_, o1 b1 b2 m1.boot_ m1.n_, o0 b2 p1 m2.sure_ c1 p2 m2.off_ m2.armed_ m2.left_ m2.fall_.Keep m2.fall_.Tear m2.acts_ m2.falls_, o5 b3 p3 m3.l_ c3 m3.sure_ m3.boot_, own eStr 9 p0 c0 m0.list_, own e_disk_sector 51 p1 c1 m2.sure_, mpo (kInt .i64) (fun x : disk_sector => Value.agg #[.string x.s_, i6 x.at_]) p2 m2.wait_, own eStr 9 p3 c3 m3.l_]) (fun w hs => sat_to [9, 0, 2, 2, 2, 0, 1, 1, 1, 0] 1 rfl hs) rfl (rr_tmp rfl) ⟨rfl, rfl⟩
    refine aw_slots (L' := [(0, pP b0), (1, pP b3), (5, .slice r21_p1 r21.length r21_c2), (33, .bool false)]) (by rw [h33]) ?_
    refine aw_vals [25, 27] (f' := 5) (m' := 201326591) [1, 5, 33, 34, 36] [(1, pP b3), (5, .slice r21_p1 r21.length r21_c2), (33, .bool false), (34, pP b0), (36, pP b3)] (fun _ _ _ _ _ h => calm_fin (P := Tryz.prog) (fn := Tryz.f11) _ _ _ _ _ h) (fun w hs => sat_pulls [0, 2, 2, 2, 5, 2, 2, 2, 0, 0] (G := [] ++ F0) rfl hs) rfl (by kernel_rfl) ?_
    obtain ⟨r34, h35, hF⟩ := bind_some hF
    refine aw_only 26 (m' := 268435455) (by kernel_rfl) (by kernel_rfl) (pw_call (F := [o5 b3 p3 m3.l_ c3 m3.sure_ m3.boot_, own eStr 9 p3 c3 m3.l_, own eStr 9 r21_p1 r21_c2 r21] ++ F0) rfl rfl rfl rfl rfl rfl rfl (by kernel_rfl) (perm_of_pulls [0, 2, 2, 2, 2, 2, 2] rfl) (c_journal_Journal_Left _ m0 m1 m2 p0 c0 b0 b1 p1 c1 p2 b2 r34 h35) ?_)
    rintro _ _ ⟨rfl, rfl⟩
    refine nw_H (H' := [imm I, o3 b0 b1 m0.base_ m0.size_ m0.next_ m0.last_ p0 m0.list_ c0 m0.sure_ m0.dead_, o1 b1 b2 m1.boot_ m1.n_, o0 b2 p1 m2.sure_ c1 p2 m2.off_ m2.armed_ m2.left_ m2.fall_.Keep m2.fall_.Tear m2.acts_ m2.falls_, own eStr 9 p0 c0 m0.list_, own e_disk_sector 51 p1 c1 m2.sure_, mpo (kInt .i64) (fun x : disk_sector => Value.agg #[.string x.s_, i6 x.at_]) p2 m2.wait_, o5 b3 p3 m3.l_ c3 m3.sure_ m3.boot_, own eStr 9 p3 c3 m3.l_, own eStr 9 r21_p1 r21_c2 r21] ++ F0) rfl (aw_next (fun w hs => sat_pulls [0, 0, 0, 0, 5, 0, 0, 0, 0, 0] (G := [] ++ F0) rfl hs) ?_)
    obtain ⟨r36, h37, hF⟩ := bind_some hF
    refine aw_only 28 (m' := 536870911) (by kernel_rfl) (by kernel_rfl) (pw_call (F := [o3 b0 b1 m0.base_ m0.size_ m0.next_ m0.last_ p0 m0.list_ c0 m0.sure_ m0.dead_, o1 b1 b2 m1.boot_ m1.n_, o0 b2 p1 m2.sure_ c1 p2 m2.off_ m2.armed_ m2.left_ m2.fall_.Keep m2.fall_.Tear m2.acts_ m2.falls_, own eStr 9 p0 c0 m0.list_, own e_disk_sector 51 p1 c1 m2.sure_, mpo (kInt .i64) (fun x : disk_sector => Value.agg #[.string x.s_, i6 x.at_]) p2 m2.wait_, own eStr 9 r21_p1 r21_c2 r21] ++ F0) rfl rfl rfl rfl rfl rfl rfl (by kernel_rfl) (perm_of_pulls [0, 6, 6] rfl) (c_law12_plain_used _ m3 p3 c3 b3 r36 h37) ?_)
    rintro _ _ ⟨rfl, rfl⟩
    refine nw_H (H' := [imm I, o5 b3 p3 m3.l_ c3 m3.sure_ m3.boot_, own eStr 9 p3 c3 m3.l_, o3 b0 b1 m0.base_ m0.size_ m0.next_ m0.last_ p0 m0.list_ c0 m0.sure_ m0.dead_, o1 b1 b2 m1.boot_ m1.n_, o0 b2 p1 m2.sure_ c1 p2 m2.off_ m2.armed_ m2.left_ m2.fall_.Keep m2.fall_.Tear m2.acts_ m2.falls_, own eStr 9 p0 c0 m0.list_, own e_disk_sector 51 p1 c1 m2.sure_, mpo (kInt .i64) (fun x : disk_sector => Value.agg #[.string x.s_, i6 x.at_]) p2 m2.wait_, own eStr 9 r21_p1 r21_c2 r21] ++ F0) rfl (aw_next (fun w hs => sat_pulls [0, 2, 2, 2, 5, 2, 2, 2, 0, 0] (G := [] ++ F0) rfl hs) ?_)
    refine aw_vals [29, 30, 31] (f' := 0) (m' := 4294967295) [1, 5, 40] [(1, pP b3), (5, .slice r21_p1 r21.length r21_c2), (40, .bool (r34 != (IntKind.i64.wrap (60 - r36))))] (fun _ _ _ _ _ h => calm_fin (P := Tryz.prog) (fn := Tryz.f11) _ _ _ _ _ h) (fun w hs => sat_pulls [0, 2, 2, 2, 5, 2, 2, 2, 0, 0] (G := [] ++ F0) rfl hs) rfl (by kernel_rfl) ?_
    refine aw_keep [1, 5, 40] (L' := [(1, pP b3), (5, .slice r21_p1 r21.length r21_c2), (40, .bool (r34 != (IntKind.i64.wrap (60 - r36))))]) rfl ?_
    refine aw_end (by kernel_rfl) ?_
    refine ew_then ?_
    rcases if_some hF with ⟨h38, hF⟩ | ⟨h38, hF⟩
    · refine cw_cond_t rfl rfl h38 ?_
      refine cw_seq ?_
      refine cw_region ?_
      refine ow_vals 1 (j := 1) [4] [(4, .bool false)] rfl (by kernel_rfl) ?_
      refine ow_end rfl ?_
      refine ew_then ?_
      refine cw_ret ?_
      refine ew_then_ret ?_
      have hR := Option.some.inj hF
      subst hR
      have hR := hK24
      try dsimp only [Thru] at hR
      subst hR
      exact fin1 (H1 := [imm I, o3 b0 b1 m0.base_ m0.size_ m0.next_ m0.last_ p0 m0.list_ c0 m0.sure_ m0.dead_, o1 b1 b2 m1.boot_ m1.n_, o0 b2 p1 m2.sure_ c1 p2 m2.off_ m2.armed_ m2.left_ m2.fall_.Keep m2.fall_.Tear m2.acts_ m2.falls_, o5 b3 p3 m3.l_ c3 m3.sure_ m3.boot_, own eStr 9 p0 c0 m0.list_, own e_disk_sector 51 p1 c1 m2.sure_, mpo (kInt .i64) (fun x : disk_sector => Value.agg #[.string x.s_, i6 x.at_]) p2 m2.wait_, own eStr 9 p3 c3 m3.l_]) (fun w hs => sat_to [9, 0, 2, 2, 2, 0, 1, 1, 1, 0] 1 rfl hs) rfl (rr_tmp rfl) ⟨rfl, rfl⟩
    refine cw_cond_f rfl rfl h38 ?_
    refine cw_skip ?_
    have hR := Option.some.inj hF
    exact fun a w hf hs => ⟨hR, hf.keep [1, 5], sat_to [0, 0, 1, 1, 1, 4, 0, 0, 0, 0] 0 rfl hs⟩
  rintro a w ⟨hv, hf, hs⟩
  subst hv
  replace hF := hK24
  clear hK24
  try dsimp only [Thru] at hF
  revert a w
  show CW _ _ _ 59 [(1, pP b3), (5, .slice r21_p1 r21.length r21_c2)] (SAT w0 ([imm I, o5 b3 p3 m3.l_ c3 m3.sure_ m3.boot_, o3 b0 b1 m0.base_ m0.size_ m0.next_ m0.last_ p0 m0.list_ c0 m0.sure_ m0.dead_, o1 b1 b2 m1.boot_ m1.n_, o0 b2 p1 m2.sure_ c1 p2 m2.off_ m2.armed_ m2.left_ m2.fall_.Keep m2.fall_.Tear m2.acts_ m2.falls_, own eStr 9 r21_p1 r21_c2 r21, own eStr 9 p3 c3 m3.l_, own eStr 9 p0 c0 m0.list_, own e_disk_sector 51 p1 c1 m2.sure_, mpo (kInt .i64) (fun x : disk_sector => Value.agg #[.string x.s_, i6 x.at_]) p2 m2.wait_] ++ F0))
  unfold F.law12_holds.r1 at hF
  obtain ⟨v39, hF, hK39⟩ := thru_some hF
  refine cw_mid (fun a w => .inl () = v39 ∧ Fr 59 [] a ∧ SAT w0 ([imm I, o5 b3 p3 m3.l_ c3 m3.sure_ m3.boot_, o3 b0 b1 m0.base_ m0.size_ m0.next_ m0.last_ p0 m0.list_ c0 m0.sure_ m0.dead_, o1 b1 b2 m1.boot_ m1.n_, o0 b2 p1 m2.sure_ c1 p2 m2.off_ m2.armed_ m2.left_ m2.fall_.Keep m2.fall_.Tear m2.acts_ m2.falls_, own eStr 9 p3 c3 m3.l_, own eStr 9 p0 c0 m0.list_, own e_disk_sector 51 p1 c1 m2.sure_, mpo (kInt .i64) (fun x : disk_sector => Value.agg #[.string x.s_, i6 x.at_]) p2 m2.wait_] ++ F0) w) ?_ ?_
  · refine cw_seq ?_
    refine cw_region ?_
    refine ow_vals 1 (j := 1) [1, 5, 6] [(1, pP b3), (5, .slice r21_p1 r21.length r21_c2), (6, i6 0)] rfl (by kernel_rfl) ?_
    refine ow_end rfl ?_
    refine ew_then ?_
    refine cw_block ?_
    refine fun a w hf hs => wp_rounds (fun k a w => ∃ (x41 : Int), iter (fun x => F.law12_holds.l2 m3 r21 x) k x41 = some v39 ∧ Fr 59 [(1, pP b3), (5, .slice r21_p1 r21.length r21_c2), (6, i6 x41)] a ∧ SAT w0 ([imm I, o5 b3 p3 m3.l_ c3 m3.sure_ m3.boot_, o3 b0 b1 m0.base_ m0.size_ m0.next_ m0.last_ p0 m0.list_ c0 m0.sure_ m0.dead_, o1 b1 b2 m1.boot_ m1.n_, o0 b2 p1 m2.sure_ c1 p2 m2.off_ m2.armed_ m2.left_ m2.fall_.Keep m2.fall_.Tear m2.acts_ m2.falls_, own eStr 9 r21_p1 r21_c2 r21, own eStr 9 p3 c3 m3.l_, own eStr 9 p0 c0 m0.list_, own e_disk_sector 51 p1 c1 m2.sure_, mpo (kInt .i64) (fun x : disk_sector => Value.agg #[.string x.s_, i6 x.at_]) p2 m2.wait_] ++ F0) w) ?_ FUEL a w ⟨0, hF, hf.keep [1, 5, 6], sat_to [0, 0, 0, 0, 0, 0, 0, 0, 0, 0] 0 rfl hs⟩
    clear hf hs
    clear a w hF
    rintro k a w ⟨x41, hF2, hf, hs⟩
    obtain ⟨k, r40, rfl, hF, hL40⟩ := iter_some hF2
    clear hF2
    revert a w
    show CW _ _ _ 59 [(1, pP b3), (5, .slice r21_p1 r21.length r21_c2), (6, i6 x41)] (SAT w0 ([imm I, o5 b3 p3 m3.l_ c3 m3.sure_ m3.boot_, o3 b0 b1 m0.base_ m0.size_ m0.next_ m0.last_ p0 m0.list_ c0 m0.sure_ m0.dead_, o1 b1 b2 m1.boot_ m1.n_, o0 b2 p1 m2.sure_ c1 p2 m2.off_ m2.armed_ m2.left_ m2.fall_.Keep m2.fall_.Tear m2.acts_ m2.falls_, own eStr 9 r21_p1 r21_c2 r21, own eStr 9 p3 c3 m3.l_, own eStr 9 p0 c0 m0.list_, own e_disk_sector 51 p1 c1 m2.sure_, mpo (kInt .i64) (fun x : disk_sector => Value.agg #[.string x.s_, i6 x.at_]) p2 m2.wait_] ++ F0))
    try dsimp only at hF
    unfold F.law12_holds.l2 at hF
    refine cw_seq ?_
    refine cw_seq ?_
    refine cw_region ?_
    refine ow_vals 4 (j := 4) [1, 5, 6, 44] [(1, pP b3), (5, .slice r21_p1 r21.length r21_c2), (6, i6 x41), (44, .bool (decide (x41 < (r21.length : Int))))] rfl (by kernel_rfl) ?_
    refine ow_end rfl ?_
    refine ew_then ?_
    rcases if_some hF with ⟨h42, hF⟩ | ⟨h42, hF⟩
    · refine cw_cond_t rfl rfl h42 ?_
      refine cw_skip ?_
      refine ew_then ?_
      refine cw_seq ?_
      refine cw_block ?_
      refine cw_seq ?_
      refine cw_open 12 (SAT w0 ([imm I, o5 b3 p3 m3.l_ c3 m3.sure_ m3.boot_, o3 b0 b1 m0.base_ m0.size_ m0.next_ m0.last_ p0 m0.list_ c0 m0.sure_ m0.dead_, o1 b1 b2 m1.boot_ m1.n_, o0 b2 p1 m2.sure_ c1 p2 m2.off_ m2.armed_ m2.left_ m2.fall_.Keep m2.fall_.Tear m2.acts_ m2.falls_, own eStr 9 r21_p1 r21_c2 r21, own eStr 9 p3 c3 m3.l_, own eStr 9 p0 c0 m0.list_, own e_disk_sector 51 p1 c1 m2.sure_, mpo (kInt .i64) (fun x : disk_sector => Value.agg #[.string x.s_, i6 x.at_]) p2 m2.wait_])) (by kernel_rfl) (f := 12) rfl (fun w hs => sat_drew hs) ?_
      refine aw_vals [0, 1, 4, 5, 6, 8] (f' := 6) (m' := 371) [1, 5, 6, 47, 48, 53, 55] [(1, pP b3), (5, .slice r21_p1 r21.length r21_c2), (6, i6 x41), (47, .slice r21_p1 r21.length r21_c2), (48, i6 x41), (53, pP b3), (55, i6 x41)] (fun _ _ _ _ _ h => calm_fin (P := Tryz.prog) (fn := Tryz.f11) _ _ _ _ _ h) (fun w hs => sat_pulls [0, 0, 0, 0, 0, 0, 0, 0, 0, 0] (G := [] ++ F0) rfl hs) rfl (by kernel_rfl) ?_
      obtain ⟨y43, h44, hF⟩ := bind_some hF
      refine aw_quiet 2 (m' := 375) (v := .pointer (some ((base r21_p1).add (x41.toNat * 1)))) 0 [] rfl rfl rfl rfl (by kernel_rfl) (by kernel_rfl) (by kernel_rfl) (fun _ _ _ _ _ h => calm_fin (P := Tryz.prog) (fn := Tryz.f11) _ _ _ _ _ h) (fun w hs => sat_pulls [0, 0, 0, 0, 0, 0, 0, 0, 0, 0] (G := [] ++ F0) rfl hs) (q_index_own 5 1 rfl rfl (by kernel_rfl) rfl rfl (at_some h44).1 (at_lt h44)) ?_
      refine aw_quiet 3 (m' := 383) (v := .string y43) 0 [] rfl rfl rfl rfl (by kernel_rfl) (by kernel_rfl) (by kernel_rfl) (fun _ _ _ _ _ h => calm_fin (P := Tryz.prog) (fn := Tryz.f11) _ _ _ _ _ h) (fun w hs => sat_pulls [0, 0, 0, 0, 0, 0, 0, 0, 0, 0] (G := [] ++ F0) rfl hs) (q_load_own0 5 1 rfl rfl rfl rfl (at_some h44).2 (by kernel_rfl)) ?_
      refine aw_quiet 7 (m' := 511) (v := .slice p3 m3.l_.length c3) 0 [] rfl rfl rfl rfl (by kernel_rfl) (by kernel_rfl) (by kernel_rfl) (fun _ _ _ _ _ h => calm_fin (P := Tryz.prog) (fn := Tryz.f11) _ _ _ _ _ h) (fun w hs => sat_pulls [0, 0, 0, 0, 0, 0, 0, 0, 0, 0] (G := [] ++ F0) rfl hs) (q_load 1 rfl rfl rfl (by kernel_rfl)) ?_
      obtain ⟨y45, h46, hF⟩ := bind_some hF
      refine aw_quiet 9 (m' := 1023) (v := .pointer (some ((base p3).add (x41.toNat * 1)))) 0 [] rfl rfl rfl rfl (by kernel_rfl) (by kernel_rfl) (by kernel_rfl) (fun _ _ _ _ _ h => calm_fin (P := Tryz.prog) (fn := Tryz.f11) _ _ _ _ _ h) (fun w hs => sat_pulls [0, 0, 0, 0, 0, 0, 0, 0, 0, 0] (G := [] ++ F0) rfl hs) (q_index_own 6 1 rfl rfl (by kernel_rfl) rfl rfl (at_some h46).1 (at_lt h46)) ?_
      refine aw_quiet 10 (m' := 2047) (v := .string y45) 0 [] rfl rfl rfl rfl (by kernel_rfl) (by kernel_rfl) (by kernel_rfl) (fun _ _ _ _ _ h => calm_fin (P := Tryz.prog) (fn := Tryz.f11) _ _ _ _ _ h) (fun w hs => sat_pulls [0, 0, 0, 0, 0, 0, 0, 0, 0, 0] (G := [] ++ F0) rfl hs) (q_load_own0 6 1 rfl rfl rfl rfl (at_some h46).2 (by kernel_rfl)) ?_
      refine aw_vals [11] (f' := 0) (m' := 4095) [1, 5, 6, 58] [(1, pP b3), (5, .slice r21_p1 r21.length r21_c2), (6, i6 x41), (58, .bool (!(seqB y43 y45)))] (fun _ _ _ _ _ h => calm_fin (P := Tryz.prog) (fn := Tryz.f11) _ _ _ _ _ h) (fun w hs => sat_pulls [0, 0, 0, 0, 0, 0, 0, 0, 0, 0] (G := [] ++ F0) rfl hs) rfl (by kernel_rfl) ?_
      refine aw_keep [1, 5, 6, 58] (L' := [(1, pP b3), (5, .slice r21_p1 r21.length r21_c2), (6, i6 x41), (58, .bool (!(seqB y43 y45)))]) rfl ?_
      refine aw_end (by kernel_rfl) ?_
      refine ew_then ?_
      rcases if_some hF with ⟨h47, hF⟩ | ⟨h47, hF⟩
      · refine cw_cond_t rfl rfl h47 ?_
        refine cw_seq ?_
        refine cw_region ?_
        refine ow_vals 1 (j := 1) [4] [(4, .bool false)] rfl (by kernel_rfl) ?_
        refine ow_end rfl ?_
        refine ew_then ?_
        refine cw_ret ?_
        refine ew_blk_ret ?_
        refine ew_then_ret ?_
        refine ew_then_ret ?_
        refine ew_blk_ret ?_
        refine ew_then_ret ?_
        have hR := Option.some.inj hF
        subst hR
        have hR := hL40
        try dsimp only at hR
        subst hR
        have hR := hK39
        try dsimp only [Thru] at hR
        subst hR
        exact fin1 (H1 := [imm I, o3 b0 b1 m0.base_ m0.size_ m0.next_ m0.last_ p0 m0.list_ c0 m0.sure_ m0.dead_, o1 b1 b2 m1.boot_ m1.n_, o0 b2 p1 m2.sure_ c1 p2 m2.off_ m2.armed_ m2.left_ m2.fall_.Keep m2.fall_.Tear m2.acts_ m2.falls_, o5 b3 p3 m3.l_ c3 m3.sure_ m3.boot_, own eStr 9 p0 c0 m0.list_, own e_disk_sector 51 p1 c1 m2.sure_, mpo (kInt .i64) (fun x : disk_sector => Value.agg #[.string x.s_, i6 x.at_]) p2 m2.wait_, own eStr 9 p3 c3 m3.l_]) (fun w hs => sat_to [5, 0, 1, 1, 1, 0, 1, 1, 1, 0] 1 rfl hs) rfl (rr_tmp rfl) ⟨rfl, rfl⟩
      refine cw_cond_f rfl rfl h47 ?_
      refine cw_skip ?_
      refine ew_blk ?_
      refine ew_then ?_
      refine cw_region ?_
      refine ow_vals 3 (j := 3) [1, 5, 6] [(1, pP b3), (5, .slice r21_p1 r21.length r21_c2), (6, i6 (IntKind.i64.wrap (x41 + 1)))] rfl (by kernel_rfl) ?_
      refine ow_end rfl ?_
      have hR := Option.some.inj hF
      subst hR
      have hR := hL40
      try dsimp only at hR
      exact fun a w hf hs => ⟨k, Nat.lt_succ_self k, IntKind.i64.wrap (x41 + 1), hR, hf.keep [1, 5, 6], sat_to [0, 0, 0, 0, 0, 0, 0, 0, 0, 0] 0 rfl hs⟩
    refine cw_cond_f rfl rfl h42 ?_
    refine cw_exit ?_
    refine ew_then_exit ?_
    refine ew_then_exit ?_
    refine ew_blk_exit ?_
    have hR := Option.some.inj hF
    subst hR
    have hR := hL40
    try dsimp only at hR
    exact fun a w hf hs => ⟨hR, hf.keep [], sat_to [5, 0, 0, 0, 0, 0, 0, 0, 0, 0] 1 rfl hs⟩
  rintro a w ⟨hv, hf, hs⟩
  subst hv
  replace hF := hK39
  clear hK39
  try dsimp only [Thru] at hF
  revert a w
  show CW _ _ _ 59 [] (SAT w0 ([imm I, o5 b3 p3 m3.l_ c3 m3.sure_ m3.boot_, o3 b0 b1 m0.base_ m0.size_ m0.next_ m0.last_ p0 m0.list_ c0 m0.sure_ m0.dead_, o1 b1 b2 m1.boot_ m1.n_, o0 b2 p1 m2.sure_ c1 p2 m2.off_ m2.armed_ m2.left_ m2.fall_.Keep m2.fall_.Tear m2.acts_ m2.falls_, own eStr 9 p3 c3 m3.l_, own eStr 9 p0 c0 m0.list_, own e_disk_sector 51 p1 c1 m2.sure_, mpo (kInt .i64) (fun x : disk_sector => Value.agg #[.string x.s_, i6 x.at_]) p2 m2.wait_] ++ F0))
  unfold F.law12_holds.r3 at hF
  refine cw_seq ?_
  refine cw_region ?_
  refine ow_vals 1 (j := 1) [4] [(4, .bool true)] rfl (by kernel_rfl) ?_
  refine ow_end rfl ?_
  refine ew_then ?_
  refine cw_ret ?_
  have hR := Option.some.inj hF
  subst hR
  exact fin1 (H1 := [imm I, o3 b0 b1 m0.base_ m0.size_ m0.next_ m0.last_ p0 m0.list_ c0 m0.sure_ m0.dead_, o1 b1 b2 m1.boot_ m1.n_, o0 b2 p1 m2.sure_ c1 p2 m2.off_ m2.armed_ m2.left_ m2.fall_.Keep m2.fall_.Tear m2.acts_ m2.falls_, o5 b3 p3 m3.l_ c3 m3.sure_ m3.boot_, own eStr 9 p0 c0 m0.list_, own e_disk_sector 51 p1 c1 m2.sure_, mpo (kInt .i64) (fun x : disk_sector => Value.agg #[.string x.s_, i6 x.at_]) p2 m2.wait_, own eStr 9 p3 c3 m3.l_]) (fun w hs => sat_to [0, 1, 1, 1, 0, 1, 1, 1, 0] 0 rfl hs) rfl (rr_tmp rfl) ⟨rfl, rfl⟩


def F.law12_again.r1 (m1 : law12_plain) (r31 : Int × disk_Disk) (r35_s1 : (journal_Journal × guard_Guard)) (r40 : (List ByteArray)) : Option ((Option (journal_Journal × guard_Guard)) × disk_Disk × law12_plain) :=
  chk (0 ≤ (0 : Int) ∧ (0 : Int) ≤ (r40.length : Int) ∧ (r40.length : Int) ≤ (m1.l_.length : Int)) (Option.bind (F.law12_holds r35_s1.1 r35_s1.2 r31.2 (⟨m1.l_.take (r40.length : Int).toNat, (r40.length : Int), IntKind.i64.wrap (m1.boot_ + 1)⟩ : law12_plain)) (fun (r47 : Bool) => if !r47 then (some ((none, r31.2, (⟨m1.l_.take (r40.length : Int).toNat, (r40.length : Int), IntKind.i64.wrap (m1.boot_ + 1)⟩ : law12_plain)))) else (some ((some (r35_s1.1, r35_s1.2), r31.2, (⟨m1.l_.take (r40.length : Int).toNat, (r40.length : Int), IntKind.i64.wrap (m1.boot_ + 1)⟩ : law12_plain))))))
def F.law12_again (x2 : disk_Fall) (m0 : disk_Disk) (m1 : law12_plain) : Option ((Option (journal_Journal × guard_Guard)) × disk_Disk × law12_plain) :=
  Option.bind (F.disk_Disk_Crash x2 m0) (fun (r23 : Int × disk_Disk) => Option.bind (F.disk_Disk_Calm r23.2) (fun (r27 : disk_Disk) => Option.bind (F.disk_Disk_Start r27) (fun (r31 : Int × disk_Disk) => Option.bind (F.law12_open (IntKind.i64.wrap (m1.boot_ + 1)) r31.2) (fun (r35 : (Option (journal_Journal × guard_Guard))) => optC r35 (some ((none, r31.2, (⟨m1.l_, m1.sure_, IntKind.i64.wrap (m1.boot_ + 1)⟩ : law12_plain)))) (fun (r35_s1 : (journal_Journal × guard_Guard)) => Option.bind (F.journal_Journal_Records r35_s1.1 r35_s1.2 r31.2) (fun (r40 : (List ByteArray)) => thru (if decide ((r40.length : Int) < m1.sure_) then (some (.inr ((none, r31.2, (⟨m1.l_, m1.sure_, IntKind.i64.wrap (m1.boot_ + 1)⟩ : law12_plain))))) else (if decide ((r40.length : Int) > (m1.l_.length : Int)) then (some (.inr ((none, r31.2, (⟨m1.l_, m1.sure_, IntKind.i64.wrap (m1.boot_ + 1)⟩ : law12_plain))))) else (some (.inl ())))) (fun x => F.law12_again.r1 m1 r31 r35_s1 r40)))))))
set_option maxRecDepth 100000 in
set_option maxHeartbeats 4000000 in
theorem c_law12_again (I : Hl) (x2 : disk_Fall) (m0 : disk_Disk) (m1 : law12_plain) (p0 : Option Addr) (c0 : Nat) (p1 : Nat) (b0 : Nat) (p2 : Option Addr) (c2 : Nat) (b1 : Nat) (res : (Option (journal_Journal × guard_Guard)) × disk_Disk × law12_plain) (hF : F.law12_again x2 m0 m1 = some res) : Tr Tryz.prog 9 [pP b0, pP b1, .agg #[.int .u64 x2.Keep, i6 x2.Tear]] [imm I, o0 b0 p0 m0.sure_ c0 p1 m0.off_ m0.armed_ m0.left_ m0.fall_.Keep m0.fall_.Tear m0.acts_ m0.falls_, o5 b1 p2 m1.l_ c2 m1.sure_ m1.boot_, own e_disk_sector 51 p0 c0 m0.sure_, mpo (kInt .i64) (fun x : disk_sector => Value.agg #[.string x.s_, i6 x.at_]) p1 m0.wait_, own eStr 9 p2 c2 m1.l_] (fun r H' => (∃ (pq1 : Option Addr), ∃ (cq2 : Nat), ∃ (bq4 : Nat), ∃ (pq6 : Option Addr), ∃ (cq7 : Nat), res.1 = none ∧ r = .pointer none ∧ H' = [imm I, o0 b0 pq1 res.2.1.sure_ cq2 bq4 res.2.1.off_ res.2.1.armed_ res.2.1.left_ res.2.1.fall_.Keep res.2.1.fall_.Tear res.2.1.acts_ res.2.1.falls_, o5 b1 pq6 res.2.2.l_ cq7 res.2.2.sure_ res.2.2.boot_, own e_disk_sector 51 pq1 cq2 res.2.1.sure_, mpo (kInt .i64) (fun x : disk_sector => Value.agg #[.string x.s_, i6 x.at_]) bq4 res.2.1.wait_, own eStr 9 pq6 cq7 res.2.2.l_]) ∨ (∃ (sq1 : (journal_Journal × guard_Guard)), ∃ (bq2 : Nat), ∃ (bq4 : Nat), ∃ (pq6 : Option Addr), ∃ (cq7 : Nat), ∃ (pq9 : Option Addr), ∃ (cq10 : Nat), ∃ (bq12 : Nat), ∃ (pq14 : Option Addr), ∃ (cq15 : Nat), res.1 = some sq1 ∧ r = pP bq2 ∧ H' = [imm I, o0 b0 pq9 res.2.1.sure_ cq10 bq12 res.2.1.off_ res.2.1.armed_ res.2.1.left_ res.2.1.fall_.Keep res.2.1.fall_.Tear res.2.1.acts_ res.2.1.falls_, o5 b1 pq14 res.2.2.l_ cq15 res.2.2.sure_ res.2.2.boot_, o1 bq4 b0 sq1.2.boot_ sq1.2.n_, o3 bq2 bq4 sq1.1.base_ sq1.1.size_ sq1.1.next_ sq1.1.last_ pq6 sq1.1.list_ cq7 sq1.1.sure_ sq1.1.dead_, own eStr 9 pq6 cq7 sq1.1.list_, own e_disk_sector 51 pq9 cq10 res.2.1.sure_, mpo (kInt .i64) (fun x : disk_sector => Value.agg #[.string x.s_, i6 x.at_]) bq12 res.2.1.wait_, own eStr 9 pq14 cq15 res.2.2.l_])) := by
  unfold F.law12_again at hF
  refine tr_of_cw (fn := Tryz.f9) Tryz.func9 rfl (Nat.le_of_ble_eq_true rfl) 71 rfl fun F0 w0 => ?_
  refine cw_keep [0, 1, 2] (L' := [(0, pP b0), (1, pP b1), (2, .agg #[.int .u64 x2.Keep, i6 x2.Tear])]) rfl ?_
  refine cw_state (S' := SAT w0 ([imm I, o0 b0 p0 m0.sure_ c0 p1 m0.off_ m0.armed_ m0.left_ m0.fall_.Keep m0.fall_.Tear m0.acts_ m0.falls_, o5 b1 p2 m1.l_ c2 m1.sure_ m1.boot_, own e_disk_sector 51 p0 c0 m0.sure_, mpo (kInt .i64) (fun x : disk_sector => Value.agg #[.string x.s_, i6 x.at_]) p1 m0.wait_, own eStr 9 p2 c2 m1.l_] ++ F0)) (fun w hs => hs) ?_
  refine cw_seq ?_
  refine cw_region ?_
  refine ow_pw rfl (pw_box (cs := #[.int .u64 x2.Keep, i6 x2.Tear]) rfl rfl rfl rfl rfl rfl fun b21 => nw_ow ?_)
  refine ow_vals 1 (j := 2) [0, 1, 5] [(0, pP b0), (1, pP b1), (5, pP b21)] rfl (by kernel_rfl) ?_
  refine ow_end rfl ?_
  refine ew_then ?_
  refine cw_seq ?_
  refine cw_region ?_
  refine ow_vals 1 (j := 1) [0, 1, 5, 9] [(0, pP b0), (1, pP b1), (5, pP b21), (9, pP b0)] rfl (by kernel_rfl) ?_
  refine ow_pw rfl (pw_quiet (v := .agg #[.int .u64 x2.Keep, i6 x2.Tear]) rfl rfl rfl rfl (q_load 0 rfl rfl rfl (by kernel_rfl)) (nw_ow ?_))
  obtain ⟨r23, h24, hF⟩ := bind_some hF
  refine ow_pw rfl (pw_call (F := [o4 b21 x2.Keep x2.Tear, o5 b1 p2 m1.l_ c2 m1.sure_ m1.boot_, own eStr 9 p2 c2 m1.l_] ++ F0) rfl rfl rfl rfl rfl rfl rfl (by kernel_rfl) (perm_of_pulls [1, 1, 2, 2] rfl) (c_disk_Disk_Crash _ x2 m0 p0 c0 p1 b0 r23 h24) ?_)
  rintro _ _ ⟨r23_p1, r23_c2, r23_b4, rfl, rfl⟩
  refine nw_H (H' := [imm I, o0 b0 r23_p1 r23.2.sure_ r23_c2 r23_b4 r23.2.off_ r23.2.armed_ r23.2.left_ r23.2.fall_.Keep r23.2.fall_.Tear r23.2.acts_ r23.2.falls_, own e_disk_sector 51 r23_p1 r23_c2 r23.2.sure_, mpo (kInt .i64) (fun x : disk_sector => Value.agg #[.string x.s_, i6 x.at_]) r23_b4 r23.2.wait_, o4 b21 x2.Keep x2.Tear, o5 b1 p2 m1.l_ c2 m1.sure_ m1.boot_, own eStr 9 p2 c2 m1.l_] ++ F0) rfl (nw_ow ?_)
  refine ow_end rfl ?_
  refine ew_then ?_
  refine cw_seq ?_
  refine cw_region ?_
  refine ow_vals 1 (j := 1) [0, 1, 12] [(0, pP b0), (1, pP b1), (12, pP b0)] rfl (by kernel_rfl) ?_
  obtain ⟨r27, h28, hF⟩ := bind_some hF
  refine ow_pw rfl (pw_call (F := [o4 b21 x2.Keep x2.Tear, o5 b1 p2 m1.l_ c2 m1.sure_ m1.boot_, own eStr 9 p2 c2 m1.l_] ++ F0) rfl rfl rfl rfl rfl rfl rfl (by kernel_rfl) (perm_of_pulls [0, 0, 0, 0] rfl) (c_disk_Disk_Calm _ r23.2 r23_p1 r23_c2 r23_b4 b0 r27 h28) ?_)
  rintro _ _ ⟨r27_p1, r27_c2, r27_b4, rfl, rfl⟩
  refine nw_H (H' := [imm I, o0 b0 r27_p1 r27.sure_ r27_c2 r27_b4 r27.off_ r27.armed_ r27.left_ r27.fall_.Keep r27.fall_.Tear r27.acts_ r27.falls_, own e_disk_sector 51 r27_p1 r27_c2 r27.sure_, mpo (kInt .i64) (fun x : disk_sector => Value.agg #[.string x.s_, i6 x.at_]) r27_b4 r27.wait_, o4 b21 x2.Keep x2.Tear, o5 b1 p2 m1.l_ c2 m1.sure_ m1.boot_, own eStr 9 p2 c2 m1.l_] ++ F0) rfl (nw_ow ?_)
  refine ow_end rfl ?_
  refine ew_then ?_
  refine cw_seq ?_
  refine cw_region ?_
  refine ow_vals 1 (j := 1) [0, 1, 14] [(0, pP b0), (1, pP b1), (14, pP b0)] rfl (by kernel_rfl) ?_
  obtain ⟨r31, h32, hF⟩ := bind_some hF
  refine ow_pw rfl (pw_call (F := [o4 b21 x2.Keep x2.Tear, o5 b1 p2 m1.l_ c2 m1.sure_ m1.boot_, own eStr 9 p2 c2 m1.l_] ++ F0) rfl rfl rfl rfl rfl rfl rfl (by kernel_rfl) (perm_of_pulls [0, 0, 0, 0] rfl) (c_disk_Disk_Start _ r27 r27_p1 r27_c2 r27_b4 b0 r31 h32) ?_)
  rintro _ _ ⟨r31_p1, r31_c2, r31_b4, rfl, rfl⟩
  refine nw_H (H' := [imm I, o0 b0 r31_p1 r31.2.sure_ r31_c2 r31_b4 r31.2.off_ r31.2.armed_ r31.2.left_ r31.2.fall_.Keep r31.2.fall_.Tear r31.2.acts_ r31.2.falls_, own e_disk_sector 51 r31_p1 r31_c2 r31.2.sure_, mpo (kInt .i64) (fun x : disk_sector => Value.agg #[.string x.s_, i6 x.at_]) r31_b4 r31.2.wait_, o4 b21 x2.Keep x2.Tear, o5 b1 p2 m1.l_ c2 m1.sure_ m1.boot_, own eStr 9 p2 c2 m1.l_] ++ F0) rfl (nw_ow ?_)
  refine ow_end rfl ?_
  refine ew_then ?_
  refine cw_seq ?_
  refine cw_region ?_
  refine ow_vals 4 (j := 4) [0, 1, 16, 19] [(0, pP b0), (1, pP b1), (16, pP b1), (19, .pointer (some ⟨b1, 2, none⟩))] rfl (by kernel_rfl) ?_
  refine ow_pw rfl (pw_quiet (v := i6 m1.boot_) rfl rfl rfl rfl (q_load 5 rfl rfl rfl (by kernel_rfl)) (nw_ow ?_))
  refine ow_vals 3 (j := 8) [0, 1, 21, 23] [(0, pP b0), (1, pP b1), (21, i6 (IntKind.i64.wrap (m1.boot_ + 1))), (23, .pointer (some ⟨b1, 2, none⟩))] rfl (by kernel_rfl) ?_
  refine ow_pw rfl (pw_store 5 #[.slice p2 m1.l_.length c2, i6 m1.sure_, i6 (IntKind.i64.wrap (m1.boot_ + 1))] rfl rfl rfl rfl rfl rfl rfl (by kernel_rfl) (nw_H (H' := [imm I, o0 b0 r31_p1 r31.2.sure_ r31_c2 r31_b4 r31.2.off_ r31.2.armed_ r31.2.left_ r31.2.fall_.Keep r31.2.fall_.Tear r31.2.acts_ r31.2.falls_, own e_disk_sector 51 r31_p1 r31_c2 r31.2.sure_, mpo (kInt .i64) (fun x : disk_sector => Value.agg #[.string x.s_, i6 x.at_]) r31_b4 r31.2.wait_, o4 b21 x2.Keep x2.Tear, o5 b1 p2 m1.l_ c2 m1.sure_ (IntKind.i64.wrap (m1.boot_ + 1)), own eStr 9 p2 c2 m1.l_] ++ F0) rfl (nw_ow ?_)))
  refine ow_end rfl ?_
  refine ew_then ?_
  refine cw_seq ?_
  refine cw_region ?_
  refine ow_vals 4 (j := 4) [1, 24, 27] [(1, pP b1), (24, pP b0), (27, .pointer (some ⟨b1, 2, none⟩))] rfl (by kernel_rfl) ?_
  refine ow_pw rfl (pw_quiet (v := i6 (IntKind.i64.wrap (m1.boot_ + 1))) rfl rfl rfl rfl (q_load 5 rfl rfl rfl (by kernel_rfl)) (nw_ow ?_))
  obtain ⟨r35, h36, hF⟩ := bind_some hF
  refine ow_pw rfl (pw_call (F := [o4 b21 x2.Keep x2.Tear, o5 b1 p2 m1.l_ c2 m1.sure_ (IntKind.i64.wrap (m1.boot_ + 1)), own eStr 9 p2 c2 m1.l_] ++ F0) rfl rfl rfl rfl rfl rfl rfl (by kernel_rfl) (perm_of_pulls [0, 0, 0, 0] rfl) (c_law12_open _ (IntKind.i64.wrap (m1.boot_ + 1)) r31.2 r31_p1 r31_c2 r31_b4 b0 r35 h36) ?_)
  rintro _ _ (⟨hO, rfl, rfl⟩ | ⟨r35_s1, r35_b2, r35_b4, r35_p6, r35_c7, hO, rfl, rfl⟩)
  · rw [hO] at hF
    try dsimp only [optC] at hF
    refine nw_H (H' := [imm I, o0 b0 r31_p1 r31.2.sure_ r31_c2 r31_b4 r31.2.off_ r31.2.armed_ r31.2.left_ r31.2.fall_.Keep r31.2.fall_.Tear r31.2.acts_ r31.2.falls_, own e_disk_sector 51 r31_p1 r31_c2 r31.2.sure_, mpo (kInt .i64) (fun x : disk_sector => Value.agg #[.string x.s_, i6 x.at_]) r31_b4 r31.2.wait_, o4 b21 x2.Keep x2.Tear, o5 b1 p2 m1.l_ c2 m1.sure_ (IntKind.i64.wrap (m1.boot_ + 1)), own eStr 9 p2 c2 m1.l_] ++ F0) rfl (nw_ow ?_)
    refine ow_vals 1 (j := 7) [1, 7] [(1, pP b1), (7, .pointer none)] rfl (by kernel_rfl) ?_
    refine ow_end rfl ?_
    refine ew_then ?_
    refine cw_seq ?_
    refine cw_seq ?_
    refine cw_region ?_
    refine ow_vals 2 (j := 2) [1, 7, 31] [(1, pP b1), (7, .pointer none), (31, .bool true)] rfl (by kernel_rfl) ?_
    refine ow_end rfl ?_
    refine ew_then ?_
    refine cw_cond_t rfl rfl rfl ?_
    refine cw_seq ?_
    refine cw_region ?_
    refine ow_vals 1 (j := 1) [6] [(6, .pointer none)] rfl (by kernel_rfl) ?_
    refine ow_end rfl ?_
    refine ew_then ?_
    refine cw_ret ?_
    refine ew_then_ret ?_
    have hR := Option.some.inj hF
    subst hR
    exact fin1 (H1 := [imm I, o0 b0 r31_p1 r31.2.sure_ r31_c2 r31_b4 r31.2.off_ r31.2.armed_ r31.2.left_ r31.2.fall_.Keep r31.2.fall_.Tear r31.2.acts_ r31.2.falls_, o5 b1 p2 ((⟨m1.l_, m1.sure_, IntKind.i64.wrap (m1.boot_ + 1)⟩ : law12_plain).l_) c2 ((⟨m1.l_, m1.sure_, IntKind.i64.wrap (m1.boot_ + 1)⟩ : law12_plain).sure_) ((⟨m1.l_, m1.sure_, IntKind.i64.wrap (m1.boot_ + 1)⟩ : law12_plain).boot_), own e_disk_sector 51 r31_p1 r31_c2 r31.2.sure_, mpo (kInt .i64) (fun x : disk_sector => Value.agg #[.string x.s_, i6 x.at_]) r31_b4 r31.2.wait_, own eStr 9 p2 c2 ((⟨m1.l_, m1.sure_, IntKind.i64.wrap (m1.boot_ + 1)⟩ : law12_plain).l_)]) (fun w hs => sat_to [4, 0, 0, 2, 0, 0, 0] 1 rfl hs) rfl (rr_tmp rfl) (.inl ⟨r31_p1, r31_c2, r31_b4, p2, c2, rfl, rfl, rfl⟩)
  rw [hO] at hF
  try dsimp only [optC] at hF
  refine nw_H (H' := [imm I, o0 b0 r31_p1 r31.2.sure_ r31_c2 r31_b4 r31.2.off_ r31.2.armed_ r31.2.left_ r31.2.fall_.Keep r31.2.fall_.Tear r31.2.acts_ r31.2.falls_, o1 r35_b4 b0 r35_s1.2.boot_ r35_s1.2.n_, o3 r35_b2 r35_b4 r35_s1.1.base_ r35_s1.1.size_ r35_s1.1.next_ r35_s1.1.last_ r35_p6 r35_s1.1.list_ r35_c7 r35_s1.1.sure_ r35_s1.1.dead_, own eStr 9 r35_p6 r35_c7 r35_s1.1.list_, own e_disk_sector 51 r31_p1 r31_c2 r31.2.sure_, mpo (kInt .i64) (fun x : disk_sector => Value.agg #[.string x.s_, i6 x.at_]) r31_b4 r31.2.wait_, o4 b21 x2.Keep x2.Tear, o5 b1 p2 m1.l_ c2 m1.sure_ (IntKind.i64.wrap (m1.boot_ + 1)), own eStr 9 p2 c2 m1.l_] ++ F0) rfl (nw_ow ?_)
  refine ow_vals 1 (j := 7) [1, 7] [(1, pP b1), (7, pP r35_b2)] rfl (by kernel_rfl) ?_
  refine ow_end rfl ?_
  refine ew_then ?_
  refine cw_seq ?_
  refine cw_seq ?_
  refine cw_region ?_
  refine ow_vals 2 (j := 2) [1, 7, 31] [(1, pP b1), (7, pP r35_b2), (31, .bool false)] rfl (by kernel_rfl) ?_
  refine ow_end rfl ?_
  refine ew_then ?_
  refine cw_cond_f rfl rfl rfl ?_
  refine cw_skip ?_
  refine ew_then ?_
  refine cw_seq ?_
  refine cw_region ?_
  refine ow_vals 1 (j := 1) [1, 7, 32] [(1, pP b1), (7, pP r35_b2), (32, pP r35_b2)] rfl (by kernel_rfl) ?_
  obtain ⟨r40, h41, hF⟩ := bind_some hF
  refine ow_pw rfl (pw_call (F := [o4 b21 x2.Keep x2.Tear, o5 b1 p2 m1.l_ c2 m1.sure_ (IntKind.i64.wrap (m1.boot_ + 1)), own eStr 9 p2 c2 m1.l_] ++ F0) rfl rfl rfl rfl rfl rfl rfl (by kernel_rfl) (perm_of_pulls [0, 2, 1, 0, 0, 0, 0] rfl) (c_journal_Journal_Records _ r35_s1.1 r35_s1.2 r31.2 r35_p6 r35_c7 r35_b2 r35_b4 r31_p1 r31_c2 r31_b4 b0 r40 h41) ?_)
  rintro _ _ ⟨r40_p1, r40_c2, rfl, rfl⟩
  refine nw_H (H' := [imm I, o3 r35_b2 r35_b4 r35_s1.1.base_ r35_s1.1.size_ r35_s1.1.next_ r35_s1.1.last_ r35_p6 r35_s1.1.list_ r35_c7 r35_s1.1.sure_ r35_s1.1.dead_, o1 r35_b4 b0 r35_s1.2.boot_ r35_s1.2.n_, o0 b0 r31_p1 r31.2.sure_ r31_c2 r31_b4 r31.2.off_ r31.2.armed_ r31.2.left_ r31.2.fall_.Keep r31.2.fall_.Tear r31.2.acts_ r31.2.falls_, own eStr 9 r40_p1 r40_c2 r40, own eStr 9 r35_p6 r35_c7 r35_s1.1.list_, own e_disk_sector 51 r31_p1 r31_c2 r31.2.sure_, mpo (kInt .i64) (fun x : disk_sector => Value.agg #[.string x.s_, i6 x.at_]) r31_b4 r31.2.wait_, o4 b21 x2.Keep x2.Tear, o5 b1 p2 m1.l_ c2 m1.sure_ (IntKind.i64.wrap (m1.boot_ + 1)), own eStr 9 p2 c2 m1.l_] ++ F0) rfl (nw_ow ?_)
  refine ow_vals 1 (j := 3) [1, 7, 8] [(1, pP b1), (7, pP r35_b2), (8, .slice r40_p1 r40.length r40_c2)] rfl (by kernel_rfl) ?_
  refine ow_end rfl ?_
  refine ew_then ?_
  obtain ⟨v43, hF, hK43⟩ := thru_some hF
  refine cw_mid (fun a w => .inl () = v43 ∧ Fr 71 [(1, pP b1), (7, pP r35_b2), (8, .slice r40_p1 r40.length r40_c2)] a ∧ SAT w0 ([imm I, o3 r35_b2 r35_b4 r35_s1.1.base_ r35_s1.1.size_ r35_s1.1.next_ r35_s1.1.last_ r35_p6 r35_s1.1.list_ r35_c7 r35_s1.1.sure_ r35_s1.1.dead_, o1 r35_b4 b0 r35_s1.2.boot_ r35_s1.2.n_, o0 b0 r31_p1 r31.2.sure_ r31_c2 r31_b4 r31.2.off_ r31.2.armed_ r31.2.left_ r31.2.fall_.Keep r31.2.fall_.Tear r31.2.acts_ r31.2.falls_, o4 b21 x2.Keep x2.Tear, o5 b1 p2 m1.l_ c2 m1.sure_ (IntKind.i64.wrap (m1.boot_ + 1)), own eStr 9 r40_p1 r40_c2 r40, own eStr 9 r35_p6 r35_c7 r35_s1.1.list_, own e_disk_sector 51 r31_p1 r31_c2 r31.2.sure_, mpo (kInt .i64) (fun x : disk_sector => Value.agg #[.string x.s_, i6 x.at_]) r31_b4 r31.2.wait_, own eStr 9 p2 c2 m1.l_] ++ F0) w) ?_ ?_
  · refine cw_seq ?_
    refine cw_region ?_
    refine ow_vals 5 (j := 5) [1, 7, 8, 35, 38] [(1, pP b1), (7, pP r35_b2), (8, .slice r40_p1 r40.length r40_c2), (35, i6 (r40.length : Int)), (38, .pointer (some ⟨b1, 1, none⟩))] rfl (by kernel_rfl) ?_
    refine ow_pw rfl (pw_quiet (v := i6 m1.sure_) rfl rfl rfl rfl (q_load 9 rfl rfl rfl (by kernel_rfl)) (nw_ow ?_))
    refine ow_vals 2 (j := 8) [1, 7, 8, 41] [(1, pP b1), (7, pP r35_b2), (8, .slice r40_p1 r40.length r40_c2), (41, .bool (decide ((r40.length : Int) < m1.sure_)))] rfl (by kernel_rfl) ?_
    rcases if_some hF with ⟨h44, hF⟩ | ⟨h44, hF⟩
    · refine ow_slots (L' := [(1, pP b1), (7, pP r35_b2), (8, .slice r40_p1 r40.length r40_c2), (41, .bool true)]) (by rw [h44]) ?_
      refine ow_vals 9 (j := 17) [1, 7, 8, 50] [(1, pP b1), (7, pP r35_b2), (8, .slice r40_p1 r40.length r40_c2), (50, .bool true)] rfl (by kernel_rfl) ?_
      refine ow_end rfl ?_
      refine ew_then ?_
      refine cw_cond_t rfl rfl rfl ?_
      refine cw_seq ?_
      refine cw_region ?_
      refine ow_vals 1 (j := 1) [6] [(6, .pointer none)] rfl (by kernel_rfl) ?_
      refine ow_end rfl ?_
      refine ew_then ?_
      refine cw_ret ?_
      refine ew_then_ret ?_
      have hR := Option.some.inj hF
      subst hR
      have hR := hK43
      try dsimp only [Thru] at hR
      subst hR
      exact fin1 (H1 := [imm I, o0 b0 r31_p1 r31.2.sure_ r31_c2 r31_b4 r31.2.off_ r31.2.armed_ r31.2.left_ r31.2.fall_.Keep r31.2.fall_.Tear r31.2.acts_ r31.2.falls_, o5 b1 p2 ((⟨m1.l_, m1.sure_, IntKind.i64.wrap (m1.boot_ + 1)⟩ : law12_plain).l_) c2 ((⟨m1.l_, m1.sure_, IntKind.i64.wrap (m1.boot_ + 1)⟩ : law12_plain).sure_) ((⟨m1.l_, m1.sure_, IntKind.i64.wrap (m1.boot_ + 1)⟩ : law12_plain).boot_), own e_disk_sector 51 r31_p1 r31_c2 r31.2.sure_, mpo (kInt .i64) (fun x : disk_sector => Value.agg #[.string x.s_, i6 x.at_]) r31_b4 r31.2.wait_, own eStr 9 p2 c2 ((⟨m1.l_, m1.sure_, IntKind.i64.wrap (m1.boot_ + 1)⟩ : law12_plain).l_)]) (fun w hs => sat_to [1, 1, 2, 2, 4, 0, 0, 2, 0, 0, 0] 5 rfl hs) rfl (rr_tmp rfl) (.inl ⟨r31_p1, r31_c2, r31_b4, p2, c2, rfl, rfl, rfl⟩)
    refine ow_slots (L' := [(1, pP b1), (7, pP r35_b2), (8, .slice r40_p1 r40.length r40_c2), (41, .bool false)]) (by rw [h44]) ?_
    refine ow_vals 5 (j := 13) [1, 7, 8, 41, 43, 46] [(1, pP b1), (7, pP r35_b2), (8, .slice r40_p1 r40.length r40_c2), (41, .bool false), (43, i6 (r40.length : Int)), (46, pP b1)] rfl (by kernel_rfl) ?_
    refine ow_pw rfl (pw_quiet (v := .slice p2 m1.l_.length c2) rfl rfl rfl rfl (q_load 9 rfl rfl rfl (by kernel_rfl)) (nw_ow ?_))
    refine ow_vals 3 (j := 17) [1, 7, 8, 50] [(1, pP b1), (7, pP r35_b2), (8, .slice r40_p1 r40.length r40_c2), (50, .bool (decide ((r40.length : Int) > (m1.l_.length : Int))))] rfl (by kernel_rfl) ?_
    refine ow_end rfl ?_
    refine ew_then ?_
    rcases if_some hF with ⟨h45, hF⟩ | ⟨h45, hF⟩
    · refine cw_cond_t rfl rfl h45 ?_
      refine cw_seq ?_
      refine cw_region ?_
      refine ow_vals 1 (j := 1) [6] [(6, .pointer none)] rfl (by kernel_rfl) ?_
      refine ow_end rfl ?_
      refine ew_then ?_
      refine cw_ret ?_
      refine ew_then_ret ?_
      have hR := Option.some.inj hF
      subst hR
      have hR := hK43
      try dsimp only [Thru] at hR
      subst hR
      exact fin1 (H1 := [imm I, o0 b0 r31_p1 r31.2.sure_ r31_c2 r31_b4 r31.2.off_ r31.2.armed_ r31.2.left_ r31.2.fall_.Keep r31.2.fall_.Tear r31.2.acts_ r31.2.falls_, o5 b1 p2 ((⟨m1.l_, m1.sure_, IntKind.i64.wrap (m1.boot_ + 1)⟩ : law12_plain).l_) c2 ((⟨m1.l_, m1.sure_, IntKind.i64.wrap (m1.boot_ + 1)⟩ : law12_plain).sure_) ((⟨m1.l_, m1.sure_, IntKind.i64.wrap (m1.boot_ + 1)⟩ : law12_plain).boot_), own e_disk_sector 51 r31_p1 r31_c2 r31.2.sure_, mpo (kInt .i64) (fun x : disk_sector => Value.agg #[.string x.s_, i6 x.at_]) r31_b4 r31.2.wait_, own eStr 9 p2 c2 ((⟨m1.l_, m1.sure_, IntKind.i64.wrap (m1.boot_ + 1)⟩ : law12_plain).l_)]) (fun w hs => sat_to [1, 1, 2, 2, 4, 0, 0, 2, 0, 0, 0] 5 rfl hs) rfl (rr_tmp rfl) (.inl ⟨r31_p1, r31_c2, r31_b4, p2, c2, rfl, rfl, rfl⟩)
    refine cw_cond_f rfl rfl h45 ?_
    refine cw_skip ?_
    have hR := Option.some.inj hF
    exact fun a w hf hs => ⟨hR, hf.keep [1, 7, 8], sat_to [0, 0, 0, 0, 4, 4, 0, 0, 0, 0, 0] 0 rfl hs⟩
  rintro a w ⟨hv, hf, hs⟩
  subst hv
  replace hF := hK43
  clear hK43
  try dsimp only [Thru] at hF
  revert a w
  show CW _ _ _ 71 [(1, pP b1), (7, pP r35_b2), (8, .slice r40_p1 r40.length r40_c2)] (SAT w0 ([imm I, o3 r35_b2 r35_b4 r35_s1.1.base_ r35_s1.1.size_ r35_s1.1.next_ r35_s1.1.last_ r35_p6 r35_s1.1.list_ r35_c7 r35_s1.1.sure_ r35_s1.1.dead_, o1 r35_b4 b0 r35_s1.2.boot_ r35_s1.2.n_, o0 b0 r31_p1 r31.2.sure_ r31_c2 r31_b4 r31.2.off_ r31.2.armed_ r31.2.left_ r31.2.fall_.Keep r31.2.fall_.Tear r31.2.acts_ r31.2.falls_, o4 b21 x2.Keep x2.Tear, o5 b1 p2 m1.l_ c2 m1.sure_ (IntKind.i64.wrap (m1.boot_ + 1)), own eStr 9 r40_p1 r40_c2 r40, own eStr 9 r35_p6 r35_c7 r35_s1.1.list_, own e_disk_sector 51 r31_p1 r31_c2 r31.2.sure_, mpo (kInt .i64) (fun x : disk_sector => Value.agg #[.string x.s_, i6 x.at_]) r31_b4 r31.2.wait_, own eStr 9 p2 c2 m1.l_] ++ F0))
  unfold F.law12_again.r1 at hF
  refine cw_seq ?_
  refine cw_region ?_
  refine ow_vals 4 (j := 4) [1, 7, 8, 51, 54] [(1, pP b1), (7, pP r35_b2), (8, .slice r40_p1 r40.length r40_c2), (51, pP b1), (54, pP b1)] rfl (by kernel_rfl) ?_
  refine ow_pw rfl (pw_quiet (v := .slice p2 m1.l_.length c2) rfl rfl rfl rfl (q_load 5 rfl rfl rfl (by kernel_rfl)) (nw_ow ?_))
  refine ow_vals 2 (j := 7) [1, 7, 8, 51, 55, 57] [(1, pP b1), (7, pP r35_b2), (8, .slice r40_p1 r40.length r40_c2), (51, pP b1), (55, .slice p2 m1.l_.length c2), (57, i6 (r40.length : Int))] rfl (by kernel_rfl) ?_
  obtain ⟨h46, hF⟩ := chk_some hF
  refine ow_pw rfl (pw_take_own 10 1 rfl rfl rfl rfl rfl rfl (by kernel_rfl) rfl rfl (Int.le_trans h46.1 h46.2.1) h46.2.2 (nw_H (H' := [imm I, o3 r35_b2 r35_b4 r35_s1.1.base_ r35_s1.1.size_ r35_s1.1.next_ r35_s1.1.last_ r35_p6 r35_s1.1.list_ r35_c7 r35_s1.1.sure_ r35_s1.1.dead_, o1 r35_b4 b0 r35_s1.2.boot_ r35_s1.2.n_, o0 b0 r31_p1 r31.2.sure_ r31_c2 r31_b4 r31.2.off_ r31.2.armed_ r31.2.left_ r31.2.fall_.Keep r31.2.fall_.Tear r31.2.acts_ r31.2.falls_, o4 b21 x2.Keep x2.Tear, o5 b1 p2 m1.l_ c2 m1.sure_ (IntKind.i64.wrap (m1.boot_ + 1)), own eStr 9 r40_p1 r40_c2 r40, own eStr 9 r35_p6 r35_c7 r35_s1.1.list_, own e_disk_sector 51 r31_p1 r31_c2 r31.2.sure_, mpo (kInt .i64) (fun x : disk_sector => Value.agg #[.string x.s_, i6 x.at_]) r31_b4 r31.2.wait_, own eStr 9 p2 c2 (m1.l_.take (r40.length : Int).toNat)] ++ F0) rfl (nw_ow ?_)))
  refine ow_vals 2 (j := 10) [1, 7, 8, 58, 60] [(1, pP b1), (7, pP r35_b2), (8, .slice r40_p1 r40.length r40_c2), (58, .slice p2 (m1.l_.take (r40.length : Int).toNat).length c2), (60, pP b1)] rfl (by kernel_rfl) ?_
  refine ow_pw rfl (pw_store 5 #[.slice p2 (m1.l_.take (r40.length : Int).toNat).length c2, i6 m1.sure_, i6 (IntKind.i64.wrap (m1.boot_ + 1))] rfl rfl rfl rfl rfl rfl rfl (by kernel_rfl) (nw_H (H' := [imm I, o3 r35_b2 r35_b4 r35_s1.1.base_ r35_s1.1.size_ r35_s1.1.next_ r35_s1.1.last_ r35_p6 r35_s1.1.list_ r35_c7 r35_s1.1.sure_ r35_s1.1.dead_, o1 r35_b4 b0 r35_s1.2.boot_ r35_s1.2.n_, o0 b0 r31_p1 r31.2.sure_ r31_c2 r31_b4 r31.2.off_ r31.2.armed_ r31.2.left_ r31.2.fall_.Keep r31.2.fall_.Tear r31.2.acts_ r31.2.falls_, o4 b21 x2.Keep x2.Tear, o5 b1 p2 (m1.l_.take (r40.length : Int).toNat) c2 m1.sure_ (IntKind.i64.wrap (m1.boot_ + 1)), own eStr 9 r40_p1 r40_c2 r40, own eStr 9 r35_p6 r35_c7 r35_s1.1.list_, own e_disk_sector 51 r31_p1 r31_c2 r31.2.sure_, mpo (kInt .i64) (fun x : disk_sector => Value.agg #[.string x.s_, i6 x.at_]) r31_b4 r31.2.wait_, own eStr 9 p2 c2 (m1.l_.take (r40.length : Int).toNat)] ++ F0) rfl (nw_ow ?_)))
  refine ow_end rfl ?_
  refine ew_then ?_
  refine cw_seq ?_
  refine cw_region ?_
  refine ow_vals 5 (j := 5) [1, 7, 63, 65] [(1, pP b1), (7, pP r35_b2), (63, i6 (r40.length : Int)), (65, .pointer (some ⟨b1, 1, none⟩))] rfl (by kernel_rfl) ?_
  refine ow_pw rfl (pw_store 5 #[.slice p2 (m1.l_.take (r40.length : Int).toNat).length c2, i6 (r40.length : Int), i6 (IntKind.i64.wrap (m1.boot_ + 1))] rfl rfl rfl rfl rfl rfl rfl (by kernel_rfl) (nw_H (H' := [imm I, o3 r35_b2 r35_b4 r35_s1.1.base_ r35_s1.1.size_ r35_s1.1.next_ r35_s1.1.last_ r35_p6 r35_s1.1.list_ r35_c7 r35_s1.1.sure_ r35_s1.1.dead_, o1 r35_b4 b0 r35_s1.2.boot_ r35_s1.2.n_, o0 b0 r31_p1 r31.2.sure_ r31_c2 r31_b4 r31.2.off_ r31.2.armed_ r31.2.left_ r31.2.fall_.Keep r31.2.fall_.Tear r31.2.acts_ r31.2.falls_, o4 b21 x2.Keep x2.Tear, o5 b1 p2 (m1.l_.take (r40.length : Int).toNat) c2 (r40.length : Int) (IntKind.i64.wrap (m1.boot_ + 1)), own eStr 9 r40_p1 r40_c2 r40, own eStr 9 r35_p6 r35_c7 r35_s1.1.list_, own e_disk_sector 51 r31_p1 r31_c2 r31.2.sure_, mpo (kInt .i64) (fun x : disk_sector => Value.agg #[.string x.s_, i6 x.at_]) r31_b4 r31.2.wait_, own eStr 9 p2 c2 (m1.l_.take (r40.length : Int).toNat)] ++ F0) rfl (nw_ow ?_)))
  refine ow_end rfl ?_
  refine ew_then ?_
  refine cw_seq ?_
  refine cw_seq ?_
  refine cw_region ?_
  refine ow_vals 2 (j := 2) [7, 66, 67] [(7, pP r35_b2), (66, pP r35_b2), (67, pP b1)] rfl (by kernel_rfl) ?_
  obtain ⟨r47, h48, hF⟩ := bind_some hF
  refine ow_pw rfl (pw_call (F := [o4 b21 x2.Keep x2.Tear, own eStr 9 r40_p1 r40_c2 r40] ++ F0) rfl rfl rfl rfl rfl rfl rfl (by kernel_rfl) (perm_of_pulls [0, 0, 0, 0, 1, 2, 2, 2, 2] rfl) (c_law12_holds _ r35_s1.1 r35_s1.2 r31.2 (⟨m1.l_.take (r40.length : Int).toNat, (r40.length : Int), IntKind.i64.wrap (m1.boot_ + 1)⟩ : law12_plain) r35_p6 r35_c7 r35_b2 r35_b4 r31_p1 r31_c2 r31_b4 b0 p2 c2 b1 r47 h48) ?_)
  rintro _ _ ⟨rfl, rfl⟩
  refine nw_H (H' := [imm I, o3 r35_b2 r35_b4 r35_s1.1.base_ r35_s1.1.size_ r35_s1.1.next_ r35_s1.1.last_ r35_p6 r35_s1.1.list_ r35_c7 r35_s1.1.sure_ r35_s1.1.dead_, o1 r35_b4 b0 r35_s1.2.boot_ r35_s1.2.n_, o0 b0 r31_p1 r31.2.sure_ r31_c2 r31_b4 r31.2.off_ r31.2.armed_ r31.2.left_ r31.2.fall_.Keep r31.2.fall_.Tear r31.2.acts_ r31.2.falls_, o5 b1 p2 ((⟨m1.l_.take (r40.length : Int).toNat, (r40.length : Int), IntKind.i64.wrap (m1.boot_ + 1)⟩ : law12_plain).l_) c2 ((⟨m1.l_.take (r40.length : Int).toNat, (r40.length : Int), IntKind.i64.wrap (m1.boot_ + 1)⟩ : law12_plain).sure_) ((⟨m1.l_.take (r40.length : Int).toNat, (r40.length : Int), IntKind.i64.wrap (m1.boot_ + 1)⟩ : law12_plain).boot_), own eStr 9 r35_p6 r35_c7 r35_s1.1.list_, own e_disk_sector 51 r31_p1 r31_c2 r31.2.sure_, mpo (kInt .i64) (fun x : disk_sector => Value.agg #[.string x.s_, i6 x.at_]) r31_b4 r31.2.wait_, own eStr 9 p2 c2 ((⟨m1.l_.take (r40.length : Int).toNat, (r40.length : Int), IntKind.i64.wrap (m1.boot_ + 1)⟩ : law12_plain).l_), o4 b21 x2.Keep x2.Tear, own eStr 9 r40_p1 r40_c2 r40] ++ F0) rfl (nw_ow ?_)
  refine ow_vals 1 (j := 4) [7, 69] [(7, pP r35_b2), (69, .bool (!r47))] rfl (by kernel_rfl) ?_
  refine ow_end rfl ?_
  refine ew_then ?_
  rcases if_some hF with ⟨h49, hF⟩ | ⟨h49, hF⟩
  · refine cw_cond_t rfl rfl h49 ?_
    refine cw_seq ?_
    refine cw_region ?_
    refine ow_vals 1 (j := 1) [6] [(6, .pointer none)] rfl (by kernel_rfl) ?_
    refine ow_end rfl ?_
    refine ew_then ?_
    refine cw_ret ?_
    refine ew_then_ret ?_
    have hR := Option.some.inj hF
    subst hR
    exact fin1 (H1 := [imm I, o0 b0 r31_p1 r31.2.sure_ r31_c2 r31_b4 r31.2.off_ r31.2.armed_ r31.2.left_ r31.2.fall_.Keep r31.2.fall_.Tear r31.2.acts_ r31.2.falls_, o5 b1 p2 ((⟨m1.l_.take (r40.length : Int).toNat, (r40.length : Int), IntKind.i64.wrap (m1.boot_ + 1)⟩ : law12_plain).l_) c2 ((⟨m1.l_.take (r40.length : Int).toNat, (r40.length : Int), IntKind.i64.wrap (m1.boot_ + 1)⟩ : law12_plain).sure_) ((⟨m1.l_.take (r40.length : Int).toNat, (r40.length : Int), IntKind.i64.wrap (m1.boot_ + 1)⟩ : law12_plain).boot_), own e_disk_sector 51 r31_p1 r31_c2 r31.2.sure_, mpo (kInt .i64) (fun x : disk_sector => Value.agg #[.string x.s_, i6 x.at_]) r31_b4 r31.2.wait_, own eStr 9 p2 c2 ((⟨m1.l_.take (r40.length : Int).toNat, (r40.length : Int), IntKind.i64.wrap (m1.boot_ + 1)⟩ : law12_plain).l_)]) (fun w hs => sat_to [1, 1, 3, 6, 6, 0, 0, 0, 0, 0, 0] 5 rfl hs) rfl (rr_tmp rfl) (.inl ⟨r31_p1, r31_c2, r31_b4, p2, c2, rfl, rfl, rfl⟩)
  refine cw_cond_f rfl rfl h49 ?_
  refine cw_skip ?_
  refine ew_then ?_
  refine cw_seq ?_
  refine cw_region ?_
  refine ow_vals 2 (j := 2) [6] [(6, pP r35_b2)] rfl (by kernel_rfl) ?_
  refine ow_end rfl ?_
  refine ew_then ?_
  refine cw_ret ?_
  have hR := Option.some.inj hF
  subst hR
  exact fin1 (H1 := [imm I, o0 b0 r31_p1 r31.2.sure_ r31_c2 r31_b4 r31.2.off_ r31.2.armed_ r31.2.left_ r31.2.fall_.Keep r31.2.fall_.Tear r31.2.acts_ r31.2.falls_, o5 b1 p2 ((⟨m1.l_.take (r40.length : Int).toNat, (r40.length : Int), IntKind.i64.wrap (m1.boot_ + 1)⟩ : law12_plain).l_) c2 ((⟨m1.l_.take (r40.length : Int).toNat, (r40.length : Int), IntKind.i64.wrap (m1.boot_ + 1)⟩ : law12_plain).sure_) ((⟨m1.l_.take (r40.length : Int).toNat, (r40.length : Int), IntKind.i64.wrap (m1.boot_ + 1)⟩ : law12_plain).boot_), o1 r35_b4 b0 ((r35_s1.1, r35_s1.2).2.boot_) ((r35_s1.1, r35_s1.2).2.n_), o3 r35_b2 r35_b4 ((r35_s1.1, r35_s1.2).1.base_) ((r35_s1.1, r35_s1.2).1.size_) ((r35_s1.1, r35_s1.2).1.next_) ((r35_s1.1, r35_s1.2).1.last_) r35_p6 ((r35_s1.1, r35_s1.2).1.list_) r35_c7 ((r35_s1.1, r35_s1.2).1.sure_) ((r35_s1.1, r35_s1.2).1.dead_), own eStr 9 r35_p6 r35_c7 (r35_s1.1, r35_s1.2).1.list_, own e_disk_sector 51 r31_p1 r31_c2 r31.2.sure_, mpo (kInt .i64) (fun x : disk_sector => Value.agg #[.string x.s_, i6 x.at_]) r31_b4 r31.2.wait_, own eStr 9 p2 c2 ((⟨m1.l_.take (r40.length : Int).toNat, (r40.length : Int), IntKind.i64.wrap (m1.boot_ + 1)⟩ : law12_plain).l_)]) (fun w hs => sat_to [9, 9, 0, 2, 2, 1, 0, 0, 0, 0, 0] 2 rfl hs) rfl (rr_tmp rfl) (.inr ⟨(r35_s1.1, r35_s1.2), r35_b2, r35_b4, r35_p6, r35_c7, r31_p1, r31_c2, r31_b4, p2, c2, rfl, rfl, rfl⟩)


def F.disk_Disk_Arm (x1 : Int) (x2 : disk_Fall) (m0 : disk_Disk) : Option (Int × disk_Disk) :=
  Option.bind (F.disk_Disk_why 0 m0) (fun (r23 : Int) => if r23 != 0 then (some ((r23, m0))) else (if decide (x1 < 0) then (some ((1, m0))) else (some ((0, (⟨m0.sure_, m0.wait_, m0.off_, true, x1, x2, m0.acts_, m0.falls_⟩ : disk_Disk))))))
set_option maxRecDepth 100000 in
set_option maxHeartbeats 4000000 in
theorem c_disk_Disk_Arm (I : Hl) (x1 : Int) (x2 : disk_Fall) (m0 : disk_Disk) (p0 : Option Addr) (c0 : Nat) (p1 : Nat) (b0 : Nat) (res : Int × disk_Disk) (hF : F.disk_Disk_Arm x1 x2 m0 = some res) : Tr Tryz.prog 10 [pP b0, i6 x1, .agg #[.int .u64 x2.Keep, i6 x2.Tear]] [imm I, o0 b0 p0 m0.sure_ c0 p1 m0.off_ m0.armed_ m0.left_ m0.fall_.Keep m0.fall_.Tear m0.acts_ m0.falls_, own e_disk_sector 51 p0 c0 m0.sure_, mpo (kInt .i64) (fun x : disk_sector => Value.agg #[.string x.s_, i6 x.at_]) p1 m0.wait_] (fun r H' => ∃ (pq1 : Option Addr), ∃ (cq2 : Nat), ∃ (bq4 : Nat), r = i6 res.1 ∧ H' = [imm I, o0 b0 pq1 res.2.sure_ cq2 bq4 res.2.off_ res.2.armed_ res.2.left_ res.2.fall_.Keep res.2.fall_.Tear res.2.acts_ res.2.falls_, own e_disk_sector 51 pq1 cq2 res.2.sure_, mpo (kInt .i64) (fun x : disk_sector => Value.agg #[.string x.s_, i6 x.at_]) bq4 res.2.wait_]) := by
  unfold F.disk_Disk_Arm at hF
  refine tr_of_cw (fn := Tryz.f10) Tryz.func10 rfl (Nat.le_of_ble_eq_true rfl) 26 rfl fun F0 w0 => ?_
  refine cw_keep [0, 1, 2] (L' := [(0, pP b0), (1, i6 x1), (2, .agg #[.int .u64 x2.Keep, i6 x2.Tear])]) rfl ?_
  refine cw_state (S' := SAT w0 ([imm I, o0 b0 p0 m0.sure_ c0 p1 m0.off_ m0.armed_ m0.left_ m0.fall_.Keep m0.fall_.Tear m0.acts_ m0.falls_, own e_disk_sector 51 p0 c0 m0.sure_, mpo (kInt .i64) (fun x : disk_sector => Value.agg #[.string x.s_, i6 x.at_]) p1 m0.wait_] ++ F0)) (fun w hs => hs) ?_
  refine cw_seq ?_
  refine cw_region ?_
  refine ow_pw rfl (pw_box (cs := #[.int .u64 x2.Keep, i6 x2.Tear]) rfl rfl rfl rfl rfl rfl fun b21 => nw_ow ?_)
  refine ow_vals 1 (j := 2) [0, 1, 5] [(0, pP b0), (1, i6 x1), (5, pP b21)] rfl (by kernel_rfl) ?_
  refine ow_end rfl ?_
  refine ew_then ?_
  refine cw_seq ?_
  refine cw_seq ?_
  refine cw_region ?_
  refine ow_vals 1 (j := 1) [0, 1, 5, 8] [(0, pP b0), (1, i6 x1), (5, pP b21), (8, pP b0)] rfl (by kernel_rfl) ?_
  obtain ⟨r23, h24, hF⟩ := bind_some hF
  refine ow_pw rfl (pw_call (F := [o4 b21 x2.Keep x2.Tear] ++ F0) rfl rfl rfl rfl rfl rfl rfl (by kernel_rfl) (perm_of_pulls [1, 1, 1, 1] rfl) (c_disk_Disk_why _ 0 m0 p0 c0 p1 b0 r23 h24) ?_)
  rintro _ _ ⟨rfl, rfl⟩
  refine nw_H (H' := [imm I, o0 b0 p0 m0.sure_ c0 p1 m0.off_ m0.armed_ m0.left_ m0.fall_.Keep m0.fall_.Tear m0.acts_ m0.falls_, own e_disk_sector 51 p0 c0 m0.sure_, mpo (kInt .i64) (fun x : disk_sector => Value.agg #[.string x.s_, i6 x.at_]) p1 m0.wait_, o4 b21 x2.Keep x2.Tear] ++ F0) rfl (nw_ow ?_)
  refine ow_vals 1 (j := 3) [0, 1, 5, 7] [(0, pP b0), (1, i6 x1), (5, pP b21), (7, i6 r23)] rfl (by kernel_rfl) ?_
  refine ow_end rfl ?_
  refine ew_then ?_
  refine cw_seq ?_
  refine cw_region ?_
  refine ow_vals 2 (j := 2) [0, 1, 5, 7, 11] [(0, pP b0), (1, i6 x1), (5, pP b21), (7, i6 r23), (11, .bool (r23 != 0))] rfl (by kernel_rfl) ?_
  refine ow_end rfl ?_
  refine ew_then ?_
  rcases if_some hF with ⟨h25, hF⟩ | ⟨h25, hF⟩
  · refine cw_cond_t rfl rfl h25 ?_
    refine cw_seq ?_
    refine cw_region ?_
    refine ow_vals 2 (j := 2) [6] [(6, i6 r23)] rfl (by kernel_rfl) ?_
    refine ow_end rfl ?_
    refine ew_then ?_
    refine cw_ret ?_
    refine ew_then_ret ?_
    have hR := Option.some.inj hF
    subst hR
    exact fin1 (H1 := [imm I, o0 b0 p0 m0.sure_ c0 p1 m0.off_ m0.armed_ m0.left_ m0.fall_.Keep m0.fall_.Tear m0.acts_ m0.falls_, own e_disk_sector 51 p0 c0 m0.sure_, mpo (kInt .i64) (fun x : disk_sector => Value.agg #[.string x.s_, i6 x.at_]) p1 m0.wait_]) (fun w hs => sat_to [4, 0, 0, 0, 0] 1 rfl hs) rfl (rr_tmp rfl) ⟨p0, c0, p1, rfl, rfl⟩
  refine cw_cond_f rfl rfl h25 ?_
  refine cw_skip ?_
  refine ew_then ?_
  refine cw_seq ?_
  refine cw_seq ?_
  refine cw_region ?_
  refine ow_vals 2 (j := 2) [0, 1, 5, 14] [(0, pP b0), (1, i6 x1), (5, pP b21), (14, .bool (decide (x1 < 0)))] rfl (by kernel_rfl) ?_
  refine ow_end rfl ?_
  refine ew_then ?_
  rcases if_some hF with ⟨h26, hF⟩ | ⟨h26, hF⟩
  · refine cw_cond_t rfl rfl h26 ?_
    refine cw_seq ?_
    refine cw_region ?_
    refine ow_vals 1 (j := 1) [6] [(6, i6 1)] rfl (by kernel_rfl) ?_
    refine ow_end rfl ?_
    refine ew_then ?_
    refine cw_ret ?_
    refine ew_then_ret ?_
    have hR := Option.some.inj hF
    subst hR
    exact fin1 (H1 := [imm I, o0 b0 p0 m0.sure_ c0 p1 m0.off_ m0.armed_ m0.left_ m0.fall_.Keep m0.fall_.Tear m0.acts_ m0.falls_, own e_disk_sector 51 p0 c0 m0.sure_, mpo (kInt .i64) (fun x : disk_sector => Value.agg #[.string x.s_, i6 x.at_]) p1 m0.wait_]) (fun w hs => sat_to [4, 0, 0, 0, 0] 1 rfl hs) rfl (rr_tmp rfl) ⟨p0, c0, p1, rfl, rfl⟩
  refine cw_cond_f rfl rfl h26 ?_
  refine cw_skip ?_
  refine ew_then ?_
  refine cw_seq ?_
  refine cw_open 13 (SAT w0 ([imm I, own e_disk_sector 51 p0 c0 m0.sure_, mpo (kInt .i64) (fun x : disk_sector => Value.agg #[.string x.s_, i6 x.at_]) p1 m0.wait_, o4 b21 x2.Keep x2.Tear])) (by kernel_rfl) (f := 14) rfl (fun w hs => sat_drew hs) ?_
  refine aw_vals [0, 1, 2, 3, 5, 6] (f' := 8) (m' := 111) [5, 16, 17, 18, 21] [(5, pP b21), (16, pP b0), (17, pP b0), (18, i6 x1), (21, .pointer (some ⟨b0, 3, none⟩))] (fun _ _ _ _ _ h => calm_fin (P := Tryz.prog) (fn := Tryz.f10) _ _ _ _ _ h) (fun w hs => sat_pulls [0, 1, 1, 1] (G := [o0 b0 p0 m0.sure_ c0 p1 m0.off_ m0.armed_ m0.left_ m0.fall_.Keep m0.fall_.Tear m0.acts_ m0.falls_] ++ F0) rfl hs) rfl (by kernel_rfl) ?_
  refine aw_quiet 4 (m' := 127) (v := .agg #[.int .u64 x2.Keep, i6 x2.Tear]) 4 [] rfl rfl rfl rfl (by kernel_rfl) (by kernel_rfl) (by kernel_rfl) (fun _ _ _ _ _ h => calm_fin (P := Tryz.prog) (fn := Tryz.f10) _ _ _ _ _ h) (fun w hs => sat_pulls [0, 1, 1, 1] (G := [o0 b0 p0 m0.sure_ c0 p1 m0.off_ m0.armed_ m0.left_ m0.fall_.Keep m0.fall_.Tear m0.acts_ m0.falls_] ++ F0) rfl hs) (q_load 3 rfl rfl rfl (by kernel_rfl)) ?_
  refine aw_only 7 (m' := 255) (by kernel_rfl) (by kernel_rfl) (pw_store 1 #[.slice p0 m0.sure_.length c0, .map (some p1), .bool m0.off_, .bool true, i6 m0.left_, .int .u64 m0.fall_.Keep, i6 m0.fall_.Tear, i6 m0.acts_, i6 m0.falls_] rfl rfl rfl rfl rfl rfl rfl (by kernel_rfl) (nw_H (H' := [imm I, o0 b0 p0 m0.sure_ c0 p1 m0.off_ true m0.left_ m0.fall_.Keep m0.fall_.Tear m0.acts_ m0.falls_, own e_disk_sector 51 p0 c0 m0.sure_, mpo (kInt .i64) (fun x : disk_sector => Value.agg #[.string x.s_, i6 x.at_]) p1 m0.wait_, o4 b21 x2.Keep x2.Tear] ++ F0) rfl (aw_next (fun w hs => sat_pulls [0, 1, 1, 1] (G := [o0 b0 p0 m0.sure_ c0 p1 m0.off_ true m0.left_ m0.fall_.Keep m0.fall_.Tear m0.acts_ m0.falls_] ++ F0) rfl hs) ?_)))
  refine aw_vals [8, 9] (f' := 4) (m' := 1023) [17, 18, 19, 23] [(17, pP b0), (18, i6 x1), (19, .agg #[.int .u64 x2.Keep, i6 x2.Tear]), (23, .pointer (some ⟨b0, 4, none⟩))] (fun _ _ _ _ _ h => calm_fin (P := Tryz.prog) (fn := Tryz.f10) _ _ _ _ _ h) (fun w hs => sat_pulls [0, 1, 1, 1] (G := [o0 b0 p0 m0.sure_ c0 p1 m0.off_ true m0.left_ m0.fall_.Keep m0.fall_.Tear m0.acts_ m0.falls_] ++ F0) rfl hs) rfl (by kernel_rfl) ?_
  refine aw_only 10 (m' := 2047) (by kernel_rfl) (by kernel_rfl) (pw_store 1 #[.slice p0 m0.sure_.length c0, .map (some p1), .bool m0.off_, .bool true, i6 x1, .int .u64 m0.fall_.Keep, i6 m0.fall_.Tear, i6 m0.acts_, i6 m0.falls_] rfl rfl rfl rfl rfl rfl rfl (by kernel_rfl) (nw_H (H' := [imm I, o0 b0 p0 m0.sure_ c0 p1 m0.off_ true x1 m0.fall_.Keep m0.fall_.Tear m0.acts_ m0.falls_, own e_disk_sector 51 p0 c0 m0.sure_, mpo (kInt .i64) (fun x : disk_sector => Value.agg #[.string x.s_, i6 x.at_]) p1 m0.wait_, o4 b21 x2.Keep x2.Tear] ++ F0) rfl (aw_next (fun w hs => sat_pulls [0, 1, 1, 1] (G := [o0 b0 p0 m0.sure_ c0 p1 m0.off_ true x1 m0.fall_.Keep m0.fall_.Tear m0.acts_ m0.falls_] ++ F0) rfl hs) ?_)))
  refine aw_vals [11, 12] (f' := 1) (m' := 8191) [19, 25] [(19, .agg #[.int .u64 x2.Keep, i6 x2.Tear]), (25, .pointer (some ⟨b0, 5, none⟩))] (fun _ _ _ _ _ h => calm_fin (P := Tryz.prog) (fn := Tryz.f10) _ _ _ _ _ h) (fun w hs => sat_pulls [0, 1, 1, 1] (G := [o0 b0 p0 m0.sure_ c0 p1 m0.off_ true x1 m0.fall_.Keep m0.fall_.Tear m0.acts_ m0.falls_] ++ F0) rfl hs) rfl (by kernel_rfl) ?_
  refine aw_only 13 (m' := 16383) (by kernel_rfl) (by kernel_rfl) (pw_store 1 #[.slice p0 m0.sure_.length c0, .map (some p1), .bool m0.off_, .bool true, i6 x1, .int .u64 x2.Keep, i6 x2.Tear, i6 m0.acts_, i6 m0.falls_] rfl rfl rfl rfl rfl rfl rfl (by kernel_rfl) (nw_H (H' := [imm I, o0 b0 p0 m0.sure_ c0 p1 m0.off_ true x1 x2.Keep x2.Tear m0.acts_ m0.falls_, own e_disk_sector 51 p0 c0 m0.sure_, mpo (kInt .i64) (fun x : disk_sector => Value.agg #[.string x.s_, i6 x.at_]) p1 m0.wait_, o4 b21 x2.Keep x2.Tear] ++ F0) rfl (aw_last (by kernel_rfl) ?_)))
  refine aw_keep [] (L' := []) rfl ?_
  refine aw_end (by kernel_rfl) ?_
  refine ew_then ?_
  refine cw_seq ?_
  refine cw_region ?_
  refine ow_vals 1 (j := 1) [6] [(6, i6 0)] rfl (by kernel_rfl) ?_
  refine ow_end rfl ?_
  refine ew_then ?_
  refine cw_ret ?_
  have hR := Option.some.inj hF
  subst hR
  exact fin1 (H1 := [imm I, o0 b0 p0 ((⟨m0.sure_, m0.wait_, m0.off_, true, x1, x2, m0.acts_, m0.falls_⟩ : disk_Disk).sure_) c0 p1 ((⟨m0.sure_, m0.wait_, m0.off_, true, x1, x2, m0.acts_, m0.falls_⟩ : disk_Disk).off_) ((⟨m0.sure_, m0.wait_, m0.off_, true, x1, x2, m0.acts_, m0.falls_⟩ : disk_Disk).armed_) ((⟨m0.sure_, m0.wait_, m0.off_, true, x1, x2, m0.acts_, m0.falls_⟩ : disk_Disk).left_) (((⟨m0.sure_, m0.wait_, m0.off_, true, x1, x2, m0.acts_, m0.falls_⟩ : disk_Disk).fall_).Keep) (((⟨m0.sure_, m0.wait_, m0.off_, true, x1, x2, m0.acts_, m0.falls_⟩ : disk_Disk).fall_).Tear) ((⟨m0.sure_, m0.wait_, m0.off_, true, x1, x2, m0.acts_, m0.falls_⟩ : disk_Disk).acts_) ((⟨m0.sure_, m0.wait_, m0.off_, true, x1, x2, m0.acts_, m0.falls_⟩ : disk_Disk).falls_), own e_disk_sector 51 p0 c0 ((⟨m0.sure_, m0.wait_, m0.off_, true, x1, x2, m0.acts_, m0.falls_⟩ : disk_Disk).sure_), mpo (kInt .i64) (fun x : disk_sector => Value.agg #[.string x.s_, i6 x.at_]) p1 ((⟨m0.sure_, m0.wait_, m0.off_, true, x1, x2, m0.acts_, m0.falls_⟩ : disk_Disk).wait_)]) (fun w hs => sat_to [4, 0, 0, 0, 0] 1 rfl hs) rfl (rr_tmp rfl) ⟨p0, c0, p1, rfl, rfl⟩


def F.law12_JournalPlays.r4 (x54 : Int) (x55 : Int) (l66 : List ByteArray) (x70 : Int) (x71 : Int) (r94 : Int × journal_Journal × disk_Disk) (x104 : Bool) : Option (Bool × (List disk_sector) × (List (Int × disk_sector)) × Bool × Bool × Int × Int × Int × Int × Int × Int × Int × Int × Int × (List ByteArray) × Int × Bool × Int × Int × (List ByteArray) × Int × Int) :=
  if r94.1 == 0 then (some ((x104, r94.2.2.sure_, r94.2.2.wait_, r94.2.2.off_, r94.2.2.armed_, r94.2.2.left_, r94.2.2.fall_.Keep, r94.2.2.fall_.Tear, r94.2.2.acts_, r94.2.2.falls_, r94.2.1.base_, r94.2.1.size_, r94.2.1.next_, r94.2.1.last_, r94.2.1.list_, r94.2.1.sure_, r94.2.1.dead_, (⟨x54, x55⟩ : guard_Guard).boot_, (⟨x54, x55⟩ : guard_Guard).n_, l66, (l66.length : Int), x71))) else (some ((x104, r94.2.2.sure_, r94.2.2.wait_, r94.2.2.off_, r94.2.2.armed_, r94.2.2.left_, r94.2.2.fall_.Keep, r94.2.2.fall_.Tear, r94.2.2.acts_, r94.2.2.falls_, r94.2.1.base_, r94.2.1.size_, r94.2.1.next_, r94.2.1.last_, r94.2.1.list_, r94.2.1.sure_, r94.2.1.dead_, (⟨x54, x55⟩ : guard_Guard).boot_, (⟨x54, x55⟩ : guard_Guard).n_, l66, x70, x71)))
def F.law12_JournalPlays.r3 (l40 : List disk_sector) (l44 : List (Int × disk_sector)) (x47 : Bool) (x48 : Bool) (x49 : Int) (x50 : Int) (x51 : Int) (x52 : Int) (x53 : Int) (x54 : Int) (x55 : Int) (x56 : Int) (x57 : Int) (x58 : Int) (x59 : Int) (l60 : List ByteArray) (x64 : Int) (x65 : Bool) (l66 : List ByteArray) (x70 : Int) (x71 : Int) (y75 : law12_Op) (x85 : Bool) : Option (Bool × (List disk_sector) × (List (Int × disk_sector)) × Bool × Bool × Int × Int × Int × Int × Int × Int × Int × Int × Int × (List ByteArray) × Int × Bool × Int × Int × (List ByteArray) × Int × Int) :=
  if x85 then (Option.bind (F.law12_add y75 (⟨l40, l44, x47, x48, x49, (⟨x50, x51⟩ : disk_Fall), x52, x53⟩ : disk_Disk) (⟨x56, x57, x58, x59, l60, x64, x65⟩ : journal_Journal) (⟨x54, x55⟩ : guard_Guard) (⟨l66, x70, x71⟩ : law12_plain)) (fun (r87 : Bool × disk_Disk × journal_Journal × guard_Guard × law12_plain) => some ((r87.1, r87.2.1.sure_, r87.2.1.wait_, r87.2.1.off_, r87.2.1.armed_, r87.2.1.left_, r87.2.1.fall_.Keep, r87.2.1.fall_.Tear, r87.2.1.acts_, r87.2.1.falls_, r87.2.2.1.base_, r87.2.2.1.size_, r87.2.2.1.next_, r87.2.2.1.last_, r87.2.2.1.list_, r87.2.2.1.sure_, r87.2.2.1.dead_, r87.2.2.2.1.boot_, r87.2.2.2.1.n_, r87.2.2.2.2.l_, r87.2.2.2.2.sure_, r87.2.2.2.2.boot_)))) else (if y75.Kind == 3 then (Option.bind (F.journal_Journal_Flush (⟨x56, x57, x58, x59, l60, x64, x65⟩ : journal_Journal) (⟨x54, x55⟩ : guard_Guard) (⟨l40, l44, x47, x48, x49, (⟨x50, x51⟩ : disk_Fall), x52, x53⟩ : disk_Disk)) (fun (r94 : Int × journal_Journal × disk_Disk) => Option.bind (if r94.1 == 0 then (some (true)) else (if r94.1 == 8 then (Option.bind (F.disk_Disk_Up r94.2.2) (fun (r102 : Bool) => some ((!r102)))) else (some (false)))) (fun x => F.law12_JournalPlays.r4 x54 x55 l66 x70 x71 r94 x))) else (if y75.Kind == 4 then (Option.bind (F.law12_again y75.F (⟨l40, l44, x47, x48, x49, (⟨x50, x51⟩ : disk_Fall), x52, x53⟩ : disk_Disk) (⟨l66, x70, x71⟩ : law12_plain)) (fun (r107 : (Option (journal_Journal × guard_Guard)) × disk_Disk × law12_plain) => optC r107.1 (none) (fun (r107_s1 : (journal_Journal × guard_Guard)) => some ((true, r107.2.1.sure_, r107.2.1.wait_, r107.2.1.off_, r107.2.1.armed_, r107.2.1.left_, r107.2.1.fall_.Keep, r107.2.1.fall_.Tear, r107.2.1.acts_, r107.2.1.falls_, r107_s1.1.base_, r107_s1.1.size_, r107_s1.1.next_, r107_s1.1.last_, r107_s1.1.list_, r107_s1.1.sure_, r107_s1.1.dead_, r107_s1.2.boot_, r107_s1.2.n_, r107.2.2.l_, r107.2.2.sure_, r107.2.2.boot_))))) else (if decide (y75.Long ≥ 0) then (Option.bind (F.disk_Disk_Arm y75.Long y75.F (⟨l40, l44, x47, x48, x49, (⟨x50, x51⟩ : disk_Fall), x52, x53⟩ : disk_Disk)) (fun (r119 : Int × disk_Disk) => some ((true, r119.2.sure_, r119.2.wait_, r119.2.off_, r119.2.armed_, r119.2.left_, r119.2.fall_.Keep, r119.2.fall_.Tear, r119.2.acts_, r119.2.falls_, x56, x57, x58, x59, l60, x64, x65, x54, x55, l66, x70, x71)))) else (some ((true, l40, l44, x47, x48, x49, x50, x51, x52, x53, x56, x57, x58, x59, l60, x64, x65, x54, x55, l66, x70, x71))))))
def F.law12_JournalPlays.r6 (y75 : law12_Op) (x140 : Int) (x141 : Int) (x142 : Int) (x143 : Int) (l144 : List ByteArray) (x148 : Int) (x149 : Bool) (x150 : Int) (x151 : Int) (l152 : List ByteArray) (x156 : Int) (x157 : Int) (x163 : Bool) (x164 : Bool) (l165 : List disk_sector) (l169 : List (Int × disk_sector)) (x171 : Bool) (x172 : Bool) (x173 : Int) (x174 : Int) (x175 : Int) (x176 : Int) (x177 : Int) : Option (Bool × (List disk_sector) × (List (Int × disk_sector)) × Bool × Bool × Int × Int × Int × Int × Int × (List ByteArray) × Int × Int × Int × Int × Int × Int × Int × Int × (List ByteArray) × Int × Bool) :=
  if x164 then (Option.bind (F.law12_again y75.F (⟨l165, l169, x171, x172, x173, (⟨x174, x175⟩ : disk_Fall), x176, x177⟩ : disk_Disk) (⟨l152, x156, x157⟩ : law12_plain)) (fun (r179 : (Option (journal_Journal × guard_Guard)) × disk_Disk × law12_plain) => optC r179.1 (none) (fun (r179_s1 : (journal_Journal × guard_Guard)) => some ((x163, r179.2.1.sure_, r179.2.1.wait_, r179.2.1.off_, r179.2.1.armed_, r179.2.1.left_, r179.2.1.fall_.Keep, r179.2.1.fall_.Tear, r179.2.1.acts_, r179.2.1.falls_, r179.2.2.l_, r179.2.2.sure_, r179.2.2.boot_, r179_s1.2.boot_, r179_s1.2.n_, r179_s1.1.base_, r179_s1.1.size_, r179_s1.1.next_, r179_s1.1.last_, r179_s1.1.list_, r179_s1.1.sure_, r179_s1.1.dead_))))) else (some ((x163, l165, l169, x171, x172, x173, x174, x175, x176, x177, l152, x156, x157, x150, x151, x140, x141, x142, x143, l144, x148, x149)))
def F.law12_JournalPlays.r7 (x39 : Int) (x192 : Bool) (l193 : List disk_sector) (l197 : List (Int × disk_sector)) (x200 : Bool) (x201 : Bool) (x202 : Int) (x203 : Int) (x204 : Int) (x205 : Int) (x206 : Int) (l207 : List ByteArray) (x211 : Int) (x212 : Int) (x213 : Int) (x214 : Int) (x215 : Int) (x216 : Int) (x217 : Int) (x218 : Int) (l219 : List ByteArray) (x223 : Int) (x224 : Bool) : Option ((Int × (List disk_sector) × (List (Int × disk_sector)) × Bool × Bool × Int × Int × Int × Int × Int × Int × Int × Int × Int × Int × Int × (List ByteArray) × Int × Bool × (List ByteArray) × Int × Int) ⊕ (((List disk_sector) × (List (Int × disk_sector)) × Bool × Bool × Int × Int × Int × Int × Int × Int × Int × Int × Int × Int × Int × (List ByteArray) × Int × Bool × (List ByteArray) × Int × Int) ⊕ (Bool))) :=
  if !x192 then (some (.inr (.inr (false)))) else (Option.bind (F.law12_holds (⟨x215, x216, x217, x218, l219, x223, x224⟩ : journal_Journal) (⟨x213, x214⟩ : guard_Guard) (⟨l193, l197, x200, x201, x202, (⟨x203, x204⟩ : disk_Fall), x205, x206⟩ : disk_Disk) (⟨l207, x211, x212⟩ : law12_plain)) (fun (r226 : Bool) => if !r226 then (some (.inr (.inr (false)))) else (some (.inl (IntKind.i64.wrap (x39 + 1), (⟨l193, l197, x200, x201, x202, (⟨x203, x204⟩ : disk_Fall), x205, x206⟩ : disk_Disk).sure_, (⟨l193, l197, x200, x201, x202, (⟨x203, x204⟩ : disk_Fall), x205, x206⟩ : disk_Disk).wait_, (⟨l193, l197, x200, x201, x202, (⟨x203, x204⟩ : disk_Fall), x205, x206⟩ : disk_Disk).off_, (⟨l193, l197, x200, x201, x202, (⟨x203, x204⟩ : disk_Fall), x205, x206⟩ : disk_Disk).armed_, (⟨l193, l197, x200, x201, x202, (⟨x203, x204⟩ : disk_Fall), x205, x206⟩ : disk_Disk).left_, (⟨l193, l197, x200, x201, x202, (⟨x203, x204⟩ : disk_Fall), x205, x206⟩ : disk_Disk).fall_.Keep, (⟨l193, l197, x200, x201, x202, (⟨x203, x204⟩ : disk_Fall), x205, x206⟩ : disk_Disk).fall_.Tear, (⟨l193, l197, x200, x201, x202, (⟨x203, x204⟩ : disk_Fall), x205, x206⟩ : disk_Disk).acts_, (⟨l193, l197, x200, x201, x202, (⟨x203, x204⟩ : disk_Fall), x205, x206⟩ : disk_Disk).falls_, (⟨x213, x214⟩ : guard_Guard).boot_, (⟨x213, x214⟩ : guard_Guard).n_, (⟨x215, x216, x217, x218, l219, x223, x224⟩ : journal_Journal).base_, (⟨x215, x216, x217, x218, l219, x223, x224⟩ : journal_Journal).size_, (⟨x215, x216, x217, x218, l219, x223, x224⟩ : journal_Journal).next_, (⟨x215, x216, x217, x218, l219, x223, x224⟩ : journal_Journal).last_, (⟨x215, x216, x217, x218, l219, x223, x224⟩ : journal_Journal).list_, (⟨x215, x216, x217, x218, l219, x223, x224⟩ : journal_Journal).sure_, (⟨x215, x216, x217, x218, l219, x223, x224⟩ : journal_Journal).dead_, (⟨l207, x211, x212⟩ : law12_plain).l_, (⟨l207, x211, x212⟩ : law12_plain).sure_, (⟨l207, x211, x212⟩ : law12_plain).boot_)))))
def F.law12_JournalPlays.r5 (x39 : Int) (y75 : law12_Op) (x125 : Bool) (l126 : List disk_sector) (l130 : List (Int × disk_sector)) (x133 : Bool) (x134 : Bool) (x135 : Int) (x136 : Int) (x137 : Int) (x138 : Int) (x139 : Int) (x140 : Int) (x141 : Int) (x142 : Int) (x143 : Int) (l144 : List ByteArray) (x148 : Int) (x149 : Bool) (x150 : Int) (x151 : Int) (l152 : List ByteArray) (x156 : Int) (x157 : Int) : Option ((Int × (List disk_sector) × (List (Int × disk_sector)) × Bool × Bool × Int × Int × Int × Int × Int × Int × Int × Int × Int × Int × Int × (List ByteArray) × Int × Bool × (List ByteArray) × Int × Int) ⊕ (((List disk_sector) × (List (Int × disk_sector)) × Bool × Bool × Int × Int × Int × Int × Int × Int × Int × Int × Int × Int × Int × (List ByteArray) × Int × Bool × (List ByteArray) × Int × Int) ⊕ (Bool))) :=
  Option.bind (Option.bind (if x125 then (Option.bind (F.disk_Disk_Up (⟨l126, l130, x133, x134, x135, (⟨x136, x137⟩ : disk_Fall), x138, x139⟩ : disk_Disk)) (fun (r161 : Bool) => some ((true, !r161, (⟨l126, l130, x133, x134, x135, (⟨x136, x137⟩ : disk_Fall), x138, x139⟩ : disk_Disk).sure_, (⟨l126, l130, x133, x134, x135, (⟨x136, x137⟩ : disk_Fall), x138, x139⟩ : disk_Disk).wait_, (⟨l126, l130, x133, x134, x135, (⟨x136, x137⟩ : disk_Fall), x138, x139⟩ : disk_Disk).off_, (⟨l126, l130, x133, x134, x135, (⟨x136, x137⟩ : disk_Fall), x138, x139⟩ : disk_Disk).armed_, (⟨l126, l130, x133, x134, x135, (⟨x136, x137⟩ : disk_Fall), x138, x139⟩ : disk_Disk).left_, (⟨l126, l130, x133, x134, x135, (⟨x136, x137⟩ : disk_Fall), x138, x139⟩ : disk_Disk).fall_.Keep, (⟨l126, l130, x133, x134, x135, (⟨x136, x137⟩ : disk_Fall), x138, x139⟩ : disk_Disk).fall_.Tear, (⟨l126, l130, x133, x134, x135, (⟨x136, x137⟩ : disk_Fall), x138, x139⟩ : disk_Disk).acts_, (⟨l126, l130, x133, x134, x135, (⟨x136, x137⟩ : disk_Fall), x138, x139⟩ : disk_Disk).falls_)))) else (some ((false, false, l126, l130, x133, x134, x135, x136, x137, x138, x139)))) (fun x => F.law12_JournalPlays.r6 y75 x140 x141 x142 x143 l144 x148 x149 x150 x151 l152 x156 x157 x.1 x.2.1 x.2.2.1 x.2.2.2.1 x.2.2.2.2.1 x.2.2.2.2.2.1 x.2.2.2.2.2.2.1 x.2.2.2.2.2.2.2.1 x.2.2.2.2.2.2.2.2.1 x.2.2.2.2.2.2.2.2.2.1 x.2.2.2.2.2.2.2.2.2.2)) (fun x => F.law12_JournalPlays.r7 x39 x.1 x.2.1 x.2.2.1 x.2.2.2.1 x.2.2.2.2.1 x.2.2.2.2.2.1 x.2.2.2.2.2.2.1 x.2.2.2.2.2.2.2.1 x.2.2.2.2.2.2.2.2.1 x.2.2.2.2.2.2.2.2.2.1 x.2.2.2.2.2.2.2.2.2.2.1 x.2.2.2.2.2.2.2.2.2.2.2.1 x.2.2.2.2.2.2.2.2.2.2.2.2.1 x.2.2.2.2.2.2.2.2.2.2.2.2.2.1 x.2.2.2.2.2.2.2.2.2.2.2.2.2.2.1 x.2.2.2.2.2.2.2.2.2.2.2.2.2.2.2.1 x.2.2.2.2.2.2.2.2.2.2.2.2.2.2.2.2.1 x.2.2.2.2.2.2.2.2.2.2.2.2.2.2.2.2.2.1 x.2.2.2.2.2.2.2.2.2.2.2.2.2.2.2.2.2.2.1 x.2.2.2.2.2.2.2.2.2.2.2.2.2.2.2.2.2.2.2.1 x.2.2.2.2.2.2.2.2.2.2.2.2.2.2.2.2.2.2.2.2.1 x.2.2.2.2.2.2.2.2.2.2.2.2.2.2.2.2.2.2.2.2.2)
def F.law12_JournalPlays.r2 (x0 : List law12_Op) (x39 : Int) (l40 : List disk_sector) (l44 : List (Int × disk_sector)) (x47 : Bool) (x48 : Bool) (x49 : Int) (x50 : Int) (x51 : Int) (x52 : Int) (x53 : Int) (x54 : Int) (x55 : Int) (x56 : Int) (x57 : Int) (x58 : Int) (x59 : Int) (l60 : List ByteArray) (x64 : Int) (x65 : Bool) (l66 : List ByteArray) (x70 : Int) (x71 : Int) : Option ((Int × (List disk_sector) × (List (Int × disk_sector)) × Bool × Bool × Int × Int × Int × Int × Int × Int × Int × Int × Int × Int × Int × (List ByteArray) × Int × Bool × (List ByteArray) × Int × Int) ⊕ (((List disk_sector) × (List (Int × disk_sector)) × Bool × Bool × Int × Int × Int × Int × Int × Int × Int × Int × Int × Int × Int × (List ByteArray) × Int × Bool × (List ByteArray) × Int × Int) ⊕ (Bool))) :=
  Option.bind (at_ x0 x39) (fun (y75 : law12_Op) => Option.bind (Option.bind (if y75.Kind == 0 then (some ((y75.Kind == 0))) else (if y75.Kind == 1 then (some ((y75.Kind == 1))) else (some ((y75.Kind == 2))))) (fun x => F.law12_JournalPlays.r3 l40 l44 x47 x48 x49 x50 x51 x52 x53 x54 x55 x56 x57 x58 x59 l60 x64 x65 l66 x70 x71 y75 x)) (fun x => F.law12_JournalPlays.r5 x39 y75 x.1 x.2.1 x.2.2.1 x.2.2.2.1 x.2.2.2.2.1 x.2.2.2.2.2.1 x.2.2.2.2.2.2.1 x.2.2.2.2.2.2.2.1 x.2.2.2.2.2.2.2.2.1 x.2.2.2.2.2.2.2.2.2.1 x.2.2.2.2.2.2.2.2.2.2.1 x.2.2.2.2.2.2.2.2.2.2.2.1 x.2.2.2.2.2.2.2.2.2.2.2.2.1 x.2.2.2.2.2.2.2.2.2.2.2.2.2.1 x.2.2.2.2.2.2.2.2.2.2.2.2.2.2.1 x.2.2.2.2.2.2.2.2.2.2.2.2.2.2.2.1 x.2.2.2.2.2.2.2.2.2.2.2.2.2.2.2.2.1 x.2.2.2.2.2.2.2.2.2.2.2.2.2.2.2.2.2.1 x.2.2.2.2.2.2.2.2.2.2.2.2.2.2.2.2.2.2.1 x.2.2.2.2.2.2.2.2.2.2.2.2.2.2.2.2.2.2.2.1 x.2.2.2.2.2.2.2.2.2.2.2.2.2.2.2.2.2.2.2.2.1 x.2.2.2.2.2.2.2.2.2.2.2.2.2.2.2.2.2.2.2.2.2))
def F.law12_JournalPlays.l8 (x0 : List law12_Op) (x39 : Int) (l40 : List disk_sector) (l44 : List (Int × disk_sector)) (x47 : Bool) (x48 : Bool) (x49 : Int) (x50 : Int) (x51 : Int) (x52 : Int) (x53 : Int) (x54 : Int) (x55 : Int) (x56 : Int) (x57 : Int) (x58 : Int) (x59 : Int) (l60 : List ByteArray) (x64 : Int) (x65 : Bool) (l66 : List ByteArray) (x70 : Int) (x71 : Int) : Option ((Int × (List disk_sector) × (List (Int × disk_sector)) × Bool × Bool × Int × Int × Int × Int × Int × Int × Int × Int × Int × Int × Int × (List ByteArray) × Int × Bool × (List ByteArray) × Int × Int) ⊕ (((List disk_sector) × (List (Int × disk_sector)) × Bool × Bool × Int × Int × Int × Int × Int × Int × Int × Int × Int × Int × Int × (List ByteArray) × Int × Bool × (List ByteArray) × Int × Int) ⊕ (Bool))) :=
  thru (if decide (x39 < (x0.length : Int)) then (if decide (x39 < 40) then (some (.inl ())) else (some (.inr (.inr (.inl (l40, l44, x47, x48, x49, x50, x51, x52, x53, x54, x55, x56, x57, x58, x59, l60, x64, x65, l66, x70, x71)))))) else (some (.inr (.inr (.inl (l40, l44, x47, x48, x49, x50, x51, x52, x53, x54, x55, x56, x57, x58, x59, l60, x64, x65, l66, x70, x71)))))) (fun x => F.law12_JournalPlays.r2 x0 x39 l40 l44 x47 x48 x49 x50 x51 x52 x53 x54 x55 x56 x57 x58 x59 l60 x64 x65 l66 x70 x71)
def F.law12_JournalPlays.r9 (l231 : List disk_sector) (l235 : List (Int × disk_sector)) (x238 : Bool) (x239 : Bool) (x240 : Int) (x241 : Int) (x242 : Int) (x243 : Int) (x244 : Int) (x245 : Int) (x246 : Int) (x247 : Int) (x248 : Int) (x249 : Int) (x250 : Int) (l251 : List ByteArray) (x255 : Int) (x256 : Bool) (l257 : List ByteArray) (x261 : Int) (x262 : Int) : Option (Bool) :=
  Option.bind (F.law12_awake) (fun (r263 : Bool) => some (r263))
def F.law12_JournalPlays.r1 (x0 : List law12_Op) (r21_s1 : disk_Disk) : Option (Bool) :=
  Option.bind (F.law12_open 1 r21_s1) (fun (r30 : (Option (journal_Journal × guard_Guard))) => optC r30 (some (false)) (fun (r30_s1 : (journal_Journal × guard_Guard)) => thru (iter (fun x => F.law12_JournalPlays.l8 x0 x.1 x.2.1 x.2.2.1 x.2.2.2.1 x.2.2.2.2.1 x.2.2.2.2.2.1 x.2.2.2.2.2.2.1 x.2.2.2.2.2.2.2.1 x.2.2.2.2.2.2.2.2.1 x.2.2.2.2.2.2.2.2.2.1 x.2.2.2.2.2.2.2.2.2.2.1 x.2.2.2.2.2.2.2.2.2.2.2.1 x.2.2.2.2.2.2.2.2.2.2.2.2.1 x.2.2.2.2.2.2.2.2.2.2.2.2.2.1 x.2.2.2.2.2.2.2.2.2.2.2.2.2.2.1 x.2.2.2.2.2.2.2.2.2.2.2.2.2.2.2.1 x.2.2.2.2.2.2.2.2.2.2.2.2.2.2.2.2.1 x.2.2.2.2.2.2.2.2.2.2.2.2.2.2.2.2.2.1 x.2.2.2.2.2.2.2.2.2.2.2.2.2.2.2.2.2.2.1 x.2.2.2.2.2.2.2.2.2.2.2.2.2.2.2.2.2.2.2.1 x.2.2.2.2.2.2.2.2.2.2.2.2.2.2.2.2.2.2.2.2.1 x.2.2.2.2.2.2.2.2.2.2.2.2.2.2.2.2.2.2.2.2.2) FUEL (0, r21_s1.sure_, r21_s1.wait_, r21_s1.off_, r21_s1.armed_, r21_s1.left_, r21_s1.fall_.Keep, r21_s1.fall_.Tear, r21_s1.acts_, r21_s1.falls_, r30_s1.2.boot_, r30_s1.2.n_, r30_s1.1.base_, r30_s1.1.size_, r30_s1.1.next_, r30_s1.1.last_, r30_s1.1.list_, r30_s1.1.sure_, r30_s1.1.dead_, [], 0, 1)) (fun x => F.law12_JournalPlays.r9 x.1 x.2.1 x.2.2.1 x.2.2.2.1 x.2.2.2.2.1 x.2.2.2.2.2.1 x.2.2.2.2.2.2.1 x.2.2.2.2.2.2.2.1 x.2.2.2.2.2.2.2.2.1 x.2.2.2.2.2.2.2.2.2.1 x.2.2.2.2.2.2.2.2.2.2.1 x.2.2.2.2.2.2.2.2.2.2.2.1 x.2.2.2.2.2.2.2.2.2.2.2.2.1 x.2.2.2.2.2.2.2.2.2.2.2.2.2.1 x.2.2.2.2.2.2.2.2.2.2.2.2.2.2.1 x.2.2.2.2.2.2.2.2.2.2.2.2.2.2.2.1 x.2.2.2.2.2.2.2.2.2.2.2.2.2.2.2.2.1 x.2.2.2.2.2.2.2.2.2.2.2.2.2.2.2.2.2.1 x.2.2.2.2.2.2.2.2.2.2.2.2.2.2.2.2.2.2.1 x.2.2.2.2.2.2.2.2.2.2.2.2.2.2.2.2.2.2.2.1 x.2.2.2.2.2.2.2.2.2.2.2.2.2.2.2.2.2.2.2.2)))
def F.law12_JournalPlays (x0 : List law12_Op) : Option Bool :=
  Option.bind (F.disk_New 64) (fun (r21 : (Option disk_Disk) × Int) => optC r21.1 (some (false)) (fun (r21_s1 : disk_Disk) => Option.bind (some (())) (fun x => F.law12_JournalPlays.r1 x0 r21_s1)))
set_option maxRecDepth 100000 in
set_option maxHeartbeats 4000000 in
theorem c_law12_JournalPlays (I : Hl) (x0 : List law12_Op) (p0 : Option Addr) (c0 : Nat) (res : Bool) (hF : F.law12_JournalPlays x0 = some res) (hr0 : ro I e_law12_Op p0 c0 x0) : Tr Tryz.prog 3 [.slice p0 x0.length c0] [imm I] (fun r H' => r = .bool res ∧ H' = [imm I]) := by
  unfold F.law12_JournalPlays at hF
  refine tr_of_cw (fn := Tryz.f3) Tryz.func3 rfl (Nat.le_of_ble_eq_true rfl) 121 rfl fun F0 w0 => ?_
  refine cw_keep [0] (L' := [(0, .slice p0 x0.length c0)]) rfl ?_
  refine cw_state (S' := SAT w0 ([imm I] ++ F0)) (fun w hs => hs) ?_
  refine cw_seq ?_
  refine cw_region ?_
  refine ow_vals 1 (j := 1) [0] [(0, .slice p0 x0.length c0)] rfl (by kernel_rfl) ?_
  refine ow_end rfl ?_
  refine ew_then ?_
  refine cw_seq ?_
  refine cw_region ?_
  obtain ⟨r21, h22, hF⟩ := bind_some hF
  refine ow_pw rfl (pw_call (F := [] ++ F0) rfl rfl rfl rfl rfl rfl rfl (by kernel_rfl) (perm_of_pulls [0] rfl) (c_disk_New _ 64 r21 h22) ?_)
  rintro _ _ (⟨hO, rfl, rfl⟩ | ⟨r21_s1, r21_b2, r21_p4, r21_c5, r21_b7, hO, rfl, rfl⟩)
  · rw [hO] at hF
    try dsimp only [optC] at hF
    refine nw_H (H' := [imm I] ++ F0) rfl (nw_ow ?_)
    refine ow_vals 5 (j := 6) [0, 3, 4] [(0, .slice p0 x0.length c0), (3, .pointer none), (4, i6 1)] rfl (by kernel_rfl) ?_
    refine ow_end rfl ?_
    refine ew_then ?_
    refine cw_seq ?_
    refine cw_seq ?_
    refine cw_region ?_
    refine ow_vals 6 (j := 6) [0, 3, 20] [(0, .slice p0 x0.length c0), (3, .pointer none), (20, .bool true)] rfl (by kernel_rfl) ?_
    refine ow_end rfl ?_
    refine ew_then ?_
    refine cw_cond_t rfl rfl rfl ?_
    refine cw_seq ?_
    refine cw_region ?_
    refine ow_vals 1 (j := 1) [2] [(2, .bool false)] rfl (by kernel_rfl) ?_
    refine ow_end rfl ?_
    refine ew_then ?_
    refine cw_ret ?_
    refine ew_then_ret ?_
    have hR := Option.some.inj hF
    subst hR
    exact fin1 (H1 := [imm I]) (fun w hs => sat_to [0] 0 rfl hs) rfl (rr_tmp rfl) ⟨rfl, rfl⟩
  rw [hO] at hF
  try dsimp only [optC] at hF
  refine nw_H (H' := [imm I, o0 r21_b2 r21_p4 r21_s1.sure_ r21_c5 r21_b7 r21_s1.off_ r21_s1.armed_ r21_s1.left_ r21_s1.fall_.Keep r21_s1.fall_.Tear r21_s1.acts_ r21_s1.falls_, own e_disk_sector 51 r21_p4 r21_c5 r21_s1.sure_, mpo (kInt .i64) (fun x : disk_sector => Value.agg #[.string x.s_, i6 x.at_]) r21_b7 r21_s1.wait_] ++ F0) rfl (nw_ow ?_)
  refine ow_vals 5 (j := 6) [0, 3, 4] [(0, .slice p0 x0.length c0), (3, pP r21_b2), (4, i6 0)] rfl (by kernel_rfl) ?_
  refine ow_end rfl ?_
  refine ew_then ?_
  obtain ⟨v27, hF, hK27⟩ := bind_some hF
  refine cw_mid (fun a w => () = v27 ∧ Fr 121 [(0, .slice p0 x0.length c0), (3, pP r21_b2)] a ∧ SAT w0 ([imm I, o0 r21_b2 r21_p4 r21_s1.sure_ r21_c5 r21_b7 r21_s1.off_ r21_s1.armed_ r21_s1.left_ r21_s1.fall_.Keep r21_s1.fall_.Tear r21_s1.acts_ r21_s1.falls_, own e_disk_sector 51 r21_p4 r21_c5 r21_s1.sure_, mpo (kInt .i64) (fun x : disk_sector => Value.agg #[.string x.s_, i6 x.at_]) r21_b7 r21_s1.wait_] ++ F0) w) ?_ ?_
  · refine cw_seq ?_
    refine cw_region ?_
    refine ow_vals 6 (j := 6) [0, 3, 20] [(0, .slice p0 x0.length c0), (3, pP r21_b2), (20, .bool false)] rfl (by kernel_rfl) ?_
    refine ow_end rfl ?_
    refine ew_then ?_
    refine cw_cond_f rfl rfl rfl ?_
    refine cw_skip ?_
    have hR := Option.some.inj hF
    exact fun a w hf hs => ⟨hR, hf.keep [0, 3], sat_to [0, 0, 0, 0] 0 rfl hs⟩
  rintro a w ⟨hv, hf, hs⟩
  subst hv
  replace hF := hK27
  clear hK27
  try dsimp only at hF
  revert a w
  show CW _ _ _ 121 [(0, .slice p0 x0.length c0), (3, pP r21_b2)] (SAT w0 ([imm I, o0 r21_b2 r21_p4 r21_s1.sure_ r21_c5 r21_b7 r21_s1.off_ r21_s1.armed_ r21_s1.left_ r21_s1.fall_.Keep r21_s1.fall_.Tear r21_s1.acts_ r21_s1.falls_, own e_disk_sector 51 r21_p4 r21_c5 r21_s1.sure_, mpo (kInt .i64) (fun x : disk_sector => Value.agg #[.string x.s_, i6 x.at_]) r21_b7 r21_s1.wait_] ++ F0))
  unfold F.law12_JournalPlays.r1 at hF
  refine cw_seq ?_
  refine cw_region ?_
  refine ow_vals 1 (j := 1) [0, 3, 21] [(0, .slice p0 x0.length c0), (3, pP r21_b2), (21, .agg #[.slice none 0 0, i6 0, i6 1])] rfl (by kernel_rfl) ?_
  refine ow_pw rfl (pw_box (cs := #[.slice none 0 0, i6 0, i6 1]) rfl rfl rfl rfl rfl rfl fun b28 => nw_ow ?_)
  refine ow_vals 1 (j := 3) [0, 3, 5] [(0, .slice p0 x0.length c0), (3, pP r21_b2), (5, pP b28)] rfl (by kernel_rfl) ?_
  refine ow_end rfl ?_
  refine ew_then ?_
  refine cw_seq ?_
  refine cw_region ?_
  refine ow_vals 1 (j := 1) [0, 3, 5, 23] [(0, .slice p0 x0.length c0), (3, pP r21_b2), (5, pP b28), (23, pP r21_b2)] rfl (by kernel_rfl) ?_
  obtain ⟨r30, h31, hF⟩ := bind_some hF
  refine ow_pw rfl (pw_call (F := [o7 b28 0 1] ++ F0) rfl rfl rfl rfl rfl rfl rfl (by kernel_rfl) (perm_of_pulls [1, 1, 1, 1] rfl) (c_law12_open _ 1 r21_s1 r21_p4 r21_c5 r21_b7 r21_b2 r30 h31) ?_)
  rintro _ _ (⟨hO, rfl, rfl⟩ | ⟨r30_s1, r30_b2, r30_b4, r30_p6, r30_c7, hO, rfl, rfl⟩)
  · rw [hO] at hF
    try dsimp only [optC] at hF
    refine nw_H (H' := [imm I, o0 r21_b2 r21_p4 r21_s1.sure_ r21_c5 r21_b7 r21_s1.off_ r21_s1.armed_ r21_s1.left_ r21_s1.fall_.Keep r21_s1.fall_.Tear r21_s1.acts_ r21_s1.falls_, own e_disk_sector 51 r21_p4 r21_c5 r21_s1.sure_, mpo (kInt .i64) (fun x : disk_sector => Value.agg #[.string x.s_, i6 x.at_]) r21_b7 r21_s1.wait_, o7 b28 0 1] ++ F0) rfl (nw_ow ?_)
    refine ow_vals 1 (j := 3) [0, 3, 5, 6] [(0, .slice p0 x0.length c0), (3, pP r21_b2), (5, pP b28), (6, .pointer none)] rfl (by kernel_rfl) ?_
    refine ow_end rfl ?_
    refine ew_then ?_
    refine cw_seq ?_
    refine cw_seq ?_
    refine cw_region ?_
    refine ow_vals 2 (j := 2) [0, 3, 5, 6, 26] [(0, .slice p0 x0.length c0), (3, pP r21_b2), (5, pP b28), (6, .pointer none), (26, .bool true)] rfl (by kernel_rfl) ?_
    refine ow_end rfl ?_
    refine ew_then ?_
    refine cw_cond_t rfl rfl rfl ?_
    refine cw_seq ?_
    refine cw_region ?_
    refine ow_vals 1 (j := 1) [2] [(2, .bool false)] rfl (by kernel_rfl) ?_
    refine ow_end rfl ?_
    refine ew_then ?_
    refine cw_ret ?_
    refine ew_then_ret ?_
    have hR := Option.some.inj hF
    subst hR
    exact fin1 (H1 := [imm I]) (fun w hs => sat_to [1, 1, 1, 1, 0] 4 rfl hs) rfl (rr_tmp rfl) ⟨rfl, rfl⟩
  rw [hO] at hF
  try dsimp only [optC] at hF
  refine nw_H (H' := [imm I, o0 r21_b2 r21_p4 r21_s1.sure_ r21_c5 r21_b7 r21_s1.off_ r21_s1.armed_ r21_s1.left_ r21_s1.fall_.Keep r21_s1.fall_.Tear r21_s1.acts_ r21_s1.falls_, o1 r30_b4 r21_b2 r30_s1.2.boot_ r30_s1.2.n_, o3 r30_b2 r30_b4 r30_s1.1.base_ r30_s1.1.size_ r30_s1.1.next_ r30_s1.1.last_ r30_p6 r30_s1.1.list_ r30_c7 r30_s1.1.sure_ r30_s1.1.dead_, own eStr 9 r30_p6 r30_c7 r30_s1.1.list_, own e_disk_sector 51 r21_p4 r21_c5 r21_s1.sure_, mpo (kInt .i64) (fun x : disk_sector => Value.agg #[.string x.s_, i6 x.at_]) r21_b7 r21_s1.wait_, o7 b28 0 1] ++ F0) rfl (nw_ow ?_)
  refine ow_vals 1 (j := 3) [0, 3, 5, 6] [(0, .slice p0 x0.length c0), (3, pP r21_b2), (5, pP b28), (6, pP r30_b2)] rfl (by kernel_rfl) ?_
  refine ow_end rfl ?_
  refine ew_then ?_
  refine cw_seq ?_
  refine cw_seq ?_
  refine cw_region ?_
  refine ow_vals 2 (j := 2) [0, 3, 5, 6, 26] [(0, .slice p0 x0.length c0), (3, pP r21_b2), (5, pP b28), (6, pP r30_b2), (26, .bool false)] rfl (by kernel_rfl) ?_
  refine ow_end rfl ?_
  refine ew_then ?_
  refine cw_cond_f rfl rfl rfl ?_
  refine cw_skip ?_
  refine ew_then ?_
  obtain ⟨v35, hF, hK35⟩ := thru_some hF
  refine cw_mid (fun a w => ∃ (l231 : List disk_sector), ∃ (l235 : List (Int × disk_sector)), ∃ (x238 : Bool), ∃ (x239 : Bool), ∃ (x240 : Int), ∃ (x241 : Int), ∃ (x242 : Int), ∃ (x243 : Int), ∃ (x244 : Int), ∃ (x245 : Int), ∃ (x246 : Int), ∃ (x247 : Int), ∃ (x248 : Int), ∃ (x249 : Int), ∃ (x250 : Int), ∃ (l251 : List ByteArray), ∃ (x255 : Int), ∃ (x256 : Bool), ∃ (l257 : List ByteArray), ∃ (x261 : Int), ∃ (x262 : Int), ∃ (b229 : Nat), ∃ (b230 : Nat), ∃ (p232 : Option Addr), ∃ (c233 : Nat), ∃ (b237 : Nat), ∃ (p252 : Option Addr), ∃ (c253 : Nat), ∃ (p258 : Option Addr), ∃ (c259 : Nat), .inl (l231, l235, x238, x239, x240, x241, x242, x243, x244, x245, x246, x247, x248, x249, x250, l251, x255, x256, l257, x261, x262) = v35 ∧ Fr 121 [] a ∧ SAT w0 ([imm I, o0 r21_b2 p232 l231 c233 b237 x238 x239 x240 x241 x242 x243 x244, o1 b229 r21_b2 x245 x246, o3 b230 b229 x247 x248 x249 x250 p252 l251 c253 x255 x256, o5 b28 p258 l257 c259 x261 x262, own e_disk_sector 51 p232 c233 l231, mpo (kInt .i64) (fun x : disk_sector => Value.agg #[.string x.s_, i6 x.at_]) b237 l235, own eStr 9 p252 c253 l251, own eStr 9 p258 c259 l257] ++ F0) w) ?_ ?_
  · refine cw_seq ?_
    refine cw_region ?_
    refine ow_vals 1 (j := 1) [0, 3, 5, 6, 7] [(0, .slice p0 x0.length c0), (3, pP r21_b2), (5, pP b28), (6, pP r30_b2), (7, i6 0)] rfl (by kernel_rfl) ?_
    refine ow_end rfl ?_
    refine ew_then ?_
    refine cw_block ?_
    refine fun a w hf hs => wp_rounds (fun k a w => ∃ (x39 : Int), ∃ (l40 : List disk_sector), ∃ (l44 : List (Int × disk_sector)), ∃ (x47 : Bool), ∃ (x48 : Bool), ∃ (x49 : Int), ∃ (x50 : Int), ∃ (x51 : Int), ∃ (x52 : Int), ∃ (x53 : Int), ∃ (x54 : Int), ∃ (x55 : Int), ∃ (x56 : Int), ∃ (x57 : Int), ∃ (x58 : Int), ∃ (x59 : Int), ∃ (l60 : List ByteArray), ∃ (x64 : Int), ∃ (x65 : Bool), ∃ (l66 : List ByteArray), ∃ (x70 : Int), ∃ (x71 : Int), ∃ (b37 : Nat), ∃ (b38 : Nat), ∃ (p41 : Option Addr), ∃ (c42 : Nat), ∃ (b46 : Nat), ∃ (p61 : Option Addr), ∃ (c62 : Nat), ∃ (p67 : Option Addr), ∃ (c68 : Nat), iter (fun x => F.law12_JournalPlays.l8 x0 x.1 x.2.1 x.2.2.1 x.2.2.2.1 x.2.2.2.2.1 x.2.2.2.2.2.1 x.2.2.2.2.2.2.1 x.2.2.2.2.2.2.2.1 x.2.2.2.2.2.2.2.2.1 x.2.2.2.2.2.2.2.2.2.1 x.2.2.2.2.2.2.2.2.2.2.1 x.2.2.2.2.2.2.2.2.2.2.2.1 x.2.2.2.2.2.2.2.2.2.2.2.2.1 x.2.2.2.2.2.2.2.2.2.2.2.2.2.1 x.2.2.2.2.2.2.2.2.2.2.2.2.2.2.1 x.2.2.2.2.2.2.2.2.2.2.2.2.2.2.2.1 x.2.2.2.2.2.2.2.2.2.2.2.2.2.2.2.2.1 x.2.2.2.2.2.2.2.2.2.2.2.2.2.2.2.2.2.1 x.2.2.2.2.2.2.2.2.2.2.2.2.2.2.2.2.2.2.1 x.2.2.2.2.2.2.2.2.2.2.2.2.2.2.2.2.2.2.2.1 x.2.2.2.2.2.2.2.2.2.2.2.2.2.2.2.2.2.2.2.2.1 x.2.2.2.2.2.2.2.2.2.2.2.2.2.2.2.2.2.2.2.2.2) k (x39, l40, l44, x47, x48, x49, x50, x51, x52, x53, x54, x55, x56, x57, x58, x59, l60, x64, x65, l66, x70, x71) = some v35 ∧ Fr 121 [(0, .slice p0 x0.length c0), (3, pP r21_b2), (5, pP b28), (6, pP b38), (7, i6 x39)] a ∧ SAT w0 ([imm I, o0 r21_b2 p41 l40 c42 b46 x47 x48 x49 x50 x51 x52 x53, o1 b37 r21_b2 x54 x55, o3 b38 b37 x56 x57 x58 x59 p61 l60 c62 x64 x65, o5 b28 p67 l66 c68 x70 x71, own e_disk_sector 51 p41 c42 l40, mpo (kInt .i64) (fun x : disk_sector => Value.agg #[.string x.s_, i6 x.at_]) b46 l44, own eStr 9 p61 c62 l60, own eStr 9 p67 c68 l66] ++ F0) w) ?_ FUEL a w ⟨0, r21_s1.sure_, r21_s1.wait_, r21_s1.off_, r21_s1.armed_, r21_s1.left_, r21_s1.fall_.Keep, r21_s1.fall_.Tear, r21_s1.acts_, r21_s1.falls_, r30_s1.2.boot_, r30_s1.2.n_, r30_s1.1.base_, r30_s1.1.size_, r30_s1.1.next_, r30_s1.1.last_, r30_s1.1.list_, r30_s1.1.sure_, r30_s1.1.dead_, [], 0, 1, r30_b4, r30_b2, r21_p4, r21_c5, r21_b7, r30_p6, r30_c7, none, 0, hF, hf.keep [0, 3, 5, 6, 7], sat_to [1, 1, 1, 1, 4, 2, 2, 1, 0] 0 rfl (sat_own_nil eStr 9 hs)⟩
    clear hf hs
    clear a w hF
    rintro k a w ⟨x39, l40, l44, x47, x48, x49, x50, x51, x52, x53, x54, x55, x56, x57, x58, x59, l60, x64, x65, l66, x70, x71, b37, b38, p41, c42, b46, p61, c62, p67, c68, hF2, hf, hs⟩
    obtain ⟨k, r36, rfl, hF, hL36⟩ := iter_some hF2
    clear hF2
    revert a w
    show CW _ _ _ 121 [(0, .slice p0 x0.length c0), (3, pP r21_b2), (5, pP b28), (6, pP b38), (7, i6 x39)] (SAT w0 ([imm I, o0 r21_b2 p41 l40 c42 b46 x47 x48 x49 x50 x51 x52 x53, o1 b37 r21_b2 x54 x55, o3 b38 b37 x56 x57 x58 x59 p61 l60 c62 x64 x65, o5 b28 p67 l66 c68 x70 x71, own e_disk_sector 51 p41 c42 l40, mpo (kInt .i64) (fun x : disk_sector => Value.agg #[.string x.s_, i6 x.at_]) b46 l44, own eStr 9 p61 c62 l60, own eStr 9 p67 c68 l66] ++ F0))
    try dsimp only at hF
    unfold F.law12_JournalPlays.l8 at hF
    obtain ⟨v72, hF, hK72⟩ := thru_some hF
    refine cw_mid (fun a w => .inl () = v72 ∧ Fr 121 [(0, .slice p0 x0.length c0), (3, pP r21_b2), (5, pP b28), (6, pP b38), (7, i6 x39)] a ∧ SAT w0 ([imm I, o0 r21_b2 p41 l40 c42 b46 x47 x48 x49 x50 x51 x52 x53, o1 b37 r21_b2 x54 x55, o3 b38 b37 x56 x57 x58 x59 p61 l60 c62 x64 x65, o5 b28 p67 l66 c68 x70 x71, own e_disk_sector 51 p41 c42 l40, mpo (kInt .i64) (fun x : disk_sector => Value.agg #[.string x.s_, i6 x.at_]) b46 l44, own eStr 9 p61 c62 l60, own eStr 9 p67 c68 l66] ++ F0) w) ?_ ?_
    · refine cw_seq ?_
      refine cw_region ?_
      refine ow_vals 5 (j := 5) [0, 3, 5, 6, 7, 31] [(0, .slice p0 x0.length c0), (3, pP r21_b2), (5, pP b28), (6, pP b38), (7, i6 x39), (31, .bool (decide (x39 < (x0.length : Int))))] rfl (by kernel_rfl) ?_
      rcases if_some hF with ⟨h73, hF⟩ | ⟨h73, hF⟩
      · refine ow_slots (L' := [(0, .slice p0 x0.length c0), (3, pP r21_b2), (5, pP b28), (6, pP b38), (7, i6 x39), (31, .bool true)]) (by rw [h73]) ?_
        refine ow_vals 3 (j := 8) [0, 3, 5, 6, 7, 34] [(0, .slice p0 x0.length c0), (3, pP r21_b2), (5, pP b28), (6, pP b38), (7, i6 x39), (34, .bool (decide (x39 < 40)))] rfl (by kernel_rfl) ?_
        refine ow_end rfl ?_
        refine ew_then ?_
        rcases if_some hF with ⟨h74, hF⟩ | ⟨h74, hF⟩
        · refine cw_cond_t rfl rfl h74 ?_
          refine cw_skip ?_
          have hR := Option.some.inj hF
          exact fun a w hf hs => ⟨hR, hf.keep [0, 3, 5, 6, 7], sat_to [0, 0, 0, 0, 0, 0, 0, 0, 0] 0 rfl hs⟩
        refine cw_cond_f rfl rfl h74 ?_
        refine cw_exit ?_
        refine ew_then_exit ?_
        refine ew_then_exit ?_
        refine ew_blk_exit ?_
        have hR := Option.some.inj hF
        subst hR
        have hR := hK72
        try dsimp only [Thru] at hR
        subst hR
        have hR := hL36
        try dsimp only at hR
        exact fun a w hf hs => ⟨l40, l44, x47, x48, x49, x50, x51, x52, x53, x54, x55, x56, x57, x58, x59, l60, x64, x65, l66, x70, x71, b37, b38, p41, c42, b46, p61, c62, p67, c68, hR, hf.keep [], sat_to [0, 0, 0, 0, 0, 0, 0, 0, 0] 0 rfl hs⟩
      refine ow_slots (L' := [(0, .slice p0 x0.length c0), (3, pP r21_b2), (5, pP b28), (6, pP b38), (7, i6 x39), (31, .bool false)]) (by rw [h73]) ?_
      refine ow_vals 3 (j := 8) [0, 3, 5, 6, 7, 34] [(0, .slice p0 x0.length c0), (3, pP r21_b2), (5, pP b28), (6, pP b38), (7, i6 x39), (34, .bool false)] rfl (by kernel_rfl) ?_
      refine ow_end rfl ?_
      refine ew_then ?_
      refine cw_cond_f rfl rfl rfl ?_
      refine cw_exit ?_
      refine ew_then_exit ?_
      refine ew_then_exit ?_
      refine ew_blk_exit ?_
      have hR := Option.some.inj hF
      subst hR
      have hR := hK72
      try dsimp only [Thru] at hR
      subst hR
      have hR := hL36
      try dsimp only at hR
      exact fun a w hf hs => ⟨l40, l44, x47, x48, x49, x50, x51, x52, x53, x54, x55, x56, x57, x58, x59, l60, x64, x65, l66, x70, x71, b37, b38, p41, c42, b46, p61, c62, p67, c68, hR, hf.keep [], sat_to [0, 0, 0, 0, 0, 0, 0, 0, 0] 0 rfl hs⟩
    rintro a w ⟨hv, hf, hs⟩
    subst hv
    replace hF := hK72
    clear hK72
    try dsimp only [Thru] at hF
    revert a w
    show CW _ _ _ 121 [(0, .slice p0 x0.length c0), (3, pP r21_b2), (5, pP b28), (6, pP b38), (7, i6 x39)] (SAT w0 ([imm I, o0 r21_b2 p41 l40 c42 b46 x47 x48 x49 x50 x51 x52 x53, o1 b37 r21_b2 x54 x55, o3 b38 b37 x56 x57 x58 x59 p61 l60 c62 x64 x65, o5 b28 p67 l66 c68 x70 x71, own e_disk_sector 51 p41 c42 l40, mpo (kInt .i64) (fun x : disk_sector => Value.agg #[.string x.s_, i6 x.at_]) b46 l44, own eStr 9 p61 c62 l60, own eStr 9 p67 c68 l66] ++ F0))
    unfold F.law12_JournalPlays.r2 at hF
    refine cw_seq ?_
    refine cw_block ?_
    refine cw_seq ?_
    refine cw_region ?_
    refine ow_vals 2 (j := 2) [0, 3, 5, 6, 7, 37, 38] [(0, .slice p0 x0.length c0), (3, pP r21_b2), (5, pP b28), (6, pP b38), (7, i6 x39), (37, .slice p0 x0.length c0), (38, i6 x39)] rfl (by kernel_rfl) ?_
    obtain ⟨y75, h76, hF⟩ := bind_some hF
    refine ow_pw rfl (pw_index_ro (E := 37) 5 hr0 rfl rfl rfl rfl rfl (by kernel_rfl) rfl rfl rfl h76 fun q77 h78 => nw_ow ?_)
    refine ow_pw rfl (pw_quiet (v := .agg #[i6 y75.Kind, i6 y75.Long, .int .u8 y75.C, .int .u64 y75.F.Keep, i6 y75.F.Tear]) rfl rfl rfl rfl (q_load_el0 0 rfl h78 rfl rfl (by kernel_rfl)) (nw_ow ?_))
    refine ow_pw rfl (pw_alloc (cs := #[i6 0, i6 0, .int .u8 0, .int .u64 0, i6 0]) rfl rfl rfl rfl rfl (by kernel_rfl) fun b79 => nw_ow ?_)
    refine ow_pw rfl (pw_store 0 #[i6 y75.Kind, i6 y75.Long, .int .u8 y75.C, .int .u64 y75.F.Keep, i6 y75.F.Tear] rfl rfl rfl rfl rfl rfl rfl (by kernel_rfl) (nw_H (H' := [o6 b79 y75.Kind y75.Long y75.C y75.F.Keep y75.F.Tear, imm I, o0 r21_b2 p41 l40 c42 b46 x47 x48 x49 x50 x51 x52 x53, o1 b37 r21_b2 x54 x55, o3 b38 b37 x56 x57 x58 x59 p61 l60 c62 x64 x65, o5 b28 p67 l66 c68 x70 x71, own e_disk_sector 51 p41 c42 l40, mpo (kInt .i64) (fun x : disk_sector => Value.agg #[.string x.s_, i6 x.at_]) b46 l44, own eStr 9 p61 c62 l60, own eStr 9 p67 c68 l66] ++ F0) rfl (nw_ow ?_)))
    refine ow_end rfl ?_
    refine ew_then ?_
    refine cw_seq ?_
    refine cw_region ?_
    refine ow_vals 1 (j := 1) [0, 3, 5, 6, 7, 8, 9] [(0, .slice p0 x0.length c0), (3, pP r21_b2), (5, pP b28), (6, pP b38), (7, i6 x39), (8, pP b79), (9, .bool true)] rfl (by kernel_rfl) ?_
    refine ow_end rfl ?_
    refine ew_then ?_
    obtain ⟨v81, hF, hK81⟩ := bind_some hF
    refine cw_mid (fun a w => ∃ (x125 : Bool), ∃ (l126 : List disk_sector), ∃ (l130 : List (Int × disk_sector)), ∃ (x133 : Bool), ∃ (x134 : Bool), ∃ (x135 : Int), ∃ (x136 : Int), ∃ (x137 : Int), ∃ (x138 : Int), ∃ (x139 : Int), ∃ (x140 : Int), ∃ (x141 : Int), ∃ (x142 : Int), ∃ (x143 : Int), ∃ (l144 : List ByteArray), ∃ (x148 : Int), ∃ (x149 : Bool), ∃ (x150 : Int), ∃ (x151 : Int), ∃ (l152 : List ByteArray), ∃ (x156 : Int), ∃ (x157 : Int), ∃ (b123 : Nat), ∃ (b124 : Nat), ∃ (p127 : Option Addr), ∃ (c128 : Nat), ∃ (b132 : Nat), ∃ (p145 : Option Addr), ∃ (c146 : Nat), ∃ (p153 : Option Addr), ∃ (c154 : Nat), (x125, l126, l130, x133, x134, x135, x136, x137, x138, x139, x140, x141, x142, x143, l144, x148, x149, x150, x151, l152, x156, x157) = v81 ∧ Fr 121 [(0, .slice p0 x0.length c0), (3, pP r21_b2), (5, pP b28), (6, pP b124), (7, i6 x39), (8, pP b79), (9, .bool x125)] a ∧ SAT w0 ([imm I, o0 r21_b2 p127 l126 c128 b132 x133 x134 x135 x136 x137 x138 x139, o3 b124 b123 x140 x141 x142 x143 p145 l144 c146 x148 x149, o1 b123 r21_b2 x150 x151, o5 b28 p153 l152 c154 x156 x157, o6 b79 y75.Kind y75.Long y75.C y75.F.Keep y75.F.Tear, own e_disk_sector 51 p127 c128 l126, mpo (kInt .i64) (fun x : disk_sector => Value.agg #[.string x.s_, i6 x.at_]) b132 l130, own eStr 9 p145 c146 l144, own eStr 9 p153 c154 l152] ++ F0) w) ?_ ?_
    · refine cw_seq ?_
      refine cw_region ?_
      refine ow_vals 1 (j := 1) [0, 3, 5, 6, 7, 8, 9, 41] [(0, .slice p0 x0.length c0), (3, pP r21_b2), (5, pP b28), (6, pP b38), (7, i6 x39), (8, pP b79), (9, .bool true), (41, pP b79)] rfl (by kernel_rfl) ?_
      refine ow_pw rfl (pw_quiet (v := i6 y75.Kind) rfl rfl rfl rfl (q_load 0 rfl rfl rfl (by kernel_rfl)) (nw_ow ?_))
      refine ow_end rfl ?_
      refine ew_then ?_
      refine cw_block ?_
      obtain ⟨v82, hF, hK82⟩ := bind_some hF
      refine cw_mid (fun a w => ∃ (x85 : Bool), x85 = v82 ∧ Fr 121 [(0, .slice p0 x0.length c0), (3, pP r21_b2), (5, pP b28), (6, pP b38), (7, i6 x39), (8, pP b79), (9, .bool true), (42, i6 y75.Kind), (52, .bool x85)] a ∧ SAT w0 ([imm I, o6 b79 y75.Kind y75.Long y75.C y75.F.Keep y75.F.Tear, o0 r21_b2 p41 l40 c42 b46 x47 x48 x49 x50 x51 x52 x53, o1 b37 r21_b2 x54 x55, o3 b38 b37 x56 x57 x58 x59 p61 l60 c62 x64 x65, o5 b28 p67 l66 c68 x70 x71, own e_disk_sector 51 p41 c42 l40, mpo (kInt .i64) (fun x : disk_sector => Value.agg #[.string x.s_, i6 x.at_]) b46 l44, own eStr 9 p61 c62 l60, own eStr 9 p67 c68 l66] ++ F0) w) ?_ ?_
      · refine cw_seq ?_
        refine cw_region ?_
        refine ow_vals 2 (j := 2) [0, 3, 5, 6, 7, 8, 9, 42, 52] [(0, .slice p0 x0.length c0), (3, pP r21_b2), (5, pP b28), (6, pP b38), (7, i6 x39), (8, pP b79), (9, .bool true), (42, i6 y75.Kind), (52, .bool (y75.Kind == 0))] rfl (by kernel_rfl) ?_
        refine ow_end rfl ?_
        refine ew_then ?_
        rcases if_some hF with ⟨h83, hF⟩ | ⟨h83, hF⟩
        · refine cw_cond_t rfl rfl h83 ?_
          refine cw_skip ?_
          have hR := Option.some.inj hF
          exact fun a w hf hs => ⟨y75.Kind == 0, hR, hf.keep [0, 3, 5, 6, 7, 8, 9, 42, 52], sat_to [1, 0, 0, 0, 0, 0, 0, 0, 0, 0] 0 rfl hs⟩
        refine cw_cond_f rfl rfl h83 ?_
        refine cw_seq ?_
        refine cw_region ?_
        refine ow_vals 2 (j := 2) [0, 3, 5, 6, 7, 8, 9, 42, 52] [(0, .slice p0 x0.length c0), (3, pP r21_b2), (5, pP b28), (6, pP b38), (7, i6 x39), (8, pP b79), (9, .bool true), (42, i6 y75.Kind), (52, .bool (y75.Kind == 1))] rfl (by kernel_rfl) ?_
        refine ow_end rfl ?_
        refine ew_then ?_
        rcases if_some hF with ⟨h84, hF⟩ | ⟨h84, hF⟩
        · refine cw_cond_t rfl rfl h84 ?_
          refine cw_skip ?_
          have hR := Option.some.inj hF
          exact fun a w hf hs => ⟨y75.Kind == 1, hR, hf.keep [0, 3, 5, 6, 7, 8, 9, 42, 52], sat_to [1, 0, 0, 0, 0, 0, 0, 0, 0, 0] 0 rfl hs⟩
        refine cw_cond_f rfl rfl h84 ?_
        refine cw_region ?_
        refine ow_vals 2 (j := 2) [0, 3, 5, 6, 7, 8, 9, 42, 52] [(0, .slice p0 x0.length c0), (3, pP r21_b2), (5, pP b28), (6, pP b38), (7, i6 x39), (8, pP b79), (9, .bool true), (42, i6 y75.Kind), (52, .bool (y75.Kind == 2))] rfl (by kernel_rfl) ?_
        refine ow_end rfl ?_
        have hR := Option.some.inj hF
        exact fun a w hf hs => ⟨y75.Kind == 2, hR, hf.keep [0, 3, 5, 6, 7, 8, 9, 42, 52], sat_to [1, 0, 0, 0, 0, 0, 0, 0, 0, 0] 0 rfl hs⟩
      rintro a w ⟨x85, hv, hf, hs⟩
      subst hv
      replace hF := hK82
      clear hK82
      try dsimp only at hF
      revert a w
      show CW _ _ _ 121 [(0, .slice p0 x0.length c0), (3, pP r21_b2), (5, pP b28), (6, pP b38), (7, i6 x39), (8, pP b79), (9, .bool true), (42, i6 y75.Kind), (52, .bool x85)] (SAT w0 ([imm I, o6 b79 y75.Kind y75.Long y75.C y75.F.Keep y75.F.Tear, o0 r21_b2 p41 l40 c42 b46 x47 x48 x49 x50 x51 x52 x53, o1 b37 r21_b2 x54 x55, o3 b38 b37 x56 x57 x58 x59 p61 l60 c62 x64 x65, o5 b28 p67 l66 c68 x70 x71, own e_disk_sector 51 p41 c42 l40, mpo (kInt .i64) (fun x : disk_sector => Value.agg #[.string x.s_, i6 x.at_]) b46 l44, own eStr 9 p61 c62 l60, own eStr 9 p67 c68 l66] ++ F0))
      unfold F.law12_JournalPlays.r3 at hF
      rcases if_some hF with ⟨h86, hF⟩ | ⟨h86, hF⟩
      · refine cw_cond_t rfl rfl h86 ?_
        refine cw_region ?_
        refine ow_vals 3 (j := 3) [0, 3, 5, 6, 7, 8, 56, 57, 58] [(0, .slice p0 x0.length c0), (3, pP r21_b2), (5, pP b28), (6, pP b38), (7, i6 x39), (8, pP b79), (56, pP r21_b2), (57, pP b38), (58, pP b28)] rfl (by kernel_rfl) ?_
        refine ow_pw rfl (pw_quiet (v := .agg #[i6 y75.Kind, i6 y75.Long, .int .u8 y75.C, .int .u64 y75.F.Keep, i6 y75.F.Tear]) rfl rfl rfl rfl (q_load 1 rfl rfl rfl (by kernel_rfl)) (nw_ow ?_))
        obtain ⟨r87, h88, hF⟩ := bind_some hF
        refine ow_pw rfl (pw_call (F := [o6 b79 y75.Kind y75.Long y75.C y75.F.Keep y75.F.Tear] ++ F0) rfl rfl rfl rfl rfl rfl rfl (by kernel_rfl) (perm_of_pulls [0, 1, 2, 1, 1, 1, 1, 1, 1] rfl) (c_law12_add _ y75 (⟨l40, l44, x47, x48, x49, (⟨x50, x51⟩ : disk_Fall), x52, x53⟩ : disk_Disk) (⟨x56, x57, x58, x59, l60, x64, x65⟩ : journal_Journal) (⟨x54, x55⟩ : guard_Guard) (⟨l66, x70, x71⟩ : law12_plain) p41 c42 b46 r21_b2 p61 c62 b38 b37 p67 c68 b28 r87 h88) ?_)
        rintro _ _ ⟨r87_p1, r87_c2, r87_b4, r87_p6, r87_c7, r87_p9, r87_c10, rfl, rfl⟩
        refine nw_H (H' := [imm I, o0 r21_b2 r87_p1 r87.2.1.sure_ r87_c2 r87_b4 r87.2.1.off_ r87.2.1.armed_ r87.2.1.left_ r87.2.1.fall_.Keep r87.2.1.fall_.Tear r87.2.1.acts_ r87.2.1.falls_, o3 b38 b37 r87.2.2.1.base_ r87.2.2.1.size_ r87.2.2.1.next_ r87.2.2.1.last_ r87_p6 r87.2.2.1.list_ r87_c7 r87.2.2.1.sure_ r87.2.2.1.dead_, o1 b37 r21_b2 r87.2.2.2.1.boot_ r87.2.2.2.1.n_, o5 b28 r87_p9 r87.2.2.2.2.l_ r87_c10 r87.2.2.2.2.sure_ r87.2.2.2.2.boot_, own e_disk_sector 51 r87_p1 r87_c2 r87.2.1.sure_, mpo (kInt .i64) (fun x : disk_sector => Value.agg #[.string x.s_, i6 x.at_]) r87_b4 r87.2.1.wait_, own eStr 9 r87_p6 r87_c7 r87.2.2.1.list_, own eStr 9 r87_p9 r87_c10 r87.2.2.2.2.l_, o6 b79 y75.Kind y75.Long y75.C y75.F.Keep y75.F.Tear] ++ F0) rfl (nw_ow ?_)
        refine ow_vals 1 (j := 6) [0, 3, 5, 6, 7, 8, 9] [(0, .slice p0 x0.length c0), (3, pP r21_b2), (5, pP b28), (6, pP b38), (7, i6 x39), (8, pP b79), (9, .bool r87.1)] rfl (by kernel_rfl) ?_
        refine ow_end rfl ?_
        refine ew_blk ?_
        have hR := Option.some.inj hF
        exact fun a w hf hs => ⟨r87.1, r87.2.1.sure_, r87.2.1.wait_, r87.2.1.off_, r87.2.1.armed_, r87.2.1.left_, r87.2.1.fall_.Keep, r87.2.1.fall_.Tear, r87.2.1.acts_, r87.2.1.falls_, r87.2.2.1.base_, r87.2.2.1.size_, r87.2.2.1.next_, r87.2.2.1.last_, r87.2.2.1.list_, r87.2.2.1.sure_, r87.2.2.1.dead_, r87.2.2.2.1.boot_, r87.2.2.2.1.n_, r87.2.2.2.2.l_, r87.2.2.2.2.sure_, r87.2.2.2.2.boot_, b37, b38, r87_p1, r87_c2, r87_b4, r87_p6, r87_c7, r87_p9, r87_c10, hR, hf.keep [0, 3, 5, 6, 7, 8, 9], sat_to [0, 0, 0, 0, 0, 4, 0, 0, 0, 0] 0 rfl hs⟩
      refine cw_cond_f rfl rfl h86 ?_
      refine cw_seq ?_
      refine cw_region ?_
      refine ow_vals 2 (j := 2) [0, 3, 5, 6, 7, 8, 9, 42, 61] [(0, .slice p0 x0.length c0), (3, pP r21_b2), (5, pP b28), (6, pP b38), (7, i6 x39), (8, pP b79), (9, .bool true), (42, i6 y75.Kind), (61, .bool (y75.Kind == 3))] rfl (by kernel_rfl) ?_
      refine ow_end rfl ?_
      refine ew_then ?_
      rcases if_some hF with ⟨h93, hF⟩ | ⟨h93, hF⟩
      · refine cw_cond_t rfl rfl h93 ?_
        refine cw_seq ?_
        refine cw_region ?_
        refine ow_vals 1 (j := 1) [0, 3, 5, 6, 7, 8, 63] [(0, .slice p0 x0.length c0), (3, pP r21_b2), (5, pP b28), (6, pP b38), (7, i6 x39), (8, pP b79), (63, pP b38)] rfl (by kernel_rfl) ?_
        obtain ⟨r94, h95, hF⟩ := bind_some hF
        refine ow_pw rfl (pw_call (F := [o6 b79 y75.Kind y75.Long y75.C y75.F.Keep y75.F.Tear, o5 b28 p67 l66 c68 x70 x71, own eStr 9 p67 c68 l66] ++ F0) rfl rfl rfl rfl rfl rfl rfl (by kernel_rfl) (perm_of_pulls [0, 3, 2, 1, 4, 2, 2] rfl) (c_journal_Journal_Flush _ (⟨x56, x57, x58, x59, l60, x64, x65⟩ : journal_Journal) (⟨x54, x55⟩ : guard_Guard) (⟨l40, l44, x47, x48, x49, (⟨x50, x51⟩ : disk_Fall), x52, x53⟩ : disk_Disk) p61 c62 b38 b37 p41 c42 b46 r21_b2 r94 h95) ?_)
        rintro _ _ ⟨r94_p1, r94_c2, r94_p4, r94_c5, r94_b7, rfl, rfl⟩
        refine nw_H (H' := [imm I, o3 b38 b37 r94.2.1.base_ r94.2.1.size_ r94.2.1.next_ r94.2.1.last_ r94_p1 r94.2.1.list_ r94_c2 r94.2.1.sure_ r94.2.1.dead_, o1 b37 r21_b2 ((⟨x54, x55⟩ : guard_Guard).boot_) ((⟨x54, x55⟩ : guard_Guard).n_), o0 r21_b2 r94_p4 r94.2.2.sure_ r94_c5 r94_b7 r94.2.2.off_ r94.2.2.armed_ r94.2.2.left_ r94.2.2.fall_.Keep r94.2.2.fall_.Tear r94.2.2.acts_ r94.2.2.falls_, own eStr 9 r94_p1 r94_c2 r94.2.1.list_, own e_disk_sector 51 r94_p4 r94_c5 r94.2.2.sure_, mpo (kInt .i64) (fun x : disk_sector => Value.agg #[.string x.s_, i6 x.at_]) r94_b7 r94.2.2.wait_, o6 b79 y75.Kind y75.Long y75.C y75.F.Keep y75.F.Tear, o5 b28 p67 l66 c68 x70 x71, own eStr 9 p67 c68 l66] ++ F0) rfl (nw_ow ?_)
        refine ow_vals 1 (j := 3) [0, 3, 5, 6, 7, 8, 10] [(0, .slice p0 x0.length c0), (3, pP r21_b2), (5, pP b28), (6, pP b38), (7, i6 x39), (8, pP b79), (10, i6 r94.1)] rfl (by kernel_rfl) ?_
        refine ow_end rfl ?_
        refine ew_then ?_
        obtain ⟨v99, hF, hK99⟩ := bind_some hF
        refine cw_mid (fun a w => ∃ (x104 : Bool), x104 = v99 ∧ Fr 121 [(0, .slice p0 x0.length c0), (3, pP r21_b2), (5, pP b28), (6, pP b38), (7, i6 x39), (8, pP b79), (9, .bool x104), (10, i6 r94.1)] a ∧ SAT w0 ([imm I, o3 b38 b37 r94.2.1.base_ r94.2.1.size_ r94.2.1.next_ r94.2.1.last_ r94_p1 r94.2.1.list_ r94_c2 r94.2.1.sure_ r94.2.1.dead_, o1 b37 r21_b2 ((⟨x54, x55⟩ : guard_Guard).boot_) ((⟨x54, x55⟩ : guard_Guard).n_), o0 r21_b2 r94_p4 r94.2.2.sure_ r94_c5 r94_b7 r94.2.2.off_ r94.2.2.armed_ r94.2.2.left_ r94.2.2.fall_.Keep r94.2.2.fall_.Tear r94.2.2.acts_ r94.2.2.falls_, o6 b79 y75.Kind y75.Long y75.C y75.F.Keep y75.F.Tear, o5 b28 p67 l66 c68 x70 x71, own eStr 9 r94_p1 r94_c2 r94.2.1.list_, own e_disk_sector 51 r94_p4 r94_c5 r94.2.2.sure_, mpo (kInt .i64) (fun x : disk_sector => Value.agg #[.string x.s_, i6 x.at_]) r94_b7 r94.2.2.wait_, own eStr 9 p67 c68 l66] ++ F0) w) ?_ ?_
        · refine cw_region ?_
          refine ow_vals 3 (j := 3) [0, 3, 5, 6, 7, 8, 10, 67] [(0, .slice p0 x0.length c0), (3, pP r21_b2), (5, pP b28), (6, pP b38), (7, i6 x39), (8, pP b79), (10, i6 r94.1), (67, .bool (r94.1 == 0))] rfl (by kernel_rfl) ?_
          rcases if_some hF with ⟨h100, hF⟩ | ⟨h100, hF⟩
          · refine ow_slots (L' := [(0, .slice p0 x0.length c0), (3, pP r21_b2), (5, pP b28), (6, pP b38), (7, i6 x39), (8, pP b79), (10, i6 r94.1), (67, .bool true)]) (by rw [h100]) ?_
            refine ow_vals 9 (j := 12) [0, 3, 5, 6, 7, 8, 9, 10] [(0, .slice p0 x0.length c0), (3, pP r21_b2), (5, pP b28), (6, pP b38), (7, i6 x39), (8, pP b79), (9, .bool true), (10, i6 r94.1)] rfl (by kernel_rfl) ?_
            refine ow_end rfl ?_
            have hR := Option.some.inj hF
            exact fun a w hf hs => ⟨true, hR, hf.keep [0, 3, 5, 6, 7, 8, 9, 10], sat_to [0, 0, 0, 0, 3, 3, 0, 0, 0, 0] 0 rfl hs⟩
          refine ow_slots (L' := [(0, .slice p0 x0.length c0), (3, pP r21_b2), (5, pP b28), (6, pP b38), (7, i6 x39), (8, pP b79), (10, i6 r94.1), (67, .bool false)]) (by rw [h100]) ?_
          refine ow_vals 3 (j := 6) [0, 3, 5, 6, 7, 8, 10, 67, 70] [(0, .slice p0 x0.length c0), (3, pP r21_b2), (5, pP b28), (6, pP b38), (7, i6 x39), (8, pP b79), (10, i6 r94.1), (67, .bool false), (70, .bool (r94.1 == 8))] rfl (by kernel_rfl) ?_
          rcases if_some hF with ⟨h101, hF⟩ | ⟨h101, hF⟩
          · refine ow_slots (L' := [(0, .slice p0 x0.length c0), (3, pP r21_b2), (5, pP b28), (6, pP b38), (7, i6 x39), (8, pP b79), (10, i6 r94.1), (67, .bool false), (70, .bool true)]) (by rw [h101]) ?_
            refine ow_vals 1 (j := 7) [0, 3, 5, 6, 7, 8, 10, 67, 70, 71] [(0, .slice p0 x0.length c0), (3, pP r21_b2), (5, pP b28), (6, pP b38), (7, i6 x39), (8, pP b79), (10, i6 r94.1), (67, .bool false), (70, .bool true), (71, pP r21_b2)] rfl (by kernel_rfl) ?_
            obtain ⟨r102, h103, hF⟩ := bind_some hF
            refine ow_pw rfl (pw_call (F := [o3 b38 b37 r94.2.1.base_ r94.2.1.size_ r94.2.1.next_ r94.2.1.last_ r94_p1 r94.2.1.list_ r94_c2 r94.2.1.sure_ r94.2.1.dead_, o1 b37 r21_b2 ((⟨x54, x55⟩ : guard_Guard).boot_) ((⟨x54, x55⟩ : guard_Guard).n_), own eStr 9 r94_p1 r94_c2 r94.2.1.list_, o6 b79 y75.Kind y75.Long y75.C y75.F.Keep y75.F.Tear, o5 b28 p67 l66 c68 x70 x71, own eStr 9 p67 c68 l66] ++ F0) rfl rfl rfl rfl rfl rfl rfl (by kernel_rfl) (perm_of_pulls [0, 2, 3, 3] rfl) (c_disk_Disk_Up _ r94.2.2 r94_p4 r94_c5 r94_b7 r21_b2 r102 h103) ?_)
            rintro _ _ ⟨rfl, rfl⟩
            refine nw_H (H' := [imm I, o0 r21_b2 r94_p4 r94.2.2.sure_ r94_c5 r94_b7 r94.2.2.off_ r94.2.2.armed_ r94.2.2.left_ r94.2.2.fall_.Keep r94.2.2.fall_.Tear r94.2.2.acts_ r94.2.2.falls_, own e_disk_sector 51 r94_p4 r94_c5 r94.2.2.sure_, mpo (kInt .i64) (fun x : disk_sector => Value.agg #[.string x.s_, i6 x.at_]) r94_b7 r94.2.2.wait_, o3 b38 b37 r94.2.1.base_ r94.2.1.size_ r94.2.1.next_ r94.2.1.last_ r94_p1 r94.2.1.list_ r94_c2 r94.2.1.sure_ r94.2.1.dead_, o1 b37 r21_b2 ((⟨x54, x55⟩ : guard_Guard).boot_) ((⟨x54, x55⟩ : guard_Guard).n_), own eStr 9 r94_p1 r94_c2 r94.2.1.list_, o6 b79 y75.Kind y75.Long y75.C y75.F.Keep y75.F.Tear, o5 b28 p67 l66 c68 x70 x71, own eStr 9 p67 c68 l66] ++ F0) rfl (nw_ow ?_)
            refine ow_vals 4 (j := 12) [0, 3, 5, 6, 7, 8, 9, 10] [(0, .slice p0 x0.length c0), (3, pP r21_b2), (5, pP b28), (6, pP b38), (7, i6 x39), (8, pP b79), (9, .bool (!r102)), (10, i6 r94.1)] rfl (by kernel_rfl) ?_
            refine ow_end rfl ?_
            have hR := Option.some.inj hF
            exact fun a w hf hs => ⟨!r102, hR, hf.keep [0, 3, 5, 6, 7, 8, 9, 10], sat_to [0, 3, 3, 0, 3, 3, 2, 0, 0, 0] 0 rfl hs⟩
          refine ow_slots (L' := [(0, .slice p0 x0.length c0), (3, pP r21_b2), (5, pP b28), (6, pP b38), (7, i6 x39), (8, pP b79), (10, i6 r94.1), (67, .bool false), (70, .bool false)]) (by rw [h101]) ?_
          refine ow_vals 6 (j := 12) [0, 3, 5, 6, 7, 8, 9, 10] [(0, .slice p0 x0.length c0), (3, pP r21_b2), (5, pP b28), (6, pP b38), (7, i6 x39), (8, pP b79), (9, .bool false), (10, i6 r94.1)] rfl (by kernel_rfl) ?_
          refine ow_end rfl ?_
          have hR := Option.some.inj hF
          exact fun a w hf hs => ⟨false, hR, hf.keep [0, 3, 5, 6, 7, 8, 9, 10], sat_to [0, 0, 0, 0, 3, 3, 0, 0, 0, 0] 0 rfl hs⟩
        rintro a w ⟨x104, hv, hf, hs⟩
        subst hv
        replace hF := hK99
        clear hK99
        try dsimp only at hF
        revert a w
        show CW _ _ _ 121 [(0, .slice p0 x0.length c0), (3, pP r21_b2), (5, pP b28), (6, pP b38), (7, i6 x39), (8, pP b79), (9, .bool x104), (10, i6 r94.1)] (SAT w0 ([imm I, o3 b38 b37 r94.2.1.base_ r94.2.1.size_ r94.2.1.next_ r94.2.1.last_ r94_p1 r94.2.1.list_ r94_c2 r94.2.1.sure_ r94.2.1.dead_, o1 b37 r21_b2 ((⟨x54, x55⟩ : guard_Guard).boot_) ((⟨x54, x55⟩ : guard_Guard).n_), o0 r21_b2 r94_p4 r94.2.2.sure_ r94_c5 r94_b7 r94.2.2.off_ r94.2.2.armed_ r94.2.2.left_ r94.2.2.fall_.Keep r94.2.2.fall_.Tear r94.2.2.acts_ r94.2.2.falls_, o6 b79 y75.Kind y75.Long y75.C y75.F.Keep y75.F.Tear, o5 b28 p67 l66 c68 x70 x71, own eStr 9 r94_p1 r94_c2 r94.2.1.list_, own e_disk_sector 51 r94_p4 r94_c5 r94.2.2.sure_, mpo (kInt .i64) (fun x : disk_sector => Value.agg #[.string x.s_, i6 x.at_]) r94_b7 r94.2.2.wait_, own eStr 9 p67 c68 l66] ++ F0))
        unfold F.law12_JournalPlays.r4 at hF
        refine cw_seq ?_
        refine cw_region ?_
        refine ow_vals 2 (j := 2) [0, 3, 5, 6, 7, 8, 9, 77] [(0, .slice p0 x0.length c0), (3, pP r21_b2), (5, pP b28), (6, pP b38), (7, i6 x39), (8, pP b79), (9, .bool x104), (77, .bool (r94.1 == 0))] rfl (by kernel_rfl) ?_
        refine ow_end rfl ?_
        refine ew_then ?_
        rcases if_some hF with ⟨h105, hF⟩ | ⟨h105, hF⟩
        · refine cw_cond_t rfl rfl h105 ?_
          refine cw_region ?_
          refine ow_vals 4 (j := 4) [0, 3, 5, 6, 7, 8, 9, 78, 81] [(0, .slice p0 x0.length c0), (3, pP r21_b2), (5, pP b28), (6, pP b38), (7, i6 x39), (8, pP b79), (9, .bool x104), (78, pP b28), (81, pP b28)] rfl (by kernel_rfl) ?_
          refine ow_pw rfl (pw_quiet (v := .slice p67 l66.length c68) rfl rfl rfl rfl (q_load 5 rfl rfl rfl (by kernel_rfl)) (nw_ow ?_))
          refine ow_vals 3 (j := 8) [0, 3, 5, 6, 7, 8, 9, 83, 85] [(0, .slice p0 x0.length c0), (3, pP r21_b2), (5, pP b28), (6, pP b38), (7, i6 x39), (8, pP b79), (9, .bool x104), (83, i6 (l66.length : Int)), (85, .pointer (some ⟨b28, 1, none⟩))] rfl (by kernel_rfl) ?_
          refine ow_pw rfl (pw_store 5 #[.slice p67 l66.length c68, i6 (l66.length : Int), i6 x71] rfl rfl rfl rfl rfl rfl rfl (by kernel_rfl) (nw_H (H' := [imm I, o3 b38 b37 r94.2.1.base_ r94.2.1.size_ r94.2.1.next_ r94.2.1.last_ r94_p1 r94.2.1.list_ r94_c2 r94.2.1.sure_ r94.2.1.dead_, o1 b37 r21_b2 ((⟨x54, x55⟩ : guard_Guard).boot_) ((⟨x54, x55⟩ : guard_Guard).n_), o0 r21_b2 r94_p4 r94.2.2.sure_ r94_c5 r94_b7 r94.2.2.off_ r94.2.2.armed_ r94.2.2.left_ r94.2.2.fall_.Keep r94.2.2.fall_.Tear r94.2.2.acts_ r94.2.2.falls_, o6 b79 y75.Kind y75.Long y75.C y75.F.Keep y75.F.Tear, o5 b28 p67 l66 c68 (l66.length : Int) x71, own eStr 9 r94_p1 r94_c2 r94.2.1.list_, own e_disk_sector 51 r94_p4 r94_c5 r94.2.2.sure_, mpo (kInt .i64) (fun x : disk_sector => Value.agg #[.string x.s_, i6 x.at_]) r94_b7 r94.2.2.wait_, own eStr 9 p67 c68 l66] ++ F0) rfl (nw_ow ?_)))
          refine ow_end rfl ?_
          refine ew_blk ?_
          have hR := Option.some.inj hF
          exact fun a w hf hs => ⟨x104, r94.2.2.sure_, r94.2.2.wait_, r94.2.2.off_, r94.2.2.armed_, r94.2.2.left_, r94.2.2.fall_.Keep, r94.2.2.fall_.Tear, r94.2.2.acts_, r94.2.2.falls_, r94.2.1.base_, r94.2.1.size_, r94.2.1.next_, r94.2.1.last_, r94.2.1.list_, r94.2.1.sure_, r94.2.1.dead_, (⟨x54, x55⟩ : guard_Guard).boot_, (⟨x54, x55⟩ : guard_Guard).n_, l66, (l66.length : Int), x71, b37, b38, r94_p4, r94_c5, r94_b7, r94_p1, r94_c2, p67, c68, hR, hf.keep [0, 3, 5, 6, 7, 8, 9], sat_to [0, 2, 0, 0, 1, 0, 1, 1, 0, 0] 0 rfl hs⟩
        refine cw_cond_f rfl rfl h105 ?_
        refine cw_skip ?_
        refine ew_blk ?_
        have hR := Option.some.inj hF
        exact fun a w hf hs => ⟨x104, r94.2.2.sure_, r94.2.2.wait_, r94.2.2.off_, r94.2.2.armed_, r94.2.2.left_, r94.2.2.fall_.Keep, r94.2.2.fall_.Tear, r94.2.2.acts_, r94.2.2.falls_, r94.2.1.base_, r94.2.1.size_, r94.2.1.next_, r94.2.1.last_, r94.2.1.list_, r94.2.1.sure_, r94.2.1.dead_, (⟨x54, x55⟩ : guard_Guard).boot_, (⟨x54, x55⟩ : guard_Guard).n_, l66, x70, x71, b37, b38, r94_p4, r94_c5, r94_b7, r94_p1, r94_c2, p67, c68, hR, hf.keep [0, 3, 5, 6, 7, 8, 9], sat_to [0, 2, 0, 0, 1, 0, 1, 1, 0, 0] 0 rfl hs⟩
      refine cw_cond_f rfl rfl h93 ?_
      refine cw_seq ?_
      refine cw_region ?_
      refine ow_vals 2 (j := 2) [0, 3, 5, 6, 7, 8, 9, 86] [(0, .slice p0 x0.length c0), (3, pP r21_b2), (5, pP b28), (6, pP b38), (7, i6 x39), (8, pP b79), (9, .bool true), (86, .bool (y75.Kind == 4))] rfl (by kernel_rfl) ?_
      refine ow_end rfl ?_
      refine ew_then ?_
      rcases if_some hF with ⟨h106, hF⟩ | ⟨h106, hF⟩
      · refine cw_cond_t rfl rfl h106 ?_
        refine cw_region ?_
        refine ow_vals 3 (j := 3) [0, 3, 5, 7, 8, 9, 88, 89, 90] [(0, .slice p0 x0.length c0), (3, pP r21_b2), (5, pP b28), (7, i6 x39), (8, pP b79), (9, .bool true), (88, pP r21_b2), (89, pP b28), (90, .pointer (some ⟨b79, 3, none⟩))] rfl (by kernel_rfl) ?_
        refine ow_pw rfl (pw_quiet (v := .agg #[.int .u64 y75.F.Keep, i6 y75.F.Tear]) rfl rfl rfl rfl (q_load 1 rfl rfl rfl (by kernel_rfl)) (nw_ow ?_))
        obtain ⟨r107, h108, hF⟩ := bind_some hF
        refine ow_pw rfl (pw_call (F := [o6 b79 y75.Kind y75.Long y75.C y75.F.Keep y75.F.Tear, o1 b37 r21_b2 x54 x55, o3 b38 b37 x56 x57 x58 x59 p61 l60 c62 x64 x65, own eStr 9 p61 c62 l60] ++ F0) rfl rfl rfl rfl rfl rfl rfl (by kernel_rfl) (perm_of_pulls [0, 1, 3, 3, 3, 4] rfl) (c_law12_again _ y75.F (⟨l40, l44, x47, x48, x49, (⟨x50, x51⟩ : disk_Fall), x52, x53⟩ : disk_Disk) (⟨l66, x70, x71⟩ : law12_plain) p41 c42 b46 r21_b2 p67 c68 b28 r107 h108) ?_)
        rintro _ _ (⟨r107_p1, r107_c2, r107_b4, r107_p6, r107_c7, hO, rfl, rfl⟩ | ⟨r107_s1, r107_b2, r107_b4, r107_p6, r107_c7, r107_p9, r107_c10, r107_b12, r107_p14, r107_c15, hO, rfl, rfl⟩)
        · rw [hO] at hF
          try dsimp only [optC] at hF
          refine nw_H (H' := [imm I, o0 r21_b2 r107_p1 r107.2.1.sure_ r107_c2 r107_b4 r107.2.1.off_ r107.2.1.armed_ r107.2.1.left_ r107.2.1.fall_.Keep r107.2.1.fall_.Tear r107.2.1.acts_ r107.2.1.falls_, o5 b28 r107_p6 r107.2.2.l_ r107_c7 r107.2.2.sure_ r107.2.2.boot_, own e_disk_sector 51 r107_p1 r107_c2 r107.2.1.sure_, mpo (kInt .i64) (fun x : disk_sector => Value.agg #[.string x.s_, i6 x.at_]) r107_b4 r107.2.1.wait_, own eStr 9 r107_p6 r107_c7 r107.2.2.l_, o6 b79 y75.Kind y75.Long y75.C y75.F.Keep y75.F.Tear, o1 b37 r21_b2 x54 x55, o3 b38 b37 x56 x57 x58 x59 p61 l60 c62 x64 x65, own eStr 9 p61 c62 l60] ++ F0) rfl (nw_ow ?_)
          refine ow_vals 1 (j := 6) [0, 3, 5, 6, 7, 8, 9] [(0, .slice p0 x0.length c0), (3, pP r21_b2), (5, pP b28), (6, .pointer none), (7, i6 x39), (8, pP b79), (9, .bool true)] rfl (by kernel_rfl) ?_
          refine ow_end rfl ?_
          refine ew_blk ?_
          cases hF
        rw [hO] at hF
        try dsimp only [optC] at hF
        refine nw_H (H' := [imm I, o0 r21_b2 r107_p9 r107.2.1.sure_ r107_c10 r107_b12 r107.2.1.off_ r107.2.1.armed_ r107.2.1.left_ r107.2.1.fall_.Keep r107.2.1.fall_.Tear r107.2.1.acts_ r107.2.1.falls_, o5 b28 r107_p14 r107.2.2.l_ r107_c15 r107.2.2.sure_ r107.2.2.boot_, o1 r107_b4 r21_b2 r107_s1.2.boot_ r107_s1.2.n_, o3 r107_b2 r107_b4 r107_s1.1.base_ r107_s1.1.size_ r107_s1.1.next_ r107_s1.1.last_ r107_p6 r107_s1.1.list_ r107_c7 r107_s1.1.sure_ r107_s1.1.dead_, own eStr 9 r107_p6 r107_c7 r107_s1.1.list_, own e_disk_sector 51 r107_p9 r107_c10 r107.2.1.sure_, mpo (kInt .i64) (fun x : disk_sector => Value.agg #[.string x.s_, i6 x.at_]) r107_b12 r107.2.1.wait_, own eStr 9 r107_p14 r107_c15 r107.2.2.l_, o6 b79 y75.Kind y75.Long y75.C y75.F.Keep y75.F.Tear, o1 b37 r21_b2 x54 x55, o3 b38 b37 x56 x57 x58 x59 p61 l60 c62 x64 x65, own eStr 9 p61 c62 l60] ++ F0) rfl (nw_ow ?_)
        refine ow_vals 1 (j := 6) [0, 3, 5, 6, 7, 8, 9] [(0, .slice p0 x0.length c0), (3, pP r21_b2), (5, pP b28), (6, pP r107_b2), (7, i6 x39), (8, pP b79), (9, .bool true)] rfl (by kernel_rfl) ?_
        refine ow_end rfl ?_
        refine ew_blk ?_
        have hR := Option.some.inj hF
        exact fun a w hf hs => ⟨true, r107.2.1.sure_, r107.2.1.wait_, r107.2.1.off_, r107.2.1.armed_, r107.2.1.left_, r107.2.1.fall_.Keep, r107.2.1.fall_.Tear, r107.2.1.acts_, r107.2.1.falls_, r107_s1.1.base_, r107_s1.1.size_, r107_s1.1.next_, r107_s1.1.last_, r107_s1.1.list_, r107_s1.1.sure_, r107_s1.1.dead_, r107_s1.2.boot_, r107_s1.2.n_, r107.2.2.l_, r107.2.2.sure_, r107.2.2.boot_, r107_b4, r107_b2, r107_p9, r107_c10, r107_b12, r107_p6, r107_c7, r107_p14, r107_c15, hR, hf.keep [0, 3, 5, 6, 7, 8, 9], sat_to [10, 10, 10, 0, 0, 2, 1, 0, 4, 1, 1, 0, 0] 3 rfl hs⟩
      refine cw_cond_f rfl rfl h106 ?_
      refine cw_seq ?_
      refine cw_region ?_
      refine ow_vals 1 (j := 1) [0, 3, 5, 6, 7, 8, 9, 43] [(0, .slice p0 x0.length c0), (3, pP r21_b2), (5, pP b28), (6, pP b38), (7, i6 x39), (8, pP b79), (9, .bool true), (43, .pointer (some ⟨b79, 1, none⟩))] rfl (by kernel_rfl) ?_
      refine ow_pw rfl (pw_quiet (v := i6 y75.Long) rfl rfl rfl rfl (q_load 1 rfl rfl rfl (by kernel_rfl)) (nw_ow ?_))
      refine ow_vals 1 (j := 3) [0, 3, 5, 6, 7, 8, 9, 45] [(0, .slice p0 x0.length c0), (3, pP r21_b2), (5, pP b28), (6, pP b38), (7, i6 x39), (8, pP b79), (9, .bool true), (45, .bool (decide (y75.Long ≥ 0)))] rfl (by kernel_rfl) ?_
      refine ow_end rfl ?_
      refine ew_then ?_
      rcases if_some hF with ⟨h118, hF⟩ | ⟨h118, hF⟩
      · refine cw_cond_t rfl rfl h118 ?_
        refine cw_region ?_
        refine ow_vals 2 (j := 2) [0, 3, 5, 6, 7, 8, 9, 46, 47] [(0, .slice p0 x0.length c0), (3, pP r21_b2), (5, pP b28), (6, pP b38), (7, i6 x39), (8, pP b79), (9, .bool true), (46, pP r21_b2), (47, .pointer (some ⟨b79, 1, none⟩))] rfl (by kernel_rfl) ?_
        refine ow_pw rfl (pw_quiet (v := i6 y75.Long) rfl rfl rfl rfl (q_load 1 rfl rfl rfl (by kernel_rfl)) (nw_ow ?_))
        refine ow_vals 1 (j := 4) [0, 3, 5, 6, 7, 8, 9, 46, 48, 49] [(0, .slice p0 x0.length c0), (3, pP r21_b2), (5, pP b28), (6, pP b38), (7, i6 x39), (8, pP b79), (9, .bool true), (46, pP r21_b2), (48, i6 y75.Long), (49, .pointer (some ⟨b79, 3, none⟩))] rfl (by kernel_rfl) ?_
        refine ow_pw rfl (pw_quiet (v := .agg #[.int .u64 y75.F.Keep, i6 y75.F.Tear]) rfl rfl rfl rfl (q_load 1 rfl rfl rfl (by kernel_rfl)) (nw_ow ?_))
        obtain ⟨r119, h120, hF⟩ := bind_some hF
        refine ow_pw rfl (pw_call (F := [o6 b79 y75.Kind y75.Long y75.C y75.F.Keep y75.F.Tear, o1 b37 r21_b2 x54 x55, o3 b38 b37 x56 x57 x58 x59 p61 l60 c62 x64 x65, o5 b28 p67 l66 c68 x70 x71, own eStr 9 p61 c62 l60, own eStr 9 p67 c68 l66] ++ F0) rfl rfl rfl rfl rfl rfl rfl (by kernel_rfl) (perm_of_pulls [0, 1, 4, 4] rfl) (c_disk_Disk_Arm _ y75.Long y75.F (⟨l40, l44, x47, x48, x49, (⟨x50, x51⟩ : disk_Fall), x52, x53⟩ : disk_Disk) p41 c42 b46 r21_b2 r119 h120) ?_)
        rintro _ _ ⟨r119_p1, r119_c2, r119_b4, rfl, rfl⟩
        refine nw_H (H' := [imm I, o0 r21_b2 r119_p1 r119.2.sure_ r119_c2 r119_b4 r119.2.off_ r119.2.armed_ r119.2.left_ r119.2.fall_.Keep r119.2.fall_.Tear r119.2.acts_ r119.2.falls_, own e_disk_sector 51 r119_p1 r119_c2 r119.2.sure_, mpo (kInt .i64) (fun x : disk_sector => Value.agg #[.string x.s_, i6 x.at_]) r119_b4 r119.2.wait_, o6 b79 y75.Kind y75.Long y75.C y75.F.Keep y75.F.Tear, o1 b37 r21_b2 x54 x55, o3 b38 b37 x56 x57 x58 x59 p61 l60 c62 x64 x65, o5 b28 p67 l66 c68 x70 x71, own eStr 9 p61 c62 l60, own eStr 9 p67 c68 l66] ++ F0) rfl (nw_ow ?_)
        refine ow_end rfl ?_
        refine ew_blk ?_
        have hR := Option.some.inj hF
        exact fun a w hf hs => ⟨true, r119.2.sure_, r119.2.wait_, r119.2.off_, r119.2.armed_, r119.2.left_, r119.2.fall_.Keep, r119.2.fall_.Tear, r119.2.acts_, r119.2.falls_, x56, x57, x58, x59, l60, x64, x65, x54, x55, l66, x70, x71, b37, b38, r119_p1, r119_c2, r119_b4, p61, c62, p67, c68, hR, hf.keep [0, 3, 5, 6, 7, 8, 9], sat_to [0, 0, 4, 3, 3, 2, 0, 0, 0, 0] 0 rfl hs⟩
      refine cw_cond_f rfl rfl h118 ?_
      refine cw_skip ?_
      refine ew_blk ?_
      have hR := Option.some.inj hF
      exact fun a w hf hs => ⟨true, l40, l44, x47, x48, x49, x50, x51, x52, x53, x56, x57, x58, x59, l60, x64, x65, x54, x55, l66, x70, x71, b37, b38, p41, c42, b46, p61, c62, p67, c68, hR, hf.keep [0, 3, 5, 6, 7, 8, 9], sat_to [0, 1, 2, 1, 1, 0, 0, 0, 0, 0] 0 rfl hs⟩
    rintro a w ⟨x125, l126, l130, x133, x134, x135, x136, x137, x138, x139, x140, x141, x142, x143, l144, x148, x149, x150, x151, l152, x156, x157, b123, b124, p127, c128, b132, p145, c146, p153, c154, hv, hf, hs⟩
    subst hv
    replace hF := hK81
    clear hK81
    try dsimp only at hF
    revert a w
    show CW _ _ _ 121 [(0, .slice p0 x0.length c0), (3, pP r21_b2), (5, pP b28), (6, pP b124), (7, i6 x39), (8, pP b79), (9, .bool x125)] (SAT w0 ([imm I, o0 r21_b2 p127 l126 c128 b132 x133 x134 x135 x136 x137 x138 x139, o3 b124 b123 x140 x141 x142 x143 p145 l144 c146 x148 x149, o1 b123 r21_b2 x150 x151, o5 b28 p153 l152 c154 x156 x157, o6 b79 y75.Kind y75.Long y75.C y75.F.Keep y75.F.Tear, own e_disk_sector 51 p127 c128 l126, mpo (kInt .i64) (fun x : disk_sector => Value.agg #[.string x.s_, i6 x.at_]) b132 l130, own eStr 9 p145 c146 l144, own eStr 9 p153 c154 l152] ++ F0))
    unfold F.law12_JournalPlays.r5 at hF
    obtain ⟨v158, hF, hK158⟩ := bind_some hF
    refine cw_mid (fun a w => ∃ (x192 : Bool), ∃ (l193 : List disk_sector), ∃ (l197 : List (Int × disk_sector)), ∃ (x200 : Bool), ∃ (x201 : Bool), ∃ (x202 : Int), ∃ (x203 : Int), ∃ (x204 : Int), ∃ (x205 : Int), ∃ (x206 : Int), ∃ (l207 : List ByteArray), ∃ (x211 : Int), ∃ (x212 : Int), ∃ (x213 : Int), ∃ (x214 : Int), ∃ (x215 : Int), ∃ (x216 : Int), ∃ (x217 : Int), ∃ (x218 : Int), ∃ (l219 : List ByteArray), ∃ (x223 : Int), ∃ (x224 : Bool), ∃ (b190 : Nat), ∃ (b191 : Nat), ∃ (p194 : Option Addr), ∃ (c195 : Nat), ∃ (b199 : Nat), ∃ (p208 : Option Addr), ∃ (c209 : Nat), ∃ (p220 : Option Addr), ∃ (c221 : Nat), (x192, l193, l197, x200, x201, x202, x203, x204, x205, x206, l207, x211, x212, x213, x214, x215, x216, x217, x218, l219, x223, x224) = v158 ∧ Fr 121 [(0, .slice p0 x0.length c0), (3, pP r21_b2), (5, pP b28), (6, pP b191), (7, i6 x39), (9, .bool x192)] a ∧ SAT w0 ([imm I, o0 r21_b2 p194 l193 c195 b199 x200 x201 x202 x203 x204 x205 x206, o5 b28 p208 l207 c209 x211 x212, o1 b190 r21_b2 x213 x214, o3 b191 b190 x215 x216 x217 x218 p220 l219 c221 x223 x224, o6 b79 y75.Kind y75.Long y75.C y75.F.Keep y75.F.Tear, own e_disk_sector 51 p194 c195 l193, mpo (kInt .i64) (fun x : disk_sector => Value.agg #[.string x.s_, i6 x.at_]) b199 l197, own eStr 9 p208 c209 l207, own eStr 9 p220 c221 l219] ++ F0) w) ?_ ?_
    · obtain ⟨v159, hF, hK159⟩ := bind_some hF
      refine cw_mid (fun a w => ∃ (x163 : Bool), ∃ (x164 : Bool), ∃ (l165 : List disk_sector), ∃ (l169 : List (Int × disk_sector)), ∃ (x171 : Bool), ∃ (x172 : Bool), ∃ (x173 : Int), ∃ (x174 : Int), ∃ (x175 : Int), ∃ (x176 : Int), ∃ (x177 : Int), ∃ (p166 : Option Addr), ∃ (c167 : Nat), (x163, x164, l165, l169, x171, x172, x173, x174, x175, x176, x177) = v159 ∧ Fr 121 [(0, .slice p0 x0.length c0), (3, pP r21_b2), (5, pP b28), (6, pP b124), (7, i6 x39), (8, pP b79), (9, .bool x163), (102, .bool x164)] a ∧ SAT w0 ([imm I, o0 r21_b2 p166 l165 c167 b132 x171 x172 x173 x174 x175 x176 x177, o3 b124 b123 x140 x141 x142 x143 p145 l144 c146 x148 x149, o1 b123 r21_b2 x150 x151, o5 b28 p153 l152 c154 x156 x157, o6 b79 y75.Kind y75.Long y75.C y75.F.Keep y75.F.Tear, own e_disk_sector 51 p166 c167 l165, mpo (kInt .i64) (fun x : disk_sector => Value.agg #[.string x.s_, i6 x.at_]) b132 l169, own eStr 9 p145 c146 l144, own eStr 9 p153 c154 l152] ++ F0) w) ?_ ?_
      · refine cw_region ?_
        refine ow_vals 2 (j := 2) [0, 3, 5, 6, 7, 8, 9, 94] [(0, .slice p0 x0.length c0), (3, pP r21_b2), (5, pP b28), (6, pP b124), (7, i6 x39), (8, pP b79), (9, .bool x125), (94, .bool x125)] rfl (by kernel_rfl) ?_
        rcases if_some hF with ⟨h160, hF⟩ | ⟨h160, hF⟩
        · refine ow_slots (L' := [(0, .slice p0 x0.length c0), (3, pP r21_b2), (5, pP b28), (6, pP b124), (7, i6 x39), (8, pP b79), (9, .bool true), (94, .bool true)]) (by rw [h160]) ?_
          refine ow_vals 5 (j := 7) [0, 3, 5, 6, 7, 8, 9, 98, 99] [(0, .slice p0 x0.length c0), (3, pP r21_b2), (5, pP b28), (6, pP b124), (7, i6 x39), (8, pP b79), (9, .bool true), (98, .bool true), (99, pP r21_b2)] rfl (by kernel_rfl) ?_
          obtain ⟨r161, h162, hF⟩ := bind_some hF
          refine ow_pw rfl (pw_call (F := [o3 b124 b123 x140 x141 x142 x143 p145 l144 c146 x148 x149, o1 b123 r21_b2 x150 x151, o5 b28 p153 l152 c154 x156 x157, o6 b79 y75.Kind y75.Long y75.C y75.F.Keep y75.F.Tear, own eStr 9 p145 c146 l144, own eStr 9 p153 c154 l152] ++ F0) rfl rfl rfl rfl rfl rfl rfl (by kernel_rfl) (perm_of_pulls [0, 0, 4, 4] rfl) (c_disk_Disk_Up _ (⟨l126, l130, x133, x134, x135, (⟨x136, x137⟩ : disk_Fall), x138, x139⟩ : disk_Disk) p127 c128 b132 r21_b2 r161 h162) ?_)
          rintro _ _ ⟨rfl, rfl⟩
          refine nw_H (H' := [imm I, o0 r21_b2 p127 ((⟨l126, l130, x133, x134, x135, (⟨x136, x137⟩ : disk_Fall), x138, x139⟩ : disk_Disk).sure_) c128 b132 ((⟨l126, l130, x133, x134, x135, (⟨x136, x137⟩ : disk_Fall), x138, x139⟩ : disk_Disk).off_) ((⟨l126, l130, x133, x134, x135, (⟨x136, x137⟩ : disk_Fall), x138, x139⟩ : disk_Disk).armed_) ((⟨l126, l130, x133, x134, x135, (⟨x136, x137⟩ : disk_Fall), x138, x139⟩ : disk_Disk).left_) ((⟨l126, l130, x133, x134, x135, (⟨x136, x137⟩ : disk_Fall), x138, x139⟩ : disk_Disk).fall_.Keep) ((⟨l126, l130, x133, x134, x135, (⟨x136, x137⟩ : disk_Fall), x138, x139⟩ : disk_Disk).fall_.Tear) ((⟨l126, l130, x133, x134, x135, (⟨x136, x137⟩ : disk_Fall), x138, x139⟩ : disk_Disk).acts_) ((⟨l126, l130, x133, x134, x135, (⟨x136, x137⟩ : disk_Fall), x138, x139⟩ : disk_Disk).falls_), own e_disk_sector 51 p127 c128 ((⟨l126, l130, x133, x134, x135, (⟨x136, x137⟩ : disk_Fall), x138, x139⟩ : disk_Disk).sure_), mpo (kInt .i64) (fun x : disk_sector => Value.agg #[.string x.s_, i6 x.at_]) b132 ((⟨l126, l130, x133, x134, x135, (⟨x136, x137⟩ : disk_Fall), x138, x139⟩ : disk_Disk).wait_), o3 b124 b123 x140 x141 x142 x143 p145 l144 c146 x148 x149, o1 b123 r21_b2 x150 x151, o5 b28 p153 l152 c154 x156 x157, o6 b79 y75.Kind y75.Long y75.C y75.F.Keep y75.F.Tear, own eStr 9 p145 c146 l144, own eStr 9 p153 c154 l152] ++ F0) rfl (nw_ow ?_)
          refine ow_vals 2 (j := 10) [0, 3, 5, 6, 7, 8, 9, 102] [(0, .slice p0 x0.length c0), (3, pP r21_b2), (5, pP b28), (6, pP b124), (7, i6 x39), (8, pP b79), (9, .bool true), (102, .bool (!r161))] rfl (by kernel_rfl) ?_
          refine ow_end rfl ?_
          have hR := Option.some.inj hF
          exact fun a w hf hs => ⟨true, !r161, (⟨l126, l130, x133, x134, x135, (⟨x136, x137⟩ : disk_Fall), x138, x139⟩ : disk_Disk).sure_, (⟨l126, l130, x133, x134, x135, (⟨x136, x137⟩ : disk_Fall), x138, x139⟩ : disk_Disk).wait_, (⟨l126, l130, x133, x134, x135, (⟨x136, x137⟩ : disk_Fall), x138, x139⟩ : disk_Disk).off_, (⟨l126, l130, x133, x134, x135, (⟨x136, x137⟩ : disk_Fall), x138, x139⟩ : disk_Disk).armed_, (⟨l126, l130, x133, x134, x135, (⟨x136, x137⟩ : disk_Fall), x138, x139⟩ : disk_Disk).left_, (⟨l126, l130, x133, x134, x135, (⟨x136, x137⟩ : disk_Fall), x138, x139⟩ : disk_Disk).fall_.Keep, (⟨l126, l130, x133, x134, x135, (⟨x136, x137⟩ : disk_Fall), x138, x139⟩ : disk_Disk).fall_.Tear, (⟨l126, l130, x133, x134, x135, (⟨x136, x137⟩ : disk_Fall), x138, x139⟩ : disk_Disk).acts_, (⟨l126, l130, x133, x134, x135, (⟨x136, x137⟩ : disk_Fall), x138, x139⟩ : disk_Disk).falls_, p127, c128, hR, hf.keep [0, 3, 5, 6, 7, 8, 9, 102], sat_to [0, 0, 2, 2, 2, 2, 0, 0, 0, 0] 0 rfl hs⟩
        refine ow_slots (L' := [(0, .slice p0 x0.length c0), (3, pP r21_b2), (5, pP b28), (6, pP b124), (7, i6 x39), (8, pP b79), (9, .bool false), (94, .bool false)]) (by rw [h160]) ?_
        refine ow_vals 8 (j := 10) [0, 3, 5, 6, 7, 8, 9, 102] [(0, .slice p0 x0.length c0), (3, pP r21_b2), (5, pP b28), (6, pP b124), (7, i6 x39), (8, pP b79), (9, .bool false), (102, .bool false)] rfl (by kernel_rfl) ?_
        refine ow_end rfl ?_
        have hR := Option.some.inj hF
        exact fun a w hf hs => ⟨false, false, l126, l130, x133, x134, x135, x136, x137, x138, x139, p127, c128, hR, hf.keep [0, 3, 5, 6, 7, 8, 9, 102], sat_to [0, 0, 0, 0, 0, 0, 0, 0, 0, 0] 0 rfl hs⟩
      rintro a w ⟨x163, x164, l165, l169, x171, x172, x173, x174, x175, x176, x177, p166, c167, hv, hf, hs⟩
      subst hv
      replace hF := hK159
      clear hK159
      try dsimp only at hF
      revert a w
      show CW _ _ _ 121 [(0, .slice p0 x0.length c0), (3, pP r21_b2), (5, pP b28), (6, pP b124), (7, i6 x39), (8, pP b79), (9, .bool x163), (102, .bool x164)] (SAT w0 ([imm I, o0 r21_b2 p166 l165 c167 b132 x171 x172 x173 x174 x175 x176 x177, o3 b124 b123 x140 x141 x142 x143 p145 l144 c146 x148 x149, o1 b123 r21_b2 x150 x151, o5 b28 p153 l152 c154 x156 x157, o6 b79 y75.Kind y75.Long y75.C y75.F.Keep y75.F.Tear, own e_disk_sector 51 p166 c167 l165, mpo (kInt .i64) (fun x : disk_sector => Value.agg #[.string x.s_, i6 x.at_]) b132 l169, own eStr 9 p145 c146 l144, own eStr 9 p153 c154 l152] ++ F0))
      unfold F.law12_JournalPlays.r6 at hF
      rcases if_some hF with ⟨h178, hF⟩ | ⟨h178, hF⟩
      · refine cw_cond_t rfl rfl h178 ?_
        refine cw_region ?_
        refine ow_vals 3 (j := 3) [0, 3, 5, 7, 9, 103, 104, 105] [(0, .slice p0 x0.length c0), (3, pP r21_b2), (5, pP b28), (7, i6 x39), (9, .bool x163), (103, pP r21_b2), (104, pP b28), (105, .pointer (some ⟨b79, 3, none⟩))] rfl (by kernel_rfl) ?_
        refine ow_pw rfl (pw_quiet (v := .agg #[.int .u64 y75.F.Keep, i6 y75.F.Tear]) rfl rfl rfl rfl (q_load 5 rfl rfl rfl (by kernel_rfl)) (nw_ow ?_))
        obtain ⟨r179, h180, hF⟩ := bind_some hF
        refine ow_pw rfl (pw_call (F := [o3 b124 b123 x140 x141 x142 x143 p145 l144 c146 x148 x149, o1 b123 r21_b2 x150 x151, o6 b79 y75.Kind y75.Long y75.C y75.F.Keep y75.F.Tear, own eStr 9 p145 c146 l144] ++ F0) rfl rfl rfl rfl rfl rfl rfl (by kernel_rfl) (perm_of_pulls [0, 0, 2, 3, 3, 4] rfl) (c_law12_again _ y75.F (⟨l165, l169, x171, x172, x173, (⟨x174, x175⟩ : disk_Fall), x176, x177⟩ : disk_Disk) (⟨l152, x156, x157⟩ : law12_plain) p166 c167 b132 r21_b2 p153 c154 b28 r179 h180) ?_)
        rintro _ _ (⟨r179_p1, r179_c2, r179_b4, r179_p6, r179_c7, hO, rfl, rfl⟩ | ⟨r179_s1, r179_b2, r179_b4, r179_p6, r179_c7, r179_p9, r179_c10, r179_b12, r179_p14, r179_c15, hO, rfl, rfl⟩)
        · rw [hO] at hF
          try dsimp only [optC] at hF
          refine nw_H (H' := [imm I, o0 r21_b2 r179_p1 r179.2.1.sure_ r179_c2 r179_b4 r179.2.1.off_ r179.2.1.armed_ r179.2.1.left_ r179.2.1.fall_.Keep r179.2.1.fall_.Tear r179.2.1.acts_ r179.2.1.falls_, o5 b28 r179_p6 r179.2.2.l_ r179_c7 r179.2.2.sure_ r179.2.2.boot_, own e_disk_sector 51 r179_p1 r179_c2 r179.2.1.sure_, mpo (kInt .i64) (fun x : disk_sector => Value.agg #[.string x.s_, i6 x.at_]) r179_b4 r179.2.1.wait_, own eStr 9 r179_p6 r179_c7 r179.2.2.l_, o3 b124 b123 x140 x141 x142 x143 p145 l144 c146 x148 x149, o1 b123 r21_b2 x150 x151, o6 b79 y75.Kind y75.Long y75.C y75.F.Keep y75.F.Tear, own eStr 9 p145 c146 l144] ++ F0) rfl (nw_ow ?_)
          refine ow_vals 1 (j := 6) [0, 3, 5, 6, 7, 9] [(0, .slice p0 x0.length c0), (3, pP r21_b2), (5, pP b28), (6, .pointer none), (7, i6 x39), (9, .bool x163)] rfl (by kernel_rfl) ?_
          refine ow_end rfl ?_
          cases hF
        rw [hO] at hF
        try dsimp only [optC] at hF
        refine nw_H (H' := [imm I, o0 r21_b2 r179_p9 r179.2.1.sure_ r179_c10 r179_b12 r179.2.1.off_ r179.2.1.armed_ r179.2.1.left_ r179.2.1.fall_.Keep r179.2.1.fall_.Tear r179.2.1.acts_ r179.2.1.falls_, o5 b28 r179_p14 r179.2.2.l_ r179_c15 r179.2.2.sure_ r179.2.2.boot_, o1 r179_b4 r21_b2 r179_s1.2.boot_ r179_s1.2.n_, o3 r179_b2 r179_b4 r179_s1.1.base_ r179_s1.1.size_ r179_s1.1.next_ r179_s1.1.last_ r179_p6 r179_s1.1.list_ r179_c7 r179_s1.1.sure_ r179_s1.1.dead_, own eStr 9 r179_p6 r179_c7 r179_s1.1.list_, own e_disk_sector 51 r179_p9 r179_c10 r179.2.1.sure_, mpo (kInt .i64) (fun x : disk_sector => Value.agg #[.string x.s_, i6 x.at_]) r179_b12 r179.2.1.wait_, own eStr 9 r179_p14 r179_c15 r179.2.2.l_, o3 b124 b123 x140 x141 x142 x143 p145 l144 c146 x148 x149, o1 b123 r21_b2 x150 x151, o6 b79 y75.Kind y75.Long y75.C y75.F.Keep y75.F.Tear, own eStr 9 p145 c146 l144] ++ F0) rfl (nw_ow ?_)
        refine ow_vals 1 (j := 6) [0, 3, 5, 6, 7, 9] [(0, .slice p0 x0.length c0), (3, pP r21_b2), (5, pP b28), (6, pP r179_b2), (7, i6 x39), (9, .bool x163)] rfl (by kernel_rfl) ?_
        refine ow_end rfl ?_
        have hR := Option.some.inj hF
        exact fun a w hf hs => ⟨x163, r179.2.1.sure_, r179.2.1.wait_, r179.2.1.off_, r179.2.1.armed_, r179.2.1.left_, r179.2.1.fall_.Keep, r179.2.1.fall_.Tear, r179.2.1.acts_, r179.2.1.falls_, r179.2.2.l_, r179.2.2.sure_, r179.2.2.boot_, r179_s1.2.boot_, r179_s1.2.n_, r179_s1.1.base_, r179_s1.1.size_, r179_s1.1.next_, r179_s1.1.last_, r179_s1.1.list_, r179_s1.1.sure_, r179_s1.1.dead_, r179_b4, r179_b2, r179_p9, r179_c10, r179_b12, r179_p14, r179_c15, r179_p6, r179_c7, hR, hf.keep [0, 3, 5, 6, 7, 9], sat_to [9, 9, 10, 0, 0, 0, 0, 0, 4, 1, 1, 1, 0] 3 rfl hs⟩
      refine cw_cond_f rfl rfl h178 ?_
      refine cw_skip ?_
      have hR := Option.some.inj hF
      exact fun a w hf hs => ⟨x163, l165, l169, x171, x172, x173, x174, x175, x176, x177, l152, x156, x157, x150, x151, x140, x141, x142, x143, l144, x148, x149, b123, b124, p166, c167, b132, p153, c154, p145, c146, hR, hf.keep [0, 3, 5, 6, 7, 9], sat_to [0, 0, 2, 1, 0, 0, 0, 0, 1, 0] 0 rfl hs⟩
    rintro a w ⟨x192, l193, l197, x200, x201, x202, x203, x204, x205, x206, l207, x211, x212, x213, x214, x215, x216, x217, x218, l219, x223, x224, b190, b191, p194, c195, b199, p208, c209, p220, c221, hv, hf, hs⟩
    subst hv
    replace hF := hK158
    clear hK158
    try dsimp only at hF
    revert a w
    show CW _ _ _ 121 [(0, .slice p0 x0.length c0), (3, pP r21_b2), (5, pP b28), (6, pP b191), (7, i6 x39), (9, .bool x192)] (SAT w0 ([imm I, o0 r21_b2 p194 l193 c195 b199 x200 x201 x202 x203 x204 x205 x206, o5 b28 p208 l207 c209 x211 x212, o1 b190 r21_b2 x213 x214, o3 b191 b190 x215 x216 x217 x218 p220 l219 c221 x223 x224, o6 b79 y75.Kind y75.Long y75.C y75.F.Keep y75.F.Tear, own e_disk_sector 51 p194 c195 l193, mpo (kInt .i64) (fun x : disk_sector => Value.agg #[.string x.s_, i6 x.at_]) b199 l197, own eStr 9 p208 c209 l207, own eStr 9 p220 c221 l219] ++ F0))
    unfold F.law12_JournalPlays.r7 at hF
    refine cw_seq ?_
    refine cw_region ?_
    refine ow_vals 3 (j := 3) [0, 3, 5, 6, 7, 110] [(0, .slice p0 x0.length c0), (3, pP r21_b2), (5, pP b28), (6, pP b191), (7, i6 x39), (110, .bool (!x192))] rfl (by kernel_rfl) ?_
    rcases if_some hF with ⟨h225, hF⟩ | ⟨h225, hF⟩
    · refine ow_slots (L' := [(0, .slice p0 x0.length c0), (3, pP r21_b2), (5, pP b28), (6, pP b191), (7, i6 x39), (110, .bool true)]) (by rw [h225]) ?_
      refine ow_vals 9 (j := 12) [0, 3, 5, 6, 7, 119] [(0, .slice p0 x0.length c0), (3, pP r21_b2), (5, pP b28), (6, pP b191), (7, i6 x39), (119, .bool true)] rfl (by kernel_rfl) ?_
      refine ow_end rfl ?_
      refine ew_then ?_
      refine cw_cond_t rfl rfl rfl ?_
      refine cw_seq ?_
      refine cw_region ?_
      refine ow_vals 1 (j := 1) [2] [(2, .bool false)] rfl (by kernel_rfl) ?_
      refine ow_end rfl ?_
      refine ew_then ?_
      refine cw_ret ?_
      refine ew_blk_ret ?_
      refine ew_then_ret ?_
      refine ew_then_ret ?_
      refine ew_blk_ret ?_
      refine ew_then_ret ?_
      have hR := Option.some.inj hF
      subst hR
      have hR := hL36
      try dsimp only at hR
      subst hR
      have hR := hK35
      try dsimp only [Thru] at hR
      subst hR
      exact fin1 (H1 := [imm I]) (fun w hs => sat_to [1, 1, 1, 1, 1, 1, 1, 1, 1, 0] 9 rfl hs) rfl (rr_tmp rfl) ⟨rfl, rfl⟩
    refine ow_slots (L' := [(0, .slice p0 x0.length c0), (3, pP r21_b2), (5, pP b28), (6, pP b191), (7, i6 x39), (110, .bool false)]) (by rw [h225]) ?_
    refine ow_vals 6 (j := 9) [0, 3, 5, 6, 7, 114, 115, 116] [(0, .slice p0 x0.length c0), (3, pP r21_b2), (5, pP b28), (6, pP b191), (7, i6 x39), (114, .bool false), (115, pP b191), (116, pP b28)] rfl (by kernel_rfl) ?_
    obtain ⟨r226, h227, hF⟩ := bind_some hF
    refine ow_pw rfl (pw_call (F := [o6 b79 y75.Kind y75.Long y75.C y75.F.Keep y75.F.Tear] ++ F0) rfl rfl rfl rfl rfl rfl rfl (by kernel_rfl) (perm_of_pulls [0, 3, 2, 0, 0, 4, 1, 1, 1] rfl) (c_law12_holds _ (⟨x215, x216, x217, x218, l219, x223, x224⟩ : journal_Journal) (⟨x213, x214⟩ : guard_Guard) (⟨l193, l197, x200, x201, x202, (⟨x203, x204⟩ : disk_Fall), x205, x206⟩ : disk_Disk) (⟨l207, x211, x212⟩ : law12_plain) p220 c221 b191 b190 p194 c195 b199 r21_b2 p208 c209 b28 r226 h227) ?_)
    rintro _ _ ⟨rfl, rfl⟩
    refine nw_H (H' := [imm I, o3 b191 b190 ((⟨x215, x216, x217, x218, l219, x223, x224⟩ : journal_Journal).base_) ((⟨x215, x216, x217, x218, l219, x223, x224⟩ : journal_Journal).size_) ((⟨x215, x216, x217, x218, l219, x223, x224⟩ : journal_Journal).next_) ((⟨x215, x216, x217, x218, l219, x223, x224⟩ : journal_Journal).last_) p220 ((⟨x215, x216, x217, x218, l219, x223, x224⟩ : journal_Journal).list_) c221 ((⟨x215, x216, x217, x218, l219, x223, x224⟩ : journal_Journal).sure_) ((⟨x215, x216, x217, x218, l219, x223, x224⟩ : journal_Journal).dead_), o1 b190 r21_b2 ((⟨x213, x214⟩ : guard_Guard).boot_) ((⟨x213, x214⟩ : guard_Guard).n_), o0 r21_b2 p194 ((⟨l193, l197, x200, x201, x202, (⟨x203, x204⟩ : disk_Fall), x205, x206⟩ : disk_Disk).sure_) c195 b199 ((⟨l193, l197, x200, x201, x202, (⟨x203, x204⟩ : disk_Fall), x205, x206⟩ : disk_Disk).off_) ((⟨l193, l197, x200, x201, x202, (⟨x203, x204⟩ : disk_Fall), x205, x206⟩ : disk_Disk).armed_) ((⟨l193, l197, x200, x201, x202, (⟨x203, x204⟩ : disk_Fall), x205, x206⟩ : disk_Disk).left_) ((⟨l193, l197, x200, x201, x202, (⟨x203, x204⟩ : disk_Fall), x205, x206⟩ : disk_Disk).fall_.Keep) ((⟨l193, l197, x200, x201, x202, (⟨x203, x204⟩ : disk_Fall), x205, x206⟩ : disk_Disk).fall_.Tear) ((⟨l193, l197, x200, x201, x202, (⟨x203, x204⟩ : disk_Fall), x205, x206⟩ : disk_Disk).acts_) ((⟨l193, l197, x200, x201, x202, (⟨x203, x204⟩ : disk_Fall), x205, x206⟩ : disk_Disk).falls_), o5 b28 p208 ((⟨l207, x211, x212⟩ : law12_plain).l_) c209 ((⟨l207, x211, x212⟩ : law12_plain).sure_) ((⟨l207, x211, x212⟩ : law12_plain).boot_), own eStr 9 p220 c221 ((⟨x215, x216, x217, x218, l219, x223, x224⟩ : journal_Journal).list_), own e_disk_sector 51 p194 c195 ((⟨l193, l197, x200, x201, x202, (⟨x203, x204⟩ : disk_Fall), x205, x206⟩ : disk_Disk).sure_), mpo (kInt .i64) (fun x : disk_sector => Value.agg #[.string x.s_, i6 x.at_]) b199 ((⟨l193, l197, x200, x201, x202, (⟨x203, x204⟩ : disk_Fall), x205, x206⟩ : disk_Disk).wait_), own eStr 9 p208 c209 ((⟨l207, x211, x212⟩ : law12_plain).l_), o6 b79 y75.Kind y75.Long y75.C y75.F.Keep y75.F.Tear] ++ F0) rfl (nw_ow ?_)
    refine ow_vals 2 (j := 12) [0, 3, 5, 6, 7, 119] [(0, .slice p0 x0.length c0), (3, pP r21_b2), (5, pP b28), (6, pP b191), (7, i6 x39), (119, .bool (!r226))] rfl (by kernel_rfl) ?_
    refine ow_end rfl ?_
    refine ew_then ?_
    rcases if_some hF with ⟨h228, hF⟩ | ⟨h228, hF⟩
    · refine cw_cond_t rfl rfl h228 ?_
      refine cw_seq ?_
      refine cw_region ?_
      refine ow_vals 1 (j := 1) [2] [(2, .bool false)] rfl (by kernel_rfl) ?_
      refine ow_end rfl ?_
      refine ew_then ?_
      refine cw_ret ?_
      refine ew_blk_ret ?_
      refine ew_then_ret ?_
      refine ew_then_ret ?_
      refine ew_blk_ret ?_
      refine ew_then_ret ?_
      have hR := Option.some.inj hF
      subst hR
      have hR := hL36
      try dsimp only at hR
      subst hR
      have hR := hK35
      try dsimp only [Thru] at hR
      subst hR
      exact fin1 (H1 := [imm I]) (fun w hs => sat_to [1, 1, 1, 1, 1, 1, 1, 1, 1, 0] 9 rfl hs) rfl (rr_tmp rfl) ⟨rfl, rfl⟩
    refine cw_cond_f rfl rfl h228 ?_
    refine cw_skip ?_
    refine ew_blk ?_
    refine ew_then ?_
    refine cw_region ?_
    refine ow_vals 3 (j := 3) [0, 3, 5, 6, 7] [(0, .slice p0 x0.length c0), (3, pP r21_b2), (5, pP b28), (6, pP b191), (7, i6 (IntKind.i64.wrap (x39 + 1)))] rfl (by kernel_rfl) ?_
    refine ow_end rfl ?_
    have hR := Option.some.inj hF
    subst hR
    have hR := hL36
    try dsimp only at hR
    exact fun a w hf hs => ⟨k, Nat.lt_succ_self k, IntKind.i64.wrap (x39 + 1), (⟨l193, l197, x200, x201, x202, (⟨x203, x204⟩ : disk_Fall), x205, x206⟩ : disk_Disk).sure_, (⟨l193, l197, x200, x201, x202, (⟨x203, x204⟩ : disk_Fall), x205, x206⟩ : disk_Disk).wait_, (⟨l193, l197, x200, x201, x202, (⟨x203, x204⟩ : disk_Fall), x205, x206⟩ : disk_Disk).off_, (⟨l193, l197, x200, x201, x202, (⟨x203, x204⟩ : disk_Fall), x205, x206⟩ : disk_Disk).armed_, (⟨l193, l197, x200, x201, x202, (⟨x203, x204⟩ : disk_Fall), x205, x206⟩ : disk_Disk).left_, (⟨l193, l197, x200, x201, x202, (⟨x203, x204⟩ : disk_Fall), x205, x206⟩ : disk_Disk).fall_.Keep, (⟨l193, l197, x200, x201, x202, (⟨x203, x204⟩ : disk_Fall), x205, x206⟩ : disk_Disk).fall_.Tear, (⟨l193, l197, x200, x201, x202, (⟨x203, x204⟩ : disk_Fall), x205, x206⟩ : disk_Disk).acts_, (⟨l193, l197, x200, x201, x202, (⟨x203, x204⟩ : disk_Fall), x205, x206⟩ : disk_Disk).falls_, (⟨x213, x214⟩ : guard_Guard).boot_, (⟨x213, x214⟩ : guard_Guard).n_, (⟨x215, x216, x217, x218, l219, x223, x224⟩ : journal_Journal).base_, (⟨x215, x216, x217, x218, l219, x223, x224⟩ : journal_Journal).size_, (⟨x215, x216, x217, x218, l219, x223, x224⟩ : journal_Journal).next_, (⟨x215, x216, x217, x218, l219, x223, x224⟩ : journal_Journal).last_, (⟨x215, x216, x217, x218, l219, x223, x224⟩ : journal_Journal).list_, (⟨x215, x216, x217, x218, l219, x223, x224⟩ : journal_Journal).sure_, (⟨x215, x216, x217, x218, l219, x223, x224⟩ : journal_Journal).dead_, (⟨l207, x211, x212⟩ : law12_plain).l_, (⟨l207, x211, x212⟩ : law12_plain).sure_, (⟨l207, x211, x212⟩ : law12_plain).boot_, b190, b191, p194, c195, b199, p220, c221, p208, c209, hR, hf.keep [0, 3, 5, 6, 7], sat_to [9, 0, 2, 1, 0, 0, 1, 1, 0, 0] 1 rfl hs⟩
  rintro a w ⟨l231, l235, x238, x239, x240, x241, x242, x243, x244, x245, x246, x247, x248, x249, x250, l251, x255, x256, l257, x261, x262, b229, b230, p232, c233, b237, p252, c253, p258, c259, hv, hf, hs⟩
  subst hv
  replace hF := hK35
  clear hK35
  try dsimp only [Thru] at hF
  revert a w
  show CW _ _ _ 121 [] (SAT w0 ([imm I, o0 r21_b2 p232 l231 c233 b237 x238 x239 x240 x241 x242 x243 x244, o1 b229 r21_b2 x245 x246, o3 b230 b229 x247 x248 x249 x250 p252 l251 c253 x255 x256, o5 b28 p258 l257 c259 x261 x262, own e_disk_sector 51 p232 c233 l231, mpo (kInt .i64) (fun x : disk_sector => Value.agg #[.string x.s_, i6 x.at_]) b237 l235, own eStr 9 p252 c253 l251, own eStr 9 p258 c259 l257] ++ F0))
  unfold F.law12_JournalPlays.r9 at hF
  refine cw_seq ?_
  refine cw_region ?_
  obtain ⟨r263, h264, hF⟩ := bind_some hF
  refine ow_pw rfl (pw_call (F := [o0 r21_b2 p232 l231 c233 b237 x238 x239 x240 x241 x242 x243 x244, o1 b229 r21_b2 x245 x246, o3 b230 b229 x247 x248 x249 x250 p252 l251 c253 x255 x256, o5 b28 p258 l257 c259 x261 x262, own e_disk_sector 51 p232 c233 l231, mpo (kInt .i64) (fun x : disk_sector => Value.agg #[.string x.s_, i6 x.at_]) b237 l235, own eStr 9 p252 c253 l251, own eStr 9 p258 c259 l257] ++ F0) rfl rfl rfl rfl rfl rfl rfl (by kernel_rfl) (perm_of_pulls [0] rfl) (c_law12_awake _ r263 h264) ?_)
  rintro _ _ ⟨rfl, rfl⟩
  refine nw_H (H' := [imm I, o0 r21_b2 p232 l231 c233 b237 x238 x239 x240 x241 x242 x243 x244, o1 b229 r21_b2 x245 x246, o3 b230 b229 x247 x248 x249 x250 p252 l251 c253 x255 x256, o5 b28 p258 l257 c259 x261 x262, own e_disk_sector 51 p232 c233 l231, mpo (kInt .i64) (fun x : disk_sector => Value.agg #[.string x.s_, i6 x.at_]) b237 l235, own eStr 9 p252 c253 l251, own eStr 9 p258 c259 l257] ++ F0) rfl (nw_ow ?_)
  refine ow_vals 1 (j := 2) [2] [(2, .bool r263)] rfl (by kernel_rfl) ?_
  refine ow_end rfl ?_
  refine ew_then ?_
  refine cw_ret ?_
  have hR := Option.some.inj hF
  subst hR
  exact fin1 (H1 := [imm I]) (fun w hs => sat_to [1, 1, 1, 1, 1, 1, 1, 1, 0] 8 rfl hs) rfl (rr_tmp rfl) ⟨rfl, rfl⟩

end Go.Proofs.YtgbloaophfaaoaaGreatDoor
