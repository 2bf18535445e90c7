/- What the functions compute, and that the code computes it: printed by a program of this claim (wip/tools), for the group Plays. -/
import Derived.Test.YtgbloaophfaaoaaGreatDoorGPlays
namespace Go.Proofs.YtgbloaophfaaoaaGreatDoor
set_option linter.all false
open Go Go.RowKit Go.Fw
set_option linter.unusedVariables false

def F.journal_Open.r1 (x1 : Int) (x2 : Int) (m0 : guard_Guard) (m1 : disk_Disk) (x28 : Bool) : Option ((Unit) ⊕ ((Option journal_Journal) × Int)) :=
  if x28 then (some (.inr ((none, 1)))) else (Option.bind (F.guard_Guard_Disk m0 m1) (fun (r30 : Unit) => Option.bind (F.disk_Disk_Size m1) (fun (r32 : Int) => if decide (x1 > r32) then (some (.inr ((none, 5)))) else (Option.bind (F.guard_Guard_Disk m0 m1) (fun (r35 : Unit) => Option.bind (F.disk_Disk_Size m1) (fun (r37 : Int) => if decide (x2 > (IntKind.i64.wrap (r37 - x1))) then (some (.inr ((none, 5)))) else (some (.inl ()))))))))
def F.journal_Open.l3 (m0 : guard_Guard) (m1 : disk_Disk) (x44 : Int) (x45 : Int) (x46 : Int) (x47 : Int) (l48 : List ByteArray) (x52 : Int) (x53 : Bool) : Option ((Int × Int × Int × Int × (List ByteArray) × Int × Bool) ⊕ ((Int × Int × Int × Int × (List ByteArray) × Int × Bool) ⊕ ((Option journal_Journal) × Int))) :=
  Option.bind (F.journal_Journal_record_1 x46 x47 (⟨x44, x45, x46, x47, l48, x52, x53⟩ : journal_Journal) m0 m1) (fun (r54 : ByteArray × Int × Int × Int) => if r54.2.2.2 != 0 then (some (.inr (.inr ((none, r54.2.2.2))))) else (if r54.2.1 == 0 then (some (.inr (.inl ((⟨x44, x45, x46, x47, l48, x52, x53⟩ : journal_Journal).base_, (⟨x44, x45, x46, x47, l48, x52, x53⟩ : journal_Journal).size_, (⟨x44, x45, x46, x47, l48, x52, x53⟩ : journal_Journal).next_, (⟨x44, x45, x46, x47, l48, x52, x53⟩ : journal_Journal).last_, (⟨x44, x45, x46, x47, l48, x52, x53⟩ : journal_Journal).list_, (⟨x44, x45, x46, x47, l48, x52, x53⟩ : journal_Journal).sure_, (⟨x44, x45, x46, x47, l48, x52, x53⟩ : journal_Journal).dead_)))) else (chk (room (((⟨x44, x45, x46, x47, l48, x52, x53⟩ : journal_Journal).list_).length + ([r54.1] : List ByteArray).length) 16) (some (.inl ((⟨x44, x45, x46, x47, l48, x52, x53⟩ : journal_Journal).base_, (⟨x44, x45, x46, x47, l48, x52, x53⟩ : journal_Journal).size_, IntKind.i64.wrap (((⟨x44, x45, x46, x47, l48, x52, x53⟩ : journal_Journal).next_) + r54.2.1), r54.2.2.1, ((⟨x44, x45, x46, x47, l48, x52, x53⟩ : journal_Journal).list_) ++ ([r54.1] : List ByteArray), (⟨x44, x45, x46, x47, l48, x52, x53⟩ : journal_Journal).sure_, (⟨x44, x45, x46, x47, l48, x52, x53⟩ : journal_Journal).dead_))))))
def F.journal_Open.r4 (x67 : Int) (x68 : Int) (x69 : Int) (x70 : Int) (l71 : List ByteArray) (x75 : Int) (x76 : Bool) : Option ((Option journal_Journal) × Int) :=
  some ((some (⟨x67, x68, x69, x70, l71, (l71.length : Int), x76⟩ : journal_Journal), 0))
def F.journal_Open.r2 (x1 : Int) (x2 : Int) (x3 : Int) (m0 : guard_Guard) (m1 : disk_Disk) : Option ((Option journal_Journal) × Int) :=
  thru (iter (fun x => F.journal_Open.l3 m0 m1 x.1 x.2.1 x.2.2.1 x.2.2.2.1 x.2.2.2.2.1 x.2.2.2.2.2.1 x.2.2.2.2.2.2) FUEL (x1, x2, 0, x3, [], 0, false)) (fun x => F.journal_Open.r4 x.1 x.2.1 x.2.2.1 x.2.2.2.1 x.2.2.2.2.1 x.2.2.2.2.2.1 x.2.2.2.2.2.2)
def F.journal_Open (x1 : Int) (x2 : Int) (x3 : Int) (m0 : guard_Guard) (m1 : disk_Disk) : Option ((Option journal_Journal) × Int) :=
  thru (Option.bind (Option.bind (F.guard_Guard_Disk m0 m1) (fun (r23 : Unit) => if decide (x1 < 0) then (some (true)) else (if decide (x2 < 1) then (some (true)) else (if decide (x3 < 1) then (some (true)) else (some ((decide (x3 ≥ 4294967296)))))))) (fun x => F.journal_Open.r1 x1 x2 m0 m1 x)) (fun x => F.journal_Open.r2 x1 x2 x3 m0 m1)
set_option maxRecDepth 100000 in
set_option maxHeartbeats 4000000 in
theorem c_journal_Open (I : Hl) (x1 : Int) (x2 : Int) (x3 : Int) (m0 : guard_Guard) (m1 : disk_Disk) (b0 : Nat) (p0 : Option Addr) (c0 : Nat) (p1 : Nat) (b1 : Nat) (res : (Option journal_Journal) × Int) (hF : F.journal_Open x1 x2 x3 m0 m1 = some res) : Tr Tryz.prog 15 [pP b0, i6 x1, i6 x2, i6 x3] [imm I, o1 b0 b1 m0.boot_ m0.n_, o0 b1 p0 m1.sure_ c0 p1 m1.off_ m1.armed_ m1.left_ m1.fall_.Keep m1.fall_.Tear m1.acts_ m1.falls_, own e_disk_sector 51 p0 c0 m1.sure_, mpo (kInt .i64) (fun x : disk_sector => Value.agg #[.string x.s_, i6 x.at_]) p1 m1.wait_] (fun r H' => (res.1 = none ∧ r = .tuple #[.pointer none, i6 res.2] ∧ H' = [imm I, o1 b0 b1 m0.boot_ m0.n_, o0 b1 p0 m1.sure_ c0 p1 m1.off_ m1.armed_ m1.left_ m1.fall_.Keep m1.fall_.Tear m1.acts_ m1.falls_, own e_disk_sector 51 p0 c0 m1.sure_, mpo (kInt .i64) (fun x : disk_sector => Value.agg #[.string x.s_, i6 x.at_]) p1 m1.wait_]) ∨ (∃ (sq1 : journal_Journal), ∃ (bq2 : Nat), ∃ (pq4 : Option Addr), ∃ (cq5 : Nat), res.1 = some sq1 ∧ r = .tuple #[pP bq2, i6 0] ∧ H' = [imm I, o1 b0 b1 m0.boot_ m0.n_, o0 b1 p0 m1.sure_ c0 p1 m1.off_ m1.armed_ m1.left_ m1.fall_.Keep m1.fall_.Tear m1.acts_ m1.falls_, o3 bq2 b0 sq1.base_ sq1.size_ sq1.next_ sq1.last_ pq4 sq1.list_ cq5 sq1.sure_ sq1.dead_, own eStr 9 pq4 cq5 sq1.list_, own e_disk_sector 51 p0 c0 m1.sure_, mpo (kInt .i64) (fun x : disk_sector => Value.agg #[.string x.s_, i6 x.at_]) p1 m1.wait_])) := by
  unfold F.journal_Open at hF
  refine tr_of_cw (fn := Tryz.f15) Tryz.func15 rfl (Nat.le_of_ble_eq_true rfl) 108 rfl fun F0 w0 => ?_
  refine cw_keep [0, 1, 2, 3] (L' := [(0, pP b0), (1, i6 x1), (2, i6 x2), (3, i6 x3)]) rfl ?_
  refine cw_state (S' := SAT w0 ([imm I, o1 b0 b1 m0.boot_ m0.n_, o0 b1 p0 m1.sure_ c0 p1 m1.off_ m1.armed_ m1.left_ m1.fall_.Keep m1.fall_.Tear m1.acts_ m1.falls_, own e_disk_sector 51 p0 c0 m1.sure_, mpo (kInt .i64) (fun x : disk_sector => Value.agg #[.string x.s_, i6 x.at_]) p1 m1.wait_] ++ F0)) (fun w hs => hs) ?_
  refine cw_seq ?_
  refine cw_region ?_
  refine ow_vals 2 (j := 2) [0, 1, 2, 3] [(0, pP b0), (1, i6 x1), (2, i6 x2), (3, i6 x3)] rfl (by kernel_rfl) ?_
  refine ow_end rfl ?_
  refine ew_then ?_
  obtain ⟨v21, hF, hK21⟩ := thru_some hF
  refine cw_mid (fun a w => .inl () = v21 ∧ Fr 108 [(0, pP b0), (1, i6 x1), (2, i6 x2), (3, i6 x3)] a ∧ SAT w0 ([imm I, o0 b1 p0 m1.sure_ c0 p1 m1.off_ m1.armed_ m1.left_ m1.fall_.Keep m1.fall_.Tear m1.acts_ m1.falls_, o1 b0 b1 m0.boot_ m0.n_, own e_disk_sector 51 p0 c0 m1.sure_, mpo (kInt .i64) (fun x : disk_sector => Value.agg #[.string x.s_, i6 x.at_]) p1 m1.wait_] ++ F0) w) ?_ ?_
  · refine cw_block ?_
    obtain ⟨v22, hF, hK22⟩ := bind_some hF
    refine cw_mid (fun a w => ∃ (x28 : Bool), x28 = v22 ∧ Fr 108 [(0, pP b0), (1, i6 x1), (2, i6 x2), (3, i6 x3), (15, .bool x28)] a ∧ SAT w0 ([imm I, o1 b0 b1 m0.boot_ m0.n_, o0 b1 p0 m1.sure_ c0 p1 m1.off_ m1.armed_ m1.left_ m1.fall_.Keep m1.fall_.Tear m1.acts_ m1.falls_, own e_disk_sector 51 p0 c0 m1.sure_, mpo (kInt .i64) (fun x : disk_sector => Value.agg #[.string x.s_, i6 x.at_]) p1 m1.wait_] ++ F0) w) ?_ ?_
    · refine cw_region ?_
      refine ow_vals 1 (j := 1) [0, 1, 2, 3, 16] [(0, pP b0), (1, i6 x1), (2, i6 x2), (3, i6 x3), (16, pP b0)] rfl (by kernel_rfl) ?_
      obtain ⟨r23, h24, hF⟩ := bind_some hF
      refine ow_pw rfl (pw_call (F := [] ++ F0) rfl rfl rfl rfl rfl rfl rfl (by kernel_rfl) (perm_of_pulls [0, 0, 0, 0, 0] rfl) (c_guard_Guard_Disk _ m0 m1 b0 p0 c0 p1 b1 r23 h24) ?_)
      rintro _ _ ⟨rfl, rfl⟩
      refine nw_H (H' := [imm I, o1 b0 b1 m0.boot_ m0.n_, o0 b1 p0 m1.sure_ c0 p1 m1.off_ m1.armed_ m1.left_ m1.fall_.Keep m1.fall_.Tear m1.acts_ m1.falls_, own e_disk_sector 51 p0 c0 m1.sure_, mpo (kInt .i64) (fun x : disk_sector => Value.agg #[.string x.s_, i6 x.at_]) p1 m1.wait_] ++ F0) rfl (nw_ow ?_)
      refine ow_vals 6 (j := 8) [0, 1, 2, 3, 23] [(0, pP b0), (1, i6 x1), (2, i6 x2), (3, i6 x3), (23, .bool (decide (x1 < 0)))] rfl (by kernel_rfl) ?_
      rcases if_some hF with ⟨h25, hF⟩ | ⟨h25, hF⟩
      · refine ow_slots (L' := [(0, pP b0), (1, i6 x1), (2, i6 x2), (3, i6 x3), (23, .bool true)]) (by rw [h25]) ?_
        refine ow_vals 12 (j := 20) [0, 1, 2, 3, 15] [(0, pP b0), (1, i6 x1), (2, i6 x2), (3, i6 x3), (15, .bool true)] rfl (by kernel_rfl) ?_
        refine ow_end rfl ?_
        have hR := Option.some.inj hF
        exact fun a w hf hs => ⟨true, hR, hf.keep [0, 1, 2, 3, 15], sat_to [0, 0, 0, 0, 0] 0 rfl hs⟩
      refine ow_slots (L' := [(0, pP b0), (1, i6 x1), (2, i6 x2), (3, i6 x3), (23, .bool false)]) (by rw [h25]) ?_
      refine ow_vals 4 (j := 12) [0, 1, 2, 3, 27] [(0, pP b0), (1, i6 x1), (2, i6 x2), (3, i6 x3), (27, .bool (decide (x2 < 1)))] rfl (by kernel_rfl) ?_
      rcases if_some hF with ⟨h26, hF⟩ | ⟨h26, hF⟩
      · refine ow_slots (L' := [(0, pP b0), (1, i6 x1), (2, i6 x2), (3, i6 x3), (27, .bool true)]) (by rw [h26]) ?_
        refine ow_vals 8 (j := 20) [0, 1, 2, 3, 15] [(0, pP b0), (1, i6 x1), (2, i6 x2), (3, i6 x3), (15, .bool true)] rfl (by kernel_rfl) ?_
        refine ow_end rfl ?_
        have hR := Option.some.inj hF
        exact fun a w hf hs => ⟨true, hR, hf.keep [0, 1, 2, 3, 15], sat_to [0, 0, 0, 0, 0] 0 rfl hs⟩
      refine ow_slots (L' := [(0, pP b0), (1, i6 x1), (2, i6 x2), (3, i6 x3), (27, .bool false)]) (by rw [h26]) ?_
      refine ow_vals 4 (j := 16) [0, 1, 2, 3, 31] [(0, pP b0), (1, i6 x1), (2, i6 x2), (3, i6 x3), (31, .bool (decide (x3 < 1)))] rfl (by kernel_rfl) ?_
      rcases if_some hF with ⟨h27, hF⟩ | ⟨h27, hF⟩
      · refine ow_slots (L' := [(0, pP b0), (1, i6 x1), (2, i6 x2), (3, i6 x3), (31, .bool true)]) (by rw [h27]) ?_
        refine ow_vals 4 (j := 20) [0, 1, 2, 3, 15] [(0, pP b0), (1, i6 x1), (2, i6 x2), (3, i6 x3), (15, .bool true)] rfl (by kernel_rfl) ?_
        refine ow_end rfl ?_
        have hR := Option.some.inj hF
        exact fun a w hf hs => ⟨true, hR, hf.keep [0, 1, 2, 3, 15], sat_to [0, 0, 0, 0, 0] 0 rfl hs⟩
      refine ow_slots (L' := [(0, pP b0), (1, i6 x1), (2, i6 x2), (3, i6 x3), (31, .bool false)]) (by rw [h27]) ?_
      refine ow_vals 4 (j := 20) [0, 1, 2, 3, 15] [(0, pP b0), (1, i6 x1), (2, i6 x2), (3, i6 x3), (15, .bool (decide (x3 ≥ 4294967296)))] rfl (by kernel_rfl) ?_
      refine ow_end rfl ?_
      have hR := Option.some.inj hF
      exact fun a w hf hs => ⟨decide (x3 ≥ 4294967296), hR, hf.keep [0, 1, 2, 3, 15], sat_to [0, 0, 0, 0, 0] 0 rfl hs⟩
    rintro a w ⟨x28, hv, hf, hs⟩
    subst hv
    replace hF := hK22
    clear hK22
    try dsimp only at hF
    revert a w
    show CW _ _ _ 108 [(0, pP b0), (1, i6 x1), (2, i6 x2), (3, i6 x3), (15, .bool x28)] (SAT w0 ([imm I, o1 b0 b1 m0.boot_ m0.n_, o0 b1 p0 m1.sure_ c0 p1 m1.off_ m1.armed_ m1.left_ m1.fall_.Keep m1.fall_.Tear m1.acts_ m1.falls_, own e_disk_sector 51 p0 c0 m1.sure_, mpo (kInt .i64) (fun x : disk_sector => Value.agg #[.string x.s_, i6 x.at_]) p1 m1.wait_] ++ F0))
    unfold F.journal_Open.r1 at hF
    rcases if_some hF with ⟨h29, hF⟩ | ⟨h29, hF⟩
    · refine cw_cond_t rfl rfl h29 ?_
      refine cw_seq ?_
      refine cw_region ?_
      refine ow_vals 2 (j := 2) [8, 9] [(8, .pointer none), (9, i6 1)] rfl (by kernel_rfl) ?_
      refine ow_end rfl ?_
      refine ew_then ?_
      refine cw_ret ?_
      refine ew_blk_ret ?_
      refine ew_then_ret ?_
      have hR := Option.some.inj hF
      subst hR
      have hR := hK21
      try dsimp only [Thru] at hR
      subst hR
      exact fin2 (H1 := [imm I, o1 b0 b1 m0.boot_ m0.n_, o0 b1 p0 m1.sure_ c0 p1 m1.off_ m1.armed_ m1.left_ m1.fall_.Keep m1.fall_.Tear m1.acts_ m1.falls_, own e_disk_sector 51 p0 c0 m1.sure_, mpo (kInt .i64) (fun x : disk_sector => Value.agg #[.string x.s_, i6 x.at_]) p1 m1.wait_]) (fun w hs => sat_to [0, 0, 0, 0, 0] 0 rfl hs) rfl (rr_tmp rfl) (rr_tmp rfl) (.inl ⟨rfl, rfl, rfl⟩)
    refine cw_cond_f rfl rfl h29 ?_
    refine cw_seq ?_
    refine cw_region ?_
    refine ow_vals 2 (j := 2) [0, 1, 2, 3, 36, 37] [(0, pP b0), (1, i6 x1), (2, i6 x2), (3, i6 x3), (36, i6 x1), (37, pP b0)] rfl (by kernel_rfl) ?_
    obtain ⟨r30, h31, hF⟩ := bind_some hF
    refine ow_pw rfl (pw_call (F := [] ++ F0) rfl rfl rfl rfl rfl rfl rfl (by kernel_rfl) (perm_of_pulls [0, 0, 0, 0, 0] rfl) (c_guard_Guard_Disk _ m0 m1 b0 p0 c0 p1 b1 r30 h31) ?_)
    rintro _ _ ⟨rfl, rfl⟩
    refine nw_H (H' := [imm I, o1 b0 b1 m0.boot_ m0.n_, o0 b1 p0 m1.sure_ c0 p1 m1.off_ m1.armed_ m1.left_ m1.fall_.Keep m1.fall_.Tear m1.acts_ m1.falls_, own e_disk_sector 51 p0 c0 m1.sure_, mpo (kInt .i64) (fun x : disk_sector => Value.agg #[.string x.s_, i6 x.at_]) p1 m1.wait_] ++ F0) rfl (nw_ow ?_)
    obtain ⟨r32, h33, hF⟩ := bind_some hF
    refine ow_pw rfl (pw_call (F := [o1 b0 b1 m0.boot_ m0.n_] ++ F0) rfl rfl rfl rfl rfl rfl rfl (by kernel_rfl) (perm_of_pulls [0, 1, 1, 1] rfl) (c_disk_Disk_Size _ m1 p0 c0 p1 b1 r32 h33) ?_)
    rintro _ _ ⟨rfl, rfl⟩
    refine nw_H (H' := [imm I, o0 b1 p0 m1.sure_ c0 p1 m1.off_ m1.armed_ m1.left_ m1.fall_.Keep m1.fall_.Tear m1.acts_ m1.falls_, own e_disk_sector 51 p0 c0 m1.sure_, mpo (kInt .i64) (fun x : disk_sector => Value.agg #[.string x.s_, i6 x.at_]) p1 m1.wait_, o1 b0 b1 m0.boot_ m0.n_] ++ F0) rfl (nw_ow ?_)
    refine ow_vals 2 (j := 6) [0, 1, 2, 3, 41] [(0, pP b0), (1, i6 x1), (2, i6 x2), (3, i6 x3), (41, .bool (decide (x1 > r32)))] rfl (by kernel_rfl) ?_
    rcases if_some hF with ⟨h34, hF⟩ | ⟨h34, hF⟩
    · refine ow_slots (L' := [(0, pP b0), (1, i6 x1), (2, i6 x2), (3, i6 x3), (41, .bool true)]) (by rw [h34]) ?_
      refine ow_vals 9 (j := 15) [0, 1, 2, 3, 35] [(0, pP b0), (1, i6 x1), (2, i6 x2), (3, i6 x3), (35, .bool true)] rfl (by kernel_rfl) ?_
      refine ow_end rfl ?_
      refine ew_then ?_
      refine cw_cond_t rfl rfl rfl ?_
      refine cw_seq ?_
      refine cw_region ?_
      refine ow_vals 2 (j := 2) [8, 9] [(8, .pointer none), (9, i6 5)] rfl (by kernel_rfl) ?_
      refine ow_end rfl ?_
      refine ew_then ?_
      refine cw_ret ?_
      refine ew_blk_ret ?_
      refine ew_then_ret ?_
      have hR := Option.some.inj hF
      subst hR
      have hR := hK21
      try dsimp only [Thru] at hR
      subst hR
      exact fin2 (H1 := [imm I, o1 b0 b1 m0.boot_ m0.n_, o0 b1 p0 m1.sure_ c0 p1 m1.off_ m1.armed_ m1.left_ m1.fall_.Keep m1.fall_.Tear m1.acts_ m1.falls_, own e_disk_sector 51 p0 c0 m1.sure_, mpo (kInt .i64) (fun x : disk_sector => Value.agg #[.string x.s_, i6 x.at_]) p1 m1.wait_]) (fun w hs => sat_to [0, 3, 0, 0, 0] 0 rfl hs) rfl (rr_tmp rfl) (rr_tmp rfl) (.inl ⟨rfl, rfl, rfl⟩)
    refine ow_slots (L' := [(0, pP b0), (1, i6 x1), (2, i6 x2), (3, i6 x3), (41, .bool false)]) (by rw [h34]) ?_
    refine ow_vals 2 (j := 8) [0, 1, 2, 3, 41, 42, 43] [(0, pP b0), (1, i6 x1), (2, i6 x2), (3, i6 x3), (41, .bool false), (42, i6 x2), (43, pP b0)] rfl (by kernel_rfl) ?_
    obtain ⟨r35, h36, hF⟩ := bind_some hF
    refine ow_pw rfl (pw_call (F := [] ++ F0) rfl rfl rfl rfl rfl rfl rfl (by kernel_rfl) (perm_of_pulls [0, 3, 0, 0, 0] rfl) (c_guard_Guard_Disk _ m0 m1 b0 p0 c0 p1 b1 r35 h36) ?_)
    rintro _ _ ⟨rfl, rfl⟩
    refine nw_H (H' := [imm I, o1 b0 b1 m0.boot_ m0.n_, o0 b1 p0 m1.sure_ c0 p1 m1.off_ m1.armed_ m1.left_ m1.fall_.Keep m1.fall_.Tear m1.acts_ m1.falls_, own e_disk_sector 51 p0 c0 m1.sure_, mpo (kInt .i64) (fun x : disk_sector => Value.agg #[.string x.s_, i6 x.at_]) p1 m1.wait_] ++ F0) rfl (nw_ow ?_)
    obtain ⟨r37, h38, hF⟩ := bind_some hF
    refine ow_pw rfl (pw_call (F := [o1 b0 b1 m0.boot_ m0.n_] ++ F0) rfl rfl rfl rfl rfl rfl rfl (by kernel_rfl) (perm_of_pulls [0, 1, 1, 1] rfl) (c_disk_Disk_Size _ m1 p0 c0 p1 b1 r37 h38) ?_)
    rintro _ _ ⟨rfl, rfl⟩
    refine nw_H (H' := [imm I, o0 b1 p0 m1.sure_ c0 p1 m1.off_ m1.armed_ m1.left_ m1.fall_.Keep m1.fall_.Tear m1.acts_ m1.falls_, own e_disk_sector 51 p0 c0 m1.sure_, mpo (kInt .i64) (fun x : disk_sector => Value.agg #[.string x.s_, i6 x.at_]) p1 m1.wait_, o1 b0 b1 m0.boot_ m0.n_] ++ F0) rfl (nw_ow ?_)
    refine ow_vals 5 (j := 15) [0, 1, 2, 3, 35] [(0, pP b0), (1, i6 x1), (2, i6 x2), (3, i6 x3), (35, .bool (decide (x2 > (IntKind.i64.wrap (r37 - x1)))))] rfl (by kernel_rfl) ?_
    refine ow_end rfl ?_
    refine ew_then ?_
    rcases if_some hF with ⟨h39, hF⟩ | ⟨h39, hF⟩
    · refine cw_cond_t rfl rfl h39 ?_
      refine cw_seq ?_
      refine cw_region ?_
      refine ow_vals 2 (j := 2) [8, 9] [(8, .pointer none), (9, i6 5)] rfl (by kernel_rfl) ?_
      refine ow_end rfl ?_
      refine ew_then ?_
      refine cw_ret ?_
      refine ew_blk_ret ?_
      refine ew_then_ret ?_
      have hR := Option.some.inj hF
      subst hR
      have hR := hK21
      try dsimp only [Thru] at hR
      subst hR
      exact fin2 (H1 := [imm I, o1 b0 b1 m0.boot_ m0.n_, o0 b1 p0 m1.sure_ c0 p1 m1.off_ m1.armed_ m1.left_ m1.fall_.Keep m1.fall_.Tear m1.acts_ m1.falls_, own e_disk_sector 51 p0 c0 m1.sure_, mpo (kInt .i64) (fun x : disk_sector => Value.agg #[.string x.s_, i6 x.at_]) p1 m1.wait_]) (fun w hs => sat_to [0, 3, 0, 0, 0] 0 rfl hs) rfl (rr_tmp rfl) (rr_tmp rfl) (.inl ⟨rfl, rfl, rfl⟩)
    refine cw_cond_f rfl rfl h39 ?_
    refine cw_skip ?_
    refine ew_blk ?_
    have hR := Option.some.inj hF
    exact fun a w hf hs => ⟨hR, hf.keep [0, 1, 2, 3], sat_to [0, 0, 2, 0, 0] 0 rfl hs⟩
  rintro a w ⟨hv, hf, hs⟩
  subst hv
  replace hF := hK21
  clear hK21
  try dsimp only [Thru] at hF
  revert a w
  show CW _ _ _ 108 [(0, pP b0), (1, i6 x1), (2, i6 x2), (3, i6 x3)] (SAT w0 ([imm I, o0 b1 p0 m1.sure_ c0 p1 m1.off_ m1.armed_ m1.left_ m1.fall_.Keep m1.fall_.Tear m1.acts_ m1.falls_, o1 b0 b1 m0.boot_ m0.n_, own e_disk_sector 51 p0 c0 m1.sure_, mpo (kInt .i64) (fun x : disk_sector => Value.agg #[.string x.s_, i6 x.at_]) p1 m1.wait_] ++ F0))
  unfold F.journal_Open.r2 at hF
  refine cw_seq ?_
  refine cw_region ?_
  refine ow_vals 5 (j := 5) [54] [(54, .agg #[pP b0, i6 x1, i6 x2, i6 0, i6 x3, .slice none 0 0, i6 0, .bool false])] rfl (by kernel_rfl) ?_
  refine ow_pw rfl (pw_box (cs := #[pP b0, i6 x1, i6 x2, i6 0, i6 x3, .slice none 0 0, i6 0, .bool false]) rfl rfl rfl rfl rfl rfl fun b40 => nw_ow ?_)
  refine ow_vals 1 (j := 7) [10] [(10, pP b40)] rfl (by kernel_rfl) ?_
  refine ow_end rfl ?_
  refine ew_then ?_
  obtain ⟨v42, hF, hK42⟩ := thru_some hF
  refine cw_mid (fun a w => ∃ (x67 : Int), ∃ (x68 : Int), ∃ (x69 : Int), ∃ (x70 : Int), ∃ (l71 : List ByteArray), ∃ (x75 : Int), ∃ (x76 : Bool), ∃ (p72 : Option Addr), ∃ (c73 : Nat), .inl (x67, x68, x69, x70, l71, x75, x76) = v42 ∧ Fr 108 [(10, pP b40)] a ∧ SAT w0 ([imm I, o3 b40 b0 x67 x68 x69 x70 p72 l71 c73 x75 x76, o1 b0 b1 m0.boot_ m0.n_, o0 b1 p0 m1.sure_ c0 p1 m1.off_ m1.armed_ m1.left_ m1.fall_.Keep m1.fall_.Tear m1.acts_ m1.falls_, own eStr 9 p72 c73 l71, own e_disk_sector 51 p0 c0 m1.sure_, mpo (kInt .i64) (fun x : disk_sector => Value.agg #[.string x.s_, i6 x.at_]) p1 m1.wait_] ++ F0) w) ?_ ?_
  · refine cw_block ?_
    refine fun a w hf hs => wp_rounds (fun k a w => ∃ (x44 : Int), ∃ (x45 : Int), ∃ (x46 : Int), ∃ (x47 : Int), ∃ (l48 : List ByteArray), ∃ (x52 : Int), ∃ (x53 : Bool), ∃ (p49 : Option Addr), ∃ (c50 : Nat), iter (fun x => F.journal_Open.l3 m0 m1 x.1 x.2.1 x.2.2.1 x.2.2.2.1 x.2.2.2.2.1 x.2.2.2.2.2.1 x.2.2.2.2.2.2) k (x44, x45, x46, x47, l48, x52, x53) = some v42 ∧ Fr 108 [(10, pP b40)] a ∧ SAT w0 ([imm I, o3 b40 b0 x44 x45 x46 x47 p49 l48 c50 x52 x53, o0 b1 p0 m1.sure_ c0 p1 m1.off_ m1.armed_ m1.left_ m1.fall_.Keep m1.fall_.Tear m1.acts_ m1.falls_, o1 b0 b1 m0.boot_ m0.n_, own eStr 9 p49 c50 l48, own e_disk_sector 51 p0 c0 m1.sure_, mpo (kInt .i64) (fun x : disk_sector => Value.agg #[.string x.s_, i6 x.at_]) p1 m1.wait_] ++ F0) w) ?_ FUEL a w ⟨x1, x2, 0, x3, [], 0, false, none, 0, hF, hf.keep [10], sat_to [2, 1, 1, 1, 0, 0, 0] 0 rfl (sat_own_nil eStr 9 hs)⟩
    clear hf hs
    clear a w hF
    rintro k a w ⟨x44, x45, x46, x47, l48, x52, x53, p49, c50, hF2, hf, hs⟩
    obtain ⟨k, r43, rfl, hF, hL43⟩ := iter_some hF2
    clear hF2
    revert a w
    show CW _ _ _ 108 [(10, pP b40)] (SAT w0 ([imm I, o3 b40 b0 x44 x45 x46 x47 p49 l48 c50 x52 x53, o0 b1 p0 m1.sure_ c0 p1 m1.off_ m1.armed_ m1.left_ m1.fall_.Keep m1.fall_.Tear m1.acts_ m1.falls_, o1 b0 b1 m0.boot_ m0.n_, own eStr 9 p49 c50 l48, own e_disk_sector 51 p0 c0 m1.sure_, mpo (kInt .i64) (fun x : disk_sector => Value.agg #[.string x.s_, i6 x.at_]) p1 m1.wait_] ++ F0))
    try dsimp only at hF
    unfold F.journal_Open.l3 at hF
    refine cw_block ?_
    refine cw_seq ?_
    refine cw_open 9 (SAT w0 ([imm I, o3 b40 b0 x44 x45 x46 x47 p49 l48 c50 x52 x53, o0 b1 p0 m1.sure_ c0 p1 m1.off_ m1.armed_ m1.left_ m1.fall_.Keep m1.fall_.Tear m1.acts_ m1.falls_, o1 b0 b1 m0.boot_ m0.n_, own eStr 9 p49 c50 l48, own e_disk_sector 51 p0 c0 m1.sure_, mpo (kInt .i64) (fun x : disk_sector => Value.agg #[.string x.s_, i6 x.at_]) p1 m1.wait_])) (by kernel_rfl) (f := 19) rfl (fun w hs => sat_drew hs) ?_
    refine aw_vals [0, 1, 2, 3, 5, 6, 7] (f' := 12) (m' := 239) [10, 57, 60, 64] [(10, pP b40), (57, pP b40), (60, .pointer (some ⟨b40, 3, none⟩)), (64, .pointer (some ⟨b40, 4, none⟩))] (fun _ _ _ _ _ h => calm_fin (P := Tryz.prog) (fn := Tryz.f15) _ _ _ _ _ h) (fun w hs => sat_pulls [0, 0, 0, 0, 0, 0, 0] (G := [] ++ F0) rfl hs) rfl (by kernel_rfl) ?_
    refine aw_quiet 4 (m' := 255) (v := i6 x46) 4 [] rfl rfl rfl rfl (by kernel_rfl) (by kernel_rfl) (by kernel_rfl) (fun _ _ _ _ _ h => calm_fin (P := Tryz.prog) (fn := Tryz.f15) _ _ _ _ _ h) (fun w hs => sat_pulls [0, 0, 0, 0, 0, 0, 0] (G := [] ++ F0) rfl hs) (q_load 1 rfl rfl rfl (by kernel_rfl)) ?_
    refine aw_quiet 8 (m' := 511) (v := i6 x47) 8 [] rfl rfl rfl rfl (by kernel_rfl) (by kernel_rfl) (by kernel_rfl) (fun _ _ _ _ _ h => calm_fin (P := Tryz.prog) (fn := Tryz.f15) _ _ _ _ _ h) (fun w hs => sat_pulls [0, 0, 0, 0, 0, 0, 0] (G := [] ++ F0) rfl hs) (q_load 1 rfl rfl rfl (by kernel_rfl)) ?_
    obtain ⟨r54, h55, hF⟩ := bind_some hF
    refine aw_only 9 (m' := 1023) (by kernel_rfl) (by kernel_rfl) (pw_call (F := [] ++ F0) rfl rfl rfl rfl rfl rfl rfl (by kernel_rfl) (perm_of_pulls [0, 0, 1, 0, 0, 0, 0] rfl) (c_journal_Journal_record_1 _ x46 x47 (⟨x44, x45, x46, x47, l48, x52, x53⟩ : journal_Journal) m0 m1 p49 c50 b40 b0 p0 c0 p1 b1 r54 h55) ?_)
    rintro _ _ ⟨rfl, rfl⟩
    refine nw_H (H' := [imm I, o3 b40 b0 ((⟨x44, x45, x46, x47, l48, x52, x53⟩ : journal_Journal).base_) ((⟨x44, x45, x46, x47, l48, x52, x53⟩ : journal_Journal).size_) ((⟨x44, x45, x46, x47, l48, x52, x53⟩ : journal_Journal).next_) ((⟨x44, x45, x46, x47, l48, x52, x53⟩ : journal_Journal).last_) p49 ((⟨x44, x45, x46, x47, l48, x52, x53⟩ : journal_Journal).list_) c50 ((⟨x44, x45, x46, x47, l48, x52, x53⟩ : journal_Journal).sure_) ((⟨x44, x45, x46, x47, l48, x52, x53⟩ : journal_Journal).dead_), o1 b0 b1 m0.boot_ m0.n_, o0 b1 p0 m1.sure_ c0 p1 m1.off_ m1.armed_ m1.left_ m1.fall_.Keep m1.fall_.Tear m1.acts_ m1.falls_, own eStr 9 p49 c50 ((⟨x44, x45, x46, x47, l48, x52, x53⟩ : journal_Journal).list_), own e_disk_sector 51 p0 c0 m1.sure_, mpo (kInt .i64) (fun x : disk_sector => Value.agg #[.string x.s_, i6 x.at_]) p1 m1.wait_] ++ F0) rfl (aw_last (by kernel_rfl) ?_)
    refine aw_past (by kernel_rfl) ?_
    refine aw_vals [10, 11, 12, 13, 14, 15, 16, 17, 18] (f' := 0) (m' := 524287) [10, 11, 12, 13, 14] [(10, pP b40), (11, .string r54.1), (12, i6 r54.2.1), (13, i6 r54.2.2.1), (14, i6 r54.2.2.2)] (fun _ _ _ _ _ h => calm_fin (P := Tryz.prog) (fn := Tryz.f15) _ _ _ _ _ h) (fun _ _ => trivial) rfl (by kernel_rfl) ?_
    refine aw_keep [10, 11, 12, 13, 14] (L' := [(10, pP b40), (11, .string r54.1), (12, i6 r54.2.1), (13, i6 r54.2.2.1), (14, i6 r54.2.2.2)]) rfl ?_
    refine aw_end (by kernel_rfl) ?_
    refine ew_then ?_
    refine cw_seq ?_
    refine cw_seq ?_
    refine cw_region ?_
    refine ow_vals 2 (j := 2) [10, 11, 12, 13, 14, 72] [(10, pP b40), (11, .string r54.1), (12, i6 r54.2.1), (13, i6 r54.2.2.1), (14, i6 r54.2.2.2), (72, .bool (r54.2.2.2 != 0))] rfl (by kernel_rfl) ?_
    refine ow_end rfl ?_
    refine ew_then ?_
    rcases if_some hF with ⟨h56, hF⟩ | ⟨h56, hF⟩
    · refine cw_cond_t rfl rfl h56 ?_
      refine cw_seq ?_
      refine cw_region ?_
      refine ow_vals 3 (j := 3) [8, 9] [(8, .pointer none), (9, i6 r54.2.2.2)] rfl (by kernel_rfl) ?_
      refine ow_end rfl ?_
      refine ew_then ?_
      refine cw_ret ?_
      refine ew_then_ret ?_
      refine ew_blk_ret ?_
      refine ew_then_ret ?_
      refine ew_blk_ret ?_
      refine ew_then_ret ?_
      have hR := Option.some.inj hF
      subst hR
      have hR := hL43
      try dsimp only at hR
      subst hR
      have hR := hK42
      try dsimp only [Thru] at hR
      subst hR
      exact fin2 (H1 := [imm I, o1 b0 b1 m0.boot_ m0.n_, o0 b1 p0 m1.sure_ c0 p1 m1.off_ m1.armed_ m1.left_ m1.fall_.Keep m1.fall_.Tear m1.acts_ m1.falls_, own e_disk_sector 51 p0 c0 m1.sure_, mpo (kInt .i64) (fun x : disk_sector => Value.agg #[.string x.s_, i6 x.at_]) p1 m1.wait_]) (fun w hs => sat_to [1, 3, 0, 0, 0, 0, 0] 2 rfl hs) rfl (rr_tmp rfl) (rr_tmp rfl) (.inl ⟨rfl, rfl, rfl⟩)
    refine cw_cond_f rfl rfl h56 ?_
    refine cw_skip ?_
    refine ew_then ?_
    refine cw_seq ?_
    refine cw_seq ?_
    refine cw_region ?_
    refine ow_vals 2 (j := 2) [10, 11, 12, 13, 75] [(10, pP b40), (11, .string r54.1), (12, i6 r54.2.1), (13, i6 r54.2.2.1), (75, .bool (r54.2.1 == 0))] rfl (by kernel_rfl) ?_
    refine ow_end rfl ?_
    refine ew_then ?_
    rcases if_some hF with ⟨h57, hF⟩ | ⟨h57, hF⟩
    · refine cw_cond_t rfl rfl h57 ?_
      refine cw_exit ?_
      refine ew_then_exit ?_
      refine ew_blk_other (by decide) ?_
      refine ew_then_exit ?_
      refine ew_blk_exit ?_
      have hR := Option.some.inj hF
      subst hR
      have hR := hL43
      try dsimp only at hR
      exact fun a w hf hs => ⟨(⟨x44, x45, x46, x47, l48, x52, x53⟩ : journal_Journal).base_, (⟨x44, x45, x46, x47, l48, x52, x53⟩ : journal_Journal).size_, (⟨x44, x45, x46, x47, l48, x52, x53⟩ : journal_Journal).next_, (⟨x44, x45, x46, x47, l48, x52, x53⟩ : journal_Journal).last_, (⟨x44, x45, x46, x47, l48, x52, x53⟩ : journal_Journal).list_, (⟨x44, x45, x46, x47, l48, x52, x53⟩ : journal_Journal).sure_, (⟨x44, x45, x46, x47, l48, x52, x53⟩ : journal_Journal).dead_, p49, c50, hR, hf.keep [10], sat_to [0, 0, 0, 0, 0, 0, 0] 0 rfl hs⟩
    refine cw_cond_f rfl rfl h57 ?_
    refine cw_skip ?_
    refine ew_then ?_
    refine cw_open 25 (SAT w0 ([imm I, o1 b0 b1 m0.boot_ m0.n_, o0 b1 p0 m1.sure_ c0 p1 m1.off_ m1.armed_ m1.left_ m1.fall_.Keep m1.fall_.Tear m1.acts_ m1.falls_, own e_disk_sector 51 p0 c0 m1.sure_, mpo (kInt .i64) (fun x : disk_sector => Value.agg #[.string x.s_, i6 x.at_]) p1 m1.wait_])) (by kernel_rfl) (f := 26) rfl (fun w hs => sat_drew hs) ?_
    refine aw_vals [0, 1, 2, 3, 4, 5, 7, 10, 11, 12, 14, 16] (f' := 14) (m' := 89279) [10, 76, 77, 78, 81, 83, 88, 90, 92] [(10, pP b40), (76, pP b40), (77, pP b40), (78, pP b40), (81, .pointer (some ⟨b40, 5, none⟩)), (83, .string r54.1), (88, .pointer (some ⟨b40, 3, none⟩)), (90, i6 r54.2.1), (92, i6 r54.2.2.1)] (fun _ _ _ _ _ h => calm_fin (P := Tryz.prog) (fn := Tryz.f15) _ _ _ _ _ h) (fun w hs => sat_pulls [0, 1, 1, 2, 2] (G := [o3 b40 b0 ((⟨x44, x45, x46, x47, l48, x52, x53⟩ : journal_Journal).base_) ((⟨x44, x45, x46, x47, l48, x52, x53⟩ : journal_Journal).size_) ((⟨x44, x45, x46, x47, l48, x52, x53⟩ : journal_Journal).next_) ((⟨x44, x45, x46, x47, l48, x52, x53⟩ : journal_Journal).last_) p49 ((⟨x44, x45, x46, x47, l48, x52, x53⟩ : journal_Journal).list_) c50 ((⟨x44, x45, x46, x47, l48, x52, x53⟩ : journal_Journal).sure_) ((⟨x44, x45, x46, x47, l48, x52, x53⟩ : journal_Journal).dead_), own eStr 9 p49 c50 ((⟨x44, x45, x46, x47, l48, x52, x53⟩ : journal_Journal).list_)] ++ F0) rfl hs) rfl (by kernel_rfl) ?_
    obtain ⟨h60, hF⟩ := chk_some hF
    refine aw_three 6 8 13 (mi := 89343) (mj := 89535) (mk := 97471) (by kernel_rfl) (by kernel_rfl) (by kernel_rfl) (by kernel_rfl) ?_ ?_ ?_
    · refine pw_quiet (v := .slice p49 ((⟨x44, x45, x46, x47, l48, x52, x53⟩ : journal_Journal).list_).length c50) rfl rfl rfl rfl (q_load 1 rfl rfl rfl (by kernel_rfl)) (aw_next (fun w hs => sat_pulls [0, 1, 1, 2, 2] (G := [o3 b40 b0 ((⟨x44, x45, x46, x47, l48, x52, x53⟩ : journal_Journal).base_) ((⟨x44, x45, x46, x47, l48, x52, x53⟩ : journal_Journal).size_) ((⟨x44, x45, x46, x47, l48, x52, x53⟩ : journal_Journal).next_) ((⟨x44, x45, x46, x47, l48, x52, x53⟩ : journal_Journal).last_) p49 ((⟨x44, x45, x46, x47, l48, x52, x53⟩ : journal_Journal).list_) c50 ((⟨x44, x45, x46, x47, l48, x52, x53⟩ : journal_Journal).sure_) ((⟨x44, x45, x46, x47, l48, x52, x53⟩ : journal_Journal).dead_), own eStr 9 p49 c50 ((⟨x44, x45, x46, x47, l48, x52, x53⟩ : journal_Journal).list_)] ++ F0) rfl hs) ?_)
      refine aw_two 8 13 (mi := 89599) (mj := 97535) (by kernel_rfl) (by kernel_rfl) (by kernel_rfl) ?_ ?_
      · refine pw_buildSlice (E := 9) eStr ([r54.1] : List ByteArray) rfl rfl rfl rfl rfl (by kernel_rfl) rfl (by kernel_rfl) rfl (by decide) rfl fun p63 => aw_next (fun w hs => sat_pulls [1, 2, 2, 3, 3] (G := [own eStr 9 p63 1 ([r54.1] : List ByteArray), o3 b40 b0 ((⟨x44, x45, x46, x47, l48, x52, x53⟩ : journal_Journal).base_) ((⟨x44, x45, x46, x47, l48, x52, x53⟩ : journal_Journal).size_) ((⟨x44, x45, x46, x47, l48, x52, x53⟩ : journal_Journal).next_) ((⟨x44, x45, x46, x47, l48, x52, x53⟩ : journal_Journal).last_) p49 ((⟨x44, x45, x46, x47, l48, x52, x53⟩ : journal_Journal).list_) c50 ((⟨x44, x45, x46, x47, l48, x52, x53⟩ : journal_Journal).sure_) ((⟨x44, x45, x46, x47, l48, x52, x53⟩ : journal_Journal).dead_), own eStr 9 p49 c50 ((⟨x44, x45, x46, x47, l48, x52, x53⟩ : journal_Journal).list_)] ++ F0) rfl hs) ?_
        refine aw_two 9 13 (mi := 90111) (mj := 97791) (by kernel_rfl) (by kernel_rfl) (by kernel_rfl) ?_ ?_
        · refine pw_append 5 (l' := ([r54.1] : List ByteArray)) rfl rfl rfl rfl rfl rfl (by kernel_rfl) (by kernel_rfl) rfl rfl rfl (src_own (E' := 9) 0 rfl (by kernel_rfl) rfl) rfl h60.1 h60.2 fun p65 c66 => nw_H (H' := [own eStr 9 p63 1 ([r54.1] : List ByteArray), imm I, o3 b40 b0 ((⟨x44, x45, x46, x47, l48, x52, x53⟩ : journal_Journal).base_) ((⟨x44, x45, x46, x47, l48, x52, x53⟩ : journal_Journal).size_) ((⟨x44, x45, x46, x47, l48, x52, x53⟩ : journal_Journal).next_) ((⟨x44, x45, x46, x47, l48, x52, x53⟩ : journal_Journal).last_) p49 ((⟨x44, x45, x46, x47, l48, x52, x53⟩ : journal_Journal).list_) c50 ((⟨x44, x45, x46, x47, l48, x52, x53⟩ : journal_Journal).sure_) ((⟨x44, x45, x46, x47, l48, x52, x53⟩ : journal_Journal).dead_), o1 b0 b1 m0.boot_ m0.n_, o0 b1 p0 m1.sure_ c0 p1 m1.off_ m1.armed_ m1.left_ m1.fall_.Keep m1.fall_.Tear m1.acts_ m1.falls_, own eStr 9 p65 c66 (((⟨x44, x45, x46, x47, l48, x52, x53⟩ : journal_Journal).list_) ++ ([r54.1] : List ByteArray)), own e_disk_sector 51 p0 c0 m1.sure_, mpo (kInt .i64) (fun x : disk_sector => Value.agg #[.string x.s_, i6 x.at_]) p1 m1.wait_] ++ F0) rfl (aw_next (fun w hs => sat_pulls [1, 2, 2, 3, 3] (G := [own eStr 9 p63 1 ([r54.1] : List ByteArray), o3 b40 b0 ((⟨x44, x45, x46, x47, l48, x52, x53⟩ : journal_Journal).base_) ((⟨x44, x45, x46, x47, l48, x52, x53⟩ : journal_Journal).size_) ((⟨x44, x45, x46, x47, l48, x52, x53⟩ : journal_Journal).next_) ((⟨x44, x45, x46, x47, l48, x52, x53⟩ : journal_Journal).last_) p49 ((⟨x44, x45, x46, x47, l48, x52, x53⟩ : journal_Journal).list_) c50 ((⟨x44, x45, x46, x47, l48, x52, x53⟩ : journal_Journal).sure_) ((⟨x44, x45, x46, x47, l48, x52, x53⟩ : journal_Journal).dead_), own eStr 9 p65 c66 (((⟨x44, x45, x46, x47, l48, x52, x53⟩ : journal_Journal).list_) ++ ([r54.1] : List ByteArray))] ++ F0) rfl hs) ?_)
          refine aw_only 13 (m' := 98303) (by kernel_rfl) (by kernel_rfl) (pw_quiet (v := i6 ((⟨x44, x45, x46, x47, l48, x52, x53⟩ : journal_Journal).next_)) rfl rfl rfl rfl (q_load 2 rfl rfl rfl (by kernel_rfl)) (aw_next (fun w hs => sat_pulls [1, 2, 2, 3, 3] (G := [own eStr 9 p63 1 ([r54.1] : List ByteArray), o3 b40 b0 ((⟨x44, x45, x46, x47, l48, x52, x53⟩ : journal_Journal).base_) ((⟨x44, x45, x46, x47, l48, x52, x53⟩ : journal_Journal).size_) ((⟨x44, x45, x46, x47, l48, x52, x53⟩ : journal_Journal).next_) ((⟨x44, x45, x46, x47, l48, x52, x53⟩ : journal_Journal).last_) p49 ((⟨x44, x45, x46, x47, l48, x52, x53⟩ : journal_Journal).list_) c50 ((⟨x44, x45, x46, x47, l48, x52, x53⟩ : journal_Journal).sure_) ((⟨x44, x45, x46, x47, l48, x52, x53⟩ : journal_Journal).dead_), own eStr 9 p65 c66 (((⟨x44, x45, x46, x47, l48, x52, x53⟩ : journal_Journal).list_) ++ ([r54.1] : List ByteArray))] ++ F0) rfl hs) ?_))
          refine aw_vals [15, 17, 18] (f' := 7) (m' := 524287) [10, 77, 78, 85, 91, 92, 94] [(10, pP b40), (77, pP b40), (78, pP b40), (85, .slice p65 (((⟨x44, x45, x46, x47, l48, x52, x53⟩ : journal_Journal).list_) ++ ([r54.1] : List ByteArray)).length c66), (91, i6 (IntKind.i64.wrap (((⟨x44, x45, x46, x47, l48, x52, x53⟩ : journal_Journal).next_) + r54.2.1))), (92, i6 r54.2.2.1), (94, .pointer (some ⟨b40, 5, none⟩))] (fun _ _ _ _ _ h => calm_fin (P := Tryz.prog) (fn := Tryz.f15) _ _ _ _ _ h) (fun w hs => sat_pulls [1, 2, 2, 3, 3] (G := [own eStr 9 p63 1 ([r54.1] : List ByteArray), o3 b40 b0 ((⟨x44, x45, x46, x47, l48, x52, x53⟩ : journal_Journal).base_) ((⟨x44, x45, x46, x47, l48, x52, x53⟩ : journal_Journal).size_) ((⟨x44, x45, x46, x47, l48, x52, x53⟩ : journal_Journal).next_) ((⟨x44, x45, x46, x47, l48, x52, x53⟩ : journal_Journal).last_) p49 ((⟨x44, x45, x46, x47, l48, x52, x53⟩ : journal_Journal).list_) c50 ((⟨x44, x45, x46, x47, l48, x52, x53⟩ : journal_Journal).sure_) ((⟨x44, x45, x46, x47, l48, x52, x53⟩ : journal_Journal).dead_), own eStr 9 p65 c66 (((⟨x44, x45, x46, x47, l48, x52, x53⟩ : journal_Journal).list_) ++ ([r54.1] : List ByteArray))] ++ F0) rfl hs) rfl (by kernel_rfl) ?_
          refine aw_only 19 (m' := 1048575) (by kernel_rfl) (by kernel_rfl) (pw_store 2 #[pP b0, i6 ((⟨x44, x45, x46, x47, l48, x52, x53⟩ : journal_Journal).base_), i6 ((⟨x44, x45, x46, x47, l48, x52, x53⟩ : journal_Journal).size_), i6 ((⟨x44, x45, x46, x47, l48, x52, x53⟩ : journal_Journal).next_), i6 ((⟨x44, x45, x46, x47, l48, x52, x53⟩ : journal_Journal).last_), .slice p65 (((⟨x44, x45, x46, x47, l48, x52, x53⟩ : journal_Journal).list_) ++ ([r54.1] : List ByteArray)).length c66, i6 ((⟨x44, x45, x46, x47, l48, x52, x53⟩ : journal_Journal).sure_), .bool ((⟨x44, x45, x46, x47, l48, x52, x53⟩ : journal_Journal).dead_)] rfl rfl rfl rfl rfl rfl rfl (by kernel_rfl) (nw_H (H' := [own eStr 9 p63 1 ([r54.1] : List ByteArray), imm I, o3 b40 b0 ((⟨x44, x45, x46, x47, l48, x52, x53⟩ : journal_Journal).base_) ((⟨x44, x45, x46, x47, l48, x52, x53⟩ : journal_Journal).size_) ((⟨x44, x45, x46, x47, l48, x52, x53⟩ : journal_Journal).next_) ((⟨x44, x45, x46, x47, l48, x52, x53⟩ : journal_Journal).last_) p65 (((⟨x44, x45, x46, x47, l48, x52, x53⟩ : journal_Journal).list_) ++ ([r54.1] : List ByteArray)) c66 ((⟨x44, x45, x46, x47, l48, x52, x53⟩ : journal_Journal).sure_) ((⟨x44, x45, x46, x47, l48, x52, x53⟩ : journal_Journal).dead_), o1 b0 b1 m0.boot_ m0.n_, o0 b1 p0 m1.sure_ c0 p1 m1.off_ m1.armed_ m1.left_ m1.fall_.Keep m1.fall_.Tear m1.acts_ m1.falls_, own eStr 9 p65 c66 (((⟨x44, x45, x46, x47, l48, x52, x53⟩ : journal_Journal).list_) ++ ([r54.1] : List ByteArray)), own e_disk_sector 51 p0 c0 m1.sure_, mpo (kInt .i64) (fun x : disk_sector => Value.agg #[.string x.s_, i6 x.at_]) p1 m1.wait_] ++ F0) rfl (aw_next (fun w hs => sat_pulls [1, 2, 2, 3, 3] (G := [own eStr 9 p63 1 ([r54.1] : List ByteArray), o3 b40 b0 ((⟨x44, x45, x46, x47, l48, x52, x53⟩ : journal_Journal).base_) ((⟨x44, x45, x46, x47, l48, x52, x53⟩ : journal_Journal).size_) ((⟨x44, x45, x46, x47, l48, x52, x53⟩ : journal_Journal).next_) ((⟨x44, x45, x46, x47, l48, x52, x53⟩ : journal_Journal).last_) p65 (((⟨x44, x45, x46, x47, l48, x52, x53⟩ : journal_Journal).list_) ++ ([r54.1] : List ByteArray)) c66 ((⟨x44, x45, x46, x47, l48, x52, x53⟩ : journal_Journal).sure_) ((⟨x44, x45, x46, x47, l48, x52, x53⟩ : journal_Journal).dead_), own eStr 9 p65 c66 (((⟨x44, x45, x46, x47, l48, x52, x53⟩ : journal_Journal).list_) ++ ([r54.1] : List ByteArray))] ++ F0) rfl hs) ?_)))
          refine aw_vals [20, 21] (f' := 4) (m' := 4194303) [10, 78, 91, 92, 96] [(10, pP b40), (78, pP b40), (91, i6 (IntKind.i64.wrap (((⟨x44, x45, x46, x47, l48, x52, x53⟩ : journal_Journal).next_) + r54.2.1))), (92, i6 r54.2.2.1), (96, .pointer (some ⟨b40, 3, none⟩))] (fun _ _ _ _ _ h => calm_fin (P := Tryz.prog) (fn := Tryz.f15) _ _ _ _ _ h) (fun w hs => sat_pulls [1, 2, 2, 3, 3] (G := [own eStr 9 p63 1 ([r54.1] : List ByteArray), o3 b40 b0 ((⟨x44, x45, x46, x47, l48, x52, x53⟩ : journal_Journal).base_) ((⟨x44, x45, x46, x47, l48, x52, x53⟩ : journal_Journal).size_) ((⟨x44, x45, x46, x47, l48, x52, x53⟩ : journal_Journal).next_) ((⟨x44, x45, x46, x47, l48, x52, x53⟩ : journal_Journal).last_) p65 (((⟨x44, x45, x46, x47, l48, x52, x53⟩ : journal_Journal).list_) ++ ([r54.1] : List ByteArray)) c66 ((⟨x44, x45, x46, x47, l48, x52, x53⟩ : journal_Journal).sure_) ((⟨x44, x45, x46, x47, l48, x52, x53⟩ : journal_Journal).dead_), own eStr 9 p65 c66 (((⟨x44, x45, x46, x47, l48, x52, x53⟩ : journal_Journal).list_) ++ ([r54.1] : List ByteArray))] ++ F0) rfl hs) rfl (by kernel_rfl) ?_
          refine aw_only 22 (m' := 8388607) (by kernel_rfl) (by kernel_rfl) (pw_store 2 #[pP b0, i6 ((⟨x44, x45, x46, x47, l48, x52, x53⟩ : journal_Journal).base_), i6 ((⟨x44, x45, x46, x47, l48, x52, x53⟩ : journal_Journal).size_), i6 (IntKind.i64.wrap (((⟨x44, x45, x46, x47, l48, x52, x53⟩ : journal_Journal).next_) + r54.2.1)), i6 ((⟨x44, x45, x46, x47, l48, x52, x53⟩ : journal_Journal).last_), .slice p65 (((⟨x44, x45, x46, x47, l48, x52, x53⟩ : journal_Journal).list_) ++ ([r54.1] : List ByteArray)).length c66, i6 ((⟨x44, x45, x46, x47, l48, x52, x53⟩ : journal_Journal).sure_), .bool ((⟨x44, x45, x46, x47, l48, x52, x53⟩ : journal_Journal).dead_)] rfl rfl rfl rfl rfl rfl rfl (by kernel_rfl) (nw_H (H' := [own eStr 9 p63 1 ([r54.1] : List ByteArray), imm I, o3 b40 b0 ((⟨x44, x45, x46, x47, l48, x52, x53⟩ : journal_Journal).base_) ((⟨x44, x45, x46, x47, l48, x52, x53⟩ : journal_Journal).size_) (IntKind.i64.wrap (((⟨x44, x45, x46, x47, l48, x52, x53⟩ : journal_Journal).next_) + r54.2.1)) ((⟨x44, x45, x46, x47, l48, x52, x53⟩ : journal_Journal).last_) p65 (((⟨x44, x45, x46, x47, l48, x52, x53⟩ : journal_Journal).list_) ++ ([r54.1] : List ByteArray)) c66 ((⟨x44, x45, x46, x47, l48, x52, x53⟩ : journal_Journal).sure_) ((⟨x44, x45, x46, x47, l48, x52, x53⟩ : journal_Journal).dead_), o1 b0 b1 m0.boot_ m0.n_, o0 b1 p0 m1.sure_ c0 p1 m1.off_ m1.armed_ m1.left_ m1.fall_.Keep m1.fall_.Tear m1.acts_ m1.falls_, own eStr 9 p65 c66 (((⟨x44, x45, x46, x47, l48, x52, x53⟩ : journal_Journal).list_) ++ ([r54.1] : List ByteArray)), own e_disk_sector 51 p0 c0 m1.sure_, mpo (kInt .i64) (fun x : disk_sector => Value.agg #[.string x.s_, i6 x.at_]) p1 m1.wait_] ++ F0) rfl (aw_next (fun w hs => sat_pulls [1, 2, 2, 3, 3] (G := [own eStr 9 p63 1 ([r54.1] : List ByteArray), o3 b40 b0 ((⟨x44, x45, x46, x47, l48, x52, x53⟩ : journal_Journal).base_) ((⟨x44, x45, x46, x47, l48, x52, x53⟩ : journal_Journal).size_) (IntKind.i64.wrap (((⟨x44, x45, x46, x47, l48, x52, x53⟩ : journal_Journal).next_) + r54.2.1)) ((⟨x44, x45, x46, x47, l48, x52, x53⟩ : journal_Journal).last_) p65 (((⟨x44, x45, x46, x47, l48, x52, x53⟩ : journal_Journal).list_) ++ ([r54.1] : List ByteArray)) c66 ((⟨x44, x45, x46, x47, l48, x52, x53⟩ : journal_Journal).sure_) ((⟨x44, x45, x46, x47, l48, x52, x53⟩ : journal_Journal).dead_), own eStr 9 p65 c66 (((⟨x44, x45, x46, x47, l48, x52, x53⟩ : journal_Journal).list_) ++ ([r54.1] : List ByteArray))] ++ F0) rfl hs) ?_)))
          refine aw_vals [23, 24] (f' := 1) (m' := 33554431) [10, 92, 98] [(10, pP b40), (92, i6 r54.2.2.1), (98, .pointer (some ⟨b40, 4, none⟩))] (fun _ _ _ _ _ h => calm_fin (P := Tryz.prog) (fn := Tryz.f15) _ _ _ _ _ h) (fun w hs => sat_pulls [1, 2, 2, 3, 3] (G := [own eStr 9 p63 1 ([r54.1] : List ByteArray), o3 b40 b0 ((⟨x44, x45, x46, x47, l48, x52, x53⟩ : journal_Journal).base_) ((⟨x44, x45, x46, x47, l48, x52, x53⟩ : journal_Journal).size_) (IntKind.i64.wrap (((⟨x44, x45, x46, x47, l48, x52, x53⟩ : journal_Journal).next_) + r54.2.1)) ((⟨x44, x45, x46, x47, l48, x52, x53⟩ : journal_Journal).last_) p65 (((⟨x44, x45, x46, x47, l48, x52, x53⟩ : journal_Journal).list_) ++ ([r54.1] : List ByteArray)) c66 ((⟨x44, x45, x46, x47, l48, x52, x53⟩ : journal_Journal).sure_) ((⟨x44, x45, x46, x47, l48, x52, x53⟩ : journal_Journal).dead_), own eStr 9 p65 c66 (((⟨x44, x45, x46, x47, l48, x52, x53⟩ : journal_Journal).list_) ++ ([r54.1] : List ByteArray))] ++ F0) rfl hs) rfl (by kernel_rfl) ?_
          refine aw_only 25 (m' := 67108863) (by kernel_rfl) (by kernel_rfl) (pw_store 2 #[pP b0, i6 ((⟨x44, x45, x46, x47, l48, x52, x53⟩ : journal_Journal).base_), i6 ((⟨x44, x45, x46, x47, l48, x52, x53⟩ : journal_Journal).size_), i6 (IntKind.i64.wrap (((⟨x44, x45, x46, x47, l48, x52, x53⟩ : journal_Journal).next_) + r54.2.1)), i6 r54.2.2.1, .slice p65 (((⟨x44, x45, x46, x47, l48, x52, x53⟩ : journal_Journal).list_) ++ ([r54.1] : List ByteArray)).length c66, i6 ((⟨x44, x45, x46, x47, l48, x52, x53⟩ : journal_Journal).sure_), .bool ((⟨x44, x45, x46, x47, l48, x52, x53⟩ : journal_Journal).dead_)] rfl rfl rfl rfl rfl rfl rfl (by kernel_rfl) (nw_H (H' := [own eStr 9 p63 1 ([r54.1] : List ByteArray), imm I, o3 b40 b0 ((⟨x44, x45, x46, x47, l48, x52, x53⟩ : journal_Journal).base_) ((⟨x44, x45, x46, x47, l48, x52, x53⟩ : journal_Journal).size_) (IntKind.i64.wrap (((⟨x44, x45, x46, x47, l48, x52, x53⟩ : journal_Journal).next_) + r54.2.1)) r54.2.2.1 p65 (((⟨x44, x45, x46, x47, l48, x52, x53⟩ : journal_Journal).list_) ++ ([r54.1] : List ByteArray)) c66 ((⟨x44, x45, x46, x47, l48, x52, x53⟩ : journal_Journal).sure_) ((⟨x44, x45, x46, x47, l48, x52, x53⟩ : journal_Journal).dead_), o1 b0 b1 m0.boot_ m0.n_, o0 b1 p0 m1.sure_ c0 p1 m1.off_ m1.armed_ m1.left_ m1.fall_.Keep m1.fall_.Tear m1.acts_ m1.falls_, own eStr 9 p65 c66 (((⟨x44, x45, x46, x47, l48, x52, x53⟩ : journal_Journal).list_) ++ ([r54.1] : List ByteArray)), own e_disk_sector 51 p0 c0 m1.sure_, mpo (kInt .i64) (fun x : disk_sector => Value.agg #[.string x.s_, i6 x.at_]) p1 m1.wait_] ++ F0) rfl (aw_last (by kernel_rfl) ?_)))
          refine aw_keep [10] (L' := [(10, pP b40)]) rfl ?_
          refine aw_end (by kernel_rfl) ?_
          refine ew_blk ?_
          have hR := Option.some.inj hF
          subst hR
          have hR := hL43
          try dsimp only at hR
          exact fun a w hf hs => ⟨k, Nat.lt_succ_self k, (⟨x44, x45, x46, x47, l48, x52, x53⟩ : journal_Journal).base_, (⟨x44, x45, x46, x47, l48, x52, x53⟩ : journal_Journal).size_, IntKind.i64.wrap (((⟨x44, x45, x46, x47, l48, x52, x53⟩ : journal_Journal).next_) + r54.2.1), r54.2.2.1, ((⟨x44, x45, x46, x47, l48, x52, x53⟩ : journal_Journal).list_) ++ ([r54.1] : List ByteArray), (⟨x44, x45, x46, x47, l48, x52, x53⟩ : journal_Journal).sure_, (⟨x44, x45, x46, x47, l48, x52, x53⟩ : journal_Journal).dead_, p65, c66, hR, hf.keep [10], sat_to [0, 0, 0, 1, 0, 0, 0, 0] 1 rfl hs⟩
        refine pw_quiet (v := i6 ((⟨x44, x45, x46, x47, l48, x52, x53⟩ : journal_Journal).next_)) rfl rfl rfl rfl (q_load 2 rfl rfl rfl (by kernel_rfl)) (aw_next (fun w hs => sat_pulls [1, 2, 2, 3, 3] (G := [own eStr 9 p63 1 ([r54.1] : List ByteArray), o3 b40 b0 ((⟨x44, x45, x46, x47, l48, x52, x53⟩ : journal_Journal).base_) ((⟨x44, x45, x46, x47, l48, x52, x53⟩ : journal_Journal).size_) ((⟨x44, x45, x46, x47, l48, x52, x53⟩ : journal_Journal).next_) ((⟨x44, x45, x46, x47, l48, x52, x53⟩ : journal_Journal).last_) p49 ((⟨x44, x45, x46, x47, l48, x52, x53⟩ : journal_Journal).list_) c50 ((⟨x44, x45, x46, x47, l48, x52, x53⟩ : journal_Journal).sure_) ((⟨x44, x45, x46, x47, l48, x52, x53⟩ : journal_Journal).dead_), own eStr 9 p49 c50 ((⟨x44, x45, x46, x47, l48, x52, x53⟩ : journal_Journal).list_)] ++ F0) rfl hs) ?_)
        refine aw_vals [15] (f' := 10) (m' := 130559) [10, 76, 77, 78, 82, 84, 91, 92] [(10, pP b40), (76, pP b40), (77, pP b40), (78, pP b40), (82, .slice p49 ((⟨x44, x45, x46, x47, l48, x52, x53⟩ : journal_Journal).list_).length c50), (84, .slice p63 ([r54.1] : List ByteArray).length 1), (91, i6 (IntKind.i64.wrap (((⟨x44, x45, x46, x47, l48, x52, x53⟩ : journal_Journal).next_) + r54.2.1))), (92, i6 r54.2.2.1)] (fun _ _ _ _ _ h => calm_fin (P := Tryz.prog) (fn := Tryz.f15) _ _ _ _ _ h) (fun w hs => sat_pulls [1, 2, 2, 3, 3] (G := [own eStr 9 p63 1 ([r54.1] : List ByteArray), o3 b40 b0 ((⟨x44, x45, x46, x47, l48, x52, x53⟩ : journal_Journal).base_) ((⟨x44, x45, x46, x47, l48, x52, x53⟩ : journal_Journal).size_) ((⟨x44, x45, x46, x47, l48, x52, x53⟩ : journal_Journal).next_) ((⟨x44, x45, x46, x47, l48, x52, x53⟩ : journal_Journal).last_) p49 ((⟨x44, x45, x46, x47, l48, x52, x53⟩ : journal_Journal).list_) c50 ((⟨x44, x45, x46, x47, l48, x52, x53⟩ : journal_Journal).sure_) ((⟨x44, x45, x46, x47, l48, x52, x53⟩ : journal_Journal).dead_), own eStr 9 p49 c50 ((⟨x44, x45, x46, x47, l48, x52, x53⟩ : journal_Journal).list_)] ++ F0) rfl hs) rfl (by kernel_rfl) ?_
        refine aw_only 9 (m' := 131071) (by kernel_rfl) (by kernel_rfl) (pw_append 5 (l' := ([r54.1] : List ByteArray)) rfl rfl rfl rfl rfl rfl (by kernel_rfl) (by kernel_rfl) rfl rfl rfl (src_own (E' := 9) 0 rfl (by kernel_rfl) rfl) rfl h60.1 h60.2 fun p65 c66 => nw_H (H' := [own eStr 9 p63 1 ([r54.1] : List ByteArray), imm I, o3 b40 b0 ((⟨x44, x45, x46, x47, l48, x52, x53⟩ : journal_Journal).base_) ((⟨x44, x45, x46, x47, l48, x52, x53⟩ : journal_Journal).size_) ((⟨x44, x45, x46, x47, l48, x52, x53⟩ : journal_Journal).next_) ((⟨x44, x45, x46, x47, l48, x52, x53⟩ : journal_Journal).last_) p49 ((⟨x44, x45, x46, x47, l48, x52, x53⟩ : journal_Journal).list_) c50 ((⟨x44, x45, x46, x47, l48, x52, x53⟩ : journal_Journal).sure_) ((⟨x44, x45, x46, x47, l48, x52, x53⟩ : journal_Journal).dead_), o1 b0 b1 m0.boot_ m0.n_, o0 b1 p0 m1.sure_ c0 p1 m1.off_ m1.armed_ m1.left_ m1.fall_.Keep m1.fall_.Tear m1.acts_ m1.falls_, own eStr 9 p65 c66 (((⟨x44, x45, x46, x47, l48, x52, x53⟩ : journal_Journal).list_) ++ ([r54.1] : List ByteArray)), own e_disk_sector 51 p0 c0 m1.sure_, mpo (kInt .i64) (fun x : disk_sector => Value.agg #[.string x.s_, i6 x.at_]) p1 m1.wait_] ++ F0) rfl (aw_next (fun w hs => sat_pulls [1, 2, 2, 3, 3] (G := [own eStr 9 p63 1 ([r54.1] : List ByteArray), o3 b40 b0 ((⟨x44, x45, x46, x47, l48, x52, x53⟩ : journal_Journal).base_) ((⟨x44, x45, x46, x47, l48, x52, x53⟩ : journal_Journal).size_) ((⟨x44, x45, x46, x47, l48, x52, x53⟩ : journal_Journal).next_) ((⟨x44, x45, x46, x47, l48, x52, x53⟩ : journal_Journal).last_) p49 ((⟨x44, x45, x46, x47, l48, x52, x53⟩ : journal_Journal).list_) c50 ((⟨x44, x45, x46, x47, l48, x52, x53⟩ : journal_Journal).sure_) ((⟨x44, x45, x46, x47, l48, x52, x53⟩ : journal_Journal).dead_), own eStr 9 p65 c66 (((⟨x44, x45, x46, x47, l48, x52, x53⟩ : journal_Journal).list_) ++ ([r54.1] : List ByteArray))] ++ F0) rfl hs) ?_))
        refine aw_vals [17, 18] (f' := 7) (m' := 524287) [10, 77, 78, 85, 91, 92, 94] [(10, pP b40), (77, pP b40), (78, pP b40), (85, .slice p65 (((⟨x44, x45, x46, x47, l48, x52, x53⟩ : journal_Journal).list_) ++ ([r54.1] : List ByteArray)).length c66), (91, i6 (IntKind.i64.wrap (((⟨x44, x45, x46, x47, l48, x52, x53⟩ : journal_Journal).next_) + r54.2.1))), (92, i6 r54.2.2.1), (94, .pointer (some ⟨b40, 5, none⟩))] (fun _ _ _ _ _ h => calm_fin (P := Tryz.prog) (fn := Tryz.f15) _ _ _ _ _ h) (fun w hs => sat_pulls [1, 2, 2, 3, 3] (G := [own eStr 9 p63 1 ([r54.1] : List ByteArray), o3 b40 b0 ((⟨x44, x45, x46, x47, l48, x52, x53⟩ : journal_Journal).base_) ((⟨x44, x45, x46, x47, l48, x52, x53⟩ : journal_Journal).size_) ((⟨x44, x45, x46, x47, l48, x52, x53⟩ : journal_Journal).next_) ((⟨x44, x45, x46, x47, l48, x52, x53⟩ : journal_Journal).last_) p49 ((⟨x44, x45, x46, x47, l48, x52, x53⟩ : journal_Journal).list_) c50 ((⟨x44, x45, x46, x47, l48, x52, x53⟩ : journal_Journal).sure_) ((⟨x44, x45, x46, x47, l48, x52, x53⟩ : journal_Journal).dead_), own eStr 9 p65 c66 (((⟨x44, x45, x46, x47, l48, x52, x53⟩ : journal_Journal).list_) ++ ([r54.1] : List ByteArray))] ++ F0) rfl hs) rfl (by kernel_rfl) ?_
        refine aw_only 19 (m' := 1048575) (by kernel_rfl) (by kernel_rfl) (pw_store 2 #[pP b0, i6 ((⟨x44, x45, x46, x47, l48, x52, x53⟩ : journal_Journal).base_), i6 ((⟨x44, x45, x46, x47, l48, x52, x53⟩ : journal_Journal).size_), i6 ((⟨x44, x45, x46, x47, l48, x52, x53⟩ : journal_Journal).next_), i6 ((⟨x44, x45, x46, x47, l48, x52, x53⟩ : journal_Journal).last_), .slice p65 (((⟨x44, x45, x46, x47, l48, x52, x53⟩ : journal_Journal).list_) ++ ([r54.1] : List ByteArray)).length c66, i6 ((⟨x44, x45, x46, x47, l48, x52, x53⟩ : journal_Journal).sure_), .bool ((⟨x44, x45, x46, x47, l48, x52, x53⟩ : journal_Journal).dead_)] rfl rfl rfl rfl rfl rfl rfl (by kernel_rfl) (nw_H (H' := [own eStr 9 p63 1 ([r54.1] : List ByteArray), imm I, o3 b40 b0 ((⟨x44, x45, x46, x47, l48, x52, x53⟩ : journal_Journal).base_) ((⟨x44, x45, x46, x47, l48, x52, x53⟩ : journal_Journal).size_) ((⟨x44, x45, x46, x47, l48, x52, x53⟩ : journal_Journal).next_) ((⟨x44, x45, x46, x47, l48, x52, x53⟩ : journal_Journal).last_) p65 (((⟨x44, x45, x46, x47, l48, x52, x53⟩ : journal_Journal).list_) ++ ([r54.1] : List ByteArray)) c66 ((⟨x44, x45, x46, x47, l48, x52, x53⟩ : journal_Journal).sure_) ((⟨x44, x45, x46, x47, l48, x52, x53⟩ : journal_Journal).dead_), o1 b0 b1 m0.boot_ m0.n_, o0 b1 p0 m1.sure_ c0 p1 m1.off_ m1.armed_ m1.left_ m1.fall_.Keep m1.fall_.Tear m1.acts_ m1.falls_, own eStr 9 p65 c66 (((⟨x44, x45, x46, x47, l48, x52, x53⟩ : journal_Journal).list_) ++ ([r54.1] : List ByteArray)), own e_disk_sector 51 p0 c0 m1.sure_, mpo (kInt .i64) (fun x : disk_sector => Value.agg #[.string x.s_, i6 x.at_]) p1 m1.wait_] ++ F0) rfl (aw_next (fun w hs => sat_pulls [1, 2, 2, 3, 3] (G := [own eStr 9 p63 1 ([r54.1] : List ByteArray), o3 b40 b0 ((⟨x44, x45, x46, x47, l48, x52, x53⟩ : journal_Journal).base_) ((⟨x44, x45, x46, x47, l48, x52, x53⟩ : journal_Journal).size_) ((⟨x44, x45, x46, x47, l48, x52, x53⟩ : journal_Journal).next_) ((⟨x44, x45, x46, x47, l48, x52, x53⟩ : journal_Journal).last_) p65 (((⟨x44, x45, x46, x47, l48, x52, x53⟩ : journal_Journal).list_) ++ ([r54.1] : List ByteArray)) c66 ((⟨x44, x45, x46, x47, l48, x52, x53⟩ : journal_Journal).sure_) ((⟨x44, x45, x46, x47, l48, x52, x53⟩ : journal_Journal).dead_), own eStr 9 p65 c66 (((⟨x44, x45, x46, x47, l48, x52, x53⟩ : journal_Journal).list_) ++ ([r54.1] : List ByteArray))] ++ F0) rfl hs) ?_)))
        refine aw_vals [20, 21] (f' := 4) (m' := 4194303) [10, 78, 91, 92, 96] [(10, pP b40), (78, pP b40), (91, i6 (IntKind.i64.wrap (((⟨x44, x45, x46, x47, l48, x52, x53⟩ : journal_Journal).next_) + r54.2.1))), (92, i6 r54.2.2.1), (96, .pointer (some ⟨b40, 3, none⟩))] (fun _ _ _ _ _ h => calm_fin (P := Tryz.prog) (fn := Tryz.f15) _ _ _ _ _ h) (fun w hs => sat_pulls [1, 2, 2, 3, 3] (G := [own eStr 9 p63 1 ([r54.1] : List ByteArray), o3 b40 b0 ((⟨x44, x45, x46, x47, l48, x52, x53⟩ : journal_Journal).base_) ((⟨x44, x45, x46, x47, l48, x52, x53⟩ : journal_Journal).size_) ((⟨x44, x45, x46, x47, l48, x52, x53⟩ : journal_Journal).next_) ((⟨x44, x45, x46, x47, l48, x52, x53⟩ : journal_Journal).last_) p65 (((⟨x44, x45, x46, x47, l48, x52, x53⟩ : journal_Journal).list_) ++ ([r54.1] : List ByteArray)) c66 ((⟨x44, x45, x46, x47, l48, x52, x53⟩ : journal_Journal).sure_) ((⟨x44, x45, x46, x47, l48, x52, x53⟩ : journal_Journal).dead_), own eStr 9 p65 c66 (((⟨x44, x45, x46, x47, l48, x52, x53⟩ : journal_Journal).list_) ++ ([r54.1] : List ByteArray))] ++ F0) rfl hs) rfl (by kernel_rfl) ?_
        refine aw_only 22 (m' := 8388607) (by kernel_rfl) (by kernel_rfl) (pw_store 2 #[pP b0, i6 ((⟨x44, x45, x46, x47, l48, x52, x53⟩ : journal_Journal).base_), i6 ((⟨x44, x45, x46, x47, l48, x52, x53⟩ : journal_Journal).size_), i6 (IntKind.i64.wrap (((⟨x44, x45, x46, x47, l48, x52, x53⟩ : journal_Journal).next_) + r54.2.1)), i6 ((⟨x44, x45, x46, x47, l48, x52, x53⟩ : journal_Journal).last_), .slice p65 (((⟨x44, x45, x46, x47, l48, x52, x53⟩ : journal_Journal).list_) ++ ([r54.1] : List ByteArray)).length c66, i6 ((⟨x44, x45, x46, x47, l48, x52, x53⟩ : journal_Journal).sure_), .bool ((⟨x44, x45, x46, x47, l48, x52, x53⟩ : journal_Journal).dead_)] rfl rfl rfl rfl rfl rfl rfl (by kernel_rfl) (nw_H (H' := [own eStr 9 p63 1 ([r54.1] : List ByteArray), imm I, o3 b40 b0 ((⟨x44, x45, x46, x47, l48, x52, x53⟩ : journal_Journal).base_) ((⟨x44, x45, x46, x47, l48, x52, x53⟩ : journal_Journal).size_) (IntKind.i64.wrap (((⟨x44, x45, x46, x47, l48, x52, x53⟩ : journal_Journal).next_) + r54.2.1)) ((⟨x44, x45, x46, x47, l48, x52, x53⟩ : journal_Journal).last_) p65 (((⟨x44, x45, x46, x47, l48, x52, x53⟩ : journal_Journal).list_) ++ ([r54.1] : List ByteArray)) c66 ((⟨x44, x45, x46, x47, l48, x52, x53⟩ : journal_Journal).sure_) ((⟨x44, x45, x46, x47, l48, x52, x53⟩ : journal_Journal).dead_), o1 b0 b1 m0.boot_ m0.n_, o0 b1 p0 m1.sure_ c0 p1 m1.off_ m1.armed_ m1.left_ m1.fall_.Keep m1.fall_.Tear m1.acts_ m1.falls_, own eStr 9 p65 c66 (((⟨x44, x45, x46, x47, l48, x52, x53⟩ : journal_Journal).list_) ++ ([r54.1] : List ByteArray)), own e_disk_sector 51 p0 c0 m1.sure_, mpo (kInt .i64) (fun x : disk_sector => Value.agg #[.string x.s_, i6 x.at_]) p1 m1.wait_] ++ F0) rfl (aw_next (fun w hs => sat_pulls [1, 2, 2, 3, 3] (G := [own eStr 9 p63 1 ([r54.1] : List ByteArray), o3 b40 b0 ((⟨x44, x45, x46, x47, l48, x52, x53⟩ : journal_Journal).base_) ((⟨x44, x45, x46, x47, l48, x52, x53⟩ : journal_Journal).size_) (IntKind.i64.wrap (((⟨x44, x45, x46, x47, l48, x52, x53⟩ : journal_Journal).next_) + r54.2.1)) ((⟨x44, x45, x46, x47, l48, x52, x53⟩ : journal_Journal).last_) p65 (((⟨x44, x45, x46, x47, l48, x52, x53⟩ : journal_Journal).list_) ++ ([r54.1] : List ByteArray)) c66 ((⟨x44, x45, x46, x47, l48, x52, x53⟩ : journal_Journal).sure_) ((⟨x44, x45, x46, x47, l48, x52, x53⟩ : journal_Journal).dead_), own eStr 9 p65 c66 (((⟨x44, x45, x46, x47, l48, x52, x53⟩ : journal_Journal).list_) ++ ([r54.1] : List ByteArray))] ++ F0) rfl hs) ?_)))
        refine aw_vals [23, 24] (f' := 1) (m' := 33554431) [10, 92, 98] [(10, pP b40), (92, i6 r54.2.2.1), (98, .pointer (some ⟨b40, 4, none⟩))] (fun _ _ _ _ _ h => calm_fin (P := Tryz.prog) (fn := Tryz.f15) _ _ _ _ _ h) (fun w hs => sat_pulls [1, 2, 2, 3, 3] (G := [own eStr 9 p63 1 ([r54.1] : List ByteArray), o3 b40 b0 ((⟨x44, x45, x46, x47, l48, x52, x53⟩ : journal_Journal).base_) ((⟨x44, x45, x46, x47, l48, x52, x53⟩ : journal_Journal).size_) (IntKind.i64.wrap (((⟨x44, x45, x46, x47, l48, x52, x53⟩ : journal_Journal).next_) + r54.2.1)) ((⟨x44, x45, x46, x47, l48, x52, x53⟩ : journal_Journal).last_) p65 (((⟨x44, x45, x46, x47, l48, x52, x53⟩ : journal_Journal).list_) ++ ([r54.1] : List ByteArray)) c66 ((⟨x44, x45, x46, x47, l48, x52, x53⟩ : journal_Journal).sure_) ((⟨x44, x45, x46, x47, l48, x52, x53⟩ : journal_Journal).dead_), own eStr 9 p65 c66 (((⟨x44, x45, x46, x47, l48, x52, x53⟩ : journal_Journal).list_) ++ ([r54.1] : List ByteArray))] ++ F0) rfl hs) rfl (by kernel_rfl) ?_
        refine aw_only 25 (m' := 67108863) (by kernel_rfl) (by kernel_rfl) (pw_store 2 #[pP b0, i6 ((⟨x44, x45, x46, x47, l48, x52, x53⟩ : journal_Journal).base_), i6 ((⟨x44, x45, x46, x47, l48, x52, x53⟩ : journal_Journal).size_), i6 (IntKind.i64.wrap (((⟨x44, x45, x46, x47, l48, x52, x53⟩ : journal_Journal).next_) + r54.2.1)), i6 r54.2.2.1, .slice p65 (((⟨x44, x45, x46, x47, l48, x52, x53⟩ : journal_Journal).list_) ++ ([r54.1] : List ByteArray)).length c66, i6 ((⟨x44, x45, x46, x47, l48, x52, x53⟩ : journal_Journal).sure_), .bool ((⟨x44, x45, x46, x47, l48, x52, x53⟩ : journal_Journal).dead_)] rfl rfl rfl rfl rfl rfl rfl (by kernel_rfl) (nw_H (H' := [own eStr 9 p63 1 ([r54.1] : List ByteArray), imm I, o3 b40 b0 ((⟨x44, x45, x46, x47, l48, x52, x53⟩ : journal_Journal).base_) ((⟨x44, x45, x46, x47, l48, x52, x53⟩ : journal_Journal).size_) (IntKind.i64.wrap (((⟨x44, x45, x46, x47, l48, x52, x53⟩ : journal_Journal).next_) + r54.2.1)) r54.2.2.1 p65 (((⟨x44, x45, x46, x47, l48, x52, x53⟩ : journal_Journal).list_) ++ ([r54.1] : List ByteArray)) c66 ((⟨x44, x45, x46, x47, l48, x52, x53⟩ : journal_Journal).sure_) ((⟨x44, x45, x46, x47, l48, x52, x53⟩ : journal_Journal).dead_), o1 b0 b1 m0.boot_ m0.n_, o0 b1 p0 m1.sure_ c0 p1 m1.off_ m1.armed_ m1.left_ m1.fall_.Keep m1.fall_.Tear m1.acts_ m1.falls_, own eStr 9 p65 c66 (((⟨x44, x45, x46, x47, l48, x52, x53⟩ : journal_Journal).list_) ++ ([r54.1] : List ByteArray)), own e_disk_sector 51 p0 c0 m1.sure_, mpo (kInt .i64) (fun x : disk_sector => Value.agg #[.string x.s_, i6 x.at_]) p1 m1.wait_] ++ F0) rfl (aw_last (by kernel_rfl) ?_)))
        refine aw_keep [10] (L' := [(10, pP b40)]) rfl ?_
        refine aw_end (by kernel_rfl) ?_
        refine ew_blk ?_
        have hR := Option.some.inj hF
        subst hR
        have hR := hL43
        try dsimp only at hR
        exact fun a w hf hs => ⟨k, Nat.lt_succ_self k, (⟨x44, x45, x46, x47, l48, x52, x53⟩ : journal_Journal).base_, (⟨x44, x45, x46, x47, l48, x52, x53⟩ : journal_Journal).size_, IntKind.i64.wrap (((⟨x44, x45, x46, x47, l48, x52, x53⟩ : journal_Journal).next_) + r54.2.1), r54.2.2.1, ((⟨x44, x45, x46, x47, l48, x52, x53⟩ : journal_Journal).list_) ++ ([r54.1] : List ByteArray), (⟨x44, x45, x46, x47, l48, x52, x53⟩ : journal_Journal).sure_, (⟨x44, x45, x46, x47, l48, x52, x53⟩ : journal_Journal).dead_, p65, c66, hR, hf.keep [10], sat_to [0, 0, 0, 1, 0, 0, 0, 0] 1 rfl hs⟩
      refine pw_quiet (v := i6 ((⟨x44, x45, x46, x47, l48, x52, x53⟩ : journal_Journal).next_)) rfl rfl rfl rfl (q_load 1 rfl rfl rfl (by kernel_rfl)) (aw_next (fun w hs => sat_pulls [0, 1, 1, 2, 2] (G := [o3 b40 b0 ((⟨x44, x45, x46, x47, l48, x52, x53⟩ : journal_Journal).base_) ((⟨x44, x45, x46, x47, l48, x52, x53⟩ : journal_Journal).size_) ((⟨x44, x45, x46, x47, l48, x52, x53⟩ : journal_Journal).next_) ((⟨x44, x45, x46, x47, l48, x52, x53⟩ : journal_Journal).last_) p49 ((⟨x44, x45, x46, x47, l48, x52, x53⟩ : journal_Journal).list_) c50 ((⟨x44, x45, x46, x47, l48, x52, x53⟩ : journal_Journal).sure_) ((⟨x44, x45, x46, x47, l48, x52, x53⟩ : journal_Journal).dead_), own eStr 9 p49 c50 ((⟨x44, x45, x46, x47, l48, x52, x53⟩ : journal_Journal).list_)] ++ F0) rfl hs) ?_)
      refine aw_vals [15] (f' := 11) (m' := 130303) [10, 76, 77, 78, 82, 83, 91, 92] [(10, pP b40), (76, pP b40), (77, pP b40), (78, pP b40), (82, .slice p49 ((⟨x44, x45, x46, x47, l48, x52, x53⟩ : journal_Journal).list_).length c50), (83, .string r54.1), (91, i6 (IntKind.i64.wrap (((⟨x44, x45, x46, x47, l48, x52, x53⟩ : journal_Journal).next_) + r54.2.1))), (92, i6 r54.2.2.1)] (fun _ _ _ _ _ h => calm_fin (P := Tryz.prog) (fn := Tryz.f15) _ _ _ _ _ h) (fun w hs => sat_pulls [0, 1, 1, 2, 2] (G := [o3 b40 b0 ((⟨x44, x45, x46, x47, l48, x52, x53⟩ : journal_Journal).base_) ((⟨x44, x45, x46, x47, l48, x52, x53⟩ : journal_Journal).size_) ((⟨x44, x45, x46, x47, l48, x52, x53⟩ : journal_Journal).next_) ((⟨x44, x45, x46, x47, l48, x52, x53⟩ : journal_Journal).last_) p49 ((⟨x44, x45, x46, x47, l48, x52, x53⟩ : journal_Journal).list_) c50 ((⟨x44, x45, x46, x47, l48, x52, x53⟩ : journal_Journal).sure_) ((⟨x44, x45, x46, x47, l48, x52, x53⟩ : journal_Journal).dead_), own eStr 9 p49 c50 ((⟨x44, x45, x46, x47, l48, x52, x53⟩ : journal_Journal).list_)] ++ F0) rfl hs) rfl (by kernel_rfl) ?_
      refine aw_only 8 (m' := 130559) (by kernel_rfl) (by kernel_rfl) (pw_buildSlice (E := 9) eStr ([r54.1] : List ByteArray) rfl rfl rfl rfl rfl (by kernel_rfl) rfl (by kernel_rfl) rfl (by decide) rfl fun p63 => aw_next (fun w hs => sat_pulls [1, 2, 2, 3, 3] (G := [own eStr 9 p63 1 ([r54.1] : List ByteArray), o3 b40 b0 ((⟨x44, x45, x46, x47, l48, x52, x53⟩ : journal_Journal).base_) ((⟨x44, x45, x46, x47, l48, x52, x53⟩ : journal_Journal).size_) ((⟨x44, x45, x46, x47, l48, x52, x53⟩ : journal_Journal).next_) ((⟨x44, x45, x46, x47, l48, x52, x53⟩ : journal_Journal).last_) p49 ((⟨x44, x45, x46, x47, l48, x52, x53⟩ : journal_Journal).list_) c50 ((⟨x44, x45, x46, x47, l48, x52, x53⟩ : journal_Journal).sure_) ((⟨x44, x45, x46, x47, l48, x52, x53⟩ : journal_Journal).dead_), own eStr 9 p49 c50 ((⟨x44, x45, x46, x47, l48, x52, x53⟩ : journal_Journal).list_)] ++ F0) rfl hs) ?_)
      refine aw_only 9 (m' := 131071) (by kernel_rfl) (by kernel_rfl) (pw_append 5 (l' := ([r54.1] : List ByteArray)) rfl rfl rfl rfl rfl rfl (by kernel_rfl) (by kernel_rfl) rfl rfl rfl (src_own (E' := 9) 0 rfl (by kernel_rfl) rfl) rfl h60.1 h60.2 fun p65 c66 => nw_H (H' := [own eStr 9 p63 1 ([r54.1] : List ByteArray), imm I, o3 b40 b0 ((⟨x44, x45, x46, x47, l48, x52, x53⟩ : journal_Journal).base_) ((⟨x44, x45, x46, x47, l48, x52, x53⟩ : journal_Journal).size_) ((⟨x44, x45, x46, x47, l48, x52, x53⟩ : journal_Journal).next_) ((⟨x44, x45, x46, x47, l48, x52, x53⟩ : journal_Journal).last_) p49 ((⟨x44, x45, x46, x47, l48, x52, x53⟩ : journal_Journal).list_) c50 ((⟨x44, x45, x46, x47, l48, x52, x53⟩ : journal_Journal).sure_) ((⟨x44, x45, x46, x47, l48, x52, x53⟩ : journal_Journal).dead_), o1 b0 b1 m0.boot_ m0.n_, o0 b1 p0 m1.sure_ c0 p1 m1.off_ m1.armed_ m1.left_ m1.fall_.Keep m1.fall_.Tear m1.acts_ m1.falls_, own eStr 9 p65 c66 (((⟨x44, x45, x46, x47, l48, x52, x53⟩ : journal_Journal).list_) ++ ([r54.1] : List ByteArray)), own e_disk_sector 51 p0 c0 m1.sure_, mpo (kInt .i64) (fun x : disk_sector => Value.agg #[.string x.s_, i6 x.at_]) p1 m1.wait_] ++ F0) rfl (aw_next (fun w hs => sat_pulls [1, 2, 2, 3, 3] (G := [own eStr 9 p63 1 ([r54.1] : List ByteArray), o3 b40 b0 ((⟨x44, x45, x46, x47, l48, x52, x53⟩ : journal_Journal).base_) ((⟨x44, x45, x46, x47, l48, x52, x53⟩ : journal_Journal).size_) ((⟨x44, x45, x46, x47, l48, x52, x53⟩ : journal_Journal).next_) ((⟨x44, x45, x46, x47, l48, x52, x53⟩ : journal_Journal).last_) p49 ((⟨x44, x45, x46, x47, l48, x52, x53⟩ : journal_Journal).list_) c50 ((⟨x44, x45, x46, x47, l48, x52, x53⟩ : journal_Journal).sure_) ((⟨x44, x45, x46, x47, l48, x52, x53⟩ : journal_Journal).dead_), own eStr 9 p65 c66 (((⟨x44, x45, x46, x47, l48, x52, x53⟩ : journal_Journal).list_) ++ ([r54.1] : List ByteArray))] ++ F0) rfl hs) ?_))
      refine aw_vals [17, 18] (f' := 7) (m' := 524287) [10, 77, 78, 85, 91, 92, 94] [(10, pP b40), (77, pP b40), (78, pP b40), (85, .slice p65 (((⟨x44, x45, x46, x47, l48, x52, x53⟩ : journal_Journal).list_) ++ ([r54.1] : List ByteArray)).length c66), (91, i6 (IntKind.i64.wrap (((⟨x44, x45, x46, x47, l48, x52, x53⟩ : journal_Journal).next_) + r54.2.1))), (92, i6 r54.2.2.1), (94, .pointer (some ⟨b40, 5, none⟩))] (fun _ _ _ _ _ h => calm_fin (P := Tryz.prog) (fn := Tryz.f15) _ _ _ _ _ h) (fun w hs => sat_pulls [1, 2, 2, 3, 3] (G := [own eStr 9 p63 1 ([r54.1] : List ByteArray), o3 b40 b0 ((⟨x44, x45, x46, x47, l48, x52, x53⟩ : journal_Journal).base_) ((⟨x44, x45, x46, x47, l48, x52, x53⟩ : journal_Journal).size_) ((⟨x44, x45, x46, x47, l48, x52, x53⟩ : journal_Journal).next_) ((⟨x44, x45, x46, x47, l48, x52, x53⟩ : journal_Journal).last_) p49 ((⟨x44, x45, x46, x47, l48, x52, x53⟩ : journal_Journal).list_) c50 ((⟨x44, x45, x46, x47, l48, x52, x53⟩ : journal_Journal).sure_) ((⟨x44, x45, x46, x47, l48, x52, x53⟩ : journal_Journal).dead_), own eStr 9 p65 c66 (((⟨x44, x45, x46, x47, l48, x52, x53⟩ : journal_Journal).list_) ++ ([r54.1] : List ByteArray))] ++ F0) rfl hs) rfl (by kernel_rfl) ?_
      refine aw_only 19 (m' := 1048575) (by kernel_rfl) (by kernel_rfl) (pw_store 2 #[pP b0, i6 ((⟨x44, x45, x46, x47, l48, x52, x53⟩ : journal_Journal).base_), i6 ((⟨x44, x45, x46, x47, l48, x52, x53⟩ : journal_Journal).size_), i6 ((⟨x44, x45, x46, x47, l48, x52, x53⟩ : journal_Journal).next_), i6 ((⟨x44, x45, x46, x47, l48, x52, x53⟩ : journal_Journal).last_), .slice p65 (((⟨x44, x45, x46, x47, l48, x52, x53⟩ : journal_Journal).list_) ++ ([r54.1] : List ByteArray)).length c66, i6 ((⟨x44, x45, x46, x47, l48, x52, x53⟩ : journal_Journal).sure_), .bool ((⟨x44, x45, x46, x47, l48, x52, x53⟩ : journal_Journal).dead_)] rfl rfl rfl rfl rfl rfl rfl (by kernel_rfl) (nw_H (H' := [own eStr 9 p63 1 ([r54.1] : List ByteArray), imm I, o3 b40 b0 ((⟨x44, x45, x46, x47, l48, x52, x53⟩ : journal_Journal).base_) ((⟨x44, x45, x46, x47, l48, x52, x53⟩ : journal_Journal).size_) ((⟨x44, x45, x46, x47, l48, x52, x53⟩ : journal_Journal).next_) ((⟨x44, x45, x46, x47, l48, x52, x53⟩ : journal_Journal).last_) p65 (((⟨x44, x45, x46, x47, l48, x52, x53⟩ : journal_Journal).list_) ++ ([r54.1] : List ByteArray)) c66 ((⟨x44, x45, x46, x47, l48, x52, x53⟩ : journal_Journal).sure_) ((⟨x44, x45, x46, x47, l48, x52, x53⟩ : journal_Journal).dead_), o1 b0 b1 m0.boot_ m0.n_, o0 b1 p0 m1.sure_ c0 p1 m1.off_ m1.armed_ m1.left_ m1.fall_.Keep m1.fall_.Tear m1.acts_ m1.falls_, own eStr 9 p65 c66 (((⟨x44, x45, x46, x47, l48, x52, x53⟩ : journal_Journal).list_) ++ ([r54.1] : List ByteArray)), own e_disk_sector 51 p0 c0 m1.sure_, mpo (kInt .i64) (fun x : disk_sector => Value.agg #[.string x.s_, i6 x.at_]) p1 m1.wait_] ++ F0) rfl (aw_next (fun w hs => sat_pulls [1, 2, 2, 3, 3] (G := [own eStr 9 p63 1 ([r54.1] : List ByteArray), o3 b40 b0 ((⟨x44, x45, x46, x47, l48, x52, x53⟩ : journal_Journal).base_) ((⟨x44, x45, x46, x47, l48, x52, x53⟩ : journal_Journal).size_) ((⟨x44, x45, x46, x47, l48, x52, x53⟩ : journal_Journal).next_) ((⟨x44, x45, x46, x47, l48, x52, x53⟩ : journal_Journal).last_) p65 (((⟨x44, x45, x46, x47, l48, x52, x53⟩ : journal_Journal).list_) ++ ([r54.1] : List ByteArray)) c66 ((⟨x44, x45, x46, x47, l48, x52, x53⟩ : journal_Journal).sure_) ((⟨x44, x45, x46, x47, l48, x52, x53⟩ : journal_Journal).dead_), own eStr 9 p65 c66 (((⟨x44, x45, x46, x47, l48, x52, x53⟩ : journal_Journal).list_) ++ ([r54.1] : List ByteArray))] ++ F0) rfl hs) ?_)))
      refine aw_vals [20, 21] (f' := 4) (m' := 4194303) [10, 78, 91, 92, 96] [(10, pP b40), (78, pP b40), (91, i6 (IntKind.i64.wrap (((⟨x44, x45, x46, x47, l48, x52, x53⟩ : journal_Journal).next_) + r54.2.1))), (92, i6 r54.2.2.1), (96, .pointer (some ⟨b40, 3, none⟩))] (fun _ _ _ _ _ h => calm_fin (P := Tryz.prog) (fn := Tryz.f15) _ _ _ _ _ h) (fun w hs => sat_pulls [1, 2, 2, 3, 3] (G := [own eStr 9 p63 1 ([r54.1] : List ByteArray), o3 b40 b0 ((⟨x44, x45, x46, x47, l48, x52, x53⟩ : journal_Journal).base_) ((⟨x44, x45, x46, x47, l48, x52, x53⟩ : journal_Journal).size_) ((⟨x44, x45, x46, x47, l48, x52, x53⟩ : journal_Journal).next_) ((⟨x44, x45, x46, x47, l48, x52, x53⟩ : journal_Journal).last_) p65 (((⟨x44, x45, x46, x47, l48, x52, x53⟩ : journal_Journal).list_) ++ ([r54.1] : List ByteArray)) c66 ((⟨x44, x45, x46, x47, l48, x52, x53⟩ : journal_Journal).sure_) ((⟨x44, x45, x46, x47, l48, x52, x53⟩ : journal_Journal).dead_), own eStr 9 p65 c66 (((⟨x44, x45, x46, x47, l48, x52, x53⟩ : journal_Journal).list_) ++ ([r54.1] : List ByteArray))] ++ F0) rfl hs) rfl (by kernel_rfl) ?_
      refine aw_only 22 (m' := 8388607) (by kernel_rfl) (by kernel_rfl) (pw_store 2 #[pP b0, i6 ((⟨x44, x45, x46, x47, l48, x52, x53⟩ : journal_Journal).base_), i6 ((⟨x44, x45, x46, x47, l48, x52, x53⟩ : journal_Journal).size_), i6 (IntKind.i64.wrap (((⟨x44, x45, x46, x47, l48, x52, x53⟩ : journal_Journal).next_) + r54.2.1)), i6 ((⟨x44, x45, x46, x47, l48, x52, x53⟩ : journal_Journal).last_), .slice p65 (((⟨x44, x45, x46, x47, l48, x52, x53⟩ : journal_Journal).list_) ++ ([r54.1] : List ByteArray)).length c66, i6 ((⟨x44, x45, x46, x47, l48, x52, x53⟩ : journal_Journal).sure_), .bool ((⟨x44, x45, x46, x47, l48, x52, x53⟩ : journal_Journal).dead_)] rfl rfl rfl rfl rfl rfl rfl (by kernel_rfl) (nw_H (H' := [own eStr 9 p63 1 ([r54.1] : List ByteArray), imm I, o3 b40 b0 ((⟨x44, x45, x46, x47, l48, x52, x53⟩ : journal_Journal).base_) ((⟨x44, x45, x46, x47, l48, x52, x53⟩ : journal_Journal).size_) (IntKind.i64.wrap (((⟨x44, x45, x46, x47, l48, x52, x53⟩ : journal_Journal).next_) + r54.2.1)) ((⟨x44, x45, x46, x47, l48, x52, x53⟩ : journal_Journal).last_) p65 (((⟨x44, x45, x46, x47, l48, x52, x53⟩ : journal_Journal).list_) ++ ([r54.1] : List ByteArray)) c66 ((⟨x44, x45, x46, x47, l48, x52, x53⟩ : journal_Journal).sure_) ((⟨x44, x45, x46, x47, l48, x52, x53⟩ : journal_Journal).dead_), o1 b0 b1 m0.boot_ m0.n_, o0 b1 p0 m1.sure_ c0 p1 m1.off_ m1.armed_ m1.left_ m1.fall_.Keep m1.fall_.Tear m1.acts_ m1.falls_, own eStr 9 p65 c66 (((⟨x44, x45, x46, x47, l48, x52, x53⟩ : journal_Journal).list_) ++ ([r54.1] : List ByteArray)), own e_disk_sector 51 p0 c0 m1.sure_, mpo (kInt .i64) (fun x : disk_sector => Value.agg #[.string x.s_, i6 x.at_]) p1 m1.wait_] ++ F0) rfl (aw_next (fun w hs => sat_pulls [1, 2, 2, 3, 3] (G := [own eStr 9 p63 1 ([r54.1] : List ByteArray), o3 b40 b0 ((⟨x44, x45, x46, x47, l48, x52, x53⟩ : journal_Journal).base_) ((⟨x44, x45, x46, x47, l48, x52, x53⟩ : journal_Journal).size_) (IntKind.i64.wrap (((⟨x44, x45, x46, x47, l48, x52, x53⟩ : journal_Journal).next_) + r54.2.1)) ((⟨x44, x45, x46, x47, l48, x52, x53⟩ : journal_Journal).last_) p65 (((⟨x44, x45, x46, x47, l48, x52, x53⟩ : journal_Journal).list_) ++ ([r54.1] : List ByteArray)) c66 ((⟨x44, x45, x46, x47, l48, x52, x53⟩ : journal_Journal).sure_) ((⟨x44, x45, x46, x47, l48, x52, x53⟩ : journal_Journal).dead_), own eStr 9 p65 c66 (((⟨x44, x45, x46, x47, l48, x52, x53⟩ : journal_Journal).list_) ++ ([r54.1] : List ByteArray))] ++ F0) rfl hs) ?_)))
      refine aw_vals [23, 24] (f' := 1) (m' := 33554431) [10, 92, 98] [(10, pP b40), (92, i6 r54.2.2.1), (98, .pointer (some ⟨b40, 4, none⟩))] (fun _ _ _ _ _ h => calm_fin (P := Tryz.prog) (fn := Tryz.f15) _ _ _ _ _ h) (fun w hs => sat_pulls [1, 2, 2, 3, 3] (G := [own eStr 9 p63 1 ([r54.1] : List ByteArray), o3 b40 b0 ((⟨x44, x45, x46, x47, l48, x52, x53⟩ : journal_Journal).base_) ((⟨x44, x45, x46, x47, l48, x52, x53⟩ : journal_Journal).size_) (IntKind.i64.wrap (((⟨x44, x45, x46, x47, l48, x52, x53⟩ : journal_Journal).next_) + r54.2.1)) ((⟨x44, x45, x46, x47, l48, x52, x53⟩ : journal_Journal).last_) p65 (((⟨x44, x45, x46, x47, l48, x52, x53⟩ : journal_Journal).list_) ++ ([r54.1] : List ByteArray)) c66 ((⟨x44, x45, x46, x47, l48, x52, x53⟩ : journal_Journal).sure_) ((⟨x44, x45, x46, x47, l48, x52, x53⟩ : journal_Journal).dead_), own eStr 9 p65 c66 (((⟨x44, x45, x46, x47, l48, x52, x53⟩ : journal_Journal).list_) ++ ([r54.1] : List ByteArray))] ++ F0) rfl hs) rfl (by kernel_rfl) ?_
      refine aw_only 25 (m' := 67108863) (by kernel_rfl) (by kernel_rfl) (pw_store 2 #[pP b0, i6 ((⟨x44, x45, x46, x47, l48, x52, x53⟩ : journal_Journal).base_), i6 ((⟨x44, x45, x46, x47, l48, x52, x53⟩ : journal_Journal).size_), i6 (IntKind.i64.wrap (((⟨x44, x45, x46, x47, l48, x52, x53⟩ : journal_Journal).next_) + r54.2.1)), i6 r54.2.2.1, .slice p65 (((⟨x44, x45, x46, x47, l48, x52, x53⟩ : journal_Journal).list_) ++ ([r54.1] : List ByteArray)).length c66, i6 ((⟨x44, x45, x46, x47, l48, x52, x53⟩ : journal_Journal).sure_), .bool ((⟨x44, x45, x46, x47, l48, x52, x53⟩ : journal_Journal).dead_)] rfl rfl rfl rfl rfl rfl rfl (by kernel_rfl) (nw_H (H' := [own eStr 9 p63 1 ([r54.1] : List ByteArray), imm I, o3 b40 b0 ((⟨x44, x45, x46, x47, l48, x52, x53⟩ : journal_Journal).base_) ((⟨x44, x45, x46, x47, l48, x52, x53⟩ : journal_Journal).size_) (IntKind.i64.wrap (((⟨x44, x45, x46, x47, l48, x52, x53⟩ : journal_Journal).next_) + r54.2.1)) r54.2.2.1 p65 (((⟨x44, x45, x46, x47, l48, x52, x53⟩ : journal_Journal).list_) ++ ([r54.1] : List ByteArray)) c66 ((⟨x44, x45, x46, x47, l48, x52, x53⟩ : journal_Journal).sure_) ((⟨x44, x45, x46, x47, l48, x52, x53⟩ : journal_Journal).dead_), o1 b0 b1 m0.boot_ m0.n_, o0 b1 p0 m1.sure_ c0 p1 m1.off_ m1.armed_ m1.left_ m1.fall_.Keep m1.fall_.Tear m1.acts_ m1.falls_, own eStr 9 p65 c66 (((⟨x44, x45, x46, x47, l48, x52, x53⟩ : journal_Journal).list_) ++ ([r54.1] : List ByteArray)), own e_disk_sector 51 p0 c0 m1.sure_, mpo (kInt .i64) (fun x : disk_sector => Value.agg #[.string x.s_, i6 x.at_]) p1 m1.wait_] ++ F0) rfl (aw_last (by kernel_rfl) ?_)))
      refine aw_keep [10] (L' := [(10, pP b40)]) rfl ?_
      refine aw_end (by kernel_rfl) ?_
      refine ew_blk ?_
      have hR := Option.some.inj hF
      subst hR
      have hR := hL43
      try dsimp only at hR
      exact fun a w hf hs => ⟨k, Nat.lt_succ_self k, (⟨x44, x45, x46, x47, l48, x52, x53⟩ : journal_Journal).base_, (⟨x44, x45, x46, x47, l48, x52, x53⟩ : journal_Journal).size_, IntKind.i64.wrap (((⟨x44, x45, x46, x47, l48, x52, x53⟩ : journal_Journal).next_) + r54.2.1), r54.2.2.1, ((⟨x44, x45, x46, x47, l48, x52, x53⟩ : journal_Journal).list_) ++ ([r54.1] : List ByteArray), (⟨x44, x45, x46, x47, l48, x52, x53⟩ : journal_Journal).sure_, (⟨x44, x45, x46, x47, l48, x52, x53⟩ : journal_Journal).dead_, p65, c66, hR, hf.keep [10], sat_to [0, 0, 0, 1, 0, 0, 0, 0] 1 rfl hs⟩
    · refine pw_buildSlice (E := 9) eStr ([r54.1] : List ByteArray) rfl rfl rfl rfl rfl (by kernel_rfl) rfl (by kernel_rfl) rfl (by decide) rfl fun p63 => aw_next (fun w hs => sat_pulls [1, 2, 2, 3, 3] (G := [own eStr 9 p63 1 ([r54.1] : List ByteArray), o3 b40 b0 ((⟨x44, x45, x46, x47, l48, x52, x53⟩ : journal_Journal).base_) ((⟨x44, x45, x46, x47, l48, x52, x53⟩ : journal_Journal).size_) ((⟨x44, x45, x46, x47, l48, x52, x53⟩ : journal_Journal).next_) ((⟨x44, x45, x46, x47, l48, x52, x53⟩ : journal_Journal).last_) p49 ((⟨x44, x45, x46, x47, l48, x52, x53⟩ : journal_Journal).list_) c50 ((⟨x44, x45, x46, x47, l48, x52, x53⟩ : journal_Journal).sure_) ((⟨x44, x45, x46, x47, l48, x52, x53⟩ : journal_Journal).dead_), own eStr 9 p49 c50 ((⟨x44, x45, x46, x47, l48, x52, x53⟩ : journal_Journal).list_)] ++ F0) rfl hs) ?_
      refine aw_two 6 13 (mi := 89599) (mj := 97727) (by kernel_rfl) (by kernel_rfl) (by kernel_rfl) ?_ ?_
      · refine pw_quiet (v := .slice p49 ((⟨x44, x45, x46, x47, l48, x52, x53⟩ : journal_Journal).list_).length c50) rfl rfl rfl rfl (q_load 2 rfl rfl rfl (by kernel_rfl)) (aw_next (fun w hs => sat_pulls [1, 2, 2, 3, 3] (G := [own eStr 9 p63 1 ([r54.1] : List ByteArray), o3 b40 b0 ((⟨x44, x45, x46, x47, l48, x52, x53⟩ : journal_Journal).base_) ((⟨x44, x45, x46, x47, l48, x52, x53⟩ : journal_Journal).size_) ((⟨x44, x45, x46, x47, l48, x52, x53⟩ : journal_Journal).next_) ((⟨x44, x45, x46, x47, l48, x52, x53⟩ : journal_Journal).last_) p49 ((⟨x44, x45, x46, x47, l48, x52, x53⟩ : journal_Journal).list_) c50 ((⟨x44, x45, x46, x47, l48, x52, x53⟩ : journal_Journal).sure_) ((⟨x44, x45, x46, x47, l48, x52, x53⟩ : journal_Journal).dead_), own eStr 9 p49 c50 ((⟨x44, x45, x46, x47, l48, x52, x53⟩ : journal_Journal).list_)] ++ F0) rfl hs) ?_)
        refine aw_two 9 13 (mi := 90111) (mj := 97791) (by kernel_rfl) (by kernel_rfl) (by kernel_rfl) ?_ ?_
        · refine pw_append 5 (l' := ([r54.1] : List ByteArray)) rfl rfl rfl rfl rfl rfl (by kernel_rfl) (by kernel_rfl) rfl rfl rfl (src_own (E' := 9) 0 rfl (by kernel_rfl) rfl) rfl h60.1 h60.2 fun p65 c66 => nw_H (H' := [own eStr 9 p63 1 ([r54.1] : List ByteArray), imm I, o3 b40 b0 ((⟨x44, x45, x46, x47, l48, x52, x53⟩ : journal_Journal).base_) ((⟨x44, x45, x46, x47, l48, x52, x53⟩ : journal_Journal).size_) ((⟨x44, x45, x46, x47, l48, x52, x53⟩ : journal_Journal).next_) ((⟨x44, x45, x46, x47, l48, x52, x53⟩ : journal_Journal).last_) p49 ((⟨x44, x45, x46, x47, l48, x52, x53⟩ : journal_Journal).list_) c50 ((⟨x44, x45, x46, x47, l48, x52, x53⟩ : journal_Journal).sure_) ((⟨x44, x45, x46, x47, l48, x52, x53⟩ : journal_Journal).dead_), o1 b0 b1 m0.boot_ m0.n_, o0 b1 p0 m1.sure_ c0 p1 m1.off_ m1.armed_ m1.left_ m1.fall_.Keep m1.fall_.Tear m1.acts_ m1.falls_, own eStr 9 p65 c66 (((⟨x44, x45, x46, x47, l48, x52, x53⟩ : journal_Journal).list_) ++ ([r54.1] : List ByteArray)), own e_disk_sector 51 p0 c0 m1.sure_, mpo (kInt .i64) (fun x : disk_sector => Value.agg #[.string x.s_, i6 x.at_]) p1 m1.wait_] ++ F0) rfl (aw_next (fun w hs => sat_pulls [1, 2, 2, 3, 3] (G := [own eStr 9 p63 1 ([r54.1] : List ByteArray), o3 b40 b0 ((⟨x44, x45, x46, x47, l48, x52, x53⟩ : journal_Journal).base_) ((⟨x44, x45, x46, x47, l48, x52, x53⟩ : journal_Journal).size_) ((⟨x44, x45, x46, x47, l48, x52, x53⟩ : journal_Journal).next_) ((⟨x44, x45, x46, x47, l48, x52, x53⟩ : journal_Journal).last_) p49 ((⟨x44, x45, x46, x47, l48, x52, x53⟩ : journal_Journal).list_) c50 ((⟨x44, x45, x46, x47, l48, x52, x53⟩ : journal_Journal).sure_) ((⟨x44, x45, x46, x47, l48, x52, x53⟩ : journal_Journal).dead_), own eStr 9 p65 c66 (((⟨x44, x45, x46, x47, l48, x52, x53⟩ : journal_Journal).list_) ++ ([r54.1] : List ByteArray))] ++ F0) rfl hs) ?_)
          refine aw_only 13 (m' := 98303) (by kernel_rfl) (by kernel_rfl) (pw_quiet (v := i6 ((⟨x44, x45, x46, x47, l48, x52, x53⟩ : journal_Journal).next_)) rfl rfl rfl rfl (q_load 2 rfl rfl rfl (by kernel_rfl)) (aw_next (fun w hs => sat_pulls [1, 2, 2, 3, 3] (G := [own eStr 9 p63 1 ([r54.1] : List ByteArray), o3 b40 b0 ((⟨x44, x45, x46, x47, l48, x52, x53⟩ : journal_Journal).base_) ((⟨x44, x45, x46, x47, l48, x52, x53⟩ : journal_Journal).size_) ((⟨x44, x45, x46, x47, l48, x52, x53⟩ : journal_Journal).next_) ((⟨x44, x45, x46, x47, l48, x52, x53⟩ : journal_Journal).last_) p49 ((⟨x44, x45, x46, x47, l48, x52, x53⟩ : journal_Journal).list_) c50 ((⟨x44, x45, x46, x47, l48, x52, x53⟩ : journal_Journal).sure_) ((⟨x44, x45, x46, x47, l48, x52, x53⟩ : journal_Journal).dead_), own eStr 9 p65 c66 (((⟨x44, x45, x46, x47, l48, x52, x53⟩ : journal_Journal).list_) ++ ([r54.1] : List ByteArray))] ++ F0) rfl hs) ?_))
          refine aw_vals [15, 17, 18] (f' := 7) (m' := 524287) [10, 77, 78, 85, 91, 92, 94] [(10, pP b40), (77, pP b40), (78, pP b40), (85, .slice p65 (((⟨x44, x45, x46, x47, l48, x52, x53⟩ : journal_Journal).list_) ++ ([r54.1] : List ByteArray)).length c66), (91, i6 (IntKind.i64.wrap (((⟨x44, x45, x46, x47, l48, x52, x53⟩ : journal_Journal).next_) + r54.2.1))), (92, i6 r54.2.2.1), (94, .pointer (some ⟨b40, 5, none⟩))] (fun _ _ _ _ _ h => calm_fin (P := Tryz.prog) (fn := Tryz.f15) _ _ _ _ _ h) (fun w hs => sat_pulls [1, 2, 2, 3, 3] (G := [own eStr 9 p63 1 ([r54.1] : List ByteArray), o3 b40 b0 ((⟨x44, x45, x46, x47, l48, x52, x53⟩ : journal_Journal).base_) ((⟨x44, x45, x46, x47, l48, x52, x53⟩ : journal_Journal).size_) ((⟨x44, x45, x46, x47, l48, x52, x53⟩ : journal_Journal).next_) ((⟨x44, x45, x46, x47, l48, x52, x53⟩ : journal_Journal).last_) p49 ((⟨x44, x45, x46, x47, l48, x52, x53⟩ : journal_Journal).list_) c50 ((⟨x44, x45, x46, x47, l48, x52, x53⟩ : journal_Journal).sure_) ((⟨x44, x45, x46, x47, l48, x52, x53⟩ : journal_Journal).dead_), own eStr 9 p65 c66 (((⟨x44, x45, x46, x47, l48, x52, x53⟩ : journal_Journal).list_) ++ ([r54.1] : List ByteArray))] ++ F0) rfl hs) rfl (by kernel_rfl) ?_
          refine aw_only 19 (m' := 1048575) (by kernel_rfl) (by kernel_rfl) (pw_store 2 #[pP b0, i6 ((⟨x44, x45, x46, x47, l48, x52, x53⟩ : journal_Journal).base_), i6 ((⟨x44, x45, x46, x47, l48, x52, x53⟩ : journal_Journal).size_), i6 ((⟨x44, x45, x46, x47, l48, x52, x53⟩ : journal_Journal).next_), i6 ((⟨x44, x45, x46, x47, l48, x52, x53⟩ : journal_Journal).last_), .slice p65 (((⟨x44, x45, x46, x47, l48, x52, x53⟩ : journal_Journal).list_) ++ ([r54.1] : List ByteArray)).length c66, i6 ((⟨x44, x45, x46, x47, l48, x52, x53⟩ : journal_Journal).sure_), .bool ((⟨x44, x45, x46, x47, l48, x52, x53⟩ : journal_Journal).dead_)] rfl rfl rfl rfl rfl rfl rfl (by kernel_rfl) (nw_H (H' := [own eStr 9 p63 1 ([r54.1] : List ByteArray), imm I, o3 b40 b0 ((⟨x44, x45, x46, x47, l48, x52, x53⟩ : journal_Journal).base_) ((⟨x44, x45, x46, x47, l48, x52, x53⟩ : journal_Journal).size_) ((⟨x44, x45, x46, x47, l48, x52, x53⟩ : journal_Journal).next_) ((⟨x44, x45, x46, x47, l48, x52, x53⟩ : journal_Journal).last_) p65 (((⟨x44, x45, x46, x47, l48, x52, x53⟩ : journal_Journal).list_) ++ ([r54.1] : List ByteArray)) c66 ((⟨x44, x45, x46, x47, l48, x52, x53⟩ : journal_Journal).sure_) ((⟨x44, x45, x46, x47, l48, x52, x53⟩ : journal_Journal).dead_), o1 b0 b1 m0.boot_ m0.n_, o0 b1 p0 m1.sure_ c0 p1 m1.off_ m1.armed_ m1.left_ m1.fall_.Keep m1.fall_.Tear m1.acts_ m1.falls_, own eStr 9 p65 c66 (((⟨x44, x45, x46, x47, l48, x52, x53⟩ : journal_Journal).list_) ++ ([r54.1] : List ByteArray)), own e_disk_sector 51 p0 c0 m1.sure_, mpo (kInt .i64) (fun x : disk_sector => Value.agg #[.string x.s_, i6 x.at_]) p1 m1.wait_] ++ F0) rfl (aw_next (fun w hs => sat_pulls [1, 2, 2, 3, 3] (G := [own eStr 9 p63 1 ([r54.1] : List ByteArray), o3 b40 b0 ((⟨x44, x45, x46, x47, l48, x52, x53⟩ : journal_Journal).base_) ((⟨x44, x45, x46, x47, l48, x52, x53⟩ : journal_Journal).size_) ((⟨x44, x45, x46, x47, l48, x52, x53⟩ : journal_Journal).next_) ((⟨x44, x45, x46, x47, l48, x52, x53⟩ : journal_Journal).last_) p65 (((⟨x44, x45, x46, x47, l48, x52, x53⟩ : journal_Journal).list_) ++ ([r54.1] : List ByteArray)) c66 ((⟨x44, x45, x46, x47, l48, x52, x53⟩ : journal_Journal).sure_) ((⟨x44, x45, x46, x47, l48, x52, x53⟩ : journal_Journal).dead_), own eStr 9 p65 c66 (((⟨x44, x45, x46, x47, l48, x52, x53⟩ : journal_Journal).list_) ++ ([r54.1] : List ByteArray))] ++ F0) rfl hs) ?_)))
          refine aw_vals [20, 21] (f' := 4) (m' := 4194303) [10, 78, 91, 92, 96] [(10, pP b40), (78, pP b40), (91, i6 (IntKind.i64.wrap (((⟨x44, x45, x46, x47, l48, x52, x53⟩ : journal_Journal).next_) + r54.2.1))), (92, i6 r54.2.2.1), (96, .pointer (some ⟨b40, 3, none⟩))] (fun _ _ _ _ _ h => calm_fin (P := Tryz.prog) (fn := Tryz.f15) _ _ _ _ _ h) (fun w hs => sat_pulls [1, 2, 2, 3, 3] (G := [own eStr 9 p63 1 ([r54.1] : List ByteArray), o3 b40 b0 ((⟨x44, x45, x46, x47, l48, x52, x53⟩ : journal_Journal).base_) ((⟨x44, x45, x46, x47, l48, x52, x53⟩ : journal_Journal).size_) ((⟨x44, x45, x46, x47, l48, x52, x53⟩ : journal_Journal).next_) ((⟨x44, x45, x46, x47, l48, x52, x53⟩ : journal_Journal).last_) p65 (((⟨x44, x45, x46, x47, l48, x52, x53⟩ : journal_Journal).list_) ++ ([r54.1] : List ByteArray)) c66 ((⟨x44, x45, x46, x47, l48, x52, x53⟩ : journal_Journal).sure_) ((⟨x44, x45, x46, x47, l48, x52, x53⟩ : journal_Journal).dead_), own eStr 9 p65 c66 (((⟨x44, x45, x46, x47, l48, x52, x53⟩ : journal_Journal).list_) ++ ([r54.1] : List ByteArray))] ++ F0) rfl hs) rfl (by kernel_rfl) ?_
          refine aw_only 22 (m' := 8388607) (by kernel_rfl) (by kernel_rfl) (pw_store 2 #[pP b0, i6 ((⟨x44, x45, x46, x47, l48, x52, x53⟩ : journal_Journal).base_), i6 ((⟨x44, x45, x46, x47, l48, x52, x53⟩ : journal_Journal).size_), i6 (IntKind.i64.wrap (((⟨x44, x45, x46, x47, l48, x52, x53⟩ : journal_Journal).next_) + r54.2.1)), i6 ((⟨x44, x45, x46, x47, l48, x52, x53⟩ : journal_Journal).last_), .slice p65 (((⟨x44, x45, x46, x47, l48, x52, x53⟩ : journal_Journal).list_) ++ ([r54.1] : List ByteArray)).length c66, i6 ((⟨x44, x45, x46, x47, l48, x52, x53⟩ : journal_Journal).sure_), .bool ((⟨x44, x45, x46, x47, l48, x52, x53⟩ : journal_Journal).dead_)] rfl rfl rfl rfl rfl rfl rfl (by kernel_rfl) (nw_H (H' := [own eStr 9 p63 1 ([r54.1] : List ByteArray), imm I, o3 b40 b0 ((⟨x44, x45, x46, x47, l48, x52, x53⟩ : journal_Journal).base_) ((⟨x44, x45, x46, x47, l48, x52, x53⟩ : journal_Journal).size_) (IntKind.i64.wrap (((⟨x44, x45, x46, x47, l48, x52, x53⟩ : journal_Journal).next_) + r54.2.1)) ((⟨x44, x45, x46, x47, l48, x52, x53⟩ : journal_Journal).last_) p65 (((⟨x44, x45, x46, x47, l48, x52, x53⟩ : journal_Journal).list_) ++ ([r54.1] : List ByteArray)) c66 ((⟨x44, x45, x46, x47, l48, x52, x53⟩ : journal_Journal).sure_) ((⟨x44, x45, x46, x47, l48, x52, x53⟩ : journal_Journal).dead_), o1 b0 b1 m0.boot_ m0.n_, o0 b1 p0 m1.sure_ c0 p1 m1.off_ m1.armed_ m1.left_ m1.fall_.Keep m1.fall_.Tear m1.acts_ m1.falls_, own eStr 9 p65 c66 (((⟨x44, x45, x46, x47, l48, x52, x53⟩ : journal_Journal).list_) ++ ([r54.1] : List ByteArray)), own e_disk_sector 51 p0 c0 m1.sure_, mpo (kInt .i64) (fun x : disk_sector => Value.agg #[.string x.s_, i6 x.at_]) p1 m1.wait_] ++ F0) rfl (aw_next (fun w hs => sat_pulls [1, 2, 2, 3, 3] (G := [own eStr 9 p63 1 ([r54.1] : List ByteArray), o3 b40 b0 ((⟨x44, x45, x46, x47, l48, x52, x53⟩ : journal_Journal).base_) ((⟨x44, x45, x46, x47, l48, x52, x53⟩ : journal_Journal).size_) (IntKind.i64.wrap (((⟨x44, x45, x46, x47, l48, x52, x53⟩ : journal_Journal).next_) + r54.2.1)) ((⟨x44, x45, x46, x47, l48, x52, x53⟩ : journal_Journal).last_) p65 (((⟨x44, x45, x46, x47, l48, x52, x53⟩ : journal_Journal).list_) ++ ([r54.1] : List ByteArray)) c66 ((⟨x44, x45, x46, x47, l48, x52, x53⟩ : journal_Journal).sure_) ((⟨x44, x45, x46, x47, l48, x52, x53⟩ : journal_Journal).dead_), own eStr 9 p65 c66 (((⟨x44, x45, x46, x47, l48, x52, x53⟩ : journal_Journal).list_) ++ ([r54.1] : List ByteArray))] ++ F0) rfl hs) ?_)))
          refine aw_vals [23, 24] (f' := 1) (m' := 33554431) [10, 92, 98] [(10, pP b40), (92, i6 r54.2.2.1), (98, .pointer (some ⟨b40, 4, none⟩))] (fun _ _ _ _ _ h => calm_fin (P := Tryz.prog) (fn := Tryz.f15) _ _ _ _ _ h) (fun w hs => sat_pulls [1, 2, 2, 3, 3] (G := [own eStr 9 p63 1 ([r54.1] : List ByteArray), o3 b40 b0 ((⟨x44, x45, x46, x47, l48, x52, x53⟩ : journal_Journal).base_) ((⟨x44, x45, x46, x47, l48, x52, x53⟩ : journal_Journal).size_) (IntKind.i64.wrap (((⟨x44, x45, x46, x47, l48, x52, x53⟩ : journal_Journal).next_) + r54.2.1)) ((⟨x44, x45, x46, x47, l48, x52, x53⟩ : journal_Journal).last_) p65 (((⟨x44, x45, x46, x47, l48, x52, x53⟩ : journal_Journal).list_) ++ ([r54.1] : List ByteArray)) c66 ((⟨x44, x45, x46, x47, l48, x52, x53⟩ : journal_Journal).sure_) ((⟨x44, x45, x46, x47, l48, x52, x53⟩ : journal_Journal).dead_), own eStr 9 p65 c66 (((⟨x44, x45, x46, x47, l48, x52, x53⟩ : journal_Journal).list_) ++ ([r54.1] : List ByteArray))] ++ F0) rfl hs) rfl (by kernel_rfl) ?_
          refine aw_only 25 (m' := 67108863) (by kernel_rfl) (by kernel_rfl) (pw_store 2 #[pP b0, i6 ((⟨x44, x45, x46, x47, l48, x52, x53⟩ : journal_Journal).base_), i6 ((⟨x44, x45, x46, x47, l48, x52, x53⟩ : journal_Journal).size_), i6 (IntKind.i64.wrap (((⟨x44, x45, x46, x47, l48, x52, x53⟩ : journal_Journal).next_) + r54.2.1)), i6 r54.2.2.1, .slice p65 (((⟨x44, x45, x46, x47, l48, x52, x53⟩ : journal_Journal).list_) ++ ([r54.1] : List ByteArray)).length c66, i6 ((⟨x44, x45, x46, x47, l48, x52, x53⟩ : journal_Journal).sure_), .bool ((⟨x44, x45, x46, x47, l48, x52, x53⟩ : journal_Journal).dead_)] rfl rfl rfl rfl rfl rfl rfl (by kernel_rfl) (nw_H (H' := [own eStr 9 p63 1 ([r54.1] : List ByteArray), imm I, o3 b40 b0 ((⟨x44, x45, x46, x47, l48, x52, x53⟩ : journal_Journal).base_) ((⟨x44, x45, x46, x47, l48, x52, x53⟩ : journal_Journal).size_) (IntKind.i64.wrap (((⟨x44, x45, x46, x47, l48, x52, x53⟩ : journal_Journal).next_) + r54.2.1)) r54.2.2.1 p65 (((⟨x44, x45, x46, x47, l48, x52, x53⟩ : journal_Journal).list_) ++ ([r54.1] : List ByteArray)) c66 ((⟨x44, x45, x46, x47, l48, x52, x53⟩ : journal_Journal).sure_) ((⟨x44, x45, x46, x47, l48, x52, x53⟩ : journal_Journal).dead_), o1 b0 b1 m0.boot_ m0.n_, o0 b1 p0 m1.sure_ c0 p1 m1.off_ m1.armed_ m1.left_ m1.fall_.Keep m1.fall_.Tear m1.acts_ m1.falls_, own eStr 9 p65 c66 (((⟨x44, x45, x46, x47, l48, x52, x53⟩ : journal_Journal).list_) ++ ([r54.1] : List ByteArray)), own e_disk_sector 51 p0 c0 m1.sure_, mpo (kInt .i64) (fun x : disk_sector => Value.agg #[.string x.s_, i6 x.at_]) p1 m1.wait_] ++ F0) rfl (aw_last (by kernel_rfl) ?_)))
          refine aw_keep [10] (L' := [(10, pP b40)]) rfl ?_
          refine aw_end (by kernel_rfl) ?_
          refine ew_blk ?_
          have hR := Option.some.inj hF
          subst hR
          have hR := hL43
          try dsimp only at hR
          exact fun a w hf hs => ⟨k, Nat.lt_succ_self k, (⟨x44, x45, x46, x47, l48, x52, x53⟩ : journal_Journal).base_, (⟨x44, x45, x46, x47, l48, x52, x53⟩ : journal_Journal).size_, IntKind.i64.wrap (((⟨x44, x45, x46, x47, l48, x52, x53⟩ : journal_Journal).next_) + r54.2.1), r54.2.2.1, ((⟨x44, x45, x46, x47, l48, x52, x53⟩ : journal_Journal).list_) ++ ([r54.1] : List ByteArray), (⟨x44, x45, x46, x47, l48, x52, x53⟩ : journal_Journal).sure_, (⟨x44, x45, x46, x47, l48, x52, x53⟩ : journal_Journal).dead_, p65, c66, hR, hf.keep [10], sat_to [0, 0, 0, 1, 0, 0, 0, 0] 1 rfl hs⟩
        refine pw_quiet (v := i6 ((⟨x44, x45, x46, x47, l48, x52, x53⟩ : journal_Journal).next_)) rfl rfl rfl rfl (q_load 2 rfl rfl rfl (by kernel_rfl)) (aw_next (fun w hs => sat_pulls [1, 2, 2, 3, 3] (G := [own eStr 9 p63 1 ([r54.1] : List ByteArray), o3 b40 b0 ((⟨x44, x45, x46, x47, l48, x52, x53⟩ : journal_Journal).base_) ((⟨x44, x45, x46, x47, l48, x52, x53⟩ : journal_Journal).size_) ((⟨x44, x45, x46, x47, l48, x52, x53⟩ : journal_Journal).next_) ((⟨x44, x45, x46, x47, l48, x52, x53⟩ : journal_Journal).last_) p49 ((⟨x44, x45, x46, x47, l48, x52, x53⟩ : journal_Journal).list_) c50 ((⟨x44, x45, x46, x47, l48, x52, x53⟩ : journal_Journal).sure_) ((⟨x44, x45, x46, x47, l48, x52, x53⟩ : journal_Journal).dead_), own eStr 9 p49 c50 ((⟨x44, x45, x46, x47, l48, x52, x53⟩ : journal_Journal).list_)] ++ F0) rfl hs) ?_)
        refine aw_vals [15] (f' := 10) (m' := 130559) [10, 76, 77, 78, 82, 84, 91, 92] [(10, pP b40), (76, pP b40), (77, pP b40), (78, pP b40), (82, .slice p49 ((⟨x44, x45, x46, x47, l48, x52, x53⟩ : journal_Journal).list_).length c50), (84, .slice p63 ([r54.1] : List ByteArray).length 1), (91, i6 (IntKind.i64.wrap (((⟨x44, x45, x46, x47, l48, x52, x53⟩ : journal_Journal).next_) + r54.2.1))), (92, i6 r54.2.2.1)] (fun _ _ _ _ _ h => calm_fin (P := Tryz.prog) (fn := Tryz.f15) _ _ _ _ _ h) (fun w hs => sat_pulls [1, 2, 2, 3, 3] (G := [own eStr 9 p63 1 ([r54.1] : List ByteArray), o3 b40 b0 ((⟨x44, x45, x46, x47, l48, x52, x53⟩ : journal_Journal).base_) ((⟨x44, x45, x46, x47, l48, x52, x53⟩ : journal_Journal).size_) ((⟨x44, x45, x46, x47, l48, x52, x53⟩ : journal_Journal).next_) ((⟨x44, x45, x46, x47, l48, x52, x53⟩ : journal_Journal).last_) p49 ((⟨x44, x45, x46, x47, l48, x52, x53⟩ : journal_Journal).list_) c50 ((⟨x44, x45, x46, x47, l48, x52, x53⟩ : journal_Journal).sure_) ((⟨x44, x45, x46, x47, l48, x52, x53⟩ : journal_Journal).dead_), own eStr 9 p49 c50 ((⟨x44, x45, x46, x47, l48, x52, x53⟩ : journal_Journal).list_)] ++ F0) rfl hs) rfl (by kernel_rfl) ?_
        refine aw_only 9 (m' := 131071) (by kernel_rfl) (by kernel_rfl) (pw_append 5 (l' := ([r54.1] : List ByteArray)) rfl rfl rfl rfl rfl rfl (by kernel_rfl) (by kernel_rfl) rfl rfl rfl (src_own (E' := 9) 0 rfl (by kernel_rfl) rfl) rfl h60.1 h60.2 fun p65 c66 => nw_H (H' := [own eStr 9 p63 1 ([r54.1] : List ByteArray), imm I, o3 b40 b0 ((⟨x44, x45, x46, x47, l48, x52, x53⟩ : journal_Journal).base_) ((⟨x44, x45, x46, x47, l48, x52, x53⟩ : journal_Journal).size_) ((⟨x44, x45, x46, x47, l48, x52, x53⟩ : journal_Journal).next_) ((⟨x44, x45, x46, x47, l48, x52, x53⟩ : journal_Journal).last_) p49 ((⟨x44, x45, x46, x47, l48, x52, x53⟩ : journal_Journal).list_) c50 ((⟨x44, x45, x46, x47, l48, x52, x53⟩ : journal_Journal).sure_) ((⟨x44, x45, x46, x47, l48, x52, x53⟩ : journal_Journal).dead_), o1 b0 b1 m0.boot_ m0.n_, o0 b1 p0 m1.sure_ c0 p1 m1.off_ m1.armed_ m1.left_ m1.fall_.Keep m1.fall_.Tear m1.acts_ m1.falls_, own eStr 9 p65 c66 (((⟨x44, x45, x46, x47, l48, x52, x53⟩ : journal_Journal).list_) ++ ([r54.1] : List ByteArray)), own e_disk_sector 51 p0 c0 m1.sure_, mpo (kInt .i64) (fun x : disk_sector => Value.agg #[.string x.s_, i6 x.at_]) p1 m1.wait_] ++ F0) rfl (aw_next (fun w hs => sat_pulls [1, 2, 2, 3, 3] (G := [own eStr 9 p63 1 ([r54.1] : List ByteArray), o3 b40 b0 ((⟨x44, x45, x46, x47, l48, x52, x53⟩ : journal_Journal).base_) ((⟨x44, x45, x46, x47, l48, x52, x53⟩ : journal_Journal).size_) ((⟨x44, x45, x46, x47, l48, x52, x53⟩ : journal_Journal).next_) ((⟨x44, x45, x46, x47, l48, x52, x53⟩ : journal_Journal).last_) p49 ((⟨x44, x45, x46, x47, l48, x52, x53⟩ : journal_Journal).list_) c50 ((⟨x44, x45, x46, x47, l48, x52, x53⟩ : journal_Journal).sure_) ((⟨x44, x45, x46, x47, l48, x52, x53⟩ : journal_Journal).dead_), own eStr 9 p65 c66 (((⟨x44, x45, x46, x47, l48, x52, x53⟩ : journal_Journal).list_) ++ ([r54.1] : List ByteArray))] ++ F0) rfl hs) ?_))
        refine aw_vals [17, 18] (f' := 7) (m' := 524287) [10, 77, 78, 85, 91, 92, 94] [(10, pP b40), (77, pP b40), (78, pP b40), (85, .slice p65 (((⟨x44, x45, x46, x47, l48, x52, x53⟩ : journal_Journal).list_) ++ ([r54.1] : List ByteArray)).length c66), (91, i6 (IntKind.i64.wrap (((⟨x44, x45, x46, x47, l48, x52, x53⟩ : journal_Journal).next_) + r54.2.1))), (92, i6 r54.2.2.1), (94, .pointer (some ⟨b40, 5, none⟩))] (fun _ _ _ _ _ h => calm_fin (P := Tryz.prog) (fn := Tryz.f15) _ _ _ _ _ h) (fun w hs => sat_pulls [1, 2, 2, 3, 3] (G := [own eStr 9 p63 1 ([r54.1] : List ByteArray), o3 b40 b0 ((⟨x44, x45, x46, x47, l48, x52, x53⟩ : journal_Journal).base_) ((⟨x44, x45, x46, x47, l48, x52, x53⟩ : journal_Journal).size_) ((⟨x44, x45, x46, x47, l48, x52, x53⟩ : journal_Journal).next_) ((⟨x44, x45, x46, x47, l48, x52, x53⟩ : journal_Journal).last_) p49 ((⟨x44, x45, x46, x47, l48, x52, x53⟩ : journal_Journal).list_) c50 ((⟨x44, x45, x46, x47, l48, x52, x53⟩ : journal_Journal).sure_) ((⟨x44, x45, x46, x47, l48, x52, x53⟩ : journal_Journal).dead_), own eStr 9 p65 c66 (((⟨x44, x45, x46, x47, l48, x52, x53⟩ : journal_Journal).list_) ++ ([r54.1] : List ByteArray))] ++ F0) rfl hs) rfl (by kernel_rfl) ?_
        refine aw_only 19 (m' := 1048575) (by kernel_rfl) (by kernel_rfl) (pw_store 2 #[pP b0, i6 ((⟨x44, x45, x46, x47, l48, x52, x53⟩ : journal_Journal).base_), i6 ((⟨x44, x45, x46, x47, l48, x52, x53⟩ : journal_Journal).size_), i6 ((⟨x44, x45, x46, x47, l48, x52, x53⟩ : journal_Journal).next_), i6 ((⟨x44, x45, x46, x47, l48, x52, x53⟩ : journal_Journal).last_), .slice p65 (((⟨x44, x45, x46, x47, l48, x52, x53⟩ : journal_Journal).list_) ++ ([r54.1] : List ByteArray)).length c66, i6 ((⟨x44, x45, x46, x47, l48, x52, x53⟩ : journal_Journal).sure_), .bool ((⟨x44, x45, x46, x47, l48, x52, x53⟩ : journal_Journal).dead_)] rfl rfl rfl rfl rfl rfl rfl (by kernel_rfl) (nw_H (H' := [own eStr 9 p63 1 ([r54.1] : List ByteArray), imm I, o3 b40 b0 ((⟨x44, x45, x46, x47, l48, x52, x53⟩ : journal_Journal).base_) ((⟨x44, x45, x46, x47, l48, x52, x53⟩ : journal_Journal).size_) ((⟨x44, x45, x46, x47, l48, x52, x53⟩ : journal_Journal).next_) ((⟨x44, x45, x46, x47, l48, x52, x53⟩ : journal_Journal).last_) p65 (((⟨x44, x45, x46, x47, l48, x52, x53⟩ : journal_Journal).list_) ++ ([r54.1] : List ByteArray)) c66 ((⟨x44, x45, x46, x47, l48, x52, x53⟩ : journal_Journal).sure_) ((⟨x44, x45, x46, x47, l48, x52, x53⟩ : journal_Journal).dead_), o1 b0 b1 m0.boot_ m0.n_, o0 b1 p0 m1.sure_ c0 p1 m1.off_ m1.armed_ m1.left_ m1.fall_.Keep m1.fall_.Tear m1.acts_ m1.falls_, own eStr 9 p65 c66 (((⟨x44, x45, x46, x47, l48, x52, x53⟩ : journal_Journal).list_) ++ ([r54.1] : List ByteArray)), own e_disk_sector 51 p0 c0 m1.sure_, mpo (kInt .i64) (fun x : disk_sector => Value.agg #[.string x.s_, i6 x.at_]) p1 m1.wait_] ++ F0) rfl (aw_next (fun w hs => sat_pulls [1, 2, 2, 3, 3] (G := [own eStr 9 p63 1 ([r54.1] : List ByteArray), o3 b40 b0 ((⟨x44, x45, x46, x47, l48, x52, x53⟩ : journal_Journal).base_) ((⟨x44, x45, x46, x47, l48, x52, x53⟩ : journal_Journal).size_) ((⟨x44, x45, x46, x47, l48, x52, x53⟩ : journal_Journal).next_) ((⟨x44, x45, x46, x47, l48, x52, x53⟩ : journal_Journal).last_) p65 (((⟨x44, x45, x46, x47, l48, x52, x53⟩ : journal_Journal).list_) ++ ([r54.1] : List ByteArray)) c66 ((⟨x44, x45, x46, x47, l48, x52, x53⟩ : journal_Journal).sure_) ((⟨x44, x45, x46, x47, l48, x52, x53⟩ : journal_Journal).dead_), own eStr 9 p65 c66 (((⟨x44, x45, x46, x47, l48, x52, x53⟩ : journal_Journal).list_) ++ ([r54.1] : List ByteArray))] ++ F0) rfl hs) ?_)))
        refine aw_vals [20, 21] (f' := 4) (m' := 4194303) [10, 78, 91, 92, 96] [(10, pP b40), (78, pP b40), (91, i6 (IntKind.i64.wrap (((⟨x44, x45, x46, x47, l48, x52, x53⟩ : journal_Journal).next_) + r54.2.1))), (92, i6 r54.2.2.1), (96, .pointer (some ⟨b40, 3, none⟩))] (fun _ _ _ _ _ h => calm_fin (P := Tryz.prog) (fn := Tryz.f15) _ _ _ _ _ h) (fun w hs => sat_pulls [1, 2, 2, 3, 3] (G := [own eStr 9 p63 1 ([r54.1] : List ByteArray), o3 b40 b0 ((⟨x44, x45, x46, x47, l48, x52, x53⟩ : journal_Journal).base_) ((⟨x44, x45, x46, x47, l48, x52, x53⟩ : journal_Journal).size_) ((⟨x44, x45, x46, x47, l48, x52, x53⟩ : journal_Journal).next_) ((⟨x44, x45, x46, x47, l48, x52, x53⟩ : journal_Journal).last_) p65 (((⟨x44, x45, x46, x47, l48, x52, x53⟩ : journal_Journal).list_) ++ ([r54.1] : List ByteArray)) c66 ((⟨x44, x45, x46, x47, l48, x52, x53⟩ : journal_Journal).sure_) ((⟨x44, x45, x46, x47, l48, x52, x53⟩ : journal_Journal).dead_), own eStr 9 p65 c66 (((⟨x44, x45, x46, x47, l48, x52, x53⟩ : journal_Journal).list_) ++ ([r54.1] : List ByteArray))] ++ F0) rfl hs) rfl (by kernel_rfl) ?_
        refine aw_only 22 (m' := 8388607) (by kernel_rfl) (by kernel_rfl) (pw_store 2 #[pP b0, i6 ((⟨x44, x45, x46, x47, l48, x52, x53⟩ : journal_Journal).base_), i6 ((⟨x44, x45, x46, x47, l48, x52, x53⟩ : journal_Journal).size_), i6 (IntKind.i64.wrap (((⟨x44, x45, x46, x47, l48, x52, x53⟩ : journal_Journal).next_) + r54.2.1)), i6 ((⟨x44, x45, x46, x47, l48, x52, x53⟩ : journal_Journal).last_), .slice p65 (((⟨x44, x45, x46, x47, l48, x52, x53⟩ : journal_Journal).list_) ++ ([r54.1] : List ByteArray)).length c66, i6 ((⟨x44, x45, x46, x47, l48, x52, x53⟩ : journal_Journal).sure_), .bool ((⟨x44, x45, x46, x47, l48, x52, x53⟩ : journal_Journal).dead_)] rfl rfl rfl rfl rfl rfl rfl (by kernel_rfl) (nw_H (H' := [own eStr 9 p63 1 ([r54.1] : List ByteArray), imm I, o3 b40 b0 ((⟨x44, x45, x46, x47, l48, x52, x53⟩ : journal_Journal).base_) ((⟨x44, x45, x46, x47, l48, x52, x53⟩ : journal_Journal).size_) (IntKind.i64.wrap (((⟨x44, x45, x46, x47, l48, x52, x53⟩ : journal_Journal).next_) + r54.2.1)) ((⟨x44, x45, x46, x47, l48, x52, x53⟩ : journal_Journal).last_) p65 (((⟨x44, x45, x46, x47, l48, x52, x53⟩ : journal_Journal).list_) ++ ([r54.1] : List ByteArray)) c66 ((⟨x44, x45, x46, x47, l48, x52, x53⟩ : journal_Journal).sure_) ((⟨x44, x45, x46, x47, l48, x52, x53⟩ : journal_Journal).dead_), o1 b0 b1 m0.boot_ m0.n_, o0 b1 p0 m1.sure_ c0 p1 m1.off_ m1.armed_ m1.left_ m1.fall_.Keep m1.fall_.Tear m1.acts_ m1.falls_, own eStr 9 p65 c66 (((⟨x44, x45, x46, x47, l48, x52, x53⟩ : journal_Journal).list_) ++ ([r54.1] : List ByteArray)), own e_disk_sector 51 p0 c0 m1.sure_, mpo (kInt .i64) (fun x : disk_sector => Value.agg #[.string x.s_, i6 x.at_]) p1 m1.wait_] ++ F0) rfl (aw_next (fun w hs => sat_pulls [1, 2, 2, 3, 3] (G := [own eStr 9 p63 1 ([r54.1] : List ByteArray), o3 b40 b0 ((⟨x44, x45, x46, x47, l48, x52, x53⟩ : journal_Journal).base_) ((⟨x44, x45, x46, x47, l48, x52, x53⟩ : journal_Journal).size_) (IntKind.i64.wrap (((⟨x44, x45, x46, x47, l48, x52, x53⟩ : journal_Journal).next_) + r54.2.1)) ((⟨x44, x45, x46, x47, l48, x52, x53⟩ : journal_Journal).last_) p65 (((⟨x44, x45, x46, x47, l48, x52, x53⟩ : journal_Journal).list_) ++ ([r54.1] : List ByteArray)) c66 ((⟨x44, x45, x46, x47, l48, x52, x53⟩ : journal_Journal).sure_) ((⟨x44, x45, x46, x47, l48, x52, x53⟩ : journal_Journal).dead_), own eStr 9 p65 c66 (((⟨x44, x45, x46, x47, l48, x52, x53⟩ : journal_Journal).list_) ++ ([r54.1] : List ByteArray))] ++ F0) rfl hs) ?_)))
        refine aw_vals [23, 24] (f' := 1) (m' := 33554431) [10, 92, 98] [(10, pP b40), (92, i6 r54.2.2.1), (98, .pointer (some ⟨b40, 4, none⟩))] (fun _ _ _ _ _ h => calm_fin (P := Tryz.prog) (fn := Tryz.f15) _ _ _ _ _ h) (fun w hs => sat_pulls [1, 2, 2, 3, 3] (G := [own eStr 9 p63 1 ([r54.1] : List ByteArray), o3 b40 b0 ((⟨x44, x45, x46, x47, l48, x52, x53⟩ : journal_Journal).base_) ((⟨x44, x45, x46, x47, l48, x52, x53⟩ : journal_Journal).size_) (IntKind.i64.wrap (((⟨x44, x45, x46, x47, l48, x52, x53⟩ : journal_Journal).next_) + r54.2.1)) ((⟨x44, x45, x46, x47, l48, x52, x53⟩ : journal_Journal).last_) p65 (((⟨x44, x45, x46, x47, l48, x52, x53⟩ : journal_Journal).list_) ++ ([r54.1] : List ByteArray)) c66 ((⟨x44, x45, x46, x47, l48, x52, x53⟩ : journal_Journal).sure_) ((⟨x44, x45, x46, x47, l48, x52, x53⟩ : journal_Journal).dead_), own eStr 9 p65 c66 (((⟨x44, x45, x46, x47, l48, x52, x53⟩ : journal_Journal).list_) ++ ([r54.1] : List ByteArray))] ++ F0) rfl hs) rfl (by kernel_rfl) ?_
        refine aw_only 25 (m' := 67108863) (by kernel_rfl) (by kernel_rfl) (pw_store 2 #[pP b0, i6 ((⟨x44, x45, x46, x47, l48, x52, x53⟩ : journal_Journal).base_), i6 ((⟨x44, x45, x46, x47, l48, x52, x53⟩ : journal_Journal).size_), i6 (IntKind.i64.wrap (((⟨x44, x45, x46, x47, l48, x52, x53⟩ : journal_Journal).next_) + r54.2.1)), i6 r54.2.2.1, .slice p65 (((⟨x44, x45, x46, x47, l48, x52, x53⟩ : journal_Journal).list_) ++ ([r54.1] : List ByteArray)).length c66, i6 ((⟨x44, x45, x46, x47, l48, x52, x53⟩ : journal_Journal).sure_), .bool ((⟨x44, x45, x46, x47, l48, x52, x53⟩ : journal_Journal).dead_)] rfl rfl rfl rfl rfl rfl rfl (by kernel_rfl) (nw_H (H' := [own eStr 9 p63 1 ([r54.1] : List ByteArray), imm I, o3 b40 b0 ((⟨x44, x45, x46, x47, l48, x52, x53⟩ : journal_Journal).base_) ((⟨x44, x45, x46, x47, l48, x52, x53⟩ : journal_Journal).size_) (IntKind.i64.wrap (((⟨x44, x45, x46, x47, l48, x52, x53⟩ : journal_Journal).next_) + r54.2.1)) r54.2.2.1 p65 (((⟨x44, x45, x46, x47, l48, x52, x53⟩ : journal_Journal).list_) ++ ([r54.1] : List ByteArray)) c66 ((⟨x44, x45, x46, x47, l48, x52, x53⟩ : journal_Journal).sure_) ((⟨x44, x45, x46, x47, l48, x52, x53⟩ : journal_Journal).dead_), o1 b0 b1 m0.boot_ m0.n_, o0 b1 p0 m1.sure_ c0 p1 m1.off_ m1.armed_ m1.left_ m1.fall_.Keep m1.fall_.Tear m1.acts_ m1.falls_, own eStr 9 p65 c66 (((⟨x44, x45, x46, x47, l48, x52, x53⟩ : journal_Journal).list_) ++ ([r54.1] : List ByteArray)), own e_disk_sector 51 p0 c0 m1.sure_, mpo (kInt .i64) (fun x : disk_sector => Value.agg #[.string x.s_, i6 x.at_]) p1 m1.wait_] ++ F0) rfl (aw_last (by kernel_rfl) ?_)))
        refine aw_keep [10] (L' := [(10, pP b40)]) rfl ?_
        refine aw_end (by kernel_rfl) ?_
        refine ew_blk ?_
        have hR := Option.some.inj hF
        subst hR
        have hR := hL43
        try dsimp only at hR
        exact fun a w hf hs => ⟨k, Nat.lt_succ_self k, (⟨x44, x45, x46, x47, l48, x52, x53⟩ : journal_Journal).base_, (⟨x44, x45, x46, x47, l48, x52, x53⟩ : journal_Journal).size_, IntKind.i64.wrap (((⟨x44, x45, x46, x47, l48, x52, x53⟩ : journal_Journal).next_) + r54.2.1), r54.2.2.1, ((⟨x44, x45, x46, x47, l48, x52, x53⟩ : journal_Journal).list_) ++ ([r54.1] : List ByteArray), (⟨x44, x45, x46, x47, l48, x52, x53⟩ : journal_Journal).sure_, (⟨x44, x45, x46, x47, l48, x52, x53⟩ : journal_Journal).dead_, p65, c66, hR, hf.keep [10], sat_to [0, 0, 0, 1, 0, 0, 0, 0] 1 rfl hs⟩
      refine pw_quiet (v := i6 ((⟨x44, x45, x46, x47, l48, x52, x53⟩ : journal_Journal).next_)) rfl rfl rfl rfl (q_load 2 rfl rfl rfl (by kernel_rfl)) (aw_next (fun w hs => sat_pulls [1, 2, 2, 3, 3] (G := [own eStr 9 p63 1 ([r54.1] : List ByteArray), o3 b40 b0 ((⟨x44, x45, x46, x47, l48, x52, x53⟩ : journal_Journal).base_) ((⟨x44, x45, x46, x47, l48, x52, x53⟩ : journal_Journal).size_) ((⟨x44, x45, x46, x47, l48, x52, x53⟩ : journal_Journal).next_) ((⟨x44, x45, x46, x47, l48, x52, x53⟩ : journal_Journal).last_) p49 ((⟨x44, x45, x46, x47, l48, x52, x53⟩ : journal_Journal).list_) c50 ((⟨x44, x45, x46, x47, l48, x52, x53⟩ : journal_Journal).sure_) ((⟨x44, x45, x46, x47, l48, x52, x53⟩ : journal_Journal).dead_), own eStr 9 p49 c50 ((⟨x44, x45, x46, x47, l48, x52, x53⟩ : journal_Journal).list_)] ++ F0) rfl hs) ?_)
      refine aw_vals [15] (f' := 11) (m' := 130495) [10, 76, 77, 78, 81, 84, 91, 92] [(10, pP b40), (76, pP b40), (77, pP b40), (78, pP b40), (81, .pointer (some ⟨b40, 5, none⟩)), (84, .slice p63 ([r54.1] : List ByteArray).length 1), (91, i6 (IntKind.i64.wrap (((⟨x44, x45, x46, x47, l48, x52, x53⟩ : journal_Journal).next_) + r54.2.1))), (92, i6 r54.2.2.1)] (fun _ _ _ _ _ h => calm_fin (P := Tryz.prog) (fn := Tryz.f15) _ _ _ _ _ h) (fun w hs => sat_pulls [1, 2, 2, 3, 3] (G := [own eStr 9 p63 1 ([r54.1] : List ByteArray), o3 b40 b0 ((⟨x44, x45, x46, x47, l48, x52, x53⟩ : journal_Journal).base_) ((⟨x44, x45, x46, x47, l48, x52, x53⟩ : journal_Journal).size_) ((⟨x44, x45, x46, x47, l48, x52, x53⟩ : journal_Journal).next_) ((⟨x44, x45, x46, x47, l48, x52, x53⟩ : journal_Journal).last_) p49 ((⟨x44, x45, x46, x47, l48, x52, x53⟩ : journal_Journal).list_) c50 ((⟨x44, x45, x46, x47, l48, x52, x53⟩ : journal_Journal).sure_) ((⟨x44, x45, x46, x47, l48, x52, x53⟩ : journal_Journal).dead_), own eStr 9 p49 c50 ((⟨x44, x45, x46, x47, l48, x52, x53⟩ : journal_Journal).list_)] ++ F0) rfl hs) rfl (by kernel_rfl) ?_
      refine aw_only 6 (m' := 130559) (by kernel_rfl) (by kernel_rfl) (pw_quiet (v := .slice p49 ((⟨x44, x45, x46, x47, l48, x52, x53⟩ : journal_Journal).list_).length c50) rfl rfl rfl rfl (q_load 2 rfl rfl rfl (by kernel_rfl)) (aw_next (fun w hs => sat_pulls [1, 2, 2, 3, 3] (G := [own eStr 9 p63 1 ([r54.1] : List ByteArray), o3 b40 b0 ((⟨x44, x45, x46, x47, l48, x52, x53⟩ : journal_Journal).base_) ((⟨x44, x45, x46, x47, l48, x52, x53⟩ : journal_Journal).size_) ((⟨x44, x45, x46, x47, l48, x52, x53⟩ : journal_Journal).next_) ((⟨x44, x45, x46, x47, l48, x52, x53⟩ : journal_Journal).last_) p49 ((⟨x44, x45, x46, x47, l48, x52, x53⟩ : journal_Journal).list_) c50 ((⟨x44, x45, x46, x47, l48, x52, x53⟩ : journal_Journal).sure_) ((⟨x44, x45, x46, x47, l48, x52, x53⟩ : journal_Journal).dead_), own eStr 9 p49 c50 ((⟨x44, x45, x46, x47, l48, x52, x53⟩ : journal_Journal).list_)] ++ F0) rfl hs) ?_))
      refine aw_only 9 (m' := 131071) (by kernel_rfl) (by kernel_rfl) (pw_append 5 (l' := ([r54.1] : List ByteArray)) rfl rfl rfl rfl rfl rfl (by kernel_rfl) (by kernel_rfl) rfl rfl rfl (src_own (E' := 9) 0 rfl (by kernel_rfl) rfl) rfl h60.1 h60.2 fun p65 c66 => nw_H (H' := [own eStr 9 p63 1 ([r54.1] : List ByteArray), imm I, o3 b40 b0 ((⟨x44, x45, x46, x47, l48, x52, x53⟩ : journal_Journal).base_) ((⟨x44, x45, x46, x47, l48, x52, x53⟩ : journal_Journal).size_) ((⟨x44, x45, x46, x47, l48, x52, x53⟩ : journal_Journal).next_) ((⟨x44, x45, x46, x47, l48, x52, x53⟩ : journal_Journal).last_) p49 ((⟨x44, x45, x46, x47, l48, x52, x53⟩ : journal_Journal).list_) c50 ((⟨x44, x45, x46, x47, l48, x52, x53⟩ : journal_Journal).sure_) ((⟨x44, x45, x46, x47, l48, x52, x53⟩ : journal_Journal).dead_), o1 b0 b1 m0.boot_ m0.n_, o0 b1 p0 m1.sure_ c0 p1 m1.off_ m1.armed_ m1.left_ m1.fall_.Keep m1.fall_.Tear m1.acts_ m1.falls_, own eStr 9 p65 c66 (((⟨x44, x45, x46, x47, l48, x52, x53⟩ : journal_Journal).list_) ++ ([r54.1] : List ByteArray)), own e_disk_sector 51 p0 c0 m1.sure_, mpo (kInt .i64) (fun x : disk_sector => Value.agg #[.string x.s_, i6 x.at_]) p1 m1.wait_] ++ F0) rfl (aw_next (fun w hs => sat_pulls [1, 2, 2, 3, 3] (G := [own eStr 9 p63 1 ([r54.1] : List ByteArray), o3 b40 b0 ((⟨x44, x45, x46, x47, l48, x52, x53⟩ : journal_Journal).base_) ((⟨x44, x45, x46, x47, l48, x52, x53⟩ : journal_Journal).size_) ((⟨x44, x45, x46, x47, l48, x52, x53⟩ : journal_Journal).next_) ((⟨x44, x45, x46, x47, l48, x52, x53⟩ : journal_Journal).last_) p49 ((⟨x44, x45, x46, x47, l48, x52, x53⟩ : journal_Journal).list_) c50 ((⟨x44, x45, x46, x47, l48, x52, x53⟩ : journal_Journal).sure_) ((⟨x44, x45, x46, x47, l48, x52, x53⟩ : journal_Journal).dead_), own eStr 9 p65 c66 (((⟨x44, x45, x46, x47, l48, x52, x53⟩ : journal_Journal).list_) ++ ([r54.1] : List ByteArray))] ++ F0) rfl hs) ?_))
      refine aw_vals [17, 18] (f' := 7) (m' := 524287) [10, 77, 78, 85, 91, 92, 94] [(10, pP b40), (77, pP b40), (78, pP b40), (85, .slice p65 (((⟨x44, x45, x46, x47, l48, x52, x53⟩ : journal_Journal).list_) ++ ([r54.1] : List ByteArray)).length c66), (91, i6 (IntKind.i64.wrap (((⟨x44, x45, x46, x47, l48, x52, x53⟩ : journal_Journal).next_) + r54.2.1))), (92, i6 r54.2.2.1), (94, .pointer (some ⟨b40, 5, none⟩))] (fun _ _ _ _ _ h => calm_fin (P := Tryz.prog) (fn := Tryz.f15) _ _ _ _ _ h) (fun w hs => sat_pulls [1, 2, 2, 3, 3] (G := [own eStr 9 p63 1 ([r54.1] : List ByteArray), o3 b40 b0 ((⟨x44, x45, x46, x47, l48, x52, x53⟩ : journal_Journal).base_) ((⟨x44, x45, x46, x47, l48, x52, x53⟩ : journal_Journal).size_) ((⟨x44, x45, x46, x47, l48, x52, x53⟩ : journal_Journal).next_) ((⟨x44, x45, x46, x47, l48, x52, x53⟩ : journal_Journal).last_) p49 ((⟨x44, x45, x46, x47, l48, x52, x53⟩ : journal_Journal).list_) c50 ((⟨x44, x45, x46, x47, l48, x52, x53⟩ : journal_Journal).sure_) ((⟨x44, x45, x46, x47, l48, x52, x53⟩ : journal_Journal).dead_), own eStr 9 p65 c66 (((⟨x44, x45, x46, x47, l48, x52, x53⟩ : journal_Journal).list_) ++ ([r54.1] : List ByteArray))] ++ F0) rfl hs) rfl (by kernel_rfl) ?_
      refine aw_only 19 (m' := 1048575) (by kernel_rfl) (by kernel_rfl) (pw_store 2 #[pP b0, i6 ((⟨x44, x45, x46, x47, l48, x52, x53⟩ : journal_Journal).base_), i6 ((⟨x44, x45, x46, x47, l48, x52, x53⟩ : journal_Journal).size_), i6 ((⟨x44, x45, x46, x47, l48, x52, x53⟩ : journal_Journal).next_), i6 ((⟨x44, x45, x46, x47, l48, x52, x53⟩ : journal_Journal).last_), .slice p65 (((⟨x44, x45, x46, x47, l48, x52, x53⟩ : journal_Journal).list_) ++ ([r54.1] : List ByteArray)).length c66, i6 ((⟨x44, x45, x46, x47, l48, x52, x53⟩ : journal_Journal).sure_), .bool ((⟨x44, x45, x46, x47, l48, x52, x53⟩ : journal_Journal).dead_)] rfl rfl rfl rfl rfl rfl rfl (by kernel_rfl) (nw_H (H' := [own eStr 9 p63 1 ([r54.1] : List ByteArray), imm I, o3 b40 b0 ((⟨x44, x45, x46, x47, l48, x52, x53⟩ : journal_Journal).base_) ((⟨x44, x45, x46, x47, l48, x52, x53⟩ : journal_Journal).size_) ((⟨x44, x45, x46, x47, l48, x52, x53⟩ : journal_Journal).next_) ((⟨x44, x45, x46, x47, l48, x52, x53⟩ : journal_Journal).last_) p65 (((⟨x44, x45, x46, x47, l48, x52, x53⟩ : journal_Journal).list_) ++ ([r54.1] : List ByteArray)) c66 ((⟨x44, x45, x46, x47, l48, x52, x53⟩ : journal_Journal).sure_) ((⟨x44, x45, x46, x47, l48, x52, x53⟩ : journal_Journal).dead_), o1 b0 b1 m0.boot_ m0.n_, o0 b1 p0 m1.sure_ c0 p1 m1.off_ m1.armed_ m1.left_ m1.fall_.Keep m1.fall_.Tear m1.acts_ m1.falls_, own eStr 9 p65 c66 (((⟨x44, x45, x46, x47, l48, x52, x53⟩ : journal_Journal).list_) ++ ([r54.1] : List ByteArray)), own e_disk_sector 51 p0 c0 m1.sure_, mpo (kInt .i64) (fun x : disk_sector => Value.agg #[.string x.s_, i6 x.at_]) p1 m1.wait_] ++ F0) rfl (aw_next (fun w hs => sat_pulls [1, 2, 2, 3, 3] (G := [own eStr 9 p63 1 ([r54.1] : List ByteArray), o3 b40 b0 ((⟨x44, x45, x46, x47, l48, x52, x53⟩ : journal_Journal).base_) ((⟨x44, x45, x46, x47, l48, x52, x53⟩ : journal_Journal).size_) ((⟨x44, x45, x46, x47, l48, x52, x53⟩ : journal_Journal).next_) ((⟨x44, x45, x46, x47, l48, x52, x53⟩ : journal_Journal).last_) p65 (((⟨x44, x45, x46, x47, l48, x52, x53⟩ : journal_Journal).list_) ++ ([r54.1] : List ByteArray)) c66 ((⟨x44, x45, x46, x47, l48, x52, x53⟩ : journal_Journal).sure_) ((⟨x44, x45, x46, x47, l48, x52, x53⟩ : journal_Journal).dead_), own eStr 9 p65 c66 (((⟨x44, x45, x46, x47, l48, x52, x53⟩ : journal_Journal).list_) ++ ([r54.1] : List ByteArray))] ++ F0) rfl hs) ?_)))
      refine aw_vals [20, 21] (f' := 4) (m' := 4194303) [10, 78, 91, 92, 96] [(10, pP b40), (78, pP b40), (91, i6 (IntKind.i64.wrap (((⟨x44, x45, x46, x47, l48, x52, x53⟩ : journal_Journal).next_) + r54.2.1))), (92, i6 r54.2.2.1), (96, .pointer (some ⟨b40, 3, none⟩))] (fun _ _ _ _ _ h => calm_fin (P := Tryz.prog) (fn := Tryz.f15) _ _ _ _ _ h) (fun w hs => sat_pulls [1, 2, 2, 3, 3] (G := [own eStr 9 p63 1 ([r54.1] : List ByteArray), o3 b40 b0 ((⟨x44, x45, x46, x47, l48, x52, x53⟩ : journal_Journal).base_) ((⟨x44, x45, x46, x47, l48, x52, x53⟩ : journal_Journal).size_) ((⟨x44, x45, x46, x47, l48, x52, x53⟩ : journal_Journal).next_) ((⟨x44, x45, x46, x47, l48, x52, x53⟩ : journal_Journal).last_) p65 (((⟨x44, x45, x46, x47, l48, x52, x53⟩ : journal_Journal).list_) ++ ([r54.1] : List ByteArray)) c66 ((⟨x44, x45, x46, x47, l48, x52, x53⟩ : journal_Journal).sure_) ((⟨x44, x45, x46, x47, l48, x52, x53⟩ : journal_Journal).dead_), own eStr 9 p65 c66 (((⟨x44, x45, x46, x47, l48, x52, x53⟩ : journal_Journal).list_) ++ ([r54.1] : List ByteArray))] ++ F0) rfl hs) rfl (by kernel_rfl) ?_
      refine aw_only 22 (m' := 8388607) (by kernel_rfl) (by kernel_rfl) (pw_store 2 #[pP b0, i6 ((⟨x44, x45, x46, x47, l48, x52, x53⟩ : journal_Journal).base_), i6 ((⟨x44, x45, x46, x47, l48, x52, x53⟩ : journal_Journal).size_), i6 (IntKind.i64.wrap (((⟨x44, x45, x46, x47, l48, x52, x53⟩ : journal_Journal).next_) + r54.2.1)), i6 ((⟨x44, x45, x46, x47, l48, x52, x53⟩ : journal_Journal).last_), .slice p65 (((⟨x44, x45, x46, x47, l48, x52, x53⟩ : journal_Journal).list_) ++ ([r54.1] : List ByteArray)).length c66, i6 ((⟨x44, x45, x46, x47, l48, x52, x53⟩ : journal_Journal).sure_), .bool ((⟨x44, x45, x46, x47, l48, x52, x53⟩ : journal_Journal).dead_)] rfl rfl rfl rfl rfl rfl rfl (by kernel_rfl) (nw_H (H' := [own eStr 9 p63 1 ([r54.1] : List ByteArray), imm I, o3 b40 b0 ((⟨x44, x45, x46, x47, l48, x52, x53⟩ : journal_Journal).base_) ((⟨x44, x45, x46, x47, l48, x52, x53⟩ : journal_Journal).size_) (IntKind.i64.wrap (((⟨x44, x45, x46, x47, l48, x52, x53⟩ : journal_Journal).next_) + r54.2.1)) ((⟨x44, x45, x46, x47, l48, x52, x53⟩ : journal_Journal).last_) p65 (((⟨x44, x45, x46, x47, l48, x52, x53⟩ : journal_Journal).list_) ++ ([r54.1] : List ByteArray)) c66 ((⟨x44, x45, x46, x47, l48, x52, x53⟩ : journal_Journal).sure_) ((⟨x44, x45, x46, x47, l48, x52, x53⟩ : journal_Journal).dead_), o1 b0 b1 m0.boot_ m0.n_, o0 b1 p0 m1.sure_ c0 p1 m1.off_ m1.armed_ m1.left_ m1.fall_.Keep m1.fall_.Tear m1.acts_ m1.falls_, own eStr 9 p65 c66 (((⟨x44, x45, x46, x47, l48, x52, x53⟩ : journal_Journal).list_) ++ ([r54.1] : List ByteArray)), own e_disk_sector 51 p0 c0 m1.sure_, mpo (kInt .i64) (fun x : disk_sector => Value.agg #[.string x.s_, i6 x.at_]) p1 m1.wait_] ++ F0) rfl (aw_next (fun w hs => sat_pulls [1, 2, 2, 3, 3] (G := [own eStr 9 p63 1 ([r54.1] : List ByteArray), o3 b40 b0 ((⟨x44, x45, x46, x47, l48, x52, x53⟩ : journal_Journal).base_) ((⟨x44, x45, x46, x47, l48, x52, x53⟩ : journal_Journal).size_) (IntKind.i64.wrap (((⟨x44, x45, x46, x47, l48, x52, x53⟩ : journal_Journal).next_) + r54.2.1)) ((⟨x44, x45, x46, x47, l48, x52, x53⟩ : journal_Journal).last_) p65 (((⟨x44, x45, x46, x47, l48, x52, x53⟩ : journal_Journal).list_) ++ ([r54.1] : List ByteArray)) c66 ((⟨x44, x45, x46, x47, l48, x52, x53⟩ : journal_Journal).sure_) ((⟨x44, x45, x46, x47, l48, x52, x53⟩ : journal_Journal).dead_), own eStr 9 p65 c66 (((⟨x44, x45, x46, x47, l48, x52, x53⟩ : journal_Journal).list_) ++ ([r54.1] : List ByteArray))] ++ F0) rfl hs) ?_)))
      refine aw_vals [23, 24] (f' := 1) (m' := 33554431) [10, 92, 98] [(10, pP b40), (92, i6 r54.2.2.1), (98, .pointer (some ⟨b40, 4, none⟩))] (fun _ _ _ _ _ h => calm_fin (P := Tryz.prog) (fn := Tryz.f15) _ _ _ _ _ h) (fun w hs => sat_pulls [1, 2, 2, 3, 3] (G := [own eStr 9 p63 1 ([r54.1] : List ByteArray), o3 b40 b0 ((⟨x44, x45, x46, x47, l48, x52, x53⟩ : journal_Journal).base_) ((⟨x44, x45, x46, x47, l48, x52, x53⟩ : journal_Journal).size_) (IntKind.i64.wrap (((⟨x44, x45, x46, x47, l48, x52, x53⟩ : journal_Journal).next_) + r54.2.1)) ((⟨x44, x45, x46, x47, l48, x52, x53⟩ : journal_Journal).last_) p65 (((⟨x44, x45, x46, x47, l48, x52, x53⟩ : journal_Journal).list_) ++ ([r54.1] : List ByteArray)) c66 ((⟨x44, x45, x46, x47, l48, x52, x53⟩ : journal_Journal).sure_) ((⟨x44, x45, x46, x47, l48, x52, x53⟩ : journal_Journal).dead_), own eStr 9 p65 c66 (((⟨x44, x45, x46, x47, l48, x52, x53⟩ : journal_Journal).list_) ++ ([r54.1] : List ByteArray))] ++ F0) rfl hs) rfl (by kernel_rfl) ?_
      refine aw_only 25 (m' := 67108863) (by kernel_rfl) (by kernel_rfl) (pw_store 2 #[pP b0, i6 ((⟨x44, x45, x46, x47, l48, x52, x53⟩ : journal_Journal).base_), i6 ((⟨x44, x45, x46, x47, l48, x52, x53⟩ : journal_Journal).size_), i6 (IntKind.i64.wrap (((⟨x44, x45, x46, x47, l48, x52, x53⟩ : journal_Journal).next_) + r54.2.1)), i6 r54.2.2.1, .slice p65 (((⟨x44, x45, x46, x47, l48, x52, x53⟩ : journal_Journal).list_) ++ ([r54.1] : List ByteArray)).length c66, i6 ((⟨x44, x45, x46, x47, l48, x52, x53⟩ : journal_Journal).sure_), .bool ((⟨x44, x45, x46, x47, l48, x52, x53⟩ : journal_Journal).dead_)] rfl rfl rfl rfl rfl rfl rfl (by kernel_rfl) (nw_H (H' := [own eStr 9 p63 1 ([r54.1] : List ByteArray), imm I, o3 b40 b0 ((⟨x44, x45, x46, x47, l48, x52, x53⟩ : journal_Journal).base_) ((⟨x44, x45, x46, x47, l48, x52, x53⟩ : journal_Journal).size_) (IntKind.i64.wrap (((⟨x44, x45, x46, x47, l48, x52, x53⟩ : journal_Journal).next_) + r54.2.1)) r54.2.2.1 p65 (((⟨x44, x45, x46, x47, l48, x52, x53⟩ : journal_Journal).list_) ++ ([r54.1] : List ByteArray)) c66 ((⟨x44, x45, x46, x47, l48, x52, x53⟩ : journal_Journal).sure_) ((⟨x44, x45, x46, x47, l48, x52, x53⟩ : journal_Journal).dead_), o1 b0 b1 m0.boot_ m0.n_, o0 b1 p0 m1.sure_ c0 p1 m1.off_ m1.armed_ m1.left_ m1.fall_.Keep m1.fall_.Tear m1.acts_ m1.falls_, own eStr 9 p65 c66 (((⟨x44, x45, x46, x47, l48, x52, x53⟩ : journal_Journal).list_) ++ ([r54.1] : List ByteArray)), own e_disk_sector 51 p0 c0 m1.sure_, mpo (kInt .i64) (fun x : disk_sector => Value.agg #[.string x.s_, i6 x.at_]) p1 m1.wait_] ++ F0) rfl (aw_last (by kernel_rfl) ?_)))
      refine aw_keep [10] (L' := [(10, pP b40)]) rfl ?_
      refine aw_end (by kernel_rfl) ?_
      refine ew_blk ?_
      have hR := Option.some.inj hF
      subst hR
      have hR := hL43
      try dsimp only at hR
      exact fun a w hf hs => ⟨k, Nat.lt_succ_self k, (⟨x44, x45, x46, x47, l48, x52, x53⟩ : journal_Journal).base_, (⟨x44, x45, x46, x47, l48, x52, x53⟩ : journal_Journal).size_, IntKind.i64.wrap (((⟨x44, x45, x46, x47, l48, x52, x53⟩ : journal_Journal).next_) + r54.2.1), r54.2.2.1, ((⟨x44, x45, x46, x47, l48, x52, x53⟩ : journal_Journal).list_) ++ ([r54.1] : List ByteArray), (⟨x44, x45, x46, x47, l48, x52, x53⟩ : journal_Journal).sure_, (⟨x44, x45, x46, x47, l48, x52, x53⟩ : journal_Journal).dead_, p65, c66, hR, hf.keep [10], sat_to [0, 0, 0, 1, 0, 0, 0, 0] 1 rfl hs⟩
    refine pw_quiet (v := i6 ((⟨x44, x45, x46, x47, l48, x52, x53⟩ : journal_Journal).next_)) rfl rfl rfl rfl (q_load 1 rfl rfl rfl (by kernel_rfl)) (aw_next (fun w hs => sat_pulls [0, 1, 1, 2, 2] (G := [o3 b40 b0 ((⟨x44, x45, x46, x47, l48, x52, x53⟩ : journal_Journal).base_) ((⟨x44, x45, x46, x47, l48, x52, x53⟩ : journal_Journal).size_) ((⟨x44, x45, x46, x47, l48, x52, x53⟩ : journal_Journal).next_) ((⟨x44, x45, x46, x47, l48, x52, x53⟩ : journal_Journal).last_) p49 ((⟨x44, x45, x46, x47, l48, x52, x53⟩ : journal_Journal).list_) c50 ((⟨x44, x45, x46, x47, l48, x52, x53⟩ : journal_Journal).sure_) ((⟨x44, x45, x46, x47, l48, x52, x53⟩ : journal_Journal).dead_), own eStr 9 p49 c50 ((⟨x44, x45, x46, x47, l48, x52, x53⟩ : journal_Journal).list_)] ++ F0) rfl hs) ?_)
    refine aw_vals [15] (f' := 12) (m' := 130239) [10, 76, 77, 78, 81, 83, 91, 92] [(10, pP b40), (76, pP b40), (77, pP b40), (78, pP b40), (81, .pointer (some ⟨b40, 5, none⟩)), (83, .string r54.1), (91, i6 (IntKind.i64.wrap (((⟨x44, x45, x46, x47, l48, x52, x53⟩ : journal_Journal).next_) + r54.2.1))), (92, i6 r54.2.2.1)] (fun _ _ _ _ _ h => calm_fin (P := Tryz.prog) (fn := Tryz.f15) _ _ _ _ _ h) (fun w hs => sat_pulls [0, 1, 1, 2, 2] (G := [o3 b40 b0 ((⟨x44, x45, x46, x47, l48, x52, x53⟩ : journal_Journal).base_) ((⟨x44, x45, x46, x47, l48, x52, x53⟩ : journal_Journal).size_) ((⟨x44, x45, x46, x47, l48, x52, x53⟩ : journal_Journal).next_) ((⟨x44, x45, x46, x47, l48, x52, x53⟩ : journal_Journal).last_) p49 ((⟨x44, x45, x46, x47, l48, x52, x53⟩ : journal_Journal).list_) c50 ((⟨x44, x45, x46, x47, l48, x52, x53⟩ : journal_Journal).sure_) ((⟨x44, x45, x46, x47, l48, x52, x53⟩ : journal_Journal).dead_), own eStr 9 p49 c50 ((⟨x44, x45, x46, x47, l48, x52, x53⟩ : journal_Journal).list_)] ++ F0) rfl hs) rfl (by kernel_rfl) ?_
    refine aw_two 6 8 (mi := 130303) (mj := 130495) (by kernel_rfl) (by kernel_rfl) (by kernel_rfl) ?_ ?_
    · refine pw_quiet (v := .slice p49 ((⟨x44, x45, x46, x47, l48, x52, x53⟩ : journal_Journal).list_).length c50) rfl rfl rfl rfl (q_load 1 rfl rfl rfl (by kernel_rfl)) (aw_next (fun w hs => sat_pulls [0, 1, 1, 2, 2] (G := [o3 b40 b0 ((⟨x44, x45, x46, x47, l48, x52, x53⟩ : journal_Journal).base_) ((⟨x44, x45, x46, x47, l48, x52, x53⟩ : journal_Journal).size_) ((⟨x44, x45, x46, x47, l48, x52, x53⟩ : journal_Journal).next_) ((⟨x44, x45, x46, x47, l48, x52, x53⟩ : journal_Journal).last_) p49 ((⟨x44, x45, x46, x47, l48, x52, x53⟩ : journal_Journal).list_) c50 ((⟨x44, x45, x46, x47, l48, x52, x53⟩ : journal_Journal).sure_) ((⟨x44, x45, x46, x47, l48, x52, x53⟩ : journal_Journal).dead_), own eStr 9 p49 c50 ((⟨x44, x45, x46, x47, l48, x52, x53⟩ : journal_Journal).list_)] ++ F0) rfl hs) ?_)
      refine aw_only 8 (m' := 130559) (by kernel_rfl) (by kernel_rfl) (pw_buildSlice (E := 9) eStr ([r54.1] : List ByteArray) rfl rfl rfl rfl rfl (by kernel_rfl) rfl (by kernel_rfl) rfl (by decide) rfl fun p63 => aw_next (fun w hs => sat_pulls [1, 2, 2, 3, 3] (G := [own eStr 9 p63 1 ([r54.1] : List ByteArray), o3 b40 b0 ((⟨x44, x45, x46, x47, l48, x52, x53⟩ : journal_Journal).base_) ((⟨x44, x45, x46, x47, l48, x52, x53⟩ : journal_Journal).size_) ((⟨x44, x45, x46, x47, l48, x52, x53⟩ : journal_Journal).next_) ((⟨x44, x45, x46, x47, l48, x52, x53⟩ : journal_Journal).last_) p49 ((⟨x44, x45, x46, x47, l48, x52, x53⟩ : journal_Journal).list_) c50 ((⟨x44, x45, x46, x47, l48, x52, x53⟩ : journal_Journal).sure_) ((⟨x44, x45, x46, x47, l48, x52, x53⟩ : journal_Journal).dead_), own eStr 9 p49 c50 ((⟨x44, x45, x46, x47, l48, x52, x53⟩ : journal_Journal).list_)] ++ F0) rfl hs) ?_)
      refine aw_only 9 (m' := 131071) (by kernel_rfl) (by kernel_rfl) (pw_append 5 (l' := ([r54.1] : List ByteArray)) rfl rfl rfl rfl rfl rfl (by kernel_rfl) (by kernel_rfl) rfl rfl rfl (src_own (E' := 9) 0 rfl (by kernel_rfl) rfl) rfl h60.1 h60.2 fun p65 c66 => nw_H (H' := [own eStr 9 p63 1 ([r54.1] : List ByteArray), imm I, o3 b40 b0 ((⟨x44, x45, x46, x47, l48, x52, x53⟩ : journal_Journal).base_) ((⟨x44, x45, x46, x47, l48, x52, x53⟩ : journal_Journal).size_) ((⟨x44, x45, x46, x47, l48, x52, x53⟩ : journal_Journal).next_) ((⟨x44, x45, x46, x47, l48, x52, x53⟩ : journal_Journal).last_) p49 ((⟨x44, x45, x46, x47, l48, x52, x53⟩ : journal_Journal).list_) c50 ((⟨x44, x45, x46, x47, l48, x52, x53⟩ : journal_Journal).sure_) ((⟨x44, x45, x46, x47, l48, x52, x53⟩ : journal_Journal).dead_), o1 b0 b1 m0.boot_ m0.n_, o0 b1 p0 m1.sure_ c0 p1 m1.off_ m1.armed_ m1.left_ m1.fall_.Keep m1.fall_.Tear m1.acts_ m1.falls_, own eStr 9 p65 c66 (((⟨x44, x45, x46, x47, l48, x52, x53⟩ : journal_Journal).list_) ++ ([r54.1] : List ByteArray)), own e_disk_sector 51 p0 c0 m1.sure_, mpo (kInt .i64) (fun x : disk_sector => Value.agg #[.string x.s_, i6 x.at_]) p1 m1.wait_] ++ F0) rfl (aw_next (fun w hs => sat_pulls [1, 2, 2, 3, 3] (G := [own eStr 9 p63 1 ([r54.1] : List ByteArray), o3 b40 b0 ((⟨x44, x45, x46, x47, l48, x52, x53⟩ : journal_Journal).base_) ((⟨x44, x45, x46, x47, l48, x52, x53⟩ : journal_Journal).size_) ((⟨x44, x45, x46, x47, l48, x52, x53⟩ : journal_Journal).next_) ((⟨x44, x45, x46, x47, l48, x52, x53⟩ : journal_Journal).last_) p49 ((⟨x44, x45, x46, x47, l48, x52, x53⟩ : journal_Journal).list_) c50 ((⟨x44, x45, x46, x47, l48, x52, x53⟩ : journal_Journal).sure_) ((⟨x44, x45, x46, x47, l48, x52, x53⟩ : journal_Journal).dead_), own eStr 9 p65 c66 (((⟨x44, x45, x46, x47, l48, x52, x53⟩ : journal_Journal).list_) ++ ([r54.1] : List ByteArray))] ++ F0) rfl hs) ?_))
      refine aw_vals [17, 18] (f' := 7) (m' := 524287) [10, 77, 78, 85, 91, 92, 94] [(10, pP b40), (77, pP b40), (78, pP b40), (85, .slice p65 (((⟨x44, x45, x46, x47, l48, x52, x53⟩ : journal_Journal).list_) ++ ([r54.1] : List ByteArray)).length c66), (91, i6 (IntKind.i64.wrap (((⟨x44, x45, x46, x47, l48, x52, x53⟩ : journal_Journal).next_) + r54.2.1))), (92, i6 r54.2.2.1), (94, .pointer (some ⟨b40, 5, none⟩))] (fun _ _ _ _ _ h => calm_fin (P := Tryz.prog) (fn := Tryz.f15) _ _ _ _ _ h) (fun w hs => sat_pulls [1, 2, 2, 3, 3] (G := [own eStr 9 p63 1 ([r54.1] : List ByteArray), o3 b40 b0 ((⟨x44, x45, x46, x47, l48, x52, x53⟩ : journal_Journal).base_) ((⟨x44, x45, x46, x47, l48, x52, x53⟩ : journal_Journal).size_) ((⟨x44, x45, x46, x47, l48, x52, x53⟩ : journal_Journal).next_) ((⟨x44, x45, x46, x47, l48, x52, x53⟩ : journal_Journal).last_) p49 ((⟨x44, x45, x46, x47, l48, x52, x53⟩ : journal_Journal).list_) c50 ((⟨x44, x45, x46, x47, l48, x52, x53⟩ : journal_Journal).sure_) ((⟨x44, x45, x46, x47, l48, x52, x53⟩ : journal_Journal).dead_), own eStr 9 p65 c66 (((⟨x44, x45, x46, x47, l48, x52, x53⟩ : journal_Journal).list_) ++ ([r54.1] : List ByteArray))] ++ F0) rfl hs) rfl (by kernel_rfl) ?_
      refine aw_only 19 (m' := 1048575) (by kernel_rfl) (by kernel_rfl) (pw_store 2 #[pP b0, i6 ((⟨x44, x45, x46, x47, l48, x52, x53⟩ : journal_Journal).base_), i6 ((⟨x44, x45, x46, x47, l48, x52, x53⟩ : journal_Journal).size_), i6 ((⟨x44, x45, x46, x47, l48, x52, x53⟩ : journal_Journal).next_), i6 ((⟨x44, x45, x46, x47, l48, x52, x53⟩ : journal_Journal).last_), .slice p65 (((⟨x44, x45, x46, x47, l48, x52, x53⟩ : journal_Journal).list_) ++ ([r54.1] : List ByteArray)).length c66, i6 ((⟨x44, x45, x46, x47, l48, x52, x53⟩ : journal_Journal).sure_), .bool ((⟨x44, x45, x46, x47, l48, x52, x53⟩ : journal_Journal).dead_)] rfl rfl rfl rfl rfl rfl rfl (by kernel_rfl) (nw_H (H' := [own eStr 9 p63 1 ([r54.1] : List ByteArray), imm I, o3 b40 b0 ((⟨x44, x45, x46, x47, l48, x52, x53⟩ : journal_Journal).base_) ((⟨x44, x45, x46, x47, l48, x52, x53⟩ : journal_Journal).size_) ((⟨x44, x45, x46, x47, l48, x52, x53⟩ : journal_Journal).next_) ((⟨x44, x45, x46, x47, l48, x52, x53⟩ : journal_Journal).last_) p65 (((⟨x44, x45, x46, x47, l48, x52, x53⟩ : journal_Journal).list_) ++ ([r54.1] : List ByteArray)) c66 ((⟨x44, x45, x46, x47, l48, x52, x53⟩ : journal_Journal).sure_) ((⟨x44, x45, x46, x47, l48, x52, x53⟩ : journal_Journal).dead_), o1 b0 b1 m0.boot_ m0.n_, o0 b1 p0 m1.sure_ c0 p1 m1.off_ m1.armed_ m1.left_ m1.fall_.Keep m1.fall_.Tear m1.acts_ m1.falls_, own eStr 9 p65 c66 (((⟨x44, x45, x46, x47, l48, x52, x53⟩ : journal_Journal).list_) ++ ([r54.1] : List ByteArray)), own e_disk_sector 51 p0 c0 m1.sure_, mpo (kInt .i64) (fun x : disk_sector => Value.agg #[.string x.s_, i6 x.at_]) p1 m1.wait_] ++ F0) rfl (aw_next (fun w hs => sat_pulls [1, 2, 2, 3, 3] (G := [own eStr 9 p63 1 ([r54.1] : List ByteArray), o3 b40 b0 ((⟨x44, x45, x46, x47, l48, x52, x53⟩ : journal_Journal).base_) ((⟨x44, x45, x46, x47, l48, x52, x53⟩ : journal_Journal).size_) ((⟨x44, x45, x46, x47, l48, x52, x53⟩ : journal_Journal).next_) ((⟨x44, x45, x46, x47, l48, x52, x53⟩ : journal_Journal).last_) p65 (((⟨x44, x45, x46, x47, l48, x52, x53⟩ : journal_Journal).list_) ++ ([r54.1] : List ByteArray)) c66 ((⟨x44, x45, x46, x47, l48, x52, x53⟩ : journal_Journal).sure_) ((⟨x44, x45, x46, x47, l48, x52, x53⟩ : journal_Journal).dead_), own eStr 9 p65 c66 (((⟨x44, x45, x46, x47, l48, x52, x53⟩ : journal_Journal).list_) ++ ([r54.1] : List ByteArray))] ++ F0) rfl hs) ?_)))
      refine aw_vals [20, 21] (f' := 4) (m' := 4194303) [10, 78, 91, 92, 96] [(10, pP b40), (78, pP b40), (91, i6 (IntKind.i64.wrap (((⟨x44, x45, x46, x47, l48, x52, x53⟩ : journal_Journal).next_) + r54.2.1))), (92, i6 r54.2.2.1), (96, .pointer (some ⟨b40, 3, none⟩))] (fun _ _ _ _ _ h => calm_fin (P := Tryz.prog) (fn := Tryz.f15) _ _ _ _ _ h) (fun w hs => sat_pulls [1, 2, 2, 3, 3] (G := [own eStr 9 p63 1 ([r54.1] : List ByteArray), o3 b40 b0 ((⟨x44, x45, x46, x47, l48, x52, x53⟩ : journal_Journal).base_) ((⟨x44, x45, x46, x47, l48, x52, x53⟩ : journal_Journal).size_) ((⟨x44, x45, x46, x47, l48, x52, x53⟩ : journal_Journal).next_) ((⟨x44, x45, x46, x47, l48, x52, x53⟩ : journal_Journal).last_) p65 (((⟨x44, x45, x46, x47, l48, x52, x53⟩ : journal_Journal).list_) ++ ([r54.1] : List ByteArray)) c66 ((⟨x44, x45, x46, x47, l48, x52, x53⟩ : journal_Journal).sure_) ((⟨x44, x45, x46, x47, l48, x52, x53⟩ : journal_Journal).dead_), own eStr 9 p65 c66 (((⟨x44, x45, x46, x47, l48, x52, x53⟩ : journal_Journal).list_) ++ ([r54.1] : List ByteArray))] ++ F0) rfl hs) rfl (by kernel_rfl) ?_
      refine aw_only 22 (m' := 8388607) (by kernel_rfl) (by kernel_rfl) (pw_store 2 #[pP b0, i6 ((⟨x44, x45, x46, x47, l48, x52, x53⟩ : journal_Journal).base_), i6 ((⟨x44, x45, x46, x47, l48, x52, x53⟩ : journal_Journal).size_), i6 (IntKind.i64.wrap (((⟨x44, x45, x46, x47, l48, x52, x53⟩ : journal_Journal).next_) + r54.2.1)), i6 ((⟨x44, x45, x46, x47, l48, x52, x53⟩ : journal_Journal).last_), .slice p65 (((⟨x44, x45, x46, x47, l48, x52, x53⟩ : journal_Journal).list_) ++ ([r54.1] : List ByteArray)).length c66, i6 ((⟨x44, x45, x46, x47, l48, x52, x53⟩ : journal_Journal).sure_), .bool ((⟨x44, x45, x46, x47, l48, x52, x53⟩ : journal_Journal).dead_)] rfl rfl rfl rfl rfl rfl rfl (by kernel_rfl) (nw_H (H' := [own eStr 9 p63 1 ([r54.1] : List ByteArray), imm I, o3 b40 b0 ((⟨x44, x45, x46, x47, l48, x52, x53⟩ : journal_Journal).base_) ((⟨x44, x45, x46, x47, l48, x52, x53⟩ : journal_Journal).size_) (IntKind.i64.wrap (((⟨x44, x45, x46, x47, l48, x52, x53⟩ : journal_Journal).next_) + r54.2.1)) ((⟨x44, x45, x46, x47, l48, x52, x53⟩ : journal_Journal).last_) p65 (((⟨x44, x45, x46, x47, l48, x52, x53⟩ : journal_Journal).list_) ++ ([r54.1] : List ByteArray)) c66 ((⟨x44, x45, x46, x47, l48, x52, x53⟩ : journal_Journal).sure_) ((⟨x44, x45, x46, x47, l48, x52, x53⟩ : journal_Journal).dead_), o1 b0 b1 m0.boot_ m0.n_, o0 b1 p0 m1.sure_ c0 p1 m1.off_ m1.armed_ m1.left_ m1.fall_.Keep m1.fall_.Tear m1.acts_ m1.falls_, own eStr 9 p65 c66 (((⟨x44, x45, x46, x47, l48, x52, x53⟩ : journal_Journal).list_) ++ ([r54.1] : List ByteArray)), own e_disk_sector 51 p0 c0 m1.sure_, mpo (kInt .i64) (fun x : disk_sector => Value.agg #[.string x.s_, i6 x.at_]) p1 m1.wait_] ++ F0) rfl (aw_next (fun w hs => sat_pulls [1, 2, 2, 3, 3] (G := [own eStr 9 p63 1 ([r54.1] : List ByteArray), o3 b40 b0 ((⟨x44, x45, x46, x47, l48, x52, x53⟩ : journal_Journal).base_) ((⟨x44, x45, x46, x47, l48, x52, x53⟩ : journal_Journal).size_) (IntKind.i64.wrap (((⟨x44, x45, x46, x47, l48, x52, x53⟩ : journal_Journal).next_) + r54.2.1)) ((⟨x44, x45, x46, x47, l48, x52, x53⟩ : journal_Journal).last_) p65 (((⟨x44, x45, x46, x47, l48, x52, x53⟩ : journal_Journal).list_) ++ ([r54.1] : List ByteArray)) c66 ((⟨x44, x45, x46, x47, l48, x52, x53⟩ : journal_Journal).sure_) ((⟨x44, x45, x46, x47, l48, x52, x53⟩ : journal_Journal).dead_), own eStr 9 p65 c66 (((⟨x44, x45, x46, x47, l48, x52, x53⟩ : journal_Journal).list_) ++ ([r54.1] : List ByteArray))] ++ F0) rfl hs) ?_)))
      refine aw_vals [23, 24] (f' := 1) (m' := 33554431) [10, 92, 98] [(10, pP b40), (92, i6 r54.2.2.1), (98, .pointer (some ⟨b40, 4, none⟩))] (fun _ _ _ _ _ h => calm_fin (P := Tryz.prog) (fn := Tryz.f15) _ _ _ _ _ h) (fun w hs => sat_pulls [1, 2, 2, 3, 3] (G := [own eStr 9 p63 1 ([r54.1] : List ByteArray), o3 b40 b0 ((⟨x44, x45, x46, x47, l48, x52, x53⟩ : journal_Journal).base_) ((⟨x44, x45, x46, x47, l48, x52, x53⟩ : journal_Journal).size_) (IntKind.i64.wrap (((⟨x44, x45, x46, x47, l48, x52, x53⟩ : journal_Journal).next_) + r54.2.1)) ((⟨x44, x45, x46, x47, l48, x52, x53⟩ : journal_Journal).last_) p65 (((⟨x44, x45, x46, x47, l48, x52, x53⟩ : journal_Journal).list_) ++ ([r54.1] : List ByteArray)) c66 ((⟨x44, x45, x46, x47, l48, x52, x53⟩ : journal_Journal).sure_) ((⟨x44, x45, x46, x47, l48, x52, x53⟩ : journal_Journal).dead_), own eStr 9 p65 c66 (((⟨x44, x45, x46, x47, l48, x52, x53⟩ : journal_Journal).list_) ++ ([r54.1] : List ByteArray))] ++ F0) rfl hs) rfl (by kernel_rfl) ?_
      refine aw_only 25 (m' := 67108863) (by kernel_rfl) (by kernel_rfl) (pw_store 2 #[pP b0, i6 ((⟨x44, x45, x46, x47, l48, x52, x53⟩ : journal_Journal).base_), i6 ((⟨x44, x45, x46, x47, l48, x52, x53⟩ : journal_Journal).size_), i6 (IntKind.i64.wrap (((⟨x44, x45, x46, x47, l48, x52, x53⟩ : journal_Journal).next_) + r54.2.1)), i6 r54.2.2.1, .slice p65 (((⟨x44, x45, x46, x47, l48, x52, x53⟩ : journal_Journal).list_) ++ ([r54.1] : List ByteArray)).length c66, i6 ((⟨x44, x45, x46, x47, l48, x52, x53⟩ : journal_Journal).sure_), .bool ((⟨x44, x45, x46, x47, l48, x52, x53⟩ : journal_Journal).dead_)] rfl rfl rfl rfl rfl rfl rfl (by kernel_rfl) (nw_H (H' := [own eStr 9 p63 1 ([r54.1] : List ByteArray), imm I, o3 b40 b0 ((⟨x44, x45, x46, x47, l48, x52, x53⟩ : journal_Journal).base_) ((⟨x44, x45, x46, x47, l48, x52, x53⟩ : journal_Journal).size_) (IntKind.i64.wrap (((⟨x44, x45, x46, x47, l48, x52, x53⟩ : journal_Journal).next_) + r54.2.1)) r54.2.2.1 p65 (((⟨x44, x45, x46, x47, l48, x52, x53⟩ : journal_Journal).list_) ++ ([r54.1] : List ByteArray)) c66 ((⟨x44, x45, x46, x47, l48, x52, x53⟩ : journal_Journal).sure_) ((⟨x44, x45, x46, x47, l48, x52, x53⟩ : journal_Journal).dead_), o1 b0 b1 m0.boot_ m0.n_, o0 b1 p0 m1.sure_ c0 p1 m1.off_ m1.armed_ m1.left_ m1.fall_.Keep m1.fall_.Tear m1.acts_ m1.falls_, own eStr 9 p65 c66 (((⟨x44, x45, x46, x47, l48, x52, x53⟩ : journal_Journal).list_) ++ ([r54.1] : List ByteArray)), own e_disk_sector 51 p0 c0 m1.sure_, mpo (kInt .i64) (fun x : disk_sector => Value.agg #[.string x.s_, i6 x.at_]) p1 m1.wait_] ++ F0) rfl (aw_last (by kernel_rfl) ?_)))
      refine aw_keep [10] (L' := [(10, pP b40)]) rfl ?_
      refine aw_end (by kernel_rfl) ?_
      refine ew_blk ?_
      have hR := Option.some.inj hF
      subst hR
      have hR := hL43
      try dsimp only at hR
      exact fun a w hf hs => ⟨k, Nat.lt_succ_self k, (⟨x44, x45, x46, x47, l48, x52, x53⟩ : journal_Journal).base_, (⟨x44, x45, x46, x47, l48, x52, x53⟩ : journal_Journal).size_, IntKind.i64.wrap (((⟨x44, x45, x46, x47, l48, x52, x53⟩ : journal_Journal).next_) + r54.2.1), r54.2.2.1, ((⟨x44, x45, x46, x47, l48, x52, x53⟩ : journal_Journal).list_) ++ ([r54.1] : List ByteArray), (⟨x44, x45, x46, x47, l48, x52, x53⟩ : journal_Journal).sure_, (⟨x44, x45, x46, x47, l48, x52, x53⟩ : journal_Journal).dead_, p65, c66, hR, hf.keep [10], sat_to [0, 0, 0, 1, 0, 0, 0, 0] 1 rfl hs⟩
    refine pw_buildSlice (E := 9) eStr ([r54.1] : List ByteArray) rfl rfl rfl rfl rfl (by kernel_rfl) rfl (by kernel_rfl) rfl (by decide) rfl fun p63 => aw_next (fun w hs => sat_pulls [1, 2, 2, 3, 3] (G := [own eStr 9 p63 1 ([r54.1] : List ByteArray), o3 b40 b0 ((⟨x44, x45, x46, x47, l48, x52, x53⟩ : journal_Journal).base_) ((⟨x44, x45, x46, x47, l48, x52, x53⟩ : journal_Journal).size_) ((⟨x44, x45, x46, x47, l48, x52, x53⟩ : journal_Journal).next_) ((⟨x44, x45, x46, x47, l48, x52, x53⟩ : journal_Journal).last_) p49 ((⟨x44, x45, x46, x47, l48, x52, x53⟩ : journal_Journal).list_) c50 ((⟨x44, x45, x46, x47, l48, x52, x53⟩ : journal_Journal).sure_) ((⟨x44, x45, x46, x47, l48, x52, x53⟩ : journal_Journal).dead_), own eStr 9 p49 c50 ((⟨x44, x45, x46, x47, l48, x52, x53⟩ : journal_Journal).list_)] ++ F0) rfl hs) ?_
    refine aw_only 6 (m' := 130559) (by kernel_rfl) (by kernel_rfl) (pw_quiet (v := .slice p49 ((⟨x44, x45, x46, x47, l48, x52, x53⟩ : journal_Journal).list_).length c50) rfl rfl rfl rfl (q_load 2 rfl rfl rfl (by kernel_rfl)) (aw_next (fun w hs => sat_pulls [1, 2, 2, 3, 3] (G := [own eStr 9 p63 1 ([r54.1] : List ByteArray), o3 b40 b0 ((⟨x44, x45, x46, x47, l48, x52, x53⟩ : journal_Journal).base_) ((⟨x44, x45, x46, x47, l48, x52, x53⟩ : journal_Journal).size_) ((⟨x44, x45, x46, x47, l48, x52, x53⟩ : journal_Journal).next_) ((⟨x44, x45, x46, x47, l48, x52, x53⟩ : journal_Journal).last_) p49 ((⟨x44, x45, x46, x47, l48, x52, x53⟩ : journal_Journal).list_) c50 ((⟨x44, x45, x46, x47, l48, x52, x53⟩ : journal_Journal).sure_) ((⟨x44, x45, x46, x47, l48, x52, x53⟩ : journal_Journal).dead_), own eStr 9 p49 c50 ((⟨x44, x45, x46, x47, l48, x52, x53⟩ : journal_Journal).list_)] ++ F0) rfl hs) ?_))
    refine aw_only 9 (m' := 131071) (by kernel_rfl) (by kernel_rfl) (pw_append 5 (l' := ([r54.1] : List ByteArray)) rfl rfl rfl rfl rfl rfl (by kernel_rfl) (by kernel_rfl) rfl rfl rfl (src_own (E' := 9) 0 rfl (by kernel_rfl) rfl) rfl h60.1 h60.2 fun p65 c66 => nw_H (H' := [own eStr 9 p63 1 ([r54.1] : List ByteArray), imm I, o3 b40 b0 ((⟨x44, x45, x46, x47, l48, x52, x53⟩ : journal_Journal).base_) ((⟨x44, x45, x46, x47, l48, x52, x53⟩ : journal_Journal).size_) ((⟨x44, x45, x46, x47, l48, x52, x53⟩ : journal_Journal).next_) ((⟨x44, x45, x46, x47, l48, x52, x53⟩ : journal_Journal).last_) p49 ((⟨x44, x45, x46, x47, l48, x52, x53⟩ : journal_Journal).list_) c50 ((⟨x44, x45, x46, x47, l48, x52, x53⟩ : journal_Journal).sure_) ((⟨x44, x45, x46, x47, l48, x52, x53⟩ : journal_Journal).dead_), o1 b0 b1 m0.boot_ m0.n_, o0 b1 p0 m1.sure_ c0 p1 m1.off_ m1.armed_ m1.left_ m1.fall_.Keep m1.fall_.Tear m1.acts_ m1.falls_, own eStr 9 p65 c66 (((⟨x44, x45, x46, x47, l48, x52, x53⟩ : journal_Journal).list_) ++ ([r54.1] : List ByteArray)), own e_disk_sector 51 p0 c0 m1.sure_, mpo (kInt .i64) (fun x : disk_sector => Value.agg #[.string x.s_, i6 x.at_]) p1 m1.wait_] ++ F0) rfl (aw_next (fun w hs => sat_pulls [1, 2, 2, 3, 3] (G := [own eStr 9 p63 1 ([r54.1] : List ByteArray), o3 b40 b0 ((⟨x44, x45, x46, x47, l48, x52, x53⟩ : journal_Journal).base_) ((⟨x44, x45, x46, x47, l48, x52, x53⟩ : journal_Journal).size_) ((⟨x44, x45, x46, x47, l48, x52, x53⟩ : journal_Journal).next_) ((⟨x44, x45, x46, x47, l48, x52, x53⟩ : journal_Journal).last_) p49 ((⟨x44, x45, x46, x47, l48, x52, x53⟩ : journal_Journal).list_) c50 ((⟨x44, x45, x46, x47, l48, x52, x53⟩ : journal_Journal).sure_) ((⟨x44, x45, x46, x47, l48, x52, x53⟩ : journal_Journal).dead_), own eStr 9 p65 c66 (((⟨x44, x45, x46, x47, l48, x52, x53⟩ : journal_Journal).list_) ++ ([r54.1] : List ByteArray))] ++ F0) rfl hs) ?_))
    refine aw_vals [17, 18] (f' := 7) (m' := 524287) [10, 77, 78, 85, 91, 92, 94] [(10, pP b40), (77, pP b40), (78, pP b40), (85, .slice p65 (((⟨x44, x45, x46, x47, l48, x52, x53⟩ : journal_Journal).list_) ++ ([r54.1] : List ByteArray)).length c66), (91, i6 (IntKind.i64.wrap (((⟨x44, x45, x46, x47, l48, x52, x53⟩ : journal_Journal).next_) + r54.2.1))), (92, i6 r54.2.2.1), (94, .pointer (some ⟨b40, 5, none⟩))] (fun _ _ _ _ _ h => calm_fin (P := Tryz.prog) (fn := Tryz.f15) _ _ _ _ _ h) (fun w hs => sat_pulls [1, 2, 2, 3, 3] (G := [own eStr 9 p63 1 ([r54.1] : List ByteArray), o3 b40 b0 ((⟨x44, x45, x46, x47, l48, x52, x53⟩ : journal_Journal).base_) ((⟨x44, x45, x46, x47, l48, x52, x53⟩ : journal_Journal).size_) ((⟨x44, x45, x46, x47, l48, x52, x53⟩ : journal_Journal).next_) ((⟨x44, x45, x46, x47, l48, x52, x53⟩ : journal_Journal).last_) p49 ((⟨x44, x45, x46, x47, l48, x52, x53⟩ : journal_Journal).list_) c50 ((⟨x44, x45, x46, x47, l48, x52, x53⟩ : journal_Journal).sure_) ((⟨x44, x45, x46, x47, l48, x52, x53⟩ : journal_Journal).dead_), own eStr 9 p65 c66 (((⟨x44, x45, x46, x47, l48, x52, x53⟩ : journal_Journal).list_) ++ ([r54.1] : List ByteArray))] ++ F0) rfl hs) rfl (by kernel_rfl) ?_
    refine aw_only 19 (m' := 1048575) (by kernel_rfl) (by kernel_rfl) (pw_store 2 #[pP b0, i6 ((⟨x44, x45, x46, x47, l48, x52, x53⟩ : journal_Journal).base_), i6 ((⟨x44, x45, x46, x47, l48, x52, x53⟩ : journal_Journal).size_), i6 ((⟨x44, x45, x46, x47, l48, x52, x53⟩ : journal_Journal).next_), i6 ((⟨x44, x45, x46, x47, l48, x52, x53⟩ : journal_Journal).last_), .slice p65 (((⟨x44, x45, x46, x47, l48, x52, x53⟩ : journal_Journal).list_) ++ ([r54.1] : List ByteArray)).length c66, i6 ((⟨x44, x45, x46, x47, l48, x52, x53⟩ : journal_Journal).sure_), .bool ((⟨x44, x45, x46, x47, l48, x52, x53⟩ : journal_Journal).dead_)] rfl rfl rfl rfl rfl rfl rfl (by kernel_rfl) (nw_H (H' := [own eStr 9 p63 1 ([r54.1] : List ByteArray), imm I, o3 b40 b0 ((⟨x44, x45, x46, x47, l48, x52, x53⟩ : journal_Journal).base_) ((⟨x44, x45, x46, x47, l48, x52, x53⟩ : journal_Journal).size_) ((⟨x44, x45, x46, x47, l48, x52, x53⟩ : journal_Journal).next_) ((⟨x44, x45, x46, x47, l48, x52, x53⟩ : journal_Journal).last_) p65 (((⟨x44, x45, x46, x47, l48, x52, x53⟩ : journal_Journal).list_) ++ ([r54.1] : List ByteArray)) c66 ((⟨x44, x45, x46, x47, l48, x52, x53⟩ : journal_Journal).sure_) ((⟨x44, x45, x46, x47, l48, x52, x53⟩ : journal_Journal).dead_), o1 b0 b1 m0.boot_ m0.n_, o0 b1 p0 m1.sure_ c0 p1 m1.off_ m1.armed_ m1.left_ m1.fall_.Keep m1.fall_.Tear m1.acts_ m1.falls_, own eStr 9 p65 c66 (((⟨x44, x45, x46, x47, l48, x52, x53⟩ : journal_Journal).list_) ++ ([r54.1] : List ByteArray)), own e_disk_sector 51 p0 c0 m1.sure_, mpo (kInt .i64) (fun x : disk_sector => Value.agg #[.string x.s_, i6 x.at_]) p1 m1.wait_] ++ F0) rfl (aw_next (fun w hs => sat_pulls [1, 2, 2, 3, 3] (G := [own eStr 9 p63 1 ([r54.1] : List ByteArray), o3 b40 b0 ((⟨x44, x45, x46, x47, l48, x52, x53⟩ : journal_Journal).base_) ((⟨x44, x45, x46, x47, l48, x52, x53⟩ : journal_Journal).size_) ((⟨x44, x45, x46, x47, l48, x52, x53⟩ : journal_Journal).next_) ((⟨x44, x45, x46, x47, l48, x52, x53⟩ : journal_Journal).last_) p65 (((⟨x44, x45, x46, x47, l48, x52, x53⟩ : journal_Journal).list_) ++ ([r54.1] : List ByteArray)) c66 ((⟨x44, x45, x46, x47, l48, x52, x53⟩ : journal_Journal).sure_) ((⟨x44, x45, x46, x47, l48, x52, x53⟩ : journal_Journal).dead_), own eStr 9 p65 c66 (((⟨x44, x45, x46, x47, l48, x52, x53⟩ : journal_Journal).list_) ++ ([r54.1] : List ByteArray))] ++ F0) rfl hs) ?_)))
    refine aw_vals [20, 21] (f' := 4) (m' := 4194303) [10, 78, 91, 92, 96] [(10, pP b40), (78, pP b40), (91, i6 (IntKind.i64.wrap (((⟨x44, x45, x46, x47, l48, x52, x53⟩ : journal_Journal).next_) + r54.2.1))), (92, i6 r54.2.2.1), (96, .pointer (some ⟨b40, 3, none⟩))] (fun _ _ _ _ _ h => calm_fin (P := Tryz.prog) (fn := Tryz.f15) _ _ _ _ _ h) (fun w hs => sat_pulls [1, 2, 2, 3, 3] (G := [own eStr 9 p63 1 ([r54.1] : List ByteArray), o3 b40 b0 ((⟨x44, x45, x46, x47, l48, x52, x53⟩ : journal_Journal).base_) ((⟨x44, x45, x46, x47, l48, x52, x53⟩ : journal_Journal).size_) ((⟨x44, x45, x46, x47, l48, x52, x53⟩ : journal_Journal).next_) ((⟨x44, x45, x46, x47, l48, x52, x53⟩ : journal_Journal).last_) p65 (((⟨x44, x45, x46, x47, l48, x52, x53⟩ : journal_Journal).list_) ++ ([r54.1] : List ByteArray)) c66 ((⟨x44, x45, x46, x47, l48, x52, x53⟩ : journal_Journal).sure_) ((⟨x44, x45, x46, x47, l48, x52, x53⟩ : journal_Journal).dead_), own eStr 9 p65 c66 (((⟨x44, x45, x46, x47, l48, x52, x53⟩ : journal_Journal).list_) ++ ([r54.1] : List ByteArray))] ++ F0) rfl hs) rfl (by kernel_rfl) ?_
    refine aw_only 22 (m' := 8388607) (by kernel_rfl) (by kernel_rfl) (pw_store 2 #[pP b0, i6 ((⟨x44, x45, x46, x47, l48, x52, x53⟩ : journal_Journal).base_), i6 ((⟨x44, x45, x46, x47, l48, x52, x53⟩ : journal_Journal).size_), i6 (IntKind.i64.wrap (((⟨x44, x45, x46, x47, l48, x52, x53⟩ : journal_Journal).next_) + r54.2.1)), i6 ((⟨x44, x45, x46, x47, l48, x52, x53⟩ : journal_Journal).last_), .slice p65 (((⟨x44, x45, x46, x47, l48, x52, x53⟩ : journal_Journal).list_) ++ ([r54.1] : List ByteArray)).length c66, i6 ((⟨x44, x45, x46, x47, l48, x52, x53⟩ : journal_Journal).sure_), .bool ((⟨x44, x45, x46, x47, l48, x52, x53⟩ : journal_Journal).dead_)] rfl rfl rfl rfl rfl rfl rfl (by kernel_rfl) (nw_H (H' := [own eStr 9 p63 1 ([r54.1] : List ByteArray), imm I, o3 b40 b0 ((⟨x44, x45, x46, x47, l48, x52, x53⟩ : journal_Journal).base_) ((⟨x44, x45, x46, x47, l48, x52, x53⟩ : journal_Journal).size_) (IntKind.i64.wrap (((⟨x44, x45, x46, x47, l48, x52, x53⟩ : journal_Journal).next_) + r54.2.1)) ((⟨x44, x45, x46, x47, l48, x52, x53⟩ : journal_Journal).last_) p65 (((⟨x44, x45, x46, x47, l48, x52, x53⟩ : journal_Journal).list_) ++ ([r54.1] : List ByteArray)) c66 ((⟨x44, x45, x46, x47, l48, x52, x53⟩ : journal_Journal).sure_) ((⟨x44, x45, x46, x47, l48, x52, x53⟩ : journal_Journal).dead_), o1 b0 b1 m0.boot_ m0.n_, o0 b1 p0 m1.sure_ c0 p1 m1.off_ m1.armed_ m1.left_ m1.fall_.Keep m1.fall_.Tear m1.acts_ m1.falls_, own eStr 9 p65 c66 (((⟨x44, x45, x46, x47, l48, x52, x53⟩ : journal_Journal).list_) ++ ([r54.1] : List ByteArray)), own e_disk_sector 51 p0 c0 m1.sure_, mpo (kInt .i64) (fun x : disk_sector => Value.agg #[.string x.s_, i6 x.at_]) p1 m1.wait_] ++ F0) rfl (aw_next (fun w hs => sat_pulls [1, 2, 2, 3, 3] (G := [own eStr 9 p63 1 ([r54.1] : List ByteArray), o3 b40 b0 ((⟨x44, x45, x46, x47, l48, x52, x53⟩ : journal_Journal).base_) ((⟨x44, x45, x46, x47, l48, x52, x53⟩ : journal_Journal).size_) (IntKind.i64.wrap (((⟨x44, x45, x46, x47, l48, x52, x53⟩ : journal_Journal).next_) + r54.2.1)) ((⟨x44, x45, x46, x47, l48, x52, x53⟩ : journal_Journal).last_) p65 (((⟨x44, x45, x46, x47, l48, x52, x53⟩ : journal_Journal).list_) ++ ([r54.1] : List ByteArray)) c66 ((⟨x44, x45, x46, x47, l48, x52, x53⟩ : journal_Journal).sure_) ((⟨x44, x45, x46, x47, l48, x52, x53⟩ : journal_Journal).dead_), own eStr 9 p65 c66 (((⟨x44, x45, x46, x47, l48, x52, x53⟩ : journal_Journal).list_) ++ ([r54.1] : List ByteArray))] ++ F0) rfl hs) ?_)))
    refine aw_vals [23, 24] (f' := 1) (m' := 33554431) [10, 92, 98] [(10, pP b40), (92, i6 r54.2.2.1), (98, .pointer (some ⟨b40, 4, none⟩))] (fun _ _ _ _ _ h => calm_fin (P := Tryz.prog) (fn := Tryz.f15) _ _ _ _ _ h) (fun w hs => sat_pulls [1, 2, 2, 3, 3] (G := [own eStr 9 p63 1 ([r54.1] : List ByteArray), o3 b40 b0 ((⟨x44, x45, x46, x47, l48, x52, x53⟩ : journal_Journal).base_) ((⟨x44, x45, x46, x47, l48, x52, x53⟩ : journal_Journal).size_) (IntKind.i64.wrap (((⟨x44, x45, x46, x47, l48, x52, x53⟩ : journal_Journal).next_) + r54.2.1)) ((⟨x44, x45, x46, x47, l48, x52, x53⟩ : journal_Journal).last_) p65 (((⟨x44, x45, x46, x47, l48, x52, x53⟩ : journal_Journal).list_) ++ ([r54.1] : List ByteArray)) c66 ((⟨x44, x45, x46, x47, l48, x52, x53⟩ : journal_Journal).sure_) ((⟨x44, x45, x46, x47, l48, x52, x53⟩ : journal_Journal).dead_), own eStr 9 p65 c66 (((⟨x44, x45, x46, x47, l48, x52, x53⟩ : journal_Journal).list_) ++ ([r54.1] : List ByteArray))] ++ F0) rfl hs) rfl (by kernel_rfl) ?_
    refine aw_only 25 (m' := 67108863) (by kernel_rfl) (by kernel_rfl) (pw_store 2 #[pP b0, i6 ((⟨x44, x45, x46, x47, l48, x52, x53⟩ : journal_Journal).base_), i6 ((⟨x44, x45, x46, x47, l48, x52, x53⟩ : journal_Journal).size_), i6 (IntKind.i64.wrap (((⟨x44, x45, x46, x47, l48, x52, x53⟩ : journal_Journal).next_) + r54.2.1)), i6 r54.2.2.1, .slice p65 (((⟨x44, x45, x46, x47, l48, x52, x53⟩ : journal_Journal).list_) ++ ([r54.1] : List ByteArray)).length c66, i6 ((⟨x44, x45, x46, x47, l48, x52, x53⟩ : journal_Journal).sure_), .bool ((⟨x44, x45, x46, x47, l48, x52, x53⟩ : journal_Journal).dead_)] rfl rfl rfl rfl rfl rfl rfl (by kernel_rfl) (nw_H (H' := [own eStr 9 p63 1 ([r54.1] : List ByteArray), imm I, o3 b40 b0 ((⟨x44, x45, x46, x47, l48, x52, x53⟩ : journal_Journal).base_) ((⟨x44, x45, x46, x47, l48, x52, x53⟩ : journal_Journal).size_) (IntKind.i64.wrap (((⟨x44, x45, x46, x47, l48, x52, x53⟩ : journal_Journal).next_) + r54.2.1)) r54.2.2.1 p65 (((⟨x44, x45, x46, x47, l48, x52, x53⟩ : journal_Journal).list_) ++ ([r54.1] : List ByteArray)) c66 ((⟨x44, x45, x46, x47, l48, x52, x53⟩ : journal_Journal).sure_) ((⟨x44, x45, x46, x47, l48, x52, x53⟩ : journal_Journal).dead_), o1 b0 b1 m0.boot_ m0.n_, o0 b1 p0 m1.sure_ c0 p1 m1.off_ m1.armed_ m1.left_ m1.fall_.Keep m1.fall_.Tear m1.acts_ m1.falls_, own eStr 9 p65 c66 (((⟨x44, x45, x46, x47, l48, x52, x53⟩ : journal_Journal).list_) ++ ([r54.1] : List ByteArray)), own e_disk_sector 51 p0 c0 m1.sure_, mpo (kInt .i64) (fun x : disk_sector => Value.agg #[.string x.s_, i6 x.at_]) p1 m1.wait_] ++ F0) rfl (aw_last (by kernel_rfl) ?_)))
    refine aw_keep [10] (L' := [(10, pP b40)]) rfl ?_
    refine aw_end (by kernel_rfl) ?_
    refine ew_blk ?_
    have hR := Option.some.inj hF
    subst hR
    have hR := hL43
    try dsimp only at hR
    exact fun a w hf hs => ⟨k, Nat.lt_succ_self k, (⟨x44, x45, x46, x47, l48, x52, x53⟩ : journal_Journal).base_, (⟨x44, x45, x46, x47, l48, x52, x53⟩ : journal_Journal).size_, IntKind.i64.wrap (((⟨x44, x45, x46, x47, l48, x52, x53⟩ : journal_Journal).next_) + r54.2.1), r54.2.2.1, ((⟨x44, x45, x46, x47, l48, x52, x53⟩ : journal_Journal).list_) ++ ([r54.1] : List ByteArray), (⟨x44, x45, x46, x47, l48, x52, x53⟩ : journal_Journal).sure_, (⟨x44, x45, x46, x47, l48, x52, x53⟩ : journal_Journal).dead_, p65, c66, hR, hf.keep [10], sat_to [0, 0, 0, 1, 0, 0, 0, 0] 1 rfl hs⟩
  rintro a w ⟨x67, x68, x69, x70, l71, x75, x76, p72, c73, hv, hf, hs⟩
  subst hv
  replace hF := hK42
  clear hK42
  try dsimp only [Thru] at hF
  revert a w
  show CW _ _ _ 108 [(10, pP b40)] (SAT w0 ([imm I, o3 b40 b0 x67 x68 x69 x70 p72 l71 c73 x75 x76, o1 b0 b1 m0.boot_ m0.n_, o0 b1 p0 m1.sure_ c0 p1 m1.off_ m1.armed_ m1.left_ m1.fall_.Keep m1.fall_.Tear m1.acts_ m1.falls_, own eStr 9 p72 c73 l71, own e_disk_sector 51 p0 c0 m1.sure_, mpo (kInt .i64) (fun x : disk_sector => Value.agg #[.string x.s_, i6 x.at_]) p1 m1.wait_] ++ F0))
  unfold F.journal_Open.r4 at hF
  refine cw_seq ?_
  refine cw_region ?_
  refine ow_vals 4 (j := 4) [10, 99, 102] [(10, pP b40), (99, pP b40), (102, .pointer (some ⟨b40, 5, none⟩))] rfl (by kernel_rfl) ?_
  refine ow_pw rfl (pw_quiet (v := .slice p72 l71.length c73) rfl rfl rfl rfl (q_load 1 rfl rfl rfl (by kernel_rfl)) (nw_ow ?_))
  refine ow_vals 3 (j := 8) [10, 104, 106] [(10, pP b40), (104, i6 (l71.length : Int)), (106, .pointer (some ⟨b40, 6, none⟩))] rfl (by kernel_rfl) ?_
  refine ow_pw rfl (pw_store 1 #[pP b0, i6 x67, i6 x68, i6 x69, i6 x70, .slice p72 l71.length c73, i6 (l71.length : Int), .bool x76] rfl rfl rfl rfl rfl rfl rfl (by kernel_rfl) (nw_H (H' := [imm I, o3 b40 b0 x67 x68 x69 x70 p72 l71 c73 (l71.length : Int) x76, o1 b0 b1 m0.boot_ m0.n_, o0 b1 p0 m1.sure_ c0 p1 m1.off_ m1.armed_ m1.left_ m1.fall_.Keep m1.fall_.Tear m1.acts_ m1.falls_, own eStr 9 p72 c73 l71, own e_disk_sector 51 p0 c0 m1.sure_, mpo (kInt .i64) (fun x : disk_sector => Value.agg #[.string x.s_, i6 x.at_]) p1 m1.wait_] ++ F0) rfl (nw_ow ?_)))
  refine ow_end rfl ?_
  refine ew_then ?_
  refine cw_seq ?_
  refine cw_region ?_
  refine ow_vals 3 (j := 3) [8, 9] [(8, pP b40), (9, i6 0)] rfl (by kernel_rfl) ?_
  refine ow_end rfl ?_
  refine ew_then ?_
  refine cw_ret ?_
  have hR := Option.some.inj hF
  subst hR
  exact fin2 (H1 := [imm I, o1 b0 b1 m0.boot_ m0.n_, o0 b1 p0 m1.sure_ c0 p1 m1.off_ m1.armed_ m1.left_ m1.fall_.Keep m1.fall_.Tear m1.acts_ m1.falls_, o3 b40 b0 ((⟨x67, x68, x69, x70, l71, (l71.length : Int), x76⟩ : journal_Journal).base_) ((⟨x67, x68, x69, x70, l71, (l71.length : Int), x76⟩ : journal_Journal).size_) ((⟨x67, x68, x69, x70, l71, (l71.length : Int), x76⟩ : journal_Journal).next_) ((⟨x67, x68, x69, x70, l71, (l71.length : Int), x76⟩ : journal_Journal).last_) p72 ((⟨x67, x68, x69, x70, l71, (l71.length : Int), x76⟩ : journal_Journal).list_) c73 ((⟨x67, x68, x69, x70, l71, (l71.length : Int), x76⟩ : journal_Journal).sure_) ((⟨x67, x68, x69, x70, l71, (l71.length : Int), x76⟩ : journal_Journal).dead_), own eStr 9 p72 c73 (⟨x67, x68, x69, x70, l71, (l71.length : Int), x76⟩ : journal_Journal).list_, own e_disk_sector 51 p0 c0 m1.sure_, mpo (kInt .i64) (fun x : disk_sector => Value.agg #[.string x.s_, i6 x.at_]) p1 m1.wait_]) (fun w hs => sat_to [0, 1, 1, 0, 0, 0, 0] 0 rfl hs) rfl (rr_tmp rfl) (rr_tmp rfl) (.inr ⟨(⟨x67, x68, x69, x70, l71, (l71.length : Int), x76⟩ : journal_Journal), b40, p72, c73, rfl, rfl, rfl⟩)


def F.law12_open (x1 : Int) (m0 : disk_Disk) : Option (Option (journal_Journal × guard_Guard)) :=
  Option.bind (F.guard_New x1 m0) (fun (r21 : (Option guard_Guard) × Int) => optC r21.1 (some (none)) (fun (r21_s1 : guard_Guard) => Option.bind (F.journal_Open 3 60 7 r21_s1 m0) (fun (r24 : (Option journal_Journal) × Int) => optC r24.1 (if r24.2 != 0 then (some (none)) else (some (none))) (fun (r24_s1 : journal_Journal) => some ((some (r24_s1, r21_s1)))))))
set_option maxRecDepth 100000 in
set_option maxHeartbeats 4000000 in
theorem c_law12_open (I : Hl) (x1 : Int) (m0 : disk_Disk) (p0 : Option Addr) (c0 : Nat) (p1 : Nat) (b0 : Nat) (res : (Option (journal_Journal × guard_Guard))) (hF : F.law12_open x1 m0 = some res) : Tr Tryz.prog 5 [pP b0, i6 x1] [imm I, o0 b0 p0 m0.sure_ c0 p1 m0.off_ m0.armed_ m0.left_ m0.fall_.Keep m0.fall_.Tear m0.acts_ m0.falls_, own e_disk_sector 51 p0 c0 m0.sure_, mpo (kInt .i64) (fun x : disk_sector => Value.agg #[.string x.s_, i6 x.at_]) p1 m0.wait_] (fun r H' => (res = none ∧ r = .pointer none ∧ H' = [imm I, o0 b0 p0 m0.sure_ c0 p1 m0.off_ m0.armed_ m0.left_ m0.fall_.Keep m0.fall_.Tear m0.acts_ m0.falls_, own e_disk_sector 51 p0 c0 m0.sure_, mpo (kInt .i64) (fun x : disk_sector => Value.agg #[.string x.s_, i6 x.at_]) p1 m0.wait_]) ∨ (∃ (sq1 : (journal_Journal × guard_Guard)), ∃ (bq2 : Nat), ∃ (bq4 : Nat), ∃ (pq6 : Option Addr), ∃ (cq7 : Nat), res = some sq1 ∧ r = pP bq2 ∧ H' = [imm I, o0 b0 p0 m0.sure_ c0 p1 m0.off_ m0.armed_ m0.left_ m0.fall_.Keep m0.fall_.Tear m0.acts_ m0.falls_, o1 bq4 b0 sq1.2.boot_ sq1.2.n_, o3 bq2 bq4 sq1.1.base_ sq1.1.size_ sq1.1.next_ sq1.1.last_ pq6 sq1.1.list_ cq7 sq1.1.sure_ sq1.1.dead_, own eStr 9 pq6 cq7 sq1.1.list_, own e_disk_sector 51 p0 c0 m0.sure_, mpo (kInt .i64) (fun x : disk_sector => Value.agg #[.string x.s_, i6 x.at_]) p1 m0.wait_])) := by
  unfold F.law12_open at hF
  refine tr_of_cw (fn := Tryz.f5) Tryz.func5 rfl (Nat.le_of_ble_eq_true rfl) 25 rfl fun F0 w0 => ?_
  refine cw_keep [0, 1] (L' := [(0, pP b0), (1, i6 x1)]) rfl ?_
  refine cw_state (S' := SAT w0 ([imm I, o0 b0 p0 m0.sure_ c0 p1 m0.off_ m0.armed_ m0.left_ m0.fall_.Keep m0.fall_.Tear m0.acts_ m0.falls_, own e_disk_sector 51 p0 c0 m0.sure_, mpo (kInt .i64) (fun x : disk_sector => Value.agg #[.string x.s_, i6 x.at_]) p1 m0.wait_] ++ F0)) (fun w hs => hs) ?_
  refine cw_seq ?_
  refine cw_region ?_
  refine ow_vals 1 (j := 1) [0, 1] [(0, pP b0), (1, i6 x1)] rfl (by kernel_rfl) ?_
  refine ow_end rfl ?_
  refine ew_then ?_
  refine cw_seq ?_
  refine cw_region ?_
  refine ow_vals 2 (j := 2) [10, 11] [(10, pP b0), (11, i6 x1)] rfl (by kernel_rfl) ?_
  obtain ⟨r21, h22, hF⟩ := bind_some hF
  refine ow_pw rfl (pw_call (F := [] ++ F0) rfl rfl rfl rfl rfl rfl rfl (by kernel_rfl) (perm_of_pulls [0, 0, 0, 0] rfl) (c_guard_New _ x1 m0 p0 c0 p1 b0 r21 h22) ?_)
  rintro _ _ (⟨hO, rfl, rfl⟩ | ⟨r21_s1, r21_b2, hO, rfl, rfl⟩)
  · rw [hO] at hF
    try dsimp only [optC] at hF
    refine nw_H (H' := [imm I, o0 b0 p0 m0.sure_ c0 p1 m0.off_ m0.armed_ m0.left_ m0.fall_.Keep m0.fall_.Tear m0.acts_ m0.falls_, own e_disk_sector 51 p0 c0 m0.sure_, mpo (kInt .i64) (fun x : disk_sector => Value.agg #[.string x.s_, i6 x.at_]) p1 m0.wait_] ++ F0) rfl (nw_ow ?_)
    refine ow_vals 5 (j := 8) [5, 6] [(5, .pointer none), (6, i6 1)] rfl (by kernel_rfl) ?_
    refine ow_end rfl ?_
    refine ew_then ?_
    refine cw_seq ?_
    refine cw_seq ?_
    refine cw_region ?_
    refine ow_vals 2 (j := 2) [5, 16] [(5, .pointer none), (16, .bool true)] rfl (by kernel_rfl) ?_
    refine ow_end rfl ?_
    refine ew_then ?_
    refine cw_cond_t rfl rfl rfl ?_
    refine cw_seq ?_
    refine cw_region ?_
    refine ow_vals 1 (j := 1) [4] [(4, .pointer none)] rfl (by kernel_rfl) ?_
    refine ow_end rfl ?_
    refine ew_then ?_
    refine cw_ret ?_
    refine ew_then_ret ?_
    have hR := Option.some.inj hF
    subst hR
    exact fin1 (H1 := [imm I, o0 b0 p0 m0.sure_ c0 p1 m0.off_ m0.armed_ m0.left_ m0.fall_.Keep m0.fall_.Tear m0.acts_ m0.falls_, own e_disk_sector 51 p0 c0 m0.sure_, mpo (kInt .i64) (fun x : disk_sector => Value.agg #[.string x.s_, i6 x.at_]) p1 m0.wait_]) (fun w hs => sat_to [0, 0, 0, 0] 0 rfl hs) rfl (rr_tmp rfl) (.inl ⟨rfl, rfl, rfl⟩)
  rw [hO] at hF
  try dsimp only [optC] at hF
  refine nw_H (H' := [imm I, o0 b0 p0 m0.sure_ c0 p1 m0.off_ m0.armed_ m0.left_ m0.fall_.Keep m0.fall_.Tear m0.acts_ m0.falls_, o1 r21_b2 b0 r21_s1.boot_ r21_s1.n_, own e_disk_sector 51 p0 c0 m0.sure_, mpo (kInt .i64) (fun x : disk_sector => Value.agg #[.string x.s_, i6 x.at_]) p1 m0.wait_] ++ F0) rfl (nw_ow ?_)
  refine ow_vals 5 (j := 8) [5, 6] [(5, pP r21_b2), (6, i6 0)] rfl (by kernel_rfl) ?_
  refine ow_end rfl ?_
  refine ew_then ?_
  refine cw_seq ?_
  refine cw_seq ?_
  refine cw_region ?_
  refine ow_vals 2 (j := 2) [5, 16] [(5, pP r21_b2), (16, .bool false)] rfl (by kernel_rfl) ?_
  refine ow_end rfl ?_
  refine ew_then ?_
  refine cw_cond_f rfl rfl rfl ?_
  refine cw_skip ?_
  refine ew_then ?_
  refine cw_seq ?_
  refine cw_region ?_
  refine ow_vals 1 (j := 1) [18] [(18, pP r21_b2)] rfl (by kernel_rfl) ?_
  obtain ⟨r24, h25, hF⟩ := bind_some hF
  refine ow_pw rfl (pw_call (F := [] ++ F0) rfl rfl rfl rfl rfl rfl rfl (by kernel_rfl) (perm_of_pulls [0, 1, 0, 0, 0] rfl) (c_journal_Open _ 3 60 7 r21_s1 m0 r21_b2 p0 c0 p1 b0 r24 h25) ?_)
  rintro _ _ (⟨hO, rfl, rfl⟩ | ⟨r24_s1, r24_b2, r24_p4, r24_c5, hO, rfl, rfl⟩)
  · rw [hO] at hF
    try dsimp only [optC] at hF
    refine nw_H (H' := [imm I, o1 r21_b2 b0 r21_s1.boot_ r21_s1.n_, o0 b0 p0 m0.sure_ c0 p1 m0.off_ m0.armed_ m0.left_ m0.fall_.Keep m0.fall_.Tear m0.acts_ m0.falls_, own e_disk_sector 51 p0 c0 m0.sure_, mpo (kInt .i64) (fun x : disk_sector => Value.agg #[.string x.s_, i6 x.at_]) p1 m0.wait_] ++ F0) rfl (nw_ow ?_)
    refine ow_vals 5 (j := 7) [7, 8] [(7, .pointer none), (8, i6 r24.2)] rfl (by kernel_rfl) ?_
    refine ow_end rfl ?_
    refine ew_then ?_
    refine cw_seq ?_
    refine cw_seq ?_
    refine cw_region ?_
    refine ow_vals 2 (j := 2) [7, 23] [(7, .pointer none), (23, .bool (r24.2 != 0))] rfl (by kernel_rfl) ?_
    refine ow_end rfl ?_
    refine ew_then ?_
    rcases if_some hF with ⟨h28, hF⟩ | ⟨h28, hF⟩
    · refine cw_cond_t rfl rfl h28 ?_
      refine cw_seq ?_
      refine cw_region ?_
      refine ow_vals 1 (j := 1) [4] [(4, .pointer none)] rfl (by kernel_rfl) ?_
      refine ow_end rfl ?_
      refine ew_then ?_
      refine cw_ret ?_
      refine ew_then_ret ?_
      have hR := Option.some.inj hF
      subst hR
      exact fin1 (H1 := [imm I, o0 b0 p0 m0.sure_ c0 p1 m0.off_ m0.armed_ m0.left_ m0.fall_.Keep m0.fall_.Tear m0.acts_ m0.falls_, own e_disk_sector 51 p0 c0 m0.sure_, mpo (kInt .i64) (fun x : disk_sector => Value.agg #[.string x.s_, i6 x.at_]) p1 m0.wait_]) (fun w hs => sat_to [1, 0, 0, 0, 0] 1 rfl hs) rfl (rr_tmp rfl) (.inl ⟨rfl, rfl, rfl⟩)
    refine cw_cond_f rfl rfl h28 ?_
    refine cw_skip ?_
    refine ew_then ?_
    refine cw_seq ?_
    refine cw_region ?_
    refine ow_vals 2 (j := 2) [4] [(4, .pointer none)] rfl (by kernel_rfl) ?_
    refine ow_end rfl ?_
    refine ew_then ?_
    refine cw_ret ?_
    have hR := Option.some.inj hF
    subst hR
    exact fin1 (H1 := [imm I, o0 b0 p0 m0.sure_ c0 p1 m0.off_ m0.armed_ m0.left_ m0.fall_.Keep m0.fall_.Tear m0.acts_ m0.falls_, own e_disk_sector 51 p0 c0 m0.sure_, mpo (kInt .i64) (fun x : disk_sector => Value.agg #[.string x.s_, i6 x.at_]) p1 m0.wait_]) (fun w hs => sat_to [1, 0, 0, 0, 0] 1 rfl hs) rfl (rr_tmp rfl) (.inl ⟨rfl, rfl, rfl⟩)
  rw [hO] at hF
  try dsimp only [optC] at hF
  refine nw_H (H' := [imm I, o1 r21_b2 b0 r21_s1.boot_ r21_s1.n_, o0 b0 p0 m0.sure_ c0 p1 m0.off_ m0.armed_ m0.left_ m0.fall_.Keep m0.fall_.Tear m0.acts_ m0.falls_, o3 r24_b2 r21_b2 r24_s1.base_ r24_s1.size_ r24_s1.next_ r24_s1.last_ r24_p4 r24_s1.list_ r24_c5 r24_s1.sure_ r24_s1.dead_, own eStr 9 r24_p4 r24_c5 r24_s1.list_, own e_disk_sector 51 p0 c0 m0.sure_, mpo (kInt .i64) (fun x : disk_sector => Value.agg #[.string x.s_, i6 x.at_]) p1 m0.wait_] ++ F0) rfl (nw_ow ?_)
  refine ow_vals 5 (j := 7) [7, 8] [(7, pP r24_b2), (8, i6 0)] rfl (by kernel_rfl) ?_
  refine ow_end rfl ?_
  refine ew_then ?_
  refine cw_seq ?_
  refine cw_seq ?_
  refine cw_region ?_
  refine ow_vals 2 (j := 2) [7, 23] [(7, pP r24_b2), (23, .bool false)] rfl (by kernel_rfl) ?_
  refine ow_end rfl ?_
  refine ew_then ?_
  refine cw_cond_f rfl rfl rfl ?_
  refine cw_skip ?_
  refine ew_then ?_
  refine cw_seq ?_
  refine cw_region ?_
  refine ow_vals 2 (j := 2) [4] [(4, pP r24_b2)] rfl (by kernel_rfl) ?_
  refine ow_end rfl ?_
  refine ew_then ?_
  refine cw_ret ?_
  have hR := Option.some.inj hF
  subst hR
  exact fin1 (H1 := [imm I, o0 b0 p0 m0.sure_ c0 p1 m0.off_ m0.armed_ m0.left_ m0.fall_.Keep m0.fall_.Tear m0.acts_ m0.falls_, o1 r21_b2 b0 ((r24_s1, r21_s1).2.boot_) ((r24_s1, r21_s1).2.n_), o3 r24_b2 r21_b2 ((r24_s1, r21_s1).1.base_) ((r24_s1, r21_s1).1.size_) ((r24_s1, r21_s1).1.next_) ((r24_s1, r21_s1).1.last_) r24_p4 ((r24_s1, r21_s1).1.list_) r24_c5 ((r24_s1, r21_s1).1.sure_) ((r24_s1, r21_s1).1.dead_), own eStr 9 r24_p4 r24_c5 (r24_s1, r21_s1).1.list_, own e_disk_sector 51 p0 c0 m0.sure_, mpo (kInt .i64) (fun x : disk_sector => Value.agg #[.string x.s_, i6 x.at_]) p1 m0.wait_]) (fun w hs => sat_to [0, 1, 0, 0, 0, 0, 0] 0 rfl hs) rfl (rr_tmp rfl) (.inr ⟨(r24_s1, r21_s1), r24_b2, r21_b2, r24_p4, r24_c5, rfl, rfl, rfl⟩)


def F.journal_Journal_none (m0 : journal_Journal) (m1 : guard_Guard) (m2 : disk_Disk) : Option Bool :=
  some (false)
set_option maxRecDepth 100000 in
set_option maxHeartbeats 4000000 in
theorem c_journal_Journal_none (I : Hl) (m0 : journal_Journal) (m1 : guard_Guard) (m2 : disk_Disk) (p0 : Option Addr) (c0 : Nat) (b0 : Nat) (b1 : Nat) (p1 : Option Addr) (c1 : Nat) (p2 : Nat) (b2 : Nat) (res : Bool) (hF : F.journal_Journal_none m0 m1 m2 = some res) : Tr Tryz.prog 38 [pP b0] [imm I, o3 b0 b1 m0.base_ m0.size_ m0.next_ m0.last_ p0 m0.list_ c0 m0.sure_ m0.dead_, o1 b1 b2 m1.boot_ m1.n_, o0 b2 p1 m2.sure_ c1 p2 m2.off_ m2.armed_ m2.left_ m2.fall_.Keep m2.fall_.Tear m2.acts_ m2.falls_, own eStr 9 p0 c0 m0.list_, own e_disk_sector 51 p1 c1 m2.sure_, mpo (kInt .i64) (fun x : disk_sector => Value.agg #[.string x.s_, i6 x.at_]) p2 m2.wait_] (fun r H' => r = .bool res ∧ H' = [imm I, o3 b0 b1 m0.base_ m0.size_ m0.next_ m0.last_ p0 m0.list_ c0 m0.sure_ m0.dead_, o1 b1 b2 m1.boot_ m1.n_, o0 b2 p1 m2.sure_ c1 p2 m2.off_ m2.armed_ m2.left_ m2.fall_.Keep m2.fall_.Tear m2.acts_ m2.falls_, own eStr 9 p0 c0 m0.list_, own e_disk_sector 51 p1 c1 m2.sure_, mpo (kInt .i64) (fun x : disk_sector => Value.agg #[.string x.s_, i6 x.at_]) p2 m2.wait_]) := by
  unfold F.journal_Journal_none at hF
  refine tr_of_cw (fn := Tryz.f38) Tryz.func38 rfl (Nat.le_of_ble_eq_true rfl) 12 rfl fun F0 w0 => ?_
  refine cw_keep [0] (L' := [(0, pP b0)]) rfl ?_
  refine cw_state (S' := SAT w0 ([imm I, o3 b0 b1 m0.base_ m0.size_ m0.next_ m0.last_ p0 m0.list_ c0 m0.sure_ m0.dead_, o1 b1 b2 m1.boot_ m1.n_, o0 b2 p1 m2.sure_ c1 p2 m2.off_ m2.armed_ m2.left_ m2.fall_.Keep m2.fall_.Tear m2.acts_ m2.falls_, own eStr 9 p0 c0 m0.list_, own e_disk_sector 51 p1 c1 m2.sure_, mpo (kInt .i64) (fun x : disk_sector => Value.agg #[.string x.s_, i6 x.at_]) p2 m2.wait_] ++ F0)) (fun w hs => hs) ?_
  refine cw_seq ?_
  refine cw_region ?_
  refine ow_vals 1 (j := 1) [0] [(0, pP b0)] rfl (by kernel_rfl) ?_
  refine ow_end rfl ?_
  refine ew_then ?_
  refine cw_seq ?_
  refine cw_region ?_
  refine ow_vals 6 (j := 6) [5, 8] [(5, .bool false), (8, pP b0)] rfl (by kernel_rfl) ?_
  refine ow_pw rfl (pw_quiet (v := pP b1) rfl rfl rfl rfl (q_load 1 rfl rfl rfl (by kernel_rfl)) (nw_ow ?_))
  refine ow_vals 3 (j := 10) [2] [(2, .bool false)] rfl (by kernel_rfl) ?_
  refine ow_end rfl ?_
  refine ew_then ?_
  refine cw_ret ?_
  have hR := Option.some.inj hF
  subst hR
  exact fin1 (H1 := [imm I, o3 b0 b1 m0.base_ m0.size_ m0.next_ m0.last_ p0 m0.list_ c0 m0.sure_ m0.dead_, o1 b1 b2 m1.boot_ m1.n_, o0 b2 p1 m2.sure_ c1 p2 m2.off_ m2.armed_ m2.left_ m2.fall_.Keep m2.fall_.Tear m2.acts_ m2.falls_, own eStr 9 p0 c0 m0.list_, own e_disk_sector 51 p1 c1 m2.sure_, mpo (kInt .i64) (fun x : disk_sector => Value.agg #[.string x.s_, i6 x.at_]) p2 m2.wait_]) (fun w hs => sat_to [0, 0, 0, 0, 0, 0, 0] 0 rfl hs) rfl (rr_tmp rfl) ⟨rfl, rfl⟩


def F.journal_Journal_off (m0 : journal_Journal) (m1 : guard_Guard) (m2 : disk_Disk) : Option Int :=
  Option.bind (F.journal_Journal_none m0 m1 m2) (fun (r21 : Bool) => if r21 then (some (9)) else (if m0.dead_ then (some (8)) else (some (0))))
set_option maxRecDepth 100000 in
set_option maxHeartbeats 4000000 in
theorem c_journal_Journal_off (I : Hl) (m0 : journal_Journal) (m1 : guard_Guard) (m2 : disk_Disk) (p0 : Option Addr) (c0 : Nat) (b0 : Nat) (b1 : Nat) (p1 : Option Addr) (c1 : Nat) (p2 : Nat) (b2 : Nat) (res : Int) (hF : F.journal_Journal_off m0 m1 m2 = some res) : Tr Tryz.prog 20 [pP b0] [imm I, o3 b0 b1 m0.base_ m0.size_ m0.next_ m0.last_ p0 m0.list_ c0 m0.sure_ m0.dead_, o1 b1 b2 m1.boot_ m1.n_, o0 b2 p1 m2.sure_ c1 p2 m2.off_ m2.armed_ m2.left_ m2.fall_.Keep m2.fall_.Tear m2.acts_ m2.falls_, own eStr 9 p0 c0 m0.list_, own e_disk_sector 51 p1 c1 m2.sure_, mpo (kInt .i64) (fun x : disk_sector => Value.agg #[.string x.s_, i6 x.at_]) p2 m2.wait_] (fun r H' => r = i6 res ∧ H' = [imm I, o3 b0 b1 m0.base_ m0.size_ m0.next_ m0.last_ p0 m0.list_ c0 m0.sure_ m0.dead_, o1 b1 b2 m1.boot_ m1.n_, o0 b2 p1 m2.sure_ c1 p2 m2.off_ m2.armed_ m2.left_ m2.fall_.Keep m2.fall_.Tear m2.acts_ m2.falls_, own eStr 9 p0 c0 m0.list_, own e_disk_sector 51 p1 c1 m2.sure_, mpo (kInt .i64) (fun x : disk_sector => Value.agg #[.string x.s_, i6 x.at_]) p2 m2.wait_]) := by
  unfold F.journal_Journal_off at hF
  refine tr_of_cw (fn := Tryz.f20) Tryz.func20 rfl (Nat.le_of_ble_eq_true rfl) 11 rfl fun F0 w0 => ?_
  refine cw_keep [0] (L' := [(0, pP b0)]) rfl ?_
  refine cw_state (S' := SAT w0 ([imm I, o3 b0 b1 m0.base_ m0.size_ m0.next_ m0.last_ p0 m0.list_ c0 m0.sure_ m0.dead_, o1 b1 b2 m1.boot_ m1.n_, o0 b2 p1 m2.sure_ c1 p2 m2.off_ m2.armed_ m2.left_ m2.fall_.Keep m2.fall_.Tear m2.acts_ m2.falls_, own eStr 9 p0 c0 m0.list_, own e_disk_sector 51 p1 c1 m2.sure_, mpo (kInt .i64) (fun x : disk_sector => Value.agg #[.string x.s_, i6 x.at_]) p2 m2.wait_] ++ F0)) (fun w hs => hs) ?_
  refine cw_seq ?_
  refine cw_region ?_
  refine ow_vals 1 (j := 1) [0] [(0, pP b0)] rfl (by kernel_rfl) ?_
  refine ow_end rfl ?_
  refine ew_then ?_
  refine cw_seq ?_
  refine cw_block ?_
  refine cw_seq ?_
  refine cw_region ?_
  refine ow_vals 1 (j := 1) [0, 4] [(0, pP b0), (4, pP b0)] rfl (by kernel_rfl) ?_
  obtain ⟨r21, h22, hF⟩ := bind_some hF
  refine ow_pw rfl (pw_call (F := [] ++ F0) rfl rfl rfl rfl rfl rfl rfl (by kernel_rfl) (perm_of_pulls [0, 0, 0, 0, 0, 0, 0] rfl) (c_journal_Journal_none _ m0 m1 m2 p0 c0 b0 b1 p1 c1 p2 b2 r21 h22) ?_)
  rintro _ _ ⟨rfl, rfl⟩
  refine nw_H (H' := [imm I, o3 b0 b1 m0.base_ m0.size_ m0.next_ m0.last_ p0 m0.list_ c0 m0.sure_ m0.dead_, o1 b1 b2 m1.boot_ m1.n_, o0 b2 p1 m2.sure_ c1 p2 m2.off_ m2.armed_ m2.left_ m2.fall_.Keep m2.fall_.Tear m2.acts_ m2.falls_, own eStr 9 p0 c0 m0.list_, own e_disk_sector 51 p1 c1 m2.sure_, mpo (kInt .i64) (fun x : disk_sector => Value.agg #[.string x.s_, i6 x.at_]) p2 m2.wait_] ++ F0) rfl (nw_ow ?_)
  refine ow_vals 1 (j := 3) [0, 3] [(0, pP b0), (3, .bool r21)] rfl (by kernel_rfl) ?_
  refine ow_end rfl ?_
  refine ew_then ?_
  rcases if_some hF with ⟨h23, hF⟩ | ⟨h23, hF⟩
  · refine cw_cond_t rfl rfl h23 ?_
    refine cw_seq ?_
    refine cw_region ?_
    refine ow_vals 1 (j := 1) [2] [(2, i6 9)] rfl (by kernel_rfl) ?_
    refine ow_end rfl ?_
    refine ew_then ?_
    refine cw_ret ?_
    refine ew_blk_ret ?_
    refine ew_then_ret ?_
    have hR := Option.some.inj hF
    subst hR
    exact fin1 (H1 := [imm I, o3 b0 b1 m0.base_ m0.size_ m0.next_ m0.last_ p0 m0.list_ c0 m0.sure_ m0.dead_, o1 b1 b2 m1.boot_ m1.n_, o0 b2 p1 m2.sure_ c1 p2 m2.off_ m2.armed_ m2.left_ m2.fall_.Keep m2.fall_.Tear m2.acts_ m2.falls_, own eStr 9 p0 c0 m0.list_, own e_disk_sector 51 p1 c1 m2.sure_, mpo (kInt .i64) (fun x : disk_sector => Value.agg #[.string x.s_, i6 x.at_]) p2 m2.wait_]) (fun w hs => sat_to [0, 0, 0, 0, 0, 0, 0] 0 rfl hs) rfl (rr_tmp rfl) ⟨rfl, rfl⟩
  refine cw_cond_f rfl rfl h23 ?_
  refine cw_seq ?_
  refine cw_region ?_
  refine ow_vals 3 (j := 3) [9] [(9, .pointer (some ⟨b0, 7, none⟩))] rfl (by kernel_rfl) ?_
  refine ow_pw rfl (pw_quiet (v := .bool m0.dead_) rfl rfl rfl rfl (q_load 1 rfl rfl rfl (by kernel_rfl)) (nw_ow ?_))
  refine ow_vals 1 (j := 5) [6] [(6, .bool m0.dead_)] rfl (by kernel_rfl) ?_
  refine ow_end rfl ?_
  refine ew_then ?_
  rcases if_some hF with ⟨h24, hF⟩ | ⟨h24, hF⟩
  · refine cw_cond_t rfl rfl h24 ?_
    refine cw_seq ?_
    refine cw_region ?_
    refine ow_vals 1 (j := 1) [2] [(2, i6 8)] rfl (by kernel_rfl) ?_
    refine ow_end rfl ?_
    refine ew_then ?_
    refine cw_ret ?_
    refine ew_blk_ret ?_
    refine ew_then_ret ?_
    have hR := Option.some.inj hF
    subst hR
    exact fin1 (H1 := [imm I, o3 b0 b1 m0.base_ m0.size_ m0.next_ m0.last_ p0 m0.list_ c0 m0.sure_ m0.dead_, o1 b1 b2 m1.boot_ m1.n_, o0 b2 p1 m2.sure_ c1 p2 m2.off_ m2.armed_ m2.left_ m2.fall_.Keep m2.fall_.Tear m2.acts_ m2.falls_, own eStr 9 p0 c0 m0.list_, own e_disk_sector 51 p1 c1 m2.sure_, mpo (kInt .i64) (fun x : disk_sector => Value.agg #[.string x.s_, i6 x.at_]) p2 m2.wait_]) (fun w hs => sat_to [0, 0, 0, 0, 0, 0, 0] 0 rfl hs) rfl (rr_tmp rfl) ⟨rfl, rfl⟩
  refine cw_cond_f rfl rfl h24 ?_
  refine cw_skip ?_
  refine ew_blk ?_
  refine ew_then ?_
  refine cw_seq ?_
  refine cw_region ?_
  refine ow_vals 1 (j := 1) [2] [(2, i6 0)] rfl (by kernel_rfl) ?_
  refine ow_end rfl ?_
  refine ew_then ?_
  refine cw_ret ?_
  have hR := Option.some.inj hF
  subst hR
  exact fin1 (H1 := [imm I, o3 b0 b1 m0.base_ m0.size_ m0.next_ m0.last_ p0 m0.list_ c0 m0.sure_ m0.dead_, o1 b1 b2 m1.boot_ m1.n_, o0 b2 p1 m2.sure_ c1 p2 m2.off_ m2.armed_ m2.left_ m2.fall_.Keep m2.fall_.Tear m2.acts_ m2.falls_, own eStr 9 p0 c0 m0.list_, own e_disk_sector 51 p1 c1 m2.sure_, mpo (kInt .i64) (fun x : disk_sector => Value.agg #[.string x.s_, i6 x.at_]) p2 m2.wait_]) (fun w hs => sat_to [0, 0, 0, 0, 0, 0, 0] 0 rfl hs) rfl (rr_tmp rfl) ⟨rfl, rfl⟩


def F.journal_Journal_Left (m0 : journal_Journal) (m1 : guard_Guard) (m2 : disk_Disk) : Option Int :=
  Option.bind (F.journal_Journal_none m0 m1 m2) (fun (r21 : Bool) => if r21 then (some (0)) else (some ((IntKind.i64.wrap (m0.size_ - m0.next_)))))
set_option maxRecDepth 100000 in
set_option maxHeartbeats 4000000 in
theorem c_journal_Journal_Left (I : Hl) (m0 : journal_Journal) (m1 : guard_Guard) (m2 : disk_Disk) (p0 : Option Addr) (c0 : Nat) (b0 : Nat) (b1 : Nat) (p1 : Option Addr) (c1 : Nat) (p2 : Nat) (b2 : Nat) (res : Int) (hF : F.journal_Journal_Left m0 m1 m2 = some res) : Tr Tryz.prog 31 [pP b0] [imm I, o3 b0 b1 m0.base_ m0.size_ m0.next_ m0.last_ p0 m0.list_ c0 m0.sure_ m0.dead_, o1 b1 b2 m1.boot_ m1.n_, o0 b2 p1 m2.sure_ c1 p2 m2.off_ m2.armed_ m2.left_ m2.fall_.Keep m2.fall_.Tear m2.acts_ m2.falls_, own eStr 9 p0 c0 m0.list_, own e_disk_sector 51 p1 c1 m2.sure_, mpo (kInt .i64) (fun x : disk_sector => Value.agg #[.string x.s_, i6 x.at_]) p2 m2.wait_] (fun r H' => r = i6 res ∧ H' = [imm I, o3 b0 b1 m0.base_ m0.size_ m0.next_ m0.last_ p0 m0.list_ c0 m0.sure_ m0.dead_, o1 b1 b2 m1.boot_ m1.n_, o0 b2 p1 m2.sure_ c1 p2 m2.off_ m2.armed_ m2.left_ m2.fall_.Keep m2.fall_.Tear m2.acts_ m2.falls_, own eStr 9 p0 c0 m0.list_, own e_disk_sector 51 p1 c1 m2.sure_, mpo (kInt .i64) (fun x : disk_sector => Value.agg #[.string x.s_, i6 x.at_]) p2 m2.wait_]) := by
  unfold F.journal_Journal_Left at hF
  refine tr_of_cw (fn := Tryz.f31) Tryz.func31 rfl (Nat.le_of_ble_eq_true rfl) 14 rfl fun F0 w0 => ?_
  refine cw_keep [0] (L' := [(0, pP b0)]) rfl ?_
  refine cw_state (S' := SAT w0 ([imm I, o3 b0 b1 m0.base_ m0.size_ m0.next_ m0.last_ p0 m0.list_ c0 m0.sure_ m0.dead_, o1 b1 b2 m1.boot_ m1.n_, o0 b2 p1 m2.sure_ c1 p2 m2.off_ m2.armed_ m2.left_ m2.fall_.Keep m2.fall_.Tear m2.acts_ m2.falls_, own eStr 9 p0 c0 m0.list_, own e_disk_sector 51 p1 c1 m2.sure_, mpo (kInt .i64) (fun x : disk_sector => Value.agg #[.string x.s_, i6 x.at_]) p2 m2.wait_] ++ F0)) (fun w hs => hs) ?_
  refine cw_seq ?_
  refine cw_region ?_
  refine ow_vals 1 (j := 1) [0] [(0, pP b0)] rfl (by kernel_rfl) ?_
  refine ow_end rfl ?_
  refine ew_then ?_
  refine cw_seq ?_
  refine cw_seq ?_
  refine cw_region ?_
  refine ow_vals 1 (j := 1) [0, 3] [(0, pP b0), (3, pP b0)] rfl (by kernel_rfl) ?_
  obtain ⟨r21, h22, hF⟩ := bind_some hF
  refine ow_pw rfl (pw_call (F := [] ++ F0) rfl rfl rfl rfl rfl rfl rfl (by kernel_rfl) (perm_of_pulls [0, 0, 0, 0, 0, 0, 0] rfl) (c_journal_Journal_none _ m0 m1 m2 p0 c0 b0 b1 p1 c1 p2 b2 r21 h22) ?_)
  rintro _ _ ⟨rfl, rfl⟩
  refine nw_H (H' := [imm I, o3 b0 b1 m0.base_ m0.size_ m0.next_ m0.last_ p0 m0.list_ c0 m0.sure_ m0.dead_, o1 b1 b2 m1.boot_ m1.n_, o0 b2 p1 m2.sure_ c1 p2 m2.off_ m2.armed_ m2.left_ m2.fall_.Keep m2.fall_.Tear m2.acts_ m2.falls_, own eStr 9 p0 c0 m0.list_, own e_disk_sector 51 p1 c1 m2.sure_, mpo (kInt .i64) (fun x : disk_sector => Value.agg #[.string x.s_, i6 x.at_]) p2 m2.wait_] ++ F0) rfl (nw_ow ?_)
  refine ow_end rfl ?_
  refine ew_then ?_
  rcases if_some hF with ⟨h23, hF⟩ | ⟨h23, hF⟩
  · refine cw_cond_t rfl rfl h23 ?_
    refine cw_seq ?_
    refine cw_region ?_
    refine ow_vals 1 (j := 1) [2] [(2, i6 0)] rfl (by kernel_rfl) ?_
    refine ow_end rfl ?_
    refine ew_then ?_
    refine cw_ret ?_
    refine ew_then_ret ?_
    have hR := Option.some.inj hF
    subst hR
    exact fin1 (H1 := [imm I, o3 b0 b1 m0.base_ m0.size_ m0.next_ m0.last_ p0 m0.list_ c0 m0.sure_ m0.dead_, o1 b1 b2 m1.boot_ m1.n_, o0 b2 p1 m2.sure_ c1 p2 m2.off_ m2.armed_ m2.left_ m2.fall_.Keep m2.fall_.Tear m2.acts_ m2.falls_, own eStr 9 p0 c0 m0.list_, own e_disk_sector 51 p1 c1 m2.sure_, mpo (kInt .i64) (fun x : disk_sector => Value.agg #[.string x.s_, i6 x.at_]) p2 m2.wait_]) (fun w hs => sat_to [0, 0, 0, 0, 0, 0, 0] 0 rfl hs) rfl (rr_tmp rfl) ⟨rfl, rfl⟩
  refine cw_cond_f rfl rfl h23 ?_
  refine cw_skip ?_
  refine ew_then ?_
  refine cw_seq ?_
  refine cw_open 10 (SAT w0 ([imm I, o3 b0 b1 m0.base_ m0.size_ m0.next_ m0.last_ p0 m0.list_ c0 m0.sure_ m0.dead_, o1 b1 b2 m1.boot_ m1.n_, o0 b2 p1 m2.sure_ c1 p2 m2.off_ m2.armed_ m2.left_ m2.fall_.Keep m2.fall_.Tear m2.acts_ m2.falls_, own eStr 9 p0 c0 m0.list_, own e_disk_sector 51 p1 c1 m2.sure_, mpo (kInt .i64) (fun x : disk_sector => Value.agg #[.string x.s_, i6 x.at_]) p2 m2.wait_])) (by kernel_rfl) (f := 10) rfl (fun w hs => sat_drew hs) ?_
  refine aw_vals [0, 1, 2, 4, 5, 6] (f' := 4) (m' := 119) [7, 11] [(7, .pointer (some ⟨b0, 2, none⟩)), (11, .pointer (some ⟨b0, 3, none⟩))] (fun _ _ _ _ _ h => calm_fin (P := Tryz.prog) (fn := Tryz.f31) _ _ _ _ _ h) (fun w hs => sat_pulls [0, 0, 0, 0, 0, 0, 0] (G := [] ++ F0) rfl hs) rfl (by kernel_rfl) ?_
  refine aw_quiet 3 (m' := 127) (v := i6 m0.size_) 0 [] rfl rfl rfl rfl (by kernel_rfl) (by kernel_rfl) (by kernel_rfl) (fun _ _ _ _ _ h => calm_fin (P := Tryz.prog) (fn := Tryz.f31) _ _ _ _ _ h) (fun w hs => sat_pulls [0, 0, 0, 0, 0, 0, 0] (G := [] ++ F0) rfl hs) (q_load 1 rfl rfl rfl (by kernel_rfl)) ?_
  refine aw_quiet 7 (m' := 255) (v := i6 m0.next_) 0 [] rfl rfl rfl rfl (by kernel_rfl) (by kernel_rfl) (by kernel_rfl) (fun _ _ _ _ _ h => calm_fin (P := Tryz.prog) (fn := Tryz.f31) _ _ _ _ _ h) (fun w hs => sat_pulls [0, 0, 0, 0, 0, 0, 0] (G := [] ++ F0) rfl hs) (q_load 1 rfl rfl rfl (by kernel_rfl)) ?_
  refine aw_vals [8, 9] (f' := 0) (m' := 1023) [2] [(2, i6 (IntKind.i64.wrap (m0.size_ - m0.next_)))] (fun _ _ _ _ _ h => calm_fin (P := Tryz.prog) (fn := Tryz.f31) _ _ _ _ _ h) (fun w hs => sat_pulls [0, 0, 0, 0, 0, 0, 0] (G := [] ++ F0) rfl hs) rfl (by kernel_rfl) ?_
  refine aw_keep [2] (L' := [(2, i6 (IntKind.i64.wrap (m0.size_ - m0.next_)))]) rfl ?_
  refine aw_end (by kernel_rfl) ?_
  refine ew_then ?_
  refine cw_ret ?_
  have hR := Option.some.inj hF
  subst hR
  exact fin1 (H1 := [imm I, o3 b0 b1 m0.base_ m0.size_ m0.next_ m0.last_ p0 m0.list_ c0 m0.sure_ m0.dead_, o1 b1 b2 m1.boot_ m1.n_, o0 b2 p1 m2.sure_ c1 p2 m2.off_ m2.armed_ m2.left_ m2.fall_.Keep m2.fall_.Tear m2.acts_ m2.falls_, own eStr 9 p0 c0 m0.list_, own e_disk_sector 51 p1 c1 m2.sure_, mpo (kInt .i64) (fun x : disk_sector => Value.agg #[.string x.s_, i6 x.at_]) p2 m2.wait_]) (fun w hs => sat_to [0, 0, 0, 0, 0, 0, 0] 0 rfl hs) rfl (rr_tmp rfl) ⟨rfl, rfl⟩


def F.guard_Eight.l1 (x0 : Int) (l27 : List Int) (x31 : Int) : Option (((List Int) × Int) ⊕ ((List Int))) :=
  if decide (x31 < ((List.replicate (8 : Int).toNat 0 : List Int).length : Int)) then (chk (0 ≤ (IntKind.i64.wrap (56 - (IntKind.i64.wrap (8 * x31))))) (Option.bind (at_ l27 x31) (fun (y34 : Int) => some (.inl (l27.set x31.toNat (IntKind.u8.wrap (x0.fdiv ((2 : Int) ^ (min (IntKind.i64.wrap (56 - (IntKind.i64.wrap (8 * x31)))).toNat 64)))), IntKind.i64.wrap (x31 + 1)))))) else (some (.inr (l27)))
def F.guard_Eight.r2 (l36 : List Int) : Option (ByteArray) :=
  some ((bstr l36))
def F.guard_Eight (x0 : Int) : Option ByteArray :=
  chk (0 ≤ (8 : Int) ∧ room (8 : Int).toNat 1) (Option.bind (iter (fun x => F.guard_Eight.l1 x0 x.1 x.2) FUEL ((List.replicate (8 : Int).toNat 0 : List Int), 0)) (fun x => F.guard_Eight.r2 x))
set_option maxRecDepth 100000 in
set_option maxHeartbeats 4000000 in
theorem c_guard_Eight (I : Hl) (x0 : Int) (res : ByteArray) (hF : F.guard_Eight x0 = some res) : Tr Tryz.prog 37 [i6 x0] [imm I] (fun r H' => r = .string res ∧ H' = [imm I]) := by
  unfold F.guard_Eight at hF
  refine tr_of_cw (fn := Tryz.f37) Tryz.func37 rfl (Nat.le_of_ble_eq_true rfl) 23 rfl fun F0 w0 => ?_
  refine cw_keep [0] (L' := [(0, i6 x0)]) rfl ?_
  refine cw_state (S' := SAT w0 ([imm I] ++ F0)) (fun w hs => hs) ?_
  refine cw_seq ?_
  refine cw_region ?_
  refine ow_vals 1 (j := 1) [0] [(0, i6 x0)] rfl (by kernel_rfl) ?_
  refine ow_end rfl ?_
  refine ew_then ?_
  refine cw_seq ?_
  refine cw_region ?_
  obtain ⟨h21, hF⟩ := chk_some hF
  refine ow_pw rfl (pw_make (E := 5) (eInt .u8) 0 rfl rfl rfl rfl rfl (by kernel_rfl) (by kernel_rfl) rfl rfl rfl h21.1 (room_max h21.1 h21.2) (room_bytes h21.1 h21.2) fun p22 c23 => nw_ow ?_)
  refine ow_vals 1 (j := 2) [0, 3] [(0, i6 x0), (3, .slice p22 (List.replicate (8 : Int).toNat 0 : List Int).length c23)] rfl (by kernel_rfl) ?_
  refine ow_end rfl ?_
  refine ew_then ?_
  obtain ⟨v25, hF, hK25⟩ := bind_some hF
  refine cw_mid (fun a w => ∃ (l36 : List Int), ∃ (p37 : Option Addr), ∃ (c38 : Nat), l36 = v25 ∧ Fr 23 [(3, .slice p37 l36.length c38)] a ∧ SAT w0 ([imm I, own (eInt .u8) 5 p37 c38 l36] ++ F0) w) ?_ ?_
  · refine cw_seq ?_
    refine cw_region ?_
    refine ow_vals 3 (j := 3) [0, 3, 7, 8] [(0, i6 x0), (3, .slice p22 (List.replicate (8 : Int).toNat 0 : List Int).length c23), (7, i6 ((List.replicate (8 : Int).toNat 0 : List Int).length : Int)), (8, i6 0)] rfl (by kernel_rfl) ?_
    refine ow_end rfl ?_
    refine ew_then ?_
    refine cw_block ?_
    refine fun a w hf hs => wp_rounds (fun k a w => ∃ (l27 : List Int), ∃ (x31 : Int), ∃ (p28 : Option Addr), ∃ (c29 : Nat), iter (fun x => F.guard_Eight.l1 x0 x.1 x.2) k (l27, x31) = some v25 ∧ Fr 23 [(0, i6 x0), (3, .slice p28 l27.length c29), (7, i6 ((List.replicate (8 : Int).toNat 0 : List Int).length : Int)), (8, i6 x31)] a ∧ SAT w0 ([imm I, own (eInt .u8) 5 p28 c29 l27] ++ F0) w) ?_ FUEL a w ⟨(List.replicate (8 : Int).toNat 0 : List Int), 0, p22, c23, hF, hf.keep [0, 3, 7, 8], sat_to [1, 0] 0 rfl hs⟩
    clear hf hs
    clear a w hF
    rintro k a w ⟨l27, x31, p28, c29, hF2, hf, hs⟩
    obtain ⟨k, r26, rfl, hF, hL26⟩ := iter_some hF2
    clear hF2
    revert a w
    show CW _ _ _ 23 [(0, i6 x0), (3, .slice p28 l27.length c29), (7, i6 ((List.replicate (8 : Int).toNat 0 : List Int).length : Int)), (8, i6 x31)] (SAT w0 ([imm I, own (eInt .u8) 5 p28 c29 l27] ++ F0))
    try dsimp only at hF
    unfold F.guard_Eight.l1 at hF
    refine cw_seq ?_
    refine cw_region ?_
    refine ow_vals 1 (j := 1) [0, 3, 7, 8, 9] [(0, i6 x0), (3, .slice p28 l27.length c29), (7, i6 ((List.replicate (8 : Int).toNat 0 : List Int).length : Int)), (8, i6 x31), (9, .bool (decide (x31 < ((List.replicate (8 : Int).toNat 0 : List Int).length : Int))))] rfl (by kernel_rfl) ?_
    refine ow_end rfl ?_
    refine ew_then ?_
    refine cw_seq ?_
    rcases if_some hF with ⟨h32, hF⟩ | ⟨h32, hF⟩
    · refine cw_cond_t rfl rfl h32 ?_
      refine cw_skip ?_
      refine ew_then ?_
      refine cw_seq ?_
      refine cw_block ?_
      refine cw_seq ?_
      refine cw_region ?_
      refine ow_vals 2 (j := 2) [0, 3, 4, 7, 8] [(0, i6 x0), (3, .slice p28 l27.length c29), (4, i6 x31), (7, i6 ((List.replicate (8 : Int).toNat 0 : List Int).length : Int)), (8, i6 x31)] rfl (by kernel_rfl) ?_
      refine ow_end rfl ?_
      refine ew_then ?_
      refine cw_region ?_
      refine ow_vals 6 (j := 6) [0, 3, 7, 8, 11, 12, 13, 16] [(0, i6 x0), (3, .slice p28 l27.length c29), (7, i6 ((List.replicate (8 : Int).toNat 0 : List Int).length : Int)), (8, i6 x31), (11, .slice p28 l27.length c29), (12, i6 x31), (13, i6 x0), (16, i6 (IntKind.i64.wrap (56 - (IntKind.i64.wrap (8 * x31)))))] rfl (by kernel_rfl) ?_
      obtain ⟨h33, hF⟩ := chk_some hF
      refine ow_pw rfl (pw_quiet (v := i6 (x0.fdiv ((2 : Int) ^ (min (IntKind.i64.wrap (56 - (IntKind.i64.wrap (8 * x31)))).toNat 64)))) rfl rfl rfl rfl (q_shift_shr rfl rfl rfl h33) (nw_ow ?_))
      refine ow_vals 1 (j := 8) [0, 3, 7, 8, 11, 12, 18] [(0, i6 x0), (3, .slice p28 l27.length c29), (7, i6 ((List.replicate (8 : Int).toNat 0 : List Int).length : Int)), (8, i6 x31), (11, .slice p28 l27.length c29), (12, i6 x31), (18, .int .u8 (IntKind.u8.wrap (x0.fdiv ((2 : Int) ^ (min (IntKind.i64.wrap (56 - (IntKind.i64.wrap (8 * x31)))).toNat 64)))))] rfl (by kernel_rfl) ?_
      obtain ⟨y34, h35, hF⟩ := bind_some hF
      refine ow_pw rfl (pw_quiet (v := .pointer (some ((base p28).add (x31.toNat * 1)))) rfl rfl rfl rfl (q_index_own 1 1 rfl rfl (by kernel_rfl) rfl rfl (at_some h35).1 (at_lt h35)) (nw_ow ?_))
      refine ow_pw rfl (pw_store_own 1 1 (z' := IntKind.u8.wrap (x0.fdiv ((2 : Int) ^ (min (IntKind.i64.wrap (56 - (IntKind.i64.wrap (8 * x31)))).toNat 64)))) (off := 0) rfl rfl rfl rfl rfl rfl rfl rfl (at_some h35).2 (by kernel_rfl) (nw_H (H' := [imm I, own (eInt .u8) 5 p28 c29 (l27.set x31.toNat (IntKind.u8.wrap (x0.fdiv ((2 : Int) ^ (min (IntKind.i64.wrap (56 - (IntKind.i64.wrap (8 * x31)))).toNat 64)))))] ++ F0) (by first | rfl | (simp only [o0, o3, o5, List.length_set]; rfl)) (nw_ow ?_)))
      refine ow_slots (L' := [(19, .pointer (some ((base p28).add (x31.toNat * 1)))), (0, i6 x0), (3, .slice p28 (l27.set x31.toNat (IntKind.u8.wrap (x0.fdiv ((2 : Int) ^ (min (IntKind.i64.wrap (56 - (IntKind.i64.wrap (8 * x31)))).toNat 64))))).length c29), (7, i6 ((List.replicate (8 : Int).toNat 0 : List Int).length : Int)), (8, i6 x31), (11, .slice p28 (l27.set x31.toNat (IntKind.u8.wrap (x0.fdiv ((2 : Int) ^ (min (IntKind.i64.wrap (56 - (IntKind.i64.wrap (8 * x31)))).toNat 64))))).length c29), (12, i6 x31), (18, .int .u8 (IntKind.u8.wrap (x0.fdiv ((2 : Int) ^ (min (IntKind.i64.wrap (56 - (IntKind.i64.wrap (8 * x31)))).toNat 64)))))]) (by first | rfl | (simp only [o0, o3, o5, List.length_set]; rfl)) ?_
      refine ow_end rfl ?_
      refine ew_blk ?_
      refine ew_then ?_
      refine cw_region ?_
      refine ow_vals 2 (j := 2) [0, 3, 7, 8] [(0, i6 x0), (3, .slice p28 (l27.set x31.toNat (IntKind.u8.wrap (x0.fdiv ((2 : Int) ^ (min (IntKind.i64.wrap (56 - (IntKind.i64.wrap (8 * x31)))).toNat 64))))).length c29), (7, i6 ((List.replicate (8 : Int).toNat 0 : List Int).length : Int)), (8, i6 (IntKind.i64.wrap (x31 + 1)))] rfl (by kernel_rfl) ?_
      refine ow_end rfl ?_
      have hR := Option.some.inj hF
      subst hR
      have hR := hL26
      try dsimp only at hR
      exact fun a w hf hs => ⟨k, Nat.lt_succ_self k, l27.set x31.toNat (IntKind.u8.wrap (x0.fdiv ((2 : Int) ^ (min (IntKind.i64.wrap (56 - (IntKind.i64.wrap (8 * x31)))).toNat 64)))), IntKind.i64.wrap (x31 + 1), p28, c29, hR, hf.keep [0, 3, 7, 8], sat_to [0, 0] 0 rfl hs⟩
    refine cw_cond_f rfl rfl h32 ?_
    refine cw_exit ?_
    refine ew_then_exit ?_
    refine ew_then_exit ?_
    refine ew_blk_exit ?_
    have hR := Option.some.inj hF
    subst hR
    have hR := hL26
    try dsimp only at hR
    exact fun a w hf hs => ⟨l27, p28, c29, hR, hf.keep [3], sat_to [0, 0] 0 rfl hs⟩
  rintro a w ⟨l36, p37, c38, hv, hf, hs⟩
  subst hv
  replace hF := hK25
  clear hK25
  try dsimp only at hF
  revert a w
  show CW _ _ _ 23 [(3, .slice p37 l36.length c38)] (SAT w0 ([imm I, own (eInt .u8) 5 p37 c38 l36] ++ F0))
  unfold F.guard_Eight.r2 at hF
  refine cw_seq ?_
  refine cw_region ?_
  refine ow_vals 1 (j := 1) [21] [(21, .slice p37 l36.length c38)] rfl (by kernel_rfl) ?_
  refine ow_pw rfl (pw_quiet (v := .string (bstr l36)) rfl rfl rfl rfl (q_bytes_str_own 1 rfl rfl (by kernel_rfl) (by kernel_rfl) rfl) (nw_ow ?_))
  refine ow_vals 1 (j := 3) [2] [(2, .string (bstr l36))] rfl (by kernel_rfl) ?_
  refine ow_end rfl ?_
  refine ew_then ?_
  refine cw_ret ?_
  have hR := Option.some.inj hF
  subst hR
  exact fin1 (H1 := [imm I]) (fun w hs => sat_to [1, 0] 1 rfl hs) rfl (rr_tmp rfl) ⟨rfl, rfl⟩


def F.disk_Disk_Waiting.l1 (q27 : Int × disk_sector) (l28 : List Int) : Option ((List Int)) :=
  chk (room (l28.length + ([q27.1] : List Int).length) 8) (some ((l28 ++ ([q27.1] : List Int))))
def F.disk_Disk_Waiting.x2 (v27 : List Int) : Option ((List Int)) :=
  some (v27)
theorem ords_F_disk_Disk_Waiting_l1 : ∀ (L : List (Int × disk_sector)) (s v : List Int), mloop (fun q x => F.disk_Disk_Waiting.l1 q x) L s = some v → v = s ++ L.map Prod.fst ∧ (L ≠ [] → room (s.length + L.length) 8)
  | [], s, v, h => ⟨by have := Option.some.inj h; rw [← this]; simp, fun h => absurd rfl h⟩
  | p :: L, s, v, h => by
    obtain ⟨t, h1, h2⟩ := bind_some h
    dsimp only at h1
    unfold F.disk_Disk_Waiting.l1 at h1
    obtain ⟨hc, h1⟩ := chk_some h1
    have h1 := Option.some.inj h1
    subst h1
    obtain ⟨e1, e2⟩ := ords_F_disk_Disk_Waiting_l1 L _ v h2
    refine ⟨by rw [e1]; simp, fun _ => ?_⟩
    by_cases h0 : L = []
    · subst h0; simpa using hc
    · have := e2 h0; simp at this ⊢; rw [Nat.add_comm L.length 1, ← Nat.add_assoc]; exact this
theorem ordw_F_disk_Disk_Waiting_l1 : ∀ (L : List (Int × disk_sector)) (s : List Int), (L ≠ [] → room (s.length + L.length) 8) → mloop (fun q x => F.disk_Disk_Waiting.l1 q x) L s = some (s ++ L.map Prod.fst)
  | [], s, _ => by simp [mloop]
  | p :: L, s, h => by
    have h0 := h (by simp)
    have e : F.disk_Disk_Waiting.l1 p s = some (s ++ [p.1]) := by
      unfold F.disk_Disk_Waiting.l1
      rw [chk_pos (by unfold room at *; simp at *; omega)]
    show (F.disk_Disk_Waiting.l1 p s).bind (mloop (fun q x => F.disk_Disk_Waiting.l1 q x) L) = _
    rw [e, Option.bind_some, ordw_F_disk_Disk_Waiting_l1 L _ (fun _ => by unfold room at *; simp at *; omega)]
    simp
theorem ord_F_disk_Disk_Waiting_l1 (L : List (Int × disk_sector)) (s v : List Int) (_ : (L.map Prod.fst).Nodup) (h : mloop (fun q x => F.disk_Disk_Waiting.l1 q x) L s = some v) : ∀ l, l.Perm L → ∃ w, mloop (fun q x => F.disk_Disk_Waiting.l1 q x) l s = some w ∧ w.Perm v := by
  intro l hl
  obtain ⟨e1, e2⟩ := ords_F_disk_Disk_Waiting_l1 L s v h
  refine ⟨_, ordw_F_disk_Disk_Waiting_l1 l s (fun h0 => by rw [hl.length_eq]; exact e2 (fun h => h0 (by rw [h] at hl; exact hl.eq_nil))), ?_⟩
  rw [e1]
  exact (hl.map Prod.fst).append_left s
def F.disk_Disk_Waiting.r3 (l37 : List Int) : Option ((List Int)) :=
  chk (l37.length < 4611686018427387904) (some ((sortI l37)))
def F.disk_Disk_Waiting (m0 : disk_Disk) : Option (List Int) :=
  Option.bind (F.disk_Disk_Size m0) (fun (r21 : Int) => if r21 == 0 then (some (([] : List Int))) else (Option.bind (chk (m0.wait_.length ≤ 1000000) (Option.bind (mloop (fun q x => F.disk_Disk_Waiting.l1 q x) m0.wait_ ([])) (fun x => F.disk_Disk_Waiting.x2 x))) (fun x => F.disk_Disk_Waiting.r3 x)))
set_option maxRecDepth 100000 in
set_option maxHeartbeats 4000000 in
theorem c_disk_Disk_Waiting (I : Hl) (m0 : disk_Disk) (p0 : Option Addr) (c0 : Nat) (p1 : Nat) (b0 : Nat) (res : (List Int)) (hF : F.disk_Disk_Waiting m0 = some res) : Tr Tryz.prog 51 [pP b0] [imm I, o0 b0 p0 m0.sure_ c0 p1 m0.off_ m0.armed_ m0.left_ m0.fall_.Keep m0.fall_.Tear m0.acts_ m0.falls_, own e_disk_sector 51 p0 c0 m0.sure_, mpo (kInt .i64) (fun x : disk_sector => Value.agg #[.string x.s_, i6 x.at_]) p1 m0.wait_] (fun r H' => ∃ (pq1 : Option Addr), ∃ (cq2 : Nat), r = .slice pq1 res.length cq2 ∧ H' = [imm I, o0 b0 p0 m0.sure_ c0 p1 m0.off_ m0.armed_ m0.left_ m0.fall_.Keep m0.fall_.Tear m0.acts_ m0.falls_, own (eInt .i64) 3 pq1 cq2 res, own e_disk_sector 51 p0 c0 m0.sure_, mpo (kInt .i64) (fun x : disk_sector => Value.agg #[.string x.s_, i6 x.at_]) p1 m0.wait_]) := by
  unfold F.disk_Disk_Waiting at hF
  refine tr_of_cw (fn := Tryz.f51) Tryz.func51 rfl (Nat.le_of_ble_eq_true rfl) 24 rfl fun F0 w0 => ?_
  refine cw_keep [0] (L' := [(0, pP b0)]) rfl ?_
  refine cw_state (S' := SAT w0 ([imm I, o0 b0 p0 m0.sure_ c0 p1 m0.off_ m0.armed_ m0.left_ m0.fall_.Keep m0.fall_.Tear m0.acts_ m0.falls_, own e_disk_sector 51 p0 c0 m0.sure_, mpo (kInt .i64) (fun x : disk_sector => Value.agg #[.string x.s_, i6 x.at_]) p1 m0.wait_] ++ F0)) (fun w hs => hs) ?_
  refine cw_seq ?_
  refine cw_region ?_
  refine ow_vals 1 (j := 1) [0] [(0, pP b0)] rfl (by kernel_rfl) ?_
  refine ow_end rfl ?_
  refine ew_then ?_
  refine cw_seq ?_
  refine cw_seq ?_
  refine cw_region ?_
  refine ow_vals 1 (j := 1) [0, 5] [(0, pP b0), (5, pP b0)] rfl (by kernel_rfl) ?_
  obtain ⟨r21, h22, hF⟩ := bind_some hF
  refine ow_pw rfl (pw_call (F := [] ++ F0) rfl rfl rfl rfl rfl rfl rfl (by kernel_rfl) (perm_of_pulls [0, 0, 0, 0] rfl) (c_disk_Disk_Size _ m0 p0 c0 p1 b0 r21 h22) ?_)
  rintro _ _ ⟨rfl, rfl⟩
  refine nw_H (H' := [imm I, o0 b0 p0 m0.sure_ c0 p1 m0.off_ m0.armed_ m0.left_ m0.fall_.Keep m0.fall_.Tear m0.acts_ m0.falls_, own e_disk_sector 51 p0 c0 m0.sure_, mpo (kInt .i64) (fun x : disk_sector => Value.agg #[.string x.s_, i6 x.at_]) p1 m0.wait_] ++ F0) rfl (nw_ow ?_)
  refine ow_vals 1 (j := 3) [0, 7] [(0, pP b0), (7, .bool (r21 == 0))] rfl (by kernel_rfl) ?_
  refine ow_end rfl ?_
  refine ew_then ?_
  rcases if_some hF with ⟨h23, hF⟩ | ⟨h23, hF⟩
  · refine cw_cond_t rfl rfl h23 ?_
    refine cw_seq ?_
    refine cw_region ?_
    refine ow_vals 1 (j := 1) [2] [(2, .slice none 0 0)] rfl (by kernel_rfl) ?_
    refine ow_end rfl ?_
    refine ew_then ?_
    refine cw_ret ?_
    refine ew_then_ret ?_
    have hR := Option.some.inj hF
    subst hR
    exact fin1 (H1 := [imm I, o0 b0 p0 m0.sure_ c0 p1 m0.off_ m0.armed_ m0.left_ m0.fall_.Keep m0.fall_.Tear m0.acts_ m0.falls_, own (eInt .i64) 3 none 0 ([] : List Int), own e_disk_sector 51 p0 c0 m0.sure_, mpo (kInt .i64) (fun x : disk_sector => Value.agg #[.string x.s_, i6 x.at_]) p1 m0.wait_]) (fun w hs => sat_to [1, 1, 0, 0, 0] 0 rfl (sat_own_nil (eInt .i64) 3 hs)) rfl (rr_tmp rfl) ⟨none, 0, rfl, rfl⟩
  refine cw_cond_f rfl rfl h23 ?_
  refine cw_skip ?_
  refine ew_then ?_
  refine cw_seq ?_
  refine cw_region ?_
  refine ow_vals 1 (j := 1) [0, 3] [(0, pP b0), (3, .slice none 0 0)] rfl (by kernel_rfl) ?_
  refine ow_end rfl ?_
  refine ew_then ?_
  obtain ⟨v24, hF, hK24⟩ := bind_some hF
  refine cw_mid (fun a w => ∃ (l37 : List Int), ∃ (p38 : Option Addr), ∃ (c39 : Nat), ∃ (l41 : List Int), l37 = v24 ∧ l41.Perm l37 ∧ Fr 24 [(3, .slice p38 l41.length c39)] a ∧ SAT w0 ([imm I, o0 b0 p0 m0.sure_ c0 p1 m0.off_ m0.armed_ m0.left_ m0.fall_.Keep m0.fall_.Tear m0.acts_ m0.falls_, own (eInt .i64) 3 p38 c39 l41, own e_disk_sector 51 p0 c0 m0.sure_, mpo (kInt .i64) (fun x : disk_sector => Value.agg #[.string x.s_, i6 x.at_]) p1 m0.wait_] ++ F0) w) ?_ ?_
  · refine cw_seq ?_
    refine cw_region ?_
    refine ow_vals 3 (j := 3) [3, 10] [(3, .slice none 0 0), (10, .pointer (some ⟨b0, 1, none⟩))] rfl (by kernel_rfl) ?_
    refine ow_pw rfl (pw_quiet (v := .map (some p1)) rfl rfl rfl rfl (q_load 1 rfl rfl rfl (by kernel_rfl)) (nw_ow ?_))
    refine ow_pw rfl (pw_range 3 rfl rfl rfl rfl rfl rfl rfl rfl fun b25 => nw_H (H' := [imm I, o0 b0 p0 m0.sure_ c0 p1 m0.off_ m0.armed_ m0.left_ m0.fall_.Keep m0.fall_.Tear m0.acts_ m0.falls_, own e_disk_sector 51 p0 c0 m0.sure_, mrg (kInt .i64) (fun x : disk_sector => Value.agg #[.string x.s_, i6 x.at_]) p1 b25 m0.wait_ m0.wait_ none] ++ F0) rfl (nw_ow ?_))
    refine ow_end rfl ?_
    refine ew_then ?_
    refine cw_block ?_
    obtain ⟨h26, hF⟩ := chk_some hF
    obtain ⟨v27, hv27, hX27⟩ := bind_some hF
    clear hF
    refine fun a w hf hs => ?_
    have hn27 := mrg_keys (k := 3) rfl hs
    have ho27 := ord_F_disk_Disk_Waiting_l1 m0.wait_ ([]) _ hn27 hv27
    refine wp_rounds (fun k a w => ∃ (l28 : List Int), ∃ (p29 : Option Addr), ∃ (c30 : Nat), ∃ (dn27 : List (Int × disk_sector)), ∃ (lt27 : List (Int × disk_sector)), (dn27 ++ lt27).Perm m0.wait_ ∧ mloop (fun q x => F.disk_Disk_Waiting.l1 q x) dn27 ([]) = some l28 ∧ lt27.length < k ∧ Fr 24 [(3, .slice p29 l28.length c30), (12, pP b25)] a ∧ SAT w0 ([imm I, o0 b0 p0 m0.sure_ c0 p1 m0.off_ m0.armed_ m0.left_ m0.fall_.Keep m0.fall_.Tear m0.acts_ m0.falls_, own (eInt .i64) 3 p29 c30 l28, own e_disk_sector 51 p0 c0 m0.sure_, mrg (kInt .i64) (fun x : disk_sector => Value.agg #[.string x.s_, i6 x.at_]) p1 b25 m0.wait_ lt27 none] ++ F0) w) ?_ FUEL a w ⟨[], none, 0, [], m0.wait_, List.Perm.refl _, rfl, (by rw [FUEL_eq]; omega), hf.keep [3, 12], sat_to [1, 1, 0, 0, 0] 0 rfl (sat_own_nil (eInt .i64) 3 hs)⟩
    clear hf hs
    clear a w
    rintro k a w ⟨l28, p29, c30, dn27, lt27, hP27, hD27, hk27, hf, hs⟩
    revert a w
    show CW _ _ _ 24 [(3, .slice p29 l28.length c30), (12, pP b25)] (SAT w0 ([imm I, o0 b0 p0 m0.sure_ c0 p1 m0.off_ m0.armed_ m0.left_ m0.fall_.Keep m0.fall_.Tear m0.acts_ m0.falls_, own (eInt .i64) 3 p29 c30 l28, own e_disk_sector 51 p0 c0 m0.sure_, mrg (kInt .i64) (fun x : disk_sector => Value.agg #[.string x.s_, i6 x.at_]) p1 b25 m0.wait_ lt27 none] ++ F0))
    refine cw_seq ?_
    refine cw_region ?_
    refine ow_pw rfl (pw_next 4 rfl rfl rfl rfl rfl rfl rfl (fun h027 => nw_ow ?_) (fun q27 lf27 hq27 => nw_H (H' := [imm I, o0 b0 p0 m0.sure_ c0 p1 m0.off_ m0.armed_ m0.left_ m0.fall_.Keep m0.fall_.Tear m0.acts_ m0.falls_, own (eInt .i64) 3 p29 c30 l28, own e_disk_sector 51 p0 c0 m0.sure_, mrg (kInt .i64) (fun x : disk_sector => Value.agg #[.string x.s_, i6 x.at_]) p1 b25 m0.wait_ lf27 (some q27)] ++ F0) rfl (nw_ow ?_)))
    · obtain ⟨w27, hv27, hR27⟩ := ho27 dn27 (by rw [h027, List.append_nil] at hP27; exact hP27)
      rw [hD27] at hv27
      obtain rfl := Option.some.inj hv27
      have hF := hX27
      try dsimp only at hF
      unfold F.disk_Disk_Waiting.x2 at hF
      refine ow_state (S' := SAT w0 ([imm I, o0 b0 p0 m0.sure_ c0 p1 m0.off_ m0.armed_ m0.left_ m0.fall_.Keep m0.fall_.Tear m0.acts_ m0.falls_, own (eInt .i64) 3 p29 c30 l28, own e_disk_sector 51 p0 c0 m0.sure_, mpo (kInt .i64) (fun x : disk_sector => Value.agg #[.string x.s_, i6 x.at_]) p1 m0.wait_] ++ F0)) (fun w hs => sat_mrg_end (k := 4) rfl hs) ?_
      refine ow_vals 1 (j := 2) [3, 12, 14] [(3, .slice p29 l28.length c30), (12, pP b25), (14, .bool false)] rfl (by kernel_rfl) ?_
      refine ow_end rfl ?_
      refine ew_then ?_
      refine cw_seq ?_
      refine cw_cond_f rfl rfl rfl ?_
      refine cw_exit ?_
      refine ew_then_exit ?_
      refine ew_then_exit ?_
      refine ew_blk_exit ?_
      have hR := Option.some.inj hF
      exact fun a w hf hs => ⟨v27, p29, c30, l28, hR, hR27, hf.keep [3], sat_to [0, 0, 0, 0, 0] 0 rfl hs⟩
    obtain ⟨u27, hu27⟩ := mloop_step (fun l' h => (ho27 l' h).imp fun _ h => h.1) hD27 ((hq27.append_left dn27).symm.trans hP27)
    have hF := hu27
    try dsimp only at hF
    unfold F.disk_Disk_Waiting.l1 at hF
    refine ow_vals 1 (j := 2) [3, 12, 14] [(3, .slice p29 l28.length c30), (12, pP b25), (14, .bool true)] rfl (by kernel_rfl) ?_
    refine ow_end rfl ?_
    refine ew_then ?_
    refine cw_seq ?_
    refine cw_cond_t rfl rfl rfl ?_
    refine cw_skip ?_
    refine ew_then ?_
    refine cw_block ?_
    refine cw_seq ?_
    refine cw_region ?_
    refine ow_pw rfl (pw_quiet (v := .tuple #[i6 q27.1, .agg #[.string q27.2.s_, i6 q27.2.at_]]) rfl rfl rfl rfl (q_entry (kf := (kInt .i64)) (vf := (fun x : disk_sector => Value.agg #[.string x.s_, i6 x.at_])) (p := q27) 4 rfl rfl rfl) (nw_ow ?_))
    refine ow_vals 2 (j := 3) [3, 4, 12] [(3, .slice p29 l28.length c30), (4, i6 q27.1), (12, pP b25)] rfl (by kernel_rfl) ?_
    refine ow_end rfl ?_
    refine ew_then ?_
    refine cw_region ?_
    refine ow_vals 2 (j := 2) [12, 17, 18] [(12, pP b25), (17, .slice p29 l28.length c30), (18, i6 q27.1)] rfl (by kernel_rfl) ?_
    refine ow_pw rfl (pw_buildSlice (E := 3) (eInt .i64) ([q27.1] : List Int) rfl rfl rfl rfl rfl (by kernel_rfl) rfl (by kernel_rfl) rfl (by decide) rfl fun p32 => nw_ow ?_)
    obtain ⟨h34, hF⟩ := chk_some hF
    refine ow_pw rfl (pw_append 3 (l' := ([q27.1] : List Int)) rfl rfl rfl rfl rfl rfl (by kernel_rfl) (by kernel_rfl) rfl rfl rfl (src_own (E' := 3) 0 rfl (by kernel_rfl) rfl) rfl h34.1 h34.2 fun p35 c36 => nw_H (H' := [own (eInt .i64) 3 p32 1 ([q27.1] : List Int), imm I, o0 b0 p0 m0.sure_ c0 p1 m0.off_ m0.armed_ m0.left_ m0.fall_.Keep m0.fall_.Tear m0.acts_ m0.falls_, own (eInt .i64) 3 p35 c36 (l28 ++ ([q27.1] : List Int)), own e_disk_sector 51 p0 c0 m0.sure_, mrg (kInt .i64) (fun x : disk_sector => Value.agg #[.string x.s_, i6 x.at_]) p1 b25 m0.wait_ lf27 (some q27)] ++ F0) rfl (nw_ow ?_))
    refine ow_vals 1 (j := 5) [3, 12] [(3, .slice p35 (l28 ++ ([q27.1] : List Int)).length c36), (12, pP b25)] rfl (by kernel_rfl) ?_
    refine ow_end rfl ?_
    refine ew_blk ?_
    have hR := Option.some.inj hF
    subst hR
    exact fun a w hf hs => ⟨lt27.length, hk27, l28 ++ ([q27.1] : List Int), p35, c36, dn27 ++ [q27], lf27, (by rw [List.append_assoc]; exact (hq27.append_left dn27).symm.trans hP27), mloop_snoc hD27 hu27, (by rw [hq27.length_eq]; exact Nat.lt_succ_self _), hf.keep [3, 12], sat_to [0, 0, 0, 0, 0, 0] 1 rfl (sat_mrg_none (k := 5) rfl hs)⟩
  rintro a w ⟨l37, p38, c39, l41, hv, h42, hf, hs⟩
  subst hv
  replace hF := hK24
  clear hK24
  try dsimp only at hF
  revert a w
  show CW _ _ _ 24 [(3, .slice p38 l41.length c39)] (SAT w0 ([imm I, o0 b0 p0 m0.sure_ c0 p1 m0.off_ m0.armed_ m0.left_ m0.fall_.Keep m0.fall_.Tear m0.acts_ m0.falls_, own (eInt .i64) 3 p38 c39 l41, own e_disk_sector 51 p0 c0 m0.sure_, mpo (kInt .i64) (fun x : disk_sector => Value.agg #[.string x.s_, i6 x.at_]) p1 m0.wait_] ++ F0))
  unfold F.disk_Disk_Waiting.r3 at hF
  refine cw_seq ?_
  refine cw_region ?_
  refine ow_vals 1 (j := 1) [3, 21] [(3, .slice p38 l41.length c39), (21, .slice p38 l41.length c39)] rfl (by kernel_rfl) ?_
  obtain ⟨h43, hF⟩ := chk_some hF
  refine ow_pw rfl (pw_call (F := [imm I, o0 b0 p0 m0.sure_ c0 p1 m0.off_ m0.armed_ m0.left_ m0.fall_.Keep m0.fall_.Tear m0.acts_ m0.falls_, own e_disk_sector 51 p0 c0 m0.sure_, mpo (kInt .i64) (fun x : disk_sector => Value.agg #[.string x.s_, i6 x.at_]) p1 m0.wait_] ++ F0) rfl rfl rfl rfl rfl rfl rfl (by kernel_rfl) (perm_of_pulls [2] rfl) (Tryz.tr_sortI 3 p38 c39 l41 (by rw [h42.length_eq]; exact h43)) ?_)
  rintro _ _ ⟨rfl, rfl⟩
  refine nw_H (H' := [own (eInt .i64) 3 p38 c39 (sortI l37), imm I, o0 b0 p0 m0.sure_ c0 p1 m0.off_ m0.armed_ m0.left_ m0.fall_.Keep m0.fall_.Tear m0.acts_ m0.falls_, own e_disk_sector 51 p0 c0 m0.sure_, mpo (kInt .i64) (fun x : disk_sector => Value.agg #[.string x.s_, i6 x.at_]) p1 m0.wait_] ++ F0) (by rw [sortI_perm h42]; rfl) (nw_ow ?_)
  refine ow_slots (L' := [(22, .tuple #[]), (3, .slice p38 (sortI l37).length c39), (21, .slice p38 (sortI l37).length c39)]) (by simp only [sortI_len, h42.length_eq]; rfl) ?_
  refine ow_end rfl ?_
  refine ew_then ?_
  refine cw_seq ?_
  refine cw_region ?_
  refine ow_vals 2 (j := 2) [2] [(2, .slice p38 (sortI l37).length c39)] rfl (by kernel_rfl) ?_
  refine ow_end rfl ?_
  refine ew_then ?_
  refine cw_ret ?_
  have hR := Option.some.inj hF
  subst hR
  exact fin1 (H1 := [imm I, o0 b0 p0 m0.sure_ c0 p1 m0.off_ m0.armed_ m0.left_ m0.fall_.Keep m0.fall_.Tear m0.acts_ m0.falls_, own (eInt .i64) 3 p38 c39 (sortI l37), own e_disk_sector 51 p0 c0 m0.sure_, mpo (kInt .i64) (fun x : disk_sector => Value.agg #[.string x.s_, i6 x.at_]) p1 m0.wait_]) (fun w hs => sat_to [1, 1, 0, 0, 0] 0 rfl hs) rfl (rr_tmp rfl) ⟨p38, c39, rfl, rfl⟩

end Go.Proofs.YtgbloaophfaaoaaGreatDoor
