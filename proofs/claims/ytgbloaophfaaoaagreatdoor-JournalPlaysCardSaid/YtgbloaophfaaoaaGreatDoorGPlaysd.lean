/- What the functions compute, and that the code computes it: printed by a program of this claim (wip/tools), for the group Plays. -/
import Derived.Test.YtgbloaophfaaoaaGreatDoorGPlaysc
namespace Go.Proofs.YtgbloaophfaaoaaGreatDoor
set_option linter.all false
open Go Go.RowKit Go.Fw
set_option linter.unusedVariables false

def F.journal_Journal_Append.l1 (m0 : journal_Journal) (s37 : ByteArray) (x38 : Int) (x39 : Int) (s40 : ByteArray) (x41 : Int) (x42 : Int) (x43 : Int) (l44 : List disk_sector) (l48 : List (Int × disk_sector)) (x51 : Bool) (x52 : Bool) (x53 : Int) (x54 : Int) (x55 : Int) (x56 : Int) (x57 : Int) : Option ((ByteArray × Int × Int × ByteArray × Int × Int × Int × (List disk_sector) × (List (Int × disk_sector)) × Bool × Bool × Int × Int × Int × Int × Int) ⊕ ((Int × Int × Int × Int × (List disk_sector) × (List (Int × disk_sector)) × Bool × Bool × Int × Int × Int × Int × Int) ⊕ (Int × journal_Journal × guard_Guard × disk_Disk))) :=
  Option.bind (F.guard_Eight x39) (fun (r60 : ByteArray) => chk ((bstr ([x41] : List Int)).size + r60.size ≤ 9223372036854775807) (chk (((bstr ([x41] : List Int)) ++ r60).size + s40.size ≤ 9223372036854775807) (Option.bind (F.guard_Guard_Put (IntKind.i64.wrap ((IntKind.i64.wrap (m0.base_ + m0.next_)) + x38)) (((bstr ([x41] : List Int)) ++ r60) ++ s40) (⟨x42, x43⟩ : guard_Guard) (⟨l44, l48, x51, x52, x53, (⟨x54, x55⟩ : disk_Fall), x56, x57⟩ : disk_Disk)) (fun (r64 : Int × Int × guard_Guard × disk_Disk) => if r64.2.1 != 0 then (Option.bind (F.journal_Journal_fall r64.2.1 m0 r64.2.2.1 r64.2.2.2) (fun (r73 : Int × journal_Journal) => some (.inr (.inr ((r73.1, r73.2, r64.2.2.1, r64.2.2.2)))))) else (if seqB s37 (ByteArray.mk #[]) then (some (.inr (.inl (IntKind.i64.wrap (x38 + 1), r64.1, r64.2.2.1.boot_, r64.2.2.1.n_, r64.2.2.2.sure_, r64.2.2.2.wait_, r64.2.2.2.off_, r64.2.2.2.armed_, r64.2.2.2.left_, r64.2.2.2.fall_.Keep, r64.2.2.2.fall_.Tear, r64.2.2.2.acts_, r64.2.2.2.falls_)))) else (chk (0 ≤ (0 : Int) ∧ (0 : Int) ≤ (if 38 < (s37.size : Int) then 38 else (s37.size : Int)) ∧ (if 38 < (s37.size : Int) then 38 else (s37.size : Int)) ≤ (s37.size : Int)) (chk (0 ≤ ((s37.extract (0 : Int).toNat (if 38 < (s37.size : Int) then 38 else (s37.size : Int)).toNat).size : Int) ∧ ((s37.extract (0 : Int).toNat (if 38 < (s37.size : Int) then 38 else (s37.size : Int)).toNat).size : Int) ≤ (s37.size : Int) ∧ (s37.size : Int) ≤ (s37.size : Int)) (some (.inl (s37.extract ((s37.extract (0 : Int).toNat (if 38 < (s37.size : Int) then 38 else (s37.size : Int)).toNat).size : Int).toNat (s37.size : Int).toNat, IntKind.i64.wrap (x38 + 1), r64.1, s37.extract (0 : Int).toNat (if 38 < (s37.size : Int) then 38 else (s37.size : Int)).toNat, 2, r64.2.2.1.boot_, r64.2.2.1.n_, r64.2.2.2.sure_, r64.2.2.2.wait_, r64.2.2.2.off_, r64.2.2.2.armed_, r64.2.2.2.left_, r64.2.2.2.fall_.Keep, r64.2.2.2.fall_.Tear, r64.2.2.2.acts_, r64.2.2.2.falls_))))))))))
def F.journal_Journal_Append.r2 (x1 : ByteArray) (m0 : journal_Journal) (x79 : Int) (x80 : Int) (x81 : Int) (x82 : Int) (l83 : List disk_sector) (l87 : List (Int × disk_sector)) (x90 : Bool) (x91 : Bool) (x92 : Int) (x93 : Int) (x94 : Int) (x95 : Int) (x96 : Int) : Option (Int × journal_Journal × guard_Guard × disk_Disk) :=
  chk (room (m0.list_.length + ([x1] : List ByteArray).length) 16) (some ((0, (⟨m0.base_, m0.size_, IntKind.i64.wrap (m0.next_ + x79), x80, m0.list_ ++ ([x1] : List ByteArray), m0.sure_, m0.dead_⟩ : journal_Journal), (⟨x81, x82⟩ : guard_Guard), (⟨l83, l87, x90, x91, x92, (⟨x93, x94⟩ : disk_Fall), x95, x96⟩ : disk_Disk))))
def F.journal_Journal_Append (x1 : ByteArray) (m0 : journal_Journal) (m1 : guard_Guard) (m2 : disk_Disk) : Option (Int × journal_Journal × guard_Guard × disk_Disk) :=
  Option.bind (F.journal_Journal_off m0 m1 m2) (fun (r21 : Int) => if r21 != 0 then (some ((r21, m0, m1, m2))) else (if decide ((x1.size : Int) > 6000) then (some ((3, m0, m1, m2))) else (Option.bind (F.journal_Need (x1.size : Int)) (fun (r25 : Int) => Option.bind (F.journal_Journal_Left m0 m1 m2) (fun (r27 : Int) => if decide (r25 > r27) then (some ((6, m0, m1, m2))) else (chk (0 ≤ (0 : Int) ∧ (0 : Int) ≤ (if 36 < (x1.size : Int) then 36 else (x1.size : Int)) ∧ (if 36 < (x1.size : Int) then 36 else (x1.size : Int)) ≤ (x1.size : Int)) (chk ((bstr ([IntKind.u8.wrap ((x1.size : Int).fdiv (2 ^ 8)), IntKind.u8.wrap ((x1.size : Int))] : List Int)).size + (x1.extract (0 : Int).toNat (if 36 < (x1.size : Int) then 36 else (x1.size : Int)).toNat).size ≤ 9223372036854775807) (chk (0 ≤ (if 36 < (x1.size : Int) then 36 else (x1.size : Int)) ∧ (if 36 < (x1.size : Int) then 36 else (x1.size : Int)) ≤ (x1.size : Int) ∧ (x1.size : Int) ≤ (x1.size : Int)) (thru (iter (fun x => F.journal_Journal_Append.l1 m0 x.1 x.2.1 x.2.2.1 x.2.2.2.1 x.2.2.2.2.1 x.2.2.2.2.2.1 x.2.2.2.2.2.2.1 x.2.2.2.2.2.2.2.1 x.2.2.2.2.2.2.2.2.1 x.2.2.2.2.2.2.2.2.2.1 x.2.2.2.2.2.2.2.2.2.2.1 x.2.2.2.2.2.2.2.2.2.2.2.1 x.2.2.2.2.2.2.2.2.2.2.2.2.1 x.2.2.2.2.2.2.2.2.2.2.2.2.2.1 x.2.2.2.2.2.2.2.2.2.2.2.2.2.2.1 x.2.2.2.2.2.2.2.2.2.2.2.2.2.2.2) FUEL (x1.extract (if 36 < (x1.size : Int) then 36 else (x1.size : Int)).toNat (x1.size : Int).toNat, 0, m0.last_, (bstr ([IntKind.u8.wrap ((x1.size : Int).fdiv (2 ^ 8)), IntKind.u8.wrap ((x1.size : Int))] : List Int)) ++ (x1.extract (0 : Int).toNat (if 36 < (x1.size : Int) then 36 else (x1.size : Int)).toNat), 1, m1.boot_, m1.n_, m2.sure_, m2.wait_, m2.off_, m2.armed_, m2.left_, m2.fall_.Keep, m2.fall_.Tear, m2.acts_, m2.falls_)) (fun x => F.journal_Journal_Append.r2 x1 m0 x.1 x.2.1 x.2.2.1 x.2.2.2.1 x.2.2.2.2.1 x.2.2.2.2.2.1 x.2.2.2.2.2.2.1 x.2.2.2.2.2.2.2.1 x.2.2.2.2.2.2.2.2.1 x.2.2.2.2.2.2.2.2.2.1 x.2.2.2.2.2.2.2.2.2.2.1 x.2.2.2.2.2.2.2.2.2.2.2.1 x.2.2.2.2.2.2.2.2.2.2.2.2))))))))))
set_option maxRecDepth 100000 in
set_option maxHeartbeats 4000000 in
theorem c_journal_Journal_Append (I : Hl) (x1 : ByteArray) (m0 : journal_Journal) (m1 : guard_Guard) (m2 : disk_Disk) (p0 : Option Addr) (c0 : Nat) (b0 : Nat) (b1 : Nat) (p1 : Option Addr) (c1 : Nat) (p2 : Nat) (b2 : Nat) (res : Int × journal_Journal × guard_Guard × disk_Disk) (hF : F.journal_Journal_Append x1 m0 m1 m2 = some res) : Tr Tryz.prog 17 [pP b0, .string x1] [imm I, o3 b0 b1 m0.base_ m0.size_ m0.next_ m0.last_ p0 m0.list_ c0 m0.sure_ m0.dead_, o1 b1 b2 m1.boot_ m1.n_, o0 b2 p1 m2.sure_ c1 p2 m2.off_ m2.armed_ m2.left_ m2.fall_.Keep m2.fall_.Tear m2.acts_ m2.falls_, own eStr 9 p0 c0 m0.list_, own e_disk_sector 51 p1 c1 m2.sure_, mpo (kInt .i64) (fun x : disk_sector => Value.agg #[.string x.s_, i6 x.at_]) p2 m2.wait_] (fun r H' => ∃ (pq1 : Option Addr), ∃ (cq2 : Nat), ∃ (pq4 : Option Addr), ∃ (cq5 : Nat), ∃ (bq7 : Nat), r = i6 res.1 ∧ H' = [imm I, o3 b0 b1 res.2.1.base_ res.2.1.size_ res.2.1.next_ res.2.1.last_ pq1 res.2.1.list_ cq2 res.2.1.sure_ res.2.1.dead_, o1 b1 b2 res.2.2.1.boot_ res.2.2.1.n_, o0 b2 pq4 res.2.2.2.sure_ cq5 bq7 res.2.2.2.off_ res.2.2.2.armed_ res.2.2.2.left_ res.2.2.2.fall_.Keep res.2.2.2.fall_.Tear res.2.2.2.acts_ res.2.2.2.falls_, own eStr 9 pq1 cq2 res.2.1.list_, own e_disk_sector 51 pq4 cq5 res.2.2.2.sure_, mpo (kInt .i64) (fun x : disk_sector => Value.agg #[.string x.s_, i6 x.at_]) bq7 res.2.2.2.wait_]) := by
  unfold F.journal_Journal_Append at hF
  refine tr_of_cw (fn := Tryz.f17) Tryz.func17 rfl (Nat.le_of_ble_eq_true rfl) 123 rfl fun F0 w0 => ?_
  refine cw_keep [0, 1] (L' := [(0, pP b0), (1, .string x1)]) rfl ?_
  refine cw_state (S' := SAT w0 ([imm I, o3 b0 b1 m0.base_ m0.size_ m0.next_ m0.last_ p0 m0.list_ c0 m0.sure_ m0.dead_, o1 b1 b2 m1.boot_ m1.n_, o0 b2 p1 m2.sure_ c1 p2 m2.off_ m2.armed_ m2.left_ m2.fall_.Keep m2.fall_.Tear m2.acts_ m2.falls_, own eStr 9 p0 c0 m0.list_, own e_disk_sector 51 p1 c1 m2.sure_, mpo (kInt .i64) (fun x : disk_sector => Value.agg #[.string x.s_, i6 x.at_]) p2 m2.wait_] ++ F0)) (fun w hs => hs) ?_
  refine cw_seq ?_
  refine cw_region ?_
  refine ow_vals 1 (j := 1) [0, 1] [(0, pP b0), (1, .string x1)] rfl (by kernel_rfl) ?_
  refine ow_end rfl ?_
  refine ew_then ?_
  refine cw_seq ?_
  refine cw_seq ?_
  refine cw_region ?_
  refine ow_vals 1 (j := 1) [0, 1, 13] [(0, pP b0), (1, .string x1), (13, pP b0)] rfl (by kernel_rfl) ?_
  obtain ⟨r21, h22, hF⟩ := bind_some hF
  refine ow_pw rfl (pw_call (F := [] ++ F0) rfl rfl rfl rfl rfl rfl rfl (by kernel_rfl) (perm_of_pulls [0, 0, 0, 0, 0, 0, 0] rfl) (c_journal_Journal_off _ m0 m1 m2 p0 c0 b0 b1 p1 c1 p2 b2 r21 h22) ?_)
  rintro _ _ ⟨rfl, rfl⟩
  refine nw_H (H' := [imm I, o3 b0 b1 m0.base_ m0.size_ m0.next_ m0.last_ p0 m0.list_ c0 m0.sure_ m0.dead_, o1 b1 b2 m1.boot_ m1.n_, o0 b2 p1 m2.sure_ c1 p2 m2.off_ m2.armed_ m2.left_ m2.fall_.Keep m2.fall_.Tear m2.acts_ m2.falls_, own eStr 9 p0 c0 m0.list_, own e_disk_sector 51 p1 c1 m2.sure_, mpo (kInt .i64) (fun x : disk_sector => Value.agg #[.string x.s_, i6 x.at_]) p2 m2.wait_] ++ F0) rfl (nw_ow ?_)
  refine ow_vals 1 (j := 3) [0, 1, 5] [(0, pP b0), (1, .string x1), (5, i6 r21)] rfl (by kernel_rfl) ?_
  refine ow_end rfl ?_
  refine ew_then ?_
  refine cw_seq ?_
  refine cw_region ?_
  refine ow_vals 2 (j := 2) [0, 1, 5, 16] [(0, pP b0), (1, .string x1), (5, i6 r21), (16, .bool (r21 != 0))] rfl (by kernel_rfl) ?_
  refine ow_end rfl ?_
  refine ew_then ?_
  rcases if_some hF with ⟨h23, hF⟩ | ⟨h23, hF⟩
  · refine cw_cond_t rfl rfl h23 ?_
    refine cw_seq ?_
    refine cw_region ?_
    refine ow_vals 2 (j := 2) [4] [(4, i6 r21)] rfl (by kernel_rfl) ?_
    refine ow_end rfl ?_
    refine ew_then ?_
    refine cw_ret ?_
    refine ew_then_ret ?_
    have hR := Option.some.inj hF
    subst hR
    exact fin1 (H1 := [imm I, o3 b0 b1 m0.base_ m0.size_ m0.next_ m0.last_ p0 m0.list_ c0 m0.sure_ m0.dead_, o1 b1 b2 m1.boot_ m1.n_, o0 b2 p1 m2.sure_ c1 p2 m2.off_ m2.armed_ m2.left_ m2.fall_.Keep m2.fall_.Tear m2.acts_ m2.falls_, own eStr 9 p0 c0 m0.list_, own e_disk_sector 51 p1 c1 m2.sure_, mpo (kInt .i64) (fun x : disk_sector => Value.agg #[.string x.s_, i6 x.at_]) p2 m2.wait_]) (fun w hs => sat_to [0, 0, 0, 0, 0, 0, 0] 0 rfl hs) rfl (rr_tmp rfl) ⟨p0, c0, p1, c1, p2, rfl, rfl⟩
  refine cw_cond_f rfl rfl h23 ?_
  refine cw_skip ?_
  refine ew_then ?_
  refine cw_seq ?_
  refine cw_block ?_
  refine cw_seq ?_
  refine cw_region ?_
  refine ow_vals 4 (j := 4) [0, 1, 18] [(0, pP b0), (1, .string x1), (18, .bool (decide ((x1.size : Int) > 6000)))] rfl (by kernel_rfl) ?_
  refine ow_end rfl ?_
  refine ew_then ?_
  rcases if_some hF with ⟨h24, hF⟩ | ⟨h24, hF⟩
  · refine cw_cond_t rfl rfl h24 ?_
    refine cw_seq ?_
    refine cw_region ?_
    refine ow_vals 1 (j := 1) [4] [(4, i6 3)] rfl (by kernel_rfl) ?_
    refine ow_end rfl ?_
    refine ew_then ?_
    refine cw_ret ?_
    refine ew_blk_ret ?_
    refine ew_then_ret ?_
    have hR := Option.some.inj hF
    subst hR
    exact fin1 (H1 := [imm I, o3 b0 b1 m0.base_ m0.size_ m0.next_ m0.last_ p0 m0.list_ c0 m0.sure_ m0.dead_, o1 b1 b2 m1.boot_ m1.n_, o0 b2 p1 m2.sure_ c1 p2 m2.off_ m2.armed_ m2.left_ m2.fall_.Keep m2.fall_.Tear m2.acts_ m2.falls_, own eStr 9 p0 c0 m0.list_, own e_disk_sector 51 p1 c1 m2.sure_, mpo (kInt .i64) (fun x : disk_sector => Value.agg #[.string x.s_, i6 x.at_]) p2 m2.wait_]) (fun w hs => sat_to [0, 0, 0, 0, 0, 0, 0] 0 rfl hs) rfl (rr_tmp rfl) ⟨p0, c0, p1, c1, p2, rfl, rfl⟩
  refine cw_cond_f rfl rfl h24 ?_
  refine cw_seq ?_
  refine cw_region ?_
  refine ow_vals 2 (j := 2) [0, 1, 24] [(0, pP b0), (1, .string x1), (24, i6 (x1.size : Int))] rfl (by kernel_rfl) ?_
  obtain ⟨r25, h26, hF⟩ := bind_some hF
  refine ow_pw rfl (pw_call (F := [o3 b0 b1 m0.base_ m0.size_ m0.next_ m0.last_ p0 m0.list_ c0 m0.sure_ m0.dead_, o1 b1 b2 m1.boot_ m1.n_, o0 b2 p1 m2.sure_ c1 p2 m2.off_ m2.armed_ m2.left_ m2.fall_.Keep m2.fall_.Tear m2.acts_ m2.falls_, own eStr 9 p0 c0 m0.list_, own e_disk_sector 51 p1 c1 m2.sure_, mpo (kInt .i64) (fun x : disk_sector => Value.agg #[.string x.s_, i6 x.at_]) p2 m2.wait_] ++ F0) rfl rfl rfl rfl rfl rfl rfl (by kernel_rfl) (perm_of_pulls [0] rfl) (c_journal_Need _ (x1.size : Int) r25 h26) ?_)
  rintro _ _ ⟨rfl, rfl⟩
  refine nw_H (H' := [imm I, o3 b0 b1 m0.base_ m0.size_ m0.next_ m0.last_ p0 m0.list_ c0 m0.sure_ m0.dead_, o1 b1 b2 m1.boot_ m1.n_, o0 b2 p1 m2.sure_ c1 p2 m2.off_ m2.armed_ m2.left_ m2.fall_.Keep m2.fall_.Tear m2.acts_ m2.falls_, own eStr 9 p0 c0 m0.list_, own e_disk_sector 51 p1 c1 m2.sure_, mpo (kInt .i64) (fun x : disk_sector => Value.agg #[.string x.s_, i6 x.at_]) p2 m2.wait_] ++ F0) rfl (nw_ow ?_)
  refine ow_vals 1 (j := 4) [0, 1, 25, 26] [(0, pP b0), (1, .string x1), (25, i6 r25), (26, pP b0)] rfl (by kernel_rfl) ?_
  obtain ⟨r27, h28, hF⟩ := bind_some hF
  refine ow_pw rfl (pw_call (F := [] ++ F0) rfl rfl rfl rfl rfl rfl rfl (by kernel_rfl) (perm_of_pulls [0, 0, 0, 0, 0, 0, 0] rfl) (c_journal_Journal_Left _ m0 m1 m2 p0 c0 b0 b1 p1 c1 p2 b2 r27 h28) ?_)
  rintro _ _ ⟨rfl, rfl⟩
  refine nw_H (H' := [imm I, o3 b0 b1 m0.base_ m0.size_ m0.next_ m0.last_ p0 m0.list_ c0 m0.sure_ m0.dead_, o1 b1 b2 m1.boot_ m1.n_, o0 b2 p1 m2.sure_ c1 p2 m2.off_ m2.armed_ m2.left_ m2.fall_.Keep m2.fall_.Tear m2.acts_ m2.falls_, own eStr 9 p0 c0 m0.list_, own e_disk_sector 51 p1 c1 m2.sure_, mpo (kInt .i64) (fun x : disk_sector => Value.agg #[.string x.s_, i6 x.at_]) p2 m2.wait_] ++ F0) rfl (nw_ow ?_)
  refine ow_vals 2 (j := 7) [0, 1, 22] [(0, pP b0), (1, .string x1), (22, .bool (decide (r25 > r27)))] rfl (by kernel_rfl) ?_
  refine ow_end rfl ?_
  refine ew_then ?_
  rcases if_some hF with ⟨h29, hF⟩ | ⟨h29, hF⟩
  · refine cw_cond_t rfl rfl h29 ?_
    refine cw_seq ?_
    refine cw_region ?_
    refine ow_vals 1 (j := 1) [4] [(4, i6 6)] rfl (by kernel_rfl) ?_
    refine ow_end rfl ?_
    refine ew_then ?_
    refine cw_ret ?_
    refine ew_blk_ret ?_
    refine ew_then_ret ?_
    have hR := Option.some.inj hF
    subst hR
    exact fin1 (H1 := [imm I, o3 b0 b1 m0.base_ m0.size_ m0.next_ m0.last_ p0 m0.list_ c0 m0.sure_ m0.dead_, o1 b1 b2 m1.boot_ m1.n_, o0 b2 p1 m2.sure_ c1 p2 m2.off_ m2.armed_ m2.left_ m2.fall_.Keep m2.fall_.Tear m2.acts_ m2.falls_, own eStr 9 p0 c0 m0.list_, own e_disk_sector 51 p1 c1 m2.sure_, mpo (kInt .i64) (fun x : disk_sector => Value.agg #[.string x.s_, i6 x.at_]) p2 m2.wait_]) (fun w hs => sat_to [0, 0, 0, 0, 0, 0, 0] 0 rfl hs) rfl (rr_tmp rfl) ⟨p0, c0, p1, c1, p2, rfl, rfl⟩
  refine cw_cond_f rfl rfl h29 ?_
  refine cw_skip ?_
  refine ew_blk ?_
  refine ew_then ?_
  refine cw_seq ?_
  refine cw_open 8 (SAT w0 ([imm I, o3 b0 b1 m0.base_ m0.size_ m0.next_ m0.last_ p0 m0.list_ c0 m0.sure_ m0.dead_, o1 b1 b2 m1.boot_ m1.n_, o0 b2 p1 m2.sure_ c1 p2 m2.off_ m2.armed_ m2.left_ m2.fall_.Keep m2.fall_.Tear m2.acts_ m2.falls_, own eStr 9 p0 c0 m0.list_, own e_disk_sector 51 p1 c1 m2.sure_, mpo (kInt .i64) (fun x : disk_sector => Value.agg #[.string x.s_, i6 x.at_]) p2 m2.wait_])) (by kernel_rfl) (f := 8) rfl (fun w hs => sat_drew hs) ?_
  refine aw_vals [0, 1, 2, 3, 5, 6] (f' := 2) (m' := 111) [0, 1, 6, 7, 32] [(0, pP b0), (1, .string x1), (6, .string x1), (7, i6 0), (32, .pointer (some ⟨b0, 4, none⟩))] (fun _ _ _ _ _ h => calm_fin (P := Tryz.prog) (fn := Tryz.f17) _ _ _ _ _ h) (fun w hs => sat_pulls [0, 0, 0, 0, 0, 0, 0] (G := [] ++ F0) rfl hs) rfl (by kernel_rfl) ?_
  refine aw_quiet 4 (m' := 127) (v := i6 m0.last_) 0 [] rfl rfl rfl rfl (by kernel_rfl) (by kernel_rfl) (by kernel_rfl) (fun _ _ _ _ _ h => calm_fin (P := Tryz.prog) (fn := Tryz.f17) _ _ _ _ _ h) (fun w hs => sat_pulls [0, 0, 0, 0, 0, 0, 0] (G := [] ++ F0) rfl hs) (q_load 1 rfl rfl rfl (by kernel_rfl)) ?_
  refine aw_vals [7] (f' := 0) (m' := 255) [0, 1, 6, 7, 8] [(0, pP b0), (1, .string x1), (6, .string x1), (7, i6 0), (8, i6 m0.last_)] (fun _ _ _ _ _ h => calm_fin (P := Tryz.prog) (fn := Tryz.f17) _ _ _ _ _ h) (fun w hs => sat_pulls [0, 0, 0, 0, 0, 0, 0] (G := [] ++ F0) rfl hs) rfl (by kernel_rfl) ?_
  refine aw_keep [0, 1, 6, 7, 8] (L' := [(0, pP b0), (1, .string x1), (6, .string x1), (7, i6 0), (8, i6 m0.last_)]) rfl ?_
  refine aw_end (by kernel_rfl) ?_
  refine ew_then ?_
  refine cw_seq ?_
  refine cw_open 16 (SAT w0 ([imm I, o3 b0 b1 m0.base_ m0.size_ m0.next_ m0.last_ p0 m0.list_ c0 m0.sure_ m0.dead_, o1 b1 b2 m1.boot_ m1.n_, o0 b2 p1 m2.sure_ c1 p2 m2.off_ m2.armed_ m2.left_ m2.fall_.Keep m2.fall_.Tear m2.acts_ m2.falls_, own eStr 9 p0 c0 m0.list_, own e_disk_sector 51 p1 c1 m2.sure_, mpo (kInt .i64) (fun x : disk_sector => Value.agg #[.string x.s_, i6 x.at_]) p2 m2.wait_])) (by kernel_rfl) (f := 16) rfl (fun w hs => sat_drew hs) ?_
  refine aw_vals [0, 1, 2, 3, 4, 5, 6, 9, 10, 11, 12] (f' := 5) (m' := 7807) [0, 1, 6, 7, 8, 37, 40, 43, 46] [(0, pP b0), (1, .string x1), (6, .string x1), (7, i6 0), (8, i6 m0.last_), (37, .int .u8 (IntKind.u8.wrap ((x1.size : Int).fdiv (2 ^ 8)))), (40, .int .u8 (IntKind.u8.wrap ((x1.size : Int)))), (43, .string x1), (46, i6 (if 36 < (x1.size : Int) then 36 else (x1.size : Int)))] (fun _ _ _ _ _ h => calm_fin (P := Tryz.prog) (fn := Tryz.f17) _ _ _ _ _ h) (fun w hs => sat_pulls [0, 0, 0, 0, 0, 0, 0] (G := [] ++ F0) rfl hs) rfl (by kernel_rfl) ?_
  obtain ⟨h30, hF⟩ := chk_some hF
  refine aw_pure 13 (m' := 15999) (v := .string (x1.extract (0 : Int).toNat (if 36 < (x1.size : Int) then 36 else (x1.size : Int)).toNat)) rfl rfl rfl rfl (by kernel_rfl) (by kernel_rfl) (fun _ _ _ _ _ h => calm_fin (P := Tryz.prog) (fn := Tryz.f17) _ _ _ _ _ h) (fun w hs => sat_pulls [0, 0, 0, 0, 0, 0, 0] (G := [] ++ F0) rfl hs) (q_slice_str rfl (by kernel_rfl) rfl rfl rfl h30.1 h30.2.1 h30.2.2) ?_
  refine aw_only 7 (m' := 16127) (by kernel_rfl) (by kernel_rfl) (pw_buildSlice (E := 5) (eInt .u8) ([IntKind.u8.wrap ((x1.size : Int).fdiv (2 ^ 8)), IntKind.u8.wrap ((x1.size : Int))] : List Int) rfl rfl rfl rfl rfl (by kernel_rfl) rfl (by kernel_rfl) rfl (by decide) rfl fun p31 => aw_next (fun w hs => sat_pulls [1, 1, 1, 1, 1, 1, 1] (G := [own (eInt .u8) 5 p31 2 ([IntKind.u8.wrap ((x1.size : Int).fdiv (2 ^ 8)), IntKind.u8.wrap ((x1.size : Int))] : List Int)] ++ F0) rfl hs) ?_)
  refine aw_only 8 (m' := 16383) (by kernel_rfl) (by kernel_rfl) (pw_quiet (v := .string (bstr ([IntKind.u8.wrap ((x1.size : Int).fdiv (2 ^ 8)), IntKind.u8.wrap ((x1.size : Int))] : List Int))) rfl rfl rfl rfl (q_bytes_str_own 0 rfl rfl (by kernel_rfl) (by kernel_rfl) rfl) (aw_next (fun w hs => sat_pulls [1, 1, 1, 1, 1, 1, 1] (G := [own (eInt .u8) 5 p31 2 ([IntKind.u8.wrap ((x1.size : Int).fdiv (2 ^ 8)), IntKind.u8.wrap ((x1.size : Int))] : List Int)] ++ F0) rfl hs) ?_))
  obtain ⟨h33, hF⟩ := chk_some hF
  refine aw_pure 14 (m' := 32767) (v := .string ((bstr ([IntKind.u8.wrap ((x1.size : Int).fdiv (2 ^ 8)), IntKind.u8.wrap ((x1.size : Int))] : List Int)) ++ (x1.extract (0 : Int).toNat (if 36 < (x1.size : Int) then 36 else (x1.size : Int)).toNat))) rfl rfl rfl rfl (by kernel_rfl) (by kernel_rfl) (fun _ _ _ _ _ h => calm_fin (P := Tryz.prog) (fn := Tryz.f17) _ _ _ _ _ h) (fun w hs => sat_pulls [1, 1, 1, 1, 1, 1, 1] (G := [own (eInt .u8) 5 p31 2 ([IntKind.u8.wrap ((x1.size : Int).fdiv (2 ^ 8)), IntKind.u8.wrap ((x1.size : Int))] : List Int)] ++ F0) rfl hs) (q_concat rfl rfl rfl h33) ?_
  refine aw_vals [15] (f' := 0) (m' := 65535) [0, 1, 6, 7, 8, 9] [(0, pP b0), (1, .string x1), (6, .string x1), (7, i6 0), (8, i6 m0.last_), (9, .string ((bstr ([IntKind.u8.wrap ((x1.size : Int).fdiv (2 ^ 8)), IntKind.u8.wrap ((x1.size : Int))] : List Int)) ++ (x1.extract (0 : Int).toNat (if 36 < (x1.size : Int) then 36 else (x1.size : Int)).toNat)))] (fun _ _ _ _ _ h => calm_fin (P := Tryz.prog) (fn := Tryz.f17) _ _ _ _ _ h) (fun w hs => sat_pulls [1, 1, 1, 1, 1, 1, 1] (G := [own (eInt .u8) 5 p31 2 ([IntKind.u8.wrap ((x1.size : Int).fdiv (2 ^ 8)), IntKind.u8.wrap ((x1.size : Int))] : List Int)] ++ F0) rfl hs) rfl (by kernel_rfl) ?_
  refine aw_keep [0, 1, 6, 7, 8, 9] (L' := [(0, pP b0), (1, .string x1), (6, .string x1), (7, i6 0), (8, i6 m0.last_), (9, .string ((bstr ([IntKind.u8.wrap ((x1.size : Int).fdiv (2 ^ 8)), IntKind.u8.wrap ((x1.size : Int))] : List Int)) ++ (x1.extract (0 : Int).toNat (if 36 < (x1.size : Int) then 36 else (x1.size : Int)).toNat)))]) rfl ?_
  refine aw_end (by kernel_rfl) ?_
  refine ew_then ?_
  refine cw_seq ?_
  refine cw_region ?_
  refine ow_vals 4 (j := 4) [0, 6, 7, 8, 9, 49, 52] [(0, pP b0), (6, .string x1), (7, i6 0), (8, i6 m0.last_), (9, .string ((bstr ([IntKind.u8.wrap ((x1.size : Int).fdiv (2 ^ 8)), IntKind.u8.wrap ((x1.size : Int))] : List Int)) ++ (x1.extract (0 : Int).toNat (if 36 < (x1.size : Int) then 36 else (x1.size : Int)).toNat))), (49, .string x1), (52, i6 (if 36 < (x1.size : Int) then 36 else (x1.size : Int)))] rfl (by kernel_rfl) ?_
  obtain ⟨h34, hF⟩ := chk_some hF
  refine ow_pw rfl (pw_quiet (v := .string (x1.extract (if 36 < (x1.size : Int) then 36 else (x1.size : Int)).toNat (x1.size : Int).toNat)) rfl rfl rfl rfl (q_slice_str rfl (by kernel_rfl) rfl rfl rfl h34.1 h34.2.1 h34.2.2) (nw_ow ?_))
  refine ow_vals 1 (j := 6) [0, 1, 6, 7, 8, 9] [(0, pP b0), (1, .string (x1.extract (if 36 < (x1.size : Int) then 36 else (x1.size : Int)).toNat (x1.size : Int).toNat)), (6, .string x1), (7, i6 0), (8, i6 m0.last_), (9, .string ((bstr ([IntKind.u8.wrap ((x1.size : Int).fdiv (2 ^ 8)), IntKind.u8.wrap ((x1.size : Int))] : List Int)) ++ (x1.extract (0 : Int).toNat (if 36 < (x1.size : Int) then 36 else (x1.size : Int)).toNat)))] rfl (by kernel_rfl) ?_
  refine ow_end rfl ?_
  refine ew_then ?_
  refine cw_seq ?_
  refine cw_region ?_
  refine ow_vals 1 (j := 1) [0, 1, 6, 7, 8, 9, 10] [(0, pP b0), (1, .string (x1.extract (if 36 < (x1.size : Int) then 36 else (x1.size : Int)).toNat (x1.size : Int).toNat)), (6, .string x1), (7, i6 0), (8, i6 m0.last_), (9, .string ((bstr ([IntKind.u8.wrap ((x1.size : Int).fdiv (2 ^ 8)), IntKind.u8.wrap ((x1.size : Int))] : List Int)) ++ (x1.extract (0 : Int).toNat (if 36 < (x1.size : Int) then 36 else (x1.size : Int)).toNat))), (10, .int .u8 1)] rfl (by kernel_rfl) ?_
  refine ow_end rfl ?_
  refine ew_then ?_
  obtain ⟨v35, hF, hK35⟩ := thru_some hF
  refine cw_mid (fun a w => ∃ (x79 : Int), ∃ (x80 : Int), ∃ (x81 : Int), ∃ (x82 : Int), ∃ (l83 : List disk_sector), ∃ (l87 : List (Int × disk_sector)), ∃ (x90 : Bool), ∃ (x91 : Bool), ∃ (x92 : Int), ∃ (x93 : Int), ∃ (x94 : Int), ∃ (x95 : Int), ∃ (x96 : Int), ∃ (p84 : Option Addr), ∃ (c85 : Nat), ∃ (b89 : Nat), .inl (x79, x80, x81, x82, l83, l87, x90, x91, x92, x93, x94, x95, x96) = v35 ∧ Fr 123 [(0, pP b0), (6, .string x1), (7, i6 x79), (8, i6 x80)] a ∧ SAT w0 ([imm I, o1 b1 b2 x81 x82, o0 b2 p84 l83 c85 b89 x90 x91 x92 x93 x94 x95 x96, o3 b0 b1 m0.base_ m0.size_ m0.next_ m0.last_ p0 m0.list_ c0 m0.sure_ m0.dead_, own e_disk_sector 51 p84 c85 l83, mpo (kInt .i64) (fun x : disk_sector => Value.agg #[.string x.s_, i6 x.at_]) b89 l87, own eStr 9 p0 c0 m0.list_] ++ F0) w) ?_ ?_
  · refine cw_block ?_
    refine fun a w hf hs => wp_rounds (fun k a w => ∃ (s37 : ByteArray), ∃ (x38 : Int), ∃ (x39 : Int), ∃ (s40 : ByteArray), ∃ (x41 : Int), ∃ (x42 : Int), ∃ (x43 : Int), ∃ (l44 : List disk_sector), ∃ (l48 : List (Int × disk_sector)), ∃ (x51 : Bool), ∃ (x52 : Bool), ∃ (x53 : Int), ∃ (x54 : Int), ∃ (x55 : Int), ∃ (x56 : Int), ∃ (x57 : Int), ∃ (p45 : Option Addr), ∃ (c46 : Nat), ∃ (b50 : Nat), iter (fun x => F.journal_Journal_Append.l1 m0 x.1 x.2.1 x.2.2.1 x.2.2.2.1 x.2.2.2.2.1 x.2.2.2.2.2.1 x.2.2.2.2.2.2.1 x.2.2.2.2.2.2.2.1 x.2.2.2.2.2.2.2.2.1 x.2.2.2.2.2.2.2.2.2.1 x.2.2.2.2.2.2.2.2.2.2.1 x.2.2.2.2.2.2.2.2.2.2.2.1 x.2.2.2.2.2.2.2.2.2.2.2.2.1 x.2.2.2.2.2.2.2.2.2.2.2.2.2.1 x.2.2.2.2.2.2.2.2.2.2.2.2.2.2.1 x.2.2.2.2.2.2.2.2.2.2.2.2.2.2.2) k (s37, x38, x39, s40, x41, x42, x43, l44, l48, x51, x52, x53, x54, x55, x56, x57) = some v35 ∧ Fr 123 [(0, pP b0), (1, .string s37), (6, .string x1), (7, i6 x38), (8, i6 x39), (9, .string s40), (10, .int .u8 x41)] a ∧ SAT w0 ([imm I, o3 b0 b1 m0.base_ m0.size_ m0.next_ m0.last_ p0 m0.list_ c0 m0.sure_ m0.dead_, o1 b1 b2 x42 x43, o0 b2 p45 l44 c46 b50 x51 x52 x53 x54 x55 x56 x57, own eStr 9 p0 c0 m0.list_, own e_disk_sector 51 p45 c46 l44, mpo (kInt .i64) (fun x : disk_sector => Value.agg #[.string x.s_, i6 x.at_]) b50 l48] ++ F0) w) ?_ FUEL a w ⟨x1.extract (if 36 < (x1.size : Int) then 36 else (x1.size : Int)).toNat (x1.size : Int).toNat, 0, m0.last_, (bstr ([IntKind.u8.wrap ((x1.size : Int).fdiv (2 ^ 8)), IntKind.u8.wrap ((x1.size : Int))] : List Int)) ++ (x1.extract (0 : Int).toNat (if 36 < (x1.size : Int) then 36 else (x1.size : Int)).toNat), 1, m1.boot_, m1.n_, m2.sure_, m2.wait_, m2.off_, m2.armed_, m2.left_, m2.fall_.Keep, m2.fall_.Tear, m2.acts_, m2.falls_, p1, c1, p2, hF, hf.keep [0, 1, 6, 7, 8, 9, 10], sat_to [0, 0, 0, 0, 0, 0, 0, 0] 1 rfl hs⟩
    clear hf hs
    clear a w hF
    rintro k a w ⟨s37, x38, x39, s40, x41, x42, x43, l44, l48, x51, x52, x53, x54, x55, x56, x57, p45, c46, b50, hF2, hf, hs⟩
    obtain ⟨k, r36, rfl, hF, hL36⟩ := iter_some hF2
    clear hF2
    revert a w
    show CW _ _ _ 123 [(0, pP b0), (1, .string s37), (6, .string x1), (7, i6 x38), (8, i6 x39), (9, .string s40), (10, .int .u8 x41)] (SAT w0 ([imm I, o3 b0 b1 m0.base_ m0.size_ m0.next_ m0.last_ p0 m0.list_ c0 m0.sure_ m0.dead_, o1 b1 b2 x42 x43, o0 b2 p45 l44 c46 b50 x51 x52 x53 x54 x55 x56 x57, own eStr 9 p0 c0 m0.list_, own e_disk_sector 51 p45 c46 l44, mpo (kInt .i64) (fun x : disk_sector => Value.agg #[.string x.s_, i6 x.at_]) b50 l48] ++ F0))
    try dsimp only at hF
    unfold F.journal_Journal_Append.l1 at hF
    refine cw_block ?_
    refine cw_seq ?_
    refine cw_open 23 (SAT w0 ([imm I, o3 b0 b1 m0.base_ m0.size_ m0.next_ m0.last_ p0 m0.list_ c0 m0.sure_ m0.dead_, o1 b1 b2 x42 x43, o0 b2 p45 l44 c46 b50 x51 x52 x53 x54 x55 x56 x57, own eStr 9 p0 c0 m0.list_, own e_disk_sector 51 p45 c46 l44, mpo (kInt .i64) (fun x : disk_sector => Value.agg #[.string x.s_, i6 x.at_]) b50 l48])) (by kernel_rfl) (f := 29) rfl (fun w hs => sat_drew hs) ?_
    refine aw_vals [0, 1, 2, 4, 5, 6, 8, 9, 10, 13, 15, 18, 21] (f' := 16) (m' := 2402167) [0, 1, 6, 7, 57, 61, 65, 68, 70, 73, 76] [(0, pP b0), (1, .string s37), (6, .string x1), (7, i6 x38), (57, pP b0), (61, .pointer (some ⟨b0, 1, none⟩)), (65, .pointer (some ⟨b0, 3, none⟩)), (68, i6 x38), (70, .int .u8 x41), (73, i6 x39), (76, .string s40)] (fun _ _ _ _ _ h => calm_fin (P := Tryz.prog) (fn := Tryz.f17) _ _ _ _ _ h) (fun w hs => sat_pulls [0, 0, 0, 0, 0, 0, 0] (G := [] ++ F0) rfl hs) rfl (by kernel_rfl) ?_
    refine aw_quiet 3 (m' := 2402175) (v := pP b1) 3 [] rfl rfl rfl rfl (by kernel_rfl) (by kernel_rfl) (by kernel_rfl) (fun _ _ _ _ _ h => calm_fin (P := Tryz.prog) (fn := Tryz.f17) _ _ _ _ _ h) (fun w hs => sat_pulls [0, 0, 0, 0, 0, 0, 0] (G := [] ++ F0) rfl hs) (q_load 1 rfl rfl rfl (by kernel_rfl)) ?_
    refine aw_quiet 7 (m' := 2402303) (v := i6 m0.base_) 14 [12, 7] rfl rfl rfl rfl (by kernel_rfl) (by kernel_rfl) (by kernel_rfl) (fun _ _ _ _ _ h => calm_fin (P := Tryz.prog) (fn := Tryz.f17) _ _ _ _ _ h) (fun w hs => sat_pulls [0, 0, 0, 0, 0, 0, 0] (G := [] ++ F0) rfl hs) (q_load 1 rfl rfl rfl (by kernel_rfl)) ?_
    refine aw_quiet 11 (m' := 2404351) (v := i6 m0.next_) 14 [12, 11] rfl rfl rfl rfl (by kernel_rfl) (by kernel_rfl) (by kernel_rfl) (fun _ _ _ _ _ h => calm_fin (P := Tryz.prog) (fn := Tryz.f17) _ _ _ _ _ h) (fun w hs => sat_pulls [0, 0, 0, 0, 0, 0, 0] (G := [] ++ F0) rfl hs) (q_load 1 rfl rfl rfl (by kernel_rfl)) ?_
    refine aw_vals [12, 14] (f' := 11) (m' := 2424831) [0, 1, 6, 7, 58, 69, 70, 73, 76] [(0, pP b0), (1, .string s37), (6, .string x1), (7, i6 x38), (58, pP b1), (69, i6 (IntKind.i64.wrap ((IntKind.i64.wrap (m0.base_ + m0.next_)) + x38))), (70, .int .u8 x41), (73, i6 x39), (76, .string s40)] (fun _ _ _ _ _ h => calm_fin (P := Tryz.prog) (fn := Tryz.f17) _ _ _ _ _ h) (fun w hs => sat_pulls [0, 0, 0, 0, 0, 0, 0] (G := [] ++ F0) rfl hs) rfl (by kernel_rfl) ?_
    obtain ⟨r60, h61, hF⟩ := bind_some hF
    obtain ⟨h62, hF⟩ := chk_some hF
    obtain ⟨h63, hF⟩ := chk_some hF
    obtain ⟨r64, h65, hF⟩ := bind_some hF
    refine aw_two 16 19 (mi := 2490367) (mj := 2949119) (by kernel_rfl) (by kernel_rfl) (by kernel_rfl) ?_ ?_
    · refine pw_buildSlice (E := 5) (eInt .u8) ([x41] : List Int) rfl rfl rfl rfl rfl (by kernel_rfl) rfl (by kernel_rfl) rfl (by decide) rfl fun p68 => aw_next (fun w hs => sat_pulls [1, 1, 1, 1, 1, 1, 1] (G := [own (eInt .u8) 5 p68 1 ([x41] : List Int)] ++ F0) rfl hs) ?_
      refine aw_two 17 19 (mi := 2621439) (mj := 3014655) (by kernel_rfl) (by kernel_rfl) (by kernel_rfl) ?_ ?_
      · refine pw_quiet (v := .string (bstr ([x41] : List Int))) rfl rfl rfl rfl (q_bytes_str_own 0 rfl rfl (by kernel_rfl) (by kernel_rfl) rfl) (aw_next (fun w hs => sat_pulls [1, 1, 1, 1, 1, 1, 1] (G := [own (eInt .u8) 5 p68 1 ([x41] : List Int)] ++ F0) rfl hs) ?_)
        refine aw_only 19 (m' := 3145727) (by kernel_rfl) (by kernel_rfl) (pw_call (F := [own (eInt .u8) 5 p68 1 ([x41] : List Int), o3 b0 b1 m0.base_ m0.size_ m0.next_ m0.last_ p0 m0.list_ c0 m0.sure_ m0.dead_, o1 b1 b2 x42 x43, o0 b2 p45 l44 c46 b50 x51 x52 x53 x54 x55 x56 x57, own eStr 9 p0 c0 m0.list_, own e_disk_sector 51 p45 c46 l44, mpo (kInt .i64) (fun x : disk_sector => Value.agg #[.string x.s_, i6 x.at_]) b50 l48] ++ F0) rfl rfl rfl rfl rfl rfl rfl (by kernel_rfl) (perm_of_pulls [1] rfl) (c_guard_Eight _ x39 r60 h61) ?_)
        rintro _ _ ⟨rfl, rfl⟩
        refine nw_H (H' := [imm I, own (eInt .u8) 5 p68 1 ([x41] : List Int), o3 b0 b1 m0.base_ m0.size_ m0.next_ m0.last_ p0 m0.list_ c0 m0.sure_ m0.dead_, o1 b1 b2 x42 x43, o0 b2 p45 l44 c46 b50 x51 x52 x53 x54 x55 x56 x57, own eStr 9 p0 c0 m0.list_, own e_disk_sector 51 p45 c46 l44, mpo (kInt .i64) (fun x : disk_sector => Value.agg #[.string x.s_, i6 x.at_]) b50 l48] ++ F0) rfl (aw_next (fun w hs => sat_pulls [0, 1, 1, 1, 1, 1, 1] (G := [own (eInt .u8) 5 p68 1 ([x41] : List Int)] ++ F0) rfl hs) ?_)
        refine aw_pure 20 (m' := 4194303) (v := .string ((bstr ([x41] : List Int)) ++ r60)) rfl rfl rfl rfl (by kernel_rfl) (by kernel_rfl) (fun _ _ _ _ _ h => calm_fin (P := Tryz.prog) (fn := Tryz.f17) _ _ _ _ _ h) (fun w hs => sat_pulls [0, 1, 1, 1, 1, 1, 1] (G := [own (eInt .u8) 5 p68 1 ([x41] : List Int)] ++ F0) rfl hs) (q_concat rfl rfl rfl h62) ?_
        refine aw_pure 22 (m' := 8388607) (v := .string (((bstr ([x41] : List Int)) ++ r60) ++ s40)) rfl rfl rfl rfl (by kernel_rfl) (by kernel_rfl) (fun _ _ _ _ _ h => calm_fin (P := Tryz.prog) (fn := Tryz.f17) _ _ _ _ _ h) (fun w hs => sat_pulls [0, 1, 1, 1, 1, 1, 1] (G := [own (eInt .u8) 5 p68 1 ([x41] : List Int)] ++ F0) rfl hs) (q_concat rfl rfl rfl h63) ?_
        refine aw_only 23 (m' := 16777215) (by kernel_rfl) (by kernel_rfl) (pw_call (F := [own (eInt .u8) 5 p68 1 ([x41] : List Int), o3 b0 b1 m0.base_ m0.size_ m0.next_ m0.last_ p0 m0.list_ c0 m0.sure_ m0.dead_, own eStr 9 p0 c0 m0.list_] ++ F0) rfl rfl rfl rfl rfl rfl rfl (by kernel_rfl) (perm_of_pulls [0, 2, 2, 3, 3] rfl) (c_guard_Guard_Put _ (IntKind.i64.wrap ((IntKind.i64.wrap (m0.base_ + m0.next_)) + x38)) (((bstr ([x41] : List Int)) ++ r60) ++ s40) (⟨x42, x43⟩ : guard_Guard) (⟨l44, l48, x51, x52, x53, (⟨x54, x55⟩ : disk_Fall), x56, x57⟩ : disk_Disk) b1 p45 c46 b50 b2 r64 h65) ?_)
        rintro _ _ ⟨r64_p1, r64_c2, r64_b4, rfl, rfl⟩
        refine nw_H (H' := [imm I, o1 b1 b2 r64.2.2.1.boot_ r64.2.2.1.n_, o0 b2 r64_p1 r64.2.2.2.sure_ r64_c2 r64_b4 r64.2.2.2.off_ r64.2.2.2.armed_ r64.2.2.2.left_ r64.2.2.2.fall_.Keep r64.2.2.2.fall_.Tear r64.2.2.2.acts_ r64.2.2.2.falls_, own e_disk_sector 51 r64_p1 r64_c2 r64.2.2.2.sure_, mpo (kInt .i64) (fun x : disk_sector => Value.agg #[.string x.s_, i6 x.at_]) r64_b4 r64.2.2.2.wait_, own (eInt .u8) 5 p68 1 ([x41] : List Int), o3 b0 b1 m0.base_ m0.size_ m0.next_ m0.last_ p0 m0.list_ c0 m0.sure_ m0.dead_, own eStr 9 p0 c0 m0.list_] ++ F0) rfl (aw_last (by kernel_rfl) ?_)
        refine aw_past (by kernel_rfl) ?_
        refine aw_vals [24, 25, 26, 27, 28] (f' := 0) (m' := 536870911) [0, 1, 6, 7, 11, 12] [(0, pP b0), (1, .string s37), (6, .string x1), (7, i6 x38), (11, i6 r64.1), (12, i6 r64.2.1)] (fun _ _ _ _ _ h => calm_fin (P := Tryz.prog) (fn := Tryz.f17) _ _ _ _ _ h) (fun _ _ => trivial) rfl (by kernel_rfl) ?_
        refine aw_keep [0, 1, 6, 7, 11, 12] (L' := [(0, pP b0), (1, .string s37), (6, .string x1), (7, i6 x38), (11, i6 r64.1), (12, i6 r64.2.1)]) rfl ?_
        refine aw_end (by kernel_rfl) ?_
        refine ew_then ?_
        refine cw_seq ?_
        refine cw_seq ?_
        refine cw_region ?_
        refine ow_vals 2 (j := 2) [0, 1, 6, 7, 11, 12, 82] [(0, pP b0), (1, .string s37), (6, .string x1), (7, i6 x38), (11, i6 r64.1), (12, i6 r64.2.1), (82, .bool (r64.2.1 != 0))] rfl (by kernel_rfl) ?_
        refine ow_end rfl ?_
        refine ew_then ?_
        rcases if_some hF with ⟨h72, hF⟩ | ⟨h72, hF⟩
        · refine cw_cond_t rfl rfl h72 ?_
          refine cw_seq ?_
          refine cw_region ?_
          refine ow_vals 2 (j := 2) [83, 84] [(83, pP b0), (84, i6 r64.2.1)] rfl (by kernel_rfl) ?_
          obtain ⟨r73, h74, hF⟩ := bind_some hF
          refine ow_pw rfl (pw_call (F := [own (eInt .u8) 5 p68 1 ([x41] : List Int)] ++ F0) rfl rfl rfl rfl rfl rfl rfl (by kernel_rfl) (perm_of_pulls [0, 5, 0, 0, 3, 0, 0] rfl) (c_journal_Journal_fall _ r64.2.1 m0 r64.2.2.1 r64.2.2.2 p0 c0 b0 b1 r64_p1 r64_c2 r64_b4 b2 r73 h74) ?_)
          rintro _ _ ⟨r73_p1, r73_c2, rfl, rfl⟩
          refine nw_H (H' := [imm I, o3 b0 b1 r73.2.base_ r73.2.size_ r73.2.next_ r73.2.last_ r73_p1 r73.2.list_ r73_c2 r73.2.sure_ r73.2.dead_, o1 b1 b2 r64.2.2.1.boot_ r64.2.2.1.n_, o0 b2 r64_p1 r64.2.2.2.sure_ r64_c2 r64_b4 r64.2.2.2.off_ r64.2.2.2.armed_ r64.2.2.2.left_ r64.2.2.2.fall_.Keep r64.2.2.2.fall_.Tear r64.2.2.2.acts_ r64.2.2.2.falls_, own eStr 9 r73_p1 r73_c2 r73.2.list_, own e_disk_sector 51 r64_p1 r64_c2 r64.2.2.2.sure_, mpo (kInt .i64) (fun x : disk_sector => Value.agg #[.string x.s_, i6 x.at_]) r64_b4 r64.2.2.2.wait_, own (eInt .u8) 5 p68 1 ([x41] : List Int)] ++ F0) rfl (nw_ow ?_)
          refine ow_vals 1 (j := 4) [4] [(4, i6 r73.1)] rfl (by kernel_rfl) ?_
          refine ow_end rfl ?_
          refine ew_then ?_
          refine cw_ret ?_
          refine ew_then_ret ?_
          refine ew_blk_ret ?_
          refine ew_then_ret ?_
          refine ew_blk_ret ?_
          refine ew_then_ret ?_
          have hR := Option.some.inj hF
          subst hR
          have hR := hL36
          try dsimp only at hR
          subst hR
          have hR := hK35
          try dsimp only [Thru] at hR
          subst hR
          exact fin1 (H1 := [imm I, o3 b0 b1 r73.2.base_ r73.2.size_ r73.2.next_ r73.2.last_ r73_p1 r73.2.list_ r73_c2 r73.2.sure_ r73.2.dead_, o1 b1 b2 r64.2.2.1.boot_ r64.2.2.1.n_, o0 b2 r64_p1 r64.2.2.2.sure_ r64_c2 r64_b4 r64.2.2.2.off_ r64.2.2.2.armed_ r64.2.2.2.left_ r64.2.2.2.fall_.Keep r64.2.2.2.fall_.Tear r64.2.2.2.acts_ r64.2.2.2.falls_, own eStr 9 r73_p1 r73_c2 r73.2.list_, own e_disk_sector 51 r64_p1 r64_c2 r64.2.2.2.sure_, mpo (kInt .i64) (fun x : disk_sector => Value.agg #[.string x.s_, i6 x.at_]) r64_b4 r64.2.2.2.wait_]) (fun w hs => sat_to [7, 0, 0, 0, 0, 0, 0, 0] 1 rfl hs) rfl (rr_tmp rfl) ⟨r73_p1, r73_c2, r64_p1, r64_c2, r64_b4, rfl, rfl⟩
        refine cw_cond_f rfl rfl h72 ?_
        refine cw_skip ?_
        refine ew_then ?_
        refine cw_seq ?_
        refine cw_region ?_
        refine ow_vals 5 (j := 5) [0, 1, 6, 7, 8] [(0, pP b0), (1, .string s37), (6, .string x1), (7, i6 (IntKind.i64.wrap (x38 + 1))), (8, i6 r64.1)] rfl (by kernel_rfl) ?_
        refine ow_end rfl ?_
        refine ew_then ?_
        refine cw_seq ?_
        refine cw_seq ?_
        refine cw_region ?_
        refine ow_vals 2 (j := 2) [0, 1, 6, 7, 8, 90] [(0, pP b0), (1, .string s37), (6, .string x1), (7, i6 (IntKind.i64.wrap (x38 + 1))), (8, i6 r64.1), (90, .bool (seqB s37 (ByteArray.mk #[])))] rfl (by kernel_rfl) ?_
        refine ow_end rfl ?_
        refine ew_then ?_
        rcases if_some hF with ⟨h76, hF⟩ | ⟨h76, hF⟩
        · refine cw_cond_t rfl rfl h76 ?_
          refine cw_exit ?_
          refine ew_then_exit ?_
          refine ew_blk_other (by decide) ?_
          refine ew_then_exit ?_
          refine ew_blk_exit ?_
          have hR := Option.some.inj hF
          subst hR
          have hR := hL36
          try dsimp only at hR
          exact fun a w hf hs => ⟨IntKind.i64.wrap (x38 + 1), r64.1, r64.2.2.1.boot_, r64.2.2.1.n_, r64.2.2.2.sure_, r64.2.2.2.wait_, r64.2.2.2.off_, r64.2.2.2.armed_, r64.2.2.2.left_, r64.2.2.2.fall_.Keep, r64.2.2.2.fall_.Tear, r64.2.2.2.acts_, r64.2.2.2.falls_, r64_p1, r64_c2, r64_b4, hR, hf.keep [0, 6, 7, 8], sat_to [5, 0, 0, 0, 2, 0, 0, 0] 1 rfl hs⟩
        refine cw_cond_f rfl rfl h76 ?_
        refine cw_skip ?_
        refine ew_then ?_
        refine cw_seq ?_
        refine cw_open 7 (SAT w0 ([imm I, o1 b1 b2 r64.2.2.1.boot_ r64.2.2.1.n_, o0 b2 r64_p1 r64.2.2.2.sure_ r64_c2 r64_b4 r64.2.2.2.off_ r64.2.2.2.armed_ r64.2.2.2.left_ r64.2.2.2.fall_.Keep r64.2.2.2.fall_.Tear r64.2.2.2.acts_ r64.2.2.2.falls_, own e_disk_sector 51 r64_p1 r64_c2 r64.2.2.2.sure_, mpo (kInt .i64) (fun x : disk_sector => Value.agg #[.string x.s_, i6 x.at_]) r64_b4 r64.2.2.2.wait_, own (eInt .u8) 5 p68 1 ([x41] : List Int), o3 b0 b1 m0.base_ m0.size_ m0.next_ m0.last_ p0 m0.list_ c0 m0.sure_ m0.dead_, own eStr 9 p0 c0 m0.list_])) (by kernel_rfl) (f := 7) rfl (fun w hs => sat_drew hs) ?_
        refine aw_vals [0, 1, 2, 3, 5] (f' := 2) (m' := 47) [0, 1, 6, 7, 8, 10, 91, 94] [(0, pP b0), (1, .string s37), (6, .string x1), (7, i6 (IntKind.i64.wrap (x38 + 1))), (8, i6 r64.1), (10, .int .u8 2), (91, .string s37), (94, i6 (if 38 < (s37.size : Int) then 38 else (s37.size : Int)))] (fun _ _ _ _ _ h => calm_fin (P := Tryz.prog) (fn := Tryz.f17) _ _ _ _ _ h) (fun w hs => sat_pulls [0, 0, 0, 0, 0, 0, 0, 0] (G := [] ++ F0) rfl hs) rfl (by kernel_rfl) ?_
        obtain ⟨h77, hF⟩ := chk_some hF
        refine aw_pure 4 (m' := 63) (v := .string (s37.extract (0 : Int).toNat (if 38 < (s37.size : Int) then 38 else (s37.size : Int)).toNat)) rfl rfl rfl rfl (by kernel_rfl) (by kernel_rfl) (fun _ _ _ _ _ h => calm_fin (P := Tryz.prog) (fn := Tryz.f17) _ _ _ _ _ h) (fun w hs => sat_pulls [0, 0, 0, 0, 0, 0, 0, 0] (G := [] ++ F0) rfl hs) (q_slice_str rfl (by kernel_rfl) rfl rfl rfl h77.1 h77.2.1 h77.2.2) ?_
        refine aw_vals [6] (f' := 0) (m' := 127) [0, 1, 6, 7, 8, 9, 10] [(0, pP b0), (1, .string s37), (6, .string x1), (7, i6 (IntKind.i64.wrap (x38 + 1))), (8, i6 r64.1), (9, .string (s37.extract (0 : Int).toNat (if 38 < (s37.size : Int) then 38 else (s37.size : Int)).toNat)), (10, .int .u8 2)] (fun _ _ _ _ _ h => calm_fin (P := Tryz.prog) (fn := Tryz.f17) _ _ _ _ _ h) (fun w hs => sat_pulls [0, 0, 0, 0, 0, 0, 0, 0] (G := [] ++ F0) rfl hs) rfl (by kernel_rfl) ?_
        refine aw_keep [0, 1, 6, 7, 8, 9, 10] (L' := [(0, pP b0), (1, .string s37), (6, .string x1), (7, i6 (IntKind.i64.wrap (x38 + 1))), (8, i6 r64.1), (9, .string (s37.extract (0 : Int).toNat (if 38 < (s37.size : Int) then 38 else (s37.size : Int)).toNat)), (10, .int .u8 2)]) rfl ?_
        refine aw_end (by kernel_rfl) ?_
        refine ew_then ?_
        refine cw_region ?_
        refine ow_vals 3 (j := 3) [0, 6, 7, 8, 9, 10, 96, 98] [(0, pP b0), (6, .string x1), (7, i6 (IntKind.i64.wrap (x38 + 1))), (8, i6 r64.1), (9, .string (s37.extract (0 : Int).toNat (if 38 < (s37.size : Int) then 38 else (s37.size : Int)).toNat)), (10, .int .u8 2), (96, .string s37), (98, i6 ((s37.extract (0 : Int).toNat (if 38 < (s37.size : Int) then 38 else (s37.size : Int)).toNat).size : Int))] rfl (by kernel_rfl) ?_
        obtain ⟨h78, hF⟩ := chk_some hF
        refine ow_pw rfl (pw_quiet (v := .string (s37.extract ((s37.extract (0 : Int).toNat (if 38 < (s37.size : Int) then 38 else (s37.size : Int)).toNat).size : Int).toNat (s37.size : Int).toNat)) rfl rfl rfl rfl (q_slice_str rfl (by kernel_rfl) rfl rfl rfl h78.1 h78.2.1 h78.2.2) (nw_ow ?_))
        refine ow_vals 1 (j := 5) [0, 1, 6, 7, 8, 9, 10] [(0, pP b0), (1, .string (s37.extract ((s37.extract (0 : Int).toNat (if 38 < (s37.size : Int) then 38 else (s37.size : Int)).toNat).size : Int).toNat (s37.size : Int).toNat)), (6, .string x1), (7, i6 (IntKind.i64.wrap (x38 + 1))), (8, i6 r64.1), (9, .string (s37.extract (0 : Int).toNat (if 38 < (s37.size : Int) then 38 else (s37.size : Int)).toNat)), (10, .int .u8 2)] rfl (by kernel_rfl) ?_
        refine ow_end rfl ?_
        refine ew_blk ?_
        have hR := Option.some.inj hF
        subst hR
        have hR := hL36
        try dsimp only at hR
        exact fun a w hf hs => ⟨k, Nat.lt_succ_self k, s37.extract ((s37.extract (0 : Int).toNat (if 38 < (s37.size : Int) then 38 else (s37.size : Int)).toNat).size : Int).toNat (s37.size : Int).toNat, IntKind.i64.wrap (x38 + 1), r64.1, s37.extract (0 : Int).toNat (if 38 < (s37.size : Int) then 38 else (s37.size : Int)).toNat, 2, r64.2.2.1.boot_, r64.2.2.1.n_, r64.2.2.2.sure_, r64.2.2.2.wait_, r64.2.2.2.off_, r64.2.2.2.armed_, r64.2.2.2.left_, r64.2.2.2.fall_.Keep, r64.2.2.2.fall_.Tear, r64.2.2.2.acts_, r64.2.2.2.falls_, r64_p1, r64_c2, r64_b4, hR, hf.keep [0, 1, 6, 7, 8, 9, 10], sat_to [5, 0, 4, 0, 0, 2, 0, 0] 1 rfl hs⟩
      refine pw_call (F := [own (eInt .u8) 5 p68 1 ([x41] : List Int), o3 b0 b1 m0.base_ m0.size_ m0.next_ m0.last_ p0 m0.list_ c0 m0.sure_ m0.dead_, o1 b1 b2 x42 x43, o0 b2 p45 l44 c46 b50 x51 x52 x53 x54 x55 x56 x57, own eStr 9 p0 c0 m0.list_, own e_disk_sector 51 p45 c46 l44, mpo (kInt .i64) (fun x : disk_sector => Value.agg #[.string x.s_, i6 x.at_]) b50 l48] ++ F0) rfl rfl rfl rfl rfl rfl rfl (by kernel_rfl) (perm_of_pulls [1] rfl) (c_guard_Eight _ x39 r60 h61) ?_
      rintro _ _ ⟨rfl, rfl⟩
      refine nw_H (H' := [imm I, own (eInt .u8) 5 p68 1 ([x41] : List Int), o3 b0 b1 m0.base_ m0.size_ m0.next_ m0.last_ p0 m0.list_ c0 m0.sure_ m0.dead_, o1 b1 b2 x42 x43, o0 b2 p45 l44 c46 b50 x51 x52 x53 x54 x55 x56 x57, own eStr 9 p0 c0 m0.list_, own e_disk_sector 51 p45 c46 l44, mpo (kInt .i64) (fun x : disk_sector => Value.agg #[.string x.s_, i6 x.at_]) b50 l48] ++ F0) rfl (aw_next (fun w hs => sat_pulls [0, 1, 1, 1, 1, 1, 1] (G := [own (eInt .u8) 5 p68 1 ([x41] : List Int)] ++ F0) rfl hs) ?_)
      refine aw_only 17 (m' := 3145727) (by kernel_rfl) (by kernel_rfl) (pw_quiet (v := .string (bstr ([x41] : List Int))) rfl rfl rfl rfl (q_bytes_str_own 1 rfl rfl (by kernel_rfl) (by kernel_rfl) rfl) (aw_next (fun w hs => sat_pulls [0, 1, 1, 1, 1, 1, 1] (G := [own (eInt .u8) 5 p68 1 ([x41] : List Int)] ++ F0) rfl hs) ?_))
      refine aw_pure 20 (m' := 4194303) (v := .string ((bstr ([x41] : List Int)) ++ r60)) rfl rfl rfl rfl (by kernel_rfl) (by kernel_rfl) (fun _ _ _ _ _ h => calm_fin (P := Tryz.prog) (fn := Tryz.f17) _ _ _ _ _ h) (fun w hs => sat_pulls [0, 1, 1, 1, 1, 1, 1] (G := [own (eInt .u8) 5 p68 1 ([x41] : List Int)] ++ F0) rfl hs) (q_concat rfl rfl rfl h62) ?_
      refine aw_pure 22 (m' := 8388607) (v := .string (((bstr ([x41] : List Int)) ++ r60) ++ s40)) rfl rfl rfl rfl (by kernel_rfl) (by kernel_rfl) (fun _ _ _ _ _ h => calm_fin (P := Tryz.prog) (fn := Tryz.f17) _ _ _ _ _ h) (fun w hs => sat_pulls [0, 1, 1, 1, 1, 1, 1] (G := [own (eInt .u8) 5 p68 1 ([x41] : List Int)] ++ F0) rfl hs) (q_concat rfl rfl rfl h63) ?_
      refine aw_only 23 (m' := 16777215) (by kernel_rfl) (by kernel_rfl) (pw_call (F := [own (eInt .u8) 5 p68 1 ([x41] : List Int), o3 b0 b1 m0.base_ m0.size_ m0.next_ m0.last_ p0 m0.list_ c0 m0.sure_ m0.dead_, own eStr 9 p0 c0 m0.list_] ++ F0) rfl rfl rfl rfl rfl rfl rfl (by kernel_rfl) (perm_of_pulls [0, 2, 2, 3, 3] rfl) (c_guard_Guard_Put _ (IntKind.i64.wrap ((IntKind.i64.wrap (m0.base_ + m0.next_)) + x38)) (((bstr ([x41] : List Int)) ++ r60) ++ s40) (⟨x42, x43⟩ : guard_Guard) (⟨l44, l48, x51, x52, x53, (⟨x54, x55⟩ : disk_Fall), x56, x57⟩ : disk_Disk) b1 p45 c46 b50 b2 r64 h65) ?_)
      rintro _ _ ⟨r64_p1, r64_c2, r64_b4, rfl, rfl⟩
      refine nw_H (H' := [imm I, o1 b1 b2 r64.2.2.1.boot_ r64.2.2.1.n_, o0 b2 r64_p1 r64.2.2.2.sure_ r64_c2 r64_b4 r64.2.2.2.off_ r64.2.2.2.armed_ r64.2.2.2.left_ r64.2.2.2.fall_.Keep r64.2.2.2.fall_.Tear r64.2.2.2.acts_ r64.2.2.2.falls_, own e_disk_sector 51 r64_p1 r64_c2 r64.2.2.2.sure_, mpo (kInt .i64) (fun x : disk_sector => Value.agg #[.string x.s_, i6 x.at_]) r64_b4 r64.2.2.2.wait_, own (eInt .u8) 5 p68 1 ([x41] : List Int), o3 b0 b1 m0.base_ m0.size_ m0.next_ m0.last_ p0 m0.list_ c0 m0.sure_ m0.dead_, own eStr 9 p0 c0 m0.list_] ++ F0) rfl (aw_last (by kernel_rfl) ?_)
      refine aw_past (by kernel_rfl) ?_
      refine aw_vals [24, 25, 26, 27, 28] (f' := 0) (m' := 536870911) [0, 1, 6, 7, 11, 12] [(0, pP b0), (1, .string s37), (6, .string x1), (7, i6 x38), (11, i6 r64.1), (12, i6 r64.2.1)] (fun _ _ _ _ _ h => calm_fin (P := Tryz.prog) (fn := Tryz.f17) _ _ _ _ _ h) (fun _ _ => trivial) rfl (by kernel_rfl) ?_
      refine aw_keep [0, 1, 6, 7, 11, 12] (L' := [(0, pP b0), (1, .string s37), (6, .string x1), (7, i6 x38), (11, i6 r64.1), (12, i6 r64.2.1)]) rfl ?_
      refine aw_end (by kernel_rfl) ?_
      refine ew_then ?_
      refine cw_seq ?_
      refine cw_seq ?_
      refine cw_region ?_
      refine ow_vals 2 (j := 2) [0, 1, 6, 7, 11, 12, 82] [(0, pP b0), (1, .string s37), (6, .string x1), (7, i6 x38), (11, i6 r64.1), (12, i6 r64.2.1), (82, .bool (r64.2.1 != 0))] rfl (by kernel_rfl) ?_
      refine ow_end rfl ?_
      refine ew_then ?_
      rcases if_some hF with ⟨h72, hF⟩ | ⟨h72, hF⟩
      · refine cw_cond_t rfl rfl h72 ?_
        refine cw_seq ?_
        refine cw_region ?_
        refine ow_vals 2 (j := 2) [83, 84] [(83, pP b0), (84, i6 r64.2.1)] rfl (by kernel_rfl) ?_
        obtain ⟨r73, h74, hF⟩ := bind_some hF
        refine ow_pw rfl (pw_call (F := [own (eInt .u8) 5 p68 1 ([x41] : List Int)] ++ F0) rfl rfl rfl rfl rfl rfl rfl (by kernel_rfl) (perm_of_pulls [0, 5, 0, 0, 3, 0, 0] rfl) (c_journal_Journal_fall _ r64.2.1 m0 r64.2.2.1 r64.2.2.2 p0 c0 b0 b1 r64_p1 r64_c2 r64_b4 b2 r73 h74) ?_)
        rintro _ _ ⟨r73_p1, r73_c2, rfl, rfl⟩
        refine nw_H (H' := [imm I, o3 b0 b1 r73.2.base_ r73.2.size_ r73.2.next_ r73.2.last_ r73_p1 r73.2.list_ r73_c2 r73.2.sure_ r73.2.dead_, o1 b1 b2 r64.2.2.1.boot_ r64.2.2.1.n_, o0 b2 r64_p1 r64.2.2.2.sure_ r64_c2 r64_b4 r64.2.2.2.off_ r64.2.2.2.armed_ r64.2.2.2.left_ r64.2.2.2.fall_.Keep r64.2.2.2.fall_.Tear r64.2.2.2.acts_ r64.2.2.2.falls_, own eStr 9 r73_p1 r73_c2 r73.2.list_, own e_disk_sector 51 r64_p1 r64_c2 r64.2.2.2.sure_, mpo (kInt .i64) (fun x : disk_sector => Value.agg #[.string x.s_, i6 x.at_]) r64_b4 r64.2.2.2.wait_, own (eInt .u8) 5 p68 1 ([x41] : List Int)] ++ F0) rfl (nw_ow ?_)
        refine ow_vals 1 (j := 4) [4] [(4, i6 r73.1)] rfl (by kernel_rfl) ?_
        refine ow_end rfl ?_
        refine ew_then ?_
        refine cw_ret ?_
        refine ew_then_ret ?_
        refine ew_blk_ret ?_
        refine ew_then_ret ?_
        refine ew_blk_ret ?_
        refine ew_then_ret ?_
        have hR := Option.some.inj hF
        subst hR
        have hR := hL36
        try dsimp only at hR
        subst hR
        have hR := hK35
        try dsimp only [Thru] at hR
        subst hR
        exact fin1 (H1 := [imm I, o3 b0 b1 r73.2.base_ r73.2.size_ r73.2.next_ r73.2.last_ r73_p1 r73.2.list_ r73_c2 r73.2.sure_ r73.2.dead_, o1 b1 b2 r64.2.2.1.boot_ r64.2.2.1.n_, o0 b2 r64_p1 r64.2.2.2.sure_ r64_c2 r64_b4 r64.2.2.2.off_ r64.2.2.2.armed_ r64.2.2.2.left_ r64.2.2.2.fall_.Keep r64.2.2.2.fall_.Tear r64.2.2.2.acts_ r64.2.2.2.falls_, own eStr 9 r73_p1 r73_c2 r73.2.list_, own e_disk_sector 51 r64_p1 r64_c2 r64.2.2.2.sure_, mpo (kInt .i64) (fun x : disk_sector => Value.agg #[.string x.s_, i6 x.at_]) r64_b4 r64.2.2.2.wait_]) (fun w hs => sat_to [7, 0, 0, 0, 0, 0, 0, 0] 1 rfl hs) rfl (rr_tmp rfl) ⟨r73_p1, r73_c2, r64_p1, r64_c2, r64_b4, rfl, rfl⟩
      refine cw_cond_f rfl rfl h72 ?_
      refine cw_skip ?_
      refine ew_then ?_
      refine cw_seq ?_
      refine cw_region ?_
      refine ow_vals 5 (j := 5) [0, 1, 6, 7, 8] [(0, pP b0), (1, .string s37), (6, .string x1), (7, i6 (IntKind.i64.wrap (x38 + 1))), (8, i6 r64.1)] rfl (by kernel_rfl) ?_
      refine ow_end rfl ?_
      refine ew_then ?_
      refine cw_seq ?_
      refine cw_seq ?_
      refine cw_region ?_
      refine ow_vals 2 (j := 2) [0, 1, 6, 7, 8, 90] [(0, pP b0), (1, .string s37), (6, .string x1), (7, i6 (IntKind.i64.wrap (x38 + 1))), (8, i6 r64.1), (90, .bool (seqB s37 (ByteArray.mk #[])))] rfl (by kernel_rfl) ?_
      refine ow_end rfl ?_
      refine ew_then ?_
      rcases if_some hF with ⟨h76, hF⟩ | ⟨h76, hF⟩
      · refine cw_cond_t rfl rfl h76 ?_
        refine cw_exit ?_
        refine ew_then_exit ?_
        refine ew_blk_other (by decide) ?_
        refine ew_then_exit ?_
        refine ew_blk_exit ?_
        have hR := Option.some.inj hF
        subst hR
        have hR := hL36
        try dsimp only at hR
        exact fun a w hf hs => ⟨IntKind.i64.wrap (x38 + 1), r64.1, r64.2.2.1.boot_, r64.2.2.1.n_, r64.2.2.2.sure_, r64.2.2.2.wait_, r64.2.2.2.off_, r64.2.2.2.armed_, r64.2.2.2.left_, r64.2.2.2.fall_.Keep, r64.2.2.2.fall_.Tear, r64.2.2.2.acts_, r64.2.2.2.falls_, r64_p1, r64_c2, r64_b4, hR, hf.keep [0, 6, 7, 8], sat_to [5, 0, 0, 0, 2, 0, 0, 0] 1 rfl hs⟩
      refine cw_cond_f rfl rfl h76 ?_
      refine cw_skip ?_
      refine ew_then ?_
      refine cw_seq ?_
      refine cw_open 7 (SAT w0 ([imm I, o1 b1 b2 r64.2.2.1.boot_ r64.2.2.1.n_, o0 b2 r64_p1 r64.2.2.2.sure_ r64_c2 r64_b4 r64.2.2.2.off_ r64.2.2.2.armed_ r64.2.2.2.left_ r64.2.2.2.fall_.Keep r64.2.2.2.fall_.Tear r64.2.2.2.acts_ r64.2.2.2.falls_, own e_disk_sector 51 r64_p1 r64_c2 r64.2.2.2.sure_, mpo (kInt .i64) (fun x : disk_sector => Value.agg #[.string x.s_, i6 x.at_]) r64_b4 r64.2.2.2.wait_, own (eInt .u8) 5 p68 1 ([x41] : List Int), o3 b0 b1 m0.base_ m0.size_ m0.next_ m0.last_ p0 m0.list_ c0 m0.sure_ m0.dead_, own eStr 9 p0 c0 m0.list_])) (by kernel_rfl) (f := 7) rfl (fun w hs => sat_drew hs) ?_
      refine aw_vals [0, 1, 2, 3, 5] (f' := 2) (m' := 47) [0, 1, 6, 7, 8, 10, 91, 94] [(0, pP b0), (1, .string s37), (6, .string x1), (7, i6 (IntKind.i64.wrap (x38 + 1))), (8, i6 r64.1), (10, .int .u8 2), (91, .string s37), (94, i6 (if 38 < (s37.size : Int) then 38 else (s37.size : Int)))] (fun _ _ _ _ _ h => calm_fin (P := Tryz.prog) (fn := Tryz.f17) _ _ _ _ _ h) (fun w hs => sat_pulls [0, 0, 0, 0, 0, 0, 0, 0] (G := [] ++ F0) rfl hs) rfl (by kernel_rfl) ?_
      obtain ⟨h77, hF⟩ := chk_some hF
      refine aw_pure 4 (m' := 63) (v := .string (s37.extract (0 : Int).toNat (if 38 < (s37.size : Int) then 38 else (s37.size : Int)).toNat)) rfl rfl rfl rfl (by kernel_rfl) (by kernel_rfl) (fun _ _ _ _ _ h => calm_fin (P := Tryz.prog) (fn := Tryz.f17) _ _ _ _ _ h) (fun w hs => sat_pulls [0, 0, 0, 0, 0, 0, 0, 0] (G := [] ++ F0) rfl hs) (q_slice_str rfl (by kernel_rfl) rfl rfl rfl h77.1 h77.2.1 h77.2.2) ?_
      refine aw_vals [6] (f' := 0) (m' := 127) [0, 1, 6, 7, 8, 9, 10] [(0, pP b0), (1, .string s37), (6, .string x1), (7, i6 (IntKind.i64.wrap (x38 + 1))), (8, i6 r64.1), (9, .string (s37.extract (0 : Int).toNat (if 38 < (s37.size : Int) then 38 else (s37.size : Int)).toNat)), (10, .int .u8 2)] (fun _ _ _ _ _ h => calm_fin (P := Tryz.prog) (fn := Tryz.f17) _ _ _ _ _ h) (fun w hs => sat_pulls [0, 0, 0, 0, 0, 0, 0, 0] (G := [] ++ F0) rfl hs) rfl (by kernel_rfl) ?_
      refine aw_keep [0, 1, 6, 7, 8, 9, 10] (L' := [(0, pP b0), (1, .string s37), (6, .string x1), (7, i6 (IntKind.i64.wrap (x38 + 1))), (8, i6 r64.1), (9, .string (s37.extract (0 : Int).toNat (if 38 < (s37.size : Int) then 38 else (s37.size : Int)).toNat)), (10, .int .u8 2)]) rfl ?_
      refine aw_end (by kernel_rfl) ?_
      refine ew_then ?_
      refine cw_region ?_
      refine ow_vals 3 (j := 3) [0, 6, 7, 8, 9, 10, 96, 98] [(0, pP b0), (6, .string x1), (7, i6 (IntKind.i64.wrap (x38 + 1))), (8, i6 r64.1), (9, .string (s37.extract (0 : Int).toNat (if 38 < (s37.size : Int) then 38 else (s37.size : Int)).toNat)), (10, .int .u8 2), (96, .string s37), (98, i6 ((s37.extract (0 : Int).toNat (if 38 < (s37.size : Int) then 38 else (s37.size : Int)).toNat).size : Int))] rfl (by kernel_rfl) ?_
      obtain ⟨h78, hF⟩ := chk_some hF
      refine ow_pw rfl (pw_quiet (v := .string (s37.extract ((s37.extract (0 : Int).toNat (if 38 < (s37.size : Int) then 38 else (s37.size : Int)).toNat).size : Int).toNat (s37.size : Int).toNat)) rfl rfl rfl rfl (q_slice_str rfl (by kernel_rfl) rfl rfl rfl h78.1 h78.2.1 h78.2.2) (nw_ow ?_))
      refine ow_vals 1 (j := 5) [0, 1, 6, 7, 8, 9, 10] [(0, pP b0), (1, .string (s37.extract ((s37.extract (0 : Int).toNat (if 38 < (s37.size : Int) then 38 else (s37.size : Int)).toNat).size : Int).toNat (s37.size : Int).toNat)), (6, .string x1), (7, i6 (IntKind.i64.wrap (x38 + 1))), (8, i6 r64.1), (9, .string (s37.extract (0 : Int).toNat (if 38 < (s37.size : Int) then 38 else (s37.size : Int)).toNat)), (10, .int .u8 2)] rfl (by kernel_rfl) ?_
      refine ow_end rfl ?_
      refine ew_blk ?_
      have hR := Option.some.inj hF
      subst hR
      have hR := hL36
      try dsimp only at hR
      exact fun a w hf hs => ⟨k, Nat.lt_succ_self k, s37.extract ((s37.extract (0 : Int).toNat (if 38 < (s37.size : Int) then 38 else (s37.size : Int)).toNat).size : Int).toNat (s37.size : Int).toNat, IntKind.i64.wrap (x38 + 1), r64.1, s37.extract (0 : Int).toNat (if 38 < (s37.size : Int) then 38 else (s37.size : Int)).toNat, 2, r64.2.2.1.boot_, r64.2.2.1.n_, r64.2.2.2.sure_, r64.2.2.2.wait_, r64.2.2.2.off_, r64.2.2.2.armed_, r64.2.2.2.left_, r64.2.2.2.fall_.Keep, r64.2.2.2.fall_.Tear, r64.2.2.2.acts_, r64.2.2.2.falls_, r64_p1, r64_c2, r64_b4, hR, hf.keep [0, 1, 6, 7, 8, 9, 10], sat_to [5, 0, 4, 0, 0, 2, 0, 0] 1 rfl hs⟩
    refine pw_call (F := [o3 b0 b1 m0.base_ m0.size_ m0.next_ m0.last_ p0 m0.list_ c0 m0.sure_ m0.dead_, o1 b1 b2 x42 x43, o0 b2 p45 l44 c46 b50 x51 x52 x53 x54 x55 x56 x57, own eStr 9 p0 c0 m0.list_, own e_disk_sector 51 p45 c46 l44, mpo (kInt .i64) (fun x : disk_sector => Value.agg #[.string x.s_, i6 x.at_]) b50 l48] ++ F0) rfl rfl rfl rfl rfl rfl rfl (by kernel_rfl) (perm_of_pulls [0] rfl) (c_guard_Eight _ x39 r60 h61) ?_
    rintro _ _ ⟨rfl, rfl⟩
    refine nw_H (H' := [imm I, o3 b0 b1 m0.base_ m0.size_ m0.next_ m0.last_ p0 m0.list_ c0 m0.sure_ m0.dead_, o1 b1 b2 x42 x43, o0 b2 p45 l44 c46 b50 x51 x52 x53 x54 x55 x56 x57, own eStr 9 p0 c0 m0.list_, own e_disk_sector 51 p45 c46 l44, mpo (kInt .i64) (fun x : disk_sector => Value.agg #[.string x.s_, i6 x.at_]) b50 l48] ++ F0) rfl (aw_next (fun w hs => sat_pulls [0, 0, 0, 0, 0, 0, 0] (G := [] ++ F0) rfl hs) ?_)
    refine aw_only 16 (m' := 3014655) (by kernel_rfl) (by kernel_rfl) (pw_buildSlice (E := 5) (eInt .u8) ([x41] : List Int) rfl rfl rfl rfl rfl (by kernel_rfl) rfl (by kernel_rfl) rfl (by decide) rfl fun p68 => aw_next (fun w hs => sat_pulls [1, 1, 1, 1, 1, 1, 1] (G := [own (eInt .u8) 5 p68 1 ([x41] : List Int)] ++ F0) rfl hs) ?_)
    refine aw_only 17 (m' := 3145727) (by kernel_rfl) (by kernel_rfl) (pw_quiet (v := .string (bstr ([x41] : List Int))) rfl rfl rfl rfl (q_bytes_str_own 0 rfl rfl (by kernel_rfl) (by kernel_rfl) rfl) (aw_next (fun w hs => sat_pulls [1, 1, 1, 1, 1, 1, 1] (G := [own (eInt .u8) 5 p68 1 ([x41] : List Int)] ++ F0) rfl hs) ?_))
    refine aw_pure 20 (m' := 4194303) (v := .string ((bstr ([x41] : List Int)) ++ r60)) rfl rfl rfl rfl (by kernel_rfl) (by kernel_rfl) (fun _ _ _ _ _ h => calm_fin (P := Tryz.prog) (fn := Tryz.f17) _ _ _ _ _ h) (fun w hs => sat_pulls [1, 1, 1, 1, 1, 1, 1] (G := [own (eInt .u8) 5 p68 1 ([x41] : List Int)] ++ F0) rfl hs) (q_concat rfl rfl rfl h62) ?_
    refine aw_pure 22 (m' := 8388607) (v := .string (((bstr ([x41] : List Int)) ++ r60) ++ s40)) rfl rfl rfl rfl (by kernel_rfl) (by kernel_rfl) (fun _ _ _ _ _ h => calm_fin (P := Tryz.prog) (fn := Tryz.f17) _ _ _ _ _ h) (fun w hs => sat_pulls [1, 1, 1, 1, 1, 1, 1] (G := [own (eInt .u8) 5 p68 1 ([x41] : List Int)] ++ F0) rfl hs) (q_concat rfl rfl rfl h63) ?_
    refine aw_only 23 (m' := 16777215) (by kernel_rfl) (by kernel_rfl) (pw_call (F := [own (eInt .u8) 5 p68 1 ([x41] : List Int), o3 b0 b1 m0.base_ m0.size_ m0.next_ m0.last_ p0 m0.list_ c0 m0.sure_ m0.dead_, own eStr 9 p0 c0 m0.list_] ++ F0) rfl rfl rfl rfl rfl rfl rfl (by kernel_rfl) (perm_of_pulls [1, 2, 2, 3, 3] rfl) (c_guard_Guard_Put _ (IntKind.i64.wrap ((IntKind.i64.wrap (m0.base_ + m0.next_)) + x38)) (((bstr ([x41] : List Int)) ++ r60) ++ s40) (⟨x42, x43⟩ : guard_Guard) (⟨l44, l48, x51, x52, x53, (⟨x54, x55⟩ : disk_Fall), x56, x57⟩ : disk_Disk) b1 p45 c46 b50 b2 r64 h65) ?_)
    rintro _ _ ⟨r64_p1, r64_c2, r64_b4, rfl, rfl⟩
    refine nw_H (H' := [imm I, o1 b1 b2 r64.2.2.1.boot_ r64.2.2.1.n_, o0 b2 r64_p1 r64.2.2.2.sure_ r64_c2 r64_b4 r64.2.2.2.off_ r64.2.2.2.armed_ r64.2.2.2.left_ r64.2.2.2.fall_.Keep r64.2.2.2.fall_.Tear r64.2.2.2.acts_ r64.2.2.2.falls_, own e_disk_sector 51 r64_p1 r64_c2 r64.2.2.2.sure_, mpo (kInt .i64) (fun x : disk_sector => Value.agg #[.string x.s_, i6 x.at_]) r64_b4 r64.2.2.2.wait_, own (eInt .u8) 5 p68 1 ([x41] : List Int), o3 b0 b1 m0.base_ m0.size_ m0.next_ m0.last_ p0 m0.list_ c0 m0.sure_ m0.dead_, own eStr 9 p0 c0 m0.list_] ++ F0) rfl (aw_last (by kernel_rfl) ?_)
    refine aw_past (by kernel_rfl) ?_
    refine aw_vals [24, 25, 26, 27, 28] (f' := 0) (m' := 536870911) [0, 1, 6, 7, 11, 12] [(0, pP b0), (1, .string s37), (6, .string x1), (7, i6 x38), (11, i6 r64.1), (12, i6 r64.2.1)] (fun _ _ _ _ _ h => calm_fin (P := Tryz.prog) (fn := Tryz.f17) _ _ _ _ _ h) (fun _ _ => trivial) rfl (by kernel_rfl) ?_
    refine aw_keep [0, 1, 6, 7, 11, 12] (L' := [(0, pP b0), (1, .string s37), (6, .string x1), (7, i6 x38), (11, i6 r64.1), (12, i6 r64.2.1)]) rfl ?_
    refine aw_end (by kernel_rfl) ?_
    refine ew_then ?_
    refine cw_seq ?_
    refine cw_seq ?_
    refine cw_region ?_
    refine ow_vals 2 (j := 2) [0, 1, 6, 7, 11, 12, 82] [(0, pP b0), (1, .string s37), (6, .string x1), (7, i6 x38), (11, i6 r64.1), (12, i6 r64.2.1), (82, .bool (r64.2.1 != 0))] rfl (by kernel_rfl) ?_
    refine ow_end rfl ?_
    refine ew_then ?_
    rcases if_some hF with ⟨h72, hF⟩ | ⟨h72, hF⟩
    · refine cw_cond_t rfl rfl h72 ?_
      refine cw_seq ?_
      refine cw_region ?_
      refine ow_vals 2 (j := 2) [83, 84] [(83, pP b0), (84, i6 r64.2.1)] rfl (by kernel_rfl) ?_
      obtain ⟨r73, h74, hF⟩ := bind_some hF
      refine ow_pw rfl (pw_call (F := [own (eInt .u8) 5 p68 1 ([x41] : List Int)] ++ F0) rfl rfl rfl rfl rfl rfl rfl (by kernel_rfl) (perm_of_pulls [0, 5, 0, 0, 3, 0, 0] rfl) (c_journal_Journal_fall _ r64.2.1 m0 r64.2.2.1 r64.2.2.2 p0 c0 b0 b1 r64_p1 r64_c2 r64_b4 b2 r73 h74) ?_)
      rintro _ _ ⟨r73_p1, r73_c2, rfl, rfl⟩
      refine nw_H (H' := [imm I, o3 b0 b1 r73.2.base_ r73.2.size_ r73.2.next_ r73.2.last_ r73_p1 r73.2.list_ r73_c2 r73.2.sure_ r73.2.dead_, o1 b1 b2 r64.2.2.1.boot_ r64.2.2.1.n_, o0 b2 r64_p1 r64.2.2.2.sure_ r64_c2 r64_b4 r64.2.2.2.off_ r64.2.2.2.armed_ r64.2.2.2.left_ r64.2.2.2.fall_.Keep r64.2.2.2.fall_.Tear r64.2.2.2.acts_ r64.2.2.2.falls_, own eStr 9 r73_p1 r73_c2 r73.2.list_, own e_disk_sector 51 r64_p1 r64_c2 r64.2.2.2.sure_, mpo (kInt .i64) (fun x : disk_sector => Value.agg #[.string x.s_, i6 x.at_]) r64_b4 r64.2.2.2.wait_, own (eInt .u8) 5 p68 1 ([x41] : List Int)] ++ F0) rfl (nw_ow ?_)
      refine ow_vals 1 (j := 4) [4] [(4, i6 r73.1)] rfl (by kernel_rfl) ?_
      refine ow_end rfl ?_
      refine ew_then ?_
      refine cw_ret ?_
      refine ew_then_ret ?_
      refine ew_blk_ret ?_
      refine ew_then_ret ?_
      refine ew_blk_ret ?_
      refine ew_then_ret ?_
      have hR := Option.some.inj hF
      subst hR
      have hR := hL36
      try dsimp only at hR
      subst hR
      have hR := hK35
      try dsimp only [Thru] at hR
      subst hR
      exact fin1 (H1 := [imm I, o3 b0 b1 r73.2.base_ r73.2.size_ r73.2.next_ r73.2.last_ r73_p1 r73.2.list_ r73_c2 r73.2.sure_ r73.2.dead_, o1 b1 b2 r64.2.2.1.boot_ r64.2.2.1.n_, o0 b2 r64_p1 r64.2.2.2.sure_ r64_c2 r64_b4 r64.2.2.2.off_ r64.2.2.2.armed_ r64.2.2.2.left_ r64.2.2.2.fall_.Keep r64.2.2.2.fall_.Tear r64.2.2.2.acts_ r64.2.2.2.falls_, own eStr 9 r73_p1 r73_c2 r73.2.list_, own e_disk_sector 51 r64_p1 r64_c2 r64.2.2.2.sure_, mpo (kInt .i64) (fun x : disk_sector => Value.agg #[.string x.s_, i6 x.at_]) r64_b4 r64.2.2.2.wait_]) (fun w hs => sat_to [7, 0, 0, 0, 0, 0, 0, 0] 1 rfl hs) rfl (rr_tmp rfl) ⟨r73_p1, r73_c2, r64_p1, r64_c2, r64_b4, rfl, rfl⟩
    refine cw_cond_f rfl rfl h72 ?_
    refine cw_skip ?_
    refine ew_then ?_
    refine cw_seq ?_
    refine cw_region ?_
    refine ow_vals 5 (j := 5) [0, 1, 6, 7, 8] [(0, pP b0), (1, .string s37), (6, .string x1), (7, i6 (IntKind.i64.wrap (x38 + 1))), (8, i6 r64.1)] rfl (by kernel_rfl) ?_
    refine ow_end rfl ?_
    refine ew_then ?_
    refine cw_seq ?_
    refine cw_seq ?_
    refine cw_region ?_
    refine ow_vals 2 (j := 2) [0, 1, 6, 7, 8, 90] [(0, pP b0), (1, .string s37), (6, .string x1), (7, i6 (IntKind.i64.wrap (x38 + 1))), (8, i6 r64.1), (90, .bool (seqB s37 (ByteArray.mk #[])))] rfl (by kernel_rfl) ?_
    refine ow_end rfl ?_
    refine ew_then ?_
    rcases if_some hF with ⟨h76, hF⟩ | ⟨h76, hF⟩
    · refine cw_cond_t rfl rfl h76 ?_
      refine cw_exit ?_
      refine ew_then_exit ?_
      refine ew_blk_other (by decide) ?_
      refine ew_then_exit ?_
      refine ew_blk_exit ?_
      have hR := Option.some.inj hF
      subst hR
      have hR := hL36
      try dsimp only at hR
      exact fun a w hf hs => ⟨IntKind.i64.wrap (x38 + 1), r64.1, r64.2.2.1.boot_, r64.2.2.1.n_, r64.2.2.2.sure_, r64.2.2.2.wait_, r64.2.2.2.off_, r64.2.2.2.armed_, r64.2.2.2.left_, r64.2.2.2.fall_.Keep, r64.2.2.2.fall_.Tear, r64.2.2.2.acts_, r64.2.2.2.falls_, r64_p1, r64_c2, r64_b4, hR, hf.keep [0, 6, 7, 8], sat_to [5, 0, 0, 0, 2, 0, 0, 0] 1 rfl hs⟩
    refine cw_cond_f rfl rfl h76 ?_
    refine cw_skip ?_
    refine ew_then ?_
    refine cw_seq ?_
    refine cw_open 7 (SAT w0 ([imm I, o1 b1 b2 r64.2.2.1.boot_ r64.2.2.1.n_, o0 b2 r64_p1 r64.2.2.2.sure_ r64_c2 r64_b4 r64.2.2.2.off_ r64.2.2.2.armed_ r64.2.2.2.left_ r64.2.2.2.fall_.Keep r64.2.2.2.fall_.Tear r64.2.2.2.acts_ r64.2.2.2.falls_, own e_disk_sector 51 r64_p1 r64_c2 r64.2.2.2.sure_, mpo (kInt .i64) (fun x : disk_sector => Value.agg #[.string x.s_, i6 x.at_]) r64_b4 r64.2.2.2.wait_, own (eInt .u8) 5 p68 1 ([x41] : List Int), o3 b0 b1 m0.base_ m0.size_ m0.next_ m0.last_ p0 m0.list_ c0 m0.sure_ m0.dead_, own eStr 9 p0 c0 m0.list_])) (by kernel_rfl) (f := 7) rfl (fun w hs => sat_drew hs) ?_
    refine aw_vals [0, 1, 2, 3, 5] (f' := 2) (m' := 47) [0, 1, 6, 7, 8, 10, 91, 94] [(0, pP b0), (1, .string s37), (6, .string x1), (7, i6 (IntKind.i64.wrap (x38 + 1))), (8, i6 r64.1), (10, .int .u8 2), (91, .string s37), (94, i6 (if 38 < (s37.size : Int) then 38 else (s37.size : Int)))] (fun _ _ _ _ _ h => calm_fin (P := Tryz.prog) (fn := Tryz.f17) _ _ _ _ _ h) (fun w hs => sat_pulls [0, 0, 0, 0, 0, 0, 0, 0] (G := [] ++ F0) rfl hs) rfl (by kernel_rfl) ?_
    obtain ⟨h77, hF⟩ := chk_some hF
    refine aw_pure 4 (m' := 63) (v := .string (s37.extract (0 : Int).toNat (if 38 < (s37.size : Int) then 38 else (s37.size : Int)).toNat)) rfl rfl rfl rfl (by kernel_rfl) (by kernel_rfl) (fun _ _ _ _ _ h => calm_fin (P := Tryz.prog) (fn := Tryz.f17) _ _ _ _ _ h) (fun w hs => sat_pulls [0, 0, 0, 0, 0, 0, 0, 0] (G := [] ++ F0) rfl hs) (q_slice_str rfl (by kernel_rfl) rfl rfl rfl h77.1 h77.2.1 h77.2.2) ?_
    refine aw_vals [6] (f' := 0) (m' := 127) [0, 1, 6, 7, 8, 9, 10] [(0, pP b0), (1, .string s37), (6, .string x1), (7, i6 (IntKind.i64.wrap (x38 + 1))), (8, i6 r64.1), (9, .string (s37.extract (0 : Int).toNat (if 38 < (s37.size : Int) then 38 else (s37.size : Int)).toNat)), (10, .int .u8 2)] (fun _ _ _ _ _ h => calm_fin (P := Tryz.prog) (fn := Tryz.f17) _ _ _ _ _ h) (fun w hs => sat_pulls [0, 0, 0, 0, 0, 0, 0, 0] (G := [] ++ F0) rfl hs) rfl (by kernel_rfl) ?_
    refine aw_keep [0, 1, 6, 7, 8, 9, 10] (L' := [(0, pP b0), (1, .string s37), (6, .string x1), (7, i6 (IntKind.i64.wrap (x38 + 1))), (8, i6 r64.1), (9, .string (s37.extract (0 : Int).toNat (if 38 < (s37.size : Int) then 38 else (s37.size : Int)).toNat)), (10, .int .u8 2)]) rfl ?_
    refine aw_end (by kernel_rfl) ?_
    refine ew_then ?_
    refine cw_region ?_
    refine ow_vals 3 (j := 3) [0, 6, 7, 8, 9, 10, 96, 98] [(0, pP b0), (6, .string x1), (7, i6 (IntKind.i64.wrap (x38 + 1))), (8, i6 r64.1), (9, .string (s37.extract (0 : Int).toNat (if 38 < (s37.size : Int) then 38 else (s37.size : Int)).toNat)), (10, .int .u8 2), (96, .string s37), (98, i6 ((s37.extract (0 : Int).toNat (if 38 < (s37.size : Int) then 38 else (s37.size : Int)).toNat).size : Int))] rfl (by kernel_rfl) ?_
    obtain ⟨h78, hF⟩ := chk_some hF
    refine ow_pw rfl (pw_quiet (v := .string (s37.extract ((s37.extract (0 : Int).toNat (if 38 < (s37.size : Int) then 38 else (s37.size : Int)).toNat).size : Int).toNat (s37.size : Int).toNat)) rfl rfl rfl rfl (q_slice_str rfl (by kernel_rfl) rfl rfl rfl h78.1 h78.2.1 h78.2.2) (nw_ow ?_))
    refine ow_vals 1 (j := 5) [0, 1, 6, 7, 8, 9, 10] [(0, pP b0), (1, .string (s37.extract ((s37.extract (0 : Int).toNat (if 38 < (s37.size : Int) then 38 else (s37.size : Int)).toNat).size : Int).toNat (s37.size : Int).toNat)), (6, .string x1), (7, i6 (IntKind.i64.wrap (x38 + 1))), (8, i6 r64.1), (9, .string (s37.extract (0 : Int).toNat (if 38 < (s37.size : Int) then 38 else (s37.size : Int)).toNat)), (10, .int .u8 2)] rfl (by kernel_rfl) ?_
    refine ow_end rfl ?_
    refine ew_blk ?_
    have hR := Option.some.inj hF
    subst hR
    have hR := hL36
    try dsimp only at hR
    exact fun a w hf hs => ⟨k, Nat.lt_succ_self k, s37.extract ((s37.extract (0 : Int).toNat (if 38 < (s37.size : Int) then 38 else (s37.size : Int)).toNat).size : Int).toNat (s37.size : Int).toNat, IntKind.i64.wrap (x38 + 1), r64.1, s37.extract (0 : Int).toNat (if 38 < (s37.size : Int) then 38 else (s37.size : Int)).toNat, 2, r64.2.2.1.boot_, r64.2.2.1.n_, r64.2.2.2.sure_, r64.2.2.2.wait_, r64.2.2.2.off_, r64.2.2.2.armed_, r64.2.2.2.left_, r64.2.2.2.fall_.Keep, r64.2.2.2.fall_.Tear, r64.2.2.2.acts_, r64.2.2.2.falls_, r64_p1, r64_c2, r64_b4, hR, hf.keep [0, 1, 6, 7, 8, 9, 10], sat_to [5, 0, 4, 0, 0, 2, 0, 0] 1 rfl hs⟩
  rintro a w ⟨x79, x80, x81, x82, l83, l87, x90, x91, x92, x93, x94, x95, x96, p84, c85, b89, hv, hf, hs⟩
  subst hv
  replace hF := hK35
  clear hK35
  try dsimp only [Thru] at hF
  revert a w
  show CW _ _ _ 123 [(0, pP b0), (6, .string x1), (7, i6 x79), (8, i6 x80)] (SAT w0 ([imm I, o1 b1 b2 x81 x82, o0 b2 p84 l83 c85 b89 x90 x91 x92 x93 x94 x95 x96, o3 b0 b1 m0.base_ m0.size_ m0.next_ m0.last_ p0 m0.list_ c0 m0.sure_ m0.dead_, own e_disk_sector 51 p84 c85 l83, mpo (kInt .i64) (fun x : disk_sector => Value.agg #[.string x.s_, i6 x.at_]) b89 l87, own eStr 9 p0 c0 m0.list_] ++ F0))
  unfold F.journal_Journal_Append.r2 at hF
  refine cw_seq ?_
  refine cw_open 25 (SAT w0 ([imm I, o1 b1 b2 x81 x82, o0 b2 p84 l83 c85 b89 x90 x91 x92 x93 x94 x95 x96, own e_disk_sector 51 p84 c85 l83, mpo (kInt .i64) (fun x : disk_sector => Value.agg #[.string x.s_, i6 x.at_]) b89 l87])) (by kernel_rfl) (f := 26) rfl (fun w hs => sat_drew hs) ?_
  refine aw_vals [0, 1, 2, 3, 4, 5, 7, 10, 11, 12, 14, 16] (f' := 14) (m' := 89279) [100, 101, 102, 105, 107, 112, 114, 116] [(100, pP b0), (101, pP b0), (102, pP b0), (105, .pointer (some ⟨b0, 5, none⟩)), (107, .string x1), (112, .pointer (some ⟨b0, 3, none⟩)), (114, i6 x79), (116, i6 x80)] (fun _ _ _ _ _ h => calm_fin (P := Tryz.prog) (fn := Tryz.f17) _ _ _ _ _ h) (fun w hs => sat_pulls [0, 0, 0, 1, 1] (G := [o3 b0 b1 m0.base_ m0.size_ m0.next_ m0.last_ p0 m0.list_ c0 m0.sure_ m0.dead_, own eStr 9 p0 c0 m0.list_] ++ F0) rfl hs) rfl (by kernel_rfl) ?_
  obtain ⟨h99, hF⟩ := chk_some hF
  refine aw_three 6 8 13 (mi := 89343) (mj := 89535) (mk := 97471) (by kernel_rfl) (by kernel_rfl) (by kernel_rfl) (by kernel_rfl) ?_ ?_ ?_
  · refine pw_quiet (v := .slice p0 m0.list_.length c0) rfl rfl rfl rfl (q_load 3 rfl rfl rfl (by kernel_rfl)) (aw_next (fun w hs => sat_pulls [0, 0, 0, 1, 1] (G := [o3 b0 b1 m0.base_ m0.size_ m0.next_ m0.last_ p0 m0.list_ c0 m0.sure_ m0.dead_, own eStr 9 p0 c0 m0.list_] ++ F0) rfl hs) ?_)
    refine aw_two 8 13 (mi := 89599) (mj := 97535) (by kernel_rfl) (by kernel_rfl) (by kernel_rfl) ?_ ?_
    · refine pw_buildSlice (E := 9) eStr ([x1] : List ByteArray) rfl rfl rfl rfl rfl (by kernel_rfl) rfl (by kernel_rfl) rfl (by decide) rfl fun p102 => aw_next (fun w hs => sat_pulls [1, 1, 1, 2, 2] (G := [own eStr 9 p102 1 ([x1] : List ByteArray), o3 b0 b1 m0.base_ m0.size_ m0.next_ m0.last_ p0 m0.list_ c0 m0.sure_ m0.dead_, own eStr 9 p0 c0 m0.list_] ++ F0) rfl hs) ?_
      refine aw_two 9 13 (mi := 90111) (mj := 97791) (by kernel_rfl) (by kernel_rfl) (by kernel_rfl) ?_ ?_
      · refine pw_append 7 (l' := ([x1] : List ByteArray)) rfl rfl rfl rfl rfl rfl (by kernel_rfl) (by kernel_rfl) rfl rfl rfl (src_own (E' := 9) 0 rfl (by kernel_rfl) rfl) rfl h99.1 h99.2 fun p104 c105 => nw_H (H' := [own eStr 9 p102 1 ([x1] : List ByteArray), imm I, o1 b1 b2 x81 x82, o0 b2 p84 l83 c85 b89 x90 x91 x92 x93 x94 x95 x96, o3 b0 b1 m0.base_ m0.size_ m0.next_ m0.last_ p0 m0.list_ c0 m0.sure_ m0.dead_, own e_disk_sector 51 p84 c85 l83, mpo (kInt .i64) (fun x : disk_sector => Value.agg #[.string x.s_, i6 x.at_]) b89 l87, own eStr 9 p104 c105 (m0.list_ ++ ([x1] : List ByteArray))] ++ F0) rfl (aw_next (fun w hs => sat_pulls [1, 1, 1, 2, 2] (G := [own eStr 9 p102 1 ([x1] : List ByteArray), o3 b0 b1 m0.base_ m0.size_ m0.next_ m0.last_ p0 m0.list_ c0 m0.sure_ m0.dead_, own eStr 9 p104 c105 (m0.list_ ++ ([x1] : List ByteArray))] ++ F0) rfl hs) ?_)
        refine aw_only 13 (m' := 98303) (by kernel_rfl) (by kernel_rfl) (pw_quiet (v := i6 m0.next_) rfl rfl rfl rfl (q_load 4 rfl rfl rfl (by kernel_rfl)) (aw_next (fun w hs => sat_pulls [1, 1, 1, 2, 2] (G := [own eStr 9 p102 1 ([x1] : List ByteArray), o3 b0 b1 m0.base_ m0.size_ m0.next_ m0.last_ p0 m0.list_ c0 m0.sure_ m0.dead_, own eStr 9 p104 c105 (m0.list_ ++ ([x1] : List ByteArray))] ++ F0) rfl hs) ?_))
        refine aw_vals [15, 17, 18] (f' := 7) (m' := 524287) [101, 102, 109, 115, 116, 118] [(101, pP b0), (102, pP b0), (109, .slice p104 (m0.list_ ++ ([x1] : List ByteArray)).length c105), (115, i6 (IntKind.i64.wrap (m0.next_ + x79))), (116, i6 x80), (118, .pointer (some ⟨b0, 5, none⟩))] (fun _ _ _ _ _ h => calm_fin (P := Tryz.prog) (fn := Tryz.f17) _ _ _ _ _ h) (fun w hs => sat_pulls [1, 1, 1, 2, 2] (G := [own eStr 9 p102 1 ([x1] : List ByteArray), o3 b0 b1 m0.base_ m0.size_ m0.next_ m0.last_ p0 m0.list_ c0 m0.sure_ m0.dead_, own eStr 9 p104 c105 (m0.list_ ++ ([x1] : List ByteArray))] ++ F0) rfl hs) rfl (by kernel_rfl) ?_
        refine aw_only 19 (m' := 1048575) (by kernel_rfl) (by kernel_rfl) (pw_store 4 #[pP b1, i6 m0.base_, i6 m0.size_, i6 m0.next_, i6 m0.last_, .slice p104 (m0.list_ ++ ([x1] : List ByteArray)).length c105, i6 m0.sure_, .bool m0.dead_] rfl rfl rfl rfl rfl rfl rfl (by kernel_rfl) (nw_H (H' := [own eStr 9 p102 1 ([x1] : List ByteArray), imm I, o1 b1 b2 x81 x82, o0 b2 p84 l83 c85 b89 x90 x91 x92 x93 x94 x95 x96, o3 b0 b1 m0.base_ m0.size_ m0.next_ m0.last_ p104 (m0.list_ ++ ([x1] : List ByteArray)) c105 m0.sure_ m0.dead_, own e_disk_sector 51 p84 c85 l83, mpo (kInt .i64) (fun x : disk_sector => Value.agg #[.string x.s_, i6 x.at_]) b89 l87, own eStr 9 p104 c105 (m0.list_ ++ ([x1] : List ByteArray))] ++ F0) rfl (aw_next (fun w hs => sat_pulls [1, 1, 1, 2, 2] (G := [own eStr 9 p102 1 ([x1] : List ByteArray), o3 b0 b1 m0.base_ m0.size_ m0.next_ m0.last_ p104 (m0.list_ ++ ([x1] : List ByteArray)) c105 m0.sure_ m0.dead_, own eStr 9 p104 c105 (m0.list_ ++ ([x1] : List ByteArray))] ++ F0) rfl hs) ?_)))
        refine aw_vals [20, 21] (f' := 4) (m' := 4194303) [102, 115, 116, 120] [(102, pP b0), (115, i6 (IntKind.i64.wrap (m0.next_ + x79))), (116, i6 x80), (120, .pointer (some ⟨b0, 3, none⟩))] (fun _ _ _ _ _ h => calm_fin (P := Tryz.prog) (fn := Tryz.f17) _ _ _ _ _ h) (fun w hs => sat_pulls [1, 1, 1, 2, 2] (G := [own eStr 9 p102 1 ([x1] : List ByteArray), o3 b0 b1 m0.base_ m0.size_ m0.next_ m0.last_ p104 (m0.list_ ++ ([x1] : List ByteArray)) c105 m0.sure_ m0.dead_, own eStr 9 p104 c105 (m0.list_ ++ ([x1] : List ByteArray))] ++ F0) rfl hs) rfl (by kernel_rfl) ?_
        refine aw_only 22 (m' := 8388607) (by kernel_rfl) (by kernel_rfl) (pw_store 4 #[pP b1, i6 m0.base_, i6 m0.size_, i6 (IntKind.i64.wrap (m0.next_ + x79)), i6 m0.last_, .slice p104 (m0.list_ ++ ([x1] : List ByteArray)).length c105, i6 m0.sure_, .bool m0.dead_] rfl rfl rfl rfl rfl rfl rfl (by kernel_rfl) (nw_H (H' := [own eStr 9 p102 1 ([x1] : List ByteArray), imm I, o1 b1 b2 x81 x82, o0 b2 p84 l83 c85 b89 x90 x91 x92 x93 x94 x95 x96, o3 b0 b1 m0.base_ m0.size_ (IntKind.i64.wrap (m0.next_ + x79)) m0.last_ p104 (m0.list_ ++ ([x1] : List ByteArray)) c105 m0.sure_ m0.dead_, own e_disk_sector 51 p84 c85 l83, mpo (kInt .i64) (fun x : disk_sector => Value.agg #[.string x.s_, i6 x.at_]) b89 l87, own eStr 9 p104 c105 (m0.list_ ++ ([x1] : List ByteArray))] ++ F0) rfl (aw_next (fun w hs => sat_pulls [1, 1, 1, 2, 2] (G := [own eStr 9 p102 1 ([x1] : List ByteArray), o3 b0 b1 m0.base_ m0.size_ (IntKind.i64.wrap (m0.next_ + x79)) m0.last_ p104 (m0.list_ ++ ([x1] : List ByteArray)) c105 m0.sure_ m0.dead_, own eStr 9 p104 c105 (m0.list_ ++ ([x1] : List ByteArray))] ++ F0) rfl hs) ?_)))
        refine aw_vals [23, 24] (f' := 1) (m' := 33554431) [116, 122] [(116, i6 x80), (122, .pointer (some ⟨b0, 4, none⟩))] (fun _ _ _ _ _ h => calm_fin (P := Tryz.prog) (fn := Tryz.f17) _ _ _ _ _ h) (fun w hs => sat_pulls [1, 1, 1, 2, 2] (G := [own eStr 9 p102 1 ([x1] : List ByteArray), o3 b0 b1 m0.base_ m0.size_ (IntKind.i64.wrap (m0.next_ + x79)) m0.last_ p104 (m0.list_ ++ ([x1] : List ByteArray)) c105 m0.sure_ m0.dead_, own eStr 9 p104 c105 (m0.list_ ++ ([x1] : List ByteArray))] ++ F0) rfl hs) rfl (by kernel_rfl) ?_
        refine aw_only 25 (m' := 67108863) (by kernel_rfl) (by kernel_rfl) (pw_store 4 #[pP b1, i6 m0.base_, i6 m0.size_, i6 (IntKind.i64.wrap (m0.next_ + x79)), i6 x80, .slice p104 (m0.list_ ++ ([x1] : List ByteArray)).length c105, i6 m0.sure_, .bool m0.dead_] rfl rfl rfl rfl rfl rfl rfl (by kernel_rfl) (nw_H (H' := [own eStr 9 p102 1 ([x1] : List ByteArray), imm I, o1 b1 b2 x81 x82, o0 b2 p84 l83 c85 b89 x90 x91 x92 x93 x94 x95 x96, o3 b0 b1 m0.base_ m0.size_ (IntKind.i64.wrap (m0.next_ + x79)) x80 p104 (m0.list_ ++ ([x1] : List ByteArray)) c105 m0.sure_ m0.dead_, own e_disk_sector 51 p84 c85 l83, mpo (kInt .i64) (fun x : disk_sector => Value.agg #[.string x.s_, i6 x.at_]) b89 l87, own eStr 9 p104 c105 (m0.list_ ++ ([x1] : List ByteArray))] ++ F0) rfl (aw_last (by kernel_rfl) ?_)))
        refine aw_keep [] (L' := []) rfl ?_
        refine aw_end (by kernel_rfl) ?_
        refine ew_then ?_
        refine cw_seq ?_
        refine cw_region ?_
        refine ow_vals 1 (j := 1) [4] [(4, i6 0)] rfl (by kernel_rfl) ?_
        refine ow_end rfl ?_
        refine ew_then ?_
        refine cw_ret ?_
        have hR := Option.some.inj hF
        subst hR
        exact fin1 (H1 := [imm I, o3 b0 b1 ((⟨m0.base_, m0.size_, IntKind.i64.wrap (m0.next_ + x79), x80, m0.list_ ++ ([x1] : List ByteArray), m0.sure_, m0.dead_⟩ : journal_Journal).base_) ((⟨m0.base_, m0.size_, IntKind.i64.wrap (m0.next_ + x79), x80, m0.list_ ++ ([x1] : List ByteArray), m0.sure_, m0.dead_⟩ : journal_Journal).size_) ((⟨m0.base_, m0.size_, IntKind.i64.wrap (m0.next_ + x79), x80, m0.list_ ++ ([x1] : List ByteArray), m0.sure_, m0.dead_⟩ : journal_Journal).next_) ((⟨m0.base_, m0.size_, IntKind.i64.wrap (m0.next_ + x79), x80, m0.list_ ++ ([x1] : List ByteArray), m0.sure_, m0.dead_⟩ : journal_Journal).last_) p104 ((⟨m0.base_, m0.size_, IntKind.i64.wrap (m0.next_ + x79), x80, m0.list_ ++ ([x1] : List ByteArray), m0.sure_, m0.dead_⟩ : journal_Journal).list_) c105 ((⟨m0.base_, m0.size_, IntKind.i64.wrap (m0.next_ + x79), x80, m0.list_ ++ ([x1] : List ByteArray), m0.sure_, m0.dead_⟩ : journal_Journal).sure_) ((⟨m0.base_, m0.size_, IntKind.i64.wrap (m0.next_ + x79), x80, m0.list_ ++ ([x1] : List ByteArray), m0.sure_, m0.dead_⟩ : journal_Journal).dead_), o1 b1 b2 ((⟨x81, x82⟩ : guard_Guard).boot_) ((⟨x81, x82⟩ : guard_Guard).n_), o0 b2 p84 ((⟨l83, l87, x90, x91, x92, (⟨x93, x94⟩ : disk_Fall), x95, x96⟩ : disk_Disk).sure_) c85 b89 ((⟨l83, l87, x90, x91, x92, (⟨x93, x94⟩ : disk_Fall), x95, x96⟩ : disk_Disk).off_) ((⟨l83, l87, x90, x91, x92, (⟨x93, x94⟩ : disk_Fall), x95, x96⟩ : disk_Disk).armed_) ((⟨l83, l87, x90, x91, x92, (⟨x93, x94⟩ : disk_Fall), x95, x96⟩ : disk_Disk).left_) (((⟨l83, l87, x90, x91, x92, (⟨x93, x94⟩ : disk_Fall), x95, x96⟩ : disk_Disk).fall_).Keep) (((⟨l83, l87, x90, x91, x92, (⟨x93, x94⟩ : disk_Fall), x95, x96⟩ : disk_Disk).fall_).Tear) ((⟨l83, l87, x90, x91, x92, (⟨x93, x94⟩ : disk_Fall), x95, x96⟩ : disk_Disk).acts_) ((⟨l83, l87, x90, x91, x92, (⟨x93, x94⟩ : disk_Fall), x95, x96⟩ : disk_Disk).falls_), own eStr 9 p104 c105 ((⟨m0.base_, m0.size_, IntKind.i64.wrap (m0.next_ + x79), x80, m0.list_ ++ ([x1] : List ByteArray), m0.sure_, m0.dead_⟩ : journal_Journal).list_), own e_disk_sector 51 p84 c85 ((⟨l83, l87, x90, x91, x92, (⟨x93, x94⟩ : disk_Fall), x95, x96⟩ : disk_Disk).sure_), mpo (kInt .i64) (fun x : disk_sector => Value.agg #[.string x.s_, i6 x.at_]) b89 ((⟨l83, l87, x90, x91, x92, (⟨x93, x94⟩ : disk_Fall), x95, x96⟩ : disk_Disk).wait_)]) (fun w hs => sat_to [0, 0, 2, 0, 0, 2, 0, 0] 1 rfl hs) rfl (rr_tmp rfl) ⟨p104, c105, p84, c85, b89, rfl, rfl⟩
      refine pw_quiet (v := i6 m0.next_) rfl rfl rfl rfl (q_load 4 rfl rfl rfl (by kernel_rfl)) (aw_next (fun w hs => sat_pulls [1, 1, 1, 2, 2] (G := [own eStr 9 p102 1 ([x1] : List ByteArray), o3 b0 b1 m0.base_ m0.size_ m0.next_ m0.last_ p0 m0.list_ c0 m0.sure_ m0.dead_, own eStr 9 p0 c0 m0.list_] ++ F0) rfl hs) ?_)
      refine aw_vals [15] (f' := 10) (m' := 130559) [100, 101, 102, 106, 108, 115, 116] [(100, pP b0), (101, pP b0), (102, pP b0), (106, .slice p0 m0.list_.length c0), (108, .slice p102 ([x1] : List ByteArray).length 1), (115, i6 (IntKind.i64.wrap (m0.next_ + x79))), (116, i6 x80)] (fun _ _ _ _ _ h => calm_fin (P := Tryz.prog) (fn := Tryz.f17) _ _ _ _ _ h) (fun w hs => sat_pulls [1, 1, 1, 2, 2] (G := [own eStr 9 p102 1 ([x1] : List ByteArray), o3 b0 b1 m0.base_ m0.size_ m0.next_ m0.last_ p0 m0.list_ c0 m0.sure_ m0.dead_, own eStr 9 p0 c0 m0.list_] ++ F0) rfl hs) rfl (by kernel_rfl) ?_
      refine aw_only 9 (m' := 131071) (by kernel_rfl) (by kernel_rfl) (pw_append 7 (l' := ([x1] : List ByteArray)) rfl rfl rfl rfl rfl rfl (by kernel_rfl) (by kernel_rfl) rfl rfl rfl (src_own (E' := 9) 0 rfl (by kernel_rfl) rfl) rfl h99.1 h99.2 fun p104 c105 => nw_H (H' := [own eStr 9 p102 1 ([x1] : List ByteArray), imm I, o1 b1 b2 x81 x82, o0 b2 p84 l83 c85 b89 x90 x91 x92 x93 x94 x95 x96, o3 b0 b1 m0.base_ m0.size_ m0.next_ m0.last_ p0 m0.list_ c0 m0.sure_ m0.dead_, own e_disk_sector 51 p84 c85 l83, mpo (kInt .i64) (fun x : disk_sector => Value.agg #[.string x.s_, i6 x.at_]) b89 l87, own eStr 9 p104 c105 (m0.list_ ++ ([x1] : List ByteArray))] ++ F0) rfl (aw_next (fun w hs => sat_pulls [1, 1, 1, 2, 2] (G := [own eStr 9 p102 1 ([x1] : List ByteArray), o3 b0 b1 m0.base_ m0.size_ m0.next_ m0.last_ p0 m0.list_ c0 m0.sure_ m0.dead_, own eStr 9 p104 c105 (m0.list_ ++ ([x1] : List ByteArray))] ++ F0) rfl hs) ?_))
      refine aw_vals [17, 18] (f' := 7) (m' := 524287) [101, 102, 109, 115, 116, 118] [(101, pP b0), (102, pP b0), (109, .slice p104 (m0.list_ ++ ([x1] : List ByteArray)).length c105), (115, i6 (IntKind.i64.wrap (m0.next_ + x79))), (116, i6 x80), (118, .pointer (some ⟨b0, 5, none⟩))] (fun _ _ _ _ _ h => calm_fin (P := Tryz.prog) (fn := Tryz.f17) _ _ _ _ _ h) (fun w hs => sat_pulls [1, 1, 1, 2, 2] (G := [own eStr 9 p102 1 ([x1] : List ByteArray), o3 b0 b1 m0.base_ m0.size_ m0.next_ m0.last_ p0 m0.list_ c0 m0.sure_ m0.dead_, own eStr 9 p104 c105 (m0.list_ ++ ([x1] : List ByteArray))] ++ F0) rfl hs) rfl (by kernel_rfl) ?_
      refine aw_only 19 (m' := 1048575) (by kernel_rfl) (by kernel_rfl) (pw_store 4 #[pP b1, i6 m0.base_, i6 m0.size_, i6 m0.next_, i6 m0.last_, .slice p104 (m0.list_ ++ ([x1] : List ByteArray)).length c105, i6 m0.sure_, .bool m0.dead_] rfl rfl rfl rfl rfl rfl rfl (by kernel_rfl) (nw_H (H' := [own eStr 9 p102 1 ([x1] : List ByteArray), imm I, o1 b1 b2 x81 x82, o0 b2 p84 l83 c85 b89 x90 x91 x92 x93 x94 x95 x96, o3 b0 b1 m0.base_ m0.size_ m0.next_ m0.last_ p104 (m0.list_ ++ ([x1] : List ByteArray)) c105 m0.sure_ m0.dead_, own e_disk_sector 51 p84 c85 l83, mpo (kInt .i64) (fun x : disk_sector => Value.agg #[.string x.s_, i6 x.at_]) b89 l87, own eStr 9 p104 c105 (m0.list_ ++ ([x1] : List ByteArray))] ++ F0) rfl (aw_next (fun w hs => sat_pulls [1, 1, 1, 2, 2] (G := [own eStr 9 p102 1 ([x1] : List ByteArray), o3 b0 b1 m0.base_ m0.size_ m0.next_ m0.last_ p104 (m0.list_ ++ ([x1] : List ByteArray)) c105 m0.sure_ m0.dead_, own eStr 9 p104 c105 (m0.list_ ++ ([x1] : List ByteArray))] ++ F0) rfl hs) ?_)))
      refine aw_vals [20, 21] (f' := 4) (m' := 4194303) [102, 115, 116, 120] [(102, pP b0), (115, i6 (IntKind.i64.wrap (m0.next_ + x79))), (116, i6 x80), (120, .pointer (some ⟨b0, 3, none⟩))] (fun _ _ _ _ _ h => calm_fin (P := Tryz.prog) (fn := Tryz.f17) _ _ _ _ _ h) (fun w hs => sat_pulls [1, 1, 1, 2, 2] (G := [own eStr 9 p102 1 ([x1] : List ByteArray), o3 b0 b1 m0.base_ m0.size_ m0.next_ m0.last_ p104 (m0.list_ ++ ([x1] : List ByteArray)) c105 m0.sure_ m0.dead_, own eStr 9 p104 c105 (m0.list_ ++ ([x1] : List ByteArray))] ++ F0) rfl hs) rfl (by kernel_rfl) ?_
      refine aw_only 22 (m' := 8388607) (by kernel_rfl) (by kernel_rfl) (pw_store 4 #[pP b1, i6 m0.base_, i6 m0.size_, i6 (IntKind.i64.wrap (m0.next_ + x79)), i6 m0.last_, .slice p104 (m0.list_ ++ ([x1] : List ByteArray)).length c105, i6 m0.sure_, .bool m0.dead_] rfl rfl rfl rfl rfl rfl rfl (by kernel_rfl) (nw_H (H' := [own eStr 9 p102 1 ([x1] : List ByteArray), imm I, o1 b1 b2 x81 x82, o0 b2 p84 l83 c85 b89 x90 x91 x92 x93 x94 x95 x96, o3 b0 b1 m0.base_ m0.size_ (IntKind.i64.wrap (m0.next_ + x79)) m0.last_ p104 (m0.list_ ++ ([x1] : List ByteArray)) c105 m0.sure_ m0.dead_, own e_disk_sector 51 p84 c85 l83, mpo (kInt .i64) (fun x : disk_sector => Value.agg #[.string x.s_, i6 x.at_]) b89 l87, own eStr 9 p104 c105 (m0.list_ ++ ([x1] : List ByteArray))] ++ F0) rfl (aw_next (fun w hs => sat_pulls [1, 1, 1, 2, 2] (G := [own eStr 9 p102 1 ([x1] : List ByteArray), o3 b0 b1 m0.base_ m0.size_ (IntKind.i64.wrap (m0.next_ + x79)) m0.last_ p104 (m0.list_ ++ ([x1] : List ByteArray)) c105 m0.sure_ m0.dead_, own eStr 9 p104 c105 (m0.list_ ++ ([x1] : List ByteArray))] ++ F0) rfl hs) ?_)))
      refine aw_vals [23, 24] (f' := 1) (m' := 33554431) [116, 122] [(116, i6 x80), (122, .pointer (some ⟨b0, 4, none⟩))] (fun _ _ _ _ _ h => calm_fin (P := Tryz.prog) (fn := Tryz.f17) _ _ _ _ _ h) (fun w hs => sat_pulls [1, 1, 1, 2, 2] (G := [own eStr 9 p102 1 ([x1] : List ByteArray), o3 b0 b1 m0.base_ m0.size_ (IntKind.i64.wrap (m0.next_ + x79)) m0.last_ p104 (m0.list_ ++ ([x1] : List ByteArray)) c105 m0.sure_ m0.dead_, own eStr 9 p104 c105 (m0.list_ ++ ([x1] : List ByteArray))] ++ F0) rfl hs) rfl (by kernel_rfl) ?_
      refine aw_only 25 (m' := 67108863) (by kernel_rfl) (by kernel_rfl) (pw_store 4 #[pP b1, i6 m0.base_, i6 m0.size_, i6 (IntKind.i64.wrap (m0.next_ + x79)), i6 x80, .slice p104 (m0.list_ ++ ([x1] : List ByteArray)).length c105, i6 m0.sure_, .bool m0.dead_] rfl rfl rfl rfl rfl rfl rfl (by kernel_rfl) (nw_H (H' := [own eStr 9 p102 1 ([x1] : List ByteArray), imm I, o1 b1 b2 x81 x82, o0 b2 p84 l83 c85 b89 x90 x91 x92 x93 x94 x95 x96, o3 b0 b1 m0.base_ m0.size_ (IntKind.i64.wrap (m0.next_ + x79)) x80 p104 (m0.list_ ++ ([x1] : List ByteArray)) c105 m0.sure_ m0.dead_, own e_disk_sector 51 p84 c85 l83, mpo (kInt .i64) (fun x : disk_sector => Value.agg #[.string x.s_, i6 x.at_]) b89 l87, own eStr 9 p104 c105 (m0.list_ ++ ([x1] : List ByteArray))] ++ F0) rfl (aw_last (by kernel_rfl) ?_)))
      refine aw_keep [] (L' := []) rfl ?_
      refine aw_end (by kernel_rfl) ?_
      refine ew_then ?_
      refine cw_seq ?_
      refine cw_region ?_
      refine ow_vals 1 (j := 1) [4] [(4, i6 0)] rfl (by kernel_rfl) ?_
      refine ow_end rfl ?_
      refine ew_then ?_
      refine cw_ret ?_
      have hR := Option.some.inj hF
      subst hR
      exact fin1 (H1 := [imm I, o3 b0 b1 ((⟨m0.base_, m0.size_, IntKind.i64.wrap (m0.next_ + x79), x80, m0.list_ ++ ([x1] : List ByteArray), m0.sure_, m0.dead_⟩ : journal_Journal).base_) ((⟨m0.base_, m0.size_, IntKind.i64.wrap (m0.next_ + x79), x80, m0.list_ ++ ([x1] : List ByteArray), m0.sure_, m0.dead_⟩ : journal_Journal).size_) ((⟨m0.base_, m0.size_, IntKind.i64.wrap (m0.next_ + x79), x80, m0.list_ ++ ([x1] : List ByteArray), m0.sure_, m0.dead_⟩ : journal_Journal).next_) ((⟨m0.base_, m0.size_, IntKind.i64.wrap (m0.next_ + x79), x80, m0.list_ ++ ([x1] : List ByteArray), m0.sure_, m0.dead_⟩ : journal_Journal).last_) p104 ((⟨m0.base_, m0.size_, IntKind.i64.wrap (m0.next_ + x79), x80, m0.list_ ++ ([x1] : List ByteArray), m0.sure_, m0.dead_⟩ : journal_Journal).list_) c105 ((⟨m0.base_, m0.size_, IntKind.i64.wrap (m0.next_ + x79), x80, m0.list_ ++ ([x1] : List ByteArray), m0.sure_, m0.dead_⟩ : journal_Journal).sure_) ((⟨m0.base_, m0.size_, IntKind.i64.wrap (m0.next_ + x79), x80, m0.list_ ++ ([x1] : List ByteArray), m0.sure_, m0.dead_⟩ : journal_Journal).dead_), o1 b1 b2 ((⟨x81, x82⟩ : guard_Guard).boot_) ((⟨x81, x82⟩ : guard_Guard).n_), o0 b2 p84 ((⟨l83, l87, x90, x91, x92, (⟨x93, x94⟩ : disk_Fall), x95, x96⟩ : disk_Disk).sure_) c85 b89 ((⟨l83, l87, x90, x91, x92, (⟨x93, x94⟩ : disk_Fall), x95, x96⟩ : disk_Disk).off_) ((⟨l83, l87, x90, x91, x92, (⟨x93, x94⟩ : disk_Fall), x95, x96⟩ : disk_Disk).armed_) ((⟨l83, l87, x90, x91, x92, (⟨x93, x94⟩ : disk_Fall), x95, x96⟩ : disk_Disk).left_) (((⟨l83, l87, x90, x91, x92, (⟨x93, x94⟩ : disk_Fall), x95, x96⟩ : disk_Disk).fall_).Keep) (((⟨l83, l87, x90, x91, x92, (⟨x93, x94⟩ : disk_Fall), x95, x96⟩ : disk_Disk).fall_).Tear) ((⟨l83, l87, x90, x91, x92, (⟨x93, x94⟩ : disk_Fall), x95, x96⟩ : disk_Disk).acts_) ((⟨l83, l87, x90, x91, x92, (⟨x93, x94⟩ : disk_Fall), x95, x96⟩ : disk_Disk).falls_), own eStr 9 p104 c105 ((⟨m0.base_, m0.size_, IntKind.i64.wrap (m0.next_ + x79), x80, m0.list_ ++ ([x1] : List ByteArray), m0.sure_, m0.dead_⟩ : journal_Journal).list_), own e_disk_sector 51 p84 c85 ((⟨l83, l87, x90, x91, x92, (⟨x93, x94⟩ : disk_Fall), x95, x96⟩ : disk_Disk).sure_), mpo (kInt .i64) (fun x : disk_sector => Value.agg #[.string x.s_, i6 x.at_]) b89 ((⟨l83, l87, x90, x91, x92, (⟨x93, x94⟩ : disk_Fall), x95, x96⟩ : disk_Disk).wait_)]) (fun w hs => sat_to [0, 0, 2, 0, 0, 2, 0, 0] 1 rfl hs) rfl (rr_tmp rfl) ⟨p104, c105, p84, c85, b89, rfl, rfl⟩
    refine pw_quiet (v := i6 m0.next_) rfl rfl rfl rfl (q_load 3 rfl rfl rfl (by kernel_rfl)) (aw_next (fun w hs => sat_pulls [0, 0, 0, 1, 1] (G := [o3 b0 b1 m0.base_ m0.size_ m0.next_ m0.last_ p0 m0.list_ c0 m0.sure_ m0.dead_, own eStr 9 p0 c0 m0.list_] ++ F0) rfl hs) ?_)
    refine aw_vals [15] (f' := 11) (m' := 130303) [100, 101, 102, 106, 107, 115, 116] [(100, pP b0), (101, pP b0), (102, pP b0), (106, .slice p0 m0.list_.length c0), (107, .string x1), (115, i6 (IntKind.i64.wrap (m0.next_ + x79))), (116, i6 x80)] (fun _ _ _ _ _ h => calm_fin (P := Tryz.prog) (fn := Tryz.f17) _ _ _ _ _ h) (fun w hs => sat_pulls [0, 0, 0, 1, 1] (G := [o3 b0 b1 m0.base_ m0.size_ m0.next_ m0.last_ p0 m0.list_ c0 m0.sure_ m0.dead_, own eStr 9 p0 c0 m0.list_] ++ F0) rfl hs) rfl (by kernel_rfl) ?_
    refine aw_only 8 (m' := 130559) (by kernel_rfl) (by kernel_rfl) (pw_buildSlice (E := 9) eStr ([x1] : List ByteArray) rfl rfl rfl rfl rfl (by kernel_rfl) rfl (by kernel_rfl) rfl (by decide) rfl fun p102 => aw_next (fun w hs => sat_pulls [1, 1, 1, 2, 2] (G := [own eStr 9 p102 1 ([x1] : List ByteArray), o3 b0 b1 m0.base_ m0.size_ m0.next_ m0.last_ p0 m0.list_ c0 m0.sure_ m0.dead_, own eStr 9 p0 c0 m0.list_] ++ F0) rfl hs) ?_)
    refine aw_only 9 (m' := 131071) (by kernel_rfl) (by kernel_rfl) (pw_append 7 (l' := ([x1] : List ByteArray)) rfl rfl rfl rfl rfl rfl (by kernel_rfl) (by kernel_rfl) rfl rfl rfl (src_own (E' := 9) 0 rfl (by kernel_rfl) rfl) rfl h99.1 h99.2 fun p104 c105 => nw_H (H' := [own eStr 9 p102 1 ([x1] : List ByteArray), imm I, o1 b1 b2 x81 x82, o0 b2 p84 l83 c85 b89 x90 x91 x92 x93 x94 x95 x96, o3 b0 b1 m0.base_ m0.size_ m0.next_ m0.last_ p0 m0.list_ c0 m0.sure_ m0.dead_, own e_disk_sector 51 p84 c85 l83, mpo (kInt .i64) (fun x : disk_sector => Value.agg #[.string x.s_, i6 x.at_]) b89 l87, own eStr 9 p104 c105 (m0.list_ ++ ([x1] : List ByteArray))] ++ F0) rfl (aw_next (fun w hs => sat_pulls [1, 1, 1, 2, 2] (G := [own eStr 9 p102 1 ([x1] : List ByteArray), o3 b0 b1 m0.base_ m0.size_ m0.next_ m0.last_ p0 m0.list_ c0 m0.sure_ m0.dead_, own eStr 9 p104 c105 (m0.list_ ++ ([x1] : List ByteArray))] ++ F0) rfl hs) ?_))
    refine aw_vals [17, 18] (f' := 7) (m' := 524287) [101, 102, 109, 115, 116, 118] [(101, pP b0), (102, pP b0), (109, .slice p104 (m0.list_ ++ ([x1] : List ByteArray)).length c105), (115, i6 (IntKind.i64.wrap (m0.next_ + x79))), (116, i6 x80), (118, .pointer (some ⟨b0, 5, none⟩))] (fun _ _ _ _ _ h => calm_fin (P := Tryz.prog) (fn := Tryz.f17) _ _ _ _ _ h) (fun w hs => sat_pulls [1, 1, 1, 2, 2] (G := [own eStr 9 p102 1 ([x1] : List ByteArray), o3 b0 b1 m0.base_ m0.size_ m0.next_ m0.last_ p0 m0.list_ c0 m0.sure_ m0.dead_, own eStr 9 p104 c105 (m0.list_ ++ ([x1] : List ByteArray))] ++ F0) rfl hs) rfl (by kernel_rfl) ?_
    refine aw_only 19 (m' := 1048575) (by kernel_rfl) (by kernel_rfl) (pw_store 4 #[pP b1, i6 m0.base_, i6 m0.size_, i6 m0.next_, i6 m0.last_, .slice p104 (m0.list_ ++ ([x1] : List ByteArray)).length c105, i6 m0.sure_, .bool m0.dead_] rfl rfl rfl rfl rfl rfl rfl (by kernel_rfl) (nw_H (H' := [own eStr 9 p102 1 ([x1] : List ByteArray), imm I, o1 b1 b2 x81 x82, o0 b2 p84 l83 c85 b89 x90 x91 x92 x93 x94 x95 x96, o3 b0 b1 m0.base_ m0.size_ m0.next_ m0.last_ p104 (m0.list_ ++ ([x1] : List ByteArray)) c105 m0.sure_ m0.dead_, own e_disk_sector 51 p84 c85 l83, mpo (kInt .i64) (fun x : disk_sector => Value.agg #[.string x.s_, i6 x.at_]) b89 l87, own eStr 9 p104 c105 (m0.list_ ++ ([x1] : List ByteArray))] ++ F0) rfl (aw_next (fun w hs => sat_pulls [1, 1, 1, 2, 2] (G := [own eStr 9 p102 1 ([x1] : List ByteArray), o3 b0 b1 m0.base_ m0.size_ m0.next_ m0.last_ p104 (m0.list_ ++ ([x1] : List ByteArray)) c105 m0.sure_ m0.dead_, own eStr 9 p104 c105 (m0.list_ ++ ([x1] : List ByteArray))] ++ F0) rfl hs) ?_)))
    refine aw_vals [20, 21] (f' := 4) (m' := 4194303) [102, 115, 116, 120] [(102, pP b0), (115, i6 (IntKind.i64.wrap (m0.next_ + x79))), (116, i6 x80), (120, .pointer (some ⟨b0, 3, none⟩))] (fun _ _ _ _ _ h => calm_fin (P := Tryz.prog) (fn := Tryz.f17) _ _ _ _ _ h) (fun w hs => sat_pulls [1, 1, 1, 2, 2] (G := [own eStr 9 p102 1 ([x1] : List ByteArray), o3 b0 b1 m0.base_ m0.size_ m0.next_ m0.last_ p104 (m0.list_ ++ ([x1] : List ByteArray)) c105 m0.sure_ m0.dead_, own eStr 9 p104 c105 (m0.list_ ++ ([x1] : List ByteArray))] ++ F0) rfl hs) rfl (by kernel_rfl) ?_
    refine aw_only 22 (m' := 8388607) (by kernel_rfl) (by kernel_rfl) (pw_store 4 #[pP b1, i6 m0.base_, i6 m0.size_, i6 (IntKind.i64.wrap (m0.next_ + x79)), i6 m0.last_, .slice p104 (m0.list_ ++ ([x1] : List ByteArray)).length c105, i6 m0.sure_, .bool m0.dead_] rfl rfl rfl rfl rfl rfl rfl (by kernel_rfl) (nw_H (H' := [own eStr 9 p102 1 ([x1] : List ByteArray), imm I, o1 b1 b2 x81 x82, o0 b2 p84 l83 c85 b89 x90 x91 x92 x93 x94 x95 x96, o3 b0 b1 m0.base_ m0.size_ (IntKind.i64.wrap (m0.next_ + x79)) m0.last_ p104 (m0.list_ ++ ([x1] : List ByteArray)) c105 m0.sure_ m0.dead_, own e_disk_sector 51 p84 c85 l83, mpo (kInt .i64) (fun x : disk_sector => Value.agg #[.string x.s_, i6 x.at_]) b89 l87, own eStr 9 p104 c105 (m0.list_ ++ ([x1] : List ByteArray))] ++ F0) rfl (aw_next (fun w hs => sat_pulls [1, 1, 1, 2, 2] (G := [own eStr 9 p102 1 ([x1] : List ByteArray), o3 b0 b1 m0.base_ m0.size_ (IntKind.i64.wrap (m0.next_ + x79)) m0.last_ p104 (m0.list_ ++ ([x1] : List ByteArray)) c105 m0.sure_ m0.dead_, own eStr 9 p104 c105 (m0.list_ ++ ([x1] : List ByteArray))] ++ F0) rfl hs) ?_)))
    refine aw_vals [23, 24] (f' := 1) (m' := 33554431) [116, 122] [(116, i6 x80), (122, .pointer (some ⟨b0, 4, none⟩))] (fun _ _ _ _ _ h => calm_fin (P := Tryz.prog) (fn := Tryz.f17) _ _ _ _ _ h) (fun w hs => sat_pulls [1, 1, 1, 2, 2] (G := [own eStr 9 p102 1 ([x1] : List ByteArray), o3 b0 b1 m0.base_ m0.size_ (IntKind.i64.wrap (m0.next_ + x79)) m0.last_ p104 (m0.list_ ++ ([x1] : List ByteArray)) c105 m0.sure_ m0.dead_, own eStr 9 p104 c105 (m0.list_ ++ ([x1] : List ByteArray))] ++ F0) rfl hs) rfl (by kernel_rfl) ?_
    refine aw_only 25 (m' := 67108863) (by kernel_rfl) (by kernel_rfl) (pw_store 4 #[pP b1, i6 m0.base_, i6 m0.size_, i6 (IntKind.i64.wrap (m0.next_ + x79)), i6 x80, .slice p104 (m0.list_ ++ ([x1] : List ByteArray)).length c105, i6 m0.sure_, .bool m0.dead_] rfl rfl rfl rfl rfl rfl rfl (by kernel_rfl) (nw_H (H' := [own eStr 9 p102 1 ([x1] : List ByteArray), imm I, o1 b1 b2 x81 x82, o0 b2 p84 l83 c85 b89 x90 x91 x92 x93 x94 x95 x96, o3 b0 b1 m0.base_ m0.size_ (IntKind.i64.wrap (m0.next_ + x79)) x80 p104 (m0.list_ ++ ([x1] : List ByteArray)) c105 m0.sure_ m0.dead_, own e_disk_sector 51 p84 c85 l83, mpo (kInt .i64) (fun x : disk_sector => Value.agg #[.string x.s_, i6 x.at_]) b89 l87, own eStr 9 p104 c105 (m0.list_ ++ ([x1] : List ByteArray))] ++ F0) rfl (aw_last (by kernel_rfl) ?_)))
    refine aw_keep [] (L' := []) rfl ?_
    refine aw_end (by kernel_rfl) ?_
    refine ew_then ?_
    refine cw_seq ?_
    refine cw_region ?_
    refine ow_vals 1 (j := 1) [4] [(4, i6 0)] rfl (by kernel_rfl) ?_
    refine ow_end rfl ?_
    refine ew_then ?_
    refine cw_ret ?_
    have hR := Option.some.inj hF
    subst hR
    exact fin1 (H1 := [imm I, o3 b0 b1 ((⟨m0.base_, m0.size_, IntKind.i64.wrap (m0.next_ + x79), x80, m0.list_ ++ ([x1] : List ByteArray), m0.sure_, m0.dead_⟩ : journal_Journal).base_) ((⟨m0.base_, m0.size_, IntKind.i64.wrap (m0.next_ + x79), x80, m0.list_ ++ ([x1] : List ByteArray), m0.sure_, m0.dead_⟩ : journal_Journal).size_) ((⟨m0.base_, m0.size_, IntKind.i64.wrap (m0.next_ + x79), x80, m0.list_ ++ ([x1] : List ByteArray), m0.sure_, m0.dead_⟩ : journal_Journal).next_) ((⟨m0.base_, m0.size_, IntKind.i64.wrap (m0.next_ + x79), x80, m0.list_ ++ ([x1] : List ByteArray), m0.sure_, m0.dead_⟩ : journal_Journal).last_) p104 ((⟨m0.base_, m0.size_, IntKind.i64.wrap (m0.next_ + x79), x80, m0.list_ ++ ([x1] : List ByteArray), m0.sure_, m0.dead_⟩ : journal_Journal).list_) c105 ((⟨m0.base_, m0.size_, IntKind.i64.wrap (m0.next_ + x79), x80, m0.list_ ++ ([x1] : List ByteArray), m0.sure_, m0.dead_⟩ : journal_Journal).sure_) ((⟨m0.base_, m0.size_, IntKind.i64.wrap (m0.next_ + x79), x80, m0.list_ ++ ([x1] : List ByteArray), m0.sure_, m0.dead_⟩ : journal_Journal).dead_), o1 b1 b2 ((⟨x81, x82⟩ : guard_Guard).boot_) ((⟨x81, x82⟩ : guard_Guard).n_), o0 b2 p84 ((⟨l83, l87, x90, x91, x92, (⟨x93, x94⟩ : disk_Fall), x95, x96⟩ : disk_Disk).sure_) c85 b89 ((⟨l83, l87, x90, x91, x92, (⟨x93, x94⟩ : disk_Fall), x95, x96⟩ : disk_Disk).off_) ((⟨l83, l87, x90, x91, x92, (⟨x93, x94⟩ : disk_Fall), x95, x96⟩ : disk_Disk).armed_) ((⟨l83, l87, x90, x91, x92, (⟨x93, x94⟩ : disk_Fall), x95, x96⟩ : disk_Disk).left_) (((⟨l83, l87, x90, x91, x92, (⟨x93, x94⟩ : disk_Fall), x95, x96⟩ : disk_Disk).fall_).Keep) (((⟨l83, l87, x90, x91, x92, (⟨x93, x94⟩ : disk_Fall), x95, x96⟩ : disk_Disk).fall_).Tear) ((⟨l83, l87, x90, x91, x92, (⟨x93, x94⟩ : disk_Fall), x95, x96⟩ : disk_Disk).acts_) ((⟨l83, l87, x90, x91, x92, (⟨x93, x94⟩ : disk_Fall), x95, x96⟩ : disk_Disk).falls_), own eStr 9 p104 c105 ((⟨m0.base_, m0.size_, IntKind.i64.wrap (m0.next_ + x79), x80, m0.list_ ++ ([x1] : List ByteArray), m0.sure_, m0.dead_⟩ : journal_Journal).list_), own e_disk_sector 51 p84 c85 ((⟨l83, l87, x90, x91, x92, (⟨x93, x94⟩ : disk_Fall), x95, x96⟩ : disk_Disk).sure_), mpo (kInt .i64) (fun x : disk_sector => Value.agg #[.string x.s_, i6 x.at_]) b89 ((⟨l83, l87, x90, x91, x92, (⟨x93, x94⟩ : disk_Fall), x95, x96⟩ : disk_Disk).wait_)]) (fun w hs => sat_to [0, 0, 2, 0, 0, 2, 0, 0] 1 rfl hs) rfl (rr_tmp rfl) ⟨p104, c105, p84, c85, b89, rfl, rfl⟩
  · refine pw_buildSlice (E := 9) eStr ([x1] : List ByteArray) rfl rfl rfl rfl rfl (by kernel_rfl) rfl (by kernel_rfl) rfl (by decide) rfl fun p102 => aw_next (fun w hs => sat_pulls [1, 1, 1, 2, 2] (G := [own eStr 9 p102 1 ([x1] : List ByteArray), o3 b0 b1 m0.base_ m0.size_ m0.next_ m0.last_ p0 m0.list_ c0 m0.sure_ m0.dead_, own eStr 9 p0 c0 m0.list_] ++ F0) rfl hs) ?_
    refine aw_two 6 13 (mi := 89599) (mj := 97727) (by kernel_rfl) (by kernel_rfl) (by kernel_rfl) ?_ ?_
    · refine pw_quiet (v := .slice p0 m0.list_.length c0) rfl rfl rfl rfl (q_load 4 rfl rfl rfl (by kernel_rfl)) (aw_next (fun w hs => sat_pulls [1, 1, 1, 2, 2] (G := [own eStr 9 p102 1 ([x1] : List ByteArray), o3 b0 b1 m0.base_ m0.size_ m0.next_ m0.last_ p0 m0.list_ c0 m0.sure_ m0.dead_, own eStr 9 p0 c0 m0.list_] ++ F0) rfl hs) ?_)
      refine aw_two 9 13 (mi := 90111) (mj := 97791) (by kernel_rfl) (by kernel_rfl) (by kernel_rfl) ?_ ?_
      · refine pw_append 7 (l' := ([x1] : List ByteArray)) rfl rfl rfl rfl rfl rfl (by kernel_rfl) (by kernel_rfl) rfl rfl rfl (src_own (E' := 9) 0 rfl (by kernel_rfl) rfl) rfl h99.1 h99.2 fun p104 c105 => nw_H (H' := [own eStr 9 p102 1 ([x1] : List ByteArray), imm I, o1 b1 b2 x81 x82, o0 b2 p84 l83 c85 b89 x90 x91 x92 x93 x94 x95 x96, o3 b0 b1 m0.base_ m0.size_ m0.next_ m0.last_ p0 m0.list_ c0 m0.sure_ m0.dead_, own e_disk_sector 51 p84 c85 l83, mpo (kInt .i64) (fun x : disk_sector => Value.agg #[.string x.s_, i6 x.at_]) b89 l87, own eStr 9 p104 c105 (m0.list_ ++ ([x1] : List ByteArray))] ++ F0) rfl (aw_next (fun w hs => sat_pulls [1, 1, 1, 2, 2] (G := [own eStr 9 p102 1 ([x1] : List ByteArray), o3 b0 b1 m0.base_ m0.size_ m0.next_ m0.last_ p0 m0.list_ c0 m0.sure_ m0.dead_, own eStr 9 p104 c105 (m0.list_ ++ ([x1] : List ByteArray))] ++ F0) rfl hs) ?_)
        refine aw_only 13 (m' := 98303) (by kernel_rfl) (by kernel_rfl) (pw_quiet (v := i6 m0.next_) rfl rfl rfl rfl (q_load 4 rfl rfl rfl (by kernel_rfl)) (aw_next (fun w hs => sat_pulls [1, 1, 1, 2, 2] (G := [own eStr 9 p102 1 ([x1] : List ByteArray), o3 b0 b1 m0.base_ m0.size_ m0.next_ m0.last_ p0 m0.list_ c0 m0.sure_ m0.dead_, own eStr 9 p104 c105 (m0.list_ ++ ([x1] : List ByteArray))] ++ F0) rfl hs) ?_))
        refine aw_vals [15, 17, 18] (f' := 7) (m' := 524287) [101, 102, 109, 115, 116, 118] [(101, pP b0), (102, pP b0), (109, .slice p104 (m0.list_ ++ ([x1] : List ByteArray)).length c105), (115, i6 (IntKind.i64.wrap (m0.next_ + x79))), (116, i6 x80), (118, .pointer (some ⟨b0, 5, none⟩))] (fun _ _ _ _ _ h => calm_fin (P := Tryz.prog) (fn := Tryz.f17) _ _ _ _ _ h) (fun w hs => sat_pulls [1, 1, 1, 2, 2] (G := [own eStr 9 p102 1 ([x1] : List ByteArray), o3 b0 b1 m0.base_ m0.size_ m0.next_ m0.last_ p0 m0.list_ c0 m0.sure_ m0.dead_, own eStr 9 p104 c105 (m0.list_ ++ ([x1] : List ByteArray))] ++ F0) rfl hs) rfl (by kernel_rfl) ?_
        refine aw_only 19 (m' := 1048575) (by kernel_rfl) (by kernel_rfl) (pw_store 4 #[pP b1, i6 m0.base_, i6 m0.size_, i6 m0.next_, i6 m0.last_, .slice p104 (m0.list_ ++ ([x1] : List ByteArray)).length c105, i6 m0.sure_, .bool m0.dead_] rfl rfl rfl rfl rfl rfl rfl (by kernel_rfl) (nw_H (H' := [own eStr 9 p102 1 ([x1] : List ByteArray), imm I, o1 b1 b2 x81 x82, o0 b2 p84 l83 c85 b89 x90 x91 x92 x93 x94 x95 x96, o3 b0 b1 m0.base_ m0.size_ m0.next_ m0.last_ p104 (m0.list_ ++ ([x1] : List ByteArray)) c105 m0.sure_ m0.dead_, own e_disk_sector 51 p84 c85 l83, mpo (kInt .i64) (fun x : disk_sector => Value.agg #[.string x.s_, i6 x.at_]) b89 l87, own eStr 9 p104 c105 (m0.list_ ++ ([x1] : List ByteArray))] ++ F0) rfl (aw_next (fun w hs => sat_pulls [1, 1, 1, 2, 2] (G := [own eStr 9 p102 1 ([x1] : List ByteArray), o3 b0 b1 m0.base_ m0.size_ m0.next_ m0.last_ p104 (m0.list_ ++ ([x1] : List ByteArray)) c105 m0.sure_ m0.dead_, own eStr 9 p104 c105 (m0.list_ ++ ([x1] : List ByteArray))] ++ F0) rfl hs) ?_)))
        refine aw_vals [20, 21] (f' := 4) (m' := 4194303) [102, 115, 116, 120] [(102, pP b0), (115, i6 (IntKind.i64.wrap (m0.next_ + x79))), (116, i6 x80), (120, .pointer (some ⟨b0, 3, none⟩))] (fun _ _ _ _ _ h => calm_fin (P := Tryz.prog) (fn := Tryz.f17) _ _ _ _ _ h) (fun w hs => sat_pulls [1, 1, 1, 2, 2] (G := [own eStr 9 p102 1 ([x1] : List ByteArray), o3 b0 b1 m0.base_ m0.size_ m0.next_ m0.last_ p104 (m0.list_ ++ ([x1] : List ByteArray)) c105 m0.sure_ m0.dead_, own eStr 9 p104 c105 (m0.list_ ++ ([x1] : List ByteArray))] ++ F0) rfl hs) rfl (by kernel_rfl) ?_
        refine aw_only 22 (m' := 8388607) (by kernel_rfl) (by kernel_rfl) (pw_store 4 #[pP b1, i6 m0.base_, i6 m0.size_, i6 (IntKind.i64.wrap (m0.next_ + x79)), i6 m0.last_, .slice p104 (m0.list_ ++ ([x1] : List ByteArray)).length c105, i6 m0.sure_, .bool m0.dead_] rfl rfl rfl rfl rfl rfl rfl (by kernel_rfl) (nw_H (H' := [own eStr 9 p102 1 ([x1] : List ByteArray), imm I, o1 b1 b2 x81 x82, o0 b2 p84 l83 c85 b89 x90 x91 x92 x93 x94 x95 x96, o3 b0 b1 m0.base_ m0.size_ (IntKind.i64.wrap (m0.next_ + x79)) m0.last_ p104 (m0.list_ ++ ([x1] : List ByteArray)) c105 m0.sure_ m0.dead_, own e_disk_sector 51 p84 c85 l83, mpo (kInt .i64) (fun x : disk_sector => Value.agg #[.string x.s_, i6 x.at_]) b89 l87, own eStr 9 p104 c105 (m0.list_ ++ ([x1] : List ByteArray))] ++ F0) rfl (aw_next (fun w hs => sat_pulls [1, 1, 1, 2, 2] (G := [own eStr 9 p102 1 ([x1] : List ByteArray), o3 b0 b1 m0.base_ m0.size_ (IntKind.i64.wrap (m0.next_ + x79)) m0.last_ p104 (m0.list_ ++ ([x1] : List ByteArray)) c105 m0.sure_ m0.dead_, own eStr 9 p104 c105 (m0.list_ ++ ([x1] : List ByteArray))] ++ F0) rfl hs) ?_)))
        refine aw_vals [23, 24] (f' := 1) (m' := 33554431) [116, 122] [(116, i6 x80), (122, .pointer (some ⟨b0, 4, none⟩))] (fun _ _ _ _ _ h => calm_fin (P := Tryz.prog) (fn := Tryz.f17) _ _ _ _ _ h) (fun w hs => sat_pulls [1, 1, 1, 2, 2] (G := [own eStr 9 p102 1 ([x1] : List ByteArray), o3 b0 b1 m0.base_ m0.size_ (IntKind.i64.wrap (m0.next_ + x79)) m0.last_ p104 (m0.list_ ++ ([x1] : List ByteArray)) c105 m0.sure_ m0.dead_, own eStr 9 p104 c105 (m0.list_ ++ ([x1] : List ByteArray))] ++ F0) rfl hs) rfl (by kernel_rfl) ?_
        refine aw_only 25 (m' := 67108863) (by kernel_rfl) (by kernel_rfl) (pw_store 4 #[pP b1, i6 m0.base_, i6 m0.size_, i6 (IntKind.i64.wrap (m0.next_ + x79)), i6 x80, .slice p104 (m0.list_ ++ ([x1] : List ByteArray)).length c105, i6 m0.sure_, .bool m0.dead_] rfl rfl rfl rfl rfl rfl rfl (by kernel_rfl) (nw_H (H' := [own eStr 9 p102 1 ([x1] : List ByteArray), imm I, o1 b1 b2 x81 x82, o0 b2 p84 l83 c85 b89 x90 x91 x92 x93 x94 x95 x96, o3 b0 b1 m0.base_ m0.size_ (IntKind.i64.wrap (m0.next_ + x79)) x80 p104 (m0.list_ ++ ([x1] : List ByteArray)) c105 m0.sure_ m0.dead_, own e_disk_sector 51 p84 c85 l83, mpo (kInt .i64) (fun x : disk_sector => Value.agg #[.string x.s_, i6 x.at_]) b89 l87, own eStr 9 p104 c105 (m0.list_ ++ ([x1] : List ByteArray))] ++ F0) rfl (aw_last (by kernel_rfl) ?_)))
        refine aw_keep [] (L' := []) rfl ?_
        refine aw_end (by kernel_rfl) ?_
        refine ew_then ?_
        refine cw_seq ?_
        refine cw_region ?_
        refine ow_vals 1 (j := 1) [4] [(4, i6 0)] rfl (by kernel_rfl) ?_
        refine ow_end rfl ?_
        refine ew_then ?_
        refine cw_ret ?_
        have hR := Option.some.inj hF
        subst hR
        exact fin1 (H1 := [imm I, o3 b0 b1 ((⟨m0.base_, m0.size_, IntKind.i64.wrap (m0.next_ + x79), x80, m0.list_ ++ ([x1] : List ByteArray), m0.sure_, m0.dead_⟩ : journal_Journal).base_) ((⟨m0.base_, m0.size_, IntKind.i64.wrap (m0.next_ + x79), x80, m0.list_ ++ ([x1] : List ByteArray), m0.sure_, m0.dead_⟩ : journal_Journal).size_) ((⟨m0.base_, m0.size_, IntKind.i64.wrap (m0.next_ + x79), x80, m0.list_ ++ ([x1] : List ByteArray), m0.sure_, m0.dead_⟩ : journal_Journal).next_) ((⟨m0.base_, m0.size_, IntKind.i64.wrap (m0.next_ + x79), x80, m0.list_ ++ ([x1] : List ByteArray), m0.sure_, m0.dead_⟩ : journal_Journal).last_) p104 ((⟨m0.base_, m0.size_, IntKind.i64.wrap (m0.next_ + x79), x80, m0.list_ ++ ([x1] : List ByteArray), m0.sure_, m0.dead_⟩ : journal_Journal).list_) c105 ((⟨m0.base_, m0.size_, IntKind.i64.wrap (m0.next_ + x79), x80, m0.list_ ++ ([x1] : List ByteArray), m0.sure_, m0.dead_⟩ : journal_Journal).sure_) ((⟨m0.base_, m0.size_, IntKind.i64.wrap (m0.next_ + x79), x80, m0.list_ ++ ([x1] : List ByteArray), m0.sure_, m0.dead_⟩ : journal_Journal).dead_), o1 b1 b2 ((⟨x81, x82⟩ : guard_Guard).boot_) ((⟨x81, x82⟩ : guard_Guard).n_), o0 b2 p84 ((⟨l83, l87, x90, x91, x92, (⟨x93, x94⟩ : disk_Fall), x95, x96⟩ : disk_Disk).sure_) c85 b89 ((⟨l83, l87, x90, x91, x92, (⟨x93, x94⟩ : disk_Fall), x95, x96⟩ : disk_Disk).off_) ((⟨l83, l87, x90, x91, x92, (⟨x93, x94⟩ : disk_Fall), x95, x96⟩ : disk_Disk).armed_) ((⟨l83, l87, x90, x91, x92, (⟨x93, x94⟩ : disk_Fall), x95, x96⟩ : disk_Disk).left_) (((⟨l83, l87, x90, x91, x92, (⟨x93, x94⟩ : disk_Fall), x95, x96⟩ : disk_Disk).fall_).Keep) (((⟨l83, l87, x90, x91, x92, (⟨x93, x94⟩ : disk_Fall), x95, x96⟩ : disk_Disk).fall_).Tear) ((⟨l83, l87, x90, x91, x92, (⟨x93, x94⟩ : disk_Fall), x95, x96⟩ : disk_Disk).acts_) ((⟨l83, l87, x90, x91, x92, (⟨x93, x94⟩ : disk_Fall), x95, x96⟩ : disk_Disk).falls_), own eStr 9 p104 c105 ((⟨m0.base_, m0.size_, IntKind.i64.wrap (m0.next_ + x79), x80, m0.list_ ++ ([x1] : List ByteArray), m0.sure_, m0.dead_⟩ : journal_Journal).list_), own e_disk_sector 51 p84 c85 ((⟨l83, l87, x90, x91, x92, (⟨x93, x94⟩ : disk_Fall), x95, x96⟩ : disk_Disk).sure_), mpo (kInt .i64) (fun x : disk_sector => Value.agg #[.string x.s_, i6 x.at_]) b89 ((⟨l83, l87, x90, x91, x92, (⟨x93, x94⟩ : disk_Fall), x95, x96⟩ : disk_Disk).wait_)]) (fun w hs => sat_to [0, 0, 2, 0, 0, 2, 0, 0] 1 rfl hs) rfl (rr_tmp rfl) ⟨p104, c105, p84, c85, b89, rfl, rfl⟩
      refine pw_quiet (v := i6 m0.next_) rfl rfl rfl rfl (q_load 4 rfl rfl rfl (by kernel_rfl)) (aw_next (fun w hs => sat_pulls [1, 1, 1, 2, 2] (G := [own eStr 9 p102 1 ([x1] : List ByteArray), o3 b0 b1 m0.base_ m0.size_ m0.next_ m0.last_ p0 m0.list_ c0 m0.sure_ m0.dead_, own eStr 9 p0 c0 m0.list_] ++ F0) rfl hs) ?_)
      refine aw_vals [15] (f' := 10) (m' := 130559) [100, 101, 102, 106, 108, 115, 116] [(100, pP b0), (101, pP b0), (102, pP b0), (106, .slice p0 m0.list_.length c0), (108, .slice p102 ([x1] : List ByteArray).length 1), (115, i6 (IntKind.i64.wrap (m0.next_ + x79))), (116, i6 x80)] (fun _ _ _ _ _ h => calm_fin (P := Tryz.prog) (fn := Tryz.f17) _ _ _ _ _ h) (fun w hs => sat_pulls [1, 1, 1, 2, 2] (G := [own eStr 9 p102 1 ([x1] : List ByteArray), o3 b0 b1 m0.base_ m0.size_ m0.next_ m0.last_ p0 m0.list_ c0 m0.sure_ m0.dead_, own eStr 9 p0 c0 m0.list_] ++ F0) rfl hs) rfl (by kernel_rfl) ?_
      refine aw_only 9 (m' := 131071) (by kernel_rfl) (by kernel_rfl) (pw_append 7 (l' := ([x1] : List ByteArray)) rfl rfl rfl rfl rfl rfl (by kernel_rfl) (by kernel_rfl) rfl rfl rfl (src_own (E' := 9) 0 rfl (by kernel_rfl) rfl) rfl h99.1 h99.2 fun p104 c105 => nw_H (H' := [own eStr 9 p102 1 ([x1] : List ByteArray), imm I, o1 b1 b2 x81 x82, o0 b2 p84 l83 c85 b89 x90 x91 x92 x93 x94 x95 x96, o3 b0 b1 m0.base_ m0.size_ m0.next_ m0.last_ p0 m0.list_ c0 m0.sure_ m0.dead_, own e_disk_sector 51 p84 c85 l83, mpo (kInt .i64) (fun x : disk_sector => Value.agg #[.string x.s_, i6 x.at_]) b89 l87, own eStr 9 p104 c105 (m0.list_ ++ ([x1] : List ByteArray))] ++ F0) rfl (aw_next (fun w hs => sat_pulls [1, 1, 1, 2, 2] (G := [own eStr 9 p102 1 ([x1] : List ByteArray), o3 b0 b1 m0.base_ m0.size_ m0.next_ m0.last_ p0 m0.list_ c0 m0.sure_ m0.dead_, own eStr 9 p104 c105 (m0.list_ ++ ([x1] : List ByteArray))] ++ F0) rfl hs) ?_))
      refine aw_vals [17, 18] (f' := 7) (m' := 524287) [101, 102, 109, 115, 116, 118] [(101, pP b0), (102, pP b0), (109, .slice p104 (m0.list_ ++ ([x1] : List ByteArray)).length c105), (115, i6 (IntKind.i64.wrap (m0.next_ + x79))), (116, i6 x80), (118, .pointer (some ⟨b0, 5, none⟩))] (fun _ _ _ _ _ h => calm_fin (P := Tryz.prog) (fn := Tryz.f17) _ _ _ _ _ h) (fun w hs => sat_pulls [1, 1, 1, 2, 2] (G := [own eStr 9 p102 1 ([x1] : List ByteArray), o3 b0 b1 m0.base_ m0.size_ m0.next_ m0.last_ p0 m0.list_ c0 m0.sure_ m0.dead_, own eStr 9 p104 c105 (m0.list_ ++ ([x1] : List ByteArray))] ++ F0) rfl hs) rfl (by kernel_rfl) ?_
      refine aw_only 19 (m' := 1048575) (by kernel_rfl) (by kernel_rfl) (pw_store 4 #[pP b1, i6 m0.base_, i6 m0.size_, i6 m0.next_, i6 m0.last_, .slice p104 (m0.list_ ++ ([x1] : List ByteArray)).length c105, i6 m0.sure_, .bool m0.dead_] rfl rfl rfl rfl rfl rfl rfl (by kernel_rfl) (nw_H (H' := [own eStr 9 p102 1 ([x1] : List ByteArray), imm I, o1 b1 b2 x81 x82, o0 b2 p84 l83 c85 b89 x90 x91 x92 x93 x94 x95 x96, o3 b0 b1 m0.base_ m0.size_ m0.next_ m0.last_ p104 (m0.list_ ++ ([x1] : List ByteArray)) c105 m0.sure_ m0.dead_, own e_disk_sector 51 p84 c85 l83, mpo (kInt .i64) (fun x : disk_sector => Value.agg #[.string x.s_, i6 x.at_]) b89 l87, own eStr 9 p104 c105 (m0.list_ ++ ([x1] : List ByteArray))] ++ F0) rfl (aw_next (fun w hs => sat_pulls [1, 1, 1, 2, 2] (G := [own eStr 9 p102 1 ([x1] : List ByteArray), o3 b0 b1 m0.base_ m0.size_ m0.next_ m0.last_ p104 (m0.list_ ++ ([x1] : List ByteArray)) c105 m0.sure_ m0.dead_, own eStr 9 p104 c105 (m0.list_ ++ ([x1] : List ByteArray))] ++ F0) rfl hs) ?_)))
      refine aw_vals [20, 21] (f' := 4) (m' := 4194303) [102, 115, 116, 120] [(102, pP b0), (115, i6 (IntKind.i64.wrap (m0.next_ + x79))), (116, i6 x80), (120, .pointer (some ⟨b0, 3, none⟩))] (fun _ _ _ _ _ h => calm_fin (P := Tryz.prog) (fn := Tryz.f17) _ _ _ _ _ h) (fun w hs => sat_pulls [1, 1, 1, 2, 2] (G := [own eStr 9 p102 1 ([x1] : List ByteArray), o3 b0 b1 m0.base_ m0.size_ m0.next_ m0.last_ p104 (m0.list_ ++ ([x1] : List ByteArray)) c105 m0.sure_ m0.dead_, own eStr 9 p104 c105 (m0.list_ ++ ([x1] : List ByteArray))] ++ F0) rfl hs) rfl (by kernel_rfl) ?_
      refine aw_only 22 (m' := 8388607) (by kernel_rfl) (by kernel_rfl) (pw_store 4 #[pP b1, i6 m0.base_, i6 m0.size_, i6 (IntKind.i64.wrap (m0.next_ + x79)), i6 m0.last_, .slice p104 (m0.list_ ++ ([x1] : List ByteArray)).length c105, i6 m0.sure_, .bool m0.dead_] rfl rfl rfl rfl rfl rfl rfl (by kernel_rfl) (nw_H (H' := [own eStr 9 p102 1 ([x1] : List ByteArray), imm I, o1 b1 b2 x81 x82, o0 b2 p84 l83 c85 b89 x90 x91 x92 x93 x94 x95 x96, o3 b0 b1 m0.base_ m0.size_ (IntKind.i64.wrap (m0.next_ + x79)) m0.last_ p104 (m0.list_ ++ ([x1] : List ByteArray)) c105 m0.sure_ m0.dead_, own e_disk_sector 51 p84 c85 l83, mpo (kInt .i64) (fun x : disk_sector => Value.agg #[.string x.s_, i6 x.at_]) b89 l87, own eStr 9 p104 c105 (m0.list_ ++ ([x1] : List ByteArray))] ++ F0) rfl (aw_next (fun w hs => sat_pulls [1, 1, 1, 2, 2] (G := [own eStr 9 p102 1 ([x1] : List ByteArray), o3 b0 b1 m0.base_ m0.size_ (IntKind.i64.wrap (m0.next_ + x79)) m0.last_ p104 (m0.list_ ++ ([x1] : List ByteArray)) c105 m0.sure_ m0.dead_, own eStr 9 p104 c105 (m0.list_ ++ ([x1] : List ByteArray))] ++ F0) rfl hs) ?_)))
      refine aw_vals [23, 24] (f' := 1) (m' := 33554431) [116, 122] [(116, i6 x80), (122, .pointer (some ⟨b0, 4, none⟩))] (fun _ _ _ _ _ h => calm_fin (P := Tryz.prog) (fn := Tryz.f17) _ _ _ _ _ h) (fun w hs => sat_pulls [1, 1, 1, 2, 2] (G := [own eStr 9 p102 1 ([x1] : List ByteArray), o3 b0 b1 m0.base_ m0.size_ (IntKind.i64.wrap (m0.next_ + x79)) m0.last_ p104 (m0.list_ ++ ([x1] : List ByteArray)) c105 m0.sure_ m0.dead_, own eStr 9 p104 c105 (m0.list_ ++ ([x1] : List ByteArray))] ++ F0) rfl hs) rfl (by kernel_rfl) ?_
      refine aw_only 25 (m' := 67108863) (by kernel_rfl) (by kernel_rfl) (pw_store 4 #[pP b1, i6 m0.base_, i6 m0.size_, i6 (IntKind.i64.wrap (m0.next_ + x79)), i6 x80, .slice p104 (m0.list_ ++ ([x1] : List ByteArray)).length c105, i6 m0.sure_, .bool m0.dead_] rfl rfl rfl rfl rfl rfl rfl (by kernel_rfl) (nw_H (H' := [own eStr 9 p102 1 ([x1] : List ByteArray), imm I, o1 b1 b2 x81 x82, o0 b2 p84 l83 c85 b89 x90 x91 x92 x93 x94 x95 x96, o3 b0 b1 m0.base_ m0.size_ (IntKind.i64.wrap (m0.next_ + x79)) x80 p104 (m0.list_ ++ ([x1] : List ByteArray)) c105 m0.sure_ m0.dead_, own e_disk_sector 51 p84 c85 l83, mpo (kInt .i64) (fun x : disk_sector => Value.agg #[.string x.s_, i6 x.at_]) b89 l87, own eStr 9 p104 c105 (m0.list_ ++ ([x1] : List ByteArray))] ++ F0) rfl (aw_last (by kernel_rfl) ?_)))
      refine aw_keep [] (L' := []) rfl ?_
      refine aw_end (by kernel_rfl) ?_
      refine ew_then ?_
      refine cw_seq ?_
      refine cw_region ?_
      refine ow_vals 1 (j := 1) [4] [(4, i6 0)] rfl (by kernel_rfl) ?_
      refine ow_end rfl ?_
      refine ew_then ?_
      refine cw_ret ?_
      have hR := Option.some.inj hF
      subst hR
      exact fin1 (H1 := [imm I, o3 b0 b1 ((⟨m0.base_, m0.size_, IntKind.i64.wrap (m0.next_ + x79), x80, m0.list_ ++ ([x1] : List ByteArray), m0.sure_, m0.dead_⟩ : journal_Journal).base_) ((⟨m0.base_, m0.size_, IntKind.i64.wrap (m0.next_ + x79), x80, m0.list_ ++ ([x1] : List ByteArray), m0.sure_, m0.dead_⟩ : journal_Journal).size_) ((⟨m0.base_, m0.size_, IntKind.i64.wrap (m0.next_ + x79), x80, m0.list_ ++ ([x1] : List ByteArray), m0.sure_, m0.dead_⟩ : journal_Journal).next_) ((⟨m0.base_, m0.size_, IntKind.i64.wrap (m0.next_ + x79), x80, m0.list_ ++ ([x1] : List ByteArray), m0.sure_, m0.dead_⟩ : journal_Journal).last_) p104 ((⟨m0.base_, m0.size_, IntKind.i64.wrap (m0.next_ + x79), x80, m0.list_ ++ ([x1] : List ByteArray), m0.sure_, m0.dead_⟩ : journal_Journal).list_) c105 ((⟨m0.base_, m0.size_, IntKind.i64.wrap (m0.next_ + x79), x80, m0.list_ ++ ([x1] : List ByteArray), m0.sure_, m0.dead_⟩ : journal_Journal).sure_) ((⟨m0.base_, m0.size_, IntKind.i64.wrap (m0.next_ + x79), x80, m0.list_ ++ ([x1] : List ByteArray), m0.sure_, m0.dead_⟩ : journal_Journal).dead_), o1 b1 b2 ((⟨x81, x82⟩ : guard_Guard).boot_) ((⟨x81, x82⟩ : guard_Guard).n_), o0 b2 p84 ((⟨l83, l87, x90, x91, x92, (⟨x93, x94⟩ : disk_Fall), x95, x96⟩ : disk_Disk).sure_) c85 b89 ((⟨l83, l87, x90, x91, x92, (⟨x93, x94⟩ : disk_Fall), x95, x96⟩ : disk_Disk).off_) ((⟨l83, l87, x90, x91, x92, (⟨x93, x94⟩ : disk_Fall), x95, x96⟩ : disk_Disk).armed_) ((⟨l83, l87, x90, x91, x92, (⟨x93, x94⟩ : disk_Fall), x95, x96⟩ : disk_Disk).left_) (((⟨l83, l87, x90, x91, x92, (⟨x93, x94⟩ : disk_Fall), x95, x96⟩ : disk_Disk).fall_).Keep) (((⟨l83, l87, x90, x91, x92, (⟨x93, x94⟩ : disk_Fall), x95, x96⟩ : disk_Disk).fall_).Tear) ((⟨l83, l87, x90, x91, x92, (⟨x93, x94⟩ : disk_Fall), x95, x96⟩ : disk_Disk).acts_) ((⟨l83, l87, x90, x91, x92, (⟨x93, x94⟩ : disk_Fall), x95, x96⟩ : disk_Disk).falls_), own eStr 9 p104 c105 ((⟨m0.base_, m0.size_, IntKind.i64.wrap (m0.next_ + x79), x80, m0.list_ ++ ([x1] : List ByteArray), m0.sure_, m0.dead_⟩ : journal_Journal).list_), own e_disk_sector 51 p84 c85 ((⟨l83, l87, x90, x91, x92, (⟨x93, x94⟩ : disk_Fall), x95, x96⟩ : disk_Disk).sure_), mpo (kInt .i64) (fun x : disk_sector => Value.agg #[.string x.s_, i6 x.at_]) b89 ((⟨l83, l87, x90, x91, x92, (⟨x93, x94⟩ : disk_Fall), x95, x96⟩ : disk_Disk).wait_)]) (fun w hs => sat_to [0, 0, 2, 0, 0, 2, 0, 0] 1 rfl hs) rfl (rr_tmp rfl) ⟨p104, c105, p84, c85, b89, rfl, rfl⟩
    refine pw_quiet (v := i6 m0.next_) rfl rfl rfl rfl (q_load 4 rfl rfl rfl (by kernel_rfl)) (aw_next (fun w hs => sat_pulls [1, 1, 1, 2, 2] (G := [own eStr 9 p102 1 ([x1] : List ByteArray), o3 b0 b1 m0.base_ m0.size_ m0.next_ m0.last_ p0 m0.list_ c0 m0.sure_ m0.dead_, own eStr 9 p0 c0 m0.list_] ++ F0) rfl hs) ?_)
    refine aw_vals [15] (f' := 11) (m' := 130495) [100, 101, 102, 105, 108, 115, 116] [(100, pP b0), (101, pP b0), (102, pP b0), (105, .pointer (some ⟨b0, 5, none⟩)), (108, .slice p102 ([x1] : List ByteArray).length 1), (115, i6 (IntKind.i64.wrap (m0.next_ + x79))), (116, i6 x80)] (fun _ _ _ _ _ h => calm_fin (P := Tryz.prog) (fn := Tryz.f17) _ _ _ _ _ h) (fun w hs => sat_pulls [1, 1, 1, 2, 2] (G := [own eStr 9 p102 1 ([x1] : List ByteArray), o3 b0 b1 m0.base_ m0.size_ m0.next_ m0.last_ p0 m0.list_ c0 m0.sure_ m0.dead_, own eStr 9 p0 c0 m0.list_] ++ F0) rfl hs) rfl (by kernel_rfl) ?_
    refine aw_only 6 (m' := 130559) (by kernel_rfl) (by kernel_rfl) (pw_quiet (v := .slice p0 m0.list_.length c0) rfl rfl rfl rfl (q_load 4 rfl rfl rfl (by kernel_rfl)) (aw_next (fun w hs => sat_pulls [1, 1, 1, 2, 2] (G := [own eStr 9 p102 1 ([x1] : List ByteArray), o3 b0 b1 m0.base_ m0.size_ m0.next_ m0.last_ p0 m0.list_ c0 m0.sure_ m0.dead_, own eStr 9 p0 c0 m0.list_] ++ F0) rfl hs) ?_))
    refine aw_only 9 (m' := 131071) (by kernel_rfl) (by kernel_rfl) (pw_append 7 (l' := ([x1] : List ByteArray)) rfl rfl rfl rfl rfl rfl (by kernel_rfl) (by kernel_rfl) rfl rfl rfl (src_own (E' := 9) 0 rfl (by kernel_rfl) rfl) rfl h99.1 h99.2 fun p104 c105 => nw_H (H' := [own eStr 9 p102 1 ([x1] : List ByteArray), imm I, o1 b1 b2 x81 x82, o0 b2 p84 l83 c85 b89 x90 x91 x92 x93 x94 x95 x96, o3 b0 b1 m0.base_ m0.size_ m0.next_ m0.last_ p0 m0.list_ c0 m0.sure_ m0.dead_, own e_disk_sector 51 p84 c85 l83, mpo (kInt .i64) (fun x : disk_sector => Value.agg #[.string x.s_, i6 x.at_]) b89 l87, own eStr 9 p104 c105 (m0.list_ ++ ([x1] : List ByteArray))] ++ F0) rfl (aw_next (fun w hs => sat_pulls [1, 1, 1, 2, 2] (G := [own eStr 9 p102 1 ([x1] : List ByteArray), o3 b0 b1 m0.base_ m0.size_ m0.next_ m0.last_ p0 m0.list_ c0 m0.sure_ m0.dead_, own eStr 9 p104 c105 (m0.list_ ++ ([x1] : List ByteArray))] ++ F0) rfl hs) ?_))
    refine aw_vals [17, 18] (f' := 7) (m' := 524287) [101, 102, 109, 115, 116, 118] [(101, pP b0), (102, pP b0), (109, .slice p104 (m0.list_ ++ ([x1] : List ByteArray)).length c105), (115, i6 (IntKind.i64.wrap (m0.next_ + x79))), (116, i6 x80), (118, .pointer (some ⟨b0, 5, none⟩))] (fun _ _ _ _ _ h => calm_fin (P := Tryz.prog) (fn := Tryz.f17) _ _ _ _ _ h) (fun w hs => sat_pulls [1, 1, 1, 2, 2] (G := [own eStr 9 p102 1 ([x1] : List ByteArray), o3 b0 b1 m0.base_ m0.size_ m0.next_ m0.last_ p0 m0.list_ c0 m0.sure_ m0.dead_, own eStr 9 p104 c105 (m0.list_ ++ ([x1] : List ByteArray))] ++ F0) rfl hs) rfl (by kernel_rfl) ?_
    refine aw_only 19 (m' := 1048575) (by kernel_rfl) (by kernel_rfl) (pw_store 4 #[pP b1, i6 m0.base_, i6 m0.size_, i6 m0.next_, i6 m0.last_, .slice p104 (m0.list_ ++ ([x1] : List ByteArray)).length c105, i6 m0.sure_, .bool m0.dead_] rfl rfl rfl rfl rfl rfl rfl (by kernel_rfl) (nw_H (H' := [own eStr 9 p102 1 ([x1] : List ByteArray), imm I, o1 b1 b2 x81 x82, o0 b2 p84 l83 c85 b89 x90 x91 x92 x93 x94 x95 x96, o3 b0 b1 m0.base_ m0.size_ m0.next_ m0.last_ p104 (m0.list_ ++ ([x1] : List ByteArray)) c105 m0.sure_ m0.dead_, own e_disk_sector 51 p84 c85 l83, mpo (kInt .i64) (fun x : disk_sector => Value.agg #[.string x.s_, i6 x.at_]) b89 l87, own eStr 9 p104 c105 (m0.list_ ++ ([x1] : List ByteArray))] ++ F0) rfl (aw_next (fun w hs => sat_pulls [1, 1, 1, 2, 2] (G := [own eStr 9 p102 1 ([x1] : List ByteArray), o3 b0 b1 m0.base_ m0.size_ m0.next_ m0.last_ p104 (m0.list_ ++ ([x1] : List ByteArray)) c105 m0.sure_ m0.dead_, own eStr 9 p104 c105 (m0.list_ ++ ([x1] : List ByteArray))] ++ F0) rfl hs) ?_)))
    refine aw_vals [20, 21] (f' := 4) (m' := 4194303) [102, 115, 116, 120] [(102, pP b0), (115, i6 (IntKind.i64.wrap (m0.next_ + x79))), (116, i6 x80), (120, .pointer (some ⟨b0, 3, none⟩))] (fun _ _ _ _ _ h => calm_fin (P := Tryz.prog) (fn := Tryz.f17) _ _ _ _ _ h) (fun w hs => sat_pulls [1, 1, 1, 2, 2] (G := [own eStr 9 p102 1 ([x1] : List ByteArray), o3 b0 b1 m0.base_ m0.size_ m0.next_ m0.last_ p104 (m0.list_ ++ ([x1] : List ByteArray)) c105 m0.sure_ m0.dead_, own eStr 9 p104 c105 (m0.list_ ++ ([x1] : List ByteArray))] ++ F0) rfl hs) rfl (by kernel_rfl) ?_
    refine aw_only 22 (m' := 8388607) (by kernel_rfl) (by kernel_rfl) (pw_store 4 #[pP b1, i6 m0.base_, i6 m0.size_, i6 (IntKind.i64.wrap (m0.next_ + x79)), i6 m0.last_, .slice p104 (m0.list_ ++ ([x1] : List ByteArray)).length c105, i6 m0.sure_, .bool m0.dead_] rfl rfl rfl rfl rfl rfl rfl (by kernel_rfl) (nw_H (H' := [own eStr 9 p102 1 ([x1] : List ByteArray), imm I, o1 b1 b2 x81 x82, o0 b2 p84 l83 c85 b89 x90 x91 x92 x93 x94 x95 x96, o3 b0 b1 m0.base_ m0.size_ (IntKind.i64.wrap (m0.next_ + x79)) m0.last_ p104 (m0.list_ ++ ([x1] : List ByteArray)) c105 m0.sure_ m0.dead_, own e_disk_sector 51 p84 c85 l83, mpo (kInt .i64) (fun x : disk_sector => Value.agg #[.string x.s_, i6 x.at_]) b89 l87, own eStr 9 p104 c105 (m0.list_ ++ ([x1] : List ByteArray))] ++ F0) rfl (aw_next (fun w hs => sat_pulls [1, 1, 1, 2, 2] (G := [own eStr 9 p102 1 ([x1] : List ByteArray), o3 b0 b1 m0.base_ m0.size_ (IntKind.i64.wrap (m0.next_ + x79)) m0.last_ p104 (m0.list_ ++ ([x1] : List ByteArray)) c105 m0.sure_ m0.dead_, own eStr 9 p104 c105 (m0.list_ ++ ([x1] : List ByteArray))] ++ F0) rfl hs) ?_)))
    refine aw_vals [23, 24] (f' := 1) (m' := 33554431) [116, 122] [(116, i6 x80), (122, .pointer (some ⟨b0, 4, none⟩))] (fun _ _ _ _ _ h => calm_fin (P := Tryz.prog) (fn := Tryz.f17) _ _ _ _ _ h) (fun w hs => sat_pulls [1, 1, 1, 2, 2] (G := [own eStr 9 p102 1 ([x1] : List ByteArray), o3 b0 b1 m0.base_ m0.size_ (IntKind.i64.wrap (m0.next_ + x79)) m0.last_ p104 (m0.list_ ++ ([x1] : List ByteArray)) c105 m0.sure_ m0.dead_, own eStr 9 p104 c105 (m0.list_ ++ ([x1] : List ByteArray))] ++ F0) rfl hs) rfl (by kernel_rfl) ?_
    refine aw_only 25 (m' := 67108863) (by kernel_rfl) (by kernel_rfl) (pw_store 4 #[pP b1, i6 m0.base_, i6 m0.size_, i6 (IntKind.i64.wrap (m0.next_ + x79)), i6 x80, .slice p104 (m0.list_ ++ ([x1] : List ByteArray)).length c105, i6 m0.sure_, .bool m0.dead_] rfl rfl rfl rfl rfl rfl rfl (by kernel_rfl) (nw_H (H' := [own eStr 9 p102 1 ([x1] : List ByteArray), imm I, o1 b1 b2 x81 x82, o0 b2 p84 l83 c85 b89 x90 x91 x92 x93 x94 x95 x96, o3 b0 b1 m0.base_ m0.size_ (IntKind.i64.wrap (m0.next_ + x79)) x80 p104 (m0.list_ ++ ([x1] : List ByteArray)) c105 m0.sure_ m0.dead_, own e_disk_sector 51 p84 c85 l83, mpo (kInt .i64) (fun x : disk_sector => Value.agg #[.string x.s_, i6 x.at_]) b89 l87, own eStr 9 p104 c105 (m0.list_ ++ ([x1] : List ByteArray))] ++ F0) rfl (aw_last (by kernel_rfl) ?_)))
    refine aw_keep [] (L' := []) rfl ?_
    refine aw_end (by kernel_rfl) ?_
    refine ew_then ?_
    refine cw_seq ?_
    refine cw_region ?_
    refine ow_vals 1 (j := 1) [4] [(4, i6 0)] rfl (by kernel_rfl) ?_
    refine ow_end rfl ?_
    refine ew_then ?_
    refine cw_ret ?_
    have hR := Option.some.inj hF
    subst hR
    exact fin1 (H1 := [imm I, o3 b0 b1 ((⟨m0.base_, m0.size_, IntKind.i64.wrap (m0.next_ + x79), x80, m0.list_ ++ ([x1] : List ByteArray), m0.sure_, m0.dead_⟩ : journal_Journal).base_) ((⟨m0.base_, m0.size_, IntKind.i64.wrap (m0.next_ + x79), x80, m0.list_ ++ ([x1] : List ByteArray), m0.sure_, m0.dead_⟩ : journal_Journal).size_) ((⟨m0.base_, m0.size_, IntKind.i64.wrap (m0.next_ + x79), x80, m0.list_ ++ ([x1] : List ByteArray), m0.sure_, m0.dead_⟩ : journal_Journal).next_) ((⟨m0.base_, m0.size_, IntKind.i64.wrap (m0.next_ + x79), x80, m0.list_ ++ ([x1] : List ByteArray), m0.sure_, m0.dead_⟩ : journal_Journal).last_) p104 ((⟨m0.base_, m0.size_, IntKind.i64.wrap (m0.next_ + x79), x80, m0.list_ ++ ([x1] : List ByteArray), m0.sure_, m0.dead_⟩ : journal_Journal).list_) c105 ((⟨m0.base_, m0.size_, IntKind.i64.wrap (m0.next_ + x79), x80, m0.list_ ++ ([x1] : List ByteArray), m0.sure_, m0.dead_⟩ : journal_Journal).sure_) ((⟨m0.base_, m0.size_, IntKind.i64.wrap (m0.next_ + x79), x80, m0.list_ ++ ([x1] : List ByteArray), m0.sure_, m0.dead_⟩ : journal_Journal).dead_), o1 b1 b2 ((⟨x81, x82⟩ : guard_Guard).boot_) ((⟨x81, x82⟩ : guard_Guard).n_), o0 b2 p84 ((⟨l83, l87, x90, x91, x92, (⟨x93, x94⟩ : disk_Fall), x95, x96⟩ : disk_Disk).sure_) c85 b89 ((⟨l83, l87, x90, x91, x92, (⟨x93, x94⟩ : disk_Fall), x95, x96⟩ : disk_Disk).off_) ((⟨l83, l87, x90, x91, x92, (⟨x93, x94⟩ : disk_Fall), x95, x96⟩ : disk_Disk).armed_) ((⟨l83, l87, x90, x91, x92, (⟨x93, x94⟩ : disk_Fall), x95, x96⟩ : disk_Disk).left_) (((⟨l83, l87, x90, x91, x92, (⟨x93, x94⟩ : disk_Fall), x95, x96⟩ : disk_Disk).fall_).Keep) (((⟨l83, l87, x90, x91, x92, (⟨x93, x94⟩ : disk_Fall), x95, x96⟩ : disk_Disk).fall_).Tear) ((⟨l83, l87, x90, x91, x92, (⟨x93, x94⟩ : disk_Fall), x95, x96⟩ : disk_Disk).acts_) ((⟨l83, l87, x90, x91, x92, (⟨x93, x94⟩ : disk_Fall), x95, x96⟩ : disk_Disk).falls_), own eStr 9 p104 c105 ((⟨m0.base_, m0.size_, IntKind.i64.wrap (m0.next_ + x79), x80, m0.list_ ++ ([x1] : List ByteArray), m0.sure_, m0.dead_⟩ : journal_Journal).list_), own e_disk_sector 51 p84 c85 ((⟨l83, l87, x90, x91, x92, (⟨x93, x94⟩ : disk_Fall), x95, x96⟩ : disk_Disk).sure_), mpo (kInt .i64) (fun x : disk_sector => Value.agg #[.string x.s_, i6 x.at_]) b89 ((⟨l83, l87, x90, x91, x92, (⟨x93, x94⟩ : disk_Fall), x95, x96⟩ : disk_Disk).wait_)]) (fun w hs => sat_to [0, 0, 2, 0, 0, 2, 0, 0] 1 rfl hs) rfl (rr_tmp rfl) ⟨p104, c105, p84, c85, b89, rfl, rfl⟩
  refine pw_quiet (v := i6 m0.next_) rfl rfl rfl rfl (q_load 3 rfl rfl rfl (by kernel_rfl)) (aw_next (fun w hs => sat_pulls [0, 0, 0, 1, 1] (G := [o3 b0 b1 m0.base_ m0.size_ m0.next_ m0.last_ p0 m0.list_ c0 m0.sure_ m0.dead_, own eStr 9 p0 c0 m0.list_] ++ F0) rfl hs) ?_)
  refine aw_vals [15] (f' := 12) (m' := 130239) [100, 101, 102, 105, 107, 115, 116] [(100, pP b0), (101, pP b0), (102, pP b0), (105, .pointer (some ⟨b0, 5, none⟩)), (107, .string x1), (115, i6 (IntKind.i64.wrap (m0.next_ + x79))), (116, i6 x80)] (fun _ _ _ _ _ h => calm_fin (P := Tryz.prog) (fn := Tryz.f17) _ _ _ _ _ h) (fun w hs => sat_pulls [0, 0, 0, 1, 1] (G := [o3 b0 b1 m0.base_ m0.size_ m0.next_ m0.last_ p0 m0.list_ c0 m0.sure_ m0.dead_, own eStr 9 p0 c0 m0.list_] ++ F0) rfl hs) rfl (by kernel_rfl) ?_
  refine aw_two 6 8 (mi := 130303) (mj := 130495) (by kernel_rfl) (by kernel_rfl) (by kernel_rfl) ?_ ?_
  · refine pw_quiet (v := .slice p0 m0.list_.length c0) rfl rfl rfl rfl (q_load 3 rfl rfl rfl (by kernel_rfl)) (aw_next (fun w hs => sat_pulls [0, 0, 0, 1, 1] (G := [o3 b0 b1 m0.base_ m0.size_ m0.next_ m0.last_ p0 m0.list_ c0 m0.sure_ m0.dead_, own eStr 9 p0 c0 m0.list_] ++ F0) rfl hs) ?_)
    refine aw_only 8 (m' := 130559) (by kernel_rfl) (by kernel_rfl) (pw_buildSlice (E := 9) eStr ([x1] : List ByteArray) rfl rfl rfl rfl rfl (by kernel_rfl) rfl (by kernel_rfl) rfl (by decide) rfl fun p102 => aw_next (fun w hs => sat_pulls [1, 1, 1, 2, 2] (G := [own eStr 9 p102 1 ([x1] : List ByteArray), o3 b0 b1 m0.base_ m0.size_ m0.next_ m0.last_ p0 m0.list_ c0 m0.sure_ m0.dead_, own eStr 9 p0 c0 m0.list_] ++ F0) rfl hs) ?_)
    refine aw_only 9 (m' := 131071) (by kernel_rfl) (by kernel_rfl) (pw_append 7 (l' := ([x1] : List ByteArray)) rfl rfl rfl rfl rfl rfl (by kernel_rfl) (by kernel_rfl) rfl rfl rfl (src_own (E' := 9) 0 rfl (by kernel_rfl) rfl) rfl h99.1 h99.2 fun p104 c105 => nw_H (H' := [own eStr 9 p102 1 ([x1] : List ByteArray), imm I, o1 b1 b2 x81 x82, o0 b2 p84 l83 c85 b89 x90 x91 x92 x93 x94 x95 x96, o3 b0 b1 m0.base_ m0.size_ m0.next_ m0.last_ p0 m0.list_ c0 m0.sure_ m0.dead_, own e_disk_sector 51 p84 c85 l83, mpo (kInt .i64) (fun x : disk_sector => Value.agg #[.string x.s_, i6 x.at_]) b89 l87, own eStr 9 p104 c105 (m0.list_ ++ ([x1] : List ByteArray))] ++ F0) rfl (aw_next (fun w hs => sat_pulls [1, 1, 1, 2, 2] (G := [own eStr 9 p102 1 ([x1] : List ByteArray), o3 b0 b1 m0.base_ m0.size_ m0.next_ m0.last_ p0 m0.list_ c0 m0.sure_ m0.dead_, own eStr 9 p104 c105 (m0.list_ ++ ([x1] : List ByteArray))] ++ F0) rfl hs) ?_))
    refine aw_vals [17, 18] (f' := 7) (m' := 524287) [101, 102, 109, 115, 116, 118] [(101, pP b0), (102, pP b0), (109, .slice p104 (m0.list_ ++ ([x1] : List ByteArray)).length c105), (115, i6 (IntKind.i64.wrap (m0.next_ + x79))), (116, i6 x80), (118, .pointer (some ⟨b0, 5, none⟩))] (fun _ _ _ _ _ h => calm_fin (P := Tryz.prog) (fn := Tryz.f17) _ _ _ _ _ h) (fun w hs => sat_pulls [1, 1, 1, 2, 2] (G := [own eStr 9 p102 1 ([x1] : List ByteArray), o3 b0 b1 m0.base_ m0.size_ m0.next_ m0.last_ p0 m0.list_ c0 m0.sure_ m0.dead_, own eStr 9 p104 c105 (m0.list_ ++ ([x1] : List ByteArray))] ++ F0) rfl hs) rfl (by kernel_rfl) ?_
    refine aw_only 19 (m' := 1048575) (by kernel_rfl) (by kernel_rfl) (pw_store 4 #[pP b1, i6 m0.base_, i6 m0.size_, i6 m0.next_, i6 m0.last_, .slice p104 (m0.list_ ++ ([x1] : List ByteArray)).length c105, i6 m0.sure_, .bool m0.dead_] rfl rfl rfl rfl rfl rfl rfl (by kernel_rfl) (nw_H (H' := [own eStr 9 p102 1 ([x1] : List ByteArray), imm I, o1 b1 b2 x81 x82, o0 b2 p84 l83 c85 b89 x90 x91 x92 x93 x94 x95 x96, o3 b0 b1 m0.base_ m0.size_ m0.next_ m0.last_ p104 (m0.list_ ++ ([x1] : List ByteArray)) c105 m0.sure_ m0.dead_, own e_disk_sector 51 p84 c85 l83, mpo (kInt .i64) (fun x : disk_sector => Value.agg #[.string x.s_, i6 x.at_]) b89 l87, own eStr 9 p104 c105 (m0.list_ ++ ([x1] : List ByteArray))] ++ F0) rfl (aw_next (fun w hs => sat_pulls [1, 1, 1, 2, 2] (G := [own eStr 9 p102 1 ([x1] : List ByteArray), o3 b0 b1 m0.base_ m0.size_ m0.next_ m0.last_ p104 (m0.list_ ++ ([x1] : List ByteArray)) c105 m0.sure_ m0.dead_, own eStr 9 p104 c105 (m0.list_ ++ ([x1] : List ByteArray))] ++ F0) rfl hs) ?_)))
    refine aw_vals [20, 21] (f' := 4) (m' := 4194303) [102, 115, 116, 120] [(102, pP b0), (115, i6 (IntKind.i64.wrap (m0.next_ + x79))), (116, i6 x80), (120, .pointer (some ⟨b0, 3, none⟩))] (fun _ _ _ _ _ h => calm_fin (P := Tryz.prog) (fn := Tryz.f17) _ _ _ _ _ h) (fun w hs => sat_pulls [1, 1, 1, 2, 2] (G := [own eStr 9 p102 1 ([x1] : List ByteArray), o3 b0 b1 m0.base_ m0.size_ m0.next_ m0.last_ p104 (m0.list_ ++ ([x1] : List ByteArray)) c105 m0.sure_ m0.dead_, own eStr 9 p104 c105 (m0.list_ ++ ([x1] : List ByteArray))] ++ F0) rfl hs) rfl (by kernel_rfl) ?_
    refine aw_only 22 (m' := 8388607) (by kernel_rfl) (by kernel_rfl) (pw_store 4 #[pP b1, i6 m0.base_, i6 m0.size_, i6 (IntKind.i64.wrap (m0.next_ + x79)), i6 m0.last_, .slice p104 (m0.list_ ++ ([x1] : List ByteArray)).length c105, i6 m0.sure_, .bool m0.dead_] rfl rfl rfl rfl rfl rfl rfl (by kernel_rfl) (nw_H (H' := [own eStr 9 p102 1 ([x1] : List ByteArray), imm I, o1 b1 b2 x81 x82, o0 b2 p84 l83 c85 b89 x90 x91 x92 x93 x94 x95 x96, o3 b0 b1 m0.base_ m0.size_ (IntKind.i64.wrap (m0.next_ + x79)) m0.last_ p104 (m0.list_ ++ ([x1] : List ByteArray)) c105 m0.sure_ m0.dead_, own e_disk_sector 51 p84 c85 l83, mpo (kInt .i64) (fun x : disk_sector => Value.agg #[.string x.s_, i6 x.at_]) b89 l87, own eStr 9 p104 c105 (m0.list_ ++ ([x1] : List ByteArray))] ++ F0) rfl (aw_next (fun w hs => sat_pulls [1, 1, 1, 2, 2] (G := [own eStr 9 p102 1 ([x1] : List ByteArray), o3 b0 b1 m0.base_ m0.size_ (IntKind.i64.wrap (m0.next_ + x79)) m0.last_ p104 (m0.list_ ++ ([x1] : List ByteArray)) c105 m0.sure_ m0.dead_, own eStr 9 p104 c105 (m0.list_ ++ ([x1] : List ByteArray))] ++ F0) rfl hs) ?_)))
    refine aw_vals [23, 24] (f' := 1) (m' := 33554431) [116, 122] [(116, i6 x80), (122, .pointer (some ⟨b0, 4, none⟩))] (fun _ _ _ _ _ h => calm_fin (P := Tryz.prog) (fn := Tryz.f17) _ _ _ _ _ h) (fun w hs => sat_pulls [1, 1, 1, 2, 2] (G := [own eStr 9 p102 1 ([x1] : List ByteArray), o3 b0 b1 m0.base_ m0.size_ (IntKind.i64.wrap (m0.next_ + x79)) m0.last_ p104 (m0.list_ ++ ([x1] : List ByteArray)) c105 m0.sure_ m0.dead_, own eStr 9 p104 c105 (m0.list_ ++ ([x1] : List ByteArray))] ++ F0) rfl hs) rfl (by kernel_rfl) ?_
    refine aw_only 25 (m' := 67108863) (by kernel_rfl) (by kernel_rfl) (pw_store 4 #[pP b1, i6 m0.base_, i6 m0.size_, i6 (IntKind.i64.wrap (m0.next_ + x79)), i6 x80, .slice p104 (m0.list_ ++ ([x1] : List ByteArray)).length c105, i6 m0.sure_, .bool m0.dead_] rfl rfl rfl rfl rfl rfl rfl (by kernel_rfl) (nw_H (H' := [own eStr 9 p102 1 ([x1] : List ByteArray), imm I, o1 b1 b2 x81 x82, o0 b2 p84 l83 c85 b89 x90 x91 x92 x93 x94 x95 x96, o3 b0 b1 m0.base_ m0.size_ (IntKind.i64.wrap (m0.next_ + x79)) x80 p104 (m0.list_ ++ ([x1] : List ByteArray)) c105 m0.sure_ m0.dead_, own e_disk_sector 51 p84 c85 l83, mpo (kInt .i64) (fun x : disk_sector => Value.agg #[.string x.s_, i6 x.at_]) b89 l87, own eStr 9 p104 c105 (m0.list_ ++ ([x1] : List ByteArray))] ++ F0) rfl (aw_last (by kernel_rfl) ?_)))
    refine aw_keep [] (L' := []) rfl ?_
    refine aw_end (by kernel_rfl) ?_
    refine ew_then ?_
    refine cw_seq ?_
    refine cw_region ?_
    refine ow_vals 1 (j := 1) [4] [(4, i6 0)] rfl (by kernel_rfl) ?_
    refine ow_end rfl ?_
    refine ew_then ?_
    refine cw_ret ?_
    have hR := Option.some.inj hF
    subst hR
    exact fin1 (H1 := [imm I, o3 b0 b1 ((⟨m0.base_, m0.size_, IntKind.i64.wrap (m0.next_ + x79), x80, m0.list_ ++ ([x1] : List ByteArray), m0.sure_, m0.dead_⟩ : journal_Journal).base_) ((⟨m0.base_, m0.size_, IntKind.i64.wrap (m0.next_ + x79), x80, m0.list_ ++ ([x1] : List ByteArray), m0.sure_, m0.dead_⟩ : journal_Journal).size_) ((⟨m0.base_, m0.size_, IntKind.i64.wrap (m0.next_ + x79), x80, m0.list_ ++ ([x1] : List ByteArray), m0.sure_, m0.dead_⟩ : journal_Journal).next_) ((⟨m0.base_, m0.size_, IntKind.i64.wrap (m0.next_ + x79), x80, m0.list_ ++ ([x1] : List ByteArray), m0.sure_, m0.dead_⟩ : journal_Journal).last_) p104 ((⟨m0.base_, m0.size_, IntKind.i64.wrap (m0.next_ + x79), x80, m0.list_ ++ ([x1] : List ByteArray), m0.sure_, m0.dead_⟩ : journal_Journal).list_) c105 ((⟨m0.base_, m0.size_, IntKind.i64.wrap (m0.next_ + x79), x80, m0.list_ ++ ([x1] : List ByteArray), m0.sure_, m0.dead_⟩ : journal_Journal).sure_) ((⟨m0.base_, m0.size_, IntKind.i64.wrap (m0.next_ + x79), x80, m0.list_ ++ ([x1] : List ByteArray), m0.sure_, m0.dead_⟩ : journal_Journal).dead_), o1 b1 b2 ((⟨x81, x82⟩ : guard_Guard).boot_) ((⟨x81, x82⟩ : guard_Guard).n_), o0 b2 p84 ((⟨l83, l87, x90, x91, x92, (⟨x93, x94⟩ : disk_Fall), x95, x96⟩ : disk_Disk).sure_) c85 b89 ((⟨l83, l87, x90, x91, x92, (⟨x93, x94⟩ : disk_Fall), x95, x96⟩ : disk_Disk).off_) ((⟨l83, l87, x90, x91, x92, (⟨x93, x94⟩ : disk_Fall), x95, x96⟩ : disk_Disk).armed_) ((⟨l83, l87, x90, x91, x92, (⟨x93, x94⟩ : disk_Fall), x95, x96⟩ : disk_Disk).left_) (((⟨l83, l87, x90, x91, x92, (⟨x93, x94⟩ : disk_Fall), x95, x96⟩ : disk_Disk).fall_).Keep) (((⟨l83, l87, x90, x91, x92, (⟨x93, x94⟩ : disk_Fall), x95, x96⟩ : disk_Disk).fall_).Tear) ((⟨l83, l87, x90, x91, x92, (⟨x93, x94⟩ : disk_Fall), x95, x96⟩ : disk_Disk).acts_) ((⟨l83, l87, x90, x91, x92, (⟨x93, x94⟩ : disk_Fall), x95, x96⟩ : disk_Disk).falls_), own eStr 9 p104 c105 ((⟨m0.base_, m0.size_, IntKind.i64.wrap (m0.next_ + x79), x80, m0.list_ ++ ([x1] : List ByteArray), m0.sure_, m0.dead_⟩ : journal_Journal).list_), own e_disk_sector 51 p84 c85 ((⟨l83, l87, x90, x91, x92, (⟨x93, x94⟩ : disk_Fall), x95, x96⟩ : disk_Disk).sure_), mpo (kInt .i64) (fun x : disk_sector => Value.agg #[.string x.s_, i6 x.at_]) b89 ((⟨l83, l87, x90, x91, x92, (⟨x93, x94⟩ : disk_Fall), x95, x96⟩ : disk_Disk).wait_)]) (fun w hs => sat_to [0, 0, 2, 0, 0, 2, 0, 0] 1 rfl hs) rfl (rr_tmp rfl) ⟨p104, c105, p84, c85, b89, rfl, rfl⟩
  refine pw_buildSlice (E := 9) eStr ([x1] : List ByteArray) rfl rfl rfl rfl rfl (by kernel_rfl) rfl (by kernel_rfl) rfl (by decide) rfl fun p102 => aw_next (fun w hs => sat_pulls [1, 1, 1, 2, 2] (G := [own eStr 9 p102 1 ([x1] : List ByteArray), o3 b0 b1 m0.base_ m0.size_ m0.next_ m0.last_ p0 m0.list_ c0 m0.sure_ m0.dead_, own eStr 9 p0 c0 m0.list_] ++ F0) rfl hs) ?_
  refine aw_only 6 (m' := 130559) (by kernel_rfl) (by kernel_rfl) (pw_quiet (v := .slice p0 m0.list_.length c0) rfl rfl rfl rfl (q_load 4 rfl rfl rfl (by kernel_rfl)) (aw_next (fun w hs => sat_pulls [1, 1, 1, 2, 2] (G := [own eStr 9 p102 1 ([x1] : List ByteArray), o3 b0 b1 m0.base_ m0.size_ m0.next_ m0.last_ p0 m0.list_ c0 m0.sure_ m0.dead_, own eStr 9 p0 c0 m0.list_] ++ F0) rfl hs) ?_))
  refine aw_only 9 (m' := 131071) (by kernel_rfl) (by kernel_rfl) (pw_append 7 (l' := ([x1] : List ByteArray)) rfl rfl rfl rfl rfl rfl (by kernel_rfl) (by kernel_rfl) rfl rfl rfl (src_own (E' := 9) 0 rfl (by kernel_rfl) rfl) rfl h99.1 h99.2 fun p104 c105 => nw_H (H' := [own eStr 9 p102 1 ([x1] : List ByteArray), imm I, o1 b1 b2 x81 x82, o0 b2 p84 l83 c85 b89 x90 x91 x92 x93 x94 x95 x96, o3 b0 b1 m0.base_ m0.size_ m0.next_ m0.last_ p0 m0.list_ c0 m0.sure_ m0.dead_, own e_disk_sector 51 p84 c85 l83, mpo (kInt .i64) (fun x : disk_sector => Value.agg #[.string x.s_, i6 x.at_]) b89 l87, own eStr 9 p104 c105 (m0.list_ ++ ([x1] : List ByteArray))] ++ F0) rfl (aw_next (fun w hs => sat_pulls [1, 1, 1, 2, 2] (G := [own eStr 9 p102 1 ([x1] : List ByteArray), o3 b0 b1 m0.base_ m0.size_ m0.next_ m0.last_ p0 m0.list_ c0 m0.sure_ m0.dead_, own eStr 9 p104 c105 (m0.list_ ++ ([x1] : List ByteArray))] ++ F0) rfl hs) ?_))
  refine aw_vals [17, 18] (f' := 7) (m' := 524287) [101, 102, 109, 115, 116, 118] [(101, pP b0), (102, pP b0), (109, .slice p104 (m0.list_ ++ ([x1] : List ByteArray)).length c105), (115, i6 (IntKind.i64.wrap (m0.next_ + x79))), (116, i6 x80), (118, .pointer (some ⟨b0, 5, none⟩))] (fun _ _ _ _ _ h => calm_fin (P := Tryz.prog) (fn := Tryz.f17) _ _ _ _ _ h) (fun w hs => sat_pulls [1, 1, 1, 2, 2] (G := [own eStr 9 p102 1 ([x1] : List ByteArray), o3 b0 b1 m0.base_ m0.size_ m0.next_ m0.last_ p0 m0.list_ c0 m0.sure_ m0.dead_, own eStr 9 p104 c105 (m0.list_ ++ ([x1] : List ByteArray))] ++ F0) rfl hs) rfl (by kernel_rfl) ?_
  refine aw_only 19 (m' := 1048575) (by kernel_rfl) (by kernel_rfl) (pw_store 4 #[pP b1, i6 m0.base_, i6 m0.size_, i6 m0.next_, i6 m0.last_, .slice p104 (m0.list_ ++ ([x1] : List ByteArray)).length c105, i6 m0.sure_, .bool m0.dead_] rfl rfl rfl rfl rfl rfl rfl (by kernel_rfl) (nw_H (H' := [own eStr 9 p102 1 ([x1] : List ByteArray), imm I, o1 b1 b2 x81 x82, o0 b2 p84 l83 c85 b89 x90 x91 x92 x93 x94 x95 x96, o3 b0 b1 m0.base_ m0.size_ m0.next_ m0.last_ p104 (m0.list_ ++ ([x1] : List ByteArray)) c105 m0.sure_ m0.dead_, own e_disk_sector 51 p84 c85 l83, mpo (kInt .i64) (fun x : disk_sector => Value.agg #[.string x.s_, i6 x.at_]) b89 l87, own eStr 9 p104 c105 (m0.list_ ++ ([x1] : List ByteArray))] ++ F0) rfl (aw_next (fun w hs => sat_pulls [1, 1, 1, 2, 2] (G := [own eStr 9 p102 1 ([x1] : List ByteArray), o3 b0 b1 m0.base_ m0.size_ m0.next_ m0.last_ p104 (m0.list_ ++ ([x1] : List ByteArray)) c105 m0.sure_ m0.dead_, own eStr 9 p104 c105 (m0.list_ ++ ([x1] : List ByteArray))] ++ F0) rfl hs) ?_)))
  refine aw_vals [20, 21] (f' := 4) (m' := 4194303) [102, 115, 116, 120] [(102, pP b0), (115, i6 (IntKind.i64.wrap (m0.next_ + x79))), (116, i6 x80), (120, .pointer (some ⟨b0, 3, none⟩))] (fun _ _ _ _ _ h => calm_fin (P := Tryz.prog) (fn := Tryz.f17) _ _ _ _ _ h) (fun w hs => sat_pulls [1, 1, 1, 2, 2] (G := [own eStr 9 p102 1 ([x1] : List ByteArray), o3 b0 b1 m0.base_ m0.size_ m0.next_ m0.last_ p104 (m0.list_ ++ ([x1] : List ByteArray)) c105 m0.sure_ m0.dead_, own eStr 9 p104 c105 (m0.list_ ++ ([x1] : List ByteArray))] ++ F0) rfl hs) rfl (by kernel_rfl) ?_
  refine aw_only 22 (m' := 8388607) (by kernel_rfl) (by kernel_rfl) (pw_store 4 #[pP b1, i6 m0.base_, i6 m0.size_, i6 (IntKind.i64.wrap (m0.next_ + x79)), i6 m0.last_, .slice p104 (m0.list_ ++ ([x1] : List ByteArray)).length c105, i6 m0.sure_, .bool m0.dead_] rfl rfl rfl rfl rfl rfl rfl (by kernel_rfl) (nw_H (H' := [own eStr 9 p102 1 ([x1] : List ByteArray), imm I, o1 b1 b2 x81 x82, o0 b2 p84 l83 c85 b89 x90 x91 x92 x93 x94 x95 x96, o3 b0 b1 m0.base_ m0.size_ (IntKind.i64.wrap (m0.next_ + x79)) m0.last_ p104 (m0.list_ ++ ([x1] : List ByteArray)) c105 m0.sure_ m0.dead_, own e_disk_sector 51 p84 c85 l83, mpo (kInt .i64) (fun x : disk_sector => Value.agg #[.string x.s_, i6 x.at_]) b89 l87, own eStr 9 p104 c105 (m0.list_ ++ ([x1] : List ByteArray))] ++ F0) rfl (aw_next (fun w hs => sat_pulls [1, 1, 1, 2, 2] (G := [own eStr 9 p102 1 ([x1] : List ByteArray), o3 b0 b1 m0.base_ m0.size_ (IntKind.i64.wrap (m0.next_ + x79)) m0.last_ p104 (m0.list_ ++ ([x1] : List ByteArray)) c105 m0.sure_ m0.dead_, own eStr 9 p104 c105 (m0.list_ ++ ([x1] : List ByteArray))] ++ F0) rfl hs) ?_)))
  refine aw_vals [23, 24] (f' := 1) (m' := 33554431) [116, 122] [(116, i6 x80), (122, .pointer (some ⟨b0, 4, none⟩))] (fun _ _ _ _ _ h => calm_fin (P := Tryz.prog) (fn := Tryz.f17) _ _ _ _ _ h) (fun w hs => sat_pulls [1, 1, 1, 2, 2] (G := [own eStr 9 p102 1 ([x1] : List ByteArray), o3 b0 b1 m0.base_ m0.size_ (IntKind.i64.wrap (m0.next_ + x79)) m0.last_ p104 (m0.list_ ++ ([x1] : List ByteArray)) c105 m0.sure_ m0.dead_, own eStr 9 p104 c105 (m0.list_ ++ ([x1] : List ByteArray))] ++ F0) rfl hs) rfl (by kernel_rfl) ?_
  refine aw_only 25 (m' := 67108863) (by kernel_rfl) (by kernel_rfl) (pw_store 4 #[pP b1, i6 m0.base_, i6 m0.size_, i6 (IntKind.i64.wrap (m0.next_ + x79)), i6 x80, .slice p104 (m0.list_ ++ ([x1] : List ByteArray)).length c105, i6 m0.sure_, .bool m0.dead_] rfl rfl rfl rfl rfl rfl rfl (by kernel_rfl) (nw_H (H' := [own eStr 9 p102 1 ([x1] : List ByteArray), imm I, o1 b1 b2 x81 x82, o0 b2 p84 l83 c85 b89 x90 x91 x92 x93 x94 x95 x96, o3 b0 b1 m0.base_ m0.size_ (IntKind.i64.wrap (m0.next_ + x79)) x80 p104 (m0.list_ ++ ([x1] : List ByteArray)) c105 m0.sure_ m0.dead_, own e_disk_sector 51 p84 c85 l83, mpo (kInt .i64) (fun x : disk_sector => Value.agg #[.string x.s_, i6 x.at_]) b89 l87, own eStr 9 p104 c105 (m0.list_ ++ ([x1] : List ByteArray))] ++ F0) rfl (aw_last (by kernel_rfl) ?_)))
  refine aw_keep [] (L' := []) rfl ?_
  refine aw_end (by kernel_rfl) ?_
  refine ew_then ?_
  refine cw_seq ?_
  refine cw_region ?_
  refine ow_vals 1 (j := 1) [4] [(4, i6 0)] rfl (by kernel_rfl) ?_
  refine ow_end rfl ?_
  refine ew_then ?_
  refine cw_ret ?_
  have hR := Option.some.inj hF
  subst hR
  exact fin1 (H1 := [imm I, o3 b0 b1 ((⟨m0.base_, m0.size_, IntKind.i64.wrap (m0.next_ + x79), x80, m0.list_ ++ ([x1] : List ByteArray), m0.sure_, m0.dead_⟩ : journal_Journal).base_) ((⟨m0.base_, m0.size_, IntKind.i64.wrap (m0.next_ + x79), x80, m0.list_ ++ ([x1] : List ByteArray), m0.sure_, m0.dead_⟩ : journal_Journal).size_) ((⟨m0.base_, m0.size_, IntKind.i64.wrap (m0.next_ + x79), x80, m0.list_ ++ ([x1] : List ByteArray), m0.sure_, m0.dead_⟩ : journal_Journal).next_) ((⟨m0.base_, m0.size_, IntKind.i64.wrap (m0.next_ + x79), x80, m0.list_ ++ ([x1] : List ByteArray), m0.sure_, m0.dead_⟩ : journal_Journal).last_) p104 ((⟨m0.base_, m0.size_, IntKind.i64.wrap (m0.next_ + x79), x80, m0.list_ ++ ([x1] : List ByteArray), m0.sure_, m0.dead_⟩ : journal_Journal).list_) c105 ((⟨m0.base_, m0.size_, IntKind.i64.wrap (m0.next_ + x79), x80, m0.list_ ++ ([x1] : List ByteArray), m0.sure_, m0.dead_⟩ : journal_Journal).sure_) ((⟨m0.base_, m0.size_, IntKind.i64.wrap (m0.next_ + x79), x80, m0.list_ ++ ([x1] : List ByteArray), m0.sure_, m0.dead_⟩ : journal_Journal).dead_), o1 b1 b2 ((⟨x81, x82⟩ : guard_Guard).boot_) ((⟨x81, x82⟩ : guard_Guard).n_), o0 b2 p84 ((⟨l83, l87, x90, x91, x92, (⟨x93, x94⟩ : disk_Fall), x95, x96⟩ : disk_Disk).sure_) c85 b89 ((⟨l83, l87, x90, x91, x92, (⟨x93, x94⟩ : disk_Fall), x95, x96⟩ : disk_Disk).off_) ((⟨l83, l87, x90, x91, x92, (⟨x93, x94⟩ : disk_Fall), x95, x96⟩ : disk_Disk).armed_) ((⟨l83, l87, x90, x91, x92, (⟨x93, x94⟩ : disk_Fall), x95, x96⟩ : disk_Disk).left_) (((⟨l83, l87, x90, x91, x92, (⟨x93, x94⟩ : disk_Fall), x95, x96⟩ : disk_Disk).fall_).Keep) (((⟨l83, l87, x90, x91, x92, (⟨x93, x94⟩ : disk_Fall), x95, x96⟩ : disk_Disk).fall_).Tear) ((⟨l83, l87, x90, x91, x92, (⟨x93, x94⟩ : disk_Fall), x95, x96⟩ : disk_Disk).acts_) ((⟨l83, l87, x90, x91, x92, (⟨x93, x94⟩ : disk_Fall), x95, x96⟩ : disk_Disk).falls_), own eStr 9 p104 c105 ((⟨m0.base_, m0.size_, IntKind.i64.wrap (m0.next_ + x79), x80, m0.list_ ++ ([x1] : List ByteArray), m0.sure_, m0.dead_⟩ : journal_Journal).list_), own e_disk_sector 51 p84 c85 ((⟨l83, l87, x90, x91, x92, (⟨x93, x94⟩ : disk_Fall), x95, x96⟩ : disk_Disk).sure_), mpo (kInt .i64) (fun x : disk_sector => Value.agg #[.string x.s_, i6 x.at_]) b89 ((⟨l83, l87, x90, x91, x92, (⟨x93, x94⟩ : disk_Fall), x95, x96⟩ : disk_Disk).wait_)]) (fun w hs => sat_to [0, 0, 2, 0, 0, 2, 0, 0] 1 rfl hs) rfl (rr_tmp rfl) ⟨p104, c105, p84, c85, b89, rfl, rfl⟩


def F.law12_plain_used.l1 (m0 : law12_plain) (x23 : Int) (x24 : Int) : Option ((Int × Int) ⊕ (Int)) :=
  if decide (x24 < (m0.l_.length : Int)) then (Option.bind (at_ m0.l_ x24) (fun (y26 : ByteArray) => Option.bind (F.law12_need (y26.size : Int)) (fun (r28 : Int) => some (.inl (IntKind.i64.wrap (x23 + r28), IntKind.i64.wrap (x24 + 1)))))) else (some (.inr (x23)))
def F.law12_plain_used.r2 (x30 : Int) : Option (Int) :=
  some (x30)
def F.law12_plain_used (m0 : law12_plain) : Option Int :=
  Option.bind (iter (fun x => F.law12_plain_used.l1 m0 x.1 x.2) FUEL (0, 0)) (fun x => F.law12_plain_used.r2 x)
set_option maxRecDepth 100000 in
set_option maxHeartbeats 4000000 in
theorem c_law12_plain_used (I : Hl) (m0 : law12_plain) (p0 : Option Addr) (c0 : Nat) (b0 : Nat) (res : Int) (hF : F.law12_plain_used m0 = some res) : Tr Tryz.prog 19 [pP b0] [imm I, o5 b0 p0 m0.l_ c0 m0.sure_ m0.boot_, own eStr 9 p0 c0 m0.l_] (fun r H' => r = i6 res ∧ H' = [imm I, o5 b0 p0 m0.l_ c0 m0.sure_ m0.boot_, own eStr 9 p0 c0 m0.l_]) := by
  unfold F.law12_plain_used at hF
  refine tr_of_cw (fn := Tryz.f19) Tryz.func19 rfl (Nat.le_of_ble_eq_true rfl) 26 rfl fun F0 w0 => ?_
  refine cw_keep [0] (L' := [(0, pP b0)]) rfl ?_
  refine cw_state (S' := SAT w0 ([imm I, o5 b0 p0 m0.l_ c0 m0.sure_ m0.boot_, own eStr 9 p0 c0 m0.l_] ++ F0)) (fun w hs => hs) ?_
  refine cw_seq ?_
  refine cw_region ?_
  refine ow_vals 1 (j := 1) [0] [(0, pP b0)] rfl (by kernel_rfl) ?_
  refine ow_end rfl ?_
  refine ew_then ?_
  refine cw_seq ?_
  refine cw_region ?_
  refine ow_vals 1 (j := 1) [0, 3] [(0, pP b0), (3, i6 0)] rfl (by kernel_rfl) ?_
  refine ow_end rfl ?_
  refine ew_then ?_
  obtain ⟨v21, hF, hK21⟩ := bind_some hF
  refine cw_mid (fun a w => ∃ (x30 : Int), x30 = v21 ∧ Fr 26 [(3, i6 x30)] a ∧ SAT w0 ([imm I, o5 b0 p0 m0.l_ c0 m0.sure_ m0.boot_, own eStr 9 p0 c0 m0.l_] ++ F0) w) ?_ ?_
  · refine cw_seq ?_
    refine cw_region ?_
    refine ow_vals 1 (j := 1) [0, 3, 4] [(0, pP b0), (3, i6 0), (4, i6 0)] rfl (by kernel_rfl) ?_
    refine ow_end rfl ?_
    refine ew_then ?_
    refine cw_block ?_
    refine fun a w hf hs => wp_rounds (fun k a w => ∃ (x23 : Int), ∃ (x24 : Int), iter (fun x => F.law12_plain_used.l1 m0 x.1 x.2) k (x23, x24) = some v21 ∧ Fr 26 [(0, pP b0), (3, i6 x23), (4, i6 x24)] a ∧ SAT w0 ([imm I, o5 b0 p0 m0.l_ c0 m0.sure_ m0.boot_, own eStr 9 p0 c0 m0.l_] ++ F0) w) ?_ FUEL a w ⟨0, 0, hF, hf.keep [0, 3, 4], sat_to [0, 0, 0] 0 rfl hs⟩
    clear hf hs
    clear a w hF
    rintro k a w ⟨x23, x24, hF2, hf, hs⟩
    obtain ⟨k, r22, rfl, hF, hL22⟩ := iter_some hF2
    clear hF2
    revert a w
    show CW _ _ _ 26 [(0, pP b0), (3, i6 x23), (4, i6 x24)] (SAT w0 ([imm I, o5 b0 p0 m0.l_ c0 m0.sure_ m0.boot_, own eStr 9 p0 c0 m0.l_] ++ F0))
    try dsimp only at hF
    unfold F.law12_plain_used.l1 at hF
    refine cw_seq ?_
    refine cw_seq ?_
    refine cw_region ?_
    refine ow_vals 4 (j := 4) [0, 3, 4, 5, 8] [(0, pP b0), (3, i6 x23), (4, i6 x24), (5, i6 x24), (8, pP b0)] rfl (by kernel_rfl) ?_
    refine ow_pw rfl (pw_quiet (v := .slice p0 m0.l_.length c0) rfl rfl rfl rfl (q_load 1 rfl rfl rfl (by kernel_rfl)) (nw_ow ?_))
    refine ow_vals 2 (j := 7) [0, 3, 4, 11] [(0, pP b0), (3, i6 x23), (4, i6 x24), (11, .bool (decide (x24 < (m0.l_.length : Int))))] rfl (by kernel_rfl) ?_
    refine ow_end rfl ?_
    refine ew_then ?_
    rcases if_some hF with ⟨h25, hF⟩ | ⟨h25, hF⟩
    · refine cw_cond_t rfl rfl h25 ?_
      refine cw_skip ?_
      refine ew_then ?_
      refine cw_seq ?_
      refine cw_block ?_
      refine cw_region ?_
      refine ow_vals 4 (j := 4) [0, 4, 14, 17] [(0, pP b0), (4, i6 x24), (14, i6 x23), (17, pP b0)] rfl (by kernel_rfl) ?_
      refine ow_pw rfl (pw_quiet (v := .slice p0 m0.l_.length c0) rfl rfl rfl rfl (q_load 1 rfl rfl rfl (by kernel_rfl)) (nw_ow ?_))
      refine ow_vals 1 (j := 6) [0, 4, 14, 18, 19] [(0, pP b0), (4, i6 x24), (14, i6 x23), (18, .slice p0 m0.l_.length c0), (19, i6 x24)] rfl (by kernel_rfl) ?_
      obtain ⟨y26, h27, hF⟩ := bind_some hF
      refine ow_pw rfl (pw_quiet (v := .pointer (some ((base p0).add (x24.toNat * 1)))) rfl rfl rfl rfl (q_index_own 2 1 rfl rfl (by kernel_rfl) rfl rfl (at_some h27).1 (at_lt h27)) (nw_ow ?_))
      refine ow_pw rfl (pw_quiet (v := .string y26) rfl rfl rfl rfl (q_load_own0 2 1 rfl rfl rfl rfl (at_some h27).2 (by kernel_rfl)) (nw_ow ?_))
      refine ow_vals 1 (j := 9) [0, 4, 14, 22] [(0, pP b0), (4, i6 x24), (14, i6 x23), (22, i6 (y26.size : Int))] rfl (by kernel_rfl) ?_
      obtain ⟨r28, h29, hF⟩ := bind_some hF
      refine ow_pw rfl (pw_call (F := [o5 b0 p0 m0.l_ c0 m0.sure_ m0.boot_, own eStr 9 p0 c0 m0.l_] ++ F0) rfl rfl rfl rfl rfl rfl rfl (by kernel_rfl) (perm_of_pulls [0] rfl) (c_law12_need _ (y26.size : Int) r28 h29) ?_)
      rintro _ _ ⟨rfl, rfl⟩
      refine nw_H (H' := [imm I, o5 b0 p0 m0.l_ c0 m0.sure_ m0.boot_, own eStr 9 p0 c0 m0.l_] ++ F0) rfl (nw_ow ?_)
      refine ow_vals 2 (j := 12) [0, 3, 4] [(0, pP b0), (3, i6 (IntKind.i64.wrap (x23 + r28))), (4, i6 x24)] rfl (by kernel_rfl) ?_
      refine ow_end rfl ?_
      refine ew_blk ?_
      refine ew_then ?_
      refine cw_region ?_
      refine ow_vals 3 (j := 3) [0, 3, 4] [(0, pP b0), (3, i6 (IntKind.i64.wrap (x23 + r28))), (4, i6 (IntKind.i64.wrap (x24 + 1)))] rfl (by kernel_rfl) ?_
      refine ow_end rfl ?_
      have hR := Option.some.inj hF
      subst hR
      have hR := hL22
      try dsimp only at hR
      exact fun a w hf hs => ⟨k, Nat.lt_succ_self k, IntKind.i64.wrap (x23 + r28), IntKind.i64.wrap (x24 + 1), hR, hf.keep [0, 3, 4], sat_to [0, 0, 0] 0 rfl hs⟩
    refine cw_cond_f rfl rfl h25 ?_
    refine cw_exit ?_
    refine ew_then_exit ?_
    refine ew_then_exit ?_
    refine ew_blk_exit ?_
    have hR := Option.some.inj hF
    subst hR
    have hR := hL22
    try dsimp only at hR
    exact fun a w hf hs => ⟨x23, hR, hf.keep [3], sat_to [0, 0, 0] 0 rfl hs⟩
  rintro a w ⟨x30, hv, hf, hs⟩
  subst hv
  replace hF := hK21
  clear hK21
  try dsimp only at hF
  revert a w
  show CW _ _ _ 26 [(3, i6 x30)] (SAT w0 ([imm I, o5 b0 p0 m0.l_ c0 m0.sure_ m0.boot_, own eStr 9 p0 c0 m0.l_] ++ F0))
  unfold F.law12_plain_used.r2 at hF
  refine cw_seq ?_
  refine cw_region ?_
  refine ow_vals 2 (j := 2) [2] [(2, i6 x30)] rfl (by kernel_rfl) ?_
  refine ow_end rfl ?_
  refine ew_then ?_
  refine cw_ret ?_
  have hR := Option.some.inj hF
  subst hR
  exact fin1 (H1 := [imm I, o5 b0 p0 m0.l_ c0 m0.sure_ m0.boot_, own eStr 9 p0 c0 m0.l_]) (fun w hs => sat_to [0, 0, 0] 0 rfl hs) rfl (rr_tmp rfl) ⟨rfl, rfl⟩


def F.disk_Disk_Up (m0 : disk_Disk) : Option Bool :=
  Option.bind (F.disk_Disk_Size m0) (fun (r21 : Int) => if decide (r21 > 0) then (some ((!m0.off_))) else (some (false)))
set_option maxRecDepth 100000 in
set_option maxHeartbeats 4000000 in
theorem c_disk_Disk_Up (I : Hl) (m0 : disk_Disk) (p0 : Option Addr) (c0 : Nat) (p1 : Nat) (b0 : Nat) (res : Bool) (hF : F.disk_Disk_Up m0 = some res) : Tr Tryz.prog 8 [pP b0] [imm I, o0 b0 p0 m0.sure_ c0 p1 m0.off_ m0.armed_ m0.left_ m0.fall_.Keep m0.fall_.Tear m0.acts_ m0.falls_, own e_disk_sector 51 p0 c0 m0.sure_, mpo (kInt .i64) (fun x : disk_sector => Value.agg #[.string x.s_, i6 x.at_]) p1 m0.wait_] (fun r H' => r = .bool res ∧ H' = [imm I, o0 b0 p0 m0.sure_ c0 p1 m0.off_ m0.armed_ m0.left_ m0.fall_.Keep m0.fall_.Tear m0.acts_ m0.falls_, own e_disk_sector 51 p0 c0 m0.sure_, mpo (kInt .i64) (fun x : disk_sector => Value.agg #[.string x.s_, i6 x.at_]) p1 m0.wait_]) := by
  unfold F.disk_Disk_Up at hF
  refine tr_of_cw (fn := Tryz.f8) Tryz.func8 rfl (Nat.le_of_ble_eq_true rfl) 13 rfl fun F0 w0 => ?_
  refine cw_keep [0] (L' := [(0, pP b0)]) rfl ?_
  refine cw_state (S' := SAT w0 ([imm I, o0 b0 p0 m0.sure_ c0 p1 m0.off_ m0.armed_ m0.left_ m0.fall_.Keep m0.fall_.Tear m0.acts_ m0.falls_, own e_disk_sector 51 p0 c0 m0.sure_, mpo (kInt .i64) (fun x : disk_sector => Value.agg #[.string x.s_, i6 x.at_]) p1 m0.wait_] ++ F0)) (fun w hs => hs) ?_
  refine cw_seq ?_
  refine cw_region ?_
  refine ow_vals 1 (j := 1) [0] [(0, pP b0)] rfl (by kernel_rfl) ?_
  refine ow_end rfl ?_
  refine ew_then ?_
  refine cw_seq ?_
  refine cw_region ?_
  refine ow_vals 1 (j := 1) [0, 3] [(0, pP b0), (3, pP b0)] rfl (by kernel_rfl) ?_
  obtain ⟨r21, h22, hF⟩ := bind_some hF
  refine ow_pw rfl (pw_call (F := [] ++ F0) rfl rfl rfl rfl rfl rfl rfl (by kernel_rfl) (perm_of_pulls [0, 0, 0, 0] rfl) (c_disk_Disk_Size _ m0 p0 c0 p1 b0 r21 h22) ?_)
  rintro _ _ ⟨rfl, rfl⟩
  refine nw_H (H' := [imm I, o0 b0 p0 m0.sure_ c0 p1 m0.off_ m0.armed_ m0.left_ m0.fall_.Keep m0.fall_.Tear m0.acts_ m0.falls_, own e_disk_sector 51 p0 c0 m0.sure_, mpo (kInt .i64) (fun x : disk_sector => Value.agg #[.string x.s_, i6 x.at_]) p1 m0.wait_] ++ F0) rfl (nw_ow ?_)
  refine ow_vals 2 (j := 4) [0, 6] [(0, pP b0), (6, .bool (decide (r21 > 0)))] rfl (by kernel_rfl) ?_
  rcases if_some hF with ⟨h23, hF⟩ | ⟨h23, hF⟩
  · refine ow_slots (L' := [(0, pP b0), (6, .bool true)]) (by rw [h23]) ?_
    refine ow_vals 3 (j := 7) [6, 9] [(6, .bool true), (9, .pointer (some ⟨b0, 2, none⟩))] rfl (by kernel_rfl) ?_
    refine ow_pw rfl (pw_quiet (v := .bool m0.off_) rfl rfl rfl rfl (q_load 1 rfl rfl rfl (by kernel_rfl)) (nw_ow ?_))
    refine ow_vals 3 (j := 11) [2] [(2, .bool (!m0.off_))] rfl (by kernel_rfl) ?_
    refine ow_end rfl ?_
    refine ew_then ?_
    refine cw_ret ?_
    have hR := Option.some.inj hF
    subst hR
    exact fin1 (H1 := [imm I, o0 b0 p0 m0.sure_ c0 p1 m0.off_ m0.armed_ m0.left_ m0.fall_.Keep m0.fall_.Tear m0.acts_ m0.falls_, own e_disk_sector 51 p0 c0 m0.sure_, mpo (kInt .i64) (fun x : disk_sector => Value.agg #[.string x.s_, i6 x.at_]) p1 m0.wait_]) (fun w hs => sat_to [0, 0, 0, 0] 0 rfl hs) rfl (rr_tmp rfl) ⟨rfl, rfl⟩
  refine ow_slots (L' := [(0, pP b0), (6, .bool false)]) (by rw [h23]) ?_
  refine ow_vals 7 (j := 11) [2] [(2, .bool false)] rfl (by kernel_rfl) ?_
  refine ow_end rfl ?_
  refine ew_then ?_
  refine cw_ret ?_
  have hR := Option.some.inj hF
  subst hR
  exact fin1 (H1 := [imm I, o0 b0 p0 m0.sure_ c0 p1 m0.off_ m0.armed_ m0.left_ m0.fall_.Keep m0.fall_.Tear m0.acts_ m0.falls_, own e_disk_sector 51 p0 c0 m0.sure_, mpo (kInt .i64) (fun x : disk_sector => Value.agg #[.string x.s_, i6 x.at_]) p1 m0.wait_]) (fun w hs => sat_to [0, 0, 0, 0] 0 rfl hs) rfl (rr_tmp rfl) ⟨rfl, rfl⟩


def F.law12_add.r1 (m0 : disk_Disk) (m1 : journal_Journal) (m2 : guard_Guard) (m3 : law12_plain) (s29 : ByteArray) : Option (Bool × disk_Disk × journal_Journal × guard_Guard × law12_plain) :=
  Option.bind (F.journal_Journal_Append s29 m1 m2 m0) (fun (r30 : Int × journal_Journal × guard_Guard × disk_Disk) => if decide ((s29.size : Int) > 6000) then (some ((r30.1 == 3, r30.2.2.2, r30.2.1, r30.2.2.1, m3))) else (Option.bind (F.law12_need (s29.size : Int)) (fun (r36 : Int) => Option.bind (F.law12_plain_used m3) (fun (r38 : Int) => if decide (r36 > (IntKind.i64.wrap (60 - r38))) then (some ((r30.1 == 6, r30.2.2.2, r30.2.1, r30.2.2.1, m3))) else (chk (room (m3.l_.length + ([s29] : List ByteArray).length) 16) (if r30.1 == 0 then (some ((true, r30.2.2.2, r30.2.1, r30.2.2.1, (⟨m3.l_ ++ ([s29] : List ByteArray), m3.sure_, m3.boot_⟩ : law12_plain)))) else (if r30.1 == 8 then (Option.bind (F.disk_Disk_Up r30.2.2.2) (fun (r48 : Bool) => some ((!r48, r30.2.2.2, r30.2.1, r30.2.2.1, (⟨m3.l_ ++ ([s29] : List ByteArray), m3.sure_, m3.boot_⟩ : law12_plain))))) else (some ((false, r30.2.2.2, r30.2.1, r30.2.2.1, (⟨m3.l_ ++ ([s29] : List ByteArray), m3.sure_, m3.boot_⟩ : law12_plain)))))))))))
def F.law12_add (x3 : law12_Op) (m0 : disk_Disk) (m1 : journal_Journal) (m2 : guard_Guard) (m3 : law12_plain) : Option (Bool × disk_Disk × journal_Journal × guard_Guard × law12_plain) :=
  Option.bind (F.law12_text x3.C (iand .i64 x3.Long 8191)) (fun (r23 : ByteArray) => Option.bind (if (iand .i64 x3.Long 1024) == 0 then (Option.bind (F.law12_text x3.C (iand .i64 x3.Long 127)) (fun (r27 : ByteArray) => some (r27))) else (some (r23))) (fun x => F.law12_add.r1 m0 m1 m2 m3 x))
set_option maxRecDepth 100000 in
set_option maxHeartbeats 4000000 in
theorem c_law12_add (I : Hl) (x3 : law12_Op) (m0 : disk_Disk) (m1 : journal_Journal) (m2 : guard_Guard) (m3 : law12_plain) (p0 : Option Addr) (c0 : Nat) (p1 : Nat) (b0 : Nat) (p2 : Option Addr) (c2 : Nat) (b1 : Nat) (b2 : Nat) (p3 : Option Addr) (c3 : Nat) (b3 : Nat) (res : Bool × disk_Disk × journal_Journal × guard_Guard × law12_plain) (hF : F.law12_add x3 m0 m1 m2 m3 = some res) : Tr Tryz.prog 6 [pP b0, pP b1, pP b3, .agg #[i6 x3.Kind, i6 x3.Long, .int .u8 x3.C, .int .u64 x3.F.Keep, i6 x3.F.Tear]] [imm I, o0 b0 p0 m0.sure_ c0 p1 m0.off_ m0.armed_ m0.left_ m0.fall_.Keep m0.fall_.Tear m0.acts_ m0.falls_, o3 b1 b2 m1.base_ m1.size_ m1.next_ m1.last_ p2 m1.list_ c2 m1.sure_ m1.dead_, o1 b2 b0 m2.boot_ m2.n_, o5 b3 p3 m3.l_ c3 m3.sure_ m3.boot_, own e_disk_sector 51 p0 c0 m0.sure_, mpo (kInt .i64) (fun x : disk_sector => Value.agg #[.string x.s_, i6 x.at_]) p1 m0.wait_, own eStr 9 p2 c2 m1.list_, own eStr 9 p3 c3 m3.l_] (fun r H' => ∃ (pq1 : Option Addr), ∃ (cq2 : Nat), ∃ (bq4 : Nat), ∃ (pq6 : Option Addr), ∃ (cq7 : Nat), ∃ (pq9 : Option Addr), ∃ (cq10 : Nat), r = .bool res.1 ∧ H' = [imm I, o0 b0 pq1 res.2.1.sure_ cq2 bq4 res.2.1.off_ res.2.1.armed_ res.2.1.left_ res.2.1.fall_.Keep res.2.1.fall_.Tear res.2.1.acts_ res.2.1.falls_, o3 b1 b2 res.2.2.1.base_ res.2.2.1.size_ res.2.2.1.next_ res.2.2.1.last_ pq6 res.2.2.1.list_ cq7 res.2.2.1.sure_ res.2.2.1.dead_, o1 b2 b0 res.2.2.2.1.boot_ res.2.2.2.1.n_, o5 b3 pq9 res.2.2.2.2.l_ cq10 res.2.2.2.2.sure_ res.2.2.2.2.boot_, own e_disk_sector 51 pq1 cq2 res.2.1.sure_, mpo (kInt .i64) (fun x : disk_sector => Value.agg #[.string x.s_, i6 x.at_]) bq4 res.2.1.wait_, own eStr 9 pq6 cq7 res.2.2.1.list_, own eStr 9 pq9 cq10 res.2.2.2.2.l_]) := by
  unfold F.law12_add at hF
  refine tr_of_cw (fn := Tryz.f6) Tryz.func6 rfl (Nat.le_of_ble_eq_true rfl) 65 rfl fun F0 w0 => ?_
  refine cw_keep [0, 1, 2, 3] (L' := [(0, pP b0), (1, pP b1), (2, pP b3), (3, .agg #[i6 x3.Kind, i6 x3.Long, .int .u8 x3.C, .int .u64 x3.F.Keep, i6 x3.F.Tear])]) rfl ?_
  refine cw_state (S' := SAT w0 ([imm I, o0 b0 p0 m0.sure_ c0 p1 m0.off_ m0.armed_ m0.left_ m0.fall_.Keep m0.fall_.Tear m0.acts_ m0.falls_, o3 b1 b2 m1.base_ m1.size_ m1.next_ m1.last_ p2 m1.list_ c2 m1.sure_ m1.dead_, o1 b2 b0 m2.boot_ m2.n_, o5 b3 p3 m3.l_ c3 m3.sure_ m3.boot_, own e_disk_sector 51 p0 c0 m0.sure_, mpo (kInt .i64) (fun x : disk_sector => Value.agg #[.string x.s_, i6 x.at_]) p1 m0.wait_, own eStr 9 p2 c2 m1.list_, own eStr 9 p3 c3 m3.l_] ++ F0)) (fun w hs => hs) ?_
  refine cw_seq ?_
  refine cw_region ?_
  refine ow_pw rfl (pw_box (cs := #[i6 x3.Kind, i6 x3.Long, .int .u8 x3.C, .int .u64 x3.F.Keep, i6 x3.F.Tear]) rfl rfl rfl rfl rfl rfl fun b21 => nw_ow ?_)
  refine ow_vals 1 (j := 2) [0, 1, 2, 7] [(0, pP b0), (1, pP b1), (2, pP b3), (7, pP b21)] rfl (by kernel_rfl) ?_
  refine ow_end rfl ?_
  refine ew_then ?_
  refine cw_seq ?_
  refine cw_region ?_
  refine ow_vals 1 (j := 1) [0, 1, 2, 7, 11] [(0, pP b0), (1, pP b1), (2, pP b3), (7, pP b21), (11, .pointer (some ⟨b21, 2, none⟩))] rfl (by kernel_rfl) ?_
  refine ow_pw rfl (pw_quiet (v := .int .u8 x3.C) rfl rfl rfl rfl (q_load 0 rfl rfl rfl (by kernel_rfl)) (nw_ow ?_))
  refine ow_vals 1 (j := 3) [0, 1, 2, 7, 12, 13] [(0, pP b0), (1, pP b1), (2, pP b3), (7, pP b21), (12, .int .u8 x3.C), (13, .pointer (some ⟨b21, 1, none⟩))] rfl (by kernel_rfl) ?_
  refine ow_pw rfl (pw_quiet (v := i6 x3.Long) rfl rfl rfl rfl (q_load 0 rfl rfl rfl (by kernel_rfl)) (nw_ow ?_))
  refine ow_vals 1 (j := 5) [0, 1, 2, 7, 12, 15] [(0, pP b0), (1, pP b1), (2, pP b3), (7, pP b21), (12, .int .u8 x3.C), (15, i6 (iand .i64 x3.Long 8191))] rfl (by kernel_rfl) ?_
  obtain ⟨r23, h24, hF⟩ := bind_some hF
  refine ow_pw rfl (pw_call (F := [o6 b21 x3.Kind x3.Long x3.C x3.F.Keep x3.F.Tear, o0 b0 p0 m0.sure_ c0 p1 m0.off_ m0.armed_ m0.left_ m0.fall_.Keep m0.fall_.Tear m0.acts_ m0.falls_, o3 b1 b2 m1.base_ m1.size_ m1.next_ m1.last_ p2 m1.list_ c2 m1.sure_ m1.dead_, o1 b2 b0 m2.boot_ m2.n_, o5 b3 p3 m3.l_ c3 m3.sure_ m3.boot_, own e_disk_sector 51 p0 c0 m0.sure_, mpo (kInt .i64) (fun x : disk_sector => Value.agg #[.string x.s_, i6 x.at_]) p1 m0.wait_, own eStr 9 p2 c2 m1.list_, own eStr 9 p3 c3 m3.l_] ++ F0) rfl rfl rfl rfl rfl rfl rfl (by kernel_rfl) (perm_of_pulls [1] rfl) (c_law12_text _ x3.C (iand .i64 x3.Long 8191) r23 h24) ?_)
  rintro _ _ ⟨rfl, rfl⟩
  refine nw_H (H' := [imm I, o6 b21 x3.Kind x3.Long x3.C x3.F.Keep x3.F.Tear, o0 b0 p0 m0.sure_ c0 p1 m0.off_ m0.armed_ m0.left_ m0.fall_.Keep m0.fall_.Tear m0.acts_ m0.falls_, o3 b1 b2 m1.base_ m1.size_ m1.next_ m1.last_ p2 m1.list_ c2 m1.sure_ m1.dead_, o1 b2 b0 m2.boot_ m2.n_, o5 b3 p3 m3.l_ c3 m3.sure_ m3.boot_, own e_disk_sector 51 p0 c0 m0.sure_, mpo (kInt .i64) (fun x : disk_sector => Value.agg #[.string x.s_, i6 x.at_]) p1 m0.wait_, own eStr 9 p2 c2 m1.list_, own eStr 9 p3 c3 m3.l_] ++ F0) rfl (nw_ow ?_)
  refine ow_vals 1 (j := 7) [0, 1, 2, 7, 9] [(0, pP b0), (1, pP b1), (2, pP b3), (7, pP b21), (9, .string r23)] rfl (by kernel_rfl) ?_
  refine ow_end rfl ?_
  refine ew_then ?_
  obtain ⟨v25, hF, hK25⟩ := bind_some hF
  refine cw_mid (fun a w => ∃ (s29 : ByteArray), s29 = v25 ∧ Fr 65 [(0, pP b0), (1, pP b1), (2, pP b3), (9, .string s29)] a ∧ SAT w0 ([imm I, o6 b21 x3.Kind x3.Long x3.C x3.F.Keep x3.F.Tear, o0 b0 p0 m0.sure_ c0 p1 m0.off_ m0.armed_ m0.left_ m0.fall_.Keep m0.fall_.Tear m0.acts_ m0.falls_, o3 b1 b2 m1.base_ m1.size_ m1.next_ m1.last_ p2 m1.list_ c2 m1.sure_ m1.dead_, o1 b2 b0 m2.boot_ m2.n_, o5 b3 p3 m3.l_ c3 m3.sure_ m3.boot_, own e_disk_sector 51 p0 c0 m0.sure_, mpo (kInt .i64) (fun x : disk_sector => Value.agg #[.string x.s_, i6 x.at_]) p1 m0.wait_, own eStr 9 p2 c2 m1.list_, own eStr 9 p3 c3 m3.l_] ++ F0) w) ?_ ?_
  · refine cw_seq ?_
    refine cw_region ?_
    refine ow_vals 1 (j := 1) [0, 1, 2, 7, 9, 17] [(0, pP b0), (1, pP b1), (2, pP b3), (7, pP b21), (9, .string r23), (17, .pointer (some ⟨b21, 1, none⟩))] rfl (by kernel_rfl) ?_
    refine ow_pw rfl (pw_quiet (v := i6 x3.Long) rfl rfl rfl rfl (q_load 1 rfl rfl rfl (by kernel_rfl)) (nw_ow ?_))
    refine ow_vals 2 (j := 4) [0, 1, 2, 7, 9, 20] [(0, pP b0), (1, pP b1), (2, pP b3), (7, pP b21), (9, .string r23), (20, .bool ((iand .i64 x3.Long 1024) == 0))] rfl (by kernel_rfl) ?_
    refine ow_end rfl ?_
    refine ew_then ?_
    rcases if_some hF with ⟨h26, hF⟩ | ⟨h26, hF⟩
    · refine cw_cond_t rfl rfl h26 ?_
      refine cw_region ?_
      refine ow_vals 1 (j := 1) [0, 1, 2, 7, 21] [(0, pP b0), (1, pP b1), (2, pP b3), (7, pP b21), (21, .pointer (some ⟨b21, 2, none⟩))] rfl (by kernel_rfl) ?_
      refine ow_pw rfl (pw_quiet (v := .int .u8 x3.C) rfl rfl rfl rfl (q_load 1 rfl rfl rfl (by kernel_rfl)) (nw_ow ?_))
      refine ow_vals 1 (j := 3) [0, 1, 2, 22, 23] [(0, pP b0), (1, pP b1), (2, pP b3), (22, .int .u8 x3.C), (23, .pointer (some ⟨b21, 1, none⟩))] rfl (by kernel_rfl) ?_
      refine ow_pw rfl (pw_quiet (v := i6 x3.Long) rfl rfl rfl rfl (q_load 1 rfl rfl rfl (by kernel_rfl)) (nw_ow ?_))
      refine ow_vals 1 (j := 5) [0, 1, 2, 22, 25] [(0, pP b0), (1, pP b1), (2, pP b3), (22, .int .u8 x3.C), (25, i6 (iand .i64 x3.Long 127))] rfl (by kernel_rfl) ?_
      obtain ⟨r27, h28, hF⟩ := bind_some hF
      refine ow_pw rfl (pw_call (F := [o6 b21 x3.Kind x3.Long x3.C x3.F.Keep x3.F.Tear, o0 b0 p0 m0.sure_ c0 p1 m0.off_ m0.armed_ m0.left_ m0.fall_.Keep m0.fall_.Tear m0.acts_ m0.falls_, o3 b1 b2 m1.base_ m1.size_ m1.next_ m1.last_ p2 m1.list_ c2 m1.sure_ m1.dead_, o1 b2 b0 m2.boot_ m2.n_, o5 b3 p3 m3.l_ c3 m3.sure_ m3.boot_, own e_disk_sector 51 p0 c0 m0.sure_, mpo (kInt .i64) (fun x : disk_sector => Value.agg #[.string x.s_, i6 x.at_]) p1 m0.wait_, own eStr 9 p2 c2 m1.list_, own eStr 9 p3 c3 m3.l_] ++ F0) rfl rfl rfl rfl rfl rfl rfl (by kernel_rfl) (perm_of_pulls [0] rfl) (c_law12_text _ x3.C (iand .i64 x3.Long 127) r27 h28) ?_)
      rintro _ _ ⟨rfl, rfl⟩
      refine nw_H (H' := [imm I, o6 b21 x3.Kind x3.Long x3.C x3.F.Keep x3.F.Tear, o0 b0 p0 m0.sure_ c0 p1 m0.off_ m0.armed_ m0.left_ m0.fall_.Keep m0.fall_.Tear m0.acts_ m0.falls_, o3 b1 b2 m1.base_ m1.size_ m1.next_ m1.last_ p2 m1.list_ c2 m1.sure_ m1.dead_, o1 b2 b0 m2.boot_ m2.n_, o5 b3 p3 m3.l_ c3 m3.sure_ m3.boot_, own e_disk_sector 51 p0 c0 m0.sure_, mpo (kInt .i64) (fun x : disk_sector => Value.agg #[.string x.s_, i6 x.at_]) p1 m0.wait_, own eStr 9 p2 c2 m1.list_, own eStr 9 p3 c3 m3.l_] ++ F0) rfl (nw_ow ?_)
      refine ow_vals 1 (j := 7) [0, 1, 2, 9] [(0, pP b0), (1, pP b1), (2, pP b3), (9, .string r27)] rfl (by kernel_rfl) ?_
      refine ow_end rfl ?_
      have hR := Option.some.inj hF
      exact fun a w hf hs => ⟨r27, hR, hf.keep [0, 1, 2, 9], sat_to [0, 0, 0, 0, 0, 0, 0, 0, 0, 0] 0 rfl hs⟩
    refine cw_cond_f rfl rfl h26 ?_
    refine cw_skip ?_
    have hR := Option.some.inj hF
    exact fun a w hf hs => ⟨r23, hR, hf.keep [0, 1, 2, 9], sat_to [0, 0, 0, 0, 0, 0, 0, 0, 0, 0] 0 rfl hs⟩
  rintro a w ⟨s29, hv, hf, hs⟩
  subst hv
  replace hF := hK25
  clear hK25
  try dsimp only at hF
  revert a w
  show CW _ _ _ 65 [(0, pP b0), (1, pP b1), (2, pP b3), (9, .string s29)] (SAT w0 ([imm I, o6 b21 x3.Kind x3.Long x3.C x3.F.Keep x3.F.Tear, o0 b0 p0 m0.sure_ c0 p1 m0.off_ m0.armed_ m0.left_ m0.fall_.Keep m0.fall_.Tear m0.acts_ m0.falls_, o3 b1 b2 m1.base_ m1.size_ m1.next_ m1.last_ p2 m1.list_ c2 m1.sure_ m1.dead_, o1 b2 b0 m2.boot_ m2.n_, o5 b3 p3 m3.l_ c3 m3.sure_ m3.boot_, own e_disk_sector 51 p0 c0 m0.sure_, mpo (kInt .i64) (fun x : disk_sector => Value.agg #[.string x.s_, i6 x.at_]) p1 m0.wait_, own eStr 9 p2 c2 m1.list_, own eStr 9 p3 c3 m3.l_] ++ F0))
  unfold F.law12_add.r1 at hF
  refine cw_seq ?_
  refine cw_region ?_
  refine ow_vals 2 (j := 2) [0, 2, 9, 27, 28] [(0, pP b0), (2, pP b3), (9, .string s29), (27, pP b1), (28, .string s29)] rfl (by kernel_rfl) ?_
  obtain ⟨r30, h31, hF⟩ := bind_some hF
  refine ow_pw rfl (pw_call (F := [o6 b21 x3.Kind x3.Long x3.C x3.F.Keep x3.F.Tear, o5 b3 p3 m3.l_ c3 m3.sure_ m3.boot_, own eStr 9 p3 c3 m3.l_] ++ F0) rfl rfl rfl rfl rfl rfl rfl (by kernel_rfl) (perm_of_pulls [0, 2, 2, 1, 4, 2, 2] rfl) (c_journal_Journal_Append _ s29 m1 m2 m0 p2 c2 b1 b2 p0 c0 p1 b0 r30 h31) ?_)
  rintro _ _ ⟨r30_p1, r30_c2, r30_p4, r30_c5, r30_b7, rfl, rfl⟩
  refine nw_H (H' := [imm I, o3 b1 b2 r30.2.1.base_ r30.2.1.size_ r30.2.1.next_ r30.2.1.last_ r30_p1 r30.2.1.list_ r30_c2 r30.2.1.sure_ r30.2.1.dead_, o1 b2 b0 r30.2.2.1.boot_ r30.2.2.1.n_, o0 b0 r30_p4 r30.2.2.2.sure_ r30_c5 r30_b7 r30.2.2.2.off_ r30.2.2.2.armed_ r30.2.2.2.left_ r30.2.2.2.fall_.Keep r30.2.2.2.fall_.Tear r30.2.2.2.acts_ r30.2.2.2.falls_, own eStr 9 r30_p1 r30_c2 r30.2.1.list_, own e_disk_sector 51 r30_p4 r30_c5 r30.2.2.2.sure_, mpo (kInt .i64) (fun x : disk_sector => Value.agg #[.string x.s_, i6 x.at_]) r30_b7 r30.2.2.2.wait_, o6 b21 x3.Kind x3.Long x3.C x3.F.Keep x3.F.Tear, o5 b3 p3 m3.l_ c3 m3.sure_ m3.boot_, own eStr 9 p3 c3 m3.l_] ++ F0) rfl (nw_ow ?_)
  refine ow_vals 1 (j := 4) [0, 2, 9, 10] [(0, pP b0), (2, pP b3), (9, .string s29), (10, i6 r30.1)] rfl (by kernel_rfl) ?_
  refine ow_end rfl ?_
  refine ew_then ?_
  refine cw_seq ?_
  refine cw_seq ?_
  refine cw_region ?_
  refine ow_vals 3 (j := 3) [0, 2, 9, 10, 32] [(0, pP b0), (2, pP b3), (9, .string s29), (10, i6 r30.1), (32, .bool (decide ((s29.size : Int) > 6000)))] rfl (by kernel_rfl) ?_
  refine ow_end rfl ?_
  refine ew_then ?_
  rcases if_some hF with ⟨h35, hF⟩ | ⟨h35, hF⟩
  · refine cw_cond_t rfl rfl h35 ?_
    refine cw_seq ?_
    refine cw_region ?_
    refine ow_vals 3 (j := 3) [8] [(8, .bool (r30.1 == 3))] rfl (by kernel_rfl) ?_
    refine ow_end rfl ?_
    refine ew_then ?_
    refine cw_ret ?_
    refine ew_then_ret ?_
    have hR := Option.some.inj hF
    subst hR
    exact fin1 (H1 := [imm I, o0 b0 r30_p4 r30.2.2.2.sure_ r30_c5 r30_b7 r30.2.2.2.off_ r30.2.2.2.armed_ r30.2.2.2.left_ r30.2.2.2.fall_.Keep r30.2.2.2.fall_.Tear r30.2.2.2.acts_ r30.2.2.2.falls_, o3 b1 b2 r30.2.1.base_ r30.2.1.size_ r30.2.1.next_ r30.2.1.last_ r30_p1 r30.2.1.list_ r30_c2 r30.2.1.sure_ r30.2.1.dead_, o1 b2 b0 r30.2.2.1.boot_ r30.2.2.1.n_, o5 b3 p3 m3.l_ c3 m3.sure_ m3.boot_, own e_disk_sector 51 r30_p4 r30_c5 r30.2.2.2.sure_, mpo (kInt .i64) (fun x : disk_sector => Value.agg #[.string x.s_, i6 x.at_]) r30_b7 r30.2.2.2.wait_, own eStr 9 r30_p1 r30_c2 r30.2.1.list_, own eStr 9 p3 c3 m3.l_]) (fun w hs => sat_to [7, 0, 2, 0, 0, 3, 1, 1, 0, 0] 1 rfl hs) rfl (rr_tmp rfl) ⟨r30_p4, r30_c5, r30_b7, r30_p1, r30_c2, p3, c3, rfl, rfl⟩
  refine cw_cond_f rfl rfl h35 ?_
  refine cw_skip ?_
  refine ew_then ?_
  refine cw_seq ?_
  refine cw_seq ?_
  refine cw_region ?_
  refine ow_vals 2 (j := 2) [0, 2, 9, 10, 36] [(0, pP b0), (2, pP b3), (9, .string s29), (10, i6 r30.1), (36, i6 (s29.size : Int))] rfl (by kernel_rfl) ?_
  obtain ⟨r36, h37, hF⟩ := bind_some hF
  refine ow_pw rfl (pw_call (F := [o3 b1 b2 r30.2.1.base_ r30.2.1.size_ r30.2.1.next_ r30.2.1.last_ r30_p1 r30.2.1.list_ r30_c2 r30.2.1.sure_ r30.2.1.dead_, o1 b2 b0 r30.2.2.1.boot_ r30.2.2.1.n_, o0 b0 r30_p4 r30.2.2.2.sure_ r30_c5 r30_b7 r30.2.2.2.off_ r30.2.2.2.armed_ r30.2.2.2.left_ r30.2.2.2.fall_.Keep r30.2.2.2.fall_.Tear r30.2.2.2.acts_ r30.2.2.2.falls_, own eStr 9 r30_p1 r30_c2 r30.2.1.list_, own e_disk_sector 51 r30_p4 r30_c5 r30.2.2.2.sure_, mpo (kInt .i64) (fun x : disk_sector => Value.agg #[.string x.s_, i6 x.at_]) r30_b7 r30.2.2.2.wait_, o6 b21 x3.Kind x3.Long x3.C x3.F.Keep x3.F.Tear, o5 b3 p3 m3.l_ c3 m3.sure_ m3.boot_, own eStr 9 p3 c3 m3.l_] ++ F0) rfl rfl rfl rfl rfl rfl rfl (by kernel_rfl) (perm_of_pulls [0] rfl) (c_law12_need _ (s29.size : Int) r36 h37) ?_)
  rintro _ _ ⟨rfl, rfl⟩
  refine nw_H (H' := [imm I, o3 b1 b2 r30.2.1.base_ r30.2.1.size_ r30.2.1.next_ r30.2.1.last_ r30_p1 r30.2.1.list_ r30_c2 r30.2.1.sure_ r30.2.1.dead_, o1 b2 b0 r30.2.2.1.boot_ r30.2.2.1.n_, o0 b0 r30_p4 r30.2.2.2.sure_ r30_c5 r30_b7 r30.2.2.2.off_ r30.2.2.2.armed_ r30.2.2.2.left_ r30.2.2.2.fall_.Keep r30.2.2.2.fall_.Tear r30.2.2.2.acts_ r30.2.2.2.falls_, own eStr 9 r30_p1 r30_c2 r30.2.1.list_, own e_disk_sector 51 r30_p4 r30_c5 r30.2.2.2.sure_, mpo (kInt .i64) (fun x : disk_sector => Value.agg #[.string x.s_, i6 x.at_]) r30_b7 r30.2.2.2.wait_, o6 b21 x3.Kind x3.Long x3.C x3.F.Keep x3.F.Tear, o5 b3 p3 m3.l_ c3 m3.sure_ m3.boot_, own eStr 9 p3 c3 m3.l_] ++ F0) rfl (nw_ow ?_)
  refine ow_vals 1 (j := 4) [0, 2, 9, 10, 37, 38] [(0, pP b0), (2, pP b3), (9, .string s29), (10, i6 r30.1), (37, i6 r36), (38, pP b3)] rfl (by kernel_rfl) ?_
  obtain ⟨r38, h39, hF⟩ := bind_some hF
  refine ow_pw rfl (pw_call (F := [o3 b1 b2 r30.2.1.base_ r30.2.1.size_ r30.2.1.next_ r30.2.1.last_ r30_p1 r30.2.1.list_ r30_c2 r30.2.1.sure_ r30.2.1.dead_, o1 b2 b0 r30.2.2.1.boot_ r30.2.2.1.n_, o0 b0 r30_p4 r30.2.2.2.sure_ r30_c5 r30_b7 r30.2.2.2.off_ r30.2.2.2.armed_ r30.2.2.2.left_ r30.2.2.2.fall_.Keep r30.2.2.2.fall_.Tear r30.2.2.2.acts_ r30.2.2.2.falls_, own eStr 9 r30_p1 r30_c2 r30.2.1.list_, own e_disk_sector 51 r30_p4 r30_c5 r30.2.2.2.sure_, mpo (kInt .i64) (fun x : disk_sector => Value.agg #[.string x.s_, i6 x.at_]) r30_b7 r30.2.2.2.wait_, o6 b21 x3.Kind x3.Long x3.C x3.F.Keep x3.F.Tear] ++ F0) rfl rfl rfl rfl rfl rfl rfl (by kernel_rfl) (perm_of_pulls [0, 7, 7] rfl) (c_law12_plain_used _ m3 p3 c3 b3 r38 h39) ?_)
  rintro _ _ ⟨rfl, rfl⟩
  refine nw_H (H' := [imm I, o5 b3 p3 m3.l_ c3 m3.sure_ m3.boot_, own eStr 9 p3 c3 m3.l_, o3 b1 b2 r30.2.1.base_ r30.2.1.size_ r30.2.1.next_ r30.2.1.last_ r30_p1 r30.2.1.list_ r30_c2 r30.2.1.sure_ r30.2.1.dead_, o1 b2 b0 r30.2.2.1.boot_ r30.2.2.1.n_, o0 b0 r30_p4 r30.2.2.2.sure_ r30_c5 r30_b7 r30.2.2.2.off_ r30.2.2.2.armed_ r30.2.2.2.left_ r30.2.2.2.fall_.Keep r30.2.2.2.fall_.Tear r30.2.2.2.acts_ r30.2.2.2.falls_, own eStr 9 r30_p1 r30_c2 r30.2.1.list_, own e_disk_sector 51 r30_p4 r30_c5 r30.2.2.2.sure_, mpo (kInt .i64) (fun x : disk_sector => Value.agg #[.string x.s_, i6 x.at_]) r30_b7 r30.2.2.2.wait_, o6 b21 x3.Kind x3.Long x3.C x3.F.Keep x3.F.Tear] ++ F0) rfl (nw_ow ?_)
  refine ow_vals 2 (j := 7) [0, 2, 9, 10, 41] [(0, pP b0), (2, pP b3), (9, .string s29), (10, i6 r30.1), (41, .bool (decide (r36 > (IntKind.i64.wrap (60 - r38)))))] rfl (by kernel_rfl) ?_
  refine ow_end rfl ?_
  refine ew_then ?_
  rcases if_some hF with ⟨h40, hF⟩ | ⟨h40, hF⟩
  · refine cw_cond_t rfl rfl h40 ?_
    refine cw_seq ?_
    refine cw_region ?_
    refine ow_vals 3 (j := 3) [8] [(8, .bool (r30.1 == 6))] rfl (by kernel_rfl) ?_
    refine ow_end rfl ?_
    refine ew_then ?_
    refine cw_ret ?_
    refine ew_then_ret ?_
    have hR := Option.some.inj hF
    subst hR
    exact fin1 (H1 := [imm I, o0 b0 r30_p4 r30.2.2.2.sure_ r30_c5 r30_b7 r30.2.2.2.off_ r30.2.2.2.armed_ r30.2.2.2.left_ r30.2.2.2.fall_.Keep r30.2.2.2.fall_.Tear r30.2.2.2.acts_ r30.2.2.2.falls_, o3 b1 b2 r30.2.1.base_ r30.2.1.size_ r30.2.1.next_ r30.2.1.last_ r30_p1 r30.2.1.list_ r30_c2 r30.2.1.sure_ r30.2.1.dead_, o1 b2 b0 r30.2.2.1.boot_ r30.2.2.1.n_, o5 b3 p3 m3.l_ c3 m3.sure_ m3.boot_, own e_disk_sector 51 r30_p4 r30_c5 r30.2.2.2.sure_, mpo (kInt .i64) (fun x : disk_sector => Value.agg #[.string x.s_, i6 x.at_]) r30_b7 r30.2.2.2.wait_, own eStr 9 r30_p1 r30_c2 r30.2.1.list_, own eStr 9 p3 c3 m3.l_]) (fun w hs => sat_to [9, 0, 4, 2, 2, 0, 2, 2, 1, 0] 1 rfl hs) rfl (rr_tmp rfl) ⟨r30_p4, r30_c5, r30_b7, r30_p1, r30_c2, p3, c3, rfl, rfl⟩
  refine cw_cond_f rfl rfl h40 ?_
  refine cw_skip ?_
  refine ew_then ?_
  refine cw_seq ?_
  refine cw_region ?_
  refine ow_vals 4 (j := 4) [0, 9, 10, 44, 47] [(0, pP b0), (9, .string s29), (10, i6 r30.1), (44, pP b3), (47, pP b3)] rfl (by kernel_rfl) ?_
  refine ow_pw rfl (pw_quiet (v := .slice p3 m3.l_.length c3) rfl rfl rfl rfl (q_load 1 rfl rfl rfl (by kernel_rfl)) (nw_ow ?_))
  refine ow_vals 1 (j := 6) [0, 10, 44, 48, 49] [(0, pP b0), (10, i6 r30.1), (44, pP b3), (48, .slice p3 m3.l_.length c3), (49, .string s29)] rfl (by kernel_rfl) ?_
  refine ow_pw rfl (pw_buildSlice (E := 9) eStr ([s29] : List ByteArray) rfl rfl rfl rfl rfl (by kernel_rfl) rfl (by kernel_rfl) rfl (by decide) rfl fun p41 => nw_ow ?_)
  obtain ⟨h43, hF⟩ := chk_some hF
  refine ow_pw rfl (pw_append 3 (l' := ([s29] : List ByteArray)) rfl rfl rfl rfl rfl rfl (by kernel_rfl) (by kernel_rfl) rfl rfl rfl (src_own (E' := 9) 0 rfl (by kernel_rfl) rfl) rfl h43.1 h43.2 fun p44 c45 => nw_H (H' := [own eStr 9 p41 1 ([s29] : List ByteArray), imm I, o5 b3 p3 m3.l_ c3 m3.sure_ m3.boot_, own eStr 9 p44 c45 (m3.l_ ++ ([s29] : List ByteArray)), o3 b1 b2 r30.2.1.base_ r30.2.1.size_ r30.2.1.next_ r30.2.1.last_ r30_p1 r30.2.1.list_ r30_c2 r30.2.1.sure_ r30.2.1.dead_, o1 b2 b0 r30.2.2.1.boot_ r30.2.2.1.n_, o0 b0 r30_p4 r30.2.2.2.sure_ r30_c5 r30_b7 r30.2.2.2.off_ r30.2.2.2.armed_ r30.2.2.2.left_ r30.2.2.2.fall_.Keep r30.2.2.2.fall_.Tear r30.2.2.2.acts_ r30.2.2.2.falls_, own eStr 9 r30_p1 r30_c2 r30.2.1.list_, own e_disk_sector 51 r30_p4 r30_c5 r30.2.2.2.sure_, mpo (kInt .i64) (fun x : disk_sector => Value.agg #[.string x.s_, i6 x.at_]) r30_b7 r30.2.2.2.wait_, o6 b21 x3.Kind x3.Long x3.C x3.F.Keep x3.F.Tear] ++ F0) rfl (nw_ow ?_))
  refine ow_vals 2 (j := 10) [0, 10, 51, 53] [(0, pP b0), (10, i6 r30.1), (51, .slice p44 (m3.l_ ++ ([s29] : List ByteArray)).length c45), (53, pP b3)] rfl (by kernel_rfl) ?_
  refine ow_pw rfl (pw_store 2 #[.slice p44 (m3.l_ ++ ([s29] : List ByteArray)).length c45, i6 m3.sure_, i6 m3.boot_] rfl rfl rfl rfl rfl rfl rfl (by kernel_rfl) (nw_H (H' := [own eStr 9 p41 1 ([s29] : List ByteArray), imm I, o5 b3 p44 (m3.l_ ++ ([s29] : List ByteArray)) c45 m3.sure_ m3.boot_, own eStr 9 p44 c45 (m3.l_ ++ ([s29] : List ByteArray)), o3 b1 b2 r30.2.1.base_ r30.2.1.size_ r30.2.1.next_ r30.2.1.last_ r30_p1 r30.2.1.list_ r30_c2 r30.2.1.sure_ r30.2.1.dead_, o1 b2 b0 r30.2.2.1.boot_ r30.2.2.1.n_, o0 b0 r30_p4 r30.2.2.2.sure_ r30_c5 r30_b7 r30.2.2.2.off_ r30.2.2.2.armed_ r30.2.2.2.left_ r30.2.2.2.fall_.Keep r30.2.2.2.fall_.Tear r30.2.2.2.acts_ r30.2.2.2.falls_, own eStr 9 r30_p1 r30_c2 r30.2.1.list_, own e_disk_sector 51 r30_p4 r30_c5 r30.2.2.2.sure_, mpo (kInt .i64) (fun x : disk_sector => Value.agg #[.string x.s_, i6 x.at_]) r30_b7 r30.2.2.2.wait_, o6 b21 x3.Kind x3.Long x3.C x3.F.Keep x3.F.Tear] ++ F0) rfl (nw_ow ?_)))
  refine ow_end rfl ?_
  refine ew_then ?_
  refine cw_seq ?_
  refine cw_region ?_
  refine ow_vals 3 (j := 3) [0, 10, 56] [(0, pP b0), (10, i6 r30.1), (56, .bool (r30.1 == 0))] rfl (by kernel_rfl) ?_
  rcases if_some hF with ⟨h46, hF⟩ | ⟨h46, hF⟩
  · refine ow_slots (L' := [(0, pP b0), (10, i6 r30.1), (56, .bool true)]) (by rw [h46]) ?_
    refine ow_vals 9 (j := 12) [8] [(8, .bool true)] rfl (by kernel_rfl) ?_
    refine ow_end rfl ?_
    refine ew_then ?_
    refine cw_ret ?_
    have hR := Option.some.inj hF
    subst hR
    exact fin1 (H1 := [imm I, o0 b0 r30_p4 r30.2.2.2.sure_ r30_c5 r30_b7 r30.2.2.2.off_ r30.2.2.2.armed_ r30.2.2.2.left_ r30.2.2.2.fall_.Keep r30.2.2.2.fall_.Tear r30.2.2.2.acts_ r30.2.2.2.falls_, o3 b1 b2 r30.2.1.base_ r30.2.1.size_ r30.2.1.next_ r30.2.1.last_ r30_p1 r30.2.1.list_ r30_c2 r30.2.1.sure_ r30.2.1.dead_, o1 b2 b0 r30.2.2.1.boot_ r30.2.2.1.n_, o5 b3 p44 ((⟨m3.l_ ++ ([s29] : List ByteArray), m3.sure_, m3.boot_⟩ : law12_plain).l_) c45 ((⟨m3.l_ ++ ([s29] : List ByteArray), m3.sure_, m3.boot_⟩ : law12_plain).sure_) ((⟨m3.l_ ++ ([s29] : List ByteArray), m3.sure_, m3.boot_⟩ : law12_plain).boot_), own e_disk_sector 51 r30_p4 r30_c5 r30.2.2.2.sure_, mpo (kInt .i64) (fun x : disk_sector => Value.agg #[.string x.s_, i6 x.at_]) r30_b7 r30.2.2.2.wait_, own eStr 9 r30_p1 r30_c2 r30.2.1.list_, own eStr 9 p44 c45 ((⟨m3.l_ ++ ([s29] : List ByteArray), m3.sure_, m3.boot_⟩ : law12_plain).l_)]) (fun w hs => sat_to [0, 9, 0, 4, 2, 2, 0, 2, 2, 1, 0] 2 rfl hs) rfl (rr_tmp rfl) ⟨r30_p4, r30_c5, r30_b7, r30_p1, r30_c2, p44, c45, rfl, rfl⟩
  refine ow_slots (L' := [(0, pP b0), (10, i6 r30.1), (56, .bool false)]) (by rw [h46]) ?_
  refine ow_vals 3 (j := 6) [0, 56, 59] [(0, pP b0), (56, .bool false), (59, .bool (r30.1 == 8))] rfl (by kernel_rfl) ?_
  rcases if_some hF with ⟨h47, hF⟩ | ⟨h47, hF⟩
  · refine ow_slots (L' := [(0, pP b0), (56, .bool false), (59, .bool true)]) (by rw [h47]) ?_
    refine ow_vals 1 (j := 7) [56, 59, 60] [(56, .bool false), (59, .bool true), (60, pP b0)] rfl (by kernel_rfl) ?_
    obtain ⟨r48, h49, hF⟩ := bind_some hF
    refine ow_pw rfl (pw_call (F := [own eStr 9 p41 1 ([s29] : List ByteArray), o5 b3 p44 (m3.l_ ++ ([s29] : List ByteArray)) c45 m3.sure_ m3.boot_, own eStr 9 p44 c45 (m3.l_ ++ ([s29] : List ByteArray)), o3 b1 b2 r30.2.1.base_ r30.2.1.size_ r30.2.1.next_ r30.2.1.last_ r30_p1 r30.2.1.list_ r30_c2 r30.2.1.sure_ r30.2.1.dead_, o1 b2 b0 r30.2.2.1.boot_ r30.2.2.1.n_, own eStr 9 r30_p1 r30_c2 r30.2.1.list_, o6 b21 x3.Kind x3.Long x3.C x3.F.Keep x3.F.Tear] ++ F0) rfl rfl rfl rfl rfl rfl rfl (by kernel_rfl) (perm_of_pulls [1, 5, 6, 6] rfl) (c_disk_Disk_Up _ r30.2.2.2 r30_p4 r30_c5 r30_b7 b0 r48 h49) ?_)
    rintro _ _ ⟨rfl, rfl⟩
    refine nw_H (H' := [imm I, o0 b0 r30_p4 r30.2.2.2.sure_ r30_c5 r30_b7 r30.2.2.2.off_ r30.2.2.2.armed_ r30.2.2.2.left_ r30.2.2.2.fall_.Keep r30.2.2.2.fall_.Tear r30.2.2.2.acts_ r30.2.2.2.falls_, own e_disk_sector 51 r30_p4 r30_c5 r30.2.2.2.sure_, mpo (kInt .i64) (fun x : disk_sector => Value.agg #[.string x.s_, i6 x.at_]) r30_b7 r30.2.2.2.wait_, own eStr 9 p41 1 ([s29] : List ByteArray), o5 b3 p44 (m3.l_ ++ ([s29] : List ByteArray)) c45 m3.sure_ m3.boot_, own eStr 9 p44 c45 (m3.l_ ++ ([s29] : List ByteArray)), o3 b1 b2 r30.2.1.base_ r30.2.1.size_ r30.2.1.next_ r30.2.1.last_ r30_p1 r30.2.1.list_ r30_c2 r30.2.1.sure_ r30.2.1.dead_, o1 b2 b0 r30.2.2.1.boot_ r30.2.2.1.n_, own eStr 9 r30_p1 r30_c2 r30.2.1.list_, o6 b21 x3.Kind x3.Long x3.C x3.F.Keep x3.F.Tear] ++ F0) rfl (nw_ow ?_)
    refine ow_vals 4 (j := 12) [8] [(8, .bool (!r48))] rfl (by kernel_rfl) ?_
    refine ow_end rfl ?_
    refine ew_then ?_
    refine cw_ret ?_
    have hR := Option.some.inj hF
    subst hR
    exact fin1 (H1 := [imm I, o0 b0 r30_p4 r30.2.2.2.sure_ r30_c5 r30_b7 r30.2.2.2.off_ r30.2.2.2.armed_ r30.2.2.2.left_ r30.2.2.2.fall_.Keep r30.2.2.2.fall_.Tear r30.2.2.2.acts_ r30.2.2.2.falls_, o3 b1 b2 r30.2.1.base_ r30.2.1.size_ r30.2.1.next_ r30.2.1.last_ r30_p1 r30.2.1.list_ r30_c2 r30.2.1.sure_ r30.2.1.dead_, o1 b2 b0 r30.2.2.1.boot_ r30.2.2.1.n_, o5 b3 p44 ((⟨m3.l_ ++ ([s29] : List ByteArray), m3.sure_, m3.boot_⟩ : law12_plain).l_) c45 ((⟨m3.l_ ++ ([s29] : List ByteArray), m3.sure_, m3.boot_⟩ : law12_plain).sure_) ((⟨m3.l_ ++ ([s29] : List ByteArray), m3.sure_, m3.boot_⟩ : law12_plain).boot_), own e_disk_sector 51 r30_p4 r30_c5 r30.2.2.2.sure_, mpo (kInt .i64) (fun x : disk_sector => Value.agg #[.string x.s_, i6 x.at_]) r30_b7 r30.2.2.2.wait_, own eStr 9 r30_p1 r30_c2 r30.2.1.list_, own eStr 9 p44 c45 ((⟨m3.l_ ++ ([s29] : List ByteArray), m3.sure_, m3.boot_⟩ : law12_plain).l_)]) (fun w hs => sat_to [4, 9, 0, 0, 4, 4, 2, 0, 0, 1, 0] 2 rfl hs) rfl (rr_tmp rfl) ⟨r30_p4, r30_c5, r30_b7, r30_p1, r30_c2, p44, c45, rfl, rfl⟩
  refine ow_slots (L' := [(0, pP b0), (56, .bool false), (59, .bool false)]) (by rw [h47]) ?_
  refine ow_vals 6 (j := 12) [8] [(8, .bool false)] rfl (by kernel_rfl) ?_
  refine ow_end rfl ?_
  refine ew_then ?_
  refine cw_ret ?_
  have hR := Option.some.inj hF
  subst hR
  exact fin1 (H1 := [imm I, o0 b0 r30_p4 r30.2.2.2.sure_ r30_c5 r30_b7 r30.2.2.2.off_ r30.2.2.2.armed_ r30.2.2.2.left_ r30.2.2.2.fall_.Keep r30.2.2.2.fall_.Tear r30.2.2.2.acts_ r30.2.2.2.falls_, o3 b1 b2 r30.2.1.base_ r30.2.1.size_ r30.2.1.next_ r30.2.1.last_ r30_p1 r30.2.1.list_ r30_c2 r30.2.1.sure_ r30.2.1.dead_, o1 b2 b0 r30.2.2.1.boot_ r30.2.2.1.n_, o5 b3 p44 ((⟨m3.l_ ++ ([s29] : List ByteArray), m3.sure_, m3.boot_⟩ : law12_plain).l_) c45 ((⟨m3.l_ ++ ([s29] : List ByteArray), m3.sure_, m3.boot_⟩ : law12_plain).sure_) ((⟨m3.l_ ++ ([s29] : List ByteArray), m3.sure_, m3.boot_⟩ : law12_plain).boot_), own e_disk_sector 51 r30_p4 r30_c5 r30.2.2.2.sure_, mpo (kInt .i64) (fun x : disk_sector => Value.agg #[.string x.s_, i6 x.at_]) r30_b7 r30.2.2.2.wait_, own eStr 9 r30_p1 r30_c2 r30.2.1.list_, own eStr 9 p44 c45 ((⟨m3.l_ ++ ([s29] : List ByteArray), m3.sure_, m3.boot_⟩ : law12_plain).l_)]) (fun w hs => sat_to [0, 9, 0, 4, 2, 2, 0, 2, 2, 1, 0] 2 rfl hs) rfl (rr_tmp rfl) ⟨r30_p4, r30_c5, r30_b7, r30_p1, r30_c2, p44, c45, rfl, rfl⟩


def F.disk_Disk_Flush.l1 (q32 : Int × disk_sector) (l33 : List disk_sector) (l37 : List (Int × disk_sector)) : Option ((List disk_sector) × (List (Int × disk_sector))) :=
  Option.bind (at_ l33 q32.1) (fun (y41 : disk_sector) => some ((l33.set q32.1.toNat q32.2, mdel l37 q32.1)))
def F.disk_Disk_Flush.x2 (l33 : List disk_sector) (l37 : List (Int × disk_sector)) : Option ((List disk_sector) × (List (Int × disk_sector))) :=
  some ((l33, l37))
theorem ord_F_disk_Disk_Flush_l1 (L : List (Int × disk_sector)) (s v : (List disk_sector) × (List (Int × disk_sector))) (hn : (L.map Prod.fst).Nodup) (h : mloop (fun q x => F.disk_Disk_Flush.l1 q x.1 x.2) L s = some v) : ∀ l, l.Perm L → ∃ w, mloop (fun q x => F.disk_Disk_Flush.l1 q x.1 x.2) l s = some w ∧ w = v := by
  refine fun l hl => ⟨v, ?_, rfl⟩
  rw [← h]
  refine (mloop_perm (D := fun a b => a.1 ≠ b.1) (fun _ _ h => h.symm) (fun a b s hab => ?_) hl.symm (map_fst_pair hn) s).symm
  obtain ⟨s, t⟩ := s
  dsimp only
  unfold F.disk_Disk_Flush.l1
  cases ha : at_ s a.1 with
  | none =>
    cases hb : at_ s b.1 with
    | none => rfl
    | some y => simp only [Option.bind_some, Option.bind_none, at_set_none ha]
  | some x =>
    cases hb : at_ s b.1 with
    | none => simp only [Option.bind_some, Option.bind_none, at_set_none hb]
    | some y =>
      obtain ⟨y2, hb2⟩ := at_set_some (i := a.1.toNat) (v := a.2) hb
      obtain ⟨x2, ha2⟩ := at_set_some (i := b.1.toNat) (v := b.2) ha
      simp only [Option.bind_some, ha2, hb2]
      have h1 := (at_some ha).1
      have h2 := (at_some hb).1
      rw [mdel_comm, List.set_comm _ _ (by omega)]
def F.disk_Disk_Flush.r3 (r24 : Int × disk_Disk) (l43 : List disk_sector) (l47 : List (Int × disk_sector)) : Option (Int × disk_Disk) :=
  some ((0, (⟨l43, l47, r24.2.off_, r24.2.armed_, r24.2.left_, r24.2.fall_, r24.2.acts_, r24.2.falls_⟩ : disk_Disk)))
def F.disk_Disk_Flush (m0 : disk_Disk) : Option (Int × disk_Disk) :=
  Option.bind (F.disk_Disk_why 0 m0) (fun (r21 : Int) => if r21 != 0 then (some ((r21, m0))) else (Option.bind (F.disk_Disk_act m0) (fun (r24 : Int × disk_Disk) => if r24.1 != 0 then (some ((r24.1, r24.2))) else (Option.bind (chk (r24.2.wait_.length ≤ 1000000) (Option.bind (mloop (fun q x => F.disk_Disk_Flush.l1 q x.1 x.2) r24.2.wait_ (r24.2.sure_, r24.2.wait_)) (fun x => F.disk_Disk_Flush.x2 x.1 x.2))) (fun x => F.disk_Disk_Flush.r3 r24 x.1 x.2)))))
set_option maxRecDepth 100000 in
set_option maxHeartbeats 4000000 in
theorem c_disk_Disk_Flush (I : Hl) (m0 : disk_Disk) (p0 : Option Addr) (c0 : Nat) (p1 : Nat) (b0 : Nat) (res : Int × disk_Disk) (hF : F.disk_Disk_Flush m0 = some res) : Tr Tryz.prog 40 [pP b0] [imm I, o0 b0 p0 m0.sure_ c0 p1 m0.off_ m0.armed_ m0.left_ m0.fall_.Keep m0.fall_.Tear m0.acts_ m0.falls_, own e_disk_sector 51 p0 c0 m0.sure_, mpo (kInt .i64) (fun x : disk_sector => Value.agg #[.string x.s_, i6 x.at_]) p1 m0.wait_] (fun r H' => ∃ (pq1 : Option Addr), ∃ (cq2 : Nat), ∃ (bq4 : Nat), r = i6 res.1 ∧ H' = [imm I, o0 b0 pq1 res.2.sure_ cq2 bq4 res.2.off_ res.2.armed_ res.2.left_ res.2.fall_.Keep res.2.fall_.Tear res.2.acts_ res.2.falls_, own e_disk_sector 51 pq1 cq2 res.2.sure_, mpo (kInt .i64) (fun x : disk_sector => Value.agg #[.string x.s_, i6 x.at_]) bq4 res.2.wait_]) := by
  unfold F.disk_Disk_Flush at hF
  refine tr_of_cw (fn := Tryz.f40) Tryz.func40 rfl (Nat.le_of_ble_eq_true rfl) 39 rfl fun F0 w0 => ?_
  refine cw_keep [0] (L' := [(0, pP b0)]) rfl ?_
  refine cw_state (S' := SAT w0 ([imm I, o0 b0 p0 m0.sure_ c0 p1 m0.off_ m0.armed_ m0.left_ m0.fall_.Keep m0.fall_.Tear m0.acts_ m0.falls_, own e_disk_sector 51 p0 c0 m0.sure_, mpo (kInt .i64) (fun x : disk_sector => Value.agg #[.string x.s_, i6 x.at_]) p1 m0.wait_] ++ F0)) (fun w hs => hs) ?_
  refine cw_seq ?_
  refine cw_region ?_
  refine ow_vals 1 (j := 1) [0] [(0, pP b0)] rfl (by kernel_rfl) ?_
  refine ow_end rfl ?_
  refine ew_then ?_
  refine cw_seq ?_
  refine cw_seq ?_
  refine cw_region ?_
  refine ow_vals 1 (j := 1) [0, 7] [(0, pP b0), (7, pP b0)] rfl (by kernel_rfl) ?_
  obtain ⟨r21, h22, hF⟩ := bind_some hF
  refine ow_pw rfl (pw_call (F := [] ++ F0) rfl rfl rfl rfl rfl rfl rfl (by kernel_rfl) (perm_of_pulls [0, 0, 0, 0] rfl) (c_disk_Disk_why _ 0 m0 p0 c0 p1 b0 r21 h22) ?_)
  rintro _ _ ⟨rfl, rfl⟩
  refine nw_H (H' := [imm I, o0 b0 p0 m0.sure_ c0 p1 m0.off_ m0.armed_ m0.left_ m0.fall_.Keep m0.fall_.Tear m0.acts_ m0.falls_, own e_disk_sector 51 p0 c0 m0.sure_, mpo (kInt .i64) (fun x : disk_sector => Value.agg #[.string x.s_, i6 x.at_]) p1 m0.wait_] ++ F0) rfl (nw_ow ?_)
  refine ow_vals 1 (j := 3) [0, 3] [(0, pP b0), (3, i6 r21)] rfl (by kernel_rfl) ?_
  refine ow_end rfl ?_
  refine ew_then ?_
  refine cw_seq ?_
  refine cw_region ?_
  refine ow_vals 2 (j := 2) [0, 3, 10] [(0, pP b0), (3, i6 r21), (10, .bool (r21 != 0))] rfl (by kernel_rfl) ?_
  refine ow_end rfl ?_
  refine ew_then ?_
  rcases if_some hF with ⟨h23, hF⟩ | ⟨h23, hF⟩
  · refine cw_cond_t rfl rfl h23 ?_
    refine cw_seq ?_
    refine cw_region ?_
    refine ow_vals 2 (j := 2) [2] [(2, i6 r21)] rfl (by kernel_rfl) ?_
    refine ow_end rfl ?_
    refine ew_then ?_
    refine cw_ret ?_
    refine ew_then_ret ?_
    have hR := Option.some.inj hF
    subst hR
    exact fin1 (H1 := [imm I, o0 b0 p0 m0.sure_ c0 p1 m0.off_ m0.armed_ m0.left_ m0.fall_.Keep m0.fall_.Tear m0.acts_ m0.falls_, own e_disk_sector 51 p0 c0 m0.sure_, mpo (kInt .i64) (fun x : disk_sector => Value.agg #[.string x.s_, i6 x.at_]) p1 m0.wait_]) (fun w hs => sat_to [0, 0, 0, 0] 0 rfl hs) rfl (rr_tmp rfl) ⟨p0, c0, p1, rfl, rfl⟩
  refine cw_cond_f rfl rfl h23 ?_
  refine cw_skip ?_
  refine ew_then ?_
  refine cw_seq ?_
  refine cw_seq ?_
  refine cw_region ?_
  refine ow_vals 1 (j := 1) [0, 12] [(0, pP b0), (12, pP b0)] rfl (by kernel_rfl) ?_
  obtain ⟨r24, h25, hF⟩ := bind_some hF
  refine ow_pw rfl (pw_call (F := [] ++ F0) rfl rfl rfl rfl rfl rfl rfl (by kernel_rfl) (perm_of_pulls [0, 0, 0, 0] rfl) (c_disk_Disk_act _ m0 p0 c0 p1 b0 r24 h25) ?_)
  rintro _ _ ⟨r24_p1, r24_c2, r24_b4, rfl, rfl⟩
  refine nw_H (H' := [imm I, o0 b0 r24_p1 r24.2.sure_ r24_c2 r24_b4 r24.2.off_ r24.2.armed_ r24.2.left_ r24.2.fall_.Keep r24.2.fall_.Tear r24.2.acts_ r24.2.falls_, own e_disk_sector 51 r24_p1 r24_c2 r24.2.sure_, mpo (kInt .i64) (fun x : disk_sector => Value.agg #[.string x.s_, i6 x.at_]) r24_b4 r24.2.wait_] ++ F0) rfl (nw_ow ?_)
  refine ow_vals 1 (j := 3) [0, 4] [(0, pP b0), (4, i6 r24.1)] rfl (by kernel_rfl) ?_
  refine ow_end rfl ?_
  refine ew_then ?_
  refine cw_seq ?_
  refine cw_region ?_
  refine ow_vals 2 (j := 2) [0, 4, 15] [(0, pP b0), (4, i6 r24.1), (15, .bool (r24.1 != 0))] rfl (by kernel_rfl) ?_
  refine ow_end rfl ?_
  refine ew_then ?_
  rcases if_some hF with ⟨h28, hF⟩ | ⟨h28, hF⟩
  · refine cw_cond_t rfl rfl h28 ?_
    refine cw_seq ?_
    refine cw_region ?_
    refine ow_vals 2 (j := 2) [2] [(2, i6 r24.1)] rfl (by kernel_rfl) ?_
    refine ow_end rfl ?_
    refine ew_then ?_
    refine cw_ret ?_
    refine ew_then_ret ?_
    have hR := Option.some.inj hF
    subst hR
    exact fin1 (H1 := [imm I, o0 b0 r24_p1 r24.2.sure_ r24_c2 r24_b4 r24.2.off_ r24.2.armed_ r24.2.left_ r24.2.fall_.Keep r24.2.fall_.Tear r24.2.acts_ r24.2.falls_, own e_disk_sector 51 r24_p1 r24_c2 r24.2.sure_, mpo (kInt .i64) (fun x : disk_sector => Value.agg #[.string x.s_, i6 x.at_]) r24_b4 r24.2.wait_]) (fun w hs => sat_to [0, 0, 0, 0] 0 rfl hs) rfl (rr_tmp rfl) ⟨r24_p1, r24_c2, r24_b4, rfl, rfl⟩
  refine cw_cond_f rfl rfl h28 ?_
  refine cw_skip ?_
  refine ew_then ?_
  obtain ⟨v29, hF, hK29⟩ := bind_some hF
  refine cw_mid (fun a w => ∃ (l43 : List disk_sector), ∃ (l47 : List (Int × disk_sector)), ∃ (p44 : Option Addr), ∃ (c45 : Nat), (l43, l47) = v29 ∧ Fr 39 [] a ∧ SAT w0 ([imm I, o0 b0 p44 l43 c45 r24_b4 r24.2.off_ r24.2.armed_ r24.2.left_ r24.2.fall_.Keep r24.2.fall_.Tear r24.2.acts_ r24.2.falls_, own e_disk_sector 51 p44 c45 l43, mpo (kInt .i64) (fun x : disk_sector => Value.agg #[.string x.s_, i6 x.at_]) r24_b4 l47] ++ F0) w) ?_ ?_
  · refine cw_seq ?_
    refine cw_region ?_
    refine ow_vals 3 (j := 3) [0, 19] [(0, pP b0), (19, .pointer (some ⟨b0, 1, none⟩))] rfl (by kernel_rfl) ?_
    refine ow_pw rfl (pw_quiet (v := .map (some r24_b4)) rfl rfl rfl rfl (q_load 1 rfl rfl rfl (by kernel_rfl)) (nw_ow ?_))
    refine ow_pw rfl (pw_range 3 rfl rfl rfl rfl rfl rfl rfl rfl fun b30 => nw_H (H' := [imm I, o0 b0 r24_p1 r24.2.sure_ r24_c2 r24_b4 r24.2.off_ r24.2.armed_ r24.2.left_ r24.2.fall_.Keep r24.2.fall_.Tear r24.2.acts_ r24.2.falls_, own e_disk_sector 51 r24_p1 r24_c2 r24.2.sure_, mrg (kInt .i64) (fun x : disk_sector => Value.agg #[.string x.s_, i6 x.at_]) r24_b4 b30 r24.2.wait_ r24.2.wait_ none] ++ F0) rfl (nw_ow ?_))
    refine ow_end rfl ?_
    refine ew_then ?_
    refine cw_block ?_
    obtain ⟨h31, hF⟩ := chk_some hF
    obtain ⟨v32, hv32, hX32⟩ := bind_some hF
    clear hF
    refine fun a w hf hs => ?_
    have hn32 := mrg_keys (k := 3) rfl hs
    have ho32 := ord_F_disk_Disk_Flush_l1 r24.2.wait_ (r24.2.sure_, r24.2.wait_) _ hn32 hv32
    refine wp_rounds (fun k a w => ∃ (l33 : List disk_sector), ∃ (l37 : List (Int × disk_sector)), ∃ (p34 : Option Addr), ∃ (c35 : Nat), ∃ (dn32 : List (Int × disk_sector)), ∃ (lt32 : List (Int × disk_sector)), (dn32 ++ lt32).Perm r24.2.wait_ ∧ mloop (fun q x => F.disk_Disk_Flush.l1 q x.1 x.2) dn32 (r24.2.sure_, r24.2.wait_) = some (l33, l37) ∧ lt32.length < k ∧ Fr 39 [(0, pP b0), (21, pP b30)] a ∧ SAT w0 ([imm I, o0 b0 p34 l33 c35 r24_b4 r24.2.off_ r24.2.armed_ r24.2.left_ r24.2.fall_.Keep r24.2.fall_.Tear r24.2.acts_ r24.2.falls_, own e_disk_sector 51 p34 c35 l33, mrg (kInt .i64) (fun x : disk_sector => Value.agg #[.string x.s_, i6 x.at_]) r24_b4 b30 l37 lt32 none] ++ F0) w) ?_ FUEL a w ⟨r24.2.sure_, r24.2.wait_, r24_p1, r24_c2, [], r24.2.wait_, List.Perm.refl _, rfl, (by rw [FUEL_eq]; omega), hf.keep [0, 21], sat_to [0, 0, 0, 0] 0 rfl hs⟩
    clear hf hs
    clear a w
    rintro k a w ⟨l33, l37, p34, c35, dn32, lt32, hP32, hD32, hk32, hf, hs⟩
    revert a w
    show CW _ _ _ 39 [(0, pP b0), (21, pP b30)] (SAT w0 ([imm I, o0 b0 p34 l33 c35 r24_b4 r24.2.off_ r24.2.armed_ r24.2.left_ r24.2.fall_.Keep r24.2.fall_.Tear r24.2.acts_ r24.2.falls_, own e_disk_sector 51 p34 c35 l33, mrg (kInt .i64) (fun x : disk_sector => Value.agg #[.string x.s_, i6 x.at_]) r24_b4 b30 l37 lt32 none] ++ F0))
    refine cw_seq ?_
    refine cw_region ?_
    refine ow_pw rfl (pw_next 3 rfl rfl rfl rfl rfl rfl rfl (fun h032 => nw_ow ?_) (fun q32 lf32 hq32 => nw_H (H' := [imm I, o0 b0 p34 l33 c35 r24_b4 r24.2.off_ r24.2.armed_ r24.2.left_ r24.2.fall_.Keep r24.2.fall_.Tear r24.2.acts_ r24.2.falls_, own e_disk_sector 51 p34 c35 l33, mrg (kInt .i64) (fun x : disk_sector => Value.agg #[.string x.s_, i6 x.at_]) r24_b4 b30 l37 lf32 (some q32)] ++ F0) rfl (nw_ow ?_)))
    · obtain ⟨w32, hv32, hR32⟩ := ho32 dn32 (by rw [h032, List.append_nil] at hP32; exact hP32)
      rw [hD32] at hv32
      obtain rfl := Option.some.inj hv32
      subst hR32
      have hF := hX32
      try dsimp only at hF
      unfold F.disk_Disk_Flush.x2 at hF
      refine ow_state (S' := SAT w0 ([imm I, o0 b0 p34 l33 c35 r24_b4 r24.2.off_ r24.2.armed_ r24.2.left_ r24.2.fall_.Keep r24.2.fall_.Tear r24.2.acts_ r24.2.falls_, own e_disk_sector 51 p34 c35 l33, mpo (kInt .i64) (fun x : disk_sector => Value.agg #[.string x.s_, i6 x.at_]) r24_b4 l37] ++ F0)) (fun w hs => sat_mrg_end (k := 3) rfl hs) ?_
      refine ow_vals 1 (j := 2) [0, 21, 23] [(0, pP b0), (21, pP b30), (23, .bool false)] rfl (by kernel_rfl) ?_
      refine ow_end rfl ?_
      refine ew_then ?_
      refine cw_seq ?_
      refine cw_cond_f rfl rfl rfl ?_
      refine cw_exit ?_
      refine ew_then_exit ?_
      refine ew_then_exit ?_
      refine ew_blk_exit ?_
      have hR := Option.some.inj hF
      exact fun a w hf hs => ⟨l33, l37, p34, c35, hR, hf.keep [], sat_to [0, 0, 0, 0] 0 rfl hs⟩
    obtain ⟨u32, hu32⟩ := mloop_step (fun l' h => (ho32 l' h).imp fun _ h => h.1) hD32 ((hq32.append_left dn32).symm.trans hP32)
    have hF := hu32
    try dsimp only at hF
    unfold F.disk_Disk_Flush.l1 at hF
    refine ow_vals 1 (j := 2) [0, 21, 23] [(0, pP b0), (21, pP b30), (23, .bool true)] rfl (by kernel_rfl) ?_
    refine ow_end rfl ?_
    refine ew_then ?_
    refine cw_seq ?_
    refine cw_cond_t rfl rfl rfl ?_
    refine cw_skip ?_
    refine ew_then ?_
    refine cw_block ?_
    refine cw_seq ?_
    refine cw_region ?_
    refine ow_pw rfl (pw_quiet (v := .tuple #[i6 q32.1, .agg #[.string q32.2.s_, i6 q32.2.at_]]) rfl rfl rfl rfl (q_entry (kf := (kInt .i64)) (vf := (fun x : disk_sector => Value.agg #[.string x.s_, i6 x.at_])) (p := q32) 3 rfl rfl rfl) (nw_ow ?_))
    refine ow_vals 2 (j := 3) [0, 21, 25, 26] [(0, pP b0), (21, pP b30), (25, i6 q32.1), (26, .agg #[.string q32.2.s_, i6 q32.2.at_])] rfl (by kernel_rfl) ?_
    refine ow_pw rfl (pw_alloc (cs := #[.string (ByteArray.mk #[]), i6 0]) rfl rfl rfl rfl rfl (by kernel_rfl) fun b39 => nw_ow ?_)
    refine ow_vals 1 (j := 5) [0, 5, 6, 21, 26] [(0, pP b0), (5, i6 q32.1), (6, pP b39), (21, pP b30), (26, .agg #[.string q32.2.s_, i6 q32.2.at_])] rfl (by kernel_rfl) ?_
    refine ow_pw rfl (pw_store 0 #[.string q32.2.s_, i6 q32.2.at_] rfl rfl rfl rfl rfl rfl rfl (by kernel_rfl) (nw_H (H' := [o2 b39 q32.2.s_ q32.2.at_, imm I, o0 b0 p34 l33 c35 r24_b4 r24.2.off_ r24.2.armed_ r24.2.left_ r24.2.fall_.Keep r24.2.fall_.Tear r24.2.acts_ r24.2.falls_, own e_disk_sector 51 p34 c35 l33, mrg (kInt .i64) (fun x : disk_sector => Value.agg #[.string x.s_, i6 x.at_]) r24_b4 b30 l37 lf32 (some q32)] ++ F0) rfl (nw_ow ?_)))
    refine ow_end rfl ?_
    refine ew_then ?_
    refine cw_seq ?_
    refine cw_open 7 (SAT w0 ([o2 b39 q32.2.s_ q32.2.at_, imm I, o0 b0 p34 l33 c35 r24_b4 r24.2.off_ r24.2.armed_ r24.2.left_ r24.2.fall_.Keep r24.2.fall_.Tear r24.2.acts_ r24.2.falls_, own e_disk_sector 51 p34 c35 l33, mrg (kInt .i64) (fun x : disk_sector => Value.agg #[.string x.s_, i6 x.at_]) r24_b4 b30 l37 lf32 (some q32)])) (by kernel_rfl) (f := 8) rfl (fun w hs => sat_drew hs) ?_
    refine aw_vals [0, 1, 2, 4] (f' := 4) (m' := 23) [0, 5, 6, 21, 29, 31] [(0, pP b0), (5, i6 q32.1), (6, pP b39), (21, pP b30), (29, pP b0), (31, i6 q32.1)] (fun _ _ _ _ _ h => calm_fin (P := Tryz.prog) (fn := Tryz.f40) _ _ _ _ _ h) (fun w hs => sat_pulls [0, 0, 0, 0, 0] (G := [] ++ F0) rfl hs) rfl (by kernel_rfl) ?_
    refine aw_quiet 3 (m' := 31) (v := .slice p34 l33.length c35) 3 [] rfl rfl rfl rfl (by kernel_rfl) (by kernel_rfl) (by kernel_rfl) (fun _ _ _ _ _ h => calm_fin (P := Tryz.prog) (fn := Tryz.f40) _ _ _ _ _ h) (fun w hs => sat_pulls [0, 0, 0, 0, 0] (G := [] ++ F0) rfl hs) (q_load 2 rfl rfl rfl (by kernel_rfl)) ?_
    refine aw_quiet 5 (m' := 63) (v := .agg #[.string q32.2.s_, i6 q32.2.at_]) 5 [] rfl rfl rfl rfl (by kernel_rfl) (by kernel_rfl) (by kernel_rfl) (fun _ _ _ _ _ h => calm_fin (P := Tryz.prog) (fn := Tryz.f40) _ _ _ _ _ h) (fun w hs => sat_pulls [0, 0, 0, 0, 0] (G := [] ++ F0) rfl hs) (q_load 0 rfl rfl rfl (by kernel_rfl)) ?_
    obtain ⟨y41, h42, hF⟩ := bind_some hF
    refine aw_quiet 6 (m' := 127) (v := .pointer (some ((base p34).add (q32.1.toNat * 2)))) 6 [] rfl rfl rfl rfl (by kernel_rfl) (by kernel_rfl) (by kernel_rfl) (fun _ _ _ _ _ h => calm_fin (P := Tryz.prog) (fn := Tryz.f40) _ _ _ _ _ h) (fun w hs => sat_pulls [0, 0, 0, 0, 0] (G := [] ++ F0) rfl hs) (q_index_own 3 2 rfl rfl (by kernel_rfl) rfl rfl (at_some h42).1 (at_lt h42)) ?_
    refine aw_only 7 (m' := 255) (by kernel_rfl) (by kernel_rfl) (pw_store_own 3 2 (z' := q32.2) (off := 0) rfl rfl rfl rfl rfl rfl rfl rfl (at_some h42).2 (by kernel_rfl) (nw_H (H' := [o2 b39 q32.2.s_ q32.2.at_, imm I, o0 b0 p34 (l33.set q32.1.toNat q32.2) c35 r24_b4 r24.2.off_ r24.2.armed_ r24.2.left_ r24.2.fall_.Keep r24.2.fall_.Tear r24.2.acts_ r24.2.falls_, own e_disk_sector 51 p34 c35 (l33.set q32.1.toNat q32.2), mrg (kInt .i64) (fun x : disk_sector => Value.agg #[.string x.s_, i6 x.at_]) r24_b4 b30 l37 lf32 (some q32)] ++ F0) (by first | rfl | (simp only [o0, o3, o5, List.length_set]; rfl)) (aw_last (by kernel_rfl) ?_)))
    refine aw_slots (L' := [(33, .pointer (some ((base p34).add (q32.1.toNat * 2)))), (32, .agg #[.string q32.2.s_, i6 q32.2.at_]), (30, .slice p34 (l33.set q32.1.toNat q32.2).length c35), (0, pP b0), (5, i6 q32.1), (6, pP b39), (21, pP b30), (29, pP b0), (31, i6 q32.1)]) (by first | rfl | (simp only [o0, o3, o5, List.length_set]; rfl)) ?_
    refine aw_keep [0, 5, 21] (L' := [(0, pP b0), (5, i6 q32.1), (21, pP b30)]) rfl ?_
    refine aw_end (by kernel_rfl) ?_
    refine ew_then ?_
    refine cw_region ?_
    refine ow_vals 3 (j := 3) [0, 5, 21, 36] [(0, pP b0), (5, i6 q32.1), (21, pP b30), (36, .pointer (some ⟨b0, 1, none⟩))] rfl (by kernel_rfl) ?_
    refine ow_pw rfl (pw_quiet (v := .map (some r24_b4)) rfl rfl rfl rfl (q_load 2 rfl rfl rfl (by kernel_rfl)) (nw_ow ?_))
    refine ow_vals 1 (j := 5) [0, 21, 37, 38] [(0, pP b0), (21, pP b30), (37, .map (some r24_b4)), (38, i6 q32.1)] rfl (by kernel_rfl) ?_
    refine ow_pw rfl (pw_mapDel_cur 4 (p := q32) (mkey_int (by kernel_rfl)) rfl rfl rfl rfl rfl rfl rfl rfl rfl (nw_H (H' := [o2 b39 q32.2.s_ q32.2.at_, imm I, o0 b0 p34 (l33.set q32.1.toNat q32.2) c35 r24_b4 r24.2.off_ r24.2.armed_ r24.2.left_ r24.2.fall_.Keep r24.2.fall_.Tear r24.2.acts_ r24.2.falls_, own e_disk_sector 51 p34 c35 (l33.set q32.1.toNat q32.2), mrg (kInt .i64) (fun x : disk_sector => Value.agg #[.string x.s_, i6 x.at_]) r24_b4 b30 (mdel l37 q32.1) lf32 none] ++ F0) rfl (nw_ow ?_)))
    refine ow_end rfl ?_
    refine ew_blk ?_
    have hR := Option.some.inj hF
    subst hR
    exact fun a w hf hs => ⟨lt32.length, hk32, l33.set q32.1.toNat q32.2, mdel l37 q32.1, p34, c35, dn32 ++ [q32], lf32, (by rw [List.append_assoc]; exact (hq32.append_left dn32).symm.trans hP32), mloop_snoc hD32 hu32, (by rw [hq32.length_eq]; exact Nat.lt_succ_self _), hf.keep [0, 21], sat_to [0, 0, 0, 0, 0] 1 rfl (sat_mrg_none (k := 4) rfl hs)⟩
  rintro a w ⟨l43, l47, p44, c45, hv, hf, hs⟩
  subst hv
  replace hF := hK29
  clear hK29
  try dsimp only at hF
  revert a w
  show CW _ _ _ 39 [] (SAT w0 ([imm I, o0 b0 p44 l43 c45 r24_b4 r24.2.off_ r24.2.armed_ r24.2.left_ r24.2.fall_.Keep r24.2.fall_.Tear r24.2.acts_ r24.2.falls_, own e_disk_sector 51 p44 c45 l43, mpo (kInt .i64) (fun x : disk_sector => Value.agg #[.string x.s_, i6 x.at_]) r24_b4 l47] ++ F0))
  unfold F.disk_Disk_Flush.r3 at hF
  refine cw_seq ?_
  refine cw_region ?_
  refine ow_vals 1 (j := 1) [2] [(2, i6 0)] rfl (by kernel_rfl) ?_
  refine ow_end rfl ?_
  refine ew_then ?_
  refine cw_ret ?_
  have hR := Option.some.inj hF
  subst hR
  exact fin1 (H1 := [imm I, o0 b0 p44 ((⟨l43, l47, r24.2.off_, r24.2.armed_, r24.2.left_, r24.2.fall_, r24.2.acts_, r24.2.falls_⟩ : disk_Disk).sure_) c45 r24_b4 ((⟨l43, l47, r24.2.off_, r24.2.armed_, r24.2.left_, r24.2.fall_, r24.2.acts_, r24.2.falls_⟩ : disk_Disk).off_) ((⟨l43, l47, r24.2.off_, r24.2.armed_, r24.2.left_, r24.2.fall_, r24.2.acts_, r24.2.falls_⟩ : disk_Disk).armed_) ((⟨l43, l47, r24.2.off_, r24.2.armed_, r24.2.left_, r24.2.fall_, r24.2.acts_, r24.2.falls_⟩ : disk_Disk).left_) (((⟨l43, l47, r24.2.off_, r24.2.armed_, r24.2.left_, r24.2.fall_, r24.2.acts_, r24.2.falls_⟩ : disk_Disk).fall_).Keep) (((⟨l43, l47, r24.2.off_, r24.2.armed_, r24.2.left_, r24.2.fall_, r24.2.acts_, r24.2.falls_⟩ : disk_Disk).fall_).Tear) ((⟨l43, l47, r24.2.off_, r24.2.armed_, r24.2.left_, r24.2.fall_, r24.2.acts_, r24.2.falls_⟩ : disk_Disk).acts_) ((⟨l43, l47, r24.2.off_, r24.2.armed_, r24.2.left_, r24.2.fall_, r24.2.acts_, r24.2.falls_⟩ : disk_Disk).falls_), own e_disk_sector 51 p44 c45 ((⟨l43, l47, r24.2.off_, r24.2.armed_, r24.2.left_, r24.2.fall_, r24.2.acts_, r24.2.falls_⟩ : disk_Disk).sure_), mpo (kInt .i64) (fun x : disk_sector => Value.agg #[.string x.s_, i6 x.at_]) r24_b4 ((⟨l43, l47, r24.2.off_, r24.2.armed_, r24.2.left_, r24.2.fall_, r24.2.acts_, r24.2.falls_⟩ : disk_Disk).wait_)]) (fun w hs => sat_to [0, 0, 0, 0] 0 rfl hs) rfl (rr_tmp rfl) ⟨p44, c45, r24_b4, rfl, rfl⟩


def F.guard_Guard_Flush (m0 : guard_Guard) (m1 : disk_Disk) : Option (Int × disk_Disk) :=
  Option.bind (F.guard_Guard_none m0 m1) (fun (r21 : Unit) => Option.bind (F.disk_Disk_Flush m1) (fun (r23 : Int × disk_Disk) => some ((r23.1, r23.2))))
set_option maxRecDepth 100000 in
set_option maxHeartbeats 4000000 in
theorem c_guard_Guard_Flush (I : Hl) (m0 : guard_Guard) (m1 : disk_Disk) (b0 : Nat) (p0 : Option Addr) (c0 : Nat) (p1 : Nat) (b1 : Nat) (res : Int × disk_Disk) (hF : F.guard_Guard_Flush m0 m1 = some res) : Tr Tryz.prog 21 [pP b0] [imm I, o1 b0 b1 m0.boot_ m0.n_, o0 b1 p0 m1.sure_ c0 p1 m1.off_ m1.armed_ m1.left_ m1.fall_.Keep m1.fall_.Tear m1.acts_ m1.falls_, own e_disk_sector 51 p0 c0 m1.sure_, mpo (kInt .i64) (fun x : disk_sector => Value.agg #[.string x.s_, i6 x.at_]) p1 m1.wait_] (fun r H' => ∃ (pq1 : Option Addr), ∃ (cq2 : Nat), ∃ (bq4 : Nat), r = i6 res.1 ∧ H' = [imm I, o1 b0 b1 m0.boot_ m0.n_, o0 b1 pq1 res.2.sure_ cq2 bq4 res.2.off_ res.2.armed_ res.2.left_ res.2.fall_.Keep res.2.fall_.Tear res.2.acts_ res.2.falls_, own e_disk_sector 51 pq1 cq2 res.2.sure_, mpo (kInt .i64) (fun x : disk_sector => Value.agg #[.string x.s_, i6 x.at_]) bq4 res.2.wait_]) := by
  unfold F.guard_Guard_Flush at hF
  refine tr_of_cw (fn := Tryz.f21) Tryz.func21 rfl (Nat.le_of_ble_eq_true rfl) 10 rfl fun F0 w0 => ?_
  refine cw_keep [0] (L' := [(0, pP b0)]) rfl ?_
  refine cw_state (S' := SAT w0 ([imm I, o1 b0 b1 m0.boot_ m0.n_, o0 b1 p0 m1.sure_ c0 p1 m1.off_ m1.armed_ m1.left_ m1.fall_.Keep m1.fall_.Tear m1.acts_ m1.falls_, own e_disk_sector 51 p0 c0 m1.sure_, mpo (kInt .i64) (fun x : disk_sector => Value.agg #[.string x.s_, i6 x.at_]) p1 m1.wait_] ++ F0)) (fun w hs => hs) ?_
  refine cw_seq ?_
  refine cw_region ?_
  refine ow_vals 1 (j := 1) [0] [(0, pP b0)] rfl (by kernel_rfl) ?_
  refine ow_end rfl ?_
  refine ew_then ?_
  refine cw_seq ?_
  refine cw_seq ?_
  refine cw_region ?_
  refine ow_vals 1 (j := 1) [0, 3] [(0, pP b0), (3, pP b0)] rfl (by kernel_rfl) ?_
  obtain ⟨r21, h22, hF⟩ := bind_some hF
  refine ow_pw rfl (pw_call (F := [] ++ F0) rfl rfl rfl rfl rfl rfl rfl (by kernel_rfl) (perm_of_pulls [0, 0, 0, 0, 0] rfl) (c_guard_Guard_none _ m0 m1 b0 p0 c0 p1 b1 r21 h22) ?_)
  rintro _ _ ⟨rfl, rfl⟩
  refine nw_H (H' := [imm I, o1 b0 b1 m0.boot_ m0.n_, o0 b1 p0 m1.sure_ c0 p1 m1.off_ m1.armed_ m1.left_ m1.fall_.Keep m1.fall_.Tear m1.acts_ m1.falls_, own e_disk_sector 51 p0 c0 m1.sure_, mpo (kInt .i64) (fun x : disk_sector => Value.agg #[.string x.s_, i6 x.at_]) p1 m1.wait_] ++ F0) rfl (nw_ow ?_)
  refine ow_end rfl ?_
  refine ew_then ?_
  refine cw_cond_f rfl rfl rfl ?_
  refine cw_skip ?_
  refine ew_then ?_
  refine cw_seq ?_
  refine cw_region ?_
  refine ow_vals 3 (j := 3) [7] [(7, pP b0)] rfl (by kernel_rfl) ?_
  refine ow_pw rfl (pw_quiet (v := pP b1) rfl rfl rfl rfl (q_load 1 rfl rfl rfl (by kernel_rfl)) (nw_ow ?_))
  obtain ⟨r23, h24, hF⟩ := bind_some hF
  refine ow_pw rfl (pw_call (F := [o1 b0 b1 m0.boot_ m0.n_] ++ F0) rfl rfl rfl rfl rfl rfl rfl (by kernel_rfl) (perm_of_pulls [0, 1, 1, 1] rfl) (c_disk_Disk_Flush _ m1 p0 c0 p1 b1 r23 h24) ?_)
  rintro _ _ ⟨r23_p1, r23_c2, r23_b4, rfl, rfl⟩
  refine nw_H (H' := [imm I, o0 b1 r23_p1 r23.2.sure_ r23_c2 r23_b4 r23.2.off_ r23.2.armed_ r23.2.left_ r23.2.fall_.Keep r23.2.fall_.Tear r23.2.acts_ r23.2.falls_, own e_disk_sector 51 r23_p1 r23_c2 r23.2.sure_, mpo (kInt .i64) (fun x : disk_sector => Value.agg #[.string x.s_, i6 x.at_]) r23_b4 r23.2.wait_, o1 b0 b1 m0.boot_ m0.n_] ++ F0) rfl (nw_ow ?_)
  refine ow_vals 1 (j := 6) [2] [(2, i6 r23.1)] rfl (by kernel_rfl) ?_
  refine ow_end rfl ?_
  refine ew_then ?_
  refine cw_ret ?_
  have hR := Option.some.inj hF
  subst hR
  exact fin1 (H1 := [imm I, o1 b0 b1 m0.boot_ m0.n_, o0 b1 r23_p1 r23.2.sure_ r23_c2 r23_b4 r23.2.off_ r23.2.armed_ r23.2.left_ r23.2.fall_.Keep r23.2.fall_.Tear r23.2.acts_ r23.2.falls_, own e_disk_sector 51 r23_p1 r23_c2 r23.2.sure_, mpo (kInt .i64) (fun x : disk_sector => Value.agg #[.string x.s_, i6 x.at_]) r23_b4 r23.2.wait_]) (fun w hs => sat_to [0, 3, 0, 0, 0] 0 rfl hs) rfl (rr_tmp rfl) ⟨r23_p1, r23_c2, r23_b4, rfl, rfl⟩

end Go.Proofs.YtgbloaophfaaoaaGreatDoor
