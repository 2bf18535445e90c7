/- What the functions compute, and that the code computes it: printed by a program of this claim (wip/tools), for the group Reads. -/
import Derived.Test.YthebdiboijhjmaaDoorGGuardb
namespace Go.Proofs.YthebdiboijhjmaaDoor
set_option linter.all false
open Go Go.RowKit Go.Fw
set_option linter.unusedVariables false

def F.guard_Guard_Blank (x1 : Int) (m0 : guard_Guard) (m1 : disk_Disk) : Option Bool :=
  Option.bind (F.guard_Guard_none m0 m1) (fun (r21 : Unit) => Option.bind (F.guard_Guard_Get x1 m0 m1) (fun (r23 : ByteArray × Int × Int) => some ((r23.2.2 == 7))))
set_option maxRecDepth 100000 in
set_option maxHeartbeats 4000000 in
theorem c_guard_Guard_Blank (I : Hl) (x1 : Int) (m0 : guard_Guard) (m1 : disk_Disk) (b0 : Nat) (p0 : Option Addr) (c0 : Nat) (p1 : Nat) (b1 : Nat) (res : Bool) (hF : F.guard_Guard_Blank x1 m0 m1 = some res) : Tr Tryd.prog 16 [.pointer (some ⟨b0, 0, none⟩), .int .i64 x1] [imm I, pt b0 #[.pointer (some ⟨b1, 0, none⟩), .int .i64 m0.boot_, .int .i64 m0.n_] 47, pt b1 #[.slice p0 m1.sure_.length c0, .map (some p1), .bool m1.off_, .bool m1.armed_, .int .i64 m1.left_, .int .u64 m1.fall_.Keep, .int .i64 m1.fall_.Tear, .int .i64 m1.acts_, .int .i64 m1.falls_] 68, own e_disk_sector 70 p0 c0 m1.sure_, mpo (kInt .i64) (fun x : disk_sector => Value.agg #[.string x.s_, .int .i64 x.at_]) p1 m1.wait_] (fun r H' => r = .bool res ∧ H' = [imm I, pt b0 #[.pointer (some ⟨b1, 0, none⟩), .int .i64 m0.boot_, .int .i64 m0.n_] 47, pt b1 #[.slice p0 m1.sure_.length c0, .map (some p1), .bool m1.off_, .bool m1.armed_, .int .i64 m1.left_, .int .u64 m1.fall_.Keep, .int .i64 m1.fall_.Tear, .int .i64 m1.acts_, .int .i64 m1.falls_] 68, own e_disk_sector 70 p0 c0 m1.sure_, mpo (kInt .i64) (fun x : disk_sector => Value.agg #[.string x.s_, .int .i64 x.at_]) p1 m1.wait_]) := by
  unfold F.guard_Guard_Blank at hF
  refine tr_of_cw (fn := Tryd.f16) Tryd.func16 rfl (Nat.le_of_ble_eq_true rfl) 19 rfl fun F0 w0 => ?_
  refine cw_keep [0, 1] (L' := [(0, .pointer (some ⟨b0, 0, none⟩)), (1, .int .i64 x1)]) rfl ?_
  refine cw_state (S' := SAT w0 ([imm I, pt b0 #[.pointer (some ⟨b1, 0, none⟩), .int .i64 m0.boot_, .int .i64 m0.n_] 47, pt b1 #[.slice p0 m1.sure_.length c0, .map (some p1), .bool m1.off_, .bool m1.armed_, .int .i64 m1.left_, .int .u64 m1.fall_.Keep, .int .i64 m1.fall_.Tear, .int .i64 m1.acts_, .int .i64 m1.falls_] 68, own e_disk_sector 70 p0 c0 m1.sure_, mpo (kInt .i64) (fun x : disk_sector => Value.agg #[.string x.s_, .int .i64 x.at_]) p1 m1.wait_] ++ F0)) (fun w hs => hs) ?_
  refine cw_seq ?_
  refine cw_region ?_
  refine ow_vals 1 (j := 1) [0, 1] [(0, .pointer (some ⟨b0, 0, none⟩)), (1, .int .i64 x1)] rfl (by kernel_rfl) ?_
  refine ow_end rfl ?_
  refine ew_then ?_
  refine cw_seq ?_
  refine cw_seq ?_
  refine cw_region ?_
  refine ow_vals 1 (j := 1) [0, 1, 8] [(0, .pointer (some ⟨b0, 0, none⟩)), (1, .int .i64 x1), (8, .pointer (some ⟨b0, 0, none⟩))] rfl (by kernel_rfl) ?_
  obtain ⟨r21, h22, hF⟩ := bind_some hF
  refine ow_pw rfl (pw_call (F := [] ++ F0) rfl rfl rfl rfl rfl rfl rfl (by kernel_rfl) (perm_of_pulls [0, 0, 0, 0, 0] rfl) (c_guard_Guard_none _ m0 m1 b0 p0 c0 p1 b1 r21 h22) ?_)
  rintro _ _ ⟨rfl, rfl⟩
  refine nw_H (H' := [imm I, pt b0 #[.pointer (some ⟨b1, 0, none⟩), .int .i64 m0.boot_, .int .i64 m0.n_] 47, pt b1 #[.slice p0 m1.sure_.length c0, .map (some p1), .bool m1.off_, .bool m1.armed_, .int .i64 m1.left_, .int .u64 m1.fall_.Keep, .int .i64 m1.fall_.Tear, .int .i64 m1.acts_, .int .i64 m1.falls_] 68, own e_disk_sector 70 p0 c0 m1.sure_, mpo (kInt .i64) (fun x : disk_sector => Value.agg #[.string x.s_, .int .i64 x.at_]) p1 m1.wait_] ++ F0) rfl (nw_ow ?_)
  refine ow_end rfl ?_
  refine ew_then ?_
  refine cw_cond_f rfl rfl rfl ?_
  refine cw_skip ?_
  refine ew_then ?_
  refine cw_seq ?_
  refine cw_region ?_
  refine ow_vals 2 (j := 2) [11, 12] [(11, .pointer (some ⟨b0, 0, none⟩)), (12, .int .i64 x1)] rfl (by kernel_rfl) ?_
  obtain ⟨r23, h24, hF⟩ := bind_some hF
  refine ow_pw rfl (pw_call (F := [] ++ F0) rfl rfl rfl rfl rfl rfl rfl (by kernel_rfl) (perm_of_pulls [0, 0, 0, 0, 0] rfl) (c_guard_Guard_Get _ x1 m0 m1 b0 p0 c0 p1 b1 r23 h24) ?_)
  rintro _ _ ⟨rfl, rfl⟩
  refine nw_H (H' := [imm I, pt b0 #[.pointer (some ⟨b1, 0, none⟩), .int .i64 m0.boot_, .int .i64 m0.n_] 47, pt b1 #[.slice p0 m1.sure_.length c0, .map (some p1), .bool m1.off_, .bool m1.armed_, .int .i64 m1.left_, .int .u64 m1.fall_.Keep, .int .i64 m1.fall_.Tear, .int .i64 m1.acts_, .int .i64 m1.falls_] 68, own e_disk_sector 70 p0 c0 m1.sure_, mpo (kInt .i64) (fun x : disk_sector => Value.agg #[.string x.s_, .int .i64 x.at_]) p1 m1.wait_] ++ F0) rfl (nw_ow ?_)
  refine ow_vals 7 (j := 10) [7] [(7, .int .i64 r23.2.2)] rfl (by kernel_rfl) ?_
  refine ow_end rfl ?_
  refine ew_then ?_
  refine cw_seq ?_
  refine cw_region ?_
  refine ow_vals 3 (j := 3) [4] [(4, .bool (r23.2.2 == 7))] rfl (by kernel_rfl) ?_
  refine ow_end rfl ?_
  refine ew_then ?_
  refine cw_ret ?_
  have hR := Option.some.inj hF
  subst hR
  exact fin1 (H1 := [imm I, pt b0 #[.pointer (some ⟨b1, 0, none⟩), .int .i64 m0.boot_, .int .i64 m0.n_] 47, pt b1 #[.slice p0 m1.sure_.length c0, .map (some p1), .bool m1.off_, .bool m1.armed_, .int .i64 m1.left_, .int .u64 m1.fall_.Keep, .int .i64 m1.fall_.Tear, .int .i64 m1.acts_, .int .i64 m1.falls_] 68, own e_disk_sector 70 p0 c0 m1.sure_, mpo (kInt .i64) (fun x : disk_sector => Value.agg #[.string x.s_, .int .i64 x.at_]) p1 m1.wait_]) (fun w hs => sat_to [0, 0, 0, 0, 0] 0 rfl hs) rfl (rr_tmp rfl) ⟨rfl, rfl⟩


def F.law10_GuardReads.r6 (x0 : ByteArray) (r58 : ByteArray × Int × Int) : Option (Bool) :=
  chk (0 ≤ (9 : Int) ∧ (9 : Int) ≤ (IntKind.i64.wrap (9 + (IntKind.i64.wrap (bt x0 8)))) ∧ (IntKind.i64.wrap (9 + (IntKind.i64.wrap (bt x0 8)))) ≤ (x0.size : Int)) (if seqB r58.1 (x0.extract (9 : Int).toNat (IntKind.i64.wrap (9 + (IntKind.i64.wrap (bt x0 8)))).toNat) then (chk (0 ≤ (0 : Int) ∧ (0 : Int) ≤ (8 : Int) ∧ (8 : Int) ≤ (x0.size : Int)) (Option.bind (F.law10_eight r58.2.1) (fun (r103 : ByteArray) => if seqB r103 (x0.extract (0 : Int).toNat (8 : Int).toNat) then (if r58.2.2 == 0 then (Option.bind (F.law10_awake) (fun (r107 : Bool) => some (r107))) else (some (false))) else (some (false))))) else (some (false)))
def F.law10_GuardReads.r5 (x0 : ByteArray) (r21_s9 : guard_Guard) (l44 : List disk_sector) (l48 : List (Int × disk_sector)) (x51 : Bool) (x52 : Bool) (x53 : Int) (x54 : Int) (x55 : Int) (x56 : Int) (x57 : Int) (r58 : ByteArray × Int × Int) (x89 : Bool) : Option (Bool) :=
  thru (if !x89 then (if seqB r58.1 (ByteArray.mk #[]) then (if r58.2.1 == 0 then (if r58.2.2 == 17 then (Option.bind (F.guard_Guard_Blank 2 r21_s9 (⟨l44, l48, x51, x52, x53, (⟨x54, x55⟩ : disk_Fall), x56, x57⟩ : disk_Disk)) (fun (r95 : Bool) => if !r95 then (Option.bind (F.law10_awake) (fun (r98 : Bool) => some (.inr (r98)))) else (some (.inr (false))))) else (some (.inr (false)))) else (some (.inr (false)))) else (some (.inr (false)))) else (some (.inl ()))) (fun x => F.law10_GuardReads.r6 x0 r58)
def F.law10_GuardReads.r4 (x0 : ByteArray) (r21_s9 : guard_Guard) (l44 : List disk_sector) (l48 : List (Int × disk_sector)) (x51 : Bool) (x52 : Bool) (x53 : Int) (x54 : Int) (x55 : Int) (x56 : Int) (x57 : Int) (r58 : ByteArray × Int × Int) (x83 : Bool) : Option (Bool) :=
  Option.bind (if x83 then (chk (0 ≤ (IntKind.i64.wrap (9 + (IntKind.i64.wrap (bt x0 8)))) ∧ (IntKind.i64.wrap (9 + (IntKind.i64.wrap (bt x0 8)))) ≤ (56 : Int) ∧ (56 : Int) ≤ (x0.size : Int)) (Option.bind (F.law10_noughts (IntKind.i64.wrap (47 - (IntKind.i64.wrap (bt x0 8))))) (fun (r87 : ByteArray) => some ((seqB (x0.extract (IntKind.i64.wrap (9 + (IntKind.i64.wrap (bt x0 8)))).toNat (56 : Int).toNat) r87))))) else (some (x83))) (fun x => F.law10_GuardReads.r5 x0 r21_s9 l44 l48 x51 x52 x53 x54 x55 x56 x57 r58 x)
def F.law10_GuardReads.r3 (x0 : ByteArray) (r21_s9 : guard_Guard) (l44 : List disk_sector) (l48 : List (Int × disk_sector)) (x51 : Bool) (x52 : Bool) (x53 : Int) (x54 : Int) (x55 : Int) (x56 : Int) (x57 : Int) (r58 : ByteArray × Int × Int) : Option (Bool) :=
  chk (0 ≤ (8 : Int) ∧ 8 < (x0.size : Int)) (Option.bind (chk (0 ≤ (0 : Int) ∧ (0 : Int) ≤ (8 : Int) ∧ (8 : Int) ≤ (x0.size : Int)) (chk (0 ≤ (56 : Int) ∧ (56 : Int) ≤ (x0.size : Int) ∧ (x0.size : Int) ≤ (x0.size : Int)) (if seqB (x0.extract (0 : Int).toNat (8 : Int).toNat) (x0.extract (56 : Int).toNat (x0.size : Int).toNat) then (chk (0 ≤ (0 : Int) ∧ 0 < (x0.size : Int)) (if decide ((bt x0 0) < 128) then (chk (0 ≤ (0 : Int) ∧ (0 : Int) ≤ (4 : Int) ∧ (4 : Int) ≤ (x0.size : Int)) (Option.bind (F.law10_noughts 4) (fun (r80 : ByteArray) => if !(seqB (x0.extract (0 : Int).toNat (4 : Int).toNat) r80) then (some ((decide ((IntKind.i64.wrap (bt x0 8)) ≤ 47)))) else (some (false))))) else (some (false)))) else (some (false))))) (fun x => F.law10_GuardReads.r4 x0 r21_s9 l44 l48 x51 x52 x53 x54 x55 x56 x57 r58 x))
def F.law10_GuardReads.r2 (x0 : ByteArray) (r21_s9 : guard_Guard) (l44 : List disk_sector) (l48 : List (Int × disk_sector)) (x51 : Bool) (x52 : Bool) (x53 : Int) (x54 : Int) (x55 : Int) (x56 : Int) (x57 : Int) : Option (Bool) :=
  Option.bind (F.guard_Read 2 (⟨l44, l48, x51, x52, x53, (⟨x54, x55⟩ : disk_Fall), x56, x57⟩ : disk_Disk)) (fun (r58 : ByteArray × Int × Int) => thru (Option.bind (F.law10_noughts 64) (fun (r61 : ByteArray) => if seqB x0 r61 then (if seqB r58.1 (ByteArray.mk #[]) then (if r58.2.1 == 0 then (if r58.2.2 == 7 then (Option.bind (F.guard_Guard_Blank 2 r21_s9 (⟨l44, l48, x51, x52, x53, (⟨x54, x55⟩ : disk_Fall), x56, x57⟩ : disk_Disk)) (fun (r67 : Bool) => if r67 then (Option.bind (F.law10_awake) (fun (r70 : Bool) => some (.inr (r70)))) else (some (.inr (false))))) else (some (.inr (false)))) else (some (.inr (false)))) else (some (.inr (false)))) else (some (.inl ())))) (fun x => F.law10_GuardReads.r3 x0 r21_s9 l44 l48 x51 x52 x53 x54 x55 x56 x57 r58))
def F.law10_GuardReads.r1 (x0 : ByteArray) (r21_s1 : disk_Disk) (r21_s9 : guard_Guard) : Option (Bool) :=
  thru (if (x0.size : Int) != 64 then (Option.bind (F.law10_awake) (fun (r35 : Bool) => some (.inr (r35)))) else (Option.bind (F.disk_Disk_Write 2 x0 r21_s1) (fun (r37 : Int × disk_Disk) => if r37.1 != 0 then (Option.bind (F.law10_awake) (fun (r42 : Bool) => some (.inr (r42)))) else (some (.inl (r37.2.sure_, r37.2.wait_, r37.2.off_, r37.2.armed_, r37.2.left_, r37.2.fall_.Keep, r37.2.fall_.Tear, r37.2.acts_, r37.2.falls_)))))) (fun x => F.law10_GuardReads.r2 x0 r21_s9 x.1 x.2.1 x.2.2.1 x.2.2.2.1 x.2.2.2.2.1 x.2.2.2.2.2.1 x.2.2.2.2.2.2.1 x.2.2.2.2.2.2.2.1 x.2.2.2.2.2.2.2.2)
def F.law10_GuardReads (x0 : ByteArray) : Option Bool :=
  Option.bind (F.law10_made 3) (fun (r21 : (Option disk_Disk) × (Option guard_Guard)) => optC r21.1 (optC r21.2 (some (false)) (fun _ => none)) (fun (r21_s1 : disk_Disk) => optC r21.2 (some (false)) (fun (r21_s9 : guard_Guard) => Option.bind (some (())) (fun x => F.law10_GuardReads.r1 x0 r21_s1 r21_s9))))
set_option maxRecDepth 100000 in
set_option maxHeartbeats 4000000 in
theorem c_law10_GuardReads (I : Hl) (x0 : ByteArray) (res : Bool) (hF : F.law10_GuardReads x0 = some res) : Tr Tryd.prog 4 [.string x0] [imm I] (fun r H' => r = .bool res ∧ H' = [imm I]) := by
  unfold F.law10_GuardReads at hF
  refine tr_of_cw (fn := Tryd.f4) Tryd.func4 rfl (Nat.le_of_ble_eq_true rfl) 128 rfl fun F0 w0 => ?_
  refine cw_keep [0] (L' := [(0, .string x0)]) rfl ?_
  refine cw_state (S' := SAT w0 ([imm I] ++ F0)) (fun w hs => hs) ?_
  refine cw_seq ?_
  refine cw_region ?_
  refine ow_vals 1 (j := 1) [0] [(0, .string x0)] rfl (by kernel_rfl) ?_
  refine ow_end rfl ?_
  refine ew_then ?_
  refine cw_seq ?_
  refine cw_region ?_
  obtain ⟨r21, h22, hF⟩ := bind_some hF
  refine ow_pw rfl (pw_call (F := [] ++ F0) rfl rfl rfl rfl rfl rfl rfl (by kernel_rfl) (perm_of_pulls [0] rfl) (c_law10_made _ 3 r21 h22) ?_)
  rintro _ _ (⟨hO, hO1, rfl, rfl⟩ | ⟨r21_s1, r21_b2, r21_p4, r21_c5, r21_b7, hO, hO1, rfl, rfl⟩ | ⟨r21_s1, r21_b2, r21_p4, r21_c5, r21_b7, r21_s9, r21_b10, hO, hO1, rfl, rfl⟩)
  · rw [hO] at hF
    try dsimp only [optC] at hF
    rw [hO1] at hF
    try dsimp only [optC] at hF
    refine nw_H (H' := [imm I] ++ F0) rfl (nw_ow ?_)
    refine ow_vals 5 (j := 6) [0, 3, 4] [(0, .string x0), (3, .pointer none), (4, .pointer none)] rfl (by kernel_rfl) ?_
    refine ow_end rfl ?_
    refine ew_then ?_
    refine cw_seq ?_
    refine cw_seq ?_
    refine cw_region ?_
    refine ow_vals 6 (j := 6) [0, 3, 4, 19] [(0, .string x0), (3, .pointer none), (4, .pointer none), (19, .bool true)] rfl (by kernel_rfl) ?_
    refine ow_end rfl ?_
    refine ew_then ?_
    refine cw_cond_t rfl rfl rfl ?_
    refine cw_seq ?_
    refine cw_region ?_
    refine ow_vals 1 (j := 1) [2] [(2, .bool false)] rfl (by kernel_rfl) ?_
    refine ow_end rfl ?_
    refine ew_then ?_
    refine cw_ret ?_
    refine ew_then_ret ?_
    have hR := Option.some.inj hF
    subst hR
    exact fin1 (H1 := [imm I]) (fun w hs => sat_to [0] 0 rfl hs) rfl (rr_tmp rfl) ⟨rfl, rfl⟩
  · rw [hO] at hF
    try dsimp only [optC] at hF
    rw [hO1] at hF
    try dsimp only [optC] at hF
    refine nw_H (H' := [imm I, pt r21_b2 #[.slice r21_p4 r21_s1.sure_.length r21_c5, .map (some r21_b7), .bool r21_s1.off_, .bool r21_s1.armed_, .int .i64 r21_s1.left_, .int .u64 r21_s1.fall_.Keep, .int .i64 r21_s1.fall_.Tear, .int .i64 r21_s1.acts_, .int .i64 r21_s1.falls_] 68, own e_disk_sector 70 r21_p4 r21_c5 r21_s1.sure_, mpo (kInt .i64) (fun x : disk_sector => Value.agg #[.string x.s_, .int .i64 x.at_]) r21_b7 r21_s1.wait_] ++ F0) rfl (nw_ow ?_)
    refine ow_vals 5 (j := 6) [0, 3, 4] [(0, .string x0), (3, .pointer (some ⟨r21_b2, 0, none⟩)), (4, .pointer none)] rfl (by kernel_rfl) ?_
    refine ow_end rfl ?_
    refine ew_then ?_
    refine cw_seq ?_
    refine cw_seq ?_
    refine cw_region ?_
    refine ow_vals 6 (j := 6) [0, 3, 4, 19] [(0, .string x0), (3, .pointer (some ⟨r21_b2, 0, none⟩)), (4, .pointer none), (19, .bool true)] rfl (by kernel_rfl) ?_
    refine ow_end rfl ?_
    refine ew_then ?_
    refine cw_cond_t rfl rfl rfl ?_
    refine cw_seq ?_
    refine cw_region ?_
    refine ow_vals 1 (j := 1) [2] [(2, .bool false)] rfl (by kernel_rfl) ?_
    refine ow_end rfl ?_
    refine ew_then ?_
    refine cw_ret ?_
    refine ew_then_ret ?_
    have hR := Option.some.inj hF
    subst hR
    exact fin1 (H1 := [imm I]) (fun w hs => sat_to [1, 1, 1, 0] 3 rfl hs) rfl (rr_tmp rfl) ⟨rfl, rfl⟩
  · rw [hO] at hF
    try dsimp only [optC] at hF
    rw [hO1] at hF
    try dsimp only [optC] at hF
    refine nw_H (H' := [imm I, pt r21_b2 #[.slice r21_p4 r21_s1.sure_.length r21_c5, .map (some r21_b7), .bool r21_s1.off_, .bool r21_s1.armed_, .int .i64 r21_s1.left_, .int .u64 r21_s1.fall_.Keep, .int .i64 r21_s1.fall_.Tear, .int .i64 r21_s1.acts_, .int .i64 r21_s1.falls_] 68, pt r21_b10 #[.pointer (some ⟨r21_b2, 0, none⟩), .int .i64 r21_s9.boot_, .int .i64 r21_s9.n_] 47, own e_disk_sector 70 r21_p4 r21_c5 r21_s1.sure_, mpo (kInt .i64) (fun x : disk_sector => Value.agg #[.string x.s_, .int .i64 x.at_]) r21_b7 r21_s1.wait_] ++ F0) rfl (nw_ow ?_)
    refine ow_vals 5 (j := 6) [0, 3, 4] [(0, .string x0), (3, .pointer (some ⟨r21_b2, 0, none⟩)), (4, .pointer (some ⟨r21_b10, 0, none⟩))] rfl (by kernel_rfl) ?_
    refine ow_end rfl ?_
    refine ew_then ?_
    obtain ⟨v32, hF, hK32⟩ := bind_some hF
    refine cw_mid (fun a w => () = v32 ∧ Fr 128 [(0, .string x0), (3, .pointer (some ⟨r21_b2, 0, none⟩)), (4, .pointer (some ⟨r21_b10, 0, none⟩))] a ∧ SAT w0 ([imm I, pt r21_b2 #[.slice r21_p4 r21_s1.sure_.length r21_c5, .map (some r21_b7), .bool r21_s1.off_, .bool r21_s1.armed_, .int .i64 r21_s1.left_, .int .u64 r21_s1.fall_.Keep, .int .i64 r21_s1.fall_.Tear, .int .i64 r21_s1.acts_, .int .i64 r21_s1.falls_] 68, pt r21_b10 #[.pointer (some ⟨r21_b2, 0, none⟩), .int .i64 r21_s9.boot_, .int .i64 r21_s9.n_] 47, own e_disk_sector 70 r21_p4 r21_c5 r21_s1.sure_, mpo (kInt .i64) (fun x : disk_sector => Value.agg #[.string x.s_, .int .i64 x.at_]) r21_b7 r21_s1.wait_] ++ F0) w) ?_ ?_
    · refine cw_seq ?_
      refine cw_region ?_
      refine ow_vals 6 (j := 6) [0, 3, 4, 19] [(0, .string x0), (3, .pointer (some ⟨r21_b2, 0, none⟩)), (4, .pointer (some ⟨r21_b10, 0, none⟩)), (19, .bool false)] rfl (by kernel_rfl) ?_
      refine ow_end rfl ?_
      refine ew_then ?_
      refine cw_cond_f rfl rfl rfl ?_
      refine cw_skip ?_
      have hR := Option.some.inj hF
      exact fun a w hf hs => ⟨hR, hf.keep [0, 3, 4], sat_to [0, 0, 0, 0, 0] 0 rfl hs⟩
    · rintro a w ⟨hv, hf, hs⟩
      subst hv
      replace hF := hK32
      clear hK32
      try dsimp only at hF
      revert a w
      show CW _ _ _ 128 [(0, .string x0), (3, .pointer (some ⟨r21_b2, 0, none⟩)), (4, .pointer (some ⟨r21_b10, 0, none⟩))] (SAT w0 ([imm I, pt r21_b2 #[.slice r21_p4 r21_s1.sure_.length r21_c5, .map (some r21_b7), .bool r21_s1.off_, .bool r21_s1.armed_, .int .i64 r21_s1.left_, .int .u64 r21_s1.fall_.Keep, .int .i64 r21_s1.fall_.Tear, .int .i64 r21_s1.acts_, .int .i64 r21_s1.falls_] 68, pt r21_b10 #[.pointer (some ⟨r21_b2, 0, none⟩), .int .i64 r21_s9.boot_, .int .i64 r21_s9.n_] 47, own e_disk_sector 70 r21_p4 r21_c5 r21_s1.sure_, mpo (kInt .i64) (fun x : disk_sector => Value.agg #[.string x.s_, .int .i64 x.at_]) r21_b7 r21_s1.wait_] ++ F0))
      unfold F.law10_GuardReads.r1 at hF
      obtain ⟨v33, hF, hK33⟩ := thru_some hF
      refine cw_mid (fun a w => ∃ (l44 : List disk_sector), ∃ (l48 : List (Int × disk_sector)), ∃ (x51 : Bool), ∃ (x52 : Bool), ∃ (x53 : Int), ∃ (x54 : Int), ∃ (x55 : Int), ∃ (x56 : Int), ∃ (x57 : Int), ∃ (p45 : Option Addr), ∃ (c46 : Nat), ∃ (b50 : Nat), .inl (l44, l48, x51, x52, x53, x54, x55, x56, x57) = v33 ∧ Fr 128 [(0, .string x0), (3, .pointer (some ⟨r21_b2, 0, none⟩)), (4, .pointer (some ⟨r21_b10, 0, none⟩))] a ∧ SAT w0 ([imm I, pt r21_b2 #[.slice p45 l44.length c46, .map (some b50), .bool x51, .bool x52, .int .i64 x53, .int .u64 x54, .int .i64 x55, .int .i64 x56, .int .i64 x57] 68, pt r21_b10 #[.pointer (some ⟨r21_b2, 0, none⟩), .int .i64 r21_s9.boot_, .int .i64 r21_s9.n_] 47, own e_disk_sector 70 p45 c46 l44, mpo (kInt .i64) (fun x : disk_sector => Value.agg #[.string x.s_, .int .i64 x.at_]) b50 l48] ++ F0) w) ?_ ?_
      · refine cw_seq ?_
        refine cw_region ?_
        refine ow_vals 4 (j := 4) [0, 3, 4, 23] [(0, .string x0), (3, .pointer (some ⟨r21_b2, 0, none⟩)), (4, .pointer (some ⟨r21_b10, 0, none⟩)), (23, .bool ((x0.size : Int) != 64))] rfl (by kernel_rfl) ?_
        rcases if_some hF with ⟨h34, hF⟩ | ⟨h34, hF⟩
        · refine ow_slots (L' := [(0, .string x0), (3, .pointer (some ⟨r21_b2, 0, none⟩)), (4, .pointer (some ⟨r21_b10, 0, none⟩)), (23, .bool true)]) (by rw [h34]) ?_
          refine ow_vals 5 (j := 9) [0, 3, 4, 28] [(0, .string x0), (3, .pointer (some ⟨r21_b2, 0, none⟩)), (4, .pointer (some ⟨r21_b10, 0, none⟩)), (28, .bool true)] rfl (by kernel_rfl) ?_
          refine ow_end rfl ?_
          refine ew_then ?_
          refine cw_cond_t rfl rfl rfl ?_
          refine cw_seq ?_
          refine cw_region ?_
          obtain ⟨r35, h36, hF⟩ := bind_some hF
          refine ow_pw rfl (pw_call (F := [pt r21_b2 #[.slice r21_p4 r21_s1.sure_.length r21_c5, .map (some r21_b7), .bool r21_s1.off_, .bool r21_s1.armed_, .int .i64 r21_s1.left_, .int .u64 r21_s1.fall_.Keep, .int .i64 r21_s1.fall_.Tear, .int .i64 r21_s1.acts_, .int .i64 r21_s1.falls_] 68, pt r21_b10 #[.pointer (some ⟨r21_b2, 0, none⟩), .int .i64 r21_s9.boot_, .int .i64 r21_s9.n_] 47, own e_disk_sector 70 r21_p4 r21_c5 r21_s1.sure_, mpo (kInt .i64) (fun x : disk_sector => Value.agg #[.string x.s_, .int .i64 x.at_]) r21_b7 r21_s1.wait_] ++ F0) rfl rfl rfl rfl rfl rfl rfl (by kernel_rfl) (perm_of_pulls [0] rfl) (c_law10_awake _ r35 h36) ?_)
          rintro _ _ ⟨rfl, rfl⟩
          refine nw_H (H' := [imm I, pt r21_b2 #[.slice r21_p4 r21_s1.sure_.length r21_c5, .map (some r21_b7), .bool r21_s1.off_, .bool r21_s1.armed_, .int .i64 r21_s1.left_, .int .u64 r21_s1.fall_.Keep, .int .i64 r21_s1.fall_.Tear, .int .i64 r21_s1.acts_, .int .i64 r21_s1.falls_] 68, pt r21_b10 #[.pointer (some ⟨r21_b2, 0, none⟩), .int .i64 r21_s9.boot_, .int .i64 r21_s9.n_] 47, own e_disk_sector 70 r21_p4 r21_c5 r21_s1.sure_, mpo (kInt .i64) (fun x : disk_sector => Value.agg #[.string x.s_, .int .i64 x.at_]) r21_b7 r21_s1.wait_] ++ F0) rfl (nw_ow ?_)
          refine ow_vals 1 (j := 2) [2] [(2, .bool r35)] rfl (by kernel_rfl) ?_
          refine ow_end rfl ?_
          refine ew_then ?_
          refine cw_ret ?_
          refine ew_then_ret ?_
          have hR := Option.some.inj hF
          subst hR
          have hR := hK33
          try dsimp only [Thru] at hR
          subst hR
          exact fin1 (H1 := [imm I]) (fun w hs => sat_to [1, 1, 1, 1, 0] 4 rfl hs) rfl (rr_tmp rfl) ⟨rfl, rfl⟩
        · refine ow_slots (L' := [(0, .string x0), (3, .pointer (some ⟨r21_b2, 0, none⟩)), (4, .pointer (some ⟨r21_b10, 0, none⟩)), (23, .bool false)]) (by rw [h34]) ?_
          refine ow_vals 2 (j := 6) [0, 3, 4, 23, 24, 25] [(0, .string x0), (3, .pointer (some ⟨r21_b2, 0, none⟩)), (4, .pointer (some ⟨r21_b10, 0, none⟩)), (23, .bool false), (24, .pointer (some ⟨r21_b2, 0, none⟩)), (25, .string x0)] rfl (by kernel_rfl) ?_
          obtain ⟨r37, h38, hF⟩ := bind_some hF
          refine ow_pw rfl (pw_call (F := [pt r21_b10 #[.pointer (some ⟨r21_b2, 0, none⟩), .int .i64 r21_s9.boot_, .int .i64 r21_s9.n_] 47] ++ F0) rfl rfl rfl rfl rfl rfl rfl (by kernel_rfl) (perm_of_pulls [0, 0, 1, 1] rfl) (c_disk_Disk_Write _ 2 x0 r21_s1 r21_p4 r21_c5 r21_b7 r21_b2 r37 h38) ?_)
          rintro _ _ ⟨r37_p1, r37_c2, r37_b4, rfl, rfl⟩
          refine nw_H (H' := [imm I, pt r21_b2 #[.slice r37_p1 r37.2.sure_.length r37_c2, .map (some r37_b4), .bool r37.2.off_, .bool r37.2.armed_, .int .i64 r37.2.left_, .int .u64 r37.2.fall_.Keep, .int .i64 r37.2.fall_.Tear, .int .i64 r37.2.acts_, .int .i64 r37.2.falls_] 68, own e_disk_sector 70 r37_p1 r37_c2 r37.2.sure_, mpo (kInt .i64) (fun x : disk_sector => Value.agg #[.string x.s_, .int .i64 x.at_]) r37_b4 r37.2.wait_, pt r21_b10 #[.pointer (some ⟨r21_b2, 0, none⟩), .int .i64 r21_s9.boot_, .int .i64 r21_s9.n_] 47] ++ F0) rfl (nw_ow ?_)
          refine ow_vals 2 (j := 9) [0, 3, 4, 28] [(0, .string x0), (3, .pointer (some ⟨r21_b2, 0, none⟩)), (4, .pointer (some ⟨r21_b10, 0, none⟩)), (28, .bool (r37.1 != 0))] rfl (by kernel_rfl) ?_
          refine ow_end rfl ?_
          refine ew_then ?_
          rcases if_some hF with ⟨h41, hF⟩ | ⟨h41, hF⟩
          · refine cw_cond_t rfl rfl h41 ?_
            refine cw_seq ?_
            refine cw_region ?_
            obtain ⟨r42, h43, hF⟩ := bind_some hF
            refine ow_pw rfl (pw_call (F := [pt r21_b2 #[.slice r37_p1 r37.2.sure_.length r37_c2, .map (some r37_b4), .bool r37.2.off_, .bool r37.2.armed_, .int .i64 r37.2.left_, .int .u64 r37.2.fall_.Keep, .int .i64 r37.2.fall_.Tear, .int .i64 r37.2.acts_, .int .i64 r37.2.falls_] 68, own e_disk_sector 70 r37_p1 r37_c2 r37.2.sure_, mpo (kInt .i64) (fun x : disk_sector => Value.agg #[.string x.s_, .int .i64 x.at_]) r37_b4 r37.2.wait_, pt r21_b10 #[.pointer (some ⟨r21_b2, 0, none⟩), .int .i64 r21_s9.boot_, .int .i64 r21_s9.n_] 47] ++ F0) rfl rfl rfl rfl rfl rfl rfl (by kernel_rfl) (perm_of_pulls [0] rfl) (c_law10_awake _ r42 h43) ?_)
            rintro _ _ ⟨rfl, rfl⟩
            refine nw_H (H' := [imm I, pt r21_b2 #[.slice r37_p1 r37.2.sure_.length r37_c2, .map (some r37_b4), .bool r37.2.off_, .bool r37.2.armed_, .int .i64 r37.2.left_, .int .u64 r37.2.fall_.Keep, .int .i64 r37.2.fall_.Tear, .int .i64 r37.2.acts_, .int .i64 r37.2.falls_] 68, own e_disk_sector 70 r37_p1 r37_c2 r37.2.sure_, mpo (kInt .i64) (fun x : disk_sector => Value.agg #[.string x.s_, .int .i64 x.at_]) r37_b4 r37.2.wait_, pt r21_b10 #[.pointer (some ⟨r21_b2, 0, none⟩), .int .i64 r21_s9.boot_, .int .i64 r21_s9.n_] 47] ++ F0) rfl (nw_ow ?_)
            refine ow_vals 1 (j := 2) [2] [(2, .bool r42)] rfl (by kernel_rfl) ?_
            refine ow_end rfl ?_
            refine ew_then ?_
            refine cw_ret ?_
            refine ew_then_ret ?_
            have hR := Option.some.inj hF
            subst hR
            have hR := hK33
            try dsimp only [Thru] at hR
            subst hR
            exact fin1 (H1 := [imm I]) (fun w hs => sat_to [1, 1, 1, 1, 0] 4 rfl hs) rfl (rr_tmp rfl) ⟨rfl, rfl⟩
          · refine cw_cond_f rfl rfl h41 ?_
            refine cw_skip ?_
            have hR := Option.some.inj hF
            exact fun a w hf hs => ⟨r37.2.sure_, r37.2.wait_, r37.2.off_, r37.2.armed_, r37.2.left_, r37.2.fall_.Keep, r37.2.fall_.Tear, r37.2.acts_, r37.2.falls_, r37_p1, r37_c2, r37_b4, hR, hf.keep [0, 3, 4], sat_to [0, 0, 2, 0, 0] 0 rfl hs⟩
      · rintro a w ⟨l44, l48, x51, x52, x53, x54, x55, x56, x57, p45, c46, b50, hv, hf, hs⟩
        subst hv
        replace hF := hK33
        clear hK33
        try dsimp only [Thru] at hF
        revert a w
        show CW _ _ _ 128 [(0, .string x0), (3, .pointer (some ⟨r21_b2, 0, none⟩)), (4, .pointer (some ⟨r21_b10, 0, none⟩))] (SAT w0 ([imm I, pt r21_b2 #[.slice p45 l44.length c46, .map (some b50), .bool x51, .bool x52, .int .i64 x53, .int .u64 x54, .int .i64 x55, .int .i64 x56, .int .i64 x57] 68, pt r21_b10 #[.pointer (some ⟨r21_b2, 0, none⟩), .int .i64 r21_s9.boot_, .int .i64 r21_s9.n_] 47, own e_disk_sector 70 p45 c46 l44, mpo (kInt .i64) (fun x : disk_sector => Value.agg #[.string x.s_, .int .i64 x.at_]) b50 l48] ++ F0))
        unfold F.law10_GuardReads.r2 at hF
        refine cw_seq ?_
        refine cw_region ?_
        refine ow_vals 1 (j := 1) [0, 4, 31] [(0, .string x0), (4, .pointer (some ⟨r21_b10, 0, none⟩)), (31, .pointer (some ⟨r21_b2, 0, none⟩))] rfl (by kernel_rfl) ?_
        obtain ⟨r58, h59, hF⟩ := bind_some hF
        refine ow_pw rfl (pw_call (F := [pt r21_b10 #[.pointer (some ⟨r21_b2, 0, none⟩), .int .i64 r21_s9.boot_, .int .i64 r21_s9.n_] 47] ++ F0) rfl rfl rfl rfl rfl rfl rfl (by kernel_rfl) (perm_of_pulls [0, 0, 1, 1] rfl) (c_guard_Read _ 2 (⟨l44, l48, x51, x52, x53, (⟨x54, x55⟩ : disk_Fall), x56, x57⟩ : disk_Disk) p45 c46 b50 r21_b2 r58 h59) ?_)
        rintro _ _ ⟨rfl, rfl⟩
        refine nw_H (H' := [imm I, pt r21_b2 #[.slice p45 ((⟨l44, l48, x51, x52, x53, (⟨x54, x55⟩ : disk_Fall), x56, x57⟩ : disk_Disk).sure_).length c46, .map (some b50), .bool ((⟨l44, l48, x51, x52, x53, (⟨x54, x55⟩ : disk_Fall), x56, x57⟩ : disk_Disk).off_), .bool ((⟨l44, l48, x51, x52, x53, (⟨x54, x55⟩ : disk_Fall), x56, x57⟩ : disk_Disk).armed_), .int .i64 ((⟨l44, l48, x51, x52, x53, (⟨x54, x55⟩ : disk_Fall), x56, x57⟩ : disk_Disk).left_), .int .u64 ((⟨l44, l48, x51, x52, x53, (⟨x54, x55⟩ : disk_Fall), x56, x57⟩ : disk_Disk).fall_.Keep), .int .i64 ((⟨l44, l48, x51, x52, x53, (⟨x54, x55⟩ : disk_Fall), x56, x57⟩ : disk_Disk).fall_.Tear), .int .i64 ((⟨l44, l48, x51, x52, x53, (⟨x54, x55⟩ : disk_Fall), x56, x57⟩ : disk_Disk).acts_), .int .i64 ((⟨l44, l48, x51, x52, x53, (⟨x54, x55⟩ : disk_Fall), x56, x57⟩ : disk_Disk).falls_)] 68, own e_disk_sector 70 p45 c46 ((⟨l44, l48, x51, x52, x53, (⟨x54, x55⟩ : disk_Fall), x56, x57⟩ : disk_Disk).sure_), mpo (kInt .i64) (fun x : disk_sector => Value.agg #[.string x.s_, .int .i64 x.at_]) b50 ((⟨l44, l48, x51, x52, x53, (⟨x54, x55⟩ : disk_Fall), x56, x57⟩ : disk_Disk).wait_), pt r21_b10 #[.pointer (some ⟨r21_b2, 0, none⟩), .int .i64 r21_s9.boot_, .int .i64 r21_s9.n_] 47] ++ F0) rfl (nw_ow ?_)
        refine ow_vals 7 (j := 9) [0, 4, 5, 6, 7] [(0, .string x0), (4, .pointer (some ⟨r21_b10, 0, none⟩)), (5, .string r58.1), (6, .int .i64 r58.2.1), (7, .int .i64 r58.2.2)] rfl (by kernel_rfl) ?_
        refine ow_end rfl ?_
        refine ew_then ?_
        obtain ⟨v60, hF, hK60⟩ := thru_some hF
        refine cw_mid (fun a w => .inl () = v60 ∧ Fr 128 [(0, .string x0), (4, .pointer (some ⟨r21_b10, 0, none⟩)), (5, .string r58.1), (6, .int .i64 r58.2.1), (7, .int .i64 r58.2.2)] a ∧ SAT w0 ([imm I, pt r21_b2 #[.slice p45 ((⟨l44, l48, x51, x52, x53, (⟨x54, x55⟩ : disk_Fall), x56, x57⟩ : disk_Disk).sure_).length c46, .map (some b50), .bool ((⟨l44, l48, x51, x52, x53, (⟨x54, x55⟩ : disk_Fall), x56, x57⟩ : disk_Disk).off_), .bool ((⟨l44, l48, x51, x52, x53, (⟨x54, x55⟩ : disk_Fall), x56, x57⟩ : disk_Disk).armed_), .int .i64 ((⟨l44, l48, x51, x52, x53, (⟨x54, x55⟩ : disk_Fall), x56, x57⟩ : disk_Disk).left_), .int .u64 ((⟨l44, l48, x51, x52, x53, (⟨x54, x55⟩ : disk_Fall), x56, x57⟩ : disk_Disk).fall_.Keep), .int .i64 ((⟨l44, l48, x51, x52, x53, (⟨x54, x55⟩ : disk_Fall), x56, x57⟩ : disk_Disk).fall_.Tear), .int .i64 ((⟨l44, l48, x51, x52, x53, (⟨x54, x55⟩ : disk_Fall), x56, x57⟩ : disk_Disk).acts_), .int .i64 ((⟨l44, l48, x51, x52, x53, (⟨x54, x55⟩ : disk_Fall), x56, x57⟩ : disk_Disk).falls_)] 68, pt r21_b10 #[.pointer (some ⟨r21_b2, 0, none⟩), .int .i64 r21_s9.boot_, .int .i64 r21_s9.n_] 47, own e_disk_sector 70 p45 c46 ((⟨l44, l48, x51, x52, x53, (⟨x54, x55⟩ : disk_Fall), x56, x57⟩ : disk_Disk).sure_), mpo (kInt .i64) (fun x : disk_sector => Value.agg #[.string x.s_, .int .i64 x.at_]) b50 ((⟨l44, l48, x51, x52, x53, (⟨x54, x55⟩ : disk_Fall), x56, x57⟩ : disk_Disk).wait_)] ++ F0) w) ?_ ?_
        · refine cw_seq ?_
          refine cw_region ?_
          refine ow_vals 1 (j := 1) [0, 4, 5, 6, 7, 36] [(0, .string x0), (4, .pointer (some ⟨r21_b10, 0, none⟩)), (5, .string r58.1), (6, .int .i64 r58.2.1), (7, .int .i64 r58.2.2), (36, .string x0)] rfl (by kernel_rfl) ?_
          obtain ⟨r61, h62, hF⟩ := bind_some hF
          refine ow_pw rfl (pw_call (F := [pt r21_b2 #[.slice p45 ((⟨l44, l48, x51, x52, x53, (⟨x54, x55⟩ : disk_Fall), x56, x57⟩ : disk_Disk).sure_).length c46, .map (some b50), .bool ((⟨l44, l48, x51, x52, x53, (⟨x54, x55⟩ : disk_Fall), x56, x57⟩ : disk_Disk).off_), .bool ((⟨l44, l48, x51, x52, x53, (⟨x54, x55⟩ : disk_Fall), x56, x57⟩ : disk_Disk).armed_), .int .i64 ((⟨l44, l48, x51, x52, x53, (⟨x54, x55⟩ : disk_Fall), x56, x57⟩ : disk_Disk).left_), .int .u64 ((⟨l44, l48, x51, x52, x53, (⟨x54, x55⟩ : disk_Fall), x56, x57⟩ : disk_Disk).fall_.Keep), .int .i64 ((⟨l44, l48, x51, x52, x53, (⟨x54, x55⟩ : disk_Fall), x56, x57⟩ : disk_Disk).fall_.Tear), .int .i64 ((⟨l44, l48, x51, x52, x53, (⟨x54, x55⟩ : disk_Fall), x56, x57⟩ : disk_Disk).acts_), .int .i64 ((⟨l44, l48, x51, x52, x53, (⟨x54, x55⟩ : disk_Fall), x56, x57⟩ : disk_Disk).falls_)] 68, own e_disk_sector 70 p45 c46 ((⟨l44, l48, x51, x52, x53, (⟨x54, x55⟩ : disk_Fall), x56, x57⟩ : disk_Disk).sure_), mpo (kInt .i64) (fun x : disk_sector => Value.agg #[.string x.s_, .int .i64 x.at_]) b50 ((⟨l44, l48, x51, x52, x53, (⟨x54, x55⟩ : disk_Fall), x56, x57⟩ : disk_Disk).wait_), pt r21_b10 #[.pointer (some ⟨r21_b2, 0, none⟩), .int .i64 r21_s9.boot_, .int .i64 r21_s9.n_] 47] ++ F0) rfl rfl rfl rfl rfl rfl rfl (by kernel_rfl) (perm_of_pulls [0] rfl) (c_law10_noughts _ 64 r61 h62) ?_)
          rintro _ _ ⟨rfl, rfl⟩
          refine nw_H (H' := [imm I, pt r21_b2 #[.slice p45 ((⟨l44, l48, x51, x52, x53, (⟨x54, x55⟩ : disk_Fall), x56, x57⟩ : disk_Disk).sure_).length c46, .map (some b50), .bool ((⟨l44, l48, x51, x52, x53, (⟨x54, x55⟩ : disk_Fall), x56, x57⟩ : disk_Disk).off_), .bool ((⟨l44, l48, x51, x52, x53, (⟨x54, x55⟩ : disk_Fall), x56, x57⟩ : disk_Disk).armed_), .int .i64 ((⟨l44, l48, x51, x52, x53, (⟨x54, x55⟩ : disk_Fall), x56, x57⟩ : disk_Disk).left_), .int .u64 ((⟨l44, l48, x51, x52, x53, (⟨x54, x55⟩ : disk_Fall), x56, x57⟩ : disk_Disk).fall_.Keep), .int .i64 ((⟨l44, l48, x51, x52, x53, (⟨x54, x55⟩ : disk_Fall), x56, x57⟩ : disk_Disk).fall_.Tear), .int .i64 ((⟨l44, l48, x51, x52, x53, (⟨x54, x55⟩ : disk_Fall), x56, x57⟩ : disk_Disk).acts_), .int .i64 ((⟨l44, l48, x51, x52, x53, (⟨x54, x55⟩ : disk_Fall), x56, x57⟩ : disk_Disk).falls_)] 68, own e_disk_sector 70 p45 c46 ((⟨l44, l48, x51, x52, x53, (⟨x54, x55⟩ : disk_Fall), x56, x57⟩ : disk_Disk).sure_), mpo (kInt .i64) (fun x : disk_sector => Value.agg #[.string x.s_, .int .i64 x.at_]) b50 ((⟨l44, l48, x51, x52, x53, (⟨x54, x55⟩ : disk_Fall), x56, x57⟩ : disk_Disk).wait_), pt r21_b10 #[.pointer (some ⟨r21_b2, 0, none⟩), .int .i64 r21_s9.boot_, .int .i64 r21_s9.n_] 47] ++ F0) rfl (nw_ow ?_)
          refine ow_vals 1 (j := 3) [0, 4, 5, 6, 7, 38] [(0, .string x0), (4, .pointer (some ⟨r21_b10, 0, none⟩)), (5, .string r58.1), (6, .int .i64 r58.2.1), (7, .int .i64 r58.2.2), (38, .bool (seqB x0 r61))] rfl (by kernel_rfl) ?_
          refine ow_end rfl ?_
          refine ew_then ?_
          rcases if_some hF with ⟨h63, hF⟩ | ⟨h63, hF⟩
          · refine cw_cond_t rfl rfl h63 ?_
            refine cw_seq ?_
            refine cw_region ?_
            refine ow_vals 3 (j := 3) [4, 6, 7, 41] [(4, .pointer (some ⟨r21_b10, 0, none⟩)), (6, .int .i64 r58.2.1), (7, .int .i64 r58.2.2), (41, .bool (seqB r58.1 (ByteArray.mk #[])))] rfl (by kernel_rfl) ?_
            rcases if_some hF with ⟨h64, hF⟩ | ⟨h64, hF⟩
            · refine ow_slots (L' := [(4, .pointer (some ⟨r21_b10, 0, none⟩)), (6, .int .i64 r58.2.1), (7, .int .i64 r58.2.2), (41, .bool true)]) (by rw [h64]) ?_
              refine ow_vals 4 (j := 7) [4, 7, 45] [(4, .pointer (some ⟨r21_b10, 0, none⟩)), (7, .int .i64 r58.2.2), (45, .bool (r58.2.1 == 0))] rfl (by kernel_rfl) ?_
              rcases if_some hF with ⟨h65, hF⟩ | ⟨h65, hF⟩
              · refine ow_slots (L' := [(4, .pointer (some ⟨r21_b10, 0, none⟩)), (7, .int .i64 r58.2.2), (45, .bool true)]) (by rw [h65]) ?_
                refine ow_vals 4 (j := 11) [4, 49] [(4, .pointer (some ⟨r21_b10, 0, none⟩)), (49, .bool (r58.2.2 == 7))] rfl (by kernel_rfl) ?_
                rcases if_some hF with ⟨h66, hF⟩ | ⟨h66, hF⟩
                · refine ow_slots (L' := [(4, .pointer (some ⟨r21_b10, 0, none⟩)), (49, .bool true)]) (by rw [h66]) ?_
                  refine ow_vals 1 (j := 12) [49, 50] [(49, .bool true), (50, .pointer (some ⟨r21_b10, 0, none⟩))] rfl (by kernel_rfl) ?_
                  obtain ⟨r67, h68, hF⟩ := bind_some hF
                  refine ow_pw rfl (pw_call (F := [] ++ F0) rfl rfl rfl rfl rfl rfl rfl (by kernel_rfl) (perm_of_pulls [0, 3, 0, 0, 0] rfl) (c_guard_Guard_Blank _ 2 r21_s9 (⟨l44, l48, x51, x52, x53, (⟨x54, x55⟩ : disk_Fall), x56, x57⟩ : disk_Disk) r21_b10 p45 c46 b50 r21_b2 r67 h68) ?_)
                  rintro _ _ ⟨rfl, rfl⟩
                  refine nw_H (H' := [imm I, pt r21_b10 #[.pointer (some ⟨r21_b2, 0, none⟩), .int .i64 r21_s9.boot_, .int .i64 r21_s9.n_] 47, pt r21_b2 #[.slice p45 ((⟨l44, l48, x51, x52, x53, (⟨x54, x55⟩ : disk_Fall), x56, x57⟩ : disk_Disk).sure_).length c46, .map (some b50), .bool ((⟨l44, l48, x51, x52, x53, (⟨x54, x55⟩ : disk_Fall), x56, x57⟩ : disk_Disk).off_), .bool ((⟨l44, l48, x51, x52, x53, (⟨x54, x55⟩ : disk_Fall), x56, x57⟩ : disk_Disk).armed_), .int .i64 ((⟨l44, l48, x51, x52, x53, (⟨x54, x55⟩ : disk_Fall), x56, x57⟩ : disk_Disk).left_), .int .u64 ((⟨l44, l48, x51, x52, x53, (⟨x54, x55⟩ : disk_Fall), x56, x57⟩ : disk_Disk).fall_.Keep), .int .i64 ((⟨l44, l48, x51, x52, x53, (⟨x54, x55⟩ : disk_Fall), x56, x57⟩ : disk_Disk).fall_.Tear), .int .i64 ((⟨l44, l48, x51, x52, x53, (⟨x54, x55⟩ : disk_Fall), x56, x57⟩ : disk_Disk).acts_), .int .i64 ((⟨l44, l48, x51, x52, x53, (⟨x54, x55⟩ : disk_Fall), x56, x57⟩ : disk_Disk).falls_)] 68, own e_disk_sector 70 p45 c46 ((⟨l44, l48, x51, x52, x53, (⟨x54, x55⟩ : disk_Fall), x56, x57⟩ : disk_Disk).sure_), mpo (kInt .i64) (fun x : disk_sector => Value.agg #[.string x.s_, .int .i64 x.at_]) b50 ((⟨l44, l48, x51, x52, x53, (⟨x54, x55⟩ : disk_Fall), x56, x57⟩ : disk_Disk).wait_)] ++ F0) rfl (nw_ow ?_)
                  refine ow_vals 2 (j := 15) [53] [(53, .bool r67)] rfl (by kernel_rfl) ?_
                  rcases if_some hF with ⟨h69, hF⟩ | ⟨h69, hF⟩
                  · refine ow_slots (L' := [(53, .bool true)]) (by rw [h69]) ?_
                    obtain ⟨r70, h71, hF⟩ := bind_some hF
                    refine ow_pw rfl (pw_call (F := [pt r21_b10 #[.pointer (some ⟨r21_b2, 0, none⟩), .int .i64 r21_s9.boot_, .int .i64 r21_s9.n_] 47, pt r21_b2 #[.slice p45 ((⟨l44, l48, x51, x52, x53, (⟨x54, x55⟩ : disk_Fall), x56, x57⟩ : disk_Disk).sure_).length c46, .map (some b50), .bool ((⟨l44, l48, x51, x52, x53, (⟨x54, x55⟩ : disk_Fall), x56, x57⟩ : disk_Disk).off_), .bool ((⟨l44, l48, x51, x52, x53, (⟨x54, x55⟩ : disk_Fall), x56, x57⟩ : disk_Disk).armed_), .int .i64 ((⟨l44, l48, x51, x52, x53, (⟨x54, x55⟩ : disk_Fall), x56, x57⟩ : disk_Disk).left_), .int .u64 ((⟨l44, l48, x51, x52, x53, (⟨x54, x55⟩ : disk_Fall), x56, x57⟩ : disk_Disk).fall_.Keep), .int .i64 ((⟨l44, l48, x51, x52, x53, (⟨x54, x55⟩ : disk_Fall), x56, x57⟩ : disk_Disk).fall_.Tear), .int .i64 ((⟨l44, l48, x51, x52, x53, (⟨x54, x55⟩ : disk_Fall), x56, x57⟩ : disk_Disk).acts_), .int .i64 ((⟨l44, l48, x51, x52, x53, (⟨x54, x55⟩ : disk_Fall), x56, x57⟩ : disk_Disk).falls_)] 68, own e_disk_sector 70 p45 c46 ((⟨l44, l48, x51, x52, x53, (⟨x54, x55⟩ : disk_Fall), x56, x57⟩ : disk_Disk).sure_), mpo (kInt .i64) (fun x : disk_sector => Value.agg #[.string x.s_, .int .i64 x.at_]) b50 ((⟨l44, l48, x51, x52, x53, (⟨x54, x55⟩ : disk_Fall), x56, x57⟩ : disk_Disk).wait_)] ++ F0) rfl rfl rfl rfl rfl rfl rfl (by kernel_rfl) (perm_of_pulls [0] rfl) (c_law10_awake _ r70 h71) ?_)
                    rintro _ _ ⟨rfl, rfl⟩
                    refine nw_H (H' := [imm I, pt r21_b10 #[.pointer (some ⟨r21_b2, 0, none⟩), .int .i64 r21_s9.boot_, .int .i64 r21_s9.n_] 47, pt r21_b2 #[.slice p45 ((⟨l44, l48, x51, x52, x53, (⟨x54, x55⟩ : disk_Fall), x56, x57⟩ : disk_Disk).sure_).length c46, .map (some b50), .bool ((⟨l44, l48, x51, x52, x53, (⟨x54, x55⟩ : disk_Fall), x56, x57⟩ : disk_Disk).off_), .bool ((⟨l44, l48, x51, x52, x53, (⟨x54, x55⟩ : disk_Fall), x56, x57⟩ : disk_Disk).armed_), .int .i64 ((⟨l44, l48, x51, x52, x53, (⟨x54, x55⟩ : disk_Fall), x56, x57⟩ : disk_Disk).left_), .int .u64 ((⟨l44, l48, x51, x52, x53, (⟨x54, x55⟩ : disk_Fall), x56, x57⟩ : disk_Disk).fall_.Keep), .int .i64 ((⟨l44, l48, x51, x52, x53, (⟨x54, x55⟩ : disk_Fall), x56, x57⟩ : disk_Disk).fall_.Tear), .int .i64 ((⟨l44, l48, x51, x52, x53, (⟨x54, x55⟩ : disk_Fall), x56, x57⟩ : disk_Disk).acts_), .int .i64 ((⟨l44, l48, x51, x52, x53, (⟨x54, x55⟩ : disk_Fall), x56, x57⟩ : disk_Disk).falls_)] 68, own e_disk_sector 70 p45 c46 ((⟨l44, l48, x51, x52, x53, (⟨x54, x55⟩ : disk_Fall), x56, x57⟩ : disk_Disk).sure_), mpo (kInt .i64) (fun x : disk_sector => Value.agg #[.string x.s_, .int .i64 x.at_]) b50 ((⟨l44, l48, x51, x52, x53, (⟨x54, x55⟩ : disk_Fall), x56, x57⟩ : disk_Disk).wait_)] ++ F0) rfl (nw_ow ?_)
                    refine ow_vals 2 (j := 18) [2] [(2, .bool r70)] rfl (by kernel_rfl) ?_
                    refine ow_end rfl ?_
                    refine ew_then ?_
                    refine cw_ret ?_
                    refine ew_then_ret ?_
                    have hR := Option.some.inj hF
                    subst hR
                    have hR := hK60
                    try dsimp only [Thru] at hR
                    subst hR
                    exact fin1 (H1 := [imm I]) (fun w hs => sat_to [1, 1, 1, 1, 0] 4 rfl hs) rfl (rr_tmp rfl) ⟨rfl, rfl⟩
                  · refine ow_slots (L' := [(53, .bool false)]) (by rw [h69]) ?_
                    refine ow_vals 3 (j := 18) [2] [(2, .bool false)] rfl (by kernel_rfl) ?_
                    refine ow_end rfl ?_
                    refine ew_then ?_
                    refine cw_ret ?_
                    refine ew_then_ret ?_
                    have hR := Option.some.inj hF
                    subst hR
                    have hR := hK60
                    try dsimp only [Thru] at hR
                    subst hR
                    exact fin1 (H1 := [imm I]) (fun w hs => sat_to [1, 1, 1, 1, 0] 4 rfl hs) rfl (rr_tmp rfl) ⟨rfl, rfl⟩
                · refine ow_slots (L' := [(4, .pointer (some ⟨r21_b10, 0, none⟩)), (49, .bool false)]) (by rw [h66]) ?_
                  refine ow_vals 7 (j := 18) [2] [(2, .bool false)] rfl (by kernel_rfl) ?_
                  refine ow_end rfl ?_
                  refine ew_then ?_
                  refine cw_ret ?_
                  refine ew_then_ret ?_
                  have hR := Option.some.inj hF
                  subst hR
                  have hR := hK60
                  try dsimp only [Thru] at hR
                  subst hR
                  exact fin1 (H1 := [imm I]) (fun w hs => sat_to [1, 1, 1, 1, 0] 4 rfl hs) rfl (rr_tmp rfl) ⟨rfl, rfl⟩
              · refine ow_slots (L' := [(4, .pointer (some ⟨r21_b10, 0, none⟩)), (7, .int .i64 r58.2.2), (45, .bool false)]) (by rw [h65]) ?_
                refine ow_vals 11 (j := 18) [2] [(2, .bool false)] rfl (by kernel_rfl) ?_
                refine ow_end rfl ?_
                refine ew_then ?_
                refine cw_ret ?_
                refine ew_then_ret ?_
                have hR := Option.some.inj hF
                subst hR
                have hR := hK60
                try dsimp only [Thru] at hR
                subst hR
                exact fin1 (H1 := [imm I]) (fun w hs => sat_to [1, 1, 1, 1, 0] 4 rfl hs) rfl (rr_tmp rfl) ⟨rfl, rfl⟩
            · refine ow_slots (L' := [(4, .pointer (some ⟨r21_b10, 0, none⟩)), (6, .int .i64 r58.2.1), (7, .int .i64 r58.2.2), (41, .bool false)]) (by rw [h64]) ?_
              refine ow_vals 15 (j := 18) [2] [(2, .bool false)] rfl (by kernel_rfl) ?_
              refine ow_end rfl ?_
              refine ew_then ?_
              refine cw_ret ?_
              refine ew_then_ret ?_
              have hR := Option.some.inj hF
              subst hR
              have hR := hK60
              try dsimp only [Thru] at hR
              subst hR
              exact fin1 (H1 := [imm I]) (fun w hs => sat_to [1, 1, 1, 1, 0] 4 rfl hs) rfl (rr_tmp rfl) ⟨rfl, rfl⟩
          · refine cw_cond_f rfl rfl h63 ?_
            refine cw_skip ?_
            have hR := Option.some.inj hF
            exact fun a w hf hs => ⟨hR, hf.keep [0, 4, 5, 6, 7], sat_to [0, 0, 2, 0, 0] 0 rfl hs⟩
        · rintro a w ⟨hv, hf, hs⟩
          subst hv
          replace hF := hK60
          clear hK60
          try dsimp only [Thru] at hF
          revert a w
          show CW _ _ _ 128 [(0, .string x0), (4, .pointer (some ⟨r21_b10, 0, none⟩)), (5, .string r58.1), (6, .int .i64 r58.2.1), (7, .int .i64 r58.2.2)] (SAT w0 ([imm I, pt r21_b2 #[.slice p45 ((⟨l44, l48, x51, x52, x53, (⟨x54, x55⟩ : disk_Fall), x56, x57⟩ : disk_Disk).sure_).length c46, .map (some b50), .bool ((⟨l44, l48, x51, x52, x53, (⟨x54, x55⟩ : disk_Fall), x56, x57⟩ : disk_Disk).off_), .bool ((⟨l44, l48, x51, x52, x53, (⟨x54, x55⟩ : disk_Fall), x56, x57⟩ : disk_Disk).armed_), .int .i64 ((⟨l44, l48, x51, x52, x53, (⟨x54, x55⟩ : disk_Fall), x56, x57⟩ : disk_Disk).left_), .int .u64 ((⟨l44, l48, x51, x52, x53, (⟨x54, x55⟩ : disk_Fall), x56, x57⟩ : disk_Disk).fall_.Keep), .int .i64 ((⟨l44, l48, x51, x52, x53, (⟨x54, x55⟩ : disk_Fall), x56, x57⟩ : disk_Disk).fall_.Tear), .int .i64 ((⟨l44, l48, x51, x52, x53, (⟨x54, x55⟩ : disk_Fall), x56, x57⟩ : disk_Disk).acts_), .int .i64 ((⟨l44, l48, x51, x52, x53, (⟨x54, x55⟩ : disk_Fall), x56, x57⟩ : disk_Disk).falls_)] 68, pt r21_b10 #[.pointer (some ⟨r21_b2, 0, none⟩), .int .i64 r21_s9.boot_, .int .i64 r21_s9.n_] 47, own e_disk_sector 70 p45 c46 ((⟨l44, l48, x51, x52, x53, (⟨x54, x55⟩ : disk_Fall), x56, x57⟩ : disk_Disk).sure_), mpo (kInt .i64) (fun x : disk_sector => Value.agg #[.string x.s_, .int .i64 x.at_]) b50 ((⟨l44, l48, x51, x52, x53, (⟨x54, x55⟩ : disk_Fall), x56, x57⟩ : disk_Disk).wait_)] ++ F0))
          unfold F.law10_GuardReads.r3 at hF
          refine cw_seq ?_
          refine cw_region ?_
          refine ow_vals 1 (j := 1) [0, 4, 5, 6, 7, 56] [(0, .string x0), (4, .pointer (some ⟨r21_b10, 0, none⟩)), (5, .string r58.1), (6, .int .i64 r58.2.1), (7, .int .i64 r58.2.2), (56, .string x0)] rfl (by kernel_rfl) ?_
          obtain ⟨h72, hF⟩ := chk_some hF
          refine ow_pw rfl (pw_quiet (v := .int .u8 (bt x0 8)) rfl rfl rfl rfl (q_index_str rfl (by kernel_rfl) rfl rfl h72.1 h72.2) (nw_ow ?_))
          refine ow_vals 2 (j := 4) [0, 4, 5, 6, 7, 8] [(0, .string x0), (4, .pointer (some ⟨r21_b10, 0, none⟩)), (5, .string r58.1), (6, .int .i64 r58.2.1), (7, .int .i64 r58.2.2), (8, .int .i64 (IntKind.i64.wrap (bt x0 8)))] rfl (by kernel_rfl) ?_
          refine ow_end rfl ?_
          refine ew_then ?_
          obtain ⟨v73, hF, hK73⟩ := bind_some hF
          refine cw_mid (fun a w => ∃ (x83 : Bool), x83 = v73 ∧ Fr 128 [(0, .string x0), (4, .pointer (some ⟨r21_b10, 0, none⟩)), (5, .string r58.1), (6, .int .i64 r58.2.1), (7, .int .i64 r58.2.2), (8, .int .i64 (IntKind.i64.wrap (bt x0 8))), (9, .bool x83)] a ∧ SAT w0 ([imm I, pt r21_b2 #[.slice p45 ((⟨l44, l48, x51, x52, x53, (⟨x54, x55⟩ : disk_Fall), x56, x57⟩ : disk_Disk).sure_).length c46, .map (some b50), .bool ((⟨l44, l48, x51, x52, x53, (⟨x54, x55⟩ : disk_Fall), x56, x57⟩ : disk_Disk).off_), .bool ((⟨l44, l48, x51, x52, x53, (⟨x54, x55⟩ : disk_Fall), x56, x57⟩ : disk_Disk).armed_), .int .i64 ((⟨l44, l48, x51, x52, x53, (⟨x54, x55⟩ : disk_Fall), x56, x57⟩ : disk_Disk).left_), .int .u64 ((⟨l44, l48, x51, x52, x53, (⟨x54, x55⟩ : disk_Fall), x56, x57⟩ : disk_Disk).fall_.Keep), .int .i64 ((⟨l44, l48, x51, x52, x53, (⟨x54, x55⟩ : disk_Fall), x56, x57⟩ : disk_Disk).fall_.Tear), .int .i64 ((⟨l44, l48, x51, x52, x53, (⟨x54, x55⟩ : disk_Fall), x56, x57⟩ : disk_Disk).acts_), .int .i64 ((⟨l44, l48, x51, x52, x53, (⟨x54, x55⟩ : disk_Fall), x56, x57⟩ : disk_Disk).falls_)] 68, pt r21_b10 #[.pointer (some ⟨r21_b2, 0, none⟩), .int .i64 r21_s9.boot_, .int .i64 r21_s9.n_] 47, own e_disk_sector 70 p45 c46 ((⟨l44, l48, x51, x52, x53, (⟨x54, x55⟩ : disk_Fall), x56, x57⟩ : disk_Disk).sure_), mpo (kInt .i64) (fun x : disk_sector => Value.agg #[.string x.s_, .int .i64 x.at_]) b50 ((⟨l44, l48, x51, x52, x53, (⟨x54, x55⟩ : disk_Fall), x56, x57⟩ : disk_Disk).wait_)] ++ F0) w) ?_ ?_
          · refine cw_open 21 (SAT w0 ([imm I, pt r21_b2 #[.slice p45 ((⟨l44, l48, x51, x52, x53, (⟨x54, x55⟩ : disk_Fall), x56, x57⟩ : disk_Disk).sure_).length c46, .map (some b50), .bool ((⟨l44, l48, x51, x52, x53, (⟨x54, x55⟩ : disk_Fall), x56, x57⟩ : disk_Disk).off_), .bool ((⟨l44, l48, x51, x52, x53, (⟨x54, x55⟩ : disk_Fall), x56, x57⟩ : disk_Disk).armed_), .int .i64 ((⟨l44, l48, x51, x52, x53, (⟨x54, x55⟩ : disk_Fall), x56, x57⟩ : disk_Disk).left_), .int .u64 ((⟨l44, l48, x51, x52, x53, (⟨x54, x55⟩ : disk_Fall), x56, x57⟩ : disk_Disk).fall_.Keep), .int .i64 ((⟨l44, l48, x51, x52, x53, (⟨x54, x55⟩ : disk_Fall), x56, x57⟩ : disk_Disk).fall_.Tear), .int .i64 ((⟨l44, l48, x51, x52, x53, (⟨x54, x55⟩ : disk_Fall), x56, x57⟩ : disk_Disk).acts_), .int .i64 ((⟨l44, l48, x51, x52, x53, (⟨x54, x55⟩ : disk_Fall), x56, x57⟩ : disk_Disk).falls_)] 68, pt r21_b10 #[.pointer (some ⟨r21_b2, 0, none⟩), .int .i64 r21_s9.boot_, .int .i64 r21_s9.n_] 47, own e_disk_sector 70 p45 c46 ((⟨l44, l48, x51, x52, x53, (⟨x54, x55⟩ : disk_Fall), x56, x57⟩ : disk_Disk).sure_), mpo (kInt .i64) (fun x : disk_sector => Value.agg #[.string x.s_, .int .i64 x.at_]) b50 ((⟨l44, l48, x51, x52, x53, (⟨x54, x55⟩ : disk_Fall), x56, x57⟩ : disk_Disk).wait_)])) (by kernel_rfl) (f := 21) rfl (fun w hs => sat_drew hs) ?_
            refine aw_vals [0, 2] (f' := 19) (m' := 5) [0, 4, 5, 6, 7, 8, 59, 61] [(0, .string x0), (4, .pointer (some ⟨r21_b10, 0, none⟩)), (5, .string r58.1), (6, .int .i64 r58.2.1), (7, .int .i64 r58.2.2), (8, .int .i64 (IntKind.i64.wrap (bt x0 8))), (59, .string x0), (61, .string x0)] (fun _ _ _ _ _ h => calm_fin (P := Tryd.prog) (fn := Tryd.f4) _ _ _ _ _ h) (fun w hs => sat_pulls [0, 0, 0, 0, 0] (G := [] ++ F0) rfl hs) rfl (by kernel_rfl) ?_
            obtain ⟨h74, hF⟩ := chk_some hF
            refine aw_pure 1 (m' := 7) (v := .string (x0.extract (0 : Int).toNat (8 : Int).toNat)) rfl rfl rfl rfl (by kernel_rfl) (by kernel_rfl) (fun _ _ _ _ _ h => calm_fin (P := Tryd.prog) (fn := Tryd.f4) _ _ _ _ _ h) (fun w hs => sat_pulls [0, 0, 0, 0, 0] (G := [] ++ F0) rfl hs) (q_slice_str rfl (by kernel_rfl) rfl rfl rfl h74.1 h74.2.1 h74.2.2) ?_
            obtain ⟨h75, hF⟩ := chk_some hF
            refine aw_pure 3 (m' := 15) (v := .string (x0.extract (56 : Int).toNat (x0.size : Int).toNat)) rfl rfl rfl rfl (by kernel_rfl) (by kernel_rfl) (fun _ _ _ _ _ h => calm_fin (P := Tryd.prog) (fn := Tryd.f4) _ _ _ _ _ h) (fun w hs => sat_pulls [0, 0, 0, 0, 0] (G := [] ++ F0) rfl hs) (q_slice_str rfl (by kernel_rfl) rfl rfl rfl h75.1 h75.2.1 h75.2.2) ?_
            refine aw_vals [4, 5] (f' := 15) (m' := 63) [0, 4, 5, 6, 7, 8, 64] [(0, .string x0), (4, .pointer (some ⟨r21_b10, 0, none⟩)), (5, .string r58.1), (6, .int .i64 r58.2.1), (7, .int .i64 r58.2.2), (8, .int .i64 (IntKind.i64.wrap (bt x0 8))), (64, .bool (seqB (x0.extract (0 : Int).toNat (8 : Int).toNat) (x0.extract (56 : Int).toNat (x0.size : Int).toNat)))] (fun _ _ _ _ _ h => calm_fin (P := Tryd.prog) (fn := Tryd.f4) _ _ _ _ _ h) (fun w hs => sat_pulls [0, 0, 0, 0, 0] (G := [] ++ F0) rfl hs) rfl (by kernel_rfl) ?_
            rcases if_some hF with ⟨h76, hF⟩ | ⟨h76, hF⟩
            · refine aw_slots (L' := [(0, .string x0), (4, .pointer (some ⟨r21_b10, 0, none⟩)), (5, .string r58.1), (6, .int .i64 r58.2.1), (7, .int .i64 r58.2.2), (8, .int .i64 (IntKind.i64.wrap (bt x0 8))), (64, .bool true)]) (by rw [h76]) ?_
              refine aw_vals [6] (f' := 14) (m' := 127) [0, 4, 5, 6, 7, 8, 64, 65] [(0, .string x0), (4, .pointer (some ⟨r21_b10, 0, none⟩)), (5, .string r58.1), (6, .int .i64 r58.2.1), (7, .int .i64 r58.2.2), (8, .int .i64 (IntKind.i64.wrap (bt x0 8))), (64, .bool true), (65, .string x0)] (fun _ _ _ _ _ h => calm_fin (P := Tryd.prog) (fn := Tryd.f4) _ _ _ _ _ h) (fun w hs => sat_pulls [0, 0, 0, 0, 0] (G := [] ++ F0) rfl hs) rfl (by kernel_rfl) ?_
              obtain ⟨h77, hF⟩ := chk_some hF
              refine aw_pure 7 (m' := 255) (v := .int .u8 (bt x0 0)) rfl rfl rfl rfl (by kernel_rfl) (by kernel_rfl) (fun _ _ _ _ _ h => calm_fin (P := Tryd.prog) (fn := Tryd.f4) _ _ _ _ _ h) (fun w hs => sat_pulls [0, 0, 0, 0, 0] (G := [] ++ F0) rfl hs) (q_index_str rfl (by kernel_rfl) rfl rfl h77.1 h77.2) ?_
              refine aw_vals [8, 9, 10] (f' := 10) (m' := 2047) [0, 4, 5, 6, 7, 8, 69] [(0, .string x0), (4, .pointer (some ⟨r21_b10, 0, none⟩)), (5, .string r58.1), (6, .int .i64 r58.2.1), (7, .int .i64 r58.2.2), (8, .int .i64 (IntKind.i64.wrap (bt x0 8))), (69, .bool (decide ((bt x0 0) < 128)))] (fun _ _ _ _ _ h => calm_fin (P := Tryd.prog) (fn := Tryd.f4) _ _ _ _ _ h) (fun w hs => sat_pulls [0, 0, 0, 0, 0] (G := [] ++ F0) rfl hs) rfl (by kernel_rfl) ?_
              rcases if_some hF with ⟨h78, hF⟩ | ⟨h78, hF⟩
              · refine aw_slots (L' := [(0, .string x0), (4, .pointer (some ⟨r21_b10, 0, none⟩)), (5, .string r58.1), (6, .int .i64 r58.2.1), (7, .int .i64 r58.2.2), (8, .int .i64 (IntKind.i64.wrap (bt x0 8))), (69, .bool true)]) (by rw [h78]) ?_
                refine aw_vals [11] (f' := 9) (m' := 4095) [0, 4, 5, 6, 7, 8, 69, 70] [(0, .string x0), (4, .pointer (some ⟨r21_b10, 0, none⟩)), (5, .string r58.1), (6, .int .i64 r58.2.1), (7, .int .i64 r58.2.2), (8, .int .i64 (IntKind.i64.wrap (bt x0 8))), (69, .bool true), (70, .string x0)] (fun _ _ _ _ _ h => calm_fin (P := Tryd.prog) (fn := Tryd.f4) _ _ _ _ _ h) (fun w hs => sat_pulls [0, 0, 0, 0, 0] (G := [] ++ F0) rfl hs) rfl (by kernel_rfl) ?_
                obtain ⟨h79, hF⟩ := chk_some hF
                refine aw_pure 12 (m' := 8191) (v := .string (x0.extract (0 : Int).toNat (4 : Int).toNat)) rfl rfl rfl rfl (by kernel_rfl) (by kernel_rfl) (fun _ _ _ _ _ h => calm_fin (P := Tryd.prog) (fn := Tryd.f4) _ _ _ _ _ h) (fun w hs => sat_pulls [0, 0, 0, 0, 0] (G := [] ++ F0) rfl hs) (q_slice_str rfl (by kernel_rfl) rfl rfl rfl h79.1 h79.2.1 h79.2.2) ?_
                obtain ⟨r80, h81, hF⟩ := bind_some hF
                refine aw_only 13 (m' := 16383) (by kernel_rfl) (by kernel_rfl) (pw_call (F := [pt r21_b2 #[.slice p45 ((⟨l44, l48, x51, x52, x53, (⟨x54, x55⟩ : disk_Fall), x56, x57⟩ : disk_Disk).sure_).length c46, .map (some b50), .bool ((⟨l44, l48, x51, x52, x53, (⟨x54, x55⟩ : disk_Fall), x56, x57⟩ : disk_Disk).off_), .bool ((⟨l44, l48, x51, x52, x53, (⟨x54, x55⟩ : disk_Fall), x56, x57⟩ : disk_Disk).armed_), .int .i64 ((⟨l44, l48, x51, x52, x53, (⟨x54, x55⟩ : disk_Fall), x56, x57⟩ : disk_Disk).left_), .int .u64 ((⟨l44, l48, x51, x52, x53, (⟨x54, x55⟩ : disk_Fall), x56, x57⟩ : disk_Disk).fall_.Keep), .int .i64 ((⟨l44, l48, x51, x52, x53, (⟨x54, x55⟩ : disk_Fall), x56, x57⟩ : disk_Disk).fall_.Tear), .int .i64 ((⟨l44, l48, x51, x52, x53, (⟨x54, x55⟩ : disk_Fall), x56, x57⟩ : disk_Disk).acts_), .int .i64 ((⟨l44, l48, x51, x52, x53, (⟨x54, x55⟩ : disk_Fall), x56, x57⟩ : disk_Disk).falls_)] 68, pt r21_b10 #[.pointer (some ⟨r21_b2, 0, none⟩), .int .i64 r21_s9.boot_, .int .i64 r21_s9.n_] 47, own e_disk_sector 70 p45 c46 ((⟨l44, l48, x51, x52, x53, (⟨x54, x55⟩ : disk_Fall), x56, x57⟩ : disk_Disk).sure_), mpo (kInt .i64) (fun x : disk_sector => Value.agg #[.string x.s_, .int .i64 x.at_]) b50 ((⟨l44, l48, x51, x52, x53, (⟨x54, x55⟩ : disk_Fall), x56, x57⟩ : disk_Disk).wait_)] ++ F0) rfl rfl rfl rfl rfl rfl rfl (by kernel_rfl) (perm_of_pulls [0] rfl) (c_law10_noughts _ 4 r80 h81) ?_)
                rintro _ _ ⟨rfl, rfl⟩
                refine nw_H (H' := [imm I, pt r21_b2 #[.slice p45 ((⟨l44, l48, x51, x52, x53, (⟨x54, x55⟩ : disk_Fall), x56, x57⟩ : disk_Disk).sure_).length c46, .map (some b50), .bool ((⟨l44, l48, x51, x52, x53, (⟨x54, x55⟩ : disk_Fall), x56, x57⟩ : disk_Disk).off_), .bool ((⟨l44, l48, x51, x52, x53, (⟨x54, x55⟩ : disk_Fall), x56, x57⟩ : disk_Disk).armed_), .int .i64 ((⟨l44, l48, x51, x52, x53, (⟨x54, x55⟩ : disk_Fall), x56, x57⟩ : disk_Disk).left_), .int .u64 ((⟨l44, l48, x51, x52, x53, (⟨x54, x55⟩ : disk_Fall), x56, x57⟩ : disk_Disk).fall_.Keep), .int .i64 ((⟨l44, l48, x51, x52, x53, (⟨x54, x55⟩ : disk_Fall), x56, x57⟩ : disk_Disk).fall_.Tear), .int .i64 ((⟨l44, l48, x51, x52, x53, (⟨x54, x55⟩ : disk_Fall), x56, x57⟩ : disk_Disk).acts_), .int .i64 ((⟨l44, l48, x51, x52, x53, (⟨x54, x55⟩ : disk_Fall), x56, x57⟩ : disk_Disk).falls_)] 68, pt r21_b10 #[.pointer (some ⟨r21_b2, 0, none⟩), .int .i64 r21_s9.boot_, .int .i64 r21_s9.n_] 47, own e_disk_sector 70 p45 c46 ((⟨l44, l48, x51, x52, x53, (⟨x54, x55⟩ : disk_Fall), x56, x57⟩ : disk_Disk).sure_), mpo (kInt .i64) (fun x : disk_sector => Value.agg #[.string x.s_, .int .i64 x.at_]) b50 ((⟨l44, l48, x51, x52, x53, (⟨x54, x55⟩ : disk_Fall), x56, x57⟩ : disk_Disk).wait_)] ++ F0) rfl (aw_next (fun w hs => sat_pulls [0, 0, 0, 0, 0] (G := [] ++ F0) rfl hs) ?_)
                refine aw_vals [14, 15, 16] (f' := 4) (m' := 131071) [0, 4, 5, 6, 7, 8, 75] [(0, .string x0), (4, .pointer (some ⟨r21_b10, 0, none⟩)), (5, .string r58.1), (6, .int .i64 r58.2.1), (7, .int .i64 r58.2.2), (8, .int .i64 (IntKind.i64.wrap (bt x0 8))), (75, .bool (!(seqB (x0.extract (0 : Int).toNat (4 : Int).toNat) r80)))] (fun _ _ _ _ _ h => calm_fin (P := Tryd.prog) (fn := Tryd.f4) _ _ _ _ _ h) (fun w hs => sat_pulls [0, 0, 0, 0, 0] (G := [] ++ F0) rfl hs) rfl (by kernel_rfl) ?_
                rcases if_some hF with ⟨h82, hF⟩ | ⟨h82, hF⟩
                · refine aw_slots (L' := [(0, .string x0), (4, .pointer (some ⟨r21_b10, 0, none⟩)), (5, .string r58.1), (6, .int .i64 r58.2.1), (7, .int .i64 r58.2.2), (8, .int .i64 (IntKind.i64.wrap (bt x0 8))), (75, .bool true)]) (by rw [h82]) ?_
                  refine aw_vals [17, 18, 19, 20] (f' := 0) (m' := 2097151) [0, 4, 5, 6, 7, 8, 9] [(0, .string x0), (4, .pointer (some ⟨r21_b10, 0, none⟩)), (5, .string r58.1), (6, .int .i64 r58.2.1), (7, .int .i64 r58.2.2), (8, .int .i64 (IntKind.i64.wrap (bt x0 8))), (9, .bool (decide ((IntKind.i64.wrap (bt x0 8)) ≤ 47)))] (fun _ _ _ _ _ h => calm_fin (P := Tryd.prog) (fn := Tryd.f4) _ _ _ _ _ h) (fun w hs => sat_pulls [0, 0, 0, 0, 0] (G := [] ++ F0) rfl hs) rfl (by kernel_rfl) ?_
                  refine aw_keep [0, 4, 5, 6, 7, 8, 9] (L' := [(0, .string x0), (4, .pointer (some ⟨r21_b10, 0, none⟩)), (5, .string r58.1), (6, .int .i64 r58.2.1), (7, .int .i64 r58.2.2), (8, .int .i64 (IntKind.i64.wrap (bt x0 8))), (9, .bool (decide ((IntKind.i64.wrap (bt x0 8)) ≤ 47)))]) rfl ?_
                  refine aw_end (by kernel_rfl) ?_
                  have hR := Option.some.inj hF
                  exact fun a w hf hs => ⟨decide ((IntKind.i64.wrap (bt x0 8)) ≤ 47), hR, hf.keep [0, 4, 5, 6, 7, 8, 9], sat_to [0, 0, 0, 0, 0] 0 rfl hs⟩
                · refine aw_slots (L' := [(0, .string x0), (4, .pointer (some ⟨r21_b10, 0, none⟩)), (5, .string r58.1), (6, .int .i64 r58.2.1), (7, .int .i64 r58.2.2), (8, .int .i64 (IntKind.i64.wrap (bt x0 8))), (75, .bool false)]) (by rw [h82]) ?_
                  refine aw_vals [17, 18, 19, 20] (f' := 0) (m' := 2097151) [0, 4, 5, 6, 7, 8, 9] [(0, .string x0), (4, .pointer (some ⟨r21_b10, 0, none⟩)), (5, .string r58.1), (6, .int .i64 r58.2.1), (7, .int .i64 r58.2.2), (8, .int .i64 (IntKind.i64.wrap (bt x0 8))), (9, .bool false)] (fun _ _ _ _ _ h => calm_fin (P := Tryd.prog) (fn := Tryd.f4) _ _ _ _ _ h) (fun w hs => sat_pulls [0, 0, 0, 0, 0] (G := [] ++ F0) rfl hs) rfl (by kernel_rfl) ?_
                  refine aw_keep [0, 4, 5, 6, 7, 8, 9] (L' := [(0, .string x0), (4, .pointer (some ⟨r21_b10, 0, none⟩)), (5, .string r58.1), (6, .int .i64 r58.2.1), (7, .int .i64 r58.2.2), (8, .int .i64 (IntKind.i64.wrap (bt x0 8))), (9, .bool false)]) rfl ?_
                  refine aw_end (by kernel_rfl) ?_
                  have hR := Option.some.inj hF
                  exact fun a w hf hs => ⟨false, hR, hf.keep [0, 4, 5, 6, 7, 8, 9], sat_to [0, 0, 0, 0, 0] 0 rfl hs⟩
              · refine aw_slots (L' := [(0, .string x0), (4, .pointer (some ⟨r21_b10, 0, none⟩)), (5, .string r58.1), (6, .int .i64 r58.2.1), (7, .int .i64 r58.2.2), (8, .int .i64 (IntKind.i64.wrap (bt x0 8))), (69, .bool false)]) (by rw [h78]) ?_
                refine aw_vals [11, 12, 13, 14, 15, 16, 17, 18, 19, 20] (f' := 0) (m' := 2097151) [0, 4, 5, 6, 7, 8, 9] [(0, .string x0), (4, .pointer (some ⟨r21_b10, 0, none⟩)), (5, .string r58.1), (6, .int .i64 r58.2.1), (7, .int .i64 r58.2.2), (8, .int .i64 (IntKind.i64.wrap (bt x0 8))), (9, .bool false)] (fun _ _ _ _ _ h => calm_fin (P := Tryd.prog) (fn := Tryd.f4) _ _ _ _ _ h) (fun w hs => sat_pulls [0, 0, 0, 0, 0] (G := [] ++ F0) rfl hs) rfl (by kernel_rfl) ?_
                refine aw_keep [0, 4, 5, 6, 7, 8, 9] (L' := [(0, .string x0), (4, .pointer (some ⟨r21_b10, 0, none⟩)), (5, .string r58.1), (6, .int .i64 r58.2.1), (7, .int .i64 r58.2.2), (8, .int .i64 (IntKind.i64.wrap (bt x0 8))), (9, .bool false)]) rfl ?_
                refine aw_end (by kernel_rfl) ?_
                have hR := Option.some.inj hF
                exact fun a w hf hs => ⟨false, hR, hf.keep [0, 4, 5, 6, 7, 8, 9], sat_to [0, 0, 0, 0, 0] 0 rfl hs⟩
            · refine aw_slots (L' := [(0, .string x0), (4, .pointer (some ⟨r21_b10, 0, none⟩)), (5, .string r58.1), (6, .int .i64 r58.2.1), (7, .int .i64 r58.2.2), (8, .int .i64 (IntKind.i64.wrap (bt x0 8))), (64, .bool false)]) (by rw [h76]) ?_
              refine aw_vals [6, 7, 8, 9, 10, 11, 12, 13, 14, 15, 16, 17, 18, 19, 20] (f' := 0) (m' := 2097151) [0, 4, 5, 6, 7, 8, 9] [(0, .string x0), (4, .pointer (some ⟨r21_b10, 0, none⟩)), (5, .string r58.1), (6, .int .i64 r58.2.1), (7, .int .i64 r58.2.2), (8, .int .i64 (IntKind.i64.wrap (bt x0 8))), (9, .bool false)] (fun _ _ _ _ _ h => calm_fin (P := Tryd.prog) (fn := Tryd.f4) _ _ _ _ _ h) (fun w hs => sat_pulls [0, 0, 0, 0, 0] (G := [] ++ F0) rfl hs) rfl (by kernel_rfl) ?_
              refine aw_keep [0, 4, 5, 6, 7, 8, 9] (L' := [(0, .string x0), (4, .pointer (some ⟨r21_b10, 0, none⟩)), (5, .string r58.1), (6, .int .i64 r58.2.1), (7, .int .i64 r58.2.2), (8, .int .i64 (IntKind.i64.wrap (bt x0 8))), (9, .bool false)]) rfl ?_
              refine aw_end (by kernel_rfl) ?_
              have hR := Option.some.inj hF
              exact fun a w hf hs => ⟨false, hR, hf.keep [0, 4, 5, 6, 7, 8, 9], sat_to [0, 0, 0, 0, 0] 0 rfl hs⟩
          · rintro a w ⟨x83, hv, hf, hs⟩
            subst hv
            replace hF := hK73
            clear hK73
            try dsimp only at hF
            revert a w
            show CW _ _ _ 128 [(0, .string x0), (4, .pointer (some ⟨r21_b10, 0, none⟩)), (5, .string r58.1), (6, .int .i64 r58.2.1), (7, .int .i64 r58.2.2), (8, .int .i64 (IntKind.i64.wrap (bt x0 8))), (9, .bool x83)] (SAT w0 ([imm I, pt r21_b2 #[.slice p45 ((⟨l44, l48, x51, x52, x53, (⟨x54, x55⟩ : disk_Fall), x56, x57⟩ : disk_Disk).sure_).length c46, .map (some b50), .bool ((⟨l44, l48, x51, x52, x53, (⟨x54, x55⟩ : disk_Fall), x56, x57⟩ : disk_Disk).off_), .bool ((⟨l44, l48, x51, x52, x53, (⟨x54, x55⟩ : disk_Fall), x56, x57⟩ : disk_Disk).armed_), .int .i64 ((⟨l44, l48, x51, x52, x53, (⟨x54, x55⟩ : disk_Fall), x56, x57⟩ : disk_Disk).left_), .int .u64 ((⟨l44, l48, x51, x52, x53, (⟨x54, x55⟩ : disk_Fall), x56, x57⟩ : disk_Disk).fall_.Keep), .int .i64 ((⟨l44, l48, x51, x52, x53, (⟨x54, x55⟩ : disk_Fall), x56, x57⟩ : disk_Disk).fall_.Tear), .int .i64 ((⟨l44, l48, x51, x52, x53, (⟨x54, x55⟩ : disk_Fall), x56, x57⟩ : disk_Disk).acts_), .int .i64 ((⟨l44, l48, x51, x52, x53, (⟨x54, x55⟩ : disk_Fall), x56, x57⟩ : disk_Disk).falls_)] 68, pt r21_b10 #[.pointer (some ⟨r21_b2, 0, none⟩), .int .i64 r21_s9.boot_, .int .i64 r21_s9.n_] 47, own e_disk_sector 70 p45 c46 ((⟨l44, l48, x51, x52, x53, (⟨x54, x55⟩ : disk_Fall), x56, x57⟩ : disk_Disk).sure_), mpo (kInt .i64) (fun x : disk_sector => Value.agg #[.string x.s_, .int .i64 x.at_]) b50 ((⟨l44, l48, x51, x52, x53, (⟨x54, x55⟩ : disk_Fall), x56, x57⟩ : disk_Disk).wait_)] ++ F0))
            unfold F.law10_GuardReads.r4 at hF
            obtain ⟨v84, hF, hK84⟩ := bind_some hF
            refine cw_mid (fun a w => ∃ (x89 : Bool), x89 = v84 ∧ Fr 128 [(0, .string x0), (4, .pointer (some ⟨r21_b10, 0, none⟩)), (5, .string r58.1), (6, .int .i64 r58.2.1), (7, .int .i64 r58.2.2), (8, .int .i64 (IntKind.i64.wrap (bt x0 8))), (9, .bool x89)] a ∧ SAT w0 ([imm I, pt r21_b2 #[.slice p45 ((⟨l44, l48, x51, x52, x53, (⟨x54, x55⟩ : disk_Fall), x56, x57⟩ : disk_Disk).sure_).length c46, .map (some b50), .bool ((⟨l44, l48, x51, x52, x53, (⟨x54, x55⟩ : disk_Fall), x56, x57⟩ : disk_Disk).off_), .bool ((⟨l44, l48, x51, x52, x53, (⟨x54, x55⟩ : disk_Fall), x56, x57⟩ : disk_Disk).armed_), .int .i64 ((⟨l44, l48, x51, x52, x53, (⟨x54, x55⟩ : disk_Fall), x56, x57⟩ : disk_Disk).left_), .int .u64 ((⟨l44, l48, x51, x52, x53, (⟨x54, x55⟩ : disk_Fall), x56, x57⟩ : disk_Disk).fall_.Keep), .int .i64 ((⟨l44, l48, x51, x52, x53, (⟨x54, x55⟩ : disk_Fall), x56, x57⟩ : disk_Disk).fall_.Tear), .int .i64 ((⟨l44, l48, x51, x52, x53, (⟨x54, x55⟩ : disk_Fall), x56, x57⟩ : disk_Disk).acts_), .int .i64 ((⟨l44, l48, x51, x52, x53, (⟨x54, x55⟩ : disk_Fall), x56, x57⟩ : disk_Disk).falls_)] 68, pt r21_b10 #[.pointer (some ⟨r21_b2, 0, none⟩), .int .i64 r21_s9.boot_, .int .i64 r21_s9.n_] 47, own e_disk_sector 70 p45 c46 ((⟨l44, l48, x51, x52, x53, (⟨x54, x55⟩ : disk_Fall), x56, x57⟩ : disk_Disk).sure_), mpo (kInt .i64) (fun x : disk_sector => Value.agg #[.string x.s_, .int .i64 x.at_]) b50 ((⟨l44, l48, x51, x52, x53, (⟨x54, x55⟩ : disk_Fall), x56, x57⟩ : disk_Disk).wait_)] ++ F0) w) ?_ ?_
            · refine cw_seq ?_
              refine cw_region ?_
              refine ow_vals 1 (j := 1) [0, 4, 5, 6, 7, 8, 9, 79] [(0, .string x0), (4, .pointer (some ⟨r21_b10, 0, none⟩)), (5, .string r58.1), (6, .int .i64 r58.2.1), (7, .int .i64 r58.2.2), (8, .int .i64 (IntKind.i64.wrap (bt x0 8))), (9, .bool x83), (79, .bool x83)] rfl (by kernel_rfl) ?_
              refine ow_end rfl ?_
              refine ew_then ?_
              rcases if_some hF with ⟨h85, hF⟩ | ⟨h85, hF⟩
              · refine cw_cond_t rfl rfl h85 ?_
                refine cw_open 9 (SAT w0 ([imm I, pt r21_b2 #[.slice p45 ((⟨l44, l48, x51, x52, x53, (⟨x54, x55⟩ : disk_Fall), x56, x57⟩ : disk_Disk).sure_).length c46, .map (some b50), .bool ((⟨l44, l48, x51, x52, x53, (⟨x54, x55⟩ : disk_Fall), x56, x57⟩ : disk_Disk).off_), .bool ((⟨l44, l48, x51, x52, x53, (⟨x54, x55⟩ : disk_Fall), x56, x57⟩ : disk_Disk).armed_), .int .i64 ((⟨l44, l48, x51, x52, x53, (⟨x54, x55⟩ : disk_Fall), x56, x57⟩ : disk_Disk).left_), .int .u64 ((⟨l44, l48, x51, x52, x53, (⟨x54, x55⟩ : disk_Fall), x56, x57⟩ : disk_Disk).fall_.Keep), .int .i64 ((⟨l44, l48, x51, x52, x53, (⟨x54, x55⟩ : disk_Fall), x56, x57⟩ : disk_Disk).fall_.Tear), .int .i64 ((⟨l44, l48, x51, x52, x53, (⟨x54, x55⟩ : disk_Fall), x56, x57⟩ : disk_Disk).acts_), .int .i64 ((⟨l44, l48, x51, x52, x53, (⟨x54, x55⟩ : disk_Fall), x56, x57⟩ : disk_Disk).falls_)] 68, pt r21_b10 #[.pointer (some ⟨r21_b2, 0, none⟩), .int .i64 r21_s9.boot_, .int .i64 r21_s9.n_] 47, own e_disk_sector 70 p45 c46 ((⟨l44, l48, x51, x52, x53, (⟨x54, x55⟩ : disk_Fall), x56, x57⟩ : disk_Disk).sure_), mpo (kInt .i64) (fun x : disk_sector => Value.agg #[.string x.s_, .int .i64 x.at_]) b50 ((⟨l44, l48, x51, x52, x53, (⟨x54, x55⟩ : disk_Fall), x56, x57⟩ : disk_Disk).wait_)])) (by kernel_rfl) (f := 9) rfl (fun w hs => sat_drew hs) ?_
                refine aw_vals [0, 1, 2, 4, 5] (f' := 4) (m' := 55) [0, 4, 5, 6, 7, 8, 9, 80, 82, 85] [(0, .string x0), (4, .pointer (some ⟨r21_b10, 0, none⟩)), (5, .string r58.1), (6, .int .i64 r58.2.1), (7, .int .i64 r58.2.2), (8, .int .i64 (IntKind.i64.wrap (bt x0 8))), (9, .bool x83), (80, .string x0), (82, .int .i64 (IntKind.i64.wrap (9 + (IntKind.i64.wrap (bt x0 8))))), (85, .int .i64 (IntKind.i64.wrap (47 - (IntKind.i64.wrap (bt x0 8)))))] (fun _ _ _ _ _ h => calm_fin (P := Tryd.prog) (fn := Tryd.f4) _ _ _ _ _ h) (fun w hs => sat_pulls [0, 0, 0, 0, 0] (G := [] ++ F0) rfl hs) rfl (by kernel_rfl) ?_
                obtain ⟨h86, hF⟩ := chk_some hF
                refine aw_pure 3 (m' := 63) (v := .string (x0.extract (IntKind.i64.wrap (9 + (IntKind.i64.wrap (bt x0 8)))).toNat (56 : Int).toNat)) rfl rfl rfl rfl (by kernel_rfl) (by kernel_rfl) (fun _ _ _ _ _ h => calm_fin (P := Tryd.prog) (fn := Tryd.f4) _ _ _ _ _ h) (fun w hs => sat_pulls [0, 0, 0, 0, 0] (G := [] ++ F0) rfl hs) (q_slice_str rfl (by kernel_rfl) rfl rfl rfl h86.1 h86.2.1 h86.2.2) ?_
                obtain ⟨r87, h88, hF⟩ := bind_some hF
                refine aw_only 6 (m' := 127) (by kernel_rfl) (by kernel_rfl) (pw_call (F := [pt r21_b2 #[.slice p45 ((⟨l44, l48, x51, x52, x53, (⟨x54, x55⟩ : disk_Fall), x56, x57⟩ : disk_Disk).sure_).length c46, .map (some b50), .bool ((⟨l44, l48, x51, x52, x53, (⟨x54, x55⟩ : disk_Fall), x56, x57⟩ : disk_Disk).off_), .bool ((⟨l44, l48, x51, x52, x53, (⟨x54, x55⟩ : disk_Fall), x56, x57⟩ : disk_Disk).armed_), .int .i64 ((⟨l44, l48, x51, x52, x53, (⟨x54, x55⟩ : disk_Fall), x56, x57⟩ : disk_Disk).left_), .int .u64 ((⟨l44, l48, x51, x52, x53, (⟨x54, x55⟩ : disk_Fall), x56, x57⟩ : disk_Disk).fall_.Keep), .int .i64 ((⟨l44, l48, x51, x52, x53, (⟨x54, x55⟩ : disk_Fall), x56, x57⟩ : disk_Disk).fall_.Tear), .int .i64 ((⟨l44, l48, x51, x52, x53, (⟨x54, x55⟩ : disk_Fall), x56, x57⟩ : disk_Disk).acts_), .int .i64 ((⟨l44, l48, x51, x52, x53, (⟨x54, x55⟩ : disk_Fall), x56, x57⟩ : disk_Disk).falls_)] 68, pt r21_b10 #[.pointer (some ⟨r21_b2, 0, none⟩), .int .i64 r21_s9.boot_, .int .i64 r21_s9.n_] 47, own e_disk_sector 70 p45 c46 ((⟨l44, l48, x51, x52, x53, (⟨x54, x55⟩ : disk_Fall), x56, x57⟩ : disk_Disk).sure_), mpo (kInt .i64) (fun x : disk_sector => Value.agg #[.string x.s_, .int .i64 x.at_]) b50 ((⟨l44, l48, x51, x52, x53, (⟨x54, x55⟩ : disk_Fall), x56, x57⟩ : disk_Disk).wait_)] ++ F0) rfl rfl rfl rfl rfl rfl rfl (by kernel_rfl) (perm_of_pulls [0] rfl) (c_law10_noughts _ (IntKind.i64.wrap (47 - (IntKind.i64.wrap (bt x0 8)))) r87 h88) ?_)
                rintro _ _ ⟨rfl, rfl⟩
                refine nw_H (H' := [imm I, pt r21_b2 #[.slice p45 ((⟨l44, l48, x51, x52, x53, (⟨x54, x55⟩ : disk_Fall), x56, x57⟩ : disk_Disk).sure_).length c46, .map (some b50), .bool ((⟨l44, l48, x51, x52, x53, (⟨x54, x55⟩ : disk_Fall), x56, x57⟩ : disk_Disk).off_), .bool ((⟨l44, l48, x51, x52, x53, (⟨x54, x55⟩ : disk_Fall), x56, x57⟩ : disk_Disk).armed_), .int .i64 ((⟨l44, l48, x51, x52, x53, (⟨x54, x55⟩ : disk_Fall), x56, x57⟩ : disk_Disk).left_), .int .u64 ((⟨l44, l48, x51, x52, x53, (⟨x54, x55⟩ : disk_Fall), x56, x57⟩ : disk_Disk).fall_.Keep), .int .i64 ((⟨l44, l48, x51, x52, x53, (⟨x54, x55⟩ : disk_Fall), x56, x57⟩ : disk_Disk).fall_.Tear), .int .i64 ((⟨l44, l48, x51, x52, x53, (⟨x54, x55⟩ : disk_Fall), x56, x57⟩ : disk_Disk).acts_), .int .i64 ((⟨l44, l48, x51, x52, x53, (⟨x54, x55⟩ : disk_Fall), x56, x57⟩ : disk_Disk).falls_)] 68, pt r21_b10 #[.pointer (some ⟨r21_b2, 0, none⟩), .int .i64 r21_s9.boot_, .int .i64 r21_s9.n_] 47, own e_disk_sector 70 p45 c46 ((⟨l44, l48, x51, x52, x53, (⟨x54, x55⟩ : disk_Fall), x56, x57⟩ : disk_Disk).sure_), mpo (kInt .i64) (fun x : disk_sector => Value.agg #[.string x.s_, .int .i64 x.at_]) b50 ((⟨l44, l48, x51, x52, x53, (⟨x54, x55⟩ : disk_Fall), x56, x57⟩ : disk_Disk).wait_)] ++ F0) rfl (aw_next (fun w hs => sat_pulls [0, 0, 0, 0, 0] (G := [] ++ F0) rfl hs) ?_)
                refine aw_vals [7, 8] (f' := 0) (m' := 511) [0, 4, 5, 6, 7, 8, 9] [(0, .string x0), (4, .pointer (some ⟨r21_b10, 0, none⟩)), (5, .string r58.1), (6, .int .i64 r58.2.1), (7, .int .i64 r58.2.2), (8, .int .i64 (IntKind.i64.wrap (bt x0 8))), (9, .bool (seqB (x0.extract (IntKind.i64.wrap (9 + (IntKind.i64.wrap (bt x0 8)))).toNat (56 : Int).toNat) r87))] (fun _ _ _ _ _ h => calm_fin (P := Tryd.prog) (fn := Tryd.f4) _ _ _ _ _ h) (fun w hs => sat_pulls [0, 0, 0, 0, 0] (G := [] ++ F0) rfl hs) rfl (by kernel_rfl) ?_
                refine aw_keep [0, 4, 5, 6, 7, 8, 9] (L' := [(0, .string x0), (4, .pointer (some ⟨r21_b10, 0, none⟩)), (5, .string r58.1), (6, .int .i64 r58.2.1), (7, .int .i64 r58.2.2), (8, .int .i64 (IntKind.i64.wrap (bt x0 8))), (9, .bool (seqB (x0.extract (IntKind.i64.wrap (9 + (IntKind.i64.wrap (bt x0 8)))).toNat (56 : Int).toNat) r87))]) rfl ?_
                refine aw_end (by kernel_rfl) ?_
                have hR := Option.some.inj hF
                exact fun a w hf hs => ⟨seqB (x0.extract (IntKind.i64.wrap (9 + (IntKind.i64.wrap (bt x0 8)))).toNat (56 : Int).toNat) r87, hR, hf.keep [0, 4, 5, 6, 7, 8, 9], sat_to [0, 0, 0, 0, 0] 0 rfl hs⟩
              · refine cw_cond_f rfl rfl h85 ?_
                refine cw_skip ?_
                have hR := Option.some.inj hF
                exact fun a w hf hs => ⟨x83, hR, hf.keep [0, 4, 5, 6, 7, 8, 9], sat_to [0, 0, 0, 0, 0] 0 rfl hs⟩
            · rintro a w ⟨x89, hv, hf, hs⟩
              subst hv
              replace hF := hK84
              clear hK84
              try dsimp only at hF
              revert a w
              show CW _ _ _ 128 [(0, .string x0), (4, .pointer (some ⟨r21_b10, 0, none⟩)), (5, .string r58.1), (6, .int .i64 r58.2.1), (7, .int .i64 r58.2.2), (8, .int .i64 (IntKind.i64.wrap (bt x0 8))), (9, .bool x89)] (SAT w0 ([imm I, pt r21_b2 #[.slice p45 ((⟨l44, l48, x51, x52, x53, (⟨x54, x55⟩ : disk_Fall), x56, x57⟩ : disk_Disk).sure_).length c46, .map (some b50), .bool ((⟨l44, l48, x51, x52, x53, (⟨x54, x55⟩ : disk_Fall), x56, x57⟩ : disk_Disk).off_), .bool ((⟨l44, l48, x51, x52, x53, (⟨x54, x55⟩ : disk_Fall), x56, x57⟩ : disk_Disk).armed_), .int .i64 ((⟨l44, l48, x51, x52, x53, (⟨x54, x55⟩ : disk_Fall), x56, x57⟩ : disk_Disk).left_), .int .u64 ((⟨l44, l48, x51, x52, x53, (⟨x54, x55⟩ : disk_Fall), x56, x57⟩ : disk_Disk).fall_.Keep), .int .i64 ((⟨l44, l48, x51, x52, x53, (⟨x54, x55⟩ : disk_Fall), x56, x57⟩ : disk_Disk).fall_.Tear), .int .i64 ((⟨l44, l48, x51, x52, x53, (⟨x54, x55⟩ : disk_Fall), x56, x57⟩ : disk_Disk).acts_), .int .i64 ((⟨l44, l48, x51, x52, x53, (⟨x54, x55⟩ : disk_Fall), x56, x57⟩ : disk_Disk).falls_)] 68, pt r21_b10 #[.pointer (some ⟨r21_b2, 0, none⟩), .int .i64 r21_s9.boot_, .int .i64 r21_s9.n_] 47, own e_disk_sector 70 p45 c46 ((⟨l44, l48, x51, x52, x53, (⟨x54, x55⟩ : disk_Fall), x56, x57⟩ : disk_Disk).sure_), mpo (kInt .i64) (fun x : disk_sector => Value.agg #[.string x.s_, .int .i64 x.at_]) b50 ((⟨l44, l48, x51, x52, x53, (⟨x54, x55⟩ : disk_Fall), x56, x57⟩ : disk_Disk).wait_)] ++ F0))
              unfold F.law10_GuardReads.r5 at hF
              obtain ⟨v90, hF, hK90⟩ := thru_some hF
              refine cw_mid (fun a w => .inl () = v90 ∧ Fr 128 [(0, .string x0), (5, .string r58.1), (6, .int .i64 r58.2.1), (7, .int .i64 r58.2.2), (8, .int .i64 (IntKind.i64.wrap (bt x0 8)))] a ∧ SAT w0 ([imm I, pt r21_b2 #[.slice p45 ((⟨l44, l48, x51, x52, x53, (⟨x54, x55⟩ : disk_Fall), x56, x57⟩ : disk_Disk).sure_).length c46, .map (some b50), .bool ((⟨l44, l48, x51, x52, x53, (⟨x54, x55⟩ : disk_Fall), x56, x57⟩ : disk_Disk).off_), .bool ((⟨l44, l48, x51, x52, x53, (⟨x54, x55⟩ : disk_Fall), x56, x57⟩ : disk_Disk).armed_), .int .i64 ((⟨l44, l48, x51, x52, x53, (⟨x54, x55⟩ : disk_Fall), x56, x57⟩ : disk_Disk).left_), .int .u64 ((⟨l44, l48, x51, x52, x53, (⟨x54, x55⟩ : disk_Fall), x56, x57⟩ : disk_Disk).fall_.Keep), .int .i64 ((⟨l44, l48, x51, x52, x53, (⟨x54, x55⟩ : disk_Fall), x56, x57⟩ : disk_Disk).fall_.Tear), .int .i64 ((⟨l44, l48, x51, x52, x53, (⟨x54, x55⟩ : disk_Fall), x56, x57⟩ : disk_Disk).acts_), .int .i64 ((⟨l44, l48, x51, x52, x53, (⟨x54, x55⟩ : disk_Fall), x56, x57⟩ : disk_Disk).falls_)] 68, pt r21_b10 #[.pointer (some ⟨r21_b2, 0, none⟩), .int .i64 r21_s9.boot_, .int .i64 r21_s9.n_] 47, own e_disk_sector 70 p45 c46 ((⟨l44, l48, x51, x52, x53, (⟨x54, x55⟩ : disk_Fall), x56, x57⟩ : disk_Disk).sure_), mpo (kInt .i64) (fun x : disk_sector => Value.agg #[.string x.s_, .int .i64 x.at_]) b50 ((⟨l44, l48, x51, x52, x53, (⟨x54, x55⟩ : disk_Fall), x56, x57⟩ : disk_Disk).wait_)] ++ F0) w) ?_ ?_
              · refine cw_seq ?_
                refine cw_region ?_
                refine ow_vals 2 (j := 2) [0, 4, 5, 6, 7, 8, 89] [(0, .string x0), (4, .pointer (some ⟨r21_b10, 0, none⟩)), (5, .string r58.1), (6, .int .i64 r58.2.1), (7, .int .i64 r58.2.2), (8, .int .i64 (IntKind.i64.wrap (bt x0 8))), (89, .bool (!x89))] rfl (by kernel_rfl) ?_
                refine ow_end rfl ?_
                refine ew_then ?_
                rcases if_some hF with ⟨h91, hF⟩ | ⟨h91, hF⟩
                · refine cw_cond_t rfl rfl h91 ?_
                  refine cw_seq ?_
                  refine cw_region ?_
                  refine ow_vals 3 (j := 3) [4, 6, 7, 92] [(4, .pointer (some ⟨r21_b10, 0, none⟩)), (6, .int .i64 r58.2.1), (7, .int .i64 r58.2.2), (92, .bool (seqB r58.1 (ByteArray.mk #[])))] rfl (by kernel_rfl) ?_
                  rcases if_some hF with ⟨h92, hF⟩ | ⟨h92, hF⟩
                  · refine ow_slots (L' := [(4, .pointer (some ⟨r21_b10, 0, none⟩)), (6, .int .i64 r58.2.1), (7, .int .i64 r58.2.2), (92, .bool true)]) (by rw [h92]) ?_
                    refine ow_vals 4 (j := 7) [4, 7, 96] [(4, .pointer (some ⟨r21_b10, 0, none⟩)), (7, .int .i64 r58.2.2), (96, .bool (r58.2.1 == 0))] rfl (by kernel_rfl) ?_
                    rcases if_some hF with ⟨h93, hF⟩ | ⟨h93, hF⟩
                    · refine ow_slots (L' := [(4, .pointer (some ⟨r21_b10, 0, none⟩)), (7, .int .i64 r58.2.2), (96, .bool true)]) (by rw [h93]) ?_
                      refine ow_vals 4 (j := 11) [4, 100] [(4, .pointer (some ⟨r21_b10, 0, none⟩)), (100, .bool (r58.2.2 == 17))] rfl (by kernel_rfl) ?_
                      rcases if_some hF with ⟨h94, hF⟩ | ⟨h94, hF⟩
                      · refine ow_slots (L' := [(4, .pointer (some ⟨r21_b10, 0, none⟩)), (100, .bool true)]) (by rw [h94]) ?_
                        refine ow_vals 1 (j := 12) [100, 101] [(100, .bool true), (101, .pointer (some ⟨r21_b10, 0, none⟩))] rfl (by kernel_rfl) ?_
                        obtain ⟨r95, h96, hF⟩ := bind_some hF
                        refine ow_pw rfl (pw_call (F := [] ++ F0) rfl rfl rfl rfl rfl rfl rfl (by kernel_rfl) (perm_of_pulls [0, 1, 0, 0, 0] rfl) (c_guard_Guard_Blank _ 2 r21_s9 (⟨l44, l48, x51, x52, x53, (⟨x54, x55⟩ : disk_Fall), x56, x57⟩ : disk_Disk) r21_b10 p45 c46 b50 r21_b2 r95 h96) ?_)
                        rintro _ _ ⟨rfl, rfl⟩
                        refine nw_H (H' := [imm I, pt r21_b10 #[.pointer (some ⟨r21_b2, 0, none⟩), .int .i64 r21_s9.boot_, .int .i64 r21_s9.n_] 47, pt r21_b2 #[.slice p45 ((⟨l44, l48, x51, x52, x53, (⟨x54, x55⟩ : disk_Fall), x56, x57⟩ : disk_Disk).sure_).length c46, .map (some b50), .bool ((⟨l44, l48, x51, x52, x53, (⟨x54, x55⟩ : disk_Fall), x56, x57⟩ : disk_Disk).off_), .bool ((⟨l44, l48, x51, x52, x53, (⟨x54, x55⟩ : disk_Fall), x56, x57⟩ : disk_Disk).armed_), .int .i64 ((⟨l44, l48, x51, x52, x53, (⟨x54, x55⟩ : disk_Fall), x56, x57⟩ : disk_Disk).left_), .int .u64 ((⟨l44, l48, x51, x52, x53, (⟨x54, x55⟩ : disk_Fall), x56, x57⟩ : disk_Disk).fall_.Keep), .int .i64 ((⟨l44, l48, x51, x52, x53, (⟨x54, x55⟩ : disk_Fall), x56, x57⟩ : disk_Disk).fall_.Tear), .int .i64 ((⟨l44, l48, x51, x52, x53, (⟨x54, x55⟩ : disk_Fall), x56, x57⟩ : disk_Disk).acts_), .int .i64 ((⟨l44, l48, x51, x52, x53, (⟨x54, x55⟩ : disk_Fall), x56, x57⟩ : disk_Disk).falls_)] 68, own e_disk_sector 70 p45 c46 ((⟨l44, l48, x51, x52, x53, (⟨x54, x55⟩ : disk_Fall), x56, x57⟩ : disk_Disk).sure_), mpo (kInt .i64) (fun x : disk_sector => Value.agg #[.string x.s_, .int .i64 x.at_]) b50 ((⟨l44, l48, x51, x52, x53, (⟨x54, x55⟩ : disk_Fall), x56, x57⟩ : disk_Disk).wait_)] ++ F0) rfl (nw_ow ?_)
                        refine ow_vals 3 (j := 16) [105] [(105, .bool (!r95))] rfl (by kernel_rfl) ?_
                        rcases if_some hF with ⟨h97, hF⟩ | ⟨h97, hF⟩
                        · refine ow_slots (L' := [(105, .bool true)]) (by rw [h97]) ?_
                          obtain ⟨r98, h99, hF⟩ := bind_some hF
                          refine ow_pw rfl (pw_call (F := [pt r21_b10 #[.pointer (some ⟨r21_b2, 0, none⟩), .int .i64 r21_s9.boot_, .int .i64 r21_s9.n_] 47, pt r21_b2 #[.slice p45 ((⟨l44, l48, x51, x52, x53, (⟨x54, x55⟩ : disk_Fall), x56, x57⟩ : disk_Disk).sure_).length c46, .map (some b50), .bool ((⟨l44, l48, x51, x52, x53, (⟨x54, x55⟩ : disk_Fall), x56, x57⟩ : disk_Disk).off_), .bool ((⟨l44, l48, x51, x52, x53, (⟨x54, x55⟩ : disk_Fall), x56, x57⟩ : disk_Disk).armed_), .int .i64 ((⟨l44, l48, x51, x52, x53, (⟨x54, x55⟩ : disk_Fall), x56, x57⟩ : disk_Disk).left_), .int .u64 ((⟨l44, l48, x51, x52, x53, (⟨x54, x55⟩ : disk_Fall), x56, x57⟩ : disk_Disk).fall_.Keep), .int .i64 ((⟨l44, l48, x51, x52, x53, (⟨x54, x55⟩ : disk_Fall), x56, x57⟩ : disk_Disk).fall_.Tear), .int .i64 ((⟨l44, l48, x51, x52, x53, (⟨x54, x55⟩ : disk_Fall), x56, x57⟩ : disk_Disk).acts_), .int .i64 ((⟨l44, l48, x51, x52, x53, (⟨x54, x55⟩ : disk_Fall), x56, x57⟩ : disk_Disk).falls_)] 68, own e_disk_sector 70 p45 c46 ((⟨l44, l48, x51, x52, x53, (⟨x54, x55⟩ : disk_Fall), x56, x57⟩ : disk_Disk).sure_), mpo (kInt .i64) (fun x : disk_sector => Value.agg #[.string x.s_, .int .i64 x.at_]) b50 ((⟨l44, l48, x51, x52, x53, (⟨x54, x55⟩ : disk_Fall), x56, x57⟩ : disk_Disk).wait_)] ++ F0) rfl rfl rfl rfl rfl rfl rfl (by kernel_rfl) (perm_of_pulls [0] rfl) (c_law10_awake _ r98 h99) ?_)
                          rintro _ _ ⟨rfl, rfl⟩
                          refine nw_H (H' := [imm I, pt r21_b10 #[.pointer (some ⟨r21_b2, 0, none⟩), .int .i64 r21_s9.boot_, .int .i64 r21_s9.n_] 47, pt r21_b2 #[.slice p45 ((⟨l44, l48, x51, x52, x53, (⟨x54, x55⟩ : disk_Fall), x56, x57⟩ : disk_Disk).sure_).length c46, .map (some b50), .bool ((⟨l44, l48, x51, x52, x53, (⟨x54, x55⟩ : disk_Fall), x56, x57⟩ : disk_Disk).off_), .bool ((⟨l44, l48, x51, x52, x53, (⟨x54, x55⟩ : disk_Fall), x56, x57⟩ : disk_Disk).armed_), .int .i64 ((⟨l44, l48, x51, x52, x53, (⟨x54, x55⟩ : disk_Fall), x56, x57⟩ : disk_Disk).left_), .int .u64 ((⟨l44, l48, x51, x52, x53, (⟨x54, x55⟩ : disk_Fall), x56, x57⟩ : disk_Disk).fall_.Keep), .int .i64 ((⟨l44, l48, x51, x52, x53, (⟨x54, x55⟩ : disk_Fall), x56, x57⟩ : disk_Disk).fall_.Tear), .int .i64 ((⟨l44, l48, x51, x52, x53, (⟨x54, x55⟩ : disk_Fall), x56, x57⟩ : disk_Disk).acts_), .int .i64 ((⟨l44, l48, x51, x52, x53, (⟨x54, x55⟩ : disk_Fall), x56, x57⟩ : disk_Disk).falls_)] 68, own e_disk_sector 70 p45 c46 ((⟨l44, l48, x51, x52, x53, (⟨x54, x55⟩ : disk_Fall), x56, x57⟩ : disk_Disk).sure_), mpo (kInt .i64) (fun x : disk_sector => Value.agg #[.string x.s_, .int .i64 x.at_]) b50 ((⟨l44, l48, x51, x52, x53, (⟨x54, x55⟩ : disk_Fall), x56, x57⟩ : disk_Disk).wait_)] ++ F0) rfl (nw_ow ?_)
                          refine ow_vals 2 (j := 19) [2] [(2, .bool r98)] rfl (by kernel_rfl) ?_
                          refine ow_end rfl ?_
                          refine ew_then ?_
                          refine cw_ret ?_
                          refine ew_then_ret ?_
                          have hR := Option.some.inj hF
                          subst hR
                          have hR := hK90
                          try dsimp only [Thru] at hR
                          subst hR
                          exact fin1 (H1 := [imm I]) (fun w hs => sat_to [1, 1, 1, 1, 0] 4 rfl hs) rfl (rr_tmp rfl) ⟨rfl, rfl⟩
                        · refine ow_slots (L' := [(105, .bool false)]) (by rw [h97]) ?_
                          refine ow_vals 3 (j := 19) [2] [(2, .bool false)] rfl (by kernel_rfl) ?_
                          refine ow_end rfl ?_
                          refine ew_then ?_
                          refine cw_ret ?_
                          refine ew_then_ret ?_
                          have hR := Option.some.inj hF
                          subst hR
                          have hR := hK90
                          try dsimp only [Thru] at hR
                          subst hR
                          exact fin1 (H1 := [imm I]) (fun w hs => sat_to [1, 1, 1, 1, 0] 4 rfl hs) rfl (rr_tmp rfl) ⟨rfl, rfl⟩
                      · refine ow_slots (L' := [(4, .pointer (some ⟨r21_b10, 0, none⟩)), (100, .bool false)]) (by rw [h94]) ?_
                        refine ow_vals 8 (j := 19) [2] [(2, .bool false)] rfl (by kernel_rfl) ?_
                        refine ow_end rfl ?_
                        refine ew_then ?_
                        refine cw_ret ?_
                        refine ew_then_ret ?_
                        have hR := Option.some.inj hF
                        subst hR
                        have hR := hK90
                        try dsimp only [Thru] at hR
                        subst hR
                        exact fin1 (H1 := [imm I]) (fun w hs => sat_to [1, 1, 1, 1, 0] 4 rfl hs) rfl (rr_tmp rfl) ⟨rfl, rfl⟩
                    · refine ow_slots (L' := [(4, .pointer (some ⟨r21_b10, 0, none⟩)), (7, .int .i64 r58.2.2), (96, .bool false)]) (by rw [h93]) ?_
                      refine ow_vals 12 (j := 19) [2] [(2, .bool false)] rfl (by kernel_rfl) ?_
                      refine ow_end rfl ?_
                      refine ew_then ?_
                      refine cw_ret ?_
                      refine ew_then_ret ?_
                      have hR := Option.some.inj hF
                      subst hR
                      have hR := hK90
                      try dsimp only [Thru] at hR
                      subst hR
                      exact fin1 (H1 := [imm I]) (fun w hs => sat_to [1, 1, 1, 1, 0] 4 rfl hs) rfl (rr_tmp rfl) ⟨rfl, rfl⟩
                  · refine ow_slots (L' := [(4, .pointer (some ⟨r21_b10, 0, none⟩)), (6, .int .i64 r58.2.1), (7, .int .i64 r58.2.2), (92, .bool false)]) (by rw [h92]) ?_
                    refine ow_vals 16 (j := 19) [2] [(2, .bool false)] rfl (by kernel_rfl) ?_
                    refine ow_end rfl ?_
                    refine ew_then ?_
                    refine cw_ret ?_
                    refine ew_then_ret ?_
                    have hR := Option.some.inj hF
                    subst hR
                    have hR := hK90
                    try dsimp only [Thru] at hR
                    subst hR
                    exact fin1 (H1 := [imm I]) (fun w hs => sat_to [1, 1, 1, 1, 0] 4 rfl hs) rfl (rr_tmp rfl) ⟨rfl, rfl⟩
                · refine cw_cond_f rfl rfl h91 ?_
                  refine cw_skip ?_
                  have hR := Option.some.inj hF
                  exact fun a w hf hs => ⟨hR, hf.keep [0, 5, 6, 7, 8], sat_to [0, 0, 0, 0, 0] 0 rfl hs⟩
              · rintro a w ⟨hv, hf, hs⟩
                subst hv
                replace hF := hK90
                clear hK90
                try dsimp only [Thru] at hF
                revert a w
                show CW _ _ _ 128 [(0, .string x0), (5, .string r58.1), (6, .int .i64 r58.2.1), (7, .int .i64 r58.2.2), (8, .int .i64 (IntKind.i64.wrap (bt x0 8)))] (SAT w0 ([imm I, pt r21_b2 #[.slice p45 ((⟨l44, l48, x51, x52, x53, (⟨x54, x55⟩ : disk_Fall), x56, x57⟩ : disk_Disk).sure_).length c46, .map (some b50), .bool ((⟨l44, l48, x51, x52, x53, (⟨x54, x55⟩ : disk_Fall), x56, x57⟩ : disk_Disk).off_), .bool ((⟨l44, l48, x51, x52, x53, (⟨x54, x55⟩ : disk_Fall), x56, x57⟩ : disk_Disk).armed_), .int .i64 ((⟨l44, l48, x51, x52, x53, (⟨x54, x55⟩ : disk_Fall), x56, x57⟩ : disk_Disk).left_), .int .u64 ((⟨l44, l48, x51, x52, x53, (⟨x54, x55⟩ : disk_Fall), x56, x57⟩ : disk_Disk).fall_.Keep), .int .i64 ((⟨l44, l48, x51, x52, x53, (⟨x54, x55⟩ : disk_Fall), x56, x57⟩ : disk_Disk).fall_.Tear), .int .i64 ((⟨l44, l48, x51, x52, x53, (⟨x54, x55⟩ : disk_Fall), x56, x57⟩ : disk_Disk).acts_), .int .i64 ((⟨l44, l48, x51, x52, x53, (⟨x54, x55⟩ : disk_Fall), x56, x57⟩ : disk_Disk).falls_)] 68, pt r21_b10 #[.pointer (some ⟨r21_b2, 0, none⟩), .int .i64 r21_s9.boot_, .int .i64 r21_s9.n_] 47, own e_disk_sector 70 p45 c46 ((⟨l44, l48, x51, x52, x53, (⟨x54, x55⟩ : disk_Fall), x56, x57⟩ : disk_Disk).sure_), mpo (kInt .i64) (fun x : disk_sector => Value.agg #[.string x.s_, .int .i64 x.at_]) b50 ((⟨l44, l48, x51, x52, x53, (⟨x54, x55⟩ : disk_Fall), x56, x57⟩ : disk_Disk).wait_)] ++ F0))
                unfold F.law10_GuardReads.r6 at hF
                refine cw_seq ?_
                refine cw_open 21 (SAT w0 ([imm I, pt r21_b2 #[.slice p45 ((⟨l44, l48, x51, x52, x53, (⟨x54, x55⟩ : disk_Fall), x56, x57⟩ : disk_Disk).sure_).length c46, .map (some b50), .bool ((⟨l44, l48, x51, x52, x53, (⟨x54, x55⟩ : disk_Fall), x56, x57⟩ : disk_Disk).off_), .bool ((⟨l44, l48, x51, x52, x53, (⟨x54, x55⟩ : disk_Fall), x56, x57⟩ : disk_Disk).armed_), .int .i64 ((⟨l44, l48, x51, x52, x53, (⟨x54, x55⟩ : disk_Fall), x56, x57⟩ : disk_Disk).left_), .int .u64 ((⟨l44, l48, x51, x52, x53, (⟨x54, x55⟩ : disk_Fall), x56, x57⟩ : disk_Disk).fall_.Keep), .int .i64 ((⟨l44, l48, x51, x52, x53, (⟨x54, x55⟩ : disk_Fall), x56, x57⟩ : disk_Disk).fall_.Tear), .int .i64 ((⟨l44, l48, x51, x52, x53, (⟨x54, x55⟩ : disk_Fall), x56, x57⟩ : disk_Disk).acts_), .int .i64 ((⟨l44, l48, x51, x52, x53, (⟨x54, x55⟩ : disk_Fall), x56, x57⟩ : disk_Disk).falls_)] 68, pt r21_b10 #[.pointer (some ⟨r21_b2, 0, none⟩), .int .i64 r21_s9.boot_, .int .i64 r21_s9.n_] 47, own e_disk_sector 70 p45 c46 ((⟨l44, l48, x51, x52, x53, (⟨x54, x55⟩ : disk_Fall), x56, x57⟩ : disk_Disk).sure_), mpo (kInt .i64) (fun x : disk_sector => Value.agg #[.string x.s_, .int .i64 x.at_]) b50 ((⟨l44, l48, x51, x52, x53, (⟨x54, x55⟩ : disk_Fall), x56, x57⟩ : disk_Disk).wait_)])) (by kernel_rfl) (f := 21) rfl (fun w hs => sat_drew hs) ?_
                refine aw_vals [0, 1, 2, 3] (f' := 17) (m' := 15) [0, 6, 7, 108, 109, 111] [(0, .string x0), (6, .int .i64 r58.2.1), (7, .int .i64 r58.2.2), (108, .string r58.1), (109, .string x0), (111, .int .i64 (IntKind.i64.wrap (9 + (IntKind.i64.wrap (bt x0 8)))))] (fun _ _ _ _ _ h => calm_fin (P := Tryd.prog) (fn := Tryd.f4) _ _ _ _ _ h) (fun w hs => sat_pulls [0, 0, 0, 0, 0] (G := [] ++ F0) rfl hs) rfl (by kernel_rfl) ?_
                obtain ⟨h100, hF⟩ := chk_some hF
                refine aw_pure 4 (m' := 31) (v := .string (x0.extract (9 : Int).toNat (IntKind.i64.wrap (9 + (IntKind.i64.wrap (bt x0 8)))).toNat)) rfl rfl rfl rfl (by kernel_rfl) (by kernel_rfl) (fun _ _ _ _ _ h => calm_fin (P := Tryd.prog) (fn := Tryd.f4) _ _ _ _ _ h) (fun w hs => sat_pulls [0, 0, 0, 0, 0] (G := [] ++ F0) rfl hs) (q_slice_str rfl (by kernel_rfl) rfl rfl rfl h100.1 h100.2.1 h100.2.2) ?_
                refine aw_vals [5, 6] (f' := 14) (m' := 127) [0, 6, 7, 114] [(0, .string x0), (6, .int .i64 r58.2.1), (7, .int .i64 r58.2.2), (114, .bool (seqB r58.1 (x0.extract (9 : Int).toNat (IntKind.i64.wrap (9 + (IntKind.i64.wrap (bt x0 8)))).toNat)))] (fun _ _ _ _ _ h => calm_fin (P := Tryd.prog) (fn := Tryd.f4) _ _ _ _ _ h) (fun w hs => sat_pulls [0, 0, 0, 0, 0] (G := [] ++ F0) rfl hs) rfl (by kernel_rfl) ?_
                rcases if_some hF with ⟨h101, hF⟩ | ⟨h101, hF⟩
                · refine aw_slots (L' := [(0, .string x0), (6, .int .i64 r58.2.1), (7, .int .i64 r58.2.2), (114, .bool true)]) (by rw [h101]) ?_
                  refine aw_vals [7, 9] (f' := 12) (m' := 767) [7, 114, 115, 117] [(7, .int .i64 r58.2.2), (114, .bool true), (115, .int .i64 r58.2.1), (117, .string x0)] (fun _ _ _ _ _ h => calm_fin (P := Tryd.prog) (fn := Tryd.f4) _ _ _ _ _ h) (fun w hs => sat_pulls [0, 0, 0, 0, 0] (G := [] ++ F0) rfl hs) rfl (by kernel_rfl) ?_
                  obtain ⟨h102, hF⟩ := chk_some hF
                  refine aw_pure 10 (m' := 1791) (v := .string (x0.extract (0 : Int).toNat (8 : Int).toNat)) rfl rfl rfl rfl (by kernel_rfl) (by kernel_rfl) (fun _ _ _ _ _ h => calm_fin (P := Tryd.prog) (fn := Tryd.f4) _ _ _ _ _ h) (fun w hs => sat_pulls [0, 0, 0, 0, 0] (G := [] ++ F0) rfl hs) (q_slice_str rfl (by kernel_rfl) rfl rfl rfl h102.1 h102.2.1 h102.2.2) ?_
                  obtain ⟨r103, h104, hF⟩ := bind_some hF
                  refine aw_only 8 (m' := 2047) (by kernel_rfl) (by kernel_rfl) (pw_call (F := [pt r21_b2 #[.slice p45 ((⟨l44, l48, x51, x52, x53, (⟨x54, x55⟩ : disk_Fall), x56, x57⟩ : disk_Disk).sure_).length c46, .map (some b50), .bool ((⟨l44, l48, x51, x52, x53, (⟨x54, x55⟩ : disk_Fall), x56, x57⟩ : disk_Disk).off_), .bool ((⟨l44, l48, x51, x52, x53, (⟨x54, x55⟩ : disk_Fall), x56, x57⟩ : disk_Disk).armed_), .int .i64 ((⟨l44, l48, x51, x52, x53, (⟨x54, x55⟩ : disk_Fall), x56, x57⟩ : disk_Disk).left_), .int .u64 ((⟨l44, l48, x51, x52, x53, (⟨x54, x55⟩ : disk_Fall), x56, x57⟩ : disk_Disk).fall_.Keep), .int .i64 ((⟨l44, l48, x51, x52, x53, (⟨x54, x55⟩ : disk_Fall), x56, x57⟩ : disk_Disk).fall_.Tear), .int .i64 ((⟨l44, l48, x51, x52, x53, (⟨x54, x55⟩ : disk_Fall), x56, x57⟩ : disk_Disk).acts_), .int .i64 ((⟨l44, l48, x51, x52, x53, (⟨x54, x55⟩ : disk_Fall), x56, x57⟩ : disk_Disk).falls_)] 68, pt r21_b10 #[.pointer (some ⟨r21_b2, 0, none⟩), .int .i64 r21_s9.boot_, .int .i64 r21_s9.n_] 47, own e_disk_sector 70 p45 c46 ((⟨l44, l48, x51, x52, x53, (⟨x54, x55⟩ : disk_Fall), x56, x57⟩ : disk_Disk).sure_), mpo (kInt .i64) (fun x : disk_sector => Value.agg #[.string x.s_, .int .i64 x.at_]) b50 ((⟨l44, l48, x51, x52, x53, (⟨x54, x55⟩ : disk_Fall), x56, x57⟩ : disk_Disk).wait_)] ++ F0) rfl rfl rfl rfl rfl rfl rfl (by kernel_rfl) (perm_of_pulls [0] rfl) (c_law10_eight _ r58.2.1 r103 h104) ?_)
                  rintro _ _ ⟨rfl, rfl⟩
                  refine nw_H (H' := [imm I, pt r21_b2 #[.slice p45 ((⟨l44, l48, x51, x52, x53, (⟨x54, x55⟩ : disk_Fall), x56, x57⟩ : disk_Disk).sure_).length c46, .map (some b50), .bool ((⟨l44, l48, x51, x52, x53, (⟨x54, x55⟩ : disk_Fall), x56, x57⟩ : disk_Disk).off_), .bool ((⟨l44, l48, x51, x52, x53, (⟨x54, x55⟩ : disk_Fall), x56, x57⟩ : disk_Disk).armed_), .int .i64 ((⟨l44, l48, x51, x52, x53, (⟨x54, x55⟩ : disk_Fall), x56, x57⟩ : disk_Disk).left_), .int .u64 ((⟨l44, l48, x51, x52, x53, (⟨x54, x55⟩ : disk_Fall), x56, x57⟩ : disk_Disk).fall_.Keep), .int .i64 ((⟨l44, l48, x51, x52, x53, (⟨x54, x55⟩ : disk_Fall), x56, x57⟩ : disk_Disk).fall_.Tear), .int .i64 ((⟨l44, l48, x51, x52, x53, (⟨x54, x55⟩ : disk_Fall), x56, x57⟩ : disk_Disk).acts_), .int .i64 ((⟨l44, l48, x51, x52, x53, (⟨x54, x55⟩ : disk_Fall), x56, x57⟩ : disk_Disk).falls_)] 68, pt r21_b10 #[.pointer (some ⟨r21_b2, 0, none⟩), .int .i64 r21_s9.boot_, .int .i64 r21_s9.n_] 47, own e_disk_sector 70 p45 c46 ((⟨l44, l48, x51, x52, x53, (⟨x54, x55⟩ : disk_Fall), x56, x57⟩ : disk_Disk).sure_), mpo (kInt .i64) (fun x : disk_sector => Value.agg #[.string x.s_, .int .i64 x.at_]) b50 ((⟨l44, l48, x51, x52, x53, (⟨x54, x55⟩ : disk_Fall), x56, x57⟩ : disk_Disk).wait_)] ++ F0) rfl (aw_next (fun w hs => sat_pulls [0, 0, 0, 0, 0] (G := [] ++ F0) rfl hs) ?_)
                  refine aw_vals [11, 12, 13] (f' := 7) (m' := 16383) [7, 121] [(7, .int .i64 r58.2.2), (121, .bool (seqB r103 (x0.extract (0 : Int).toNat (8 : Int).toNat)))] (fun _ _ _ _ _ h => calm_fin (P := Tryd.prog) (fn := Tryd.f4) _ _ _ _ _ h) (fun w hs => sat_pulls [0, 0, 0, 0, 0] (G := [] ++ F0) rfl hs) rfl (by kernel_rfl) ?_
                  rcases if_some hF with ⟨h105, hF⟩ | ⟨h105, hF⟩
                  · refine aw_slots (L' := [(7, .int .i64 r58.2.2), (121, .bool true)]) (by rw [h105]) ?_
                    refine aw_vals [14, 15, 16, 17] (f' := 3) (m' := 262143) [125] [(125, .bool (r58.2.2 == 0))] (fun _ _ _ _ _ h => calm_fin (P := Tryd.prog) (fn := Tryd.f4) _ _ _ _ _ h) (fun w hs => sat_pulls [0, 0, 0, 0, 0] (G := [] ++ F0) rfl hs) rfl (by kernel_rfl) ?_
                    rcases if_some hF with ⟨h106, hF⟩ | ⟨h106, hF⟩
                    · refine aw_slots (L' := [(125, .bool true)]) (by rw [h106]) ?_
                      obtain ⟨r107, h108, hF⟩ := bind_some hF
                      refine aw_only 18 (m' := 524287) (by kernel_rfl) (by kernel_rfl) (pw_call (F := [pt r21_b2 #[.slice p45 ((⟨l44, l48, x51, x52, x53, (⟨x54, x55⟩ : disk_Fall), x56, x57⟩ : disk_Disk).sure_).length c46, .map (some b50), .bool ((⟨l44, l48, x51, x52, x53, (⟨x54, x55⟩ : disk_Fall), x56, x57⟩ : disk_Disk).off_), .bool ((⟨l44, l48, x51, x52, x53, (⟨x54, x55⟩ : disk_Fall), x56, x57⟩ : disk_Disk).armed_), .int .i64 ((⟨l44, l48, x51, x52, x53, (⟨x54, x55⟩ : disk_Fall), x56, x57⟩ : disk_Disk).left_), .int .u64 ((⟨l44, l48, x51, x52, x53, (⟨x54, x55⟩ : disk_Fall), x56, x57⟩ : disk_Disk).fall_.Keep), .int .i64 ((⟨l44, l48, x51, x52, x53, (⟨x54, x55⟩ : disk_Fall), x56, x57⟩ : disk_Disk).fall_.Tear), .int .i64 ((⟨l44, l48, x51, x52, x53, (⟨x54, x55⟩ : disk_Fall), x56, x57⟩ : disk_Disk).acts_), .int .i64 ((⟨l44, l48, x51, x52, x53, (⟨x54, x55⟩ : disk_Fall), x56, x57⟩ : disk_Disk).falls_)] 68, pt r21_b10 #[.pointer (some ⟨r21_b2, 0, none⟩), .int .i64 r21_s9.boot_, .int .i64 r21_s9.n_] 47, own e_disk_sector 70 p45 c46 ((⟨l44, l48, x51, x52, x53, (⟨x54, x55⟩ : disk_Fall), x56, x57⟩ : disk_Disk).sure_), mpo (kInt .i64) (fun x : disk_sector => Value.agg #[.string x.s_, .int .i64 x.at_]) b50 ((⟨l44, l48, x51, x52, x53, (⟨x54, x55⟩ : disk_Fall), x56, x57⟩ : disk_Disk).wait_)] ++ F0) rfl rfl rfl rfl rfl rfl rfl (by kernel_rfl) (perm_of_pulls [0] rfl) (c_law10_awake _ r107 h108) ?_)
                      rintro _ _ ⟨rfl, rfl⟩
                      refine nw_H (H' := [imm I, pt r21_b2 #[.slice p45 ((⟨l44, l48, x51, x52, x53, (⟨x54, x55⟩ : disk_Fall), x56, x57⟩ : disk_Disk).sure_).length c46, .map (some b50), .bool ((⟨l44, l48, x51, x52, x53, (⟨x54, x55⟩ : disk_Fall), x56, x57⟩ : disk_Disk).off_), .bool ((⟨l44, l48, x51, x52, x53, (⟨x54, x55⟩ : disk_Fall), x56, x57⟩ : disk_Disk).armed_), .int .i64 ((⟨l44, l48, x51, x52, x53, (⟨x54, x55⟩ : disk_Fall), x56, x57⟩ : disk_Disk).left_), .int .u64 ((⟨l44, l48, x51, x52, x53, (⟨x54, x55⟩ : disk_Fall), x56, x57⟩ : disk_Disk).fall_.Keep), .int .i64 ((⟨l44, l48, x51, x52, x53, (⟨x54, x55⟩ : disk_Fall), x56, x57⟩ : disk_Disk).fall_.Tear), .int .i64 ((⟨l44, l48, x51, x52, x53, (⟨x54, x55⟩ : disk_Fall), x56, x57⟩ : disk_Disk).acts_), .int .i64 ((⟨l44, l48, x51, x52, x53, (⟨x54, x55⟩ : disk_Fall), x56, x57⟩ : disk_Disk).falls_)] 68, pt r21_b10 #[.pointer (some ⟨r21_b2, 0, none⟩), .int .i64 r21_s9.boot_, .int .i64 r21_s9.n_] 47, own e_disk_sector 70 p45 c46 ((⟨l44, l48, x51, x52, x53, (⟨x54, x55⟩ : disk_Fall), x56, x57⟩ : disk_Disk).sure_), mpo (kInt .i64) (fun x : disk_sector => Value.agg #[.string x.s_, .int .i64 x.at_]) b50 ((⟨l44, l48, x51, x52, x53, (⟨x54, x55⟩ : disk_Fall), x56, x57⟩ : disk_Disk).wait_)] ++ F0) rfl (aw_next (fun w hs => sat_pulls [0, 0, 0, 0, 0] (G := [] ++ F0) rfl hs) ?_)
                      refine aw_vals [19, 20] (f' := 0) (m' := 2097151) [2] [(2, .bool r107)] (fun _ _ _ _ _ h => calm_fin (P := Tryd.prog) (fn := Tryd.f4) _ _ _ _ _ h) (fun w hs => sat_pulls [0, 0, 0, 0, 0] (G := [] ++ F0) rfl hs) rfl (by kernel_rfl) ?_
                      refine aw_keep [2] (L' := [(2, .bool r107)]) rfl ?_
                      refine aw_end (by kernel_rfl) ?_
                      refine ew_then ?_
                      refine cw_ret ?_
                      have hR := Option.some.inj hF
                      subst hR
                      exact fin1 (H1 := [imm I]) (fun w hs => sat_to [1, 1, 1, 1, 0] 4 rfl hs) rfl (rr_tmp rfl) ⟨rfl, rfl⟩
                    · refine aw_slots (L' := [(125, .bool false)]) (by rw [h106]) ?_
                      refine aw_vals [18, 19, 20] (f' := 0) (m' := 2097151) [2] [(2, .bool false)] (fun _ _ _ _ _ h => calm_fin (P := Tryd.prog) (fn := Tryd.f4) _ _ _ _ _ h) (fun w hs => sat_pulls [0, 0, 0, 0, 0] (G := [] ++ F0) rfl hs) rfl (by kernel_rfl) ?_
                      refine aw_keep [2] (L' := [(2, .bool false)]) rfl ?_
                      refine aw_end (by kernel_rfl) ?_
                      refine ew_then ?_
                      refine cw_ret ?_
                      have hR := Option.some.inj hF
                      subst hR
                      exact fin1 (H1 := [imm I]) (fun w hs => sat_to [1, 1, 1, 1, 0] 4 rfl hs) rfl (rr_tmp rfl) ⟨rfl, rfl⟩
                  · refine aw_slots (L' := [(7, .int .i64 r58.2.2), (121, .bool false)]) (by rw [h105]) ?_
                    refine aw_vals [14, 15, 16, 17, 18, 19, 20] (f' := 0) (m' := 2097151) [2] [(2, .bool false)] (fun _ _ _ _ _ h => calm_fin (P := Tryd.prog) (fn := Tryd.f4) _ _ _ _ _ h) (fun w hs => sat_pulls [0, 0, 0, 0, 0] (G := [] ++ F0) rfl hs) rfl (by kernel_rfl) ?_
                    refine aw_keep [2] (L' := [(2, .bool false)]) rfl ?_
                    refine aw_end (by kernel_rfl) ?_
                    refine ew_then ?_
                    refine cw_ret ?_
                    have hR := Option.some.inj hF
                    subst hR
                    exact fin1 (H1 := [imm I]) (fun w hs => sat_to [1, 1, 1, 1, 0] 4 rfl hs) rfl (rr_tmp rfl) ⟨rfl, rfl⟩
                · refine aw_slots (L' := [(0, .string x0), (6, .int .i64 r58.2.1), (7, .int .i64 r58.2.2), (114, .bool false)]) (by rw [h101]) ?_
                  refine aw_vals [7, 8, 9, 10, 11, 12, 13, 14, 15, 16, 17, 18, 19, 20] (f' := 0) (m' := 2097151) [2] [(2, .bool false)] (fun _ _ _ _ _ h => calm_fin (P := Tryd.prog) (fn := Tryd.f4) _ _ _ _ _ h) (fun w hs => sat_pulls [0, 0, 0, 0, 0] (G := [] ++ F0) rfl hs) rfl (by kernel_rfl) ?_
                  refine aw_keep [2] (L' := [(2, .bool false)]) rfl ?_
                  refine aw_end (by kernel_rfl) ?_
                  refine ew_then ?_
                  refine cw_ret ?_
                  have hR := Option.some.inj hF
                  subst hR
                  exact fin1 (H1 := [imm I]) (fun w hs => sat_to [1, 1, 1, 1, 0] 4 rfl hs) rfl (rr_tmp rfl) ⟨rfl, rfl⟩

end Go.Proofs.YthebdiboijhjmaaDoor
