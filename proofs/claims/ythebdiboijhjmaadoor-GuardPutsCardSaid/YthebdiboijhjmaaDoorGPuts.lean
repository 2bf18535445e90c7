/- What the functions compute, and that the code computes it: printed by a program of this claim (wip/tools), for the group Puts. -/
import Derived.Test.YthebdiboijhjmaaDoorGGuardb
import Derived.Test.YthebdiboijhjmaaDoorGReads
namespace Go.Proofs.YthebdiboijhjmaaDoor
set_option linter.all false
open Go Go.RowKit Go.Fw
set_option linter.unusedVariables false

def F.guard_Guard_Disk (m0 : guard_Guard) (m1 : disk_Disk) : Option Unit :=
  Option.bind (F.guard_Guard_none m0 m1) (fun (r21 : Unit) => some (()))
set_option maxRecDepth 100000 in
set_option maxHeartbeats 4000000 in
theorem c_guard_Guard_Disk (I : Hl) (m0 : guard_Guard) (m1 : disk_Disk) (b0 : Nat) (p0 : Option Addr) (c0 : Nat) (p1 : Nat) (b1 : Nat) (res : Unit) (hF : F.guard_Guard_Disk m0 m1 = some res) : Tr Tryd.prog 20 [.pointer (some ⟨b0, 0, none⟩)] [imm I, pt b0 #[.pointer (some ⟨b1, 0, none⟩), .int .i64 m0.boot_, .int .i64 m0.n_] 47, pt b1 #[.slice p0 m1.sure_.length c0, .map (some p1), .bool m1.off_, .bool m1.armed_, .int .i64 m1.left_, .int .u64 m1.fall_.Keep, .int .i64 m1.fall_.Tear, .int .i64 m1.acts_, .int .i64 m1.falls_] 68, own e_disk_sector 70 p0 c0 m1.sure_, mpo (kInt .i64) (fun x : disk_sector => Value.agg #[.string x.s_, .int .i64 x.at_]) p1 m1.wait_] (fun r H' => r = .pointer (some ⟨b1, 0, none⟩) ∧ H' = [imm I, pt b0 #[.pointer (some ⟨b1, 0, none⟩), .int .i64 m0.boot_, .int .i64 m0.n_] 47, pt b1 #[.slice p0 m1.sure_.length c0, .map (some p1), .bool m1.off_, .bool m1.armed_, .int .i64 m1.left_, .int .u64 m1.fall_.Keep, .int .i64 m1.fall_.Tear, .int .i64 m1.acts_, .int .i64 m1.falls_] 68, own e_disk_sector 70 p0 c0 m1.sure_, mpo (kInt .i64) (fun x : disk_sector => Value.agg #[.string x.s_, .int .i64 x.at_]) p1 m1.wait_]) := by
  unfold F.guard_Guard_Disk at hF
  refine tr_of_cw (fn := Tryd.f20) Tryd.func20 rfl (Nat.le_of_ble_eq_true rfl) 9 rfl fun F0 w0 => ?_
  refine cw_keep [0] (L' := [(0, .pointer (some ⟨b0, 0, none⟩))]) rfl ?_
  refine cw_state (S' := SAT w0 ([imm I, pt b0 #[.pointer (some ⟨b1, 0, none⟩), .int .i64 m0.boot_, .int .i64 m0.n_] 47, pt b1 #[.slice p0 m1.sure_.length c0, .map (some p1), .bool m1.off_, .bool m1.armed_, .int .i64 m1.left_, .int .u64 m1.fall_.Keep, .int .i64 m1.fall_.Tear, .int .i64 m1.acts_, .int .i64 m1.falls_] 68, own e_disk_sector 70 p0 c0 m1.sure_, mpo (kInt .i64) (fun x : disk_sector => Value.agg #[.string x.s_, .int .i64 x.at_]) p1 m1.wait_] ++ F0)) (fun w hs => hs) ?_
  refine cw_seq ?_
  refine cw_region ?_
  refine ow_vals 1 (j := 1) [0] [(0, .pointer (some ⟨b0, 0, none⟩))] rfl (by kernel_rfl) ?_
  refine ow_end rfl ?_
  refine ew_then ?_
  refine cw_seq ?_
  refine cw_seq ?_
  refine cw_region ?_
  refine ow_vals 1 (j := 1) [0, 3] [(0, .pointer (some ⟨b0, 0, none⟩)), (3, .pointer (some ⟨b0, 0, none⟩))] rfl (by kernel_rfl) ?_
  obtain ⟨r21, h22, hF⟩ := bind_some hF
  refine ow_pw rfl (pw_call (F := [] ++ F0) rfl rfl rfl rfl rfl rfl rfl (by kernel_rfl) (perm_of_pulls [0, 0, 0, 0, 0] rfl) (c_guard_Guard_none _ m0 m1 b0 p0 c0 p1 b1 r21 h22) ?_)
  rintro _ _ ⟨rfl, rfl⟩
  refine nw_H (H' := [imm I, pt b0 #[.pointer (some ⟨b1, 0, none⟩), .int .i64 m0.boot_, .int .i64 m0.n_] 47, pt b1 #[.slice p0 m1.sure_.length c0, .map (some p1), .bool m1.off_, .bool m1.armed_, .int .i64 m1.left_, .int .u64 m1.fall_.Keep, .int .i64 m1.fall_.Tear, .int .i64 m1.acts_, .int .i64 m1.falls_] 68, own e_disk_sector 70 p0 c0 m1.sure_, mpo (kInt .i64) (fun x : disk_sector => Value.agg #[.string x.s_, .int .i64 x.at_]) p1 m1.wait_] ++ F0) rfl (nw_ow ?_)
  refine ow_end rfl ?_
  refine ew_then ?_
  refine cw_cond_f rfl rfl rfl ?_
  refine cw_skip ?_
  refine ew_then ?_
  refine cw_seq ?_
  refine cw_region ?_
  refine ow_vals 3 (j := 3) [7] [(7, .pointer (some ⟨b0, 0, none⟩))] rfl (by kernel_rfl) ?_
  refine ow_pw rfl (pw_quiet (v := .pointer (some ⟨b1, 0, none⟩)) rfl rfl rfl rfl (q_load 1 rfl rfl rfl (by kernel_rfl)) (nw_ow ?_))
  refine ow_vals 1 (j := 5) [2] [(2, .pointer (some ⟨b1, 0, none⟩))] rfl (by kernel_rfl) ?_
  refine ow_end rfl ?_
  refine ew_then ?_
  refine cw_ret ?_
  have hR := Option.some.inj hF
  subst hR
  exact fin1 (H1 := [imm I, pt b0 #[.pointer (some ⟨b1, 0, none⟩), .int .i64 m0.boot_, .int .i64 m0.n_] 47, pt b1 #[.slice p0 m1.sure_.length c0, .map (some p1), .bool m1.off_, .bool m1.armed_, .int .i64 m1.left_, .int .u64 m1.fall_.Keep, .int .i64 m1.fall_.Tear, .int .i64 m1.acts_, .int .i64 m1.falls_] 68, own e_disk_sector 70 p0 c0 m1.sure_, mpo (kInt .i64) (fun x : disk_sector => Value.agg #[.string x.s_, .int .i64 x.at_]) p1 m1.wait_]) (fun w hs => sat_to [0, 0, 0, 0, 0] 0 rfl hs) rfl (rr_tmp rfl) ⟨rfl, rfl⟩


def F.disk_Disk_Acts (m0 : disk_Disk) : Option Int :=
  some (m0.acts_)
set_option maxRecDepth 100000 in
set_option maxHeartbeats 4000000 in
theorem c_disk_Disk_Acts (I : Hl) (m0 : disk_Disk) (p0 : Option Addr) (c0 : Nat) (p1 : Nat) (b0 : Nat) (res : Int) (hF : F.disk_Disk_Acts m0 = some res) : Tr Tryd.prog 22 [.pointer (some ⟨b0, 0, none⟩)] [imm I, pt b0 #[.slice p0 m0.sure_.length c0, .map (some p1), .bool m0.off_, .bool m0.armed_, .int .i64 m0.left_, .int .u64 m0.fall_.Keep, .int .i64 m0.fall_.Tear, .int .i64 m0.acts_, .int .i64 m0.falls_] 68, own e_disk_sector 70 p0 c0 m0.sure_, mpo (kInt .i64) (fun x : disk_sector => Value.agg #[.string x.s_, .int .i64 x.at_]) p1 m0.wait_] (fun r H' => r = .int .i64 res ∧ H' = [imm I, pt b0 #[.slice p0 m0.sure_.length c0, .map (some p1), .bool m0.off_, .bool m0.armed_, .int .i64 m0.left_, .int .u64 m0.fall_.Keep, .int .i64 m0.fall_.Tear, .int .i64 m0.acts_, .int .i64 m0.falls_] 68, own e_disk_sector 70 p0 c0 m0.sure_, mpo (kInt .i64) (fun x : disk_sector => Value.agg #[.string x.s_, .int .i64 x.at_]) p1 m0.wait_]) := by
  unfold F.disk_Disk_Acts at hF
  refine tr_of_cw (fn := Tryd.f22) Tryd.func22 rfl (Nat.le_of_ble_eq_true rfl) 9 rfl fun F0 w0 => ?_
  refine cw_keep [0] (L' := [(0, .pointer (some ⟨b0, 0, none⟩))]) rfl ?_
  refine cw_state (S' := SAT w0 ([imm I, pt b0 #[.slice p0 m0.sure_.length c0, .map (some p1), .bool m0.off_, .bool m0.armed_, .int .i64 m0.left_, .int .u64 m0.fall_.Keep, .int .i64 m0.fall_.Tear, .int .i64 m0.acts_, .int .i64 m0.falls_] 68, own e_disk_sector 70 p0 c0 m0.sure_, mpo (kInt .i64) (fun x : disk_sector => Value.agg #[.string x.s_, .int .i64 x.at_]) p1 m0.wait_] ++ F0)) (fun w hs => hs) ?_
  refine cw_seq ?_
  refine cw_region ?_
  refine ow_vals 1 (j := 1) [0] [(0, .pointer (some ⟨b0, 0, none⟩))] rfl (by kernel_rfl) ?_
  refine ow_end rfl ?_
  refine ew_then ?_
  refine cw_seq ?_
  refine cw_seq ?_
  refine cw_region ?_
  refine ow_vals 2 (j := 2) [0, 4] [(0, .pointer (some ⟨b0, 0, none⟩)), (4, .bool false)] rfl (by kernel_rfl) ?_
  refine ow_end rfl ?_
  refine ew_then ?_
  refine cw_cond_f rfl rfl rfl ?_
  refine cw_skip ?_
  refine ew_then ?_
  refine cw_seq ?_
  refine cw_region ?_
  refine ow_vals 3 (j := 3) [7] [(7, .pointer (some ⟨b0, 7, none⟩))] rfl (by kernel_rfl) ?_
  refine ow_pw rfl (pw_quiet (v := .int .i64 m0.acts_) rfl rfl rfl rfl (q_load 1 rfl rfl rfl (by kernel_rfl)) (nw_ow ?_))
  refine ow_vals 1 (j := 5) [2] [(2, .int .i64 m0.acts_)] rfl (by kernel_rfl) ?_
  refine ow_end rfl ?_
  refine ew_then ?_
  refine cw_ret ?_
  have hR := Option.some.inj hF
  subst hR
  exact fin1 (H1 := [imm I, pt b0 #[.slice p0 m0.sure_.length c0, .map (some p1), .bool m0.off_, .bool m0.armed_, .int .i64 m0.left_, .int .u64 m0.fall_.Keep, .int .i64 m0.fall_.Tear, .int .i64 m0.acts_, .int .i64 m0.falls_] 68, own e_disk_sector 70 p0 c0 m0.sure_, mpo (kInt .i64) (fun x : disk_sector => Value.agg #[.string x.s_, .int .i64 x.at_]) p1 m0.wait_]) (fun w hs => sat_to [0, 0, 0, 0] 0 rfl hs) rfl (rr_tmp rfl) ⟨rfl, rfl⟩


def F.law10_GuardPuts.r2 (x40 : Bool) : Option ((Unit) ⊕ (Bool)) :=
  if x40 then (Option.bind (F.law10_awake) (fun (r42 : Bool) => some (.inr (r42)))) else (some (.inl ()))
def F.law10_GuardPuts.r3 : Option (Bool) :=
  some (false)
def F.law10_GuardPuts.r4 (x48 : Bool) : Option ((Unit) ⊕ (Bool)) :=
  if x48 then (some (.inr (false))) else (some (.inl ()))
def F.law10_GuardPuts.r5 : Option (Bool) :=
  some (false)
def F.law10_GuardPuts.r6 (x54 : Bool) : Option ((Unit) ⊕ (Bool)) :=
  if x54 then (some (.inr (false))) else (some (.inl ()))
def F.law10_GuardPuts.r11 (r61 : Int × Int × guard_Guard × disk_Disk) (x77 : Bool) : Option ((Unit) ⊕ (Bool)) :=
  if x77 then (if r61.1 == 0 then (if r61.2.1 == 5 then (Option.bind (F.law10_awake) (fun (r81 : Bool) => some (.inr (r81)))) else (some (.inr (false)))) else (some (.inr (false)))) else (some (.inl ()))
def F.law10_GuardPuts.r12 (x1 : Int) (x2 : ByteArray) (r57 : Int × Int × guard_Guard × disk_Disk) (r61 : Int × Int × guard_Guard × disk_Disk) : Option (Bool) :=
  Option.bind (F.disk_Disk_Read x1 r61.2.2.2) (fun (r83 : ByteArray × Int) => Option.bind (F.guard_Guard_Get x1 r61.2.2.1 r61.2.2.2) (fun (r85 : ByteArray × Int × Int) => Option.bind (F.law10_eight r61.1) (fun (r87 : ByteArray) => if r61.2.1 == 0 then (if r83.2 == 0 then (if r61.1 == (IntKind.i64.wrap (r57.1 + 1)) then (chk (r87.size + (bstr ([IntKind.u8.wrap ((x2.size : Int))] : List Int)).size ≤ 9223372036854775807) (chk ((r87 ++ (bstr ([IntKind.u8.wrap ((x2.size : Int))] : List Int))).size + x2.size ≤ 9223372036854775807) (Option.bind (F.law10_noughts (IntKind.i64.wrap (47 - (x2.size : Int)))) (fun (r96 : ByteArray) => chk (((r87 ++ (bstr ([IntKind.u8.wrap ((x2.size : Int))] : List Int))) ++ x2).size + r96.size ≤ 9223372036854775807) (chk ((((r87 ++ (bstr ([IntKind.u8.wrap ((x2.size : Int))] : List Int))) ++ x2) ++ r96).size + r87.size ≤ 9223372036854775807) (Option.bind (F.guard_Guard_Blank x1 r61.2.2.1 r61.2.2.2) (fun (r104 : Bool) => Option.bind (F.guard_Guard_Disk r61.2.2.1 r61.2.2.2) (fun (r107 : Unit) => Option.bind (F.disk_Disk_Size r61.2.2.2) (fun (r109 : Int) => Option.bind (F.disk_Disk_Acts r61.2.2.2) (fun (r112 : Int) => Option.bind (F.law10_awake) (fun (r115 : Bool) => if seqB r83.1 ((((r87 ++ (bstr ([IntKind.u8.wrap ((x2.size : Int))] : List Int))) ++ x2) ++ r96) ++ r87) then (if seqB r85.1 x2 then (if r85.2.1 == r61.1 then (if r85.2.2 == 0 then (if !r104 then (if r109 == 10 then (if r112 == r112 then (some (r115)) else (some (false))) else (some (false))) else (some (false))) else (some (false))) else (some (false))) else (some (false))) else (some (false))))))))))))) else (some (false))) else (some (false))) else (some (false)))))
def F.law10_GuardPuts.r10 (x1 : Int) (x2 : ByteArray) (r57 : Int × Int × guard_Guard × disk_Disk) (r61 : Int × Int × guard_Guard × disk_Disk) : Option (Bool) :=
  thru (Option.bind (if decide (x1 < 0) then (some (true)) else (some ((decide (x1 ≥ 10))))) (fun x => F.law10_GuardPuts.r11 r61 x)) (fun x => F.law10_GuardPuts.r12 x1 x2 r57 r61)
def F.law10_GuardPuts.r9 (x1 : Int) (x2 : ByteArray) (r57 : Int × Int × guard_Guard × disk_Disk) (r61 : Int × Int × guard_Guard × disk_Disk) : Option (Bool) :=
  thru (if decide ((x2.size : Int) > 47) then (if r61.1 == 0 then (if r61.2.1 == 3 then (Option.bind (F.law10_awake) (fun (r72 : Bool) => some (.inr (r72)))) else (some (.inr (false)))) else (some (.inr (false)))) else (some (.inl ()))) (fun x => F.law10_GuardPuts.r10 x1 x2 r57 r61)
def F.law10_GuardPuts.r8 (x0 : Int) (x1 : Int) (x2 : ByteArray) (x3 : ByteArray) (r28_s1 : disk_Disk) (r28_s9 : guard_Guard) : Option (Bool) :=
  Option.bind (F.guard_Guard_Put 5 x3 r28_s9 r28_s1) (fun (r57 : Int × Int × guard_Guard × disk_Disk) => Option.bind (F.guard_Guard_Put x1 x2 r57.2.2.1 r57.2.2.2) (fun (r61 : Int × Int × guard_Guard × disk_Disk) => thru (if r57.2.1 != 0 then (some (.inr (false))) else (if r57.1 != (IntKind.i64.wrap ((IntKind.i64.wrap (x0 * 4294967296)) + 1)) then (some (.inr (false))) else (some (.inl ())))) (fun x => F.law10_GuardPuts.r9 x1 x2 r57 r61)))
def F.law10_GuardPuts.r7 (x0 : Int) (x1 : Int) (x2 : ByteArray) (x3 : ByteArray) (r28_s1 : disk_Disk) (r28_s9 : guard_Guard) : Option (Bool) :=
  Option.bind (some (())) (fun x => F.law10_GuardPuts.r8 x0 x1 x2 x3 r28_s1 r28_s9)
def F.law10_GuardPuts.r1 (x0 : Int) (x1 : Int) (x2 : ByteArray) (x3 : ByteArray) : Option (Bool) :=
  Option.bind (F.law10_made x0) (fun (r28 : (Option disk_Disk) × (Option guard_Guard)) => optC r28.1 (optC r28.2 (thru (Option.bind (if decide (x0 < 1) then (some (true)) else (some ((decide (x0 > 2147483647))))) (fun x => F.law10_GuardPuts.r2 x)) (fun x => F.law10_GuardPuts.r3)) (fun _ => none)) (fun (r28_s1 : disk_Disk) => optC r28.2 (thru (Option.bind (if decide (x0 < 1) then (some (true)) else (some ((decide (x0 > 2147483647))))) (fun x => F.law10_GuardPuts.r4 x)) (fun x => F.law10_GuardPuts.r5)) (fun (r28_s9 : guard_Guard) => thru (Option.bind (if decide (x0 < 1) then (some (true)) else (some ((decide (x0 > 2147483647))))) (fun x => F.law10_GuardPuts.r6 x)) (fun x => F.law10_GuardPuts.r7 x0 x1 x2 x3 r28_s1 r28_s9))))
def F.law10_GuardPuts (x0 : Int) (x1 : Int) (x2 : ByteArray) (x3 : ByteArray) : Option Bool :=
  thru (if decide ((x2.size : Int) > 100) then (Option.bind (F.law10_awake) (fun (r23 : Bool) => some (.inr (r23)))) else (if decide ((x3.size : Int) > 47) then (Option.bind (F.law10_awake) (fun (r26 : Bool) => some (.inr (r26)))) else (some (.inl ())))) (fun x => F.law10_GuardPuts.r1 x0 x1 x2 x3)
set_option maxRecDepth 100000 in
set_option maxHeartbeats 4000000 in
theorem c_law10_GuardPuts (I : Hl) (x0 : Int) (x1 : Int) (x2 : ByteArray) (x3 : ByteArray) (res : Bool) (hF : F.law10_GuardPuts x0 x1 x2 x3 = some res) : Tr Tryd.prog 5 [.int .i64 x0, .int .i64 x1, .string x2, .string x3] [imm I] (fun r H' => r = .bool res ∧ H' = [imm I]) := by
  unfold F.law10_GuardPuts at hF
  refine tr_of_cw (fn := Tryd.f5) Tryd.func5 rfl (Nat.le_of_ble_eq_true rfl) 189 rfl fun F0 w0 => ?_
  refine cw_keep [0, 1, 2, 3] (L' := [(0, .int .i64 x0), (1, .int .i64 x1), (2, .string x2), (3, .string x3)]) rfl ?_
  refine cw_state (S' := SAT w0 ([imm I] ++ F0)) (fun w hs => hs) ?_
  refine cw_seq ?_
  refine cw_region ?_
  refine ow_vals 1 (j := 1) [0, 1, 2, 3] [(0, .int .i64 x0), (1, .int .i64 x1), (2, .string x2), (3, .string x3)] rfl (by kernel_rfl) ?_
  refine ow_end rfl ?_
  refine ew_then ?_
  obtain ⟨v21, hF, hK21⟩ := thru_some hF
  refine cw_mid (fun a w => .inl () = v21 ∧ Fr 189 [(0, .int .i64 x0), (1, .int .i64 x1), (2, .string x2), (3, .string x3)] a ∧ SAT w0 ([imm I] ++ F0) w) ?_ ?_
  · refine cw_seq ?_
    refine cw_region ?_
    refine ow_vals 4 (j := 4) [0, 1, 2, 3, 24] [(0, .int .i64 x0), (1, .int .i64 x1), (2, .string x2), (3, .string x3), (24, .bool (decide ((x2.size : Int) > 100)))] rfl (by kernel_rfl) ?_
    rcases if_some hF with ⟨h22, hF⟩ | ⟨h22, hF⟩
    · refine ow_slots (L' := [(0, .int .i64 x0), (1, .int .i64 x1), (2, .string x2), (3, .string x3), (24, .bool true)]) (by rw [h22]) ?_
      refine ow_vals 4 (j := 8) [0, 1, 2, 3, 28] [(0, .int .i64 x0), (1, .int .i64 x1), (2, .string x2), (3, .string x3), (28, .bool true)] rfl (by kernel_rfl) ?_
      refine ow_end rfl ?_
      refine ew_then ?_
      refine cw_cond_t rfl rfl rfl ?_
      refine cw_seq ?_
      refine cw_region ?_
      obtain ⟨r23, h24, hF⟩ := bind_some hF
      refine ow_pw rfl (pw_call (F := [] ++ F0) rfl rfl rfl rfl rfl rfl rfl (by kernel_rfl) (perm_of_pulls [0] rfl) (c_law10_awake _ r23 h24) ?_)
      rintro _ _ ⟨rfl, rfl⟩
      refine nw_H (H' := [imm I] ++ F0) rfl (nw_ow ?_)
      refine ow_vals 1 (j := 2) [8] [(8, .bool r23)] rfl (by kernel_rfl) ?_
      refine ow_end rfl ?_
      refine ew_then ?_
      refine cw_ret ?_
      refine ew_then_ret ?_
      have hR := Option.some.inj hF
      subst hR
      have hR := hK21
      try dsimp only [Thru] at hR
      subst hR
      exact fin1 (H1 := [imm I]) (fun w hs => sat_to [0] 0 rfl hs) rfl (rr_tmp rfl) ⟨rfl, rfl⟩
    · refine ow_slots (L' := [(0, .int .i64 x0), (1, .int .i64 x1), (2, .string x2), (3, .string x3), (24, .bool false)]) (by rw [h22]) ?_
      refine ow_vals 4 (j := 8) [0, 1, 2, 3, 28] [(0, .int .i64 x0), (1, .int .i64 x1), (2, .string x2), (3, .string x3), (28, .bool (decide ((x3.size : Int) > 47)))] rfl (by kernel_rfl) ?_
      refine ow_end rfl ?_
      refine ew_then ?_
      rcases if_some hF with ⟨h25, hF⟩ | ⟨h25, hF⟩
      · refine cw_cond_t rfl rfl h25 ?_
        refine cw_seq ?_
        refine cw_region ?_
        obtain ⟨r26, h27, hF⟩ := bind_some hF
        refine ow_pw rfl (pw_call (F := [] ++ F0) rfl rfl rfl rfl rfl rfl rfl (by kernel_rfl) (perm_of_pulls [0] rfl) (c_law10_awake _ r26 h27) ?_)
        rintro _ _ ⟨rfl, rfl⟩
        refine nw_H (H' := [imm I] ++ F0) rfl (nw_ow ?_)
        refine ow_vals 1 (j := 2) [8] [(8, .bool r26)] rfl (by kernel_rfl) ?_
        refine ow_end rfl ?_
        refine ew_then ?_
        refine cw_ret ?_
        refine ew_then_ret ?_
        have hR := Option.some.inj hF
        subst hR
        have hR := hK21
        try dsimp only [Thru] at hR
        subst hR
        exact fin1 (H1 := [imm I]) (fun w hs => sat_to [0] 0 rfl hs) rfl (rr_tmp rfl) ⟨rfl, rfl⟩
      · refine cw_cond_f rfl rfl h25 ?_
        refine cw_skip ?_
        have hR := Option.some.inj hF
        exact fun a w hf hs => ⟨hR, hf.keep [0, 1, 2, 3], sat_to [0] 0 rfl hs⟩
  · as_aux_lemma =>
      rintro a w ⟨hv, hf, hs⟩
      subst hv
      replace hF := hK21
      clear hK21
      try dsimp only [Thru] at hF
      revert a w
      show CW _ _ _ 189 [(0, .int .i64 x0), (1, .int .i64 x1), (2, .string x2), (3, .string x3)] (SAT w0 ([imm I] ++ F0))
      unfold F.law10_GuardPuts.r1 at hF
      refine cw_seq ?_
      refine cw_region ?_
      refine ow_vals 1 (j := 1) [0, 1, 2, 3, 31] [(0, .int .i64 x0), (1, .int .i64 x1), (2, .string x2), (3, .string x3), (31, .int .i64 x0)] rfl (by kernel_rfl) ?_
      obtain ⟨r28, h29, hF⟩ := bind_some hF
      refine ow_pw rfl (pw_call (F := [] ++ F0) rfl rfl rfl rfl rfl rfl rfl (by kernel_rfl) (perm_of_pulls [0] rfl) (c_law10_made _ x0 r28 h29) ?_)
      rintro _ _ (⟨hO, hO1, rfl, rfl⟩ | ⟨r28_s1, r28_b2, r28_p4, r28_c5, r28_b7, hO, hO1, rfl, rfl⟩ | ⟨r28_s1, r28_b2, r28_p4, r28_c5, r28_b7, r28_s9, r28_b10, hO, hO1, rfl, rfl⟩)
      · rw [hO] at hF
        try dsimp only [optC] at hF
        rw [hO1] at hF
        try dsimp only [optC] at hF
        refine nw_H (H' := [imm I] ++ F0) rfl (nw_ow ?_)
        refine ow_vals 5 (j := 7) [0, 1, 2, 3, 9, 10] [(0, .int .i64 x0), (1, .int .i64 x1), (2, .string x2), (3, .string x3), (9, .pointer none), (10, .pointer none)] rfl (by kernel_rfl) ?_
        refine ow_end rfl ?_
        refine ew_then ?_
        obtain ⟨v37, hF, hK37⟩ := thru_some hF
        refine cw_mid (fun a w => .inl () = v37 ∧ Fr 189 [(0, .int .i64 x0), (1, .int .i64 x1), (2, .string x2), (3, .string x3), (9, .pointer none), (10, .pointer none)] a ∧ SAT w0 ([imm I] ++ F0) w) ?_ ?_
        · obtain ⟨v38, hF, hK38⟩ := bind_some hF
          refine cw_mid (fun a w => ∃ (x40 : Bool), x40 = v38 ∧ Fr 189 [(0, .int .i64 x0), (1, .int .i64 x1), (2, .string x2), (3, .string x3), (9, .pointer none), (10, .pointer none), (40, .bool x40)] a ∧ SAT w0 ([imm I] ++ F0) w) ?_ ?_
          · refine cw_region ?_
            refine ow_vals 3 (j := 3) [0, 1, 2, 3, 9, 10, 37] [(0, .int .i64 x0), (1, .int .i64 x1), (2, .string x2), (3, .string x3), (9, .pointer none), (10, .pointer none), (37, .bool (decide (x0 < 1)))] rfl (by kernel_rfl) ?_
            rcases if_some hF with ⟨h39, hF⟩ | ⟨h39, hF⟩
            · refine ow_slots (L' := [(0, .int .i64 x0), (1, .int .i64 x1), (2, .string x2), (3, .string x3), (9, .pointer none), (10, .pointer none), (37, .bool true)]) (by rw [h39]) ?_
              refine ow_vals 3 (j := 6) [0, 1, 2, 3, 9, 10, 40] [(0, .int .i64 x0), (1, .int .i64 x1), (2, .string x2), (3, .string x3), (9, .pointer none), (10, .pointer none), (40, .bool true)] rfl (by kernel_rfl) ?_
              refine ow_end rfl ?_
              have hR := Option.some.inj hF
              exact fun a w hf hs => ⟨true, hR, hf.keep [0, 1, 2, 3, 9, 10, 40], sat_to [0] 0 rfl hs⟩
            · refine ow_slots (L' := [(0, .int .i64 x0), (1, .int .i64 x1), (2, .string x2), (3, .string x3), (9, .pointer none), (10, .pointer none), (37, .bool false)]) (by rw [h39]) ?_
              refine ow_vals 3 (j := 6) [0, 1, 2, 3, 9, 10, 40] [(0, .int .i64 x0), (1, .int .i64 x1), (2, .string x2), (3, .string x3), (9, .pointer none), (10, .pointer none), (40, .bool (decide (x0 > 2147483647)))] rfl (by kernel_rfl) ?_
              refine ow_end rfl ?_
              have hR := Option.some.inj hF
              exact fun a w hf hs => ⟨decide (x0 > 2147483647), hR, hf.keep [0, 1, 2, 3, 9, 10, 40], sat_to [0] 0 rfl hs⟩
          · as_aux_lemma =>
              rintro a w ⟨x40, hv, hf, hs⟩
              subst hv
              replace hF := hK38
              clear hK38
              try dsimp only at hF
              revert a w
              show CW _ _ _ 189 [(0, .int .i64 x0), (1, .int .i64 x1), (2, .string x2), (3, .string x3), (9, .pointer none), (10, .pointer none), (40, .bool x40)] (SAT w0 ([imm I] ++ F0))
              unfold F.law10_GuardPuts.r2 at hF
              rcases if_some hF with ⟨h41, hF⟩ | ⟨h41, hF⟩
              · refine cw_cond_t rfl rfl h41 ?_
                refine cw_seq ?_
                refine cw_region ?_
                refine ow_vals 7 (j := 7) [47] [(47, .bool true)] rfl (by kernel_rfl) ?_
                obtain ⟨r42, h43, hF⟩ := bind_some hF
                refine ow_pw rfl (pw_call (F := [] ++ F0) rfl rfl rfl rfl rfl rfl rfl (by kernel_rfl) (perm_of_pulls [0] rfl) (c_law10_awake _ r42 h43) ?_)
                rintro _ _ ⟨rfl, rfl⟩
                refine nw_H (H' := [imm I] ++ F0) rfl (nw_ow ?_)
                refine ow_vals 2 (j := 10) [8] [(8, .bool r42)] rfl (by kernel_rfl) ?_
                refine ow_end rfl ?_
                refine ew_then ?_
                refine cw_ret ?_
                refine ew_then_ret ?_
                have hR := Option.some.inj hF
                subst hR
                have hR := hK37
                try dsimp only [Thru] at hR
                subst hR
                exact fin1 (H1 := [imm I]) (fun w hs => sat_to [0] 0 rfl hs) rfl (rr_tmp rfl) ⟨rfl, rfl⟩
              · refine cw_cond_f rfl rfl h41 ?_
                refine cw_skip ?_
                have hR := Option.some.inj hF
                exact fun a w hf hs => ⟨hR, hf.keep [0, 1, 2, 3, 9, 10], sat_to [0] 0 rfl hs⟩
        · as_aux_lemma =>
            rintro a w ⟨hv, hf, hs⟩
            subst hv
            replace hF := hK37
            clear hK37
            try dsimp only [Thru] at hF
            revert a w
            show CW _ _ _ 189 [(0, .int .i64 x0), (1, .int .i64 x1), (2, .string x2), (3, .string x3), (9, .pointer none), (10, .pointer none)] (SAT w0 ([imm I] ++ F0))
            unfold F.law10_GuardPuts.r3 at hF
            refine cw_seq ?_
            refine cw_seq ?_
            refine cw_region ?_
            refine ow_vals 6 (j := 6) [0, 1, 2, 3, 9, 10, 55] [(0, .int .i64 x0), (1, .int .i64 x1), (2, .string x2), (3, .string x3), (9, .pointer none), (10, .pointer none), (55, .bool true)] rfl (by kernel_rfl) ?_
            refine ow_end rfl ?_
            refine ew_then ?_
            refine cw_cond_t rfl rfl rfl ?_
            refine cw_seq ?_
            refine cw_region ?_
            refine ow_vals 1 (j := 1) [8] [(8, .bool false)] rfl (by kernel_rfl) ?_
            refine ow_end rfl ?_
            refine ew_then ?_
            refine cw_ret ?_
            refine ew_then_ret ?_
            have hR := Option.some.inj hF
            subst hR
            exact fin1 (H1 := [imm I]) (fun w hs => sat_to [0] 0 rfl hs) rfl (rr_tmp rfl) ⟨rfl, rfl⟩
      · rw [hO] at hF
        try dsimp only [optC] at hF
        rw [hO1] at hF
        try dsimp only [optC] at hF
        refine nw_H (H' := [imm I, pt r28_b2 #[.slice r28_p4 r28_s1.sure_.length r28_c5, .map (some r28_b7), .bool r28_s1.off_, .bool r28_s1.armed_, .int .i64 r28_s1.left_, .int .u64 r28_s1.fall_.Keep, .int .i64 r28_s1.fall_.Tear, .int .i64 r28_s1.acts_, .int .i64 r28_s1.falls_] 68, own e_disk_sector 70 r28_p4 r28_c5 r28_s1.sure_, mpo (kInt .i64) (fun x : disk_sector => Value.agg #[.string x.s_, .int .i64 x.at_]) r28_b7 r28_s1.wait_] ++ F0) rfl (nw_ow ?_)
        refine ow_vals 5 (j := 7) [0, 1, 2, 3, 9, 10] [(0, .int .i64 x0), (1, .int .i64 x1), (2, .string x2), (3, .string x3), (9, .pointer (some ⟨r28_b2, 0, none⟩)), (10, .pointer none)] rfl (by kernel_rfl) ?_
        refine ow_end rfl ?_
        refine ew_then ?_
        obtain ⟨v45, hF, hK45⟩ := thru_some hF
        refine cw_mid (fun a w => .inl () = v45 ∧ Fr 189 [(0, .int .i64 x0), (1, .int .i64 x1), (2, .string x2), (3, .string x3), (9, .pointer (some ⟨r28_b2, 0, none⟩)), (10, .pointer none)] a ∧ SAT w0 ([imm I, pt r28_b2 #[.slice r28_p4 r28_s1.sure_.length r28_c5, .map (some r28_b7), .bool r28_s1.off_, .bool r28_s1.armed_, .int .i64 r28_s1.left_, .int .u64 r28_s1.fall_.Keep, .int .i64 r28_s1.fall_.Tear, .int .i64 r28_s1.acts_, .int .i64 r28_s1.falls_] 68, own e_disk_sector 70 r28_p4 r28_c5 r28_s1.sure_, mpo (kInt .i64) (fun x : disk_sector => Value.agg #[.string x.s_, .int .i64 x.at_]) r28_b7 r28_s1.wait_] ++ F0) w) ?_ ?_
        · obtain ⟨v46, hF, hK46⟩ := bind_some hF
          refine cw_mid (fun a w => ∃ (x48 : Bool), x48 = v46 ∧ Fr 189 [(0, .int .i64 x0), (1, .int .i64 x1), (2, .string x2), (3, .string x3), (9, .pointer (some ⟨r28_b2, 0, none⟩)), (10, .pointer none), (40, .bool x48)] a ∧ SAT w0 ([imm I, pt r28_b2 #[.slice r28_p4 r28_s1.sure_.length r28_c5, .map (some r28_b7), .bool r28_s1.off_, .bool r28_s1.armed_, .int .i64 r28_s1.left_, .int .u64 r28_s1.fall_.Keep, .int .i64 r28_s1.fall_.Tear, .int .i64 r28_s1.acts_, .int .i64 r28_s1.falls_] 68, own e_disk_sector 70 r28_p4 r28_c5 r28_s1.sure_, mpo (kInt .i64) (fun x : disk_sector => Value.agg #[.string x.s_, .int .i64 x.at_]) r28_b7 r28_s1.wait_] ++ F0) w) ?_ ?_
          · refine cw_region ?_
            refine ow_vals 3 (j := 3) [0, 1, 2, 3, 9, 10, 37] [(0, .int .i64 x0), (1, .int .i64 x1), (2, .string x2), (3, .string x3), (9, .pointer (some ⟨r28_b2, 0, none⟩)), (10, .pointer none), (37, .bool (decide (x0 < 1)))] rfl (by kernel_rfl) ?_
            rcases if_some hF with ⟨h47, hF⟩ | ⟨h47, hF⟩
            · refine ow_slots (L' := [(0, .int .i64 x0), (1, .int .i64 x1), (2, .string x2), (3, .string x3), (9, .pointer (some ⟨r28_b2, 0, none⟩)), (10, .pointer none), (37, .bool true)]) (by rw [h47]) ?_
              refine ow_vals 3 (j := 6) [0, 1, 2, 3, 9, 10, 40] [(0, .int .i64 x0), (1, .int .i64 x1), (2, .string x2), (3, .string x3), (9, .pointer (some ⟨r28_b2, 0, none⟩)), (10, .pointer none), (40, .bool true)] rfl (by kernel_rfl) ?_
              refine ow_end rfl ?_
              have hR := Option.some.inj hF
              exact fun a w hf hs => ⟨true, hR, hf.keep [0, 1, 2, 3, 9, 10, 40], sat_to [0, 0, 0, 0] 0 rfl hs⟩
            · refine ow_slots (L' := [(0, .int .i64 x0), (1, .int .i64 x1), (2, .string x2), (3, .string x3), (9, .pointer (some ⟨r28_b2, 0, none⟩)), (10, .pointer none), (37, .bool false)]) (by rw [h47]) ?_
              refine ow_vals 3 (j := 6) [0, 1, 2, 3, 9, 10, 40] [(0, .int .i64 x0), (1, .int .i64 x1), (2, .string x2), (3, .string x3), (9, .pointer (some ⟨r28_b2, 0, none⟩)), (10, .pointer none), (40, .bool (decide (x0 > 2147483647)))] rfl (by kernel_rfl) ?_
              refine ow_end rfl ?_
              have hR := Option.some.inj hF
              exact fun a w hf hs => ⟨decide (x0 > 2147483647), hR, hf.keep [0, 1, 2, 3, 9, 10, 40], sat_to [0, 0, 0, 0] 0 rfl hs⟩
          · as_aux_lemma =>
              rintro a w ⟨x48, hv, hf, hs⟩
              subst hv
              replace hF := hK46
              clear hK46
              try dsimp only at hF
              revert a w
              show CW _ _ _ 189 [(0, .int .i64 x0), (1, .int .i64 x1), (2, .string x2), (3, .string x3), (9, .pointer (some ⟨r28_b2, 0, none⟩)), (10, .pointer none), (40, .bool x48)] (SAT w0 ([imm I, pt r28_b2 #[.slice r28_p4 r28_s1.sure_.length r28_c5, .map (some r28_b7), .bool r28_s1.off_, .bool r28_s1.armed_, .int .i64 r28_s1.left_, .int .u64 r28_s1.fall_.Keep, .int .i64 r28_s1.fall_.Tear, .int .i64 r28_s1.acts_, .int .i64 r28_s1.falls_] 68, own e_disk_sector 70 r28_p4 r28_c5 r28_s1.sure_, mpo (kInt .i64) (fun x : disk_sector => Value.agg #[.string x.s_, .int .i64 x.at_]) r28_b7 r28_s1.wait_] ++ F0))
              unfold F.law10_GuardPuts.r4 at hF
              rcases if_some hF with ⟨h49, hF⟩ | ⟨h49, hF⟩
              · refine cw_cond_t rfl rfl h49 ?_
                refine cw_seq ?_
                refine cw_region ?_
                refine ow_vals 10 (j := 10) [8] [(8, .bool false)] rfl (by kernel_rfl) ?_
                refine ow_end rfl ?_
                refine ew_then ?_
                refine cw_ret ?_
                refine ew_then_ret ?_
                have hR := Option.some.inj hF
                subst hR
                have hR := hK45
                try dsimp only [Thru] at hR
                subst hR
                exact fin1 (H1 := [imm I]) (fun w hs => sat_to [1, 1, 1, 0] 3 rfl hs) rfl (rr_tmp rfl) ⟨rfl, rfl⟩
              · refine cw_cond_f rfl rfl h49 ?_
                refine cw_skip ?_
                have hR := Option.some.inj hF
                exact fun a w hf hs => ⟨hR, hf.keep [0, 1, 2, 3, 9, 10], sat_to [0, 0, 0, 0] 0 rfl hs⟩
        · as_aux_lemma =>
            rintro a w ⟨hv, hf, hs⟩
            subst hv
            replace hF := hK45
            clear hK45
            try dsimp only [Thru] at hF
            revert a w
            show CW _ _ _ 189 [(0, .int .i64 x0), (1, .int .i64 x1), (2, .string x2), (3, .string x3), (9, .pointer (some ⟨r28_b2, 0, none⟩)), (10, .pointer none)] (SAT w0 ([imm I, pt r28_b2 #[.slice r28_p4 r28_s1.sure_.length r28_c5, .map (some r28_b7), .bool r28_s1.off_, .bool r28_s1.armed_, .int .i64 r28_s1.left_, .int .u64 r28_s1.fall_.Keep, .int .i64 r28_s1.fall_.Tear, .int .i64 r28_s1.acts_, .int .i64 r28_s1.falls_] 68, own e_disk_sector 70 r28_p4 r28_c5 r28_s1.sure_, mpo (kInt .i64) (fun x : disk_sector => Value.agg #[.string x.s_, .int .i64 x.at_]) r28_b7 r28_s1.wait_] ++ F0))
            unfold F.law10_GuardPuts.r5 at hF
            refine cw_seq ?_
            refine cw_seq ?_
            refine cw_region ?_
            refine ow_vals 6 (j := 6) [0, 1, 2, 3, 9, 10, 55] [(0, .int .i64 x0), (1, .int .i64 x1), (2, .string x2), (3, .string x3), (9, .pointer (some ⟨r28_b2, 0, none⟩)), (10, .pointer none), (55, .bool true)] rfl (by kernel_rfl) ?_
            refine ow_end rfl ?_
            refine ew_then ?_
            refine cw_cond_t rfl rfl rfl ?_
            refine cw_seq ?_
            refine cw_region ?_
            refine ow_vals 1 (j := 1) [8] [(8, .bool false)] rfl (by kernel_rfl) ?_
            refine ow_end rfl ?_
            refine ew_then ?_
            refine cw_ret ?_
            refine ew_then_ret ?_
            have hR := Option.some.inj hF
            subst hR
            exact fin1 (H1 := [imm I]) (fun w hs => sat_to [1, 1, 1, 0] 3 rfl hs) rfl (rr_tmp rfl) ⟨rfl, rfl⟩
      · rw [hO] at hF
        try dsimp only [optC] at hF
        rw [hO1] at hF
        try dsimp only [optC] at hF
        refine nw_H (H' := [imm I, pt r28_b2 #[.slice r28_p4 r28_s1.sure_.length r28_c5, .map (some r28_b7), .bool r28_s1.off_, .bool r28_s1.armed_, .int .i64 r28_s1.left_, .int .u64 r28_s1.fall_.Keep, .int .i64 r28_s1.fall_.Tear, .int .i64 r28_s1.acts_, .int .i64 r28_s1.falls_] 68, pt r28_b10 #[.pointer (some ⟨r28_b2, 0, none⟩), .int .i64 r28_s9.boot_, .int .i64 r28_s9.n_] 47, own e_disk_sector 70 r28_p4 r28_c5 r28_s1.sure_, mpo (kInt .i64) (fun x : disk_sector => Value.agg #[.string x.s_, .int .i64 x.at_]) r28_b7 r28_s1.wait_] ++ F0) rfl (nw_ow ?_)
        refine ow_vals 5 (j := 7) [0, 1, 2, 3, 9, 10] [(0, .int .i64 x0), (1, .int .i64 x1), (2, .string x2), (3, .string x3), (9, .pointer (some ⟨r28_b2, 0, none⟩)), (10, .pointer (some ⟨r28_b10, 0, none⟩))] rfl (by kernel_rfl) ?_
        refine ow_end rfl ?_
        refine ew_then ?_
        obtain ⟨v51, hF, hK51⟩ := thru_some hF
        refine cw_mid (fun a w => .inl () = v51 ∧ Fr 189 [(0, .int .i64 x0), (1, .int .i64 x1), (2, .string x2), (3, .string x3), (9, .pointer (some ⟨r28_b2, 0, none⟩)), (10, .pointer (some ⟨r28_b10, 0, none⟩))] a ∧ SAT w0 ([imm I, pt r28_b2 #[.slice r28_p4 r28_s1.sure_.length r28_c5, .map (some r28_b7), .bool r28_s1.off_, .bool r28_s1.armed_, .int .i64 r28_s1.left_, .int .u64 r28_s1.fall_.Keep, .int .i64 r28_s1.fall_.Tear, .int .i64 r28_s1.acts_, .int .i64 r28_s1.falls_] 68, pt r28_b10 #[.pointer (some ⟨r28_b2, 0, none⟩), .int .i64 r28_s9.boot_, .int .i64 r28_s9.n_] 47, own e_disk_sector 70 r28_p4 r28_c5 r28_s1.sure_, mpo (kInt .i64) (fun x : disk_sector => Value.agg #[.string x.s_, .int .i64 x.at_]) r28_b7 r28_s1.wait_] ++ F0) w) ?_ ?_
        · obtain ⟨v52, hF, hK52⟩ := bind_some hF
          refine cw_mid (fun a w => ∃ (x54 : Bool), x54 = v52 ∧ Fr 189 [(0, .int .i64 x0), (1, .int .i64 x1), (2, .string x2), (3, .string x3), (9, .pointer (some ⟨r28_b2, 0, none⟩)), (10, .pointer (some ⟨r28_b10, 0, none⟩)), (40, .bool x54)] a ∧ SAT w0 ([imm I, pt r28_b2 #[.slice r28_p4 r28_s1.sure_.length r28_c5, .map (some r28_b7), .bool r28_s1.off_, .bool r28_s1.armed_, .int .i64 r28_s1.left_, .int .u64 r28_s1.fall_.Keep, .int .i64 r28_s1.fall_.Tear, .int .i64 r28_s1.acts_, .int .i64 r28_s1.falls_] 68, pt r28_b10 #[.pointer (some ⟨r28_b2, 0, none⟩), .int .i64 r28_s9.boot_, .int .i64 r28_s9.n_] 47, own e_disk_sector 70 r28_p4 r28_c5 r28_s1.sure_, mpo (kInt .i64) (fun x : disk_sector => Value.agg #[.string x.s_, .int .i64 x.at_]) r28_b7 r28_s1.wait_] ++ F0) w) ?_ ?_
          · refine cw_region ?_
            refine ow_vals 3 (j := 3) [0, 1, 2, 3, 9, 10, 37] [(0, .int .i64 x0), (1, .int .i64 x1), (2, .string x2), (3, .string x3), (9, .pointer (some ⟨r28_b2, 0, none⟩)), (10, .pointer (some ⟨r28_b10, 0, none⟩)), (37, .bool (decide (x0 < 1)))] rfl (by kernel_rfl) ?_
            rcases if_some hF with ⟨h53, hF⟩ | ⟨h53, hF⟩
            · refine ow_slots (L' := [(0, .int .i64 x0), (1, .int .i64 x1), (2, .string x2), (3, .string x3), (9, .pointer (some ⟨r28_b2, 0, none⟩)), (10, .pointer (some ⟨r28_b10, 0, none⟩)), (37, .bool true)]) (by rw [h53]) ?_
              refine ow_vals 3 (j := 6) [0, 1, 2, 3, 9, 10, 40] [(0, .int .i64 x0), (1, .int .i64 x1), (2, .string x2), (3, .string x3), (9, .pointer (some ⟨r28_b2, 0, none⟩)), (10, .pointer (some ⟨r28_b10, 0, none⟩)), (40, .bool true)] rfl (by kernel_rfl) ?_
              refine ow_end rfl ?_
              have hR := Option.some.inj hF
              exact fun a w hf hs => ⟨true, hR, hf.keep [0, 1, 2, 3, 9, 10, 40], sat_to [0, 0, 0, 0, 0] 0 rfl hs⟩
            · refine ow_slots (L' := [(0, .int .i64 x0), (1, .int .i64 x1), (2, .string x2), (3, .string x3), (9, .pointer (some ⟨r28_b2, 0, none⟩)), (10, .pointer (some ⟨r28_b10, 0, none⟩)), (37, .bool false)]) (by rw [h53]) ?_
              refine ow_vals 3 (j := 6) [0, 1, 2, 3, 9, 10, 40] [(0, .int .i64 x0), (1, .int .i64 x1), (2, .string x2), (3, .string x3), (9, .pointer (some ⟨r28_b2, 0, none⟩)), (10, .pointer (some ⟨r28_b10, 0, none⟩)), (40, .bool (decide (x0 > 2147483647)))] rfl (by kernel_rfl) ?_
              refine ow_end rfl ?_
              have hR := Option.some.inj hF
              exact fun a w hf hs => ⟨decide (x0 > 2147483647), hR, hf.keep [0, 1, 2, 3, 9, 10, 40], sat_to [0, 0, 0, 0, 0] 0 rfl hs⟩
          · as_aux_lemma =>
              rintro a w ⟨x54, hv, hf, hs⟩
              subst hv
              replace hF := hK52
              clear hK52
              try dsimp only at hF
              revert a w
              show CW _ _ _ 189 [(0, .int .i64 x0), (1, .int .i64 x1), (2, .string x2), (3, .string x3), (9, .pointer (some ⟨r28_b2, 0, none⟩)), (10, .pointer (some ⟨r28_b10, 0, none⟩)), (40, .bool x54)] (SAT w0 ([imm I, pt r28_b2 #[.slice r28_p4 r28_s1.sure_.length r28_c5, .map (some r28_b7), .bool r28_s1.off_, .bool r28_s1.armed_, .int .i64 r28_s1.left_, .int .u64 r28_s1.fall_.Keep, .int .i64 r28_s1.fall_.Tear, .int .i64 r28_s1.acts_, .int .i64 r28_s1.falls_] 68, pt r28_b10 #[.pointer (some ⟨r28_b2, 0, none⟩), .int .i64 r28_s9.boot_, .int .i64 r28_s9.n_] 47, own e_disk_sector 70 r28_p4 r28_c5 r28_s1.sure_, mpo (kInt .i64) (fun x : disk_sector => Value.agg #[.string x.s_, .int .i64 x.at_]) r28_b7 r28_s1.wait_] ++ F0))
              unfold F.law10_GuardPuts.r6 at hF
              rcases if_some hF with ⟨h55, hF⟩ | ⟨h55, hF⟩
              · refine cw_cond_t rfl rfl h55 ?_
                refine cw_seq ?_
                refine cw_region ?_
                refine ow_vals 10 (j := 10) [8] [(8, .bool false)] rfl (by kernel_rfl) ?_
                refine ow_end rfl ?_
                refine ew_then ?_
                refine cw_ret ?_
                refine ew_then_ret ?_
                have hR := Option.some.inj hF
                subst hR
                have hR := hK51
                try dsimp only [Thru] at hR
                subst hR
                exact fin1 (H1 := [imm I]) (fun w hs => sat_to [1, 1, 1, 1, 0] 4 rfl hs) rfl (rr_tmp rfl) ⟨rfl, rfl⟩
              · refine cw_cond_f rfl rfl h55 ?_
                refine cw_skip ?_
                have hR := Option.some.inj hF
                exact fun a w hf hs => ⟨hR, hf.keep [0, 1, 2, 3, 9, 10], sat_to [0, 0, 0, 0, 0] 0 rfl hs⟩
        · as_aux_lemma =>
            rintro a w ⟨hv, hf, hs⟩
            subst hv
            replace hF := hK51
            clear hK51
            try dsimp only [Thru] at hF
            revert a w
            show CW _ _ _ 189 [(0, .int .i64 x0), (1, .int .i64 x1), (2, .string x2), (3, .string x3), (9, .pointer (some ⟨r28_b2, 0, none⟩)), (10, .pointer (some ⟨r28_b10, 0, none⟩))] (SAT w0 ([imm I, pt r28_b2 #[.slice r28_p4 r28_s1.sure_.length r28_c5, .map (some r28_b7), .bool r28_s1.off_, .bool r28_s1.armed_, .int .i64 r28_s1.left_, .int .u64 r28_s1.fall_.Keep, .int .i64 r28_s1.fall_.Tear, .int .i64 r28_s1.acts_, .int .i64 r28_s1.falls_] 68, pt r28_b10 #[.pointer (some ⟨r28_b2, 0, none⟩), .int .i64 r28_s9.boot_, .int .i64 r28_s9.n_] 47, own e_disk_sector 70 r28_p4 r28_c5 r28_s1.sure_, mpo (kInt .i64) (fun x : disk_sector => Value.agg #[.string x.s_, .int .i64 x.at_]) r28_b7 r28_s1.wait_] ++ F0))
            unfold F.law10_GuardPuts.r7 at hF
            obtain ⟨v56, hF, hK56⟩ := bind_some hF
            refine cw_mid (fun a w => () = v56 ∧ Fr 189 [(0, .int .i64 x0), (1, .int .i64 x1), (2, .string x2), (3, .string x3), (9, .pointer (some ⟨r28_b2, 0, none⟩)), (10, .pointer (some ⟨r28_b10, 0, none⟩))] a ∧ SAT w0 ([imm I, pt r28_b2 #[.slice r28_p4 r28_s1.sure_.length r28_c5, .map (some r28_b7), .bool r28_s1.off_, .bool r28_s1.armed_, .int .i64 r28_s1.left_, .int .u64 r28_s1.fall_.Keep, .int .i64 r28_s1.fall_.Tear, .int .i64 r28_s1.acts_, .int .i64 r28_s1.falls_] 68, pt r28_b10 #[.pointer (some ⟨r28_b2, 0, none⟩), .int .i64 r28_s9.boot_, .int .i64 r28_s9.n_] 47, own e_disk_sector 70 r28_p4 r28_c5 r28_s1.sure_, mpo (kInt .i64) (fun x : disk_sector => Value.agg #[.string x.s_, .int .i64 x.at_]) r28_b7 r28_s1.wait_] ++ F0) w) ?_ ?_
            · refine cw_seq ?_
              refine cw_region ?_
              refine ow_vals 6 (j := 6) [0, 1, 2, 3, 9, 10, 55] [(0, .int .i64 x0), (1, .int .i64 x1), (2, .string x2), (3, .string x3), (9, .pointer (some ⟨r28_b2, 0, none⟩)), (10, .pointer (some ⟨r28_b10, 0, none⟩)), (55, .bool false)] rfl (by kernel_rfl) ?_
              refine ow_end rfl ?_
              refine ew_then ?_
              refine cw_cond_f rfl rfl rfl ?_
              refine cw_skip ?_
              have hR := Option.some.inj hF
              exact fun a w hf hs => ⟨hR, hf.keep [0, 1, 2, 3, 9, 10], sat_to [0, 0, 0, 0, 0] 0 rfl hs⟩
            · as_aux_lemma =>
                rintro a w ⟨hv, hf, hs⟩
                subst hv
                replace hF := hK56
                clear hK56
                try dsimp only at hF
                revert a w
                show CW _ _ _ 189 [(0, .int .i64 x0), (1, .int .i64 x1), (2, .string x2), (3, .string x3), (9, .pointer (some ⟨r28_b2, 0, none⟩)), (10, .pointer (some ⟨r28_b10, 0, none⟩))] (SAT w0 ([imm I, pt r28_b2 #[.slice r28_p4 r28_s1.sure_.length r28_c5, .map (some r28_b7), .bool r28_s1.off_, .bool r28_s1.armed_, .int .i64 r28_s1.left_, .int .u64 r28_s1.fall_.Keep, .int .i64 r28_s1.fall_.Tear, .int .i64 r28_s1.acts_, .int .i64 r28_s1.falls_] 68, pt r28_b10 #[.pointer (some ⟨r28_b2, 0, none⟩), .int .i64 r28_s9.boot_, .int .i64 r28_s9.n_] 47, own e_disk_sector 70 r28_p4 r28_c5 r28_s1.sure_, mpo (kInt .i64) (fun x : disk_sector => Value.agg #[.string x.s_, .int .i64 x.at_]) r28_b7 r28_s1.wait_] ++ F0))
                unfold F.law10_GuardPuts.r8 at hF
                refine cw_seq ?_
                refine cw_region ?_
                refine ow_vals 2 (j := 2) [0, 1, 2, 9, 10, 57, 58] [(0, .int .i64 x0), (1, .int .i64 x1), (2, .string x2), (9, .pointer (some ⟨r28_b2, 0, none⟩)), (10, .pointer (some ⟨r28_b10, 0, none⟩)), (57, .pointer (some ⟨r28_b10, 0, none⟩)), (58, .string x3)] rfl (by kernel_rfl) ?_
                obtain ⟨r57, h58, hF⟩ := bind_some hF
                refine ow_pw rfl (pw_call (F := [] ++ F0) rfl rfl rfl rfl rfl rfl rfl (by kernel_rfl) (perm_of_pulls [0, 1, 0, 0, 0] rfl) (c_guard_Guard_Put _ 5 x3 r28_s9 r28_s1 r28_b10 r28_p4 r28_c5 r28_b7 r28_b2 r57 h58) ?_)
                rintro _ _ ⟨r57_p1, r57_c2, r57_b4, rfl, rfl⟩
                refine nw_H (H' := [imm I, pt r28_b10 #[.pointer (some ⟨r28_b2, 0, none⟩), .int .i64 r57.2.2.1.boot_, .int .i64 r57.2.2.1.n_] 47, pt r28_b2 #[.slice r57_p1 r57.2.2.2.sure_.length r57_c2, .map (some r57_b4), .bool r57.2.2.2.off_, .bool r57.2.2.2.armed_, .int .i64 r57.2.2.2.left_, .int .u64 r57.2.2.2.fall_.Keep, .int .i64 r57.2.2.2.fall_.Tear, .int .i64 r57.2.2.2.acts_, .int .i64 r57.2.2.2.falls_] 68, own e_disk_sector 70 r57_p1 r57_c2 r57.2.2.2.sure_, mpo (kInt .i64) (fun x : disk_sector => Value.agg #[.string x.s_, .int .i64 x.at_]) r57_b4 r57.2.2.2.wait_] ++ F0) rfl (nw_ow ?_)
                refine ow_vals 5 (j := 8) [0, 1, 2, 9, 10, 11, 12] [(0, .int .i64 x0), (1, .int .i64 x1), (2, .string x2), (9, .pointer (some ⟨r28_b2, 0, none⟩)), (10, .pointer (some ⟨r28_b10, 0, none⟩)), (11, .int .i64 r57.1), (12, .int .i64 r57.2.1)] rfl (by kernel_rfl) ?_
                refine ow_end rfl ?_
                refine ew_then ?_
                refine cw_seq ?_
                refine cw_region ?_
                refine ow_vals 3 (j := 3) [0, 1, 2, 9, 10, 11, 12, 63, 64, 65] [(0, .int .i64 x0), (1, .int .i64 x1), (2, .string x2), (9, .pointer (some ⟨r28_b2, 0, none⟩)), (10, .pointer (some ⟨r28_b10, 0, none⟩)), (11, .int .i64 r57.1), (12, .int .i64 r57.2.1), (63, .pointer (some ⟨r28_b10, 0, none⟩)), (64, .int .i64 x1), (65, .string x2)] rfl (by kernel_rfl) ?_
                obtain ⟨r61, h62, hF⟩ := bind_some hF
                refine ow_pw rfl (pw_call (F := [] ++ F0) rfl rfl rfl rfl rfl rfl rfl (by kernel_rfl) (perm_of_pulls [0, 0, 0, 0, 0] rfl) (c_guard_Guard_Put _ x1 x2 r57.2.2.1 r57.2.2.2 r28_b10 r57_p1 r57_c2 r57_b4 r28_b2 r61 h62) ?_)
                rintro _ _ ⟨r61_p1, r61_c2, r61_b4, rfl, rfl⟩
                refine nw_H (H' := [imm I, pt r28_b10 #[.pointer (some ⟨r28_b2, 0, none⟩), .int .i64 r61.2.2.1.boot_, .int .i64 r61.2.2.1.n_] 47, pt r28_b2 #[.slice r61_p1 r61.2.2.2.sure_.length r61_c2, .map (some r61_b4), .bool r61.2.2.2.off_, .bool r61.2.2.2.armed_, .int .i64 r61.2.2.2.left_, .int .u64 r61.2.2.2.fall_.Keep, .int .i64 r61.2.2.2.fall_.Tear, .int .i64 r61.2.2.2.acts_, .int .i64 r61.2.2.2.falls_] 68, own e_disk_sector 70 r61_p1 r61_c2 r61.2.2.2.sure_, mpo (kInt .i64) (fun x : disk_sector => Value.agg #[.string x.s_, .int .i64 x.at_]) r61_b4 r61.2.2.2.wait_] ++ F0) rfl (nw_ow ?_)
                refine ow_vals 5 (j := 9) [0, 1, 2, 9, 10, 11, 12, 13, 14] [(0, .int .i64 x0), (1, .int .i64 x1), (2, .string x2), (9, .pointer (some ⟨r28_b2, 0, none⟩)), (10, .pointer (some ⟨r28_b10, 0, none⟩)), (11, .int .i64 r57.1), (12, .int .i64 r57.2.1), (13, .int .i64 r61.1), (14, .int .i64 r61.2.1)] rfl (by kernel_rfl) ?_
                refine ow_end rfl ?_
                refine ew_then ?_
                obtain ⟨v65, hF, hK65⟩ := thru_some hF
                refine cw_mid (fun a w => .inl () = v65 ∧ Fr 189 [(1, .int .i64 x1), (2, .string x2), (9, .pointer (some ⟨r28_b2, 0, none⟩)), (10, .pointer (some ⟨r28_b10, 0, none⟩)), (11, .int .i64 r57.1), (13, .int .i64 r61.1), (14, .int .i64 r61.2.1)] a ∧ SAT w0 ([imm I, pt r28_b10 #[.pointer (some ⟨r28_b2, 0, none⟩), .int .i64 r61.2.2.1.boot_, .int .i64 r61.2.2.1.n_] 47, pt r28_b2 #[.slice r61_p1 r61.2.2.2.sure_.length r61_c2, .map (some r61_b4), .bool r61.2.2.2.off_, .bool r61.2.2.2.armed_, .int .i64 r61.2.2.2.left_, .int .u64 r61.2.2.2.fall_.Keep, .int .i64 r61.2.2.2.fall_.Tear, .int .i64 r61.2.2.2.acts_, .int .i64 r61.2.2.2.falls_] 68, own e_disk_sector 70 r61_p1 r61_c2 r61.2.2.2.sure_, mpo (kInt .i64) (fun x : disk_sector => Value.agg #[.string x.s_, .int .i64 x.at_]) r61_b4 r61.2.2.2.wait_] ++ F0) w) ?_ ?_
                · refine cw_seq ?_
                  refine cw_region ?_
                  refine ow_vals 3 (j := 3) [0, 1, 2, 9, 10, 11, 13, 14, 71] [(0, .int .i64 x0), (1, .int .i64 x1), (2, .string x2), (9, .pointer (some ⟨r28_b2, 0, none⟩)), (10, .pointer (some ⟨r28_b10, 0, none⟩)), (11, .int .i64 r57.1), (13, .int .i64 r61.1), (14, .int .i64 r61.2.1), (71, .bool (r57.2.1 != 0))] rfl (by kernel_rfl) ?_
                  rcases if_some hF with ⟨h66, hF⟩ | ⟨h66, hF⟩
                  · refine ow_slots (L' := [(0, .int .i64 x0), (1, .int .i64 x1), (2, .string x2), (9, .pointer (some ⟨r28_b2, 0, none⟩)), (10, .pointer (some ⟨r28_b10, 0, none⟩)), (11, .int .i64 r57.1), (13, .int .i64 r61.1), (14, .int .i64 r61.2.1), (71, .bool true)]) (by rw [h66]) ?_
                    refine ow_vals 6 (j := 9) [1, 2, 9, 10, 11, 13, 14, 77] [(1, .int .i64 x1), (2, .string x2), (9, .pointer (some ⟨r28_b2, 0, none⟩)), (10, .pointer (some ⟨r28_b10, 0, none⟩)), (11, .int .i64 r57.1), (13, .int .i64 r61.1), (14, .int .i64 r61.2.1), (77, .bool true)] rfl (by kernel_rfl) ?_
                    refine ow_end rfl ?_
                    refine ew_then ?_
                    refine cw_cond_t rfl rfl rfl ?_
                    refine cw_seq ?_
                    refine cw_region ?_
                    refine ow_vals 1 (j := 1) [8] [(8, .bool false)] rfl (by kernel_rfl) ?_
                    refine ow_end rfl ?_
                    refine ew_then ?_
                    refine cw_ret ?_
                    refine ew_then_ret ?_
                    have hR := Option.some.inj hF
                    subst hR
                    have hR := hK65
                    try dsimp only [Thru] at hR
                    subst hR
                    exact fin1 (H1 := [imm I]) (fun w hs => sat_to [1, 1, 1, 1, 0] 4 rfl hs) rfl (rr_tmp rfl) ⟨rfl, rfl⟩
                  · refine ow_slots (L' := [(0, .int .i64 x0), (1, .int .i64 x1), (2, .string x2), (9, .pointer (some ⟨r28_b2, 0, none⟩)), (10, .pointer (some ⟨r28_b10, 0, none⟩)), (11, .int .i64 r57.1), (13, .int .i64 r61.1), (14, .int .i64 r61.2.1), (71, .bool false)]) (by rw [h66]) ?_
                    refine ow_vals 6 (j := 9) [1, 2, 9, 10, 11, 13, 14, 77] [(1, .int .i64 x1), (2, .string x2), (9, .pointer (some ⟨r28_b2, 0, none⟩)), (10, .pointer (some ⟨r28_b10, 0, none⟩)), (11, .int .i64 r57.1), (13, .int .i64 r61.1), (14, .int .i64 r61.2.1), (77, .bool (r57.1 != (IntKind.i64.wrap ((IntKind.i64.wrap (x0 * 4294967296)) + 1))))] rfl (by kernel_rfl) ?_
                    refine ow_end rfl ?_
                    refine ew_then ?_
                    rcases if_some hF with ⟨h67, hF⟩ | ⟨h67, hF⟩
                    · refine cw_cond_t rfl rfl h67 ?_
                      refine cw_seq ?_
                      refine cw_region ?_
                      refine ow_vals 1 (j := 1) [8] [(8, .bool false)] rfl (by kernel_rfl) ?_
                      refine ow_end rfl ?_
                      refine ew_then ?_
                      refine cw_ret ?_
                      refine ew_then_ret ?_
                      have hR := Option.some.inj hF
                      subst hR
                      have hR := hK65
                      try dsimp only [Thru] at hR
                      subst hR
                      exact fin1 (H1 := [imm I]) (fun w hs => sat_to [1, 1, 1, 1, 0] 4 rfl hs) rfl (rr_tmp rfl) ⟨rfl, rfl⟩
                    · refine cw_cond_f rfl rfl h67 ?_
                      refine cw_skip ?_
                      have hR := Option.some.inj hF
                      exact fun a w hf hs => ⟨hR, hf.keep [1, 2, 9, 10, 11, 13, 14], sat_to [0, 0, 0, 0, 0] 0 rfl hs⟩
                · as_aux_lemma =>
                    rintro a w ⟨hv, hf, hs⟩
                    subst hv
                    replace hF := hK65
                    clear hK65
                    try dsimp only [Thru] at hF
                    revert a w
                    show CW _ _ _ 189 [(1, .int .i64 x1), (2, .string x2), (9, .pointer (some ⟨r28_b2, 0, none⟩)), (10, .pointer (some ⟨r28_b10, 0, none⟩)), (11, .int .i64 r57.1), (13, .int .i64 r61.1), (14, .int .i64 r61.2.1)] (SAT w0 ([imm I, pt r28_b10 #[.pointer (some ⟨r28_b2, 0, none⟩), .int .i64 r61.2.2.1.boot_, .int .i64 r61.2.2.1.n_] 47, pt r28_b2 #[.slice r61_p1 r61.2.2.2.sure_.length r61_c2, .map (some r61_b4), .bool r61.2.2.2.off_, .bool r61.2.2.2.armed_, .int .i64 r61.2.2.2.left_, .int .u64 r61.2.2.2.fall_.Keep, .int .i64 r61.2.2.2.fall_.Tear, .int .i64 r61.2.2.2.acts_, .int .i64 r61.2.2.2.falls_] 68, own e_disk_sector 70 r61_p1 r61_c2 r61.2.2.2.sure_, mpo (kInt .i64) (fun x : disk_sector => Value.agg #[.string x.s_, .int .i64 x.at_]) r61_b4 r61.2.2.2.wait_] ++ F0))
                    unfold F.law10_GuardPuts.r9 at hF
                    obtain ⟨v68, hF, hK68⟩ := thru_some hF
                    refine cw_mid (fun a w => .inl () = v68 ∧ Fr 189 [(1, .int .i64 x1), (2, .string x2), (9, .pointer (some ⟨r28_b2, 0, none⟩)), (10, .pointer (some ⟨r28_b10, 0, none⟩)), (11, .int .i64 r57.1), (13, .int .i64 r61.1), (14, .int .i64 r61.2.1)] a ∧ SAT w0 ([imm I, pt r28_b10 #[.pointer (some ⟨r28_b2, 0, none⟩), .int .i64 r61.2.2.1.boot_, .int .i64 r61.2.2.1.n_] 47, pt r28_b2 #[.slice r61_p1 r61.2.2.2.sure_.length r61_c2, .map (some r61_b4), .bool r61.2.2.2.off_, .bool r61.2.2.2.armed_, .int .i64 r61.2.2.2.left_, .int .u64 r61.2.2.2.fall_.Keep, .int .i64 r61.2.2.2.fall_.Tear, .int .i64 r61.2.2.2.acts_, .int .i64 r61.2.2.2.falls_] 68, own e_disk_sector 70 r61_p1 r61_c2 r61.2.2.2.sure_, mpo (kInt .i64) (fun x : disk_sector => Value.agg #[.string x.s_, .int .i64 x.at_]) r61_b4 r61.2.2.2.wait_] ++ F0) w) ?_ ?_
                    · refine cw_seq ?_
                      refine cw_region ?_
                      refine ow_vals 3 (j := 3) [1, 2, 9, 10, 11, 13, 14, 80] [(1, .int .i64 x1), (2, .string x2), (9, .pointer (some ⟨r28_b2, 0, none⟩)), (10, .pointer (some ⟨r28_b10, 0, none⟩)), (11, .int .i64 r57.1), (13, .int .i64 r61.1), (14, .int .i64 r61.2.1), (80, .bool (decide ((x2.size : Int) > 47)))] rfl (by kernel_rfl) ?_
                      refine ow_end rfl ?_
                      refine ew_then ?_
                      rcases if_some hF with ⟨h69, hF⟩ | ⟨h69, hF⟩
                      · refine cw_cond_t rfl rfl h69 ?_
                        refine cw_seq ?_
                        refine cw_region ?_
                        refine ow_vals 3 (j := 3) [14, 83] [(14, .int .i64 r61.2.1), (83, .bool (r61.1 == 0))] rfl (by kernel_rfl) ?_
                        rcases if_some hF with ⟨h70, hF⟩ | ⟨h70, hF⟩
                        · refine ow_slots (L' := [(14, .int .i64 r61.2.1), (83, .bool true)]) (by rw [h70]) ?_
                          refine ow_vals 4 (j := 7) [87] [(87, .bool (r61.2.1 == 3))] rfl (by kernel_rfl) ?_
                          rcases if_some hF with ⟨h71, hF⟩ | ⟨h71, hF⟩
                          · refine ow_slots (L' := [(87, .bool true)]) (by rw [h71]) ?_
                            obtain ⟨r72, h73, hF⟩ := bind_some hF
                            refine ow_pw rfl (pw_call (F := [pt r28_b10 #[.pointer (some ⟨r28_b2, 0, none⟩), .int .i64 r61.2.2.1.boot_, .int .i64 r61.2.2.1.n_] 47, pt r28_b2 #[.slice r61_p1 r61.2.2.2.sure_.length r61_c2, .map (some r61_b4), .bool r61.2.2.2.off_, .bool r61.2.2.2.armed_, .int .i64 r61.2.2.2.left_, .int .u64 r61.2.2.2.fall_.Keep, .int .i64 r61.2.2.2.fall_.Tear, .int .i64 r61.2.2.2.acts_, .int .i64 r61.2.2.2.falls_] 68, own e_disk_sector 70 r61_p1 r61_c2 r61.2.2.2.sure_, mpo (kInt .i64) (fun x : disk_sector => Value.agg #[.string x.s_, .int .i64 x.at_]) r61_b4 r61.2.2.2.wait_] ++ F0) rfl rfl rfl rfl rfl rfl rfl (by kernel_rfl) (perm_of_pulls [0] rfl) (c_law10_awake _ r72 h73) ?_)
                            rintro _ _ ⟨rfl, rfl⟩
                            refine nw_H (H' := [imm I, pt r28_b10 #[.pointer (some ⟨r28_b2, 0, none⟩), .int .i64 r61.2.2.1.boot_, .int .i64 r61.2.2.1.n_] 47, pt r28_b2 #[.slice r61_p1 r61.2.2.2.sure_.length r61_c2, .map (some r61_b4), .bool r61.2.2.2.off_, .bool r61.2.2.2.armed_, .int .i64 r61.2.2.2.left_, .int .u64 r61.2.2.2.fall_.Keep, .int .i64 r61.2.2.2.fall_.Tear, .int .i64 r61.2.2.2.acts_, .int .i64 r61.2.2.2.falls_] 68, own e_disk_sector 70 r61_p1 r61_c2 r61.2.2.2.sure_, mpo (kInt .i64) (fun x : disk_sector => Value.agg #[.string x.s_, .int .i64 x.at_]) r61_b4 r61.2.2.2.wait_] ++ F0) rfl (nw_ow ?_)
                            refine ow_vals 2 (j := 10) [8] [(8, .bool r72)] rfl (by kernel_rfl) ?_
                            refine ow_end rfl ?_
                            refine ew_then ?_
                            refine cw_ret ?_
                            refine ew_then_ret ?_
                            have hR := Option.some.inj hF
                            subst hR
                            have hR := hK68
                            try dsimp only [Thru] at hR
                            subst hR
                            exact fin1 (H1 := [imm I]) (fun w hs => sat_to [1, 1, 1, 1, 0] 4 rfl hs) rfl (rr_tmp rfl) ⟨rfl, rfl⟩
                          · refine ow_slots (L' := [(87, .bool false)]) (by rw [h71]) ?_
                            refine ow_vals 3 (j := 10) [8] [(8, .bool false)] rfl (by kernel_rfl) ?_
                            refine ow_end rfl ?_
                            refine ew_then ?_
                            refine cw_ret ?_
                            refine ew_then_ret ?_
                            have hR := Option.some.inj hF
                            subst hR
                            have hR := hK68
                            try dsimp only [Thru] at hR
                            subst hR
                            exact fin1 (H1 := [imm I]) (fun w hs => sat_to [1, 1, 1, 1, 0] 4 rfl hs) rfl (rr_tmp rfl) ⟨rfl, rfl⟩
                        · refine ow_slots (L' := [(14, .int .i64 r61.2.1), (83, .bool false)]) (by rw [h70]) ?_
                          refine ow_vals 7 (j := 10) [8] [(8, .bool false)] rfl (by kernel_rfl) ?_
                          refine ow_end rfl ?_
                          refine ew_then ?_
                          refine cw_ret ?_
                          refine ew_then_ret ?_
                          have hR := Option.some.inj hF
                          subst hR
                          have hR := hK68
                          try dsimp only [Thru] at hR
                          subst hR
                          exact fin1 (H1 := [imm I]) (fun w hs => sat_to [1, 1, 1, 1, 0] 4 rfl hs) rfl (rr_tmp rfl) ⟨rfl, rfl⟩
                      · refine cw_cond_f rfl rfl h69 ?_
                        refine cw_skip ?_
                        have hR := Option.some.inj hF
                        exact fun a w hf hs => ⟨hR, hf.keep [1, 2, 9, 10, 11, 13, 14], sat_to [0, 0, 0, 0, 0] 0 rfl hs⟩
                    · as_aux_lemma =>
                        rintro a w ⟨hv, hf, hs⟩
                        subst hv
                        replace hF := hK68
                        clear hK68
                        try dsimp only [Thru] at hF
                        revert a w
                        show CW _ _ _ 189 [(1, .int .i64 x1), (2, .string x2), (9, .pointer (some ⟨r28_b2, 0, none⟩)), (10, .pointer (some ⟨r28_b10, 0, none⟩)), (11, .int .i64 r57.1), (13, .int .i64 r61.1), (14, .int .i64 r61.2.1)] (SAT w0 ([imm I, pt r28_b10 #[.pointer (some ⟨r28_b2, 0, none⟩), .int .i64 r61.2.2.1.boot_, .int .i64 r61.2.2.1.n_] 47, pt r28_b2 #[.slice r61_p1 r61.2.2.2.sure_.length r61_c2, .map (some r61_b4), .bool r61.2.2.2.off_, .bool r61.2.2.2.armed_, .int .i64 r61.2.2.2.left_, .int .u64 r61.2.2.2.fall_.Keep, .int .i64 r61.2.2.2.fall_.Tear, .int .i64 r61.2.2.2.acts_, .int .i64 r61.2.2.2.falls_] 68, own e_disk_sector 70 r61_p1 r61_c2 r61.2.2.2.sure_, mpo (kInt .i64) (fun x : disk_sector => Value.agg #[.string x.s_, .int .i64 x.at_]) r61_b4 r61.2.2.2.wait_] ++ F0))
                        unfold F.law10_GuardPuts.r10 at hF
                        obtain ⟨v74, hF, hK74⟩ := thru_some hF
                        refine cw_mid (fun a w => .inl () = v74 ∧ Fr 189 [(1, .int .i64 x1), (2, .string x2), (9, .pointer (some ⟨r28_b2, 0, none⟩)), (10, .pointer (some ⟨r28_b10, 0, none⟩)), (11, .int .i64 r57.1), (13, .int .i64 r61.1), (14, .int .i64 r61.2.1)] a ∧ SAT w0 ([imm I, pt r28_b10 #[.pointer (some ⟨r28_b2, 0, none⟩), .int .i64 r61.2.2.1.boot_, .int .i64 r61.2.2.1.n_] 47, pt r28_b2 #[.slice r61_p1 r61.2.2.2.sure_.length r61_c2, .map (some r61_b4), .bool r61.2.2.2.off_, .bool r61.2.2.2.armed_, .int .i64 r61.2.2.2.left_, .int .u64 r61.2.2.2.fall_.Keep, .int .i64 r61.2.2.2.fall_.Tear, .int .i64 r61.2.2.2.acts_, .int .i64 r61.2.2.2.falls_] 68, own e_disk_sector 70 r61_p1 r61_c2 r61.2.2.2.sure_, mpo (kInt .i64) (fun x : disk_sector => Value.agg #[.string x.s_, .int .i64 x.at_]) r61_b4 r61.2.2.2.wait_] ++ F0) w) ?_ ?_
                        · obtain ⟨v75, hF, hK75⟩ := bind_some hF
                          refine cw_mid (fun a w => ∃ (x77 : Bool), x77 = v75 ∧ Fr 189 [(1, .int .i64 x1), (2, .string x2), (9, .pointer (some ⟨r28_b2, 0, none⟩)), (10, .pointer (some ⟨r28_b10, 0, none⟩)), (11, .int .i64 r57.1), (13, .int .i64 r61.1), (14, .int .i64 r61.2.1), (95, .bool x77)] a ∧ SAT w0 ([imm I, pt r28_b10 #[.pointer (some ⟨r28_b2, 0, none⟩), .int .i64 r61.2.2.1.boot_, .int .i64 r61.2.2.1.n_] 47, pt r28_b2 #[.slice r61_p1 r61.2.2.2.sure_.length r61_c2, .map (some r61_b4), .bool r61.2.2.2.off_, .bool r61.2.2.2.armed_, .int .i64 r61.2.2.2.left_, .int .u64 r61.2.2.2.fall_.Keep, .int .i64 r61.2.2.2.fall_.Tear, .int .i64 r61.2.2.2.acts_, .int .i64 r61.2.2.2.falls_] 68, own e_disk_sector 70 r61_p1 r61_c2 r61.2.2.2.sure_, mpo (kInt .i64) (fun x : disk_sector => Value.agg #[.string x.s_, .int .i64 x.at_]) r61_b4 r61.2.2.2.wait_] ++ F0) w) ?_ ?_
                          · refine cw_region ?_
                            refine ow_vals 3 (j := 3) [1, 2, 9, 10, 11, 13, 14, 92] [(1, .int .i64 x1), (2, .string x2), (9, .pointer (some ⟨r28_b2, 0, none⟩)), (10, .pointer (some ⟨r28_b10, 0, none⟩)), (11, .int .i64 r57.1), (13, .int .i64 r61.1), (14, .int .i64 r61.2.1), (92, .bool (decide (x1 < 0)))] rfl (by kernel_rfl) ?_
                            rcases if_some hF with ⟨h76, hF⟩ | ⟨h76, hF⟩
                            · refine ow_slots (L' := [(1, .int .i64 x1), (2, .string x2), (9, .pointer (some ⟨r28_b2, 0, none⟩)), (10, .pointer (some ⟨r28_b10, 0, none⟩)), (11, .int .i64 r57.1), (13, .int .i64 r61.1), (14, .int .i64 r61.2.1), (92, .bool true)]) (by rw [h76]) ?_
                              refine ow_vals 3 (j := 6) [1, 2, 9, 10, 11, 13, 14, 95] [(1, .int .i64 x1), (2, .string x2), (9, .pointer (some ⟨r28_b2, 0, none⟩)), (10, .pointer (some ⟨r28_b10, 0, none⟩)), (11, .int .i64 r57.1), (13, .int .i64 r61.1), (14, .int .i64 r61.2.1), (95, .bool true)] rfl (by kernel_rfl) ?_
                              refine ow_end rfl ?_
                              have hR := Option.some.inj hF
                              exact fun a w hf hs => ⟨true, hR, hf.keep [1, 2, 9, 10, 11, 13, 14, 95], sat_to [0, 0, 0, 0, 0] 0 rfl hs⟩
                            · refine ow_slots (L' := [(1, .int .i64 x1), (2, .string x2), (9, .pointer (some ⟨r28_b2, 0, none⟩)), (10, .pointer (some ⟨r28_b10, 0, none⟩)), (11, .int .i64 r57.1), (13, .int .i64 r61.1), (14, .int .i64 r61.2.1), (92, .bool false)]) (by rw [h76]) ?_
                              refine ow_vals 3 (j := 6) [1, 2, 9, 10, 11, 13, 14, 95] [(1, .int .i64 x1), (2, .string x2), (9, .pointer (some ⟨r28_b2, 0, none⟩)), (10, .pointer (some ⟨r28_b10, 0, none⟩)), (11, .int .i64 r57.1), (13, .int .i64 r61.1), (14, .int .i64 r61.2.1), (95, .bool (decide (x1 ≥ 10)))] rfl (by kernel_rfl) ?_
                              refine ow_end rfl ?_
                              have hR := Option.some.inj hF
                              exact fun a w hf hs => ⟨decide (x1 ≥ 10), hR, hf.keep [1, 2, 9, 10, 11, 13, 14, 95], sat_to [0, 0, 0, 0, 0] 0 rfl hs⟩
                          · as_aux_lemma =>
                              rintro a w ⟨x77, hv, hf, hs⟩
                              subst hv
                              replace hF := hK75
                              clear hK75
                              try dsimp only at hF
                              revert a w
                              show CW _ _ _ 189 [(1, .int .i64 x1), (2, .string x2), (9, .pointer (some ⟨r28_b2, 0, none⟩)), (10, .pointer (some ⟨r28_b10, 0, none⟩)), (11, .int .i64 r57.1), (13, .int .i64 r61.1), (14, .int .i64 r61.2.1), (95, .bool x77)] (SAT w0 ([imm I, pt r28_b10 #[.pointer (some ⟨r28_b2, 0, none⟩), .int .i64 r61.2.2.1.boot_, .int .i64 r61.2.2.1.n_] 47, pt r28_b2 #[.slice r61_p1 r61.2.2.2.sure_.length r61_c2, .map (some r61_b4), .bool r61.2.2.2.off_, .bool r61.2.2.2.armed_, .int .i64 r61.2.2.2.left_, .int .u64 r61.2.2.2.fall_.Keep, .int .i64 r61.2.2.2.fall_.Tear, .int .i64 r61.2.2.2.acts_, .int .i64 r61.2.2.2.falls_] 68, own e_disk_sector 70 r61_p1 r61_c2 r61.2.2.2.sure_, mpo (kInt .i64) (fun x : disk_sector => Value.agg #[.string x.s_, .int .i64 x.at_]) r61_b4 r61.2.2.2.wait_] ++ F0))
                              unfold F.law10_GuardPuts.r11 at hF
                              rcases if_some hF with ⟨h78, hF⟩ | ⟨h78, hF⟩
                              · refine cw_cond_t rfl rfl h78 ?_
                                refine cw_seq ?_
                                refine cw_region ?_
                                refine ow_vals 3 (j := 3) [14, 98] [(14, .int .i64 r61.2.1), (98, .bool (r61.1 == 0))] rfl (by kernel_rfl) ?_
                                rcases if_some hF with ⟨h79, hF⟩ | ⟨h79, hF⟩
                                · refine ow_slots (L' := [(14, .int .i64 r61.2.1), (98, .bool true)]) (by rw [h79]) ?_
                                  refine ow_vals 4 (j := 7) [102] [(102, .bool (r61.2.1 == 5))] rfl (by kernel_rfl) ?_
                                  rcases if_some hF with ⟨h80, hF⟩ | ⟨h80, hF⟩
                                  · refine ow_slots (L' := [(102, .bool true)]) (by rw [h80]) ?_
                                    obtain ⟨r81, h82, hF⟩ := bind_some hF
                                    refine ow_pw rfl (pw_call (F := [pt r28_b10 #[.pointer (some ⟨r28_b2, 0, none⟩), .int .i64 r61.2.2.1.boot_, .int .i64 r61.2.2.1.n_] 47, pt r28_b2 #[.slice r61_p1 r61.2.2.2.sure_.length r61_c2, .map (some r61_b4), .bool r61.2.2.2.off_, .bool r61.2.2.2.armed_, .int .i64 r61.2.2.2.left_, .int .u64 r61.2.2.2.fall_.Keep, .int .i64 r61.2.2.2.fall_.Tear, .int .i64 r61.2.2.2.acts_, .int .i64 r61.2.2.2.falls_] 68, own e_disk_sector 70 r61_p1 r61_c2 r61.2.2.2.sure_, mpo (kInt .i64) (fun x : disk_sector => Value.agg #[.string x.s_, .int .i64 x.at_]) r61_b4 r61.2.2.2.wait_] ++ F0) rfl rfl rfl rfl rfl rfl rfl (by kernel_rfl) (perm_of_pulls [0] rfl) (c_law10_awake _ r81 h82) ?_)
                                    rintro _ _ ⟨rfl, rfl⟩
                                    refine nw_H (H' := [imm I, pt r28_b10 #[.pointer (some ⟨r28_b2, 0, none⟩), .int .i64 r61.2.2.1.boot_, .int .i64 r61.2.2.1.n_] 47, pt r28_b2 #[.slice r61_p1 r61.2.2.2.sure_.length r61_c2, .map (some r61_b4), .bool r61.2.2.2.off_, .bool r61.2.2.2.armed_, .int .i64 r61.2.2.2.left_, .int .u64 r61.2.2.2.fall_.Keep, .int .i64 r61.2.2.2.fall_.Tear, .int .i64 r61.2.2.2.acts_, .int .i64 r61.2.2.2.falls_] 68, own e_disk_sector 70 r61_p1 r61_c2 r61.2.2.2.sure_, mpo (kInt .i64) (fun x : disk_sector => Value.agg #[.string x.s_, .int .i64 x.at_]) r61_b4 r61.2.2.2.wait_] ++ F0) rfl (nw_ow ?_)
                                    refine ow_vals 2 (j := 10) [8] [(8, .bool r81)] rfl (by kernel_rfl) ?_
                                    refine ow_end rfl ?_
                                    refine ew_then ?_
                                    refine cw_ret ?_
                                    refine ew_then_ret ?_
                                    have hR := Option.some.inj hF
                                    subst hR
                                    have hR := hK74
                                    try dsimp only [Thru] at hR
                                    subst hR
                                    exact fin1 (H1 := [imm I]) (fun w hs => sat_to [1, 1, 1, 1, 0] 4 rfl hs) rfl (rr_tmp rfl) ⟨rfl, rfl⟩
                                  · refine ow_slots (L' := [(102, .bool false)]) (by rw [h80]) ?_
                                    refine ow_vals 3 (j := 10) [8] [(8, .bool false)] rfl (by kernel_rfl) ?_
                                    refine ow_end rfl ?_
                                    refine ew_then ?_
                                    refine cw_ret ?_
                                    refine ew_then_ret ?_
                                    have hR := Option.some.inj hF
                                    subst hR
                                    have hR := hK74
                                    try dsimp only [Thru] at hR
                                    subst hR
                                    exact fin1 (H1 := [imm I]) (fun w hs => sat_to [1, 1, 1, 1, 0] 4 rfl hs) rfl (rr_tmp rfl) ⟨rfl, rfl⟩
                                · refine ow_slots (L' := [(14, .int .i64 r61.2.1), (98, .bool false)]) (by rw [h79]) ?_
                                  refine ow_vals 7 (j := 10) [8] [(8, .bool false)] rfl (by kernel_rfl) ?_
                                  refine ow_end rfl ?_
                                  refine ew_then ?_
                                  refine cw_ret ?_
                                  refine ew_then_ret ?_
                                  have hR := Option.some.inj hF
                                  subst hR
                                  have hR := hK74
                                  try dsimp only [Thru] at hR
                                  subst hR
                                  exact fin1 (H1 := [imm I]) (fun w hs => sat_to [1, 1, 1, 1, 0] 4 rfl hs) rfl (rr_tmp rfl) ⟨rfl, rfl⟩
                              · refine cw_cond_f rfl rfl h78 ?_
                                refine cw_skip ?_
                                have hR := Option.some.inj hF
                                exact fun a w hf hs => ⟨hR, hf.keep [1, 2, 9, 10, 11, 13, 14], sat_to [0, 0, 0, 0, 0] 0 rfl hs⟩
                        · as_aux_lemma =>
                            rintro a w ⟨hv, hf, hs⟩
                            subst hv
                            replace hF := hK74
                            clear hK74
                            try dsimp only [Thru] at hF
                            revert a w
                            show CW _ _ _ 189 [(1, .int .i64 x1), (2, .string x2), (9, .pointer (some ⟨r28_b2, 0, none⟩)), (10, .pointer (some ⟨r28_b10, 0, none⟩)), (11, .int .i64 r57.1), (13, .int .i64 r61.1), (14, .int .i64 r61.2.1)] (SAT w0 ([imm I, pt r28_b10 #[.pointer (some ⟨r28_b2, 0, none⟩), .int .i64 r61.2.2.1.boot_, .int .i64 r61.2.2.1.n_] 47, pt r28_b2 #[.slice r61_p1 r61.2.2.2.sure_.length r61_c2, .map (some r61_b4), .bool r61.2.2.2.off_, .bool r61.2.2.2.armed_, .int .i64 r61.2.2.2.left_, .int .u64 r61.2.2.2.fall_.Keep, .int .i64 r61.2.2.2.fall_.Tear, .int .i64 r61.2.2.2.acts_, .int .i64 r61.2.2.2.falls_] 68, own e_disk_sector 70 r61_p1 r61_c2 r61.2.2.2.sure_, mpo (kInt .i64) (fun x : disk_sector => Value.agg #[.string x.s_, .int .i64 x.at_]) r61_b4 r61.2.2.2.wait_] ++ F0))
                            unfold F.law10_GuardPuts.r12 at hF
                            refine cw_seq ?_
                            refine cw_region ?_
                            refine ow_vals 2 (j := 2) [1, 2, 9, 10, 11, 13, 14, 106, 107] [(1, .int .i64 x1), (2, .string x2), (9, .pointer (some ⟨r28_b2, 0, none⟩)), (10, .pointer (some ⟨r28_b10, 0, none⟩)), (11, .int .i64 r57.1), (13, .int .i64 r61.1), (14, .int .i64 r61.2.1), (106, .pointer (some ⟨r28_b2, 0, none⟩)), (107, .int .i64 x1)] rfl (by kernel_rfl) ?_
                            obtain ⟨r83, h84, hF⟩ := bind_some hF
                            refine ow_pw rfl (pw_call (F := [pt r28_b10 #[.pointer (some ⟨r28_b2, 0, none⟩), .int .i64 r61.2.2.1.boot_, .int .i64 r61.2.2.1.n_] 47] ++ F0) rfl rfl rfl rfl rfl rfl rfl (by kernel_rfl) (perm_of_pulls [0, 1, 1, 1] rfl) (c_disk_Disk_Read _ x1 r61.2.2.2 r61_p1 r61_c2 r61_b4 r28_b2 r83 h84) ?_)
                            rintro _ _ ⟨rfl, rfl⟩
                            refine nw_H (H' := [imm I, pt r28_b2 #[.slice r61_p1 r61.2.2.2.sure_.length r61_c2, .map (some r61_b4), .bool r61.2.2.2.off_, .bool r61.2.2.2.armed_, .int .i64 r61.2.2.2.left_, .int .u64 r61.2.2.2.fall_.Keep, .int .i64 r61.2.2.2.fall_.Tear, .int .i64 r61.2.2.2.acts_, .int .i64 r61.2.2.2.falls_] 68, own e_disk_sector 70 r61_p1 r61_c2 r61.2.2.2.sure_, mpo (kInt .i64) (fun x : disk_sector => Value.agg #[.string x.s_, .int .i64 x.at_]) r61_b4 r61.2.2.2.wait_, pt r28_b10 #[.pointer (some ⟨r28_b2, 0, none⟩), .int .i64 r61.2.2.1.boot_, .int .i64 r61.2.2.1.n_] 47] ++ F0) rfl (nw_ow ?_)
                            refine ow_vals 5 (j := 8) [1, 2, 9, 10, 11, 13, 14, 15, 16] [(1, .int .i64 x1), (2, .string x2), (9, .pointer (some ⟨r28_b2, 0, none⟩)), (10, .pointer (some ⟨r28_b10, 0, none⟩)), (11, .int .i64 r57.1), (13, .int .i64 r61.1), (14, .int .i64 r61.2.1), (15, .string r83.1), (16, .int .i64 r83.2)] rfl (by kernel_rfl) ?_
                            refine ow_end rfl ?_
                            refine ew_then ?_
                            refine cw_seq ?_
                            refine cw_region ?_
                            refine ow_vals 2 (j := 2) [1, 2, 9, 10, 11, 13, 14, 15, 16, 112, 113] [(1, .int .i64 x1), (2, .string x2), (9, .pointer (some ⟨r28_b2, 0, none⟩)), (10, .pointer (some ⟨r28_b10, 0, none⟩)), (11, .int .i64 r57.1), (13, .int .i64 r61.1), (14, .int .i64 r61.2.1), (15, .string r83.1), (16, .int .i64 r83.2), (112, .pointer (some ⟨r28_b10, 0, none⟩)), (113, .int .i64 x1)] rfl (by kernel_rfl) ?_
                            obtain ⟨r85, h86, hF⟩ := bind_some hF
                            refine ow_pw rfl (pw_call (F := [] ++ F0) rfl rfl rfl rfl rfl rfl rfl (by kernel_rfl) (perm_of_pulls [0, 3, 0, 0, 0] rfl) (c_guard_Guard_Get _ x1 r61.2.2.1 r61.2.2.2 r28_b10 r61_p1 r61_c2 r61_b4 r28_b2 r85 h86) ?_)
                            rintro _ _ ⟨rfl, rfl⟩
                            refine nw_H (H' := [imm I, pt r28_b10 #[.pointer (some ⟨r28_b2, 0, none⟩), .int .i64 r61.2.2.1.boot_, .int .i64 r61.2.2.1.n_] 47, pt r28_b2 #[.slice r61_p1 r61.2.2.2.sure_.length r61_c2, .map (some r61_b4), .bool r61.2.2.2.off_, .bool r61.2.2.2.armed_, .int .i64 r61.2.2.2.left_, .int .u64 r61.2.2.2.fall_.Keep, .int .i64 r61.2.2.2.fall_.Tear, .int .i64 r61.2.2.2.acts_, .int .i64 r61.2.2.2.falls_] 68, own e_disk_sector 70 r61_p1 r61_c2 r61.2.2.2.sure_, mpo (kInt .i64) (fun x : disk_sector => Value.agg #[.string x.s_, .int .i64 x.at_]) r61_b4 r61.2.2.2.wait_] ++ F0) rfl (nw_ow ?_)
                            refine ow_vals 7 (j := 10) [1, 2, 9, 10, 11, 13, 14, 15, 16, 17, 18, 19] [(1, .int .i64 x1), (2, .string x2), (9, .pointer (some ⟨r28_b2, 0, none⟩)), (10, .pointer (some ⟨r28_b10, 0, none⟩)), (11, .int .i64 r57.1), (13, .int .i64 r61.1), (14, .int .i64 r61.2.1), (15, .string r83.1), (16, .int .i64 r83.2), (17, .string r85.1), (18, .int .i64 r85.2.1), (19, .int .i64 r85.2.2)] rfl (by kernel_rfl) ?_
                            refine ow_end rfl ?_
                            refine ew_then ?_
                            refine cw_seq ?_
                            refine cw_region ?_
                            refine ow_vals 1 (j := 1) [1, 2, 9, 10, 11, 13, 14, 15, 16, 17, 18, 19, 118] [(1, .int .i64 x1), (2, .string x2), (9, .pointer (some ⟨r28_b2, 0, none⟩)), (10, .pointer (some ⟨r28_b10, 0, none⟩)), (11, .int .i64 r57.1), (13, .int .i64 r61.1), (14, .int .i64 r61.2.1), (15, .string r83.1), (16, .int .i64 r83.2), (17, .string r85.1), (18, .int .i64 r85.2.1), (19, .int .i64 r85.2.2), (118, .int .i64 r61.1)] rfl (by kernel_rfl) ?_
                            obtain ⟨r87, h88, hF⟩ := bind_some hF
                            refine ow_pw rfl (pw_call (F := [pt r28_b10 #[.pointer (some ⟨r28_b2, 0, none⟩), .int .i64 r61.2.2.1.boot_, .int .i64 r61.2.2.1.n_] 47, pt r28_b2 #[.slice r61_p1 r61.2.2.2.sure_.length r61_c2, .map (some r61_b4), .bool r61.2.2.2.off_, .bool r61.2.2.2.armed_, .int .i64 r61.2.2.2.left_, .int .u64 r61.2.2.2.fall_.Keep, .int .i64 r61.2.2.2.fall_.Tear, .int .i64 r61.2.2.2.acts_, .int .i64 r61.2.2.2.falls_] 68, own e_disk_sector 70 r61_p1 r61_c2 r61.2.2.2.sure_, mpo (kInt .i64) (fun x : disk_sector => Value.agg #[.string x.s_, .int .i64 x.at_]) r61_b4 r61.2.2.2.wait_] ++ F0) rfl rfl rfl rfl rfl rfl rfl (by kernel_rfl) (perm_of_pulls [0] rfl) (c_law10_eight _ r61.1 r87 h88) ?_)
                            rintro _ _ ⟨rfl, rfl⟩
                            refine nw_H (H' := [imm I, pt r28_b10 #[.pointer (some ⟨r28_b2, 0, none⟩), .int .i64 r61.2.2.1.boot_, .int .i64 r61.2.2.1.n_] 47, pt r28_b2 #[.slice r61_p1 r61.2.2.2.sure_.length r61_c2, .map (some r61_b4), .bool r61.2.2.2.off_, .bool r61.2.2.2.armed_, .int .i64 r61.2.2.2.left_, .int .u64 r61.2.2.2.fall_.Keep, .int .i64 r61.2.2.2.fall_.Tear, .int .i64 r61.2.2.2.acts_, .int .i64 r61.2.2.2.falls_] 68, own e_disk_sector 70 r61_p1 r61_c2 r61.2.2.2.sure_, mpo (kInt .i64) (fun x : disk_sector => Value.agg #[.string x.s_, .int .i64 x.at_]) r61_b4 r61.2.2.2.wait_] ++ F0) rfl (nw_ow ?_)
                            refine ow_vals 1 (j := 3) [1, 2, 9, 10, 11, 13, 14, 15, 16, 17, 18, 19, 20] [(1, .int .i64 x1), (2, .string x2), (9, .pointer (some ⟨r28_b2, 0, none⟩)), (10, .pointer (some ⟨r28_b10, 0, none⟩)), (11, .int .i64 r57.1), (13, .int .i64 r61.1), (14, .int .i64 r61.2.1), (15, .string r83.1), (16, .int .i64 r83.2), (17, .string r85.1), (18, .int .i64 r85.2.1), (19, .int .i64 r85.2.2), (20, .string r87)] rfl (by kernel_rfl) ?_
                            refine ow_end rfl ?_
                            refine ew_then ?_
                            refine cw_seq ?_
                            refine cw_open 70 (SAT w0 ([imm I, pt r28_b10 #[.pointer (some ⟨r28_b2, 0, none⟩), .int .i64 r61.2.2.1.boot_, .int .i64 r61.2.2.1.n_] 47, pt r28_b2 #[.slice r61_p1 r61.2.2.2.sure_.length r61_c2, .map (some r61_b4), .bool r61.2.2.2.off_, .bool r61.2.2.2.armed_, .int .i64 r61.2.2.2.left_, .int .u64 r61.2.2.2.fall_.Keep, .int .i64 r61.2.2.2.fall_.Tear, .int .i64 r61.2.2.2.acts_, .int .i64 r61.2.2.2.falls_] 68, own e_disk_sector 70 r61_p1 r61_c2 r61.2.2.2.sure_, mpo (kInt .i64) (fun x : disk_sector => Value.agg #[.string x.s_, .int .i64 x.at_]) r61_b4 r61.2.2.2.wait_])) (by kernel_rfl) (f := 70) rfl (fun w hs => sat_drew hs) ?_
                            refine aw_vals [0, 1, 2] (f' := 67) (m' := 7) [1, 2, 9, 10, 11, 13, 15, 16, 17, 18, 19, 20, 122] [(1, .int .i64 x1), (2, .string x2), (9, .pointer (some ⟨r28_b2, 0, none⟩)), (10, .pointer (some ⟨r28_b10, 0, none⟩)), (11, .int .i64 r57.1), (13, .int .i64 r61.1), (15, .string r83.1), (16, .int .i64 r83.2), (17, .string r85.1), (18, .int .i64 r85.2.1), (19, .int .i64 r85.2.2), (20, .string r87), (122, .bool (r61.2.1 == 0))] (fun _ _ _ _ _ h => calm_fin (P := Tryd.prog) (fn := Tryd.f5) _ _ _ _ _ h) (fun w hs => sat_pulls [0, 0, 0, 0, 0] (G := [] ++ F0) rfl hs) rfl (by as_aux_lemma => kernel_rfl) ?_
                            rcases if_some hF with ⟨h89, hF⟩ | ⟨h89, hF⟩
                            · refine aw_slots (L' := [(1, .int .i64 x1), (2, .string x2), (9, .pointer (some ⟨r28_b2, 0, none⟩)), (10, .pointer (some ⟨r28_b10, 0, none⟩)), (11, .int .i64 r57.1), (13, .int .i64 r61.1), (15, .string r83.1), (16, .int .i64 r83.2), (17, .string r85.1), (18, .int .i64 r85.2.1), (19, .int .i64 r85.2.2), (20, .string r87), (122, .bool true)]) (by rw [h89]) ?_
                              refine aw_vals [3, 4, 5, 6] (f' := 63) (m' := 127) [1, 2, 9, 10, 11, 13, 15, 17, 18, 19, 20, 126] [(1, .int .i64 x1), (2, .string x2), (9, .pointer (some ⟨r28_b2, 0, none⟩)), (10, .pointer (some ⟨r28_b10, 0, none⟩)), (11, .int .i64 r57.1), (13, .int .i64 r61.1), (15, .string r83.1), (17, .string r85.1), (18, .int .i64 r85.2.1), (19, .int .i64 r85.2.2), (20, .string r87), (126, .bool (r83.2 == 0))] (fun _ _ _ _ _ h => calm_fin (P := Tryd.prog) (fn := Tryd.f5) _ _ _ _ _ h) (fun w hs => sat_pulls [0, 0, 0, 0, 0] (G := [] ++ F0) rfl hs) rfl (by as_aux_lemma => kernel_rfl) ?_
                              rcases if_some hF with ⟨h90, hF⟩ | ⟨h90, hF⟩
                              · refine aw_slots (L' := [(1, .int .i64 x1), (2, .string x2), (9, .pointer (some ⟨r28_b2, 0, none⟩)), (10, .pointer (some ⟨r28_b10, 0, none⟩)), (11, .int .i64 r57.1), (13, .int .i64 r61.1), (15, .string r83.1), (17, .string r85.1), (18, .int .i64 r85.2.1), (19, .int .i64 r85.2.2), (20, .string r87), (126, .bool true)]) (by rw [h90]) ?_
                                refine aw_vals [7, 8, 9, 10, 11, 12] (f' := 57) (m' := 8191) [1, 2, 9, 10, 13, 15, 17, 18, 19, 20, 132] [(1, .int .i64 x1), (2, .string x2), (9, .pointer (some ⟨r28_b2, 0, none⟩)), (10, .pointer (some ⟨r28_b10, 0, none⟩)), (13, .int .i64 r61.1), (15, .string r83.1), (17, .string r85.1), (18, .int .i64 r85.2.1), (19, .int .i64 r85.2.2), (20, .string r87), (132, .bool (r61.1 == (IntKind.i64.wrap (r57.1 + 1))))] (fun _ _ _ _ _ h => calm_fin (P := Tryd.prog) (fn := Tryd.f5) _ _ _ _ _ h) (fun w hs => sat_pulls [0, 0, 0, 0, 0] (G := [] ++ F0) rfl hs) rfl (by as_aux_lemma => kernel_rfl) ?_
                                rcases if_some hF with ⟨h91, hF⟩ | ⟨h91, hF⟩
                                · refine aw_slots (L' := [(1, .int .i64 x1), (2, .string x2), (9, .pointer (some ⟨r28_b2, 0, none⟩)), (10, .pointer (some ⟨r28_b10, 0, none⟩)), (13, .int .i64 r61.1), (15, .string r83.1), (17, .string r85.1), (18, .int .i64 r85.2.1), (19, .int .i64 r85.2.2), (20, .string r87), (132, .bool true)]) (by rw [h91]) ?_
                                  refine aw_vals [13, 14, 15, 16, 17, 21, 23, 24, 25, 28] (f' := 47) (m' := 329515007) [1, 2, 9, 10, 13, 17, 18, 19, 132, 133, 134, 137, 141, 145, 148] [(1, .int .i64 x1), (2, .string x2), (9, .pointer (some ⟨r28_b2, 0, none⟩)), (10, .pointer (some ⟨r28_b10, 0, none⟩)), (13, .int .i64 r61.1), (17, .string r85.1), (18, .int .i64 r85.2.1), (19, .int .i64 r85.2.2), (132, .bool true), (133, .string r83.1), (134, .string r87), (137, .int .u8 (IntKind.u8.wrap ((x2.size : Int)))), (141, .string x2), (145, .int .i64 (IntKind.i64.wrap (47 - (x2.size : Int)))), (148, .string r87)] (fun _ _ _ _ _ h => calm_fin (P := Tryd.prog) (fn := Tryd.f5) _ _ _ _ _ h) (fun w hs => sat_pulls [0, 0, 0, 0, 0] (G := [] ++ F0) rfl hs) rfl (by as_aux_lemma => kernel_rfl) ?_
                                  obtain ⟨h94, hF⟩ := chk_some hF
                                  obtain ⟨h95, hF⟩ := chk_some hF
                                  obtain ⟨r96, h97, hF⟩ := bind_some hF
                                  obtain ⟨h98, hF⟩ := chk_some hF
                                  obtain ⟨h99, hF⟩ := chk_some hF
                                  obtain ⟨r104, h105, hF⟩ := bind_some hF
                                  obtain ⟨r107, h108, hF⟩ := bind_some hF
                                  obtain ⟨r109, h110, hF⟩ := bind_some hF
                                  obtain ⟨r112, h113, hF⟩ := bind_some hF
                                  obtain ⟨r115, h116, hF⟩ := bind_some hF
                                  refine aw_two 18 26 (mi := 329777151) (mj := 396623871) (by as_aux_lemma => kernel_rfl) (by as_aux_lemma => kernel_rfl) (by as_aux_lemma => kernel_rfl) ?_ ?_
                                  · refine pw_buildSlice (E := 5) (eInt .u8) ([IntKind.u8.wrap ((x2.size : Int))] : List Int) rfl rfl rfl rfl rfl (by as_aux_lemma => kernel_rfl) rfl (by as_aux_lemma => kernel_rfl) rfl (by decide) rfl fun p117 => aw_next (fun w hs => sat_pulls [1, 1, 1, 1, 1] (G := [own (eInt .u8) 5 p117 1 ([IntKind.u8.wrap ((x2.size : Int))] : List Int)] ++ F0) rfl hs) ?_
                                    refine aw_two 19 26 (mi := 330301439) (mj := 396886015) (by as_aux_lemma => kernel_rfl) (by as_aux_lemma => kernel_rfl) (by as_aux_lemma => kernel_rfl) ?_ ?_
                                    · refine pw_quiet (v := .string (bstr ([IntKind.u8.wrap ((x2.size : Int))] : List Int))) rfl rfl rfl rfl (q_bytes_str_own 0 rfl rfl (by as_aux_lemma => kernel_rfl) (by as_aux_lemma => kernel_rfl) rfl) (aw_next (fun w hs => sat_pulls [1, 1, 1, 1, 1] (G := [own (eInt .u8) 5 p117 1 ([IntKind.u8.wrap ((x2.size : Int))] : List Int)] ++ F0) rfl hs) ?_)
                                      refine aw_pure 20 (m' := 331350015) (v := .string (r87 ++ (bstr ([IntKind.u8.wrap ((x2.size : Int))] : List Int)))) rfl rfl rfl rfl (by as_aux_lemma => kernel_rfl) (by as_aux_lemma => kernel_rfl) (fun _ _ _ _ _ h => calm_fin (P := Tryd.prog) (fn := Tryd.f5) _ _ _ _ _ h) (fun w hs => sat_pulls [1, 1, 1, 1, 1] (G := [own (eInt .u8) 5 p117 1 ([IntKind.u8.wrap ((x2.size : Int))] : List Int)] ++ F0) rfl hs) (q_concat rfl rfl rfl h94) ?_
                                      refine aw_pure 22 (m' := 335544319) (v := .string ((r87 ++ (bstr ([IntKind.u8.wrap ((x2.size : Int))] : List Int))) ++ x2)) rfl rfl rfl rfl (by as_aux_lemma => kernel_rfl) (by as_aux_lemma => kernel_rfl) (fun _ _ _ _ _ h => calm_fin (P := Tryd.prog) (fn := Tryd.f5) _ _ _ _ _ h) (fun w hs => sat_pulls [1, 1, 1, 1, 1] (G := [own (eInt .u8) 5 p117 1 ([IntKind.u8.wrap ((x2.size : Int))] : List Int)] ++ F0) rfl hs) (q_concat rfl rfl rfl h95) ?_
                                      refine aw_only 26 (m' := 402653183) (by as_aux_lemma => kernel_rfl) (by as_aux_lemma => kernel_rfl) (pw_call (F := [own (eInt .u8) 5 p117 1 ([IntKind.u8.wrap ((x2.size : Int))] : List Int), pt r28_b10 #[.pointer (some ⟨r28_b2, 0, none⟩), .int .i64 r61.2.2.1.boot_, .int .i64 r61.2.2.1.n_] 47, pt r28_b2 #[.slice r61_p1 r61.2.2.2.sure_.length r61_c2, .map (some r61_b4), .bool r61.2.2.2.off_, .bool r61.2.2.2.armed_, .int .i64 r61.2.2.2.left_, .int .u64 r61.2.2.2.fall_.Keep, .int .i64 r61.2.2.2.fall_.Tear, .int .i64 r61.2.2.2.acts_, .int .i64 r61.2.2.2.falls_] 68, own e_disk_sector 70 r61_p1 r61_c2 r61.2.2.2.sure_, mpo (kInt .i64) (fun x : disk_sector => Value.agg #[.string x.s_, .int .i64 x.at_]) r61_b4 r61.2.2.2.wait_] ++ F0) rfl rfl rfl rfl rfl rfl rfl (by as_aux_lemma => kernel_rfl) (perm_of_pulls [1] rfl) (c_law10_noughts _ (IntKind.i64.wrap (47 - (x2.size : Int))) r96 h97) ?_)
                                      rintro _ _ ⟨rfl, rfl⟩
                                      refine nw_H (H' := [imm I, own (eInt .u8) 5 p117 1 ([IntKind.u8.wrap ((x2.size : Int))] : List Int), pt r28_b10 #[.pointer (some ⟨r28_b2, 0, none⟩), .int .i64 r61.2.2.1.boot_, .int .i64 r61.2.2.1.n_] 47, pt r28_b2 #[.slice r61_p1 r61.2.2.2.sure_.length r61_c2, .map (some r61_b4), .bool r61.2.2.2.off_, .bool r61.2.2.2.armed_, .int .i64 r61.2.2.2.left_, .int .u64 r61.2.2.2.fall_.Keep, .int .i64 r61.2.2.2.fall_.Tear, .int .i64 r61.2.2.2.acts_, .int .i64 r61.2.2.2.falls_] 68, own e_disk_sector 70 r61_p1 r61_c2 r61.2.2.2.sure_, mpo (kInt .i64) (fun x : disk_sector => Value.agg #[.string x.s_, .int .i64 x.at_]) r61_b4 r61.2.2.2.wait_] ++ F0) rfl (aw_next (fun w hs => sat_pulls [0, 1, 1, 1, 1] (G := [own (eInt .u8) 5 p117 1 ([IntKind.u8.wrap ((x2.size : Int))] : List Int)] ++ F0) rfl hs) ?_)
                                      refine aw_pure 27 (m' := 536870911) (v := .string (((r87 ++ (bstr ([IntKind.u8.wrap ((x2.size : Int))] : List Int))) ++ x2) ++ r96)) rfl rfl rfl rfl (by as_aux_lemma => kernel_rfl) (by as_aux_lemma => kernel_rfl) (fun _ _ _ _ _ h => calm_fin (P := Tryd.prog) (fn := Tryd.f5) _ _ _ _ _ h) (fun w hs => sat_pulls [0, 1, 1, 1, 1] (G := [own (eInt .u8) 5 p117 1 ([IntKind.u8.wrap ((x2.size : Int))] : List Int)] ++ F0) rfl hs) (q_concat rfl rfl rfl h98) ?_
                                      refine aw_pure 29 (m' := 1073741823) (v := .string ((((r87 ++ (bstr ([IntKind.u8.wrap ((x2.size : Int))] : List Int))) ++ x2) ++ r96) ++ r87)) rfl rfl rfl rfl (by as_aux_lemma => kernel_rfl) (by as_aux_lemma => kernel_rfl) (fun _ _ _ _ _ h => calm_fin (P := Tryd.prog) (fn := Tryd.f5) _ _ _ _ _ h) (fun w hs => sat_pulls [0, 1, 1, 1, 1] (G := [own (eInt .u8) 5 p117 1 ([IntKind.u8.wrap ((x2.size : Int))] : List Int)] ++ F0) rfl hs) (q_concat rfl rfl rfl h99) ?_
                                      refine aw_vals [30, 31, 32] (f' := 37) (m' := 8589934591) [1, 2, 9, 10, 13, 17, 18, 19, 152] [(1, .int .i64 x1), (2, .string x2), (9, .pointer (some ⟨r28_b2, 0, none⟩)), (10, .pointer (some ⟨r28_b10, 0, none⟩)), (13, .int .i64 r61.1), (17, .string r85.1), (18, .int .i64 r85.2.1), (19, .int .i64 r85.2.2), (152, .bool (seqB r83.1 ((((r87 ++ (bstr ([IntKind.u8.wrap ((x2.size : Int))] : List Int))) ++ x2) ++ r96) ++ r87)))] (fun _ _ _ _ _ h => calm_fin (P := Tryd.prog) (fn := Tryd.f5) _ _ _ _ _ h) (fun w hs => sat_pulls [0, 1, 1, 1, 1] (G := [own (eInt .u8) 5 p117 1 ([IntKind.u8.wrap ((x2.size : Int))] : List Int)] ++ F0) rfl hs) rfl (by as_aux_lemma => kernel_rfl) ?_
                                      rcases if_some hF with ⟨h119, hF⟩ | ⟨h119, hF⟩
                                      · refine aw_slots (L' := [(1, .int .i64 x1), (2, .string x2), (9, .pointer (some ⟨r28_b2, 0, none⟩)), (10, .pointer (some ⟨r28_b10, 0, none⟩)), (13, .int .i64 r61.1), (17, .string r85.1), (18, .int .i64 r85.2.1), (19, .int .i64 r85.2.2), (152, .bool true)]) (by rw [h119]) ?_
                                        refine aw_vals [33, 34, 35, 36, 37] (f' := 32) (m' := 274877906943) [1, 9, 10, 13, 18, 19, 157] [(1, .int .i64 x1), (9, .pointer (some ⟨r28_b2, 0, none⟩)), (10, .pointer (some ⟨r28_b10, 0, none⟩)), (13, .int .i64 r61.1), (18, .int .i64 r85.2.1), (19, .int .i64 r85.2.2), (157, .bool (seqB r85.1 x2))] (fun _ _ _ _ _ h => calm_fin (P := Tryd.prog) (fn := Tryd.f5) _ _ _ _ _ h) (fun w hs => sat_pulls [0, 1, 1, 1, 1] (G := [own (eInt .u8) 5 p117 1 ([IntKind.u8.wrap ((x2.size : Int))] : List Int)] ++ F0) rfl hs) rfl (by as_aux_lemma => kernel_rfl) ?_
                                        rcases if_some hF with ⟨h120, hF⟩ | ⟨h120, hF⟩
                                        · refine aw_slots (L' := [(1, .int .i64 x1), (9, .pointer (some ⟨r28_b2, 0, none⟩)), (10, .pointer (some ⟨r28_b10, 0, none⟩)), (13, .int .i64 r61.1), (18, .int .i64 r85.2.1), (19, .int .i64 r85.2.2), (157, .bool true)]) (by rw [h120]) ?_
                                          refine aw_vals [38, 39, 40, 41, 42] (f' := 27) (m' := 8796093022207) [1, 9, 10, 19, 162] [(1, .int .i64 x1), (9, .pointer (some ⟨r28_b2, 0, none⟩)), (10, .pointer (some ⟨r28_b10, 0, none⟩)), (19, .int .i64 r85.2.2), (162, .bool (r85.2.1 == r61.1))] (fun _ _ _ _ _ h => calm_fin (P := Tryd.prog) (fn := Tryd.f5) _ _ _ _ _ h) (fun w hs => sat_pulls [0, 1, 1, 1, 1] (G := [own (eInt .u8) 5 p117 1 ([IntKind.u8.wrap ((x2.size : Int))] : List Int)] ++ F0) rfl hs) rfl (by as_aux_lemma => kernel_rfl) ?_
                                          rcases if_some hF with ⟨h121, hF⟩ | ⟨h121, hF⟩
                                          · refine aw_slots (L' := [(1, .int .i64 x1), (9, .pointer (some ⟨r28_b2, 0, none⟩)), (10, .pointer (some ⟨r28_b10, 0, none⟩)), (19, .int .i64 r85.2.2), (162, .bool true)]) (by rw [h121]) ?_
                                            refine aw_vals [43, 44, 45, 46] (f' := 23) (m' := 140737488355327) [1, 9, 10, 166] [(1, .int .i64 x1), (9, .pointer (some ⟨r28_b2, 0, none⟩)), (10, .pointer (some ⟨r28_b10, 0, none⟩)), (166, .bool (r85.2.2 == 0))] (fun _ _ _ _ _ h => calm_fin (P := Tryd.prog) (fn := Tryd.f5) _ _ _ _ _ h) (fun w hs => sat_pulls [0, 1, 1, 1, 1] (G := [own (eInt .u8) 5 p117 1 ([IntKind.u8.wrap ((x2.size : Int))] : List Int)] ++ F0) rfl hs) rfl (by as_aux_lemma => kernel_rfl) ?_
                                            rcases if_some hF with ⟨h122, hF⟩ | ⟨h122, hF⟩
                                            · refine aw_slots (L' := [(1, .int .i64 x1), (9, .pointer (some ⟨r28_b2, 0, none⟩)), (10, .pointer (some ⟨r28_b10, 0, none⟩)), (166, .bool true)]) (by rw [h122]) ?_
                                              refine aw_vals [47, 48] (f' := 21) (m' := 562949953421311) [9, 10, 166, 167, 168] [(9, .pointer (some ⟨r28_b2, 0, none⟩)), (10, .pointer (some ⟨r28_b10, 0, none⟩)), (166, .bool true), (167, .pointer (some ⟨r28_b10, 0, none⟩)), (168, .int .i64 x1)] (fun _ _ _ _ _ h => calm_fin (P := Tryd.prog) (fn := Tryd.f5) _ _ _ _ _ h) (fun w hs => sat_pulls [0, 1, 1, 1, 1] (G := [own (eInt .u8) 5 p117 1 ([IntKind.u8.wrap ((x2.size : Int))] : List Int)] ++ F0) rfl hs) rfl (by as_aux_lemma => kernel_rfl) ?_
                                              refine aw_only 49 (m' := 1125899906842623) (by as_aux_lemma => kernel_rfl) (by as_aux_lemma => kernel_rfl) (pw_call (F := [own (eInt .u8) 5 p117 1 ([IntKind.u8.wrap ((x2.size : Int))] : List Int)] ++ F0) rfl rfl rfl rfl rfl rfl rfl (by as_aux_lemma => kernel_rfl) (perm_of_pulls [0, 1, 1, 1, 1] rfl) (c_guard_Guard_Blank _ x1 r61.2.2.1 r61.2.2.2 r28_b10 r61_p1 r61_c2 r61_b4 r28_b2 r104 h105) ?_)
                                              rintro _ _ ⟨rfl, rfl⟩
                                              refine nw_H (H' := [imm I, pt r28_b10 #[.pointer (some ⟨r28_b2, 0, none⟩), .int .i64 r61.2.2.1.boot_, .int .i64 r61.2.2.1.n_] 47, pt r28_b2 #[.slice r61_p1 r61.2.2.2.sure_.length r61_c2, .map (some r61_b4), .bool r61.2.2.2.off_, .bool r61.2.2.2.armed_, .int .i64 r61.2.2.2.left_, .int .u64 r61.2.2.2.fall_.Keep, .int .i64 r61.2.2.2.fall_.Tear, .int .i64 r61.2.2.2.acts_, .int .i64 r61.2.2.2.falls_] 68, own e_disk_sector 70 r61_p1 r61_c2 r61.2.2.2.sure_, mpo (kInt .i64) (fun x : disk_sector => Value.agg #[.string x.s_, .int .i64 x.at_]) r61_b4 r61.2.2.2.wait_, own (eInt .u8) 5 p117 1 ([IntKind.u8.wrap ((x2.size : Int))] : List Int)] ++ F0) rfl (aw_next (fun w hs => sat_pulls [0, 0, 0, 0, 0] (G := [own (eInt .u8) 5 p117 1 ([IntKind.u8.wrap ((x2.size : Int))] : List Int)] ++ F0) rfl hs) ?_)
                                              refine aw_vals [50, 51, 52] (f' := 17) (m' := 9007199254740991) [9, 10, 172] [(9, .pointer (some ⟨r28_b2, 0, none⟩)), (10, .pointer (some ⟨r28_b10, 0, none⟩)), (172, .bool (!r104))] (fun _ _ _ _ _ h => calm_fin (P := Tryd.prog) (fn := Tryd.f5) _ _ _ _ _ h) (fun w hs => sat_pulls [0, 0, 0, 0, 0] (G := [own (eInt .u8) 5 p117 1 ([IntKind.u8.wrap ((x2.size : Int))] : List Int)] ++ F0) rfl hs) rfl (by as_aux_lemma => kernel_rfl) ?_
                                              rcases if_some hF with ⟨h123, hF⟩ | ⟨h123, hF⟩
                                              · refine aw_slots (L' := [(9, .pointer (some ⟨r28_b2, 0, none⟩)), (10, .pointer (some ⟨r28_b10, 0, none⟩)), (172, .bool true)]) (by rw [h123]) ?_
                                                refine aw_vals [53] (f' := 16) (m' := 18014398509481983) [9, 10, 172, 173] [(9, .pointer (some ⟨r28_b2, 0, none⟩)), (10, .pointer (some ⟨r28_b10, 0, none⟩)), (172, .bool true), (173, .pointer (some ⟨r28_b10, 0, none⟩))] (fun _ _ _ _ _ h => calm_fin (P := Tryd.prog) (fn := Tryd.f5) _ _ _ _ _ h) (fun w hs => sat_pulls [0, 0, 0, 0, 0] (G := [own (eInt .u8) 5 p117 1 ([IntKind.u8.wrap ((x2.size : Int))] : List Int)] ++ F0) rfl hs) rfl (by as_aux_lemma => kernel_rfl) ?_
                                                refine aw_only 54 (m' := 36028797018963967) (by as_aux_lemma => kernel_rfl) (by as_aux_lemma => kernel_rfl) (pw_call (F := [own (eInt .u8) 5 p117 1 ([IntKind.u8.wrap ((x2.size : Int))] : List Int)] ++ F0) rfl rfl rfl rfl rfl rfl rfl (by as_aux_lemma => kernel_rfl) (perm_of_pulls [0, 0, 0, 0, 0] rfl) (c_guard_Guard_Disk _ r61.2.2.1 r61.2.2.2 r28_b10 r61_p1 r61_c2 r61_b4 r28_b2 r107 h108) ?_)
                                                rintro _ _ ⟨rfl, rfl⟩
                                                refine nw_H (H' := [imm I, pt r28_b10 #[.pointer (some ⟨r28_b2, 0, none⟩), .int .i64 r61.2.2.1.boot_, .int .i64 r61.2.2.1.n_] 47, pt r28_b2 #[.slice r61_p1 r61.2.2.2.sure_.length r61_c2, .map (some r61_b4), .bool r61.2.2.2.off_, .bool r61.2.2.2.armed_, .int .i64 r61.2.2.2.left_, .int .u64 r61.2.2.2.fall_.Keep, .int .i64 r61.2.2.2.fall_.Tear, .int .i64 r61.2.2.2.acts_, .int .i64 r61.2.2.2.falls_] 68, own e_disk_sector 70 r61_p1 r61_c2 r61.2.2.2.sure_, mpo (kInt .i64) (fun x : disk_sector => Value.agg #[.string x.s_, .int .i64 x.at_]) r61_b4 r61.2.2.2.wait_, own (eInt .u8) 5 p117 1 ([IntKind.u8.wrap ((x2.size : Int))] : List Int)] ++ F0) rfl (aw_next (fun w hs => sat_pulls [0, 0, 0, 0, 0] (G := [own (eInt .u8) 5 p117 1 ([IntKind.u8.wrap ((x2.size : Int))] : List Int)] ++ F0) rfl hs) ?_)
                                                refine aw_only 55 (m' := 72057594037927935) (by as_aux_lemma => kernel_rfl) (by as_aux_lemma => kernel_rfl) (pw_call (F := [pt r28_b10 #[.pointer (some ⟨r28_b2, 0, none⟩), .int .i64 r61.2.2.1.boot_, .int .i64 r61.2.2.1.n_] 47, own (eInt .u8) 5 p117 1 ([IntKind.u8.wrap ((x2.size : Int))] : List Int)] ++ F0) rfl rfl rfl rfl rfl rfl rfl (by as_aux_lemma => kernel_rfl) (perm_of_pulls [0, 1, 1, 1] rfl) (c_disk_Disk_Size _ r61.2.2.2 r61_p1 r61_c2 r61_b4 r28_b2 r109 h110) ?_)
                                                rintro _ _ ⟨rfl, rfl⟩
                                                refine nw_H (H' := [imm I, pt r28_b2 #[.slice r61_p1 r61.2.2.2.sure_.length r61_c2, .map (some r61_b4), .bool r61.2.2.2.off_, .bool r61.2.2.2.armed_, .int .i64 r61.2.2.2.left_, .int .u64 r61.2.2.2.fall_.Keep, .int .i64 r61.2.2.2.fall_.Tear, .int .i64 r61.2.2.2.acts_, .int .i64 r61.2.2.2.falls_] 68, own e_disk_sector 70 r61_p1 r61_c2 r61.2.2.2.sure_, mpo (kInt .i64) (fun x : disk_sector => Value.agg #[.string x.s_, .int .i64 x.at_]) r61_b4 r61.2.2.2.wait_, pt r28_b10 #[.pointer (some ⟨r28_b2, 0, none⟩), .int .i64 r61.2.2.1.boot_, .int .i64 r61.2.2.1.n_] 47, own (eInt .u8) 5 p117 1 ([IntKind.u8.wrap ((x2.size : Int))] : List Int)] ++ F0) rfl (aw_next (fun w hs => sat_pulls [0, 3, 0, 0, 0] (G := [own (eInt .u8) 5 p117 1 ([IntKind.u8.wrap ((x2.size : Int))] : List Int)] ++ F0) rfl hs) ?_)
                                                refine aw_vals [56, 57, 58] (f' := 11) (m' := 576460752303423487) [9, 10, 178] [(9, .pointer (some ⟨r28_b2, 0, none⟩)), (10, .pointer (some ⟨r28_b10, 0, none⟩)), (178, .bool (r109 == 10))] (fun _ _ _ _ _ h => calm_fin (P := Tryd.prog) (fn := Tryd.f5) _ _ _ _ _ h) (fun w hs => sat_pulls [0, 3, 0, 0, 0] (G := [own (eInt .u8) 5 p117 1 ([IntKind.u8.wrap ((x2.size : Int))] : List Int)] ++ F0) rfl hs) rfl (by as_aux_lemma => kernel_rfl) ?_
                                                rcases if_some hF with ⟨h124, hF⟩ | ⟨h124, hF⟩
                                                · refine aw_slots (L' := [(9, .pointer (some ⟨r28_b2, 0, none⟩)), (10, .pointer (some ⟨r28_b10, 0, none⟩)), (178, .bool true)]) (by rw [h124]) ?_
                                                  refine aw_vals [59, 62] (f' := 9) (m' := 5764607523034234879) [178, 179, 182] [(178, .bool true), (179, .pointer (some ⟨r28_b10, 0, none⟩)), (182, .pointer (some ⟨r28_b2, 0, none⟩))] (fun _ _ _ _ _ h => calm_fin (P := Tryd.prog) (fn := Tryd.f5) _ _ _ _ _ h) (fun w hs => sat_pulls [0, 3, 0, 0, 0] (G := [own (eInt .u8) 5 p117 1 ([IntKind.u8.wrap ((x2.size : Int))] : List Int)] ++ F0) rfl hs) rfl (by as_aux_lemma => kernel_rfl) ?_
                                                  refine aw_only 60 (m' := 6917529027641081855) (by as_aux_lemma => kernel_rfl) (by as_aux_lemma => kernel_rfl) (pw_call (F := [own (eInt .u8) 5 p117 1 ([IntKind.u8.wrap ((x2.size : Int))] : List Int)] ++ F0) rfl rfl rfl rfl rfl rfl rfl (by as_aux_lemma => kernel_rfl) (perm_of_pulls [0, 3, 0, 0, 0] rfl) (c_guard_Guard_Disk _ r61.2.2.1 r61.2.2.2 r28_b10 r61_p1 r61_c2 r61_b4 r28_b2 r107 h108) ?_)
                                                  rintro _ _ ⟨rfl, rfl⟩
                                                  refine nw_H (H' := [imm I, pt r28_b10 #[.pointer (some ⟨r28_b2, 0, none⟩), .int .i64 r61.2.2.1.boot_, .int .i64 r61.2.2.1.n_] 47, pt r28_b2 #[.slice r61_p1 r61.2.2.2.sure_.length r61_c2, .map (some r61_b4), .bool r61.2.2.2.off_, .bool r61.2.2.2.armed_, .int .i64 r61.2.2.2.left_, .int .u64 r61.2.2.2.fall_.Keep, .int .i64 r61.2.2.2.fall_.Tear, .int .i64 r61.2.2.2.acts_, .int .i64 r61.2.2.2.falls_] 68, own e_disk_sector 70 r61_p1 r61_c2 r61.2.2.2.sure_, mpo (kInt .i64) (fun x : disk_sector => Value.agg #[.string x.s_, .int .i64 x.at_]) r61_b4 r61.2.2.2.wait_, own (eInt .u8) 5 p117 1 ([IntKind.u8.wrap ((x2.size : Int))] : List Int)] ++ F0) rfl (aw_next (fun w hs => sat_pulls [0, 0, 0, 0, 0] (G := [own (eInt .u8) 5 p117 1 ([IntKind.u8.wrap ((x2.size : Int))] : List Int)] ++ F0) rfl hs) ?_)
                                                  refine aw_only 61 (m' := 9223372036854775807) (by as_aux_lemma => kernel_rfl) (by as_aux_lemma => kernel_rfl) (pw_call (F := [pt r28_b10 #[.pointer (some ⟨r28_b2, 0, none⟩), .int .i64 r61.2.2.1.boot_, .int .i64 r61.2.2.1.n_] 47, own (eInt .u8) 5 p117 1 ([IntKind.u8.wrap ((x2.size : Int))] : List Int)] ++ F0) rfl rfl rfl rfl rfl rfl rfl (by as_aux_lemma => kernel_rfl) (perm_of_pulls [0, 1, 1, 1] rfl) (c_disk_Disk_Acts _ r61.2.2.2 r61_p1 r61_c2 r61_b4 r28_b2 r112 h113) ?_)
                                                  rintro _ _ ⟨rfl, rfl⟩
                                                  refine nw_H (H' := [imm I, pt r28_b2 #[.slice r61_p1 r61.2.2.2.sure_.length r61_c2, .map (some r61_b4), .bool r61.2.2.2.off_, .bool r61.2.2.2.armed_, .int .i64 r61.2.2.2.left_, .int .u64 r61.2.2.2.fall_.Keep, .int .i64 r61.2.2.2.fall_.Tear, .int .i64 r61.2.2.2.acts_, .int .i64 r61.2.2.2.falls_] 68, own e_disk_sector 70 r61_p1 r61_c2 r61.2.2.2.sure_, mpo (kInt .i64) (fun x : disk_sector => Value.agg #[.string x.s_, .int .i64 x.at_]) r61_b4 r61.2.2.2.wait_, pt r28_b10 #[.pointer (some ⟨r28_b2, 0, none⟩), .int .i64 r61.2.2.1.boot_, .int .i64 r61.2.2.1.n_] 47, own (eInt .u8) 5 p117 1 ([IntKind.u8.wrap ((x2.size : Int))] : List Int)] ++ F0) rfl (aw_next (fun w hs => sat_pulls [0, 3, 0, 0, 0] (G := [own (eInt .u8) 5 p117 1 ([IntKind.u8.wrap ((x2.size : Int))] : List Int)] ++ F0) rfl hs) ?_)
                                                  refine aw_only 63 (m' := 18446744073709551615) (by as_aux_lemma => kernel_rfl) (by as_aux_lemma => kernel_rfl) (pw_call (F := [pt r28_b10 #[.pointer (some ⟨r28_b2, 0, none⟩), .int .i64 r61.2.2.1.boot_, .int .i64 r61.2.2.1.n_] 47, own (eInt .u8) 5 p117 1 ([IntKind.u8.wrap ((x2.size : Int))] : List Int)] ++ F0) rfl rfl rfl rfl rfl rfl rfl (by as_aux_lemma => kernel_rfl) (perm_of_pulls [0, 0, 0, 0] rfl) (c_disk_Disk_Acts _ r61.2.2.2 r61_p1 r61_c2 r61_b4 r28_b2 r112 h113) ?_)
                                                  rintro _ _ ⟨rfl, rfl⟩
                                                  refine nw_H (H' := [imm I, pt r28_b2 #[.slice r61_p1 r61.2.2.2.sure_.length r61_c2, .map (some r61_b4), .bool r61.2.2.2.off_, .bool r61.2.2.2.armed_, .int .i64 r61.2.2.2.left_, .int .u64 r61.2.2.2.fall_.Keep, .int .i64 r61.2.2.2.fall_.Tear, .int .i64 r61.2.2.2.acts_, .int .i64 r61.2.2.2.falls_] 68, own e_disk_sector 70 r61_p1 r61_c2 r61.2.2.2.sure_, mpo (kInt .i64) (fun x : disk_sector => Value.agg #[.string x.s_, .int .i64 x.at_]) r61_b4 r61.2.2.2.wait_, pt r28_b10 #[.pointer (some ⟨r28_b2, 0, none⟩), .int .i64 r61.2.2.1.boot_, .int .i64 r61.2.2.1.n_] 47, own (eInt .u8) 5 p117 1 ([IntKind.u8.wrap ((x2.size : Int))] : List Int)] ++ F0) rfl (aw_next (fun w hs => sat_pulls [0, 3, 0, 0, 0] (G := [own (eInt .u8) 5 p117 1 ([IntKind.u8.wrap ((x2.size : Int))] : List Int)] ++ F0) rfl hs) ?_)
                                                  refine aw_vals [64, 65, 66] (f' := 3) (m' := 147573952589676412927) [186] [(186, .bool (r112 == r112))] (fun _ _ _ _ _ h => calm_fin (P := Tryd.prog) (fn := Tryd.f5) _ _ _ _ _ h) (fun w hs => sat_pulls [0, 3, 0, 0, 0] (G := [own (eInt .u8) 5 p117 1 ([IntKind.u8.wrap ((x2.size : Int))] : List Int)] ++ F0) rfl hs) rfl (by as_aux_lemma => kernel_rfl) ?_
                                                  rcases if_some hF with ⟨h125, hF⟩ | ⟨h125, hF⟩
                                                  · refine aw_slots (L' := [(186, .bool true)]) (by rw [h125]) ?_
                                                    refine aw_only 67 (m' := 295147905179352825855) (by as_aux_lemma => kernel_rfl) (by as_aux_lemma => kernel_rfl) (pw_call (F := [pt r28_b2 #[.slice r61_p1 r61.2.2.2.sure_.length r61_c2, .map (some r61_b4), .bool r61.2.2.2.off_, .bool r61.2.2.2.armed_, .int .i64 r61.2.2.2.left_, .int .u64 r61.2.2.2.fall_.Keep, .int .i64 r61.2.2.2.fall_.Tear, .int .i64 r61.2.2.2.acts_, .int .i64 r61.2.2.2.falls_] 68, own e_disk_sector 70 r61_p1 r61_c2 r61.2.2.2.sure_, mpo (kInt .i64) (fun x : disk_sector => Value.agg #[.string x.s_, .int .i64 x.at_]) r61_b4 r61.2.2.2.wait_, pt r28_b10 #[.pointer (some ⟨r28_b2, 0, none⟩), .int .i64 r61.2.2.1.boot_, .int .i64 r61.2.2.1.n_] 47, own (eInt .u8) 5 p117 1 ([IntKind.u8.wrap ((x2.size : Int))] : List Int)] ++ F0) rfl rfl rfl rfl rfl rfl rfl (by as_aux_lemma => kernel_rfl) (perm_of_pulls [0] rfl) (c_law10_awake _ r115 h116) ?_)
                                                    rintro _ _ ⟨rfl, rfl⟩
                                                    refine nw_H (H' := [imm I, pt r28_b2 #[.slice r61_p1 r61.2.2.2.sure_.length r61_c2, .map (some r61_b4), .bool r61.2.2.2.off_, .bool r61.2.2.2.armed_, .int .i64 r61.2.2.2.left_, .int .u64 r61.2.2.2.fall_.Keep, .int .i64 r61.2.2.2.fall_.Tear, .int .i64 r61.2.2.2.acts_, .int .i64 r61.2.2.2.falls_] 68, own e_disk_sector 70 r61_p1 r61_c2 r61.2.2.2.sure_, mpo (kInt .i64) (fun x : disk_sector => Value.agg #[.string x.s_, .int .i64 x.at_]) r61_b4 r61.2.2.2.wait_, pt r28_b10 #[.pointer (some ⟨r28_b2, 0, none⟩), .int .i64 r61.2.2.1.boot_, .int .i64 r61.2.2.1.n_] 47, own (eInt .u8) 5 p117 1 ([IntKind.u8.wrap ((x2.size : Int))] : List Int)] ++ F0) rfl (aw_next (fun w hs => sat_pulls [0, 3, 0, 0, 0] (G := [own (eInt .u8) 5 p117 1 ([IntKind.u8.wrap ((x2.size : Int))] : List Int)] ++ F0) rfl hs) ?_)
                                                    refine aw_vals [68, 69] (f' := 0) (m' := 1180591620717411303423) [8] [(8, .bool r115)] (fun _ _ _ _ _ h => calm_fin (P := Tryd.prog) (fn := Tryd.f5) _ _ _ _ _ h) (fun w hs => sat_pulls [0, 3, 0, 0, 0] (G := [own (eInt .u8) 5 p117 1 ([IntKind.u8.wrap ((x2.size : Int))] : List Int)] ++ F0) rfl hs) rfl (by as_aux_lemma => kernel_rfl) ?_
                                                    refine aw_keep [8] (L' := [(8, .bool r115)]) rfl ?_
                                                    refine aw_end (by as_aux_lemma => kernel_rfl) ?_
                                                    refine ew_then ?_
                                                    refine cw_ret ?_
                                                    have hR := Option.some.inj hF
                                                    subst hR
                                                    exact fin1 (H1 := [imm I]) (fun w hs => sat_to [1, 1, 1, 1, 1, 0] 5 rfl hs) rfl (rr_tmp rfl) ⟨rfl, rfl⟩
                                                  · refine aw_slots (L' := [(186, .bool false)]) (by rw [h125]) ?_
                                                    refine aw_vals [67, 68, 69] (f' := 0) (m' := 1180591620717411303423) [8] [(8, .bool false)] (fun _ _ _ _ _ h => calm_fin (P := Tryd.prog) (fn := Tryd.f5) _ _ _ _ _ h) (fun w hs => sat_pulls [0, 3, 0, 0, 0] (G := [own (eInt .u8) 5 p117 1 ([IntKind.u8.wrap ((x2.size : Int))] : List Int)] ++ F0) rfl hs) rfl (by as_aux_lemma => kernel_rfl) ?_
                                                    refine aw_keep [8] (L' := [(8, .bool false)]) rfl ?_
                                                    refine aw_end (by as_aux_lemma => kernel_rfl) ?_
                                                    refine ew_then ?_
                                                    refine cw_ret ?_
                                                    have hR := Option.some.inj hF
                                                    subst hR
                                                    exact fin1 (H1 := [imm I]) (fun w hs => sat_to [1, 1, 1, 1, 1, 0] 5 rfl hs) rfl (rr_tmp rfl) ⟨rfl, rfl⟩
                                                · refine aw_slots (L' := [(9, .pointer (some ⟨r28_b2, 0, none⟩)), (10, .pointer (some ⟨r28_b10, 0, none⟩)), (178, .bool false)]) (by rw [h124]) ?_
                                                  refine aw_vals [59, 60, 61, 62, 63, 64, 65, 66, 67, 68, 69] (f' := 0) (m' := 1180591620717411303423) [8] [(8, .bool false)] (fun _ _ _ _ _ h => calm_fin (P := Tryd.prog) (fn := Tryd.f5) _ _ _ _ _ h) (fun w hs => sat_pulls [0, 3, 0, 0, 0] (G := [own (eInt .u8) 5 p117 1 ([IntKind.u8.wrap ((x2.size : Int))] : List Int)] ++ F0) rfl hs) rfl (by as_aux_lemma => kernel_rfl) ?_
                                                  refine aw_keep [8] (L' := [(8, .bool false)]) rfl ?_
                                                  refine aw_end (by as_aux_lemma => kernel_rfl) ?_
                                                  refine ew_then ?_
                                                  refine cw_ret ?_
                                                  have hR := Option.some.inj hF
                                                  subst hR
                                                  exact fin1 (H1 := [imm I]) (fun w hs => sat_to [1, 1, 1, 1, 1, 0] 5 rfl hs) rfl (rr_tmp rfl) ⟨rfl, rfl⟩
                                              · refine aw_slots (L' := [(9, .pointer (some ⟨r28_b2, 0, none⟩)), (10, .pointer (some ⟨r28_b10, 0, none⟩)), (172, .bool false)]) (by rw [h123]) ?_
                                                refine aw_vals [53, 54, 55, 56, 57, 58, 59, 60, 61, 62, 63, 64, 65, 66, 67, 68, 69] (f' := 0) (m' := 1180591620717411303423) [8] [(8, .bool false)] (fun _ _ _ _ _ h => calm_fin (P := Tryd.prog) (fn := Tryd.f5) _ _ _ _ _ h) (fun w hs => sat_pulls [0, 0, 0, 0, 0] (G := [own (eInt .u8) 5 p117 1 ([IntKind.u8.wrap ((x2.size : Int))] : List Int)] ++ F0) rfl hs) rfl (by as_aux_lemma => kernel_rfl) ?_
                                                refine aw_keep [8] (L' := [(8, .bool false)]) rfl ?_
                                                refine aw_end (by as_aux_lemma => kernel_rfl) ?_
                                                refine ew_then ?_
                                                refine cw_ret ?_
                                                have hR := Option.some.inj hF
                                                subst hR
                                                exact fin1 (H1 := [imm I]) (fun w hs => sat_to [1, 1, 1, 1, 1, 0] 5 rfl hs) rfl (rr_tmp rfl) ⟨rfl, rfl⟩
                                            · refine aw_slots (L' := [(1, .int .i64 x1), (9, .pointer (some ⟨r28_b2, 0, none⟩)), (10, .pointer (some ⟨r28_b10, 0, none⟩)), (166, .bool false)]) (by rw [h122]) ?_
                                              refine aw_vals [47, 48, 49, 50, 51, 52, 53, 54, 55, 56, 57, 58, 59, 60, 61, 62, 63, 64, 65, 66, 67, 68, 69] (f' := 0) (m' := 1180591620717411303423) [8] [(8, .bool false)] (fun _ _ _ _ _ h => calm_fin (P := Tryd.prog) (fn := Tryd.f5) _ _ _ _ _ h) (fun w hs => sat_pulls [0, 1, 1, 1, 1] (G := [own (eInt .u8) 5 p117 1 ([IntKind.u8.wrap ((x2.size : Int))] : List Int)] ++ F0) rfl hs) rfl (by as_aux_lemma => kernel_rfl) ?_
                                              refine aw_keep [8] (L' := [(8, .bool false)]) rfl ?_
                                              refine aw_end (by as_aux_lemma => kernel_rfl) ?_
                                              refine ew_then ?_
                                              refine cw_ret ?_
                                              have hR := Option.some.inj hF
                                              subst hR
                                              exact fin1 (H1 := [imm I]) (fun w hs => sat_to [1, 1, 1, 1, 1, 0] 5 rfl hs) rfl (rr_tmp rfl) ⟨rfl, rfl⟩
                                          · refine aw_slots (L' := [(1, .int .i64 x1), (9, .pointer (some ⟨r28_b2, 0, none⟩)), (10, .pointer (some ⟨r28_b10, 0, none⟩)), (19, .int .i64 r85.2.2), (162, .bool false)]) (by rw [h121]) ?_
                                            refine aw_vals [43, 44, 45, 46, 47, 48, 49, 50, 51, 52, 53, 54, 55, 56, 57, 58, 59, 60, 61, 62, 63, 64, 65, 66, 67, 68, 69] (f' := 0) (m' := 1180591620717411303423) [8] [(8, .bool false)] (fun _ _ _ _ _ h => calm_fin (P := Tryd.prog) (fn := Tryd.f5) _ _ _ _ _ h) (fun w hs => sat_pulls [0, 1, 1, 1, 1] (G := [own (eInt .u8) 5 p117 1 ([IntKind.u8.wrap ((x2.size : Int))] : List Int)] ++ F0) rfl hs) rfl (by as_aux_lemma => kernel_rfl) ?_
                                            refine aw_keep [8] (L' := [(8, .bool false)]) rfl ?_
                                            refine aw_end (by as_aux_lemma => kernel_rfl) ?_
                                            refine ew_then ?_
                                            refine cw_ret ?_
                                            have hR := Option.some.inj hF
                                            subst hR
                                            exact fin1 (H1 := [imm I]) (fun w hs => sat_to [1, 1, 1, 1, 1, 0] 5 rfl hs) rfl (rr_tmp rfl) ⟨rfl, rfl⟩
                                        · refine aw_slots (L' := [(1, .int .i64 x1), (9, .pointer (some ⟨r28_b2, 0, none⟩)), (10, .pointer (some ⟨r28_b10, 0, none⟩)), (13, .int .i64 r61.1), (18, .int .i64 r85.2.1), (19, .int .i64 r85.2.2), (157, .bool false)]) (by rw [h120]) ?_
                                          refine aw_vals [38, 39, 40, 41, 42, 43, 44, 45, 46, 47, 48, 49, 50, 51, 52, 53, 54, 55, 56, 57, 58, 59, 60, 61, 62, 63, 64, 65, 66, 67, 68, 69] (f' := 0) (m' := 1180591620717411303423) [8] [(8, .bool false)] (fun _ _ _ _ _ h => calm_fin (P := Tryd.prog) (fn := Tryd.f5) _ _ _ _ _ h) (fun w hs => sat_pulls [0, 1, 1, 1, 1] (G := [own (eInt .u8) 5 p117 1 ([IntKind.u8.wrap ((x2.size : Int))] : List Int)] ++ F0) rfl hs) rfl (by as_aux_lemma => kernel_rfl) ?_
                                          refine aw_keep [8] (L' := [(8, .bool false)]) rfl ?_
                                          refine aw_end (by as_aux_lemma => kernel_rfl) ?_
                                          refine ew_then ?_
                                          refine cw_ret ?_
                                          have hR := Option.some.inj hF
                                          subst hR
                                          exact fin1 (H1 := [imm I]) (fun w hs => sat_to [1, 1, 1, 1, 1, 0] 5 rfl hs) rfl (rr_tmp rfl) ⟨rfl, rfl⟩
                                      · refine aw_slots (L' := [(1, .int .i64 x1), (2, .string x2), (9, .pointer (some ⟨r28_b2, 0, none⟩)), (10, .pointer (some ⟨r28_b10, 0, none⟩)), (13, .int .i64 r61.1), (17, .string r85.1), (18, .int .i64 r85.2.1), (19, .int .i64 r85.2.2), (152, .bool false)]) (by rw [h119]) ?_
                                        refine aw_vals [33, 34, 35, 36, 37, 38, 39, 40, 41, 42, 43, 44, 45, 46, 47, 48, 49, 50, 51, 52, 53, 54, 55, 56, 57, 58, 59, 60, 61, 62, 63, 64, 65, 66, 67, 68, 69] (f' := 0) (m' := 1180591620717411303423) [8] [(8, .bool false)] (fun _ _ _ _ _ h => calm_fin (P := Tryd.prog) (fn := Tryd.f5) _ _ _ _ _ h) (fun w hs => sat_pulls [0, 1, 1, 1, 1] (G := [own (eInt .u8) 5 p117 1 ([IntKind.u8.wrap ((x2.size : Int))] : List Int)] ++ F0) rfl hs) rfl (by as_aux_lemma => kernel_rfl) ?_
                                        refine aw_keep [8] (L' := [(8, .bool false)]) rfl ?_
                                        refine aw_end (by as_aux_lemma => kernel_rfl) ?_
                                        refine ew_then ?_
                                        refine cw_ret ?_
                                        have hR := Option.some.inj hF
                                        subst hR
                                        exact fin1 (H1 := [imm I]) (fun w hs => sat_to [1, 1, 1, 1, 1, 0] 5 rfl hs) rfl (rr_tmp rfl) ⟨rfl, rfl⟩
                                    · refine pw_call (F := [own (eInt .u8) 5 p117 1 ([IntKind.u8.wrap ((x2.size : Int))] : List Int), pt r28_b10 #[.pointer (some ⟨r28_b2, 0, none⟩), .int .i64 r61.2.2.1.boot_, .int .i64 r61.2.2.1.n_] 47, pt r28_b2 #[.slice r61_p1 r61.2.2.2.sure_.length r61_c2, .map (some r61_b4), .bool r61.2.2.2.off_, .bool r61.2.2.2.armed_, .int .i64 r61.2.2.2.left_, .int .u64 r61.2.2.2.fall_.Keep, .int .i64 r61.2.2.2.fall_.Tear, .int .i64 r61.2.2.2.acts_, .int .i64 r61.2.2.2.falls_] 68, own e_disk_sector 70 r61_p1 r61_c2 r61.2.2.2.sure_, mpo (kInt .i64) (fun x : disk_sector => Value.agg #[.string x.s_, .int .i64 x.at_]) r61_b4 r61.2.2.2.wait_] ++ F0) rfl rfl rfl rfl rfl rfl rfl (by as_aux_lemma => kernel_rfl) (perm_of_pulls [1] rfl) (c_law10_noughts _ (IntKind.i64.wrap (47 - (x2.size : Int))) r96 h97) ?_
                                      rintro _ _ ⟨rfl, rfl⟩
                                      refine nw_H (H' := [imm I, own (eInt .u8) 5 p117 1 ([IntKind.u8.wrap ((x2.size : Int))] : List Int), pt r28_b10 #[.pointer (some ⟨r28_b2, 0, none⟩), .int .i64 r61.2.2.1.boot_, .int .i64 r61.2.2.1.n_] 47, pt r28_b2 #[.slice r61_p1 r61.2.2.2.sure_.length r61_c2, .map (some r61_b4), .bool r61.2.2.2.off_, .bool r61.2.2.2.armed_, .int .i64 r61.2.2.2.left_, .int .u64 r61.2.2.2.fall_.Keep, .int .i64 r61.2.2.2.fall_.Tear, .int .i64 r61.2.2.2.acts_, .int .i64 r61.2.2.2.falls_] 68, own e_disk_sector 70 r61_p1 r61_c2 r61.2.2.2.sure_, mpo (kInt .i64) (fun x : disk_sector => Value.agg #[.string x.s_, .int .i64 x.at_]) r61_b4 r61.2.2.2.wait_] ++ F0) rfl (aw_next (fun w hs => sat_pulls [0, 1, 1, 1, 1] (G := [own (eInt .u8) 5 p117 1 ([IntKind.u8.wrap ((x2.size : Int))] : List Int)] ++ F0) rfl hs) ?_)
                                      refine aw_only 19 (m' := 397410303) (by as_aux_lemma => kernel_rfl) (by as_aux_lemma => kernel_rfl) (pw_quiet (v := .string (bstr ([IntKind.u8.wrap ((x2.size : Int))] : List Int))) rfl rfl rfl rfl (q_bytes_str_own 1 rfl rfl (by as_aux_lemma => kernel_rfl) (by as_aux_lemma => kernel_rfl) rfl) (aw_next (fun w hs => sat_pulls [0, 1, 1, 1, 1] (G := [own (eInt .u8) 5 p117 1 ([IntKind.u8.wrap ((x2.size : Int))] : List Int)] ++ F0) rfl hs) ?_))
                                      refine aw_pure 20 (m' := 398458879) (v := .string (r87 ++ (bstr ([IntKind.u8.wrap ((x2.size : Int))] : List Int)))) rfl rfl rfl rfl (by as_aux_lemma => kernel_rfl) (by as_aux_lemma => kernel_rfl) (fun _ _ _ _ _ h => calm_fin (P := Tryd.prog) (fn := Tryd.f5) _ _ _ _ _ h) (fun w hs => sat_pulls [0, 1, 1, 1, 1] (G := [own (eInt .u8) 5 p117 1 ([IntKind.u8.wrap ((x2.size : Int))] : List Int)] ++ F0) rfl hs) (q_concat rfl rfl rfl h94) ?_
                                      refine aw_pure 22 (m' := 402653183) (v := .string ((r87 ++ (bstr ([IntKind.u8.wrap ((x2.size : Int))] : List Int))) ++ x2)) rfl rfl rfl rfl (by as_aux_lemma => kernel_rfl) (by as_aux_lemma => kernel_rfl) (fun _ _ _ _ _ h => calm_fin (P := Tryd.prog) (fn := Tryd.f5) _ _ _ _ _ h) (fun w hs => sat_pulls [0, 1, 1, 1, 1] (G := [own (eInt .u8) 5 p117 1 ([IntKind.u8.wrap ((x2.size : Int))] : List Int)] ++ F0) rfl hs) (q_concat rfl rfl rfl h95) ?_
                                      refine aw_pure 27 (m' := 536870911) (v := .string (((r87 ++ (bstr ([IntKind.u8.wrap ((x2.size : Int))] : List Int))) ++ x2) ++ r96)) rfl rfl rfl rfl (by as_aux_lemma => kernel_rfl) (by as_aux_lemma => kernel_rfl) (fun _ _ _ _ _ h => calm_fin (P := Tryd.prog) (fn := Tryd.f5) _ _ _ _ _ h) (fun w hs => sat_pulls [0, 1, 1, 1, 1] (G := [own (eInt .u8) 5 p117 1 ([IntKind.u8.wrap ((x2.size : Int))] : List Int)] ++ F0) rfl hs) (q_concat rfl rfl rfl h98) ?_
                                      refine aw_pure 29 (m' := 1073741823) (v := .string ((((r87 ++ (bstr ([IntKind.u8.wrap ((x2.size : Int))] : List Int))) ++ x2) ++ r96) ++ r87)) rfl rfl rfl rfl (by as_aux_lemma => kernel_rfl) (by as_aux_lemma => kernel_rfl) (fun _ _ _ _ _ h => calm_fin (P := Tryd.prog) (fn := Tryd.f5) _ _ _ _ _ h) (fun w hs => sat_pulls [0, 1, 1, 1, 1] (G := [own (eInt .u8) 5 p117 1 ([IntKind.u8.wrap ((x2.size : Int))] : List Int)] ++ F0) rfl hs) (q_concat rfl rfl rfl h99) ?_
                                      refine aw_vals [30, 31, 32] (f' := 37) (m' := 8589934591) [1, 2, 9, 10, 13, 17, 18, 19, 152] [(1, .int .i64 x1), (2, .string x2), (9, .pointer (some ⟨r28_b2, 0, none⟩)), (10, .pointer (some ⟨r28_b10, 0, none⟩)), (13, .int .i64 r61.1), (17, .string r85.1), (18, .int .i64 r85.2.1), (19, .int .i64 r85.2.2), (152, .bool (seqB r83.1 ((((r87 ++ (bstr ([IntKind.u8.wrap ((x2.size : Int))] : List Int))) ++ x2) ++ r96) ++ r87)))] (fun _ _ _ _ _ h => calm_fin (P := Tryd.prog) (fn := Tryd.f5) _ _ _ _ _ h) (fun w hs => sat_pulls [0, 1, 1, 1, 1] (G := [own (eInt .u8) 5 p117 1 ([IntKind.u8.wrap ((x2.size : Int))] : List Int)] ++ F0) rfl hs) rfl (by as_aux_lemma => kernel_rfl) ?_
                                      rcases if_some hF with ⟨h119, hF⟩ | ⟨h119, hF⟩
                                      · refine aw_slots (L' := [(1, .int .i64 x1), (2, .string x2), (9, .pointer (some ⟨r28_b2, 0, none⟩)), (10, .pointer (some ⟨r28_b10, 0, none⟩)), (13, .int .i64 r61.1), (17, .string r85.1), (18, .int .i64 r85.2.1), (19, .int .i64 r85.2.2), (152, .bool true)]) (by rw [h119]) ?_
                                        refine aw_vals [33, 34, 35, 36, 37] (f' := 32) (m' := 274877906943) [1, 9, 10, 13, 18, 19, 157] [(1, .int .i64 x1), (9, .pointer (some ⟨r28_b2, 0, none⟩)), (10, .pointer (some ⟨r28_b10, 0, none⟩)), (13, .int .i64 r61.1), (18, .int .i64 r85.2.1), (19, .int .i64 r85.2.2), (157, .bool (seqB r85.1 x2))] (fun _ _ _ _ _ h => calm_fin (P := Tryd.prog) (fn := Tryd.f5) _ _ _ _ _ h) (fun w hs => sat_pulls [0, 1, 1, 1, 1] (G := [own (eInt .u8) 5 p117 1 ([IntKind.u8.wrap ((x2.size : Int))] : List Int)] ++ F0) rfl hs) rfl (by as_aux_lemma => kernel_rfl) ?_
                                        rcases if_some hF with ⟨h120, hF⟩ | ⟨h120, hF⟩
                                        · refine aw_slots (L' := [(1, .int .i64 x1), (9, .pointer (some ⟨r28_b2, 0, none⟩)), (10, .pointer (some ⟨r28_b10, 0, none⟩)), (13, .int .i64 r61.1), (18, .int .i64 r85.2.1), (19, .int .i64 r85.2.2), (157, .bool true)]) (by rw [h120]) ?_
                                          refine aw_vals [38, 39, 40, 41, 42] (f' := 27) (m' := 8796093022207) [1, 9, 10, 19, 162] [(1, .int .i64 x1), (9, .pointer (some ⟨r28_b2, 0, none⟩)), (10, .pointer (some ⟨r28_b10, 0, none⟩)), (19, .int .i64 r85.2.2), (162, .bool (r85.2.1 == r61.1))] (fun _ _ _ _ _ h => calm_fin (P := Tryd.prog) (fn := Tryd.f5) _ _ _ _ _ h) (fun w hs => sat_pulls [0, 1, 1, 1, 1] (G := [own (eInt .u8) 5 p117 1 ([IntKind.u8.wrap ((x2.size : Int))] : List Int)] ++ F0) rfl hs) rfl (by as_aux_lemma => kernel_rfl) ?_
                                          rcases if_some hF with ⟨h121, hF⟩ | ⟨h121, hF⟩
                                          · refine aw_slots (L' := [(1, .int .i64 x1), (9, .pointer (some ⟨r28_b2, 0, none⟩)), (10, .pointer (some ⟨r28_b10, 0, none⟩)), (19, .int .i64 r85.2.2), (162, .bool true)]) (by rw [h121]) ?_
                                            refine aw_vals [43, 44, 45, 46] (f' := 23) (m' := 140737488355327) [1, 9, 10, 166] [(1, .int .i64 x1), (9, .pointer (some ⟨r28_b2, 0, none⟩)), (10, .pointer (some ⟨r28_b10, 0, none⟩)), (166, .bool (r85.2.2 == 0))] (fun _ _ _ _ _ h => calm_fin (P := Tryd.prog) (fn := Tryd.f5) _ _ _ _ _ h) (fun w hs => sat_pulls [0, 1, 1, 1, 1] (G := [own (eInt .u8) 5 p117 1 ([IntKind.u8.wrap ((x2.size : Int))] : List Int)] ++ F0) rfl hs) rfl (by as_aux_lemma => kernel_rfl) ?_
                                            rcases if_some hF with ⟨h122, hF⟩ | ⟨h122, hF⟩
                                            · refine aw_slots (L' := [(1, .int .i64 x1), (9, .pointer (some ⟨r28_b2, 0, none⟩)), (10, .pointer (some ⟨r28_b10, 0, none⟩)), (166, .bool true)]) (by rw [h122]) ?_
                                              refine aw_vals [47, 48] (f' := 21) (m' := 562949953421311) [9, 10, 166, 167, 168] [(9, .pointer (some ⟨r28_b2, 0, none⟩)), (10, .pointer (some ⟨r28_b10, 0, none⟩)), (166, .bool true), (167, .pointer (some ⟨r28_b10, 0, none⟩)), (168, .int .i64 x1)] (fun _ _ _ _ _ h => calm_fin (P := Tryd.prog) (fn := Tryd.f5) _ _ _ _ _ h) (fun w hs => sat_pulls [0, 1, 1, 1, 1] (G := [own (eInt .u8) 5 p117 1 ([IntKind.u8.wrap ((x2.size : Int))] : List Int)] ++ F0) rfl hs) rfl (by as_aux_lemma => kernel_rfl) ?_
                                              refine aw_only 49 (m' := 1125899906842623) (by as_aux_lemma => kernel_rfl) (by as_aux_lemma => kernel_rfl) (pw_call (F := [own (eInt .u8) 5 p117 1 ([IntKind.u8.wrap ((x2.size : Int))] : List Int)] ++ F0) rfl rfl rfl rfl rfl rfl rfl (by as_aux_lemma => kernel_rfl) (perm_of_pulls [0, 1, 1, 1, 1] rfl) (c_guard_Guard_Blank _ x1 r61.2.2.1 r61.2.2.2 r28_b10 r61_p1 r61_c2 r61_b4 r28_b2 r104 h105) ?_)
                                              rintro _ _ ⟨rfl, rfl⟩
                                              refine nw_H (H' := [imm I, pt r28_b10 #[.pointer (some ⟨r28_b2, 0, none⟩), .int .i64 r61.2.2.1.boot_, .int .i64 r61.2.2.1.n_] 47, pt r28_b2 #[.slice r61_p1 r61.2.2.2.sure_.length r61_c2, .map (some r61_b4), .bool r61.2.2.2.off_, .bool r61.2.2.2.armed_, .int .i64 r61.2.2.2.left_, .int .u64 r61.2.2.2.fall_.Keep, .int .i64 r61.2.2.2.fall_.Tear, .int .i64 r61.2.2.2.acts_, .int .i64 r61.2.2.2.falls_] 68, own e_disk_sector 70 r61_p1 r61_c2 r61.2.2.2.sure_, mpo (kInt .i64) (fun x : disk_sector => Value.agg #[.string x.s_, .int .i64 x.at_]) r61_b4 r61.2.2.2.wait_, own (eInt .u8) 5 p117 1 ([IntKind.u8.wrap ((x2.size : Int))] : List Int)] ++ F0) rfl (aw_next (fun w hs => sat_pulls [0, 0, 0, 0, 0] (G := [own (eInt .u8) 5 p117 1 ([IntKind.u8.wrap ((x2.size : Int))] : List Int)] ++ F0) rfl hs) ?_)
                                              refine aw_vals [50, 51, 52] (f' := 17) (m' := 9007199254740991) [9, 10, 172] [(9, .pointer (some ⟨r28_b2, 0, none⟩)), (10, .pointer (some ⟨r28_b10, 0, none⟩)), (172, .bool (!r104))] (fun _ _ _ _ _ h => calm_fin (P := Tryd.prog) (fn := Tryd.f5) _ _ _ _ _ h) (fun w hs => sat_pulls [0, 0, 0, 0, 0] (G := [own (eInt .u8) 5 p117 1 ([IntKind.u8.wrap ((x2.size : Int))] : List Int)] ++ F0) rfl hs) rfl (by as_aux_lemma => kernel_rfl) ?_
                                              rcases if_some hF with ⟨h123, hF⟩ | ⟨h123, hF⟩
                                              · refine aw_slots (L' := [(9, .pointer (some ⟨r28_b2, 0, none⟩)), (10, .pointer (some ⟨r28_b10, 0, none⟩)), (172, .bool true)]) (by rw [h123]) ?_
                                                refine aw_vals [53] (f' := 16) (m' := 18014398509481983) [9, 10, 172, 173] [(9, .pointer (some ⟨r28_b2, 0, none⟩)), (10, .pointer (some ⟨r28_b10, 0, none⟩)), (172, .bool true), (173, .pointer (some ⟨r28_b10, 0, none⟩))] (fun _ _ _ _ _ h => calm_fin (P := Tryd.prog) (fn := Tryd.f5) _ _ _ _ _ h) (fun w hs => sat_pulls [0, 0, 0, 0, 0] (G := [own (eInt .u8) 5 p117 1 ([IntKind.u8.wrap ((x2.size : Int))] : List Int)] ++ F0) rfl hs) rfl (by as_aux_lemma => kernel_rfl) ?_
                                                refine aw_only 54 (m' := 36028797018963967) (by as_aux_lemma => kernel_rfl) (by as_aux_lemma => kernel_rfl) (pw_call (F := [own (eInt .u8) 5 p117 1 ([IntKind.u8.wrap ((x2.size : Int))] : List Int)] ++ F0) rfl rfl rfl rfl rfl rfl rfl (by as_aux_lemma => kernel_rfl) (perm_of_pulls [0, 0, 0, 0, 0] rfl) (c_guard_Guard_Disk _ r61.2.2.1 r61.2.2.2 r28_b10 r61_p1 r61_c2 r61_b4 r28_b2 r107 h108) ?_)
                                                rintro _ _ ⟨rfl, rfl⟩
                                                refine nw_H (H' := [imm I, pt r28_b10 #[.pointer (some ⟨r28_b2, 0, none⟩), .int .i64 r61.2.2.1.boot_, .int .i64 r61.2.2.1.n_] 47, pt r28_b2 #[.slice r61_p1 r61.2.2.2.sure_.length r61_c2, .map (some r61_b4), .bool r61.2.2.2.off_, .bool r61.2.2.2.armed_, .int .i64 r61.2.2.2.left_, .int .u64 r61.2.2.2.fall_.Keep, .int .i64 r61.2.2.2.fall_.Tear, .int .i64 r61.2.2.2.acts_, .int .i64 r61.2.2.2.falls_] 68, own e_disk_sector 70 r61_p1 r61_c2 r61.2.2.2.sure_, mpo (kInt .i64) (fun x : disk_sector => Value.agg #[.string x.s_, .int .i64 x.at_]) r61_b4 r61.2.2.2.wait_, own (eInt .u8) 5 p117 1 ([IntKind.u8.wrap ((x2.size : Int))] : List Int)] ++ F0) rfl (aw_next (fun w hs => sat_pulls [0, 0, 0, 0, 0] (G := [own (eInt .u8) 5 p117 1 ([IntKind.u8.wrap ((x2.size : Int))] : List Int)] ++ F0) rfl hs) ?_)
                                                refine aw_only 55 (m' := 72057594037927935) (by as_aux_lemma => kernel_rfl) (by as_aux_lemma => kernel_rfl) (pw_call (F := [pt r28_b10 #[.pointer (some ⟨r28_b2, 0, none⟩), .int .i64 r61.2.2.1.boot_, .int .i64 r61.2.2.1.n_] 47, own (eInt .u8) 5 p117 1 ([IntKind.u8.wrap ((x2.size : Int))] : List Int)] ++ F0) rfl rfl rfl rfl rfl rfl rfl (by as_aux_lemma => kernel_rfl) (perm_of_pulls [0, 1, 1, 1] rfl) (c_disk_Disk_Size _ r61.2.2.2 r61_p1 r61_c2 r61_b4 r28_b2 r109 h110) ?_)
                                                rintro _ _ ⟨rfl, rfl⟩
                                                refine nw_H (H' := [imm I, pt r28_b2 #[.slice r61_p1 r61.2.2.2.sure_.length r61_c2, .map (some r61_b4), .bool r61.2.2.2.off_, .bool r61.2.2.2.armed_, .int .i64 r61.2.2.2.left_, .int .u64 r61.2.2.2.fall_.Keep, .int .i64 r61.2.2.2.fall_.Tear, .int .i64 r61.2.2.2.acts_, .int .i64 r61.2.2.2.falls_] 68, own e_disk_sector 70 r61_p1 r61_c2 r61.2.2.2.sure_, mpo (kInt .i64) (fun x : disk_sector => Value.agg #[.string x.s_, .int .i64 x.at_]) r61_b4 r61.2.2.2.wait_, pt r28_b10 #[.pointer (some ⟨r28_b2, 0, none⟩), .int .i64 r61.2.2.1.boot_, .int .i64 r61.2.2.1.n_] 47, own (eInt .u8) 5 p117 1 ([IntKind.u8.wrap ((x2.size : Int))] : List Int)] ++ F0) rfl (aw_next (fun w hs => sat_pulls [0, 3, 0, 0, 0] (G := [own (eInt .u8) 5 p117 1 ([IntKind.u8.wrap ((x2.size : Int))] : List Int)] ++ F0) rfl hs) ?_)
                                                refine aw_vals [56, 57, 58] (f' := 11) (m' := 576460752303423487) [9, 10, 178] [(9, .pointer (some ⟨r28_b2, 0, none⟩)), (10, .pointer (some ⟨r28_b10, 0, none⟩)), (178, .bool (r109 == 10))] (fun _ _ _ _ _ h => calm_fin (P := Tryd.prog) (fn := Tryd.f5) _ _ _ _ _ h) (fun w hs => sat_pulls [0, 3, 0, 0, 0] (G := [own (eInt .u8) 5 p117 1 ([IntKind.u8.wrap ((x2.size : Int))] : List Int)] ++ F0) rfl hs) rfl (by as_aux_lemma => kernel_rfl) ?_
                                                rcases if_some hF with ⟨h124, hF⟩ | ⟨h124, hF⟩
                                                · refine aw_slots (L' := [(9, .pointer (some ⟨r28_b2, 0, none⟩)), (10, .pointer (some ⟨r28_b10, 0, none⟩)), (178, .bool true)]) (by rw [h124]) ?_
                                                  refine aw_vals [59, 62] (f' := 9) (m' := 5764607523034234879) [178, 179, 182] [(178, .bool true), (179, .pointer (some ⟨r28_b10, 0, none⟩)), (182, .pointer (some ⟨r28_b2, 0, none⟩))] (fun _ _ _ _ _ h => calm_fin (P := Tryd.prog) (fn := Tryd.f5) _ _ _ _ _ h) (fun w hs => sat_pulls [0, 3, 0, 0, 0] (G := [own (eInt .u8) 5 p117 1 ([IntKind.u8.wrap ((x2.size : Int))] : List Int)] ++ F0) rfl hs) rfl (by as_aux_lemma => kernel_rfl) ?_
                                                  refine aw_only 60 (m' := 6917529027641081855) (by as_aux_lemma => kernel_rfl) (by as_aux_lemma => kernel_rfl) (pw_call (F := [own (eInt .u8) 5 p117 1 ([IntKind.u8.wrap ((x2.size : Int))] : List Int)] ++ F0) rfl rfl rfl rfl rfl rfl rfl (by as_aux_lemma => kernel_rfl) (perm_of_pulls [0, 3, 0, 0, 0] rfl) (c_guard_Guard_Disk _ r61.2.2.1 r61.2.2.2 r28_b10 r61_p1 r61_c2 r61_b4 r28_b2 r107 h108) ?_)
                                                  rintro _ _ ⟨rfl, rfl⟩
                                                  refine nw_H (H' := [imm I, pt r28_b10 #[.pointer (some ⟨r28_b2, 0, none⟩), .int .i64 r61.2.2.1.boot_, .int .i64 r61.2.2.1.n_] 47, pt r28_b2 #[.slice r61_p1 r61.2.2.2.sure_.length r61_c2, .map (some r61_b4), .bool r61.2.2.2.off_, .bool r61.2.2.2.armed_, .int .i64 r61.2.2.2.left_, .int .u64 r61.2.2.2.fall_.Keep, .int .i64 r61.2.2.2.fall_.Tear, .int .i64 r61.2.2.2.acts_, .int .i64 r61.2.2.2.falls_] 68, own e_disk_sector 70 r61_p1 r61_c2 r61.2.2.2.sure_, mpo (kInt .i64) (fun x : disk_sector => Value.agg #[.string x.s_, .int .i64 x.at_]) r61_b4 r61.2.2.2.wait_, own (eInt .u8) 5 p117 1 ([IntKind.u8.wrap ((x2.size : Int))] : List Int)] ++ F0) rfl (aw_next (fun w hs => sat_pulls [0, 0, 0, 0, 0] (G := [own (eInt .u8) 5 p117 1 ([IntKind.u8.wrap ((x2.size : Int))] : List Int)] ++ F0) rfl hs) ?_)
                                                  refine aw_only 61 (m' := 9223372036854775807) (by as_aux_lemma => kernel_rfl) (by as_aux_lemma => kernel_rfl) (pw_call (F := [pt r28_b10 #[.pointer (some ⟨r28_b2, 0, none⟩), .int .i64 r61.2.2.1.boot_, .int .i64 r61.2.2.1.n_] 47, own (eInt .u8) 5 p117 1 ([IntKind.u8.wrap ((x2.size : Int))] : List Int)] ++ F0) rfl rfl rfl rfl rfl rfl rfl (by as_aux_lemma => kernel_rfl) (perm_of_pulls [0, 1, 1, 1] rfl) (c_disk_Disk_Acts _ r61.2.2.2 r61_p1 r61_c2 r61_b4 r28_b2 r112 h113) ?_)
                                                  rintro _ _ ⟨rfl, rfl⟩
                                                  refine nw_H (H' := [imm I, pt r28_b2 #[.slice r61_p1 r61.2.2.2.sure_.length r61_c2, .map (some r61_b4), .bool r61.2.2.2.off_, .bool r61.2.2.2.armed_, .int .i64 r61.2.2.2.left_, .int .u64 r61.2.2.2.fall_.Keep, .int .i64 r61.2.2.2.fall_.Tear, .int .i64 r61.2.2.2.acts_, .int .i64 r61.2.2.2.falls_] 68, own e_disk_sector 70 r61_p1 r61_c2 r61.2.2.2.sure_, mpo (kInt .i64) (fun x : disk_sector => Value.agg #[.string x.s_, .int .i64 x.at_]) r61_b4 r61.2.2.2.wait_, pt r28_b10 #[.pointer (some ⟨r28_b2, 0, none⟩), .int .i64 r61.2.2.1.boot_, .int .i64 r61.2.2.1.n_] 47, own (eInt .u8) 5 p117 1 ([IntKind.u8.wrap ((x2.size : Int))] : List Int)] ++ F0) rfl (aw_next (fun w hs => sat_pulls [0, 3, 0, 0, 0] (G := [own (eInt .u8) 5 p117 1 ([IntKind.u8.wrap ((x2.size : Int))] : List Int)] ++ F0) rfl hs) ?_)
                                                  refine aw_only 63 (m' := 18446744073709551615) (by as_aux_lemma => kernel_rfl) (by as_aux_lemma => kernel_rfl) (pw_call (F := [pt r28_b10 #[.pointer (some ⟨r28_b2, 0, none⟩), .int .i64 r61.2.2.1.boot_, .int .i64 r61.2.2.1.n_] 47, own (eInt .u8) 5 p117 1 ([IntKind.u8.wrap ((x2.size : Int))] : List Int)] ++ F0) rfl rfl rfl rfl rfl rfl rfl (by as_aux_lemma => kernel_rfl) (perm_of_pulls [0, 0, 0, 0] rfl) (c_disk_Disk_Acts _ r61.2.2.2 r61_p1 r61_c2 r61_b4 r28_b2 r112 h113) ?_)
                                                  rintro _ _ ⟨rfl, rfl⟩
                                                  refine nw_H (H' := [imm I, pt r28_b2 #[.slice r61_p1 r61.2.2.2.sure_.length r61_c2, .map (some r61_b4), .bool r61.2.2.2.off_, .bool r61.2.2.2.armed_, .int .i64 r61.2.2.2.left_, .int .u64 r61.2.2.2.fall_.Keep, .int .i64 r61.2.2.2.fall_.Tear, .int .i64 r61.2.2.2.acts_, .int .i64 r61.2.2.2.falls_] 68, own e_disk_sector 70 r61_p1 r61_c2 r61.2.2.2.sure_, mpo (kInt .i64) (fun x : disk_sector => Value.agg #[.string x.s_, .int .i64 x.at_]) r61_b4 r61.2.2.2.wait_, pt r28_b10 #[.pointer (some ⟨r28_b2, 0, none⟩), .int .i64 r61.2.2.1.boot_, .int .i64 r61.2.2.1.n_] 47, own (eInt .u8) 5 p117 1 ([IntKind.u8.wrap ((x2.size : Int))] : List Int)] ++ F0) rfl (aw_next (fun w hs => sat_pulls [0, 3, 0, 0, 0] (G := [own (eInt .u8) 5 p117 1 ([IntKind.u8.wrap ((x2.size : Int))] : List Int)] ++ F0) rfl hs) ?_)
                                                  refine aw_vals [64, 65, 66] (f' := 3) (m' := 147573952589676412927) [186] [(186, .bool (r112 == r112))] (fun _ _ _ _ _ h => calm_fin (P := Tryd.prog) (fn := Tryd.f5) _ _ _ _ _ h) (fun w hs => sat_pulls [0, 3, 0, 0, 0] (G := [own (eInt .u8) 5 p117 1 ([IntKind.u8.wrap ((x2.size : Int))] : List Int)] ++ F0) rfl hs) rfl (by as_aux_lemma => kernel_rfl) ?_
                                                  rcases if_some hF with ⟨h125, hF⟩ | ⟨h125, hF⟩
                                                  · refine aw_slots (L' := [(186, .bool true)]) (by rw [h125]) ?_
                                                    refine aw_only 67 (m' := 295147905179352825855) (by as_aux_lemma => kernel_rfl) (by as_aux_lemma => kernel_rfl) (pw_call (F := [pt r28_b2 #[.slice r61_p1 r61.2.2.2.sure_.length r61_c2, .map (some r61_b4), .bool r61.2.2.2.off_, .bool r61.2.2.2.armed_, .int .i64 r61.2.2.2.left_, .int .u64 r61.2.2.2.fall_.Keep, .int .i64 r61.2.2.2.fall_.Tear, .int .i64 r61.2.2.2.acts_, .int .i64 r61.2.2.2.falls_] 68, own e_disk_sector 70 r61_p1 r61_c2 r61.2.2.2.sure_, mpo (kInt .i64) (fun x : disk_sector => Value.agg #[.string x.s_, .int .i64 x.at_]) r61_b4 r61.2.2.2.wait_, pt r28_b10 #[.pointer (some ⟨r28_b2, 0, none⟩), .int .i64 r61.2.2.1.boot_, .int .i64 r61.2.2.1.n_] 47, own (eInt .u8) 5 p117 1 ([IntKind.u8.wrap ((x2.size : Int))] : List Int)] ++ F0) rfl rfl rfl rfl rfl rfl rfl (by as_aux_lemma => kernel_rfl) (perm_of_pulls [0] rfl) (c_law10_awake _ r115 h116) ?_)
                                                    rintro _ _ ⟨rfl, rfl⟩
                                                    refine nw_H (H' := [imm I, pt r28_b2 #[.slice r61_p1 r61.2.2.2.sure_.length r61_c2, .map (some r61_b4), .bool r61.2.2.2.off_, .bool r61.2.2.2.armed_, .int .i64 r61.2.2.2.left_, .int .u64 r61.2.2.2.fall_.Keep, .int .i64 r61.2.2.2.fall_.Tear, .int .i64 r61.2.2.2.acts_, .int .i64 r61.2.2.2.falls_] 68, own e_disk_sector 70 r61_p1 r61_c2 r61.2.2.2.sure_, mpo (kInt .i64) (fun x : disk_sector => Value.agg #[.string x.s_, .int .i64 x.at_]) r61_b4 r61.2.2.2.wait_, pt r28_b10 #[.pointer (some ⟨r28_b2, 0, none⟩), .int .i64 r61.2.2.1.boot_, .int .i64 r61.2.2.1.n_] 47, own (eInt .u8) 5 p117 1 ([IntKind.u8.wrap ((x2.size : Int))] : List Int)] ++ F0) rfl (aw_next (fun w hs => sat_pulls [0, 3, 0, 0, 0] (G := [own (eInt .u8) 5 p117 1 ([IntKind.u8.wrap ((x2.size : Int))] : List Int)] ++ F0) rfl hs) ?_)
                                                    refine aw_vals [68, 69] (f' := 0) (m' := 1180591620717411303423) [8] [(8, .bool r115)] (fun _ _ _ _ _ h => calm_fin (P := Tryd.prog) (fn := Tryd.f5) _ _ _ _ _ h) (fun w hs => sat_pulls [0, 3, 0, 0, 0] (G := [own (eInt .u8) 5 p117 1 ([IntKind.u8.wrap ((x2.size : Int))] : List Int)] ++ F0) rfl hs) rfl (by as_aux_lemma => kernel_rfl) ?_
                                                    refine aw_keep [8] (L' := [(8, .bool r115)]) rfl ?_
                                                    refine aw_end (by as_aux_lemma => kernel_rfl) ?_
                                                    refine ew_then ?_
                                                    refine cw_ret ?_
                                                    have hR := Option.some.inj hF
                                                    subst hR
                                                    exact fin1 (H1 := [imm I]) (fun w hs => sat_to [1, 1, 1, 1, 1, 0] 5 rfl hs) rfl (rr_tmp rfl) ⟨rfl, rfl⟩
                                                  · refine aw_slots (L' := [(186, .bool false)]) (by rw [h125]) ?_
                                                    refine aw_vals [67, 68, 69] (f' := 0) (m' := 1180591620717411303423) [8] [(8, .bool false)] (fun _ _ _ _ _ h => calm_fin (P := Tryd.prog) (fn := Tryd.f5) _ _ _ _ _ h) (fun w hs => sat_pulls [0, 3, 0, 0, 0] (G := [own (eInt .u8) 5 p117 1 ([IntKind.u8.wrap ((x2.size : Int))] : List Int)] ++ F0) rfl hs) rfl (by as_aux_lemma => kernel_rfl) ?_
                                                    refine aw_keep [8] (L' := [(8, .bool false)]) rfl ?_
                                                    refine aw_end (by as_aux_lemma => kernel_rfl) ?_
                                                    refine ew_then ?_
                                                    refine cw_ret ?_
                                                    have hR := Option.some.inj hF
                                                    subst hR
                                                    exact fin1 (H1 := [imm I]) (fun w hs => sat_to [1, 1, 1, 1, 1, 0] 5 rfl hs) rfl (rr_tmp rfl) ⟨rfl, rfl⟩
                                                · refine aw_slots (L' := [(9, .pointer (some ⟨r28_b2, 0, none⟩)), (10, .pointer (some ⟨r28_b10, 0, none⟩)), (178, .bool false)]) (by rw [h124]) ?_
                                                  refine aw_vals [59, 60, 61, 62, 63, 64, 65, 66, 67, 68, 69] (f' := 0) (m' := 1180591620717411303423) [8] [(8, .bool false)] (fun _ _ _ _ _ h => calm_fin (P := Tryd.prog) (fn := Tryd.f5) _ _ _ _ _ h) (fun w hs => sat_pulls [0, 3, 0, 0, 0] (G := [own (eInt .u8) 5 p117 1 ([IntKind.u8.wrap ((x2.size : Int))] : List Int)] ++ F0) rfl hs) rfl (by as_aux_lemma => kernel_rfl) ?_
                                                  refine aw_keep [8] (L' := [(8, .bool false)]) rfl ?_
                                                  refine aw_end (by as_aux_lemma => kernel_rfl) ?_
                                                  refine ew_then ?_
                                                  refine cw_ret ?_
                                                  have hR := Option.some.inj hF
                                                  subst hR
                                                  exact fin1 (H1 := [imm I]) (fun w hs => sat_to [1, 1, 1, 1, 1, 0] 5 rfl hs) rfl (rr_tmp rfl) ⟨rfl, rfl⟩
                                              · refine aw_slots (L' := [(9, .pointer (some ⟨r28_b2, 0, none⟩)), (10, .pointer (some ⟨r28_b10, 0, none⟩)), (172, .bool false)]) (by rw [h123]) ?_
                                                refine aw_vals [53, 54, 55, 56, 57, 58, 59, 60, 61, 62, 63, 64, 65, 66, 67, 68, 69] (f' := 0) (m' := 1180591620717411303423) [8] [(8, .bool false)] (fun _ _ _ _ _ h => calm_fin (P := Tryd.prog) (fn := Tryd.f5) _ _ _ _ _ h) (fun w hs => sat_pulls [0, 0, 0, 0, 0] (G := [own (eInt .u8) 5 p117 1 ([IntKind.u8.wrap ((x2.size : Int))] : List Int)] ++ F0) rfl hs) rfl (by as_aux_lemma => kernel_rfl) ?_
                                                refine aw_keep [8] (L' := [(8, .bool false)]) rfl ?_
                                                refine aw_end (by as_aux_lemma => kernel_rfl) ?_
                                                refine ew_then ?_
                                                refine cw_ret ?_
                                                have hR := Option.some.inj hF
                                                subst hR
                                                exact fin1 (H1 := [imm I]) (fun w hs => sat_to [1, 1, 1, 1, 1, 0] 5 rfl hs) rfl (rr_tmp rfl) ⟨rfl, rfl⟩
                                            · refine aw_slots (L' := [(1, .int .i64 x1), (9, .pointer (some ⟨r28_b2, 0, none⟩)), (10, .pointer (some ⟨r28_b10, 0, none⟩)), (166, .bool false)]) (by rw [h122]) ?_
                                              refine aw_vals [47, 48, 49, 50, 51, 52, 53, 54, 55, 56, 57, 58, 59, 60, 61, 62, 63, 64, 65, 66, 67, 68, 69] (f' := 0) (m' := 1180591620717411303423) [8] [(8, .bool false)] (fun _ _ _ _ _ h => calm_fin (P := Tryd.prog) (fn := Tryd.f5) _ _ _ _ _ h) (fun w hs => sat_pulls [0, 1, 1, 1, 1] (G := [own (eInt .u8) 5 p117 1 ([IntKind.u8.wrap ((x2.size : Int))] : List Int)] ++ F0) rfl hs) rfl (by as_aux_lemma => kernel_rfl) ?_
                                              refine aw_keep [8] (L' := [(8, .bool false)]) rfl ?_
                                              refine aw_end (by as_aux_lemma => kernel_rfl) ?_
                                              refine ew_then ?_
                                              refine cw_ret ?_
                                              have hR := Option.some.inj hF
                                              subst hR
                                              exact fin1 (H1 := [imm I]) (fun w hs => sat_to [1, 1, 1, 1, 1, 0] 5 rfl hs) rfl (rr_tmp rfl) ⟨rfl, rfl⟩
                                          · refine aw_slots (L' := [(1, .int .i64 x1), (9, .pointer (some ⟨r28_b2, 0, none⟩)), (10, .pointer (some ⟨r28_b10, 0, none⟩)), (19, .int .i64 r85.2.2), (162, .bool false)]) (by rw [h121]) ?_
                                            refine aw_vals [43, 44, 45, 46, 47, 48, 49, 50, 51, 52, 53, 54, 55, 56, 57, 58, 59, 60, 61, 62, 63, 64, 65, 66, 67, 68, 69] (f' := 0) (m' := 1180591620717411303423) [8] [(8, .bool false)] (fun _ _ _ _ _ h => calm_fin (P := Tryd.prog) (fn := Tryd.f5) _ _ _ _ _ h) (fun w hs => sat_pulls [0, 1, 1, 1, 1] (G := [own (eInt .u8) 5 p117 1 ([IntKind.u8.wrap ((x2.size : Int))] : List Int)] ++ F0) rfl hs) rfl (by as_aux_lemma => kernel_rfl) ?_
                                            refine aw_keep [8] (L' := [(8, .bool false)]) rfl ?_
                                            refine aw_end (by as_aux_lemma => kernel_rfl) ?_
                                            refine ew_then ?_
                                            refine cw_ret ?_
                                            have hR := Option.some.inj hF
                                            subst hR
                                            exact fin1 (H1 := [imm I]) (fun w hs => sat_to [1, 1, 1, 1, 1, 0] 5 rfl hs) rfl (rr_tmp rfl) ⟨rfl, rfl⟩
                                        · refine aw_slots (L' := [(1, .int .i64 x1), (9, .pointer (some ⟨r28_b2, 0, none⟩)), (10, .pointer (some ⟨r28_b10, 0, none⟩)), (13, .int .i64 r61.1), (18, .int .i64 r85.2.1), (19, .int .i64 r85.2.2), (157, .bool false)]) (by rw [h120]) ?_
                                          refine aw_vals [38, 39, 40, 41, 42, 43, 44, 45, 46, 47, 48, 49, 50, 51, 52, 53, 54, 55, 56, 57, 58, 59, 60, 61, 62, 63, 64, 65, 66, 67, 68, 69] (f' := 0) (m' := 1180591620717411303423) [8] [(8, .bool false)] (fun _ _ _ _ _ h => calm_fin (P := Tryd.prog) (fn := Tryd.f5) _ _ _ _ _ h) (fun w hs => sat_pulls [0, 1, 1, 1, 1] (G := [own (eInt .u8) 5 p117 1 ([IntKind.u8.wrap ((x2.size : Int))] : List Int)] ++ F0) rfl hs) rfl (by as_aux_lemma => kernel_rfl) ?_
                                          refine aw_keep [8] (L' := [(8, .bool false)]) rfl ?_
                                          refine aw_end (by as_aux_lemma => kernel_rfl) ?_
                                          refine ew_then ?_
                                          refine cw_ret ?_
                                          have hR := Option.some.inj hF
                                          subst hR
                                          exact fin1 (H1 := [imm I]) (fun w hs => sat_to [1, 1, 1, 1, 1, 0] 5 rfl hs) rfl (rr_tmp rfl) ⟨rfl, rfl⟩
                                      · refine aw_slots (L' := [(1, .int .i64 x1), (2, .string x2), (9, .pointer (some ⟨r28_b2, 0, none⟩)), (10, .pointer (some ⟨r28_b10, 0, none⟩)), (13, .int .i64 r61.1), (17, .string r85.1), (18, .int .i64 r85.2.1), (19, .int .i64 r85.2.2), (152, .bool false)]) (by rw [h119]) ?_
                                        refine aw_vals [33, 34, 35, 36, 37, 38, 39, 40, 41, 42, 43, 44, 45, 46, 47, 48, 49, 50, 51, 52, 53, 54, 55, 56, 57, 58, 59, 60, 61, 62, 63, 64, 65, 66, 67, 68, 69] (f' := 0) (m' := 1180591620717411303423) [8] [(8, .bool false)] (fun _ _ _ _ _ h => calm_fin (P := Tryd.prog) (fn := Tryd.f5) _ _ _ _ _ h) (fun w hs => sat_pulls [0, 1, 1, 1, 1] (G := [own (eInt .u8) 5 p117 1 ([IntKind.u8.wrap ((x2.size : Int))] : List Int)] ++ F0) rfl hs) rfl (by as_aux_lemma => kernel_rfl) ?_
                                        refine aw_keep [8] (L' := [(8, .bool false)]) rfl ?_
                                        refine aw_end (by as_aux_lemma => kernel_rfl) ?_
                                        refine ew_then ?_
                                        refine cw_ret ?_
                                        have hR := Option.some.inj hF
                                        subst hR
                                        exact fin1 (H1 := [imm I]) (fun w hs => sat_to [1, 1, 1, 1, 1, 0] 5 rfl hs) rfl (rr_tmp rfl) ⟨rfl, rfl⟩
                                  · refine pw_call (F := [pt r28_b10 #[.pointer (some ⟨r28_b2, 0, none⟩), .int .i64 r61.2.2.1.boot_, .int .i64 r61.2.2.1.n_] 47, pt r28_b2 #[.slice r61_p1 r61.2.2.2.sure_.length r61_c2, .map (some r61_b4), .bool r61.2.2.2.off_, .bool r61.2.2.2.armed_, .int .i64 r61.2.2.2.left_, .int .u64 r61.2.2.2.fall_.Keep, .int .i64 r61.2.2.2.fall_.Tear, .int .i64 r61.2.2.2.acts_, .int .i64 r61.2.2.2.falls_] 68, own e_disk_sector 70 r61_p1 r61_c2 r61.2.2.2.sure_, mpo (kInt .i64) (fun x : disk_sector => Value.agg #[.string x.s_, .int .i64 x.at_]) r61_b4 r61.2.2.2.wait_] ++ F0) rfl rfl rfl rfl rfl rfl rfl (by as_aux_lemma => kernel_rfl) (perm_of_pulls [0] rfl) (c_law10_noughts _ (IntKind.i64.wrap (47 - (x2.size : Int))) r96 h97) ?_
                                    rintro _ _ ⟨rfl, rfl⟩
                                    refine nw_H (H' := [imm I, pt r28_b10 #[.pointer (some ⟨r28_b2, 0, none⟩), .int .i64 r61.2.2.1.boot_, .int .i64 r61.2.2.1.n_] 47, pt r28_b2 #[.slice r61_p1 r61.2.2.2.sure_.length r61_c2, .map (some r61_b4), .bool r61.2.2.2.off_, .bool r61.2.2.2.armed_, .int .i64 r61.2.2.2.left_, .int .u64 r61.2.2.2.fall_.Keep, .int .i64 r61.2.2.2.fall_.Tear, .int .i64 r61.2.2.2.acts_, .int .i64 r61.2.2.2.falls_] 68, own e_disk_sector 70 r61_p1 r61_c2 r61.2.2.2.sure_, mpo (kInt .i64) (fun x : disk_sector => Value.agg #[.string x.s_, .int .i64 x.at_]) r61_b4 r61.2.2.2.wait_] ++ F0) rfl (aw_next (fun w hs => sat_pulls [0, 0, 0, 0, 0] (G := [] ++ F0) rfl hs) ?_)
                                    refine aw_only 18 (m' := 396886015) (by as_aux_lemma => kernel_rfl) (by as_aux_lemma => kernel_rfl) (pw_buildSlice (E := 5) (eInt .u8) ([IntKind.u8.wrap ((x2.size : Int))] : List Int) rfl rfl rfl rfl rfl (by as_aux_lemma => kernel_rfl) rfl (by as_aux_lemma => kernel_rfl) rfl (by decide) rfl fun p117 => aw_next (fun w hs => sat_pulls [1, 1, 1, 1, 1] (G := [own (eInt .u8) 5 p117 1 ([IntKind.u8.wrap ((x2.size : Int))] : List Int)] ++ F0) rfl hs) ?_)
                                    refine aw_only 19 (m' := 397410303) (by as_aux_lemma => kernel_rfl) (by as_aux_lemma => kernel_rfl) (pw_quiet (v := .string (bstr ([IntKind.u8.wrap ((x2.size : Int))] : List Int))) rfl rfl rfl rfl (q_bytes_str_own 0 rfl rfl (by as_aux_lemma => kernel_rfl) (by as_aux_lemma => kernel_rfl) rfl) (aw_next (fun w hs => sat_pulls [1, 1, 1, 1, 1] (G := [own (eInt .u8) 5 p117 1 ([IntKind.u8.wrap ((x2.size : Int))] : List Int)] ++ F0) rfl hs) ?_))
                                    refine aw_pure 20 (m' := 398458879) (v := .string (r87 ++ (bstr ([IntKind.u8.wrap ((x2.size : Int))] : List Int)))) rfl rfl rfl rfl (by as_aux_lemma => kernel_rfl) (by as_aux_lemma => kernel_rfl) (fun _ _ _ _ _ h => calm_fin (P := Tryd.prog) (fn := Tryd.f5) _ _ _ _ _ h) (fun w hs => sat_pulls [1, 1, 1, 1, 1] (G := [own (eInt .u8) 5 p117 1 ([IntKind.u8.wrap ((x2.size : Int))] : List Int)] ++ F0) rfl hs) (q_concat rfl rfl rfl h94) ?_
                                    refine aw_pure 22 (m' := 402653183) (v := .string ((r87 ++ (bstr ([IntKind.u8.wrap ((x2.size : Int))] : List Int))) ++ x2)) rfl rfl rfl rfl (by as_aux_lemma => kernel_rfl) (by as_aux_lemma => kernel_rfl) (fun _ _ _ _ _ h => calm_fin (P := Tryd.prog) (fn := Tryd.f5) _ _ _ _ _ h) (fun w hs => sat_pulls [1, 1, 1, 1, 1] (G := [own (eInt .u8) 5 p117 1 ([IntKind.u8.wrap ((x2.size : Int))] : List Int)] ++ F0) rfl hs) (q_concat rfl rfl rfl h95) ?_
                                    refine aw_pure 27 (m' := 536870911) (v := .string (((r87 ++ (bstr ([IntKind.u8.wrap ((x2.size : Int))] : List Int))) ++ x2) ++ r96)) rfl rfl rfl rfl (by as_aux_lemma => kernel_rfl) (by as_aux_lemma => kernel_rfl) (fun _ _ _ _ _ h => calm_fin (P := Tryd.prog) (fn := Tryd.f5) _ _ _ _ _ h) (fun w hs => sat_pulls [1, 1, 1, 1, 1] (G := [own (eInt .u8) 5 p117 1 ([IntKind.u8.wrap ((x2.size : Int))] : List Int)] ++ F0) rfl hs) (q_concat rfl rfl rfl h98) ?_
                                    refine aw_pure 29 (m' := 1073741823) (v := .string ((((r87 ++ (bstr ([IntKind.u8.wrap ((x2.size : Int))] : List Int))) ++ x2) ++ r96) ++ r87)) rfl rfl rfl rfl (by as_aux_lemma => kernel_rfl) (by as_aux_lemma => kernel_rfl) (fun _ _ _ _ _ h => calm_fin (P := Tryd.prog) (fn := Tryd.f5) _ _ _ _ _ h) (fun w hs => sat_pulls [1, 1, 1, 1, 1] (G := [own (eInt .u8) 5 p117 1 ([IntKind.u8.wrap ((x2.size : Int))] : List Int)] ++ F0) rfl hs) (q_concat rfl rfl rfl h99) ?_
                                    refine aw_vals [30, 31, 32] (f' := 37) (m' := 8589934591) [1, 2, 9, 10, 13, 17, 18, 19, 152] [(1, .int .i64 x1), (2, .string x2), (9, .pointer (some ⟨r28_b2, 0, none⟩)), (10, .pointer (some ⟨r28_b10, 0, none⟩)), (13, .int .i64 r61.1), (17, .string r85.1), (18, .int .i64 r85.2.1), (19, .int .i64 r85.2.2), (152, .bool (seqB r83.1 ((((r87 ++ (bstr ([IntKind.u8.wrap ((x2.size : Int))] : List Int))) ++ x2) ++ r96) ++ r87)))] (fun _ _ _ _ _ h => calm_fin (P := Tryd.prog) (fn := Tryd.f5) _ _ _ _ _ h) (fun w hs => sat_pulls [1, 1, 1, 1, 1] (G := [own (eInt .u8) 5 p117 1 ([IntKind.u8.wrap ((x2.size : Int))] : List Int)] ++ F0) rfl hs) rfl (by as_aux_lemma => kernel_rfl) ?_
                                    rcases if_some hF with ⟨h119, hF⟩ | ⟨h119, hF⟩
                                    · refine aw_slots (L' := [(1, .int .i64 x1), (2, .string x2), (9, .pointer (some ⟨r28_b2, 0, none⟩)), (10, .pointer (some ⟨r28_b10, 0, none⟩)), (13, .int .i64 r61.1), (17, .string r85.1), (18, .int .i64 r85.2.1), (19, .int .i64 r85.2.2), (152, .bool true)]) (by rw [h119]) ?_
                                      refine aw_vals [33, 34, 35, 36, 37] (f' := 32) (m' := 274877906943) [1, 9, 10, 13, 18, 19, 157] [(1, .int .i64 x1), (9, .pointer (some ⟨r28_b2, 0, none⟩)), (10, .pointer (some ⟨r28_b10, 0, none⟩)), (13, .int .i64 r61.1), (18, .int .i64 r85.2.1), (19, .int .i64 r85.2.2), (157, .bool (seqB r85.1 x2))] (fun _ _ _ _ _ h => calm_fin (P := Tryd.prog) (fn := Tryd.f5) _ _ _ _ _ h) (fun w hs => sat_pulls [1, 1, 1, 1, 1] (G := [own (eInt .u8) 5 p117 1 ([IntKind.u8.wrap ((x2.size : Int))] : List Int)] ++ F0) rfl hs) rfl (by as_aux_lemma => kernel_rfl) ?_
                                      rcases if_some hF with ⟨h120, hF⟩ | ⟨h120, hF⟩
                                      · refine aw_slots (L' := [(1, .int .i64 x1), (9, .pointer (some ⟨r28_b2, 0, none⟩)), (10, .pointer (some ⟨r28_b10, 0, none⟩)), (13, .int .i64 r61.1), (18, .int .i64 r85.2.1), (19, .int .i64 r85.2.2), (157, .bool true)]) (by rw [h120]) ?_
                                        refine aw_vals [38, 39, 40, 41, 42] (f' := 27) (m' := 8796093022207) [1, 9, 10, 19, 162] [(1, .int .i64 x1), (9, .pointer (some ⟨r28_b2, 0, none⟩)), (10, .pointer (some ⟨r28_b10, 0, none⟩)), (19, .int .i64 r85.2.2), (162, .bool (r85.2.1 == r61.1))] (fun _ _ _ _ _ h => calm_fin (P := Tryd.prog) (fn := Tryd.f5) _ _ _ _ _ h) (fun w hs => sat_pulls [1, 1, 1, 1, 1] (G := [own (eInt .u8) 5 p117 1 ([IntKind.u8.wrap ((x2.size : Int))] : List Int)] ++ F0) rfl hs) rfl (by as_aux_lemma => kernel_rfl) ?_
                                        rcases if_some hF with ⟨h121, hF⟩ | ⟨h121, hF⟩
                                        · refine aw_slots (L' := [(1, .int .i64 x1), (9, .pointer (some ⟨r28_b2, 0, none⟩)), (10, .pointer (some ⟨r28_b10, 0, none⟩)), (19, .int .i64 r85.2.2), (162, .bool true)]) (by rw [h121]) ?_
                                          refine aw_vals [43, 44, 45, 46] (f' := 23) (m' := 140737488355327) [1, 9, 10, 166] [(1, .int .i64 x1), (9, .pointer (some ⟨r28_b2, 0, none⟩)), (10, .pointer (some ⟨r28_b10, 0, none⟩)), (166, .bool (r85.2.2 == 0))] (fun _ _ _ _ _ h => calm_fin (P := Tryd.prog) (fn := Tryd.f5) _ _ _ _ _ h) (fun w hs => sat_pulls [1, 1, 1, 1, 1] (G := [own (eInt .u8) 5 p117 1 ([IntKind.u8.wrap ((x2.size : Int))] : List Int)] ++ F0) rfl hs) rfl (by as_aux_lemma => kernel_rfl) ?_
                                          rcases if_some hF with ⟨h122, hF⟩ | ⟨h122, hF⟩
                                          · refine aw_slots (L' := [(1, .int .i64 x1), (9, .pointer (some ⟨r28_b2, 0, none⟩)), (10, .pointer (some ⟨r28_b10, 0, none⟩)), (166, .bool true)]) (by rw [h122]) ?_
                                            refine aw_vals [47, 48] (f' := 21) (m' := 562949953421311) [9, 10, 166, 167, 168] [(9, .pointer (some ⟨r28_b2, 0, none⟩)), (10, .pointer (some ⟨r28_b10, 0, none⟩)), (166, .bool true), (167, .pointer (some ⟨r28_b10, 0, none⟩)), (168, .int .i64 x1)] (fun _ _ _ _ _ h => calm_fin (P := Tryd.prog) (fn := Tryd.f5) _ _ _ _ _ h) (fun w hs => sat_pulls [1, 1, 1, 1, 1] (G := [own (eInt .u8) 5 p117 1 ([IntKind.u8.wrap ((x2.size : Int))] : List Int)] ++ F0) rfl hs) rfl (by as_aux_lemma => kernel_rfl) ?_
                                            refine aw_only 49 (m' := 1125899906842623) (by as_aux_lemma => kernel_rfl) (by as_aux_lemma => kernel_rfl) (pw_call (F := [own (eInt .u8) 5 p117 1 ([IntKind.u8.wrap ((x2.size : Int))] : List Int)] ++ F0) rfl rfl rfl rfl rfl rfl rfl (by as_aux_lemma => kernel_rfl) (perm_of_pulls [1, 1, 1, 1, 1] rfl) (c_guard_Guard_Blank _ x1 r61.2.2.1 r61.2.2.2 r28_b10 r61_p1 r61_c2 r61_b4 r28_b2 r104 h105) ?_)
                                            rintro _ _ ⟨rfl, rfl⟩
                                            refine nw_H (H' := [imm I, pt r28_b10 #[.pointer (some ⟨r28_b2, 0, none⟩), .int .i64 r61.2.2.1.boot_, .int .i64 r61.2.2.1.n_] 47, pt r28_b2 #[.slice r61_p1 r61.2.2.2.sure_.length r61_c2, .map (some r61_b4), .bool r61.2.2.2.off_, .bool r61.2.2.2.armed_, .int .i64 r61.2.2.2.left_, .int .u64 r61.2.2.2.fall_.Keep, .int .i64 r61.2.2.2.fall_.Tear, .int .i64 r61.2.2.2.acts_, .int .i64 r61.2.2.2.falls_] 68, own e_disk_sector 70 r61_p1 r61_c2 r61.2.2.2.sure_, mpo (kInt .i64) (fun x : disk_sector => Value.agg #[.string x.s_, .int .i64 x.at_]) r61_b4 r61.2.2.2.wait_, own (eInt .u8) 5 p117 1 ([IntKind.u8.wrap ((x2.size : Int))] : List Int)] ++ F0) rfl (aw_next (fun w hs => sat_pulls [0, 0, 0, 0, 0] (G := [own (eInt .u8) 5 p117 1 ([IntKind.u8.wrap ((x2.size : Int))] : List Int)] ++ F0) rfl hs) ?_)
                                            refine aw_vals [50, 51, 52] (f' := 17) (m' := 9007199254740991) [9, 10, 172] [(9, .pointer (some ⟨r28_b2, 0, none⟩)), (10, .pointer (some ⟨r28_b10, 0, none⟩)), (172, .bool (!r104))] (fun _ _ _ _ _ h => calm_fin (P := Tryd.prog) (fn := Tryd.f5) _ _ _ _ _ h) (fun w hs => sat_pulls [0, 0, 0, 0, 0] (G := [own (eInt .u8) 5 p117 1 ([IntKind.u8.wrap ((x2.size : Int))] : List Int)] ++ F0) rfl hs) rfl (by as_aux_lemma => kernel_rfl) ?_
                                            rcases if_some hF with ⟨h123, hF⟩ | ⟨h123, hF⟩
                                            · refine aw_slots (L' := [(9, .pointer (some ⟨r28_b2, 0, none⟩)), (10, .pointer (some ⟨r28_b10, 0, none⟩)), (172, .bool true)]) (by rw [h123]) ?_
                                              refine aw_vals [53] (f' := 16) (m' := 18014398509481983) [9, 10, 172, 173] [(9, .pointer (some ⟨r28_b2, 0, none⟩)), (10, .pointer (some ⟨r28_b10, 0, none⟩)), (172, .bool true), (173, .pointer (some ⟨r28_b10, 0, none⟩))] (fun _ _ _ _ _ h => calm_fin (P := Tryd.prog) (fn := Tryd.f5) _ _ _ _ _ h) (fun w hs => sat_pulls [0, 0, 0, 0, 0] (G := [own (eInt .u8) 5 p117 1 ([IntKind.u8.wrap ((x2.size : Int))] : List Int)] ++ F0) rfl hs) rfl (by as_aux_lemma => kernel_rfl) ?_
                                              refine aw_only 54 (m' := 36028797018963967) (by as_aux_lemma => kernel_rfl) (by as_aux_lemma => kernel_rfl) (pw_call (F := [own (eInt .u8) 5 p117 1 ([IntKind.u8.wrap ((x2.size : Int))] : List Int)] ++ F0) rfl rfl rfl rfl rfl rfl rfl (by as_aux_lemma => kernel_rfl) (perm_of_pulls [0, 0, 0, 0, 0] rfl) (c_guard_Guard_Disk _ r61.2.2.1 r61.2.2.2 r28_b10 r61_p1 r61_c2 r61_b4 r28_b2 r107 h108) ?_)
                                              rintro _ _ ⟨rfl, rfl⟩
                                              refine nw_H (H' := [imm I, pt r28_b10 #[.pointer (some ⟨r28_b2, 0, none⟩), .int .i64 r61.2.2.1.boot_, .int .i64 r61.2.2.1.n_] 47, pt r28_b2 #[.slice r61_p1 r61.2.2.2.sure_.length r61_c2, .map (some r61_b4), .bool r61.2.2.2.off_, .bool r61.2.2.2.armed_, .int .i64 r61.2.2.2.left_, .int .u64 r61.2.2.2.fall_.Keep, .int .i64 r61.2.2.2.fall_.Tear, .int .i64 r61.2.2.2.acts_, .int .i64 r61.2.2.2.falls_] 68, own e_disk_sector 70 r61_p1 r61_c2 r61.2.2.2.sure_, mpo (kInt .i64) (fun x : disk_sector => Value.agg #[.string x.s_, .int .i64 x.at_]) r61_b4 r61.2.2.2.wait_, own (eInt .u8) 5 p117 1 ([IntKind.u8.wrap ((x2.size : Int))] : List Int)] ++ F0) rfl (aw_next (fun w hs => sat_pulls [0, 0, 0, 0, 0] (G := [own (eInt .u8) 5 p117 1 ([IntKind.u8.wrap ((x2.size : Int))] : List Int)] ++ F0) rfl hs) ?_)
                                              refine aw_only 55 (m' := 72057594037927935) (by as_aux_lemma => kernel_rfl) (by as_aux_lemma => kernel_rfl) (pw_call (F := [pt r28_b10 #[.pointer (some ⟨r28_b2, 0, none⟩), .int .i64 r61.2.2.1.boot_, .int .i64 r61.2.2.1.n_] 47, own (eInt .u8) 5 p117 1 ([IntKind.u8.wrap ((x2.size : Int))] : List Int)] ++ F0) rfl rfl rfl rfl rfl rfl rfl (by as_aux_lemma => kernel_rfl) (perm_of_pulls [0, 1, 1, 1] rfl) (c_disk_Disk_Size _ r61.2.2.2 r61_p1 r61_c2 r61_b4 r28_b2 r109 h110) ?_)
                                              rintro _ _ ⟨rfl, rfl⟩
                                              refine nw_H (H' := [imm I, pt r28_b2 #[.slice r61_p1 r61.2.2.2.sure_.length r61_c2, .map (some r61_b4), .bool r61.2.2.2.off_, .bool r61.2.2.2.armed_, .int .i64 r61.2.2.2.left_, .int .u64 r61.2.2.2.fall_.Keep, .int .i64 r61.2.2.2.fall_.Tear, .int .i64 r61.2.2.2.acts_, .int .i64 r61.2.2.2.falls_] 68, own e_disk_sector 70 r61_p1 r61_c2 r61.2.2.2.sure_, mpo (kInt .i64) (fun x : disk_sector => Value.agg #[.string x.s_, .int .i64 x.at_]) r61_b4 r61.2.2.2.wait_, pt r28_b10 #[.pointer (some ⟨r28_b2, 0, none⟩), .int .i64 r61.2.2.1.boot_, .int .i64 r61.2.2.1.n_] 47, own (eInt .u8) 5 p117 1 ([IntKind.u8.wrap ((x2.size : Int))] : List Int)] ++ F0) rfl (aw_next (fun w hs => sat_pulls [0, 3, 0, 0, 0] (G := [own (eInt .u8) 5 p117 1 ([IntKind.u8.wrap ((x2.size : Int))] : List Int)] ++ F0) rfl hs) ?_)
                                              refine aw_vals [56, 57, 58] (f' := 11) (m' := 576460752303423487) [9, 10, 178] [(9, .pointer (some ⟨r28_b2, 0, none⟩)), (10, .pointer (some ⟨r28_b10, 0, none⟩)), (178, .bool (r109 == 10))] (fun _ _ _ _ _ h => calm_fin (P := Tryd.prog) (fn := Tryd.f5) _ _ _ _ _ h) (fun w hs => sat_pulls [0, 3, 0, 0, 0] (G := [own (eInt .u8) 5 p117 1 ([IntKind.u8.wrap ((x2.size : Int))] : List Int)] ++ F0) rfl hs) rfl (by as_aux_lemma => kernel_rfl) ?_
                                              rcases if_some hF with ⟨h124, hF⟩ | ⟨h124, hF⟩
                                              · refine aw_slots (L' := [(9, .pointer (some ⟨r28_b2, 0, none⟩)), (10, .pointer (some ⟨r28_b10, 0, none⟩)), (178, .bool true)]) (by rw [h124]) ?_
                                                refine aw_vals [59, 62] (f' := 9) (m' := 5764607523034234879) [178, 179, 182] [(178, .bool true), (179, .pointer (some ⟨r28_b10, 0, none⟩)), (182, .pointer (some ⟨r28_b2, 0, none⟩))] (fun _ _ _ _ _ h => calm_fin (P := Tryd.prog) (fn := Tryd.f5) _ _ _ _ _ h) (fun w hs => sat_pulls [0, 3, 0, 0, 0] (G := [own (eInt .u8) 5 p117 1 ([IntKind.u8.wrap ((x2.size : Int))] : List Int)] ++ F0) rfl hs) rfl (by as_aux_lemma => kernel_rfl) ?_
                                                refine aw_only 60 (m' := 6917529027641081855) (by as_aux_lemma => kernel_rfl) (by as_aux_lemma => kernel_rfl) (pw_call (F := [own (eInt .u8) 5 p117 1 ([IntKind.u8.wrap ((x2.size : Int))] : List Int)] ++ F0) rfl rfl rfl rfl rfl rfl rfl (by as_aux_lemma => kernel_rfl) (perm_of_pulls [0, 3, 0, 0, 0] rfl) (c_guard_Guard_Disk _ r61.2.2.1 r61.2.2.2 r28_b10 r61_p1 r61_c2 r61_b4 r28_b2 r107 h108) ?_)
                                                rintro _ _ ⟨rfl, rfl⟩
                                                refine nw_H (H' := [imm I, pt r28_b10 #[.pointer (some ⟨r28_b2, 0, none⟩), .int .i64 r61.2.2.1.boot_, .int .i64 r61.2.2.1.n_] 47, pt r28_b2 #[.slice r61_p1 r61.2.2.2.sure_.length r61_c2, .map (some r61_b4), .bool r61.2.2.2.off_, .bool r61.2.2.2.armed_, .int .i64 r61.2.2.2.left_, .int .u64 r61.2.2.2.fall_.Keep, .int .i64 r61.2.2.2.fall_.Tear, .int .i64 r61.2.2.2.acts_, .int .i64 r61.2.2.2.falls_] 68, own e_disk_sector 70 r61_p1 r61_c2 r61.2.2.2.sure_, mpo (kInt .i64) (fun x : disk_sector => Value.agg #[.string x.s_, .int .i64 x.at_]) r61_b4 r61.2.2.2.wait_, own (eInt .u8) 5 p117 1 ([IntKind.u8.wrap ((x2.size : Int))] : List Int)] ++ F0) rfl (aw_next (fun w hs => sat_pulls [0, 0, 0, 0, 0] (G := [own (eInt .u8) 5 p117 1 ([IntKind.u8.wrap ((x2.size : Int))] : List Int)] ++ F0) rfl hs) ?_)
                                                refine aw_only 61 (m' := 9223372036854775807) (by as_aux_lemma => kernel_rfl) (by as_aux_lemma => kernel_rfl) (pw_call (F := [pt r28_b10 #[.pointer (some ⟨r28_b2, 0, none⟩), .int .i64 r61.2.2.1.boot_, .int .i64 r61.2.2.1.n_] 47, own (eInt .u8) 5 p117 1 ([IntKind.u8.wrap ((x2.size : Int))] : List Int)] ++ F0) rfl rfl rfl rfl rfl rfl rfl (by as_aux_lemma => kernel_rfl) (perm_of_pulls [0, 1, 1, 1] rfl) (c_disk_Disk_Acts _ r61.2.2.2 r61_p1 r61_c2 r61_b4 r28_b2 r112 h113) ?_)
                                                rintro _ _ ⟨rfl, rfl⟩
                                                refine nw_H (H' := [imm I, pt r28_b2 #[.slice r61_p1 r61.2.2.2.sure_.length r61_c2, .map (some r61_b4), .bool r61.2.2.2.off_, .bool r61.2.2.2.armed_, .int .i64 r61.2.2.2.left_, .int .u64 r61.2.2.2.fall_.Keep, .int .i64 r61.2.2.2.fall_.Tear, .int .i64 r61.2.2.2.acts_, .int .i64 r61.2.2.2.falls_] 68, own e_disk_sector 70 r61_p1 r61_c2 r61.2.2.2.sure_, mpo (kInt .i64) (fun x : disk_sector => Value.agg #[.string x.s_, .int .i64 x.at_]) r61_b4 r61.2.2.2.wait_, pt r28_b10 #[.pointer (some ⟨r28_b2, 0, none⟩), .int .i64 r61.2.2.1.boot_, .int .i64 r61.2.2.1.n_] 47, own (eInt .u8) 5 p117 1 ([IntKind.u8.wrap ((x2.size : Int))] : List Int)] ++ F0) rfl (aw_next (fun w hs => sat_pulls [0, 3, 0, 0, 0] (G := [own (eInt .u8) 5 p117 1 ([IntKind.u8.wrap ((x2.size : Int))] : List Int)] ++ F0) rfl hs) ?_)
                                                refine aw_only 63 (m' := 18446744073709551615) (by as_aux_lemma => kernel_rfl) (by as_aux_lemma => kernel_rfl) (pw_call (F := [pt r28_b10 #[.pointer (some ⟨r28_b2, 0, none⟩), .int .i64 r61.2.2.1.boot_, .int .i64 r61.2.2.1.n_] 47, own (eInt .u8) 5 p117 1 ([IntKind.u8.wrap ((x2.size : Int))] : List Int)] ++ F0) rfl rfl rfl rfl rfl rfl rfl (by as_aux_lemma => kernel_rfl) (perm_of_pulls [0, 0, 0, 0] rfl) (c_disk_Disk_Acts _ r61.2.2.2 r61_p1 r61_c2 r61_b4 r28_b2 r112 h113) ?_)
                                                rintro _ _ ⟨rfl, rfl⟩
                                                refine nw_H (H' := [imm I, pt r28_b2 #[.slice r61_p1 r61.2.2.2.sure_.length r61_c2, .map (some r61_b4), .bool r61.2.2.2.off_, .bool r61.2.2.2.armed_, .int .i64 r61.2.2.2.left_, .int .u64 r61.2.2.2.fall_.Keep, .int .i64 r61.2.2.2.fall_.Tear, .int .i64 r61.2.2.2.acts_, .int .i64 r61.2.2.2.falls_] 68, own e_disk_sector 70 r61_p1 r61_c2 r61.2.2.2.sure_, mpo (kInt .i64) (fun x : disk_sector => Value.agg #[.string x.s_, .int .i64 x.at_]) r61_b4 r61.2.2.2.wait_, pt r28_b10 #[.pointer (some ⟨r28_b2, 0, none⟩), .int .i64 r61.2.2.1.boot_, .int .i64 r61.2.2.1.n_] 47, own (eInt .u8) 5 p117 1 ([IntKind.u8.wrap ((x2.size : Int))] : List Int)] ++ F0) rfl (aw_next (fun w hs => sat_pulls [0, 3, 0, 0, 0] (G := [own (eInt .u8) 5 p117 1 ([IntKind.u8.wrap ((x2.size : Int))] : List Int)] ++ F0) rfl hs) ?_)
                                                refine aw_vals [64, 65, 66] (f' := 3) (m' := 147573952589676412927) [186] [(186, .bool (r112 == r112))] (fun _ _ _ _ _ h => calm_fin (P := Tryd.prog) (fn := Tryd.f5) _ _ _ _ _ h) (fun w hs => sat_pulls [0, 3, 0, 0, 0] (G := [own (eInt .u8) 5 p117 1 ([IntKind.u8.wrap ((x2.size : Int))] : List Int)] ++ F0) rfl hs) rfl (by as_aux_lemma => kernel_rfl) ?_
                                                rcases if_some hF with ⟨h125, hF⟩ | ⟨h125, hF⟩
                                                · refine aw_slots (L' := [(186, .bool true)]) (by rw [h125]) ?_
                                                  refine aw_only 67 (m' := 295147905179352825855) (by as_aux_lemma => kernel_rfl) (by as_aux_lemma => kernel_rfl) (pw_call (F := [pt r28_b2 #[.slice r61_p1 r61.2.2.2.sure_.length r61_c2, .map (some r61_b4), .bool r61.2.2.2.off_, .bool r61.2.2.2.armed_, .int .i64 r61.2.2.2.left_, .int .u64 r61.2.2.2.fall_.Keep, .int .i64 r61.2.2.2.fall_.Tear, .int .i64 r61.2.2.2.acts_, .int .i64 r61.2.2.2.falls_] 68, own e_disk_sector 70 r61_p1 r61_c2 r61.2.2.2.sure_, mpo (kInt .i64) (fun x : disk_sector => Value.agg #[.string x.s_, .int .i64 x.at_]) r61_b4 r61.2.2.2.wait_, pt r28_b10 #[.pointer (some ⟨r28_b2, 0, none⟩), .int .i64 r61.2.2.1.boot_, .int .i64 r61.2.2.1.n_] 47, own (eInt .u8) 5 p117 1 ([IntKind.u8.wrap ((x2.size : Int))] : List Int)] ++ F0) rfl rfl rfl rfl rfl rfl rfl (by as_aux_lemma => kernel_rfl) (perm_of_pulls [0] rfl) (c_law10_awake _ r115 h116) ?_)
                                                  rintro _ _ ⟨rfl, rfl⟩
                                                  refine nw_H (H' := [imm I, pt r28_b2 #[.slice r61_p1 r61.2.2.2.sure_.length r61_c2, .map (some r61_b4), .bool r61.2.2.2.off_, .bool r61.2.2.2.armed_, .int .i64 r61.2.2.2.left_, .int .u64 r61.2.2.2.fall_.Keep, .int .i64 r61.2.2.2.fall_.Tear, .int .i64 r61.2.2.2.acts_, .int .i64 r61.2.2.2.falls_] 68, own e_disk_sector 70 r61_p1 r61_c2 r61.2.2.2.sure_, mpo (kInt .i64) (fun x : disk_sector => Value.agg #[.string x.s_, .int .i64 x.at_]) r61_b4 r61.2.2.2.wait_, pt r28_b10 #[.pointer (some ⟨r28_b2, 0, none⟩), .int .i64 r61.2.2.1.boot_, .int .i64 r61.2.2.1.n_] 47, own (eInt .u8) 5 p117 1 ([IntKind.u8.wrap ((x2.size : Int))] : List Int)] ++ F0) rfl (aw_next (fun w hs => sat_pulls [0, 3, 0, 0, 0] (G := [own (eInt .u8) 5 p117 1 ([IntKind.u8.wrap ((x2.size : Int))] : List Int)] ++ F0) rfl hs) ?_)
                                                  refine aw_vals [68, 69] (f' := 0) (m' := 1180591620717411303423) [8] [(8, .bool r115)] (fun _ _ _ _ _ h => calm_fin (P := Tryd.prog) (fn := Tryd.f5) _ _ _ _ _ h) (fun w hs => sat_pulls [0, 3, 0, 0, 0] (G := [own (eInt .u8) 5 p117 1 ([IntKind.u8.wrap ((x2.size : Int))] : List Int)] ++ F0) rfl hs) rfl (by as_aux_lemma => kernel_rfl) ?_
                                                  refine aw_keep [8] (L' := [(8, .bool r115)]) rfl ?_
                                                  refine aw_end (by as_aux_lemma => kernel_rfl) ?_
                                                  refine ew_then ?_
                                                  refine cw_ret ?_
                                                  have hR := Option.some.inj hF
                                                  subst hR
                                                  exact fin1 (H1 := [imm I]) (fun w hs => sat_to [1, 1, 1, 1, 1, 0] 5 rfl hs) rfl (rr_tmp rfl) ⟨rfl, rfl⟩
                                                · refine aw_slots (L' := [(186, .bool false)]) (by rw [h125]) ?_
                                                  refine aw_vals [67, 68, 69] (f' := 0) (m' := 1180591620717411303423) [8] [(8, .bool false)] (fun _ _ _ _ _ h => calm_fin (P := Tryd.prog) (fn := Tryd.f5) _ _ _ _ _ h) (fun w hs => sat_pulls [0, 3, 0, 0, 0] (G := [own (eInt .u8) 5 p117 1 ([IntKind.u8.wrap ((x2.size : Int))] : List Int)] ++ F0) rfl hs) rfl (by as_aux_lemma => kernel_rfl) ?_
                                                  refine aw_keep [8] (L' := [(8, .bool false)]) rfl ?_
                                                  refine aw_end (by as_aux_lemma => kernel_rfl) ?_
                                                  refine ew_then ?_
                                                  refine cw_ret ?_
                                                  have hR := Option.some.inj hF
                                                  subst hR
                                                  exact fin1 (H1 := [imm I]) (fun w hs => sat_to [1, 1, 1, 1, 1, 0] 5 rfl hs) rfl (rr_tmp rfl) ⟨rfl, rfl⟩
                                              · refine aw_slots (L' := [(9, .pointer (some ⟨r28_b2, 0, none⟩)), (10, .pointer (some ⟨r28_b10, 0, none⟩)), (178, .bool false)]) (by rw [h124]) ?_
                                                refine aw_vals [59, 60, 61, 62, 63, 64, 65, 66, 67, 68, 69] (f' := 0) (m' := 1180591620717411303423) [8] [(8, .bool false)] (fun _ _ _ _ _ h => calm_fin (P := Tryd.prog) (fn := Tryd.f5) _ _ _ _ _ h) (fun w hs => sat_pulls [0, 3, 0, 0, 0] (G := [own (eInt .u8) 5 p117 1 ([IntKind.u8.wrap ((x2.size : Int))] : List Int)] ++ F0) rfl hs) rfl (by as_aux_lemma => kernel_rfl) ?_
                                                refine aw_keep [8] (L' := [(8, .bool false)]) rfl ?_
                                                refine aw_end (by as_aux_lemma => kernel_rfl) ?_
                                                refine ew_then ?_
                                                refine cw_ret ?_
                                                have hR := Option.some.inj hF
                                                subst hR
                                                exact fin1 (H1 := [imm I]) (fun w hs => sat_to [1, 1, 1, 1, 1, 0] 5 rfl hs) rfl (rr_tmp rfl) ⟨rfl, rfl⟩
                                            · refine aw_slots (L' := [(9, .pointer (some ⟨r28_b2, 0, none⟩)), (10, .pointer (some ⟨r28_b10, 0, none⟩)), (172, .bool false)]) (by rw [h123]) ?_
                                              refine aw_vals [53, 54, 55, 56, 57, 58, 59, 60, 61, 62, 63, 64, 65, 66, 67, 68, 69] (f' := 0) (m' := 1180591620717411303423) [8] [(8, .bool false)] (fun _ _ _ _ _ h => calm_fin (P := Tryd.prog) (fn := Tryd.f5) _ _ _ _ _ h) (fun w hs => sat_pulls [0, 0, 0, 0, 0] (G := [own (eInt .u8) 5 p117 1 ([IntKind.u8.wrap ((x2.size : Int))] : List Int)] ++ F0) rfl hs) rfl (by as_aux_lemma => kernel_rfl) ?_
                                              refine aw_keep [8] (L' := [(8, .bool false)]) rfl ?_
                                              refine aw_end (by as_aux_lemma => kernel_rfl) ?_
                                              refine ew_then ?_
                                              refine cw_ret ?_
                                              have hR := Option.some.inj hF
                                              subst hR
                                              exact fin1 (H1 := [imm I]) (fun w hs => sat_to [1, 1, 1, 1, 1, 0] 5 rfl hs) rfl (rr_tmp rfl) ⟨rfl, rfl⟩
                                          · refine aw_slots (L' := [(1, .int .i64 x1), (9, .pointer (some ⟨r28_b2, 0, none⟩)), (10, .pointer (some ⟨r28_b10, 0, none⟩)), (166, .bool false)]) (by rw [h122]) ?_
                                            refine aw_vals [47, 48, 49, 50, 51, 52, 53, 54, 55, 56, 57, 58, 59, 60, 61, 62, 63, 64, 65, 66, 67, 68, 69] (f' := 0) (m' := 1180591620717411303423) [8] [(8, .bool false)] (fun _ _ _ _ _ h => calm_fin (P := Tryd.prog) (fn := Tryd.f5) _ _ _ _ _ h) (fun w hs => sat_pulls [1, 1, 1, 1, 1] (G := [own (eInt .u8) 5 p117 1 ([IntKind.u8.wrap ((x2.size : Int))] : List Int)] ++ F0) rfl hs) rfl (by as_aux_lemma => kernel_rfl) ?_
                                            refine aw_keep [8] (L' := [(8, .bool false)]) rfl ?_
                                            refine aw_end (by as_aux_lemma => kernel_rfl) ?_
                                            refine ew_then ?_
                                            refine cw_ret ?_
                                            have hR := Option.some.inj hF
                                            subst hR
                                            exact fin1 (H1 := [imm I]) (fun w hs => sat_to [0, 1, 1, 1, 1, 0] 5 rfl hs) rfl (rr_tmp rfl) ⟨rfl, rfl⟩
                                        · refine aw_slots (L' := [(1, .int .i64 x1), (9, .pointer (some ⟨r28_b2, 0, none⟩)), (10, .pointer (some ⟨r28_b10, 0, none⟩)), (19, .int .i64 r85.2.2), (162, .bool false)]) (by rw [h121]) ?_
                                          refine aw_vals [43, 44, 45, 46, 47, 48, 49, 50, 51, 52, 53, 54, 55, 56, 57, 58, 59, 60, 61, 62, 63, 64, 65, 66, 67, 68, 69] (f' := 0) (m' := 1180591620717411303423) [8] [(8, .bool false)] (fun _ _ _ _ _ h => calm_fin (P := Tryd.prog) (fn := Tryd.f5) _ _ _ _ _ h) (fun w hs => sat_pulls [1, 1, 1, 1, 1] (G := [own (eInt .u8) 5 p117 1 ([IntKind.u8.wrap ((x2.size : Int))] : List Int)] ++ F0) rfl hs) rfl (by as_aux_lemma => kernel_rfl) ?_
                                          refine aw_keep [8] (L' := [(8, .bool false)]) rfl ?_
                                          refine aw_end (by as_aux_lemma => kernel_rfl) ?_
                                          refine ew_then ?_
                                          refine cw_ret ?_
                                          have hR := Option.some.inj hF
                                          subst hR
                                          exact fin1 (H1 := [imm I]) (fun w hs => sat_to [0, 1, 1, 1, 1, 0] 5 rfl hs) rfl (rr_tmp rfl) ⟨rfl, rfl⟩
                                      · refine aw_slots (L' := [(1, .int .i64 x1), (9, .pointer (some ⟨r28_b2, 0, none⟩)), (10, .pointer (some ⟨r28_b10, 0, none⟩)), (13, .int .i64 r61.1), (18, .int .i64 r85.2.1), (19, .int .i64 r85.2.2), (157, .bool false)]) (by rw [h120]) ?_
                                        refine aw_vals [38, 39, 40, 41, 42, 43, 44, 45, 46, 47, 48, 49, 50, 51, 52, 53, 54, 55, 56, 57, 58, 59, 60, 61, 62, 63, 64, 65, 66, 67, 68, 69] (f' := 0) (m' := 1180591620717411303423) [8] [(8, .bool false)] (fun _ _ _ _ _ h => calm_fin (P := Tryd.prog) (fn := Tryd.f5) _ _ _ _ _ h) (fun w hs => sat_pulls [1, 1, 1, 1, 1] (G := [own (eInt .u8) 5 p117 1 ([IntKind.u8.wrap ((x2.size : Int))] : List Int)] ++ F0) rfl hs) rfl (by as_aux_lemma => kernel_rfl) ?_
                                        refine aw_keep [8] (L' := [(8, .bool false)]) rfl ?_
                                        refine aw_end (by as_aux_lemma => kernel_rfl) ?_
                                        refine ew_then ?_
                                        refine cw_ret ?_
                                        have hR := Option.some.inj hF
                                        subst hR
                                        exact fin1 (H1 := [imm I]) (fun w hs => sat_to [0, 1, 1, 1, 1, 0] 5 rfl hs) rfl (rr_tmp rfl) ⟨rfl, rfl⟩
                                    · refine aw_slots (L' := [(1, .int .i64 x1), (2, .string x2), (9, .pointer (some ⟨r28_b2, 0, none⟩)), (10, .pointer (some ⟨r28_b10, 0, none⟩)), (13, .int .i64 r61.1), (17, .string r85.1), (18, .int .i64 r85.2.1), (19, .int .i64 r85.2.2), (152, .bool false)]) (by rw [h119]) ?_
                                      refine aw_vals [33, 34, 35, 36, 37, 38, 39, 40, 41, 42, 43, 44, 45, 46, 47, 48, 49, 50, 51, 52, 53, 54, 55, 56, 57, 58, 59, 60, 61, 62, 63, 64, 65, 66, 67, 68, 69] (f' := 0) (m' := 1180591620717411303423) [8] [(8, .bool false)] (fun _ _ _ _ _ h => calm_fin (P := Tryd.prog) (fn := Tryd.f5) _ _ _ _ _ h) (fun w hs => sat_pulls [1, 1, 1, 1, 1] (G := [own (eInt .u8) 5 p117 1 ([IntKind.u8.wrap ((x2.size : Int))] : List Int)] ++ F0) rfl hs) rfl (by as_aux_lemma => kernel_rfl) ?_
                                      refine aw_keep [8] (L' := [(8, .bool false)]) rfl ?_
                                      refine aw_end (by as_aux_lemma => kernel_rfl) ?_
                                      refine ew_then ?_
                                      refine cw_ret ?_
                                      have hR := Option.some.inj hF
                                      subst hR
                                      exact fin1 (H1 := [imm I]) (fun w hs => sat_to [0, 1, 1, 1, 1, 0] 5 rfl hs) rfl (rr_tmp rfl) ⟨rfl, rfl⟩
                                · refine aw_slots (L' := [(1, .int .i64 x1), (2, .string x2), (9, .pointer (some ⟨r28_b2, 0, none⟩)), (10, .pointer (some ⟨r28_b10, 0, none⟩)), (13, .int .i64 r61.1), (15, .string r83.1), (17, .string r85.1), (18, .int .i64 r85.2.1), (19, .int .i64 r85.2.2), (20, .string r87), (132, .bool false)]) (by rw [h91]) ?_
                                  refine aw_vals [13, 14, 15, 16, 17, 18, 19, 20, 21, 22, 23, 24, 25, 26, 27, 28, 29, 30, 31, 32, 33, 34, 35, 36, 37, 38, 39, 40, 41, 42, 43, 44, 45, 46, 47, 48, 49, 50, 51, 52, 53, 54, 55, 56, 57, 58, 59, 60, 61, 62, 63, 64, 65, 66, 67, 68, 69] (f' := 0) (m' := 1180591620717411303423) [8] [(8, .bool false)] (fun _ _ _ _ _ h => calm_fin (P := Tryd.prog) (fn := Tryd.f5) _ _ _ _ _ h) (fun w hs => sat_pulls [0, 0, 0, 0, 0] (G := [] ++ F0) rfl hs) rfl (by as_aux_lemma => kernel_rfl) ?_
                                  refine aw_keep [8] (L' := [(8, .bool false)]) rfl ?_
                                  refine aw_end (by as_aux_lemma => kernel_rfl) ?_
                                  refine ew_then ?_
                                  refine cw_ret ?_
                                  have hR := Option.some.inj hF
                                  subst hR
                                  exact fin1 (H1 := [imm I]) (fun w hs => sat_to [1, 1, 1, 1, 0] 4 rfl hs) rfl (rr_tmp rfl) ⟨rfl, rfl⟩
                              · refine aw_slots (L' := [(1, .int .i64 x1), (2, .string x2), (9, .pointer (some ⟨r28_b2, 0, none⟩)), (10, .pointer (some ⟨r28_b10, 0, none⟩)), (11, .int .i64 r57.1), (13, .int .i64 r61.1), (15, .string r83.1), (17, .string r85.1), (18, .int .i64 r85.2.1), (19, .int .i64 r85.2.2), (20, .string r87), (126, .bool false)]) (by rw [h90]) ?_
                                refine aw_vals [7, 8, 9, 10, 11, 12, 13, 14, 15, 16, 17, 18, 19, 20, 21, 22, 23, 24, 25, 26, 27, 28, 29, 30, 31, 32, 33, 34, 35, 36, 37, 38, 39, 40, 41, 42, 43, 44, 45, 46, 47, 48, 49, 50, 51, 52, 53, 54, 55, 56, 57, 58, 59, 60, 61, 62, 63, 64, 65, 66, 67, 68, 69] (f' := 0) (m' := 1180591620717411303423) [8] [(8, .bool false)] (fun _ _ _ _ _ h => calm_fin (P := Tryd.prog) (fn := Tryd.f5) _ _ _ _ _ h) (fun w hs => sat_pulls [0, 0, 0, 0, 0] (G := [] ++ F0) rfl hs) rfl (by as_aux_lemma => kernel_rfl) ?_
                                refine aw_keep [8] (L' := [(8, .bool false)]) rfl ?_
                                refine aw_end (by as_aux_lemma => kernel_rfl) ?_
                                refine ew_then ?_
                                refine cw_ret ?_
                                have hR := Option.some.inj hF
                                subst hR
                                exact fin1 (H1 := [imm I]) (fun w hs => sat_to [1, 1, 1, 1, 0] 4 rfl hs) rfl (rr_tmp rfl) ⟨rfl, rfl⟩
                            · refine aw_slots (L' := [(1, .int .i64 x1), (2, .string x2), (9, .pointer (some ⟨r28_b2, 0, none⟩)), (10, .pointer (some ⟨r28_b10, 0, none⟩)), (11, .int .i64 r57.1), (13, .int .i64 r61.1), (15, .string r83.1), (16, .int .i64 r83.2), (17, .string r85.1), (18, .int .i64 r85.2.1), (19, .int .i64 r85.2.2), (20, .string r87), (122, .bool false)]) (by rw [h89]) ?_
                              refine aw_vals [3, 4, 5, 6, 7, 8, 9, 10, 11, 12, 13, 14, 15, 16, 17, 18, 19, 20, 21, 22, 23, 24, 25, 26, 27, 28, 29, 30, 31, 32, 33, 34, 35, 36, 37, 38, 39, 40, 41, 42, 43, 44, 45, 46, 47, 48, 49, 50, 51, 52, 53, 54, 55, 56, 57, 58, 59, 60, 61, 62, 63, 64, 65, 66, 67, 68, 69] (f' := 0) (m' := 1180591620717411303423) [8] [(8, .bool false)] (fun _ _ _ _ _ h => calm_fin (P := Tryd.prog) (fn := Tryd.f5) _ _ _ _ _ h) (fun w hs => sat_pulls [0, 0, 0, 0, 0] (G := [] ++ F0) rfl hs) rfl (by as_aux_lemma => kernel_rfl) ?_
                              refine aw_keep [8] (L' := [(8, .bool false)]) rfl ?_
                              refine aw_end (by as_aux_lemma => kernel_rfl) ?_
                              refine ew_then ?_
                              refine cw_ret ?_
                              have hR := Option.some.inj hF
                              subst hR
                              exact fin1 (H1 := [imm I]) (fun w hs => sat_to [1, 1, 1, 1, 0] 4 rfl hs) rfl (rr_tmp rfl) ⟨rfl, rfl⟩

end Go.Proofs.YthebdiboijhjmaaDoor
