/- What the functions compute, and that the code computes it: printed by a program of this claim (wip/tools), for the group Plays. -/
import Derived.Test.YtilpkebkhibpeaaGreatDoorGRingb
import Derived.Test.YtilpkebkhibpeaaGreatDoorFw3
namespace Go.Proofs.YtilpkebkhibpeaaGreatDoor
set_option linter.all false
open Go Go.RowKit Go.Fw
set_option linter.unusedVariables false

structure law13_Op where
  Kind : Int
  I : Int
  C : Int
  List : List Int
  F : disk_Fall

structure law13_Op_r where
  Kind : Int
  I : Int
  C : Int
  List : Rs Int
  F : disk_Fall
def rc_law13_Op (x : law13_Op_r) : _root_.List Go.Value := [.int .i64 x.Kind, .int .i64 x.I, .int .u8 x.C, .slice x.List.p x.List.l.length x.List.c, .int .u64 x.F.Keep, .int .i64 x.F.Tear]
def rl_law13_Op (x : law13_Op_r) : law13_Op := ⟨x.Kind, x.I, x.C, x.List.l, x.F⟩
def rk_law13_Op (I : Hl) (x : law13_Op_r) : Prop := ro I (eInt .i64) x.List.p x.List.c x.List.l
def n_law13_Op : NEnc law13_Op := ⟨law13_Op_r, ⟨rc_law13_Op, 6, fun _ => rfl, fun _ => rfl, by decide⟩, rl_law13_Op, rk_law13_Op, fun h r k => ro.sub h k⟩

structure A8_Inti64 where
  e0 : Int
  e1 : Int
  e2 : Int
  e3 : Int
  e4 : Int
  e5 : Int
  e6 : Int
  e7 : Int
def A8_Inti64.cells (x : A8_Inti64) : List Go.Value := [.int .i64 x.e0, .int .i64 x.e1, .int .i64 x.e2, .int .i64 x.e3, .int .i64 x.e4, .int .i64 x.e5, .int .i64 x.e6, .int .i64 x.e7]
def e_A8_Inti64 : Enc A8_Inti64 := ⟨A8_Inti64.cells, 8, fun _ => rfl, fun _ => rfl, by decide⟩

structure law13_plain where
  keys_ : A8_Inti64
  boot_ : Int
  shred_ : Int
def law13_plain.cells (x : law13_plain) : List Go.Value := [.int .i64 x.keys_.e0, .int .i64 x.keys_.e1, .int .i64 x.keys_.e2, .int .i64 x.keys_.e3, .int .i64 x.keys_.e4, .int .i64 x.keys_.e5, .int .i64 x.keys_.e6, .int .i64 x.keys_.e7, .int .i64 x.boot_, .int .i64 x.shred_]
def e_law13_plain : Enc law13_plain := ⟨law13_plain.cells, 10, fun _ => rfl, fun _ => rfl, by decide⟩

def F.law13_in (x0 : Int) : Option Bool :=
  if decide (x0 ≥ 0) then (some ((decide (x0 < 8)))) else (some (false))
set_option maxRecDepth 100000 in
set_option maxHeartbeats 4000000 in
theorem c_law13_in (I : Hl) (x0 : Int) (res : Bool) (hF : F.law13_in x0 = some res) : Tr Tryz.prog 20 [.int .i64 x0] [imm I] (fun r H' => r = .bool res ∧ H' = [imm I]) := by
  unfold F.law13_in at hF
  refine tr_of_cw (fn := Tryz.f20) Tryz.func20 rfl (Nat.le_of_ble_eq_true rfl) 9 rfl fun F0 w0 => ?_
  refine cw_keep [0] (L' := [(0, .int .i64 x0)]) rfl ?_
  refine cw_state (S' := SAT w0 ([imm I] ++ F0)) (fun w hs => hs) ?_
  refine cw_seq ?_
  refine cw_region ?_
  refine ow_vals 1 (j := 1) [0] [(0, .int .i64 x0)] rfl (by kernel_rfl) ?_
  refine ow_end rfl ?_
  refine ew_then ?_
  refine cw_seq ?_
  refine cw_region ?_
  refine ow_vals 3 (j := 3) [0, 5] [(0, .int .i64 x0), (5, .bool (decide (x0 ≥ 0)))] rfl (by kernel_rfl) ?_
  rcases if_some hF with ⟨h21, hF⟩ | ⟨h21, hF⟩
  · refine ow_slots (L' := [(0, .int .i64 x0), (5, .bool true)]) (by rw [h21]) ?_
    refine ow_vals 4 (j := 7) [2] [(2, .bool (decide (x0 < 8)))] rfl (by kernel_rfl) ?_
    refine ow_end rfl ?_
    refine ew_then ?_
    refine cw_ret ?_
    have hR := Option.some.inj hF
    subst hR
    exact fin1 (H1 := [imm I]) (fun w hs => sat_to [0] 0 rfl hs) rfl (rr_tmp rfl) ⟨rfl, rfl⟩
  refine ow_slots (L' := [(0, .int .i64 x0), (5, .bool false)]) (by rw [h21]) ?_
  refine ow_vals 4 (j := 7) [2] [(2, .bool false)] rfl (by kernel_rfl) ?_
  refine ow_end rfl ?_
  refine ew_then ?_
  refine cw_ret ?_
  have hR := Option.some.inj hF
  subst hR
  exact fin1 (H1 := [imm I]) (fun w hs => sat_to [0] 0 rfl hs) rfl (rr_tmp rfl) ⟨rfl, rfl⟩


def F.law13_put (x2 : Int) (x3 : ByteArray) (x4 : Int) (m0 : keyring_Ring) (m1 : guard_Guard) (m2 : disk_Disk) (m3 : law13_plain) : Option (Int × Int × guard_Guard × disk_Disk × law13_plain) :=
  Option.bind (F.keyring_Ring_Put x2 x3 m0 m1 m2) (fun (r21 : Int × guard_Guard × disk_Disk) => Option.bind (F.law13_in x2) (fun (r25 : Bool) => if !r25 then (some ((r21.1, 5, r21.2.1, r21.2.2, m3))) else (if (x3.size : Int) != 32 then (some ((r21.1, 1, r21.2.1, r21.2.2, m3))) else (Option.bind (at_ ([m3.keys_.e0, m3.keys_.e1, m3.keys_.e2, m3.keys_.e3, m3.keys_.e4, m3.keys_.e5, m3.keys_.e6, m3.keys_.e7] : List Int) x2) (fun (y29 : Int) => if y29 != 0 then (some ((r21.1, 25, r21.2.1, r21.2.2, m3))) else (if r21.1 == 0 then (Option.bind (at_ ([m3.keys_.e0, m3.keys_.e1, m3.keys_.e2, m3.keys_.e3, m3.keys_.e4, m3.keys_.e5, m3.keys_.e6, m3.keys_.e7] : List Int) x2) (fun (y33 : Int) => some ((r21.1, 0, r21.2.1, r21.2.2, (⟨(⟨if x2.toNat = 0 then x4 else m3.keys_.e0, if x2.toNat = 1 then x4 else m3.keys_.e1, if x2.toNat = 2 then x4 else m3.keys_.e2, if x2.toNat = 3 then x4 else m3.keys_.e3, if x2.toNat = 4 then x4 else m3.keys_.e4, if x2.toNat = 5 then x4 else m3.keys_.e5, if x2.toNat = 6 then x4 else m3.keys_.e6, if x2.toNat = 7 then x4 else m3.keys_.e7⟩ : A8_Inti64), m3.boot_, m3.shred_⟩ : law13_plain))))) else (some ((r21.1, 0, r21.2.1, r21.2.2, m3)))))))))
set_option maxRecDepth 100000 in
set_option maxHeartbeats 4000000 in
theorem c_law13_put (I : Hl) (x2 : Int) (x3 : ByteArray) (x4 : Int) (m0 : keyring_Ring) (m1 : guard_Guard) (m2 : disk_Disk) (m3 : law13_plain) (b0 : Nat) (b1 : Nat) (p0 : Option Addr) (c0 : Nat) (p1 : Nat) (b2 : Nat) (b3 : Nat) (res : Int × Int × guard_Guard × disk_Disk × law13_plain) (hF : F.law13_put x2 x3 x4 m0 m1 m2 m3 = some res) : Tr Tryz.prog 6 [.pointer (some ⟨b0, 0, none⟩), .pointer (some ⟨b3, 0, none⟩), .int .i64 x2, .string x3, .int .i64 x4] [imm I, pt b0 #[.pointer (some ⟨b1, 0, none⟩), .int .i64 m0.base_, .int .i64 m0.slots_, .int .i64 m0.shred_] 78, pt b1 #[.pointer (some ⟨b2, 0, none⟩), .int .i64 m1.boot_, .int .i64 m1.n_] 75, pt b2 #[.slice p0 m2.sure_.length c0, .map (some p1), .bool m2.off_, .bool m2.armed_, .int .i64 m2.left_, .int .u64 m2.fall_.Keep, .int .i64 m2.fall_.Tear, .int .i64 m2.acts_, .int .i64 m2.falls_] 52, pt b3 #[.int .i64 m3.keys_.e0, .int .i64 m3.keys_.e1, .int .i64 m3.keys_.e2, .int .i64 m3.keys_.e3, .int .i64 m3.keys_.e4, .int .i64 m3.keys_.e5, .int .i64 m3.keys_.e6, .int .i64 m3.keys_.e7, .int .i64 m3.boot_, .int .i64 m3.shred_] 30, own e_disk_sector 55 p0 c0 m2.sure_, mpo (kInt .i64) (fun x : disk_sector => Value.agg #[.string x.s_, .int .i64 x.at_]) p1 m2.wait_] (fun r H' => ∃ (pq1 : Option Addr), ∃ (cq2 : Nat), ∃ (bq4 : Nat), r = .tuple #[.int .i64 res.1, .int .i64 res.2.1] ∧ H' = [imm I, pt b0 #[.pointer (some ⟨b1, 0, none⟩), .int .i64 m0.base_, .int .i64 m0.slots_, .int .i64 m0.shred_] 78, pt b1 #[.pointer (some ⟨b2, 0, none⟩), .int .i64 res.2.2.1.boot_, .int .i64 res.2.2.1.n_] 75, pt b2 #[.slice pq1 res.2.2.2.1.sure_.length cq2, .map (some bq4), .bool res.2.2.2.1.off_, .bool res.2.2.2.1.armed_, .int .i64 res.2.2.2.1.left_, .int .u64 res.2.2.2.1.fall_.Keep, .int .i64 res.2.2.2.1.fall_.Tear, .int .i64 res.2.2.2.1.acts_, .int .i64 res.2.2.2.1.falls_] 52, pt b3 #[.int .i64 res.2.2.2.2.keys_.e0, .int .i64 res.2.2.2.2.keys_.e1, .int .i64 res.2.2.2.2.keys_.e2, .int .i64 res.2.2.2.2.keys_.e3, .int .i64 res.2.2.2.2.keys_.e4, .int .i64 res.2.2.2.2.keys_.e5, .int .i64 res.2.2.2.2.keys_.e6, .int .i64 res.2.2.2.2.keys_.e7, .int .i64 res.2.2.2.2.boot_, .int .i64 res.2.2.2.2.shred_] 30, own e_disk_sector 55 pq1 cq2 res.2.2.2.1.sure_, mpo (kInt .i64) (fun x : disk_sector => Value.agg #[.string x.s_, .int .i64 x.at_]) bq4 res.2.2.2.1.wait_]) := by
  unfold F.law13_put at hF
  refine tr_of_cw (fn := Tryz.f6) Tryz.func6 rfl (Nat.le_of_ble_eq_true rfl) 42 rfl fun F0 w0 => ?_
  refine cw_keep [0, 1, 2, 3, 4] (L' := [(0, .pointer (some ⟨b0, 0, none⟩)), (1, .pointer (some ⟨b3, 0, none⟩)), (2, .int .i64 x2), (3, .string x3), (4, .int .i64 x4)]) rfl ?_
  refine cw_state (S' := SAT w0 ([imm I, pt b0 #[.pointer (some ⟨b1, 0, none⟩), .int .i64 m0.base_, .int .i64 m0.slots_, .int .i64 m0.shred_] 78, pt b1 #[.pointer (some ⟨b2, 0, none⟩), .int .i64 m1.boot_, .int .i64 m1.n_] 75, pt b2 #[.slice p0 m2.sure_.length c0, .map (some p1), .bool m2.off_, .bool m2.armed_, .int .i64 m2.left_, .int .u64 m2.fall_.Keep, .int .i64 m2.fall_.Tear, .int .i64 m2.acts_, .int .i64 m2.falls_] 52, pt b3 #[.int .i64 m3.keys_.e0, .int .i64 m3.keys_.e1, .int .i64 m3.keys_.e2, .int .i64 m3.keys_.e3, .int .i64 m3.keys_.e4, .int .i64 m3.keys_.e5, .int .i64 m3.keys_.e6, .int .i64 m3.keys_.e7, .int .i64 m3.boot_, .int .i64 m3.shred_] 30, own e_disk_sector 55 p0 c0 m2.sure_, mpo (kInt .i64) (fun x : disk_sector => Value.agg #[.string x.s_, .int .i64 x.at_]) p1 m2.wait_] ++ F0)) (fun w hs => hs) ?_
  refine cw_seq ?_
  refine cw_region ?_
  refine ow_vals 2 (j := 2) [0, 1, 2, 3, 4] [(0, .pointer (some ⟨b0, 0, none⟩)), (1, .pointer (some ⟨b3, 0, none⟩)), (2, .int .i64 x2), (3, .string x3), (4, .int .i64 x4)] rfl (by kernel_rfl) ?_
  refine ow_end rfl ?_
  refine ew_then ?_
  refine cw_seq ?_
  refine cw_region ?_
  refine ow_vals 3 (j := 3) [1, 2, 3, 4, 13, 14, 15] [(1, .pointer (some ⟨b3, 0, none⟩)), (2, .int .i64 x2), (3, .string x3), (4, .int .i64 x4), (13, .pointer (some ⟨b0, 0, none⟩)), (14, .int .i64 x2), (15, .string x3)] rfl (by kernel_rfl) ?_
  obtain ⟨r21, h22, hF⟩ := bind_some hF
  refine ow_pw rfl (pw_call (F := [pt b3 #[.int .i64 m3.keys_.e0, .int .i64 m3.keys_.e1, .int .i64 m3.keys_.e2, .int .i64 m3.keys_.e3, .int .i64 m3.keys_.e4, .int .i64 m3.keys_.e5, .int .i64 m3.keys_.e6, .int .i64 m3.keys_.e7, .int .i64 m3.boot_, .int .i64 m3.shred_] 30] ++ F0) rfl rfl rfl rfl rfl rfl rfl (by kernel_rfl) (perm_of_pulls [0, 0, 0, 0, 1, 1] rfl) (c_keyring_Ring_Put _ x2 x3 m0 m1 m2 b0 b1 p0 c0 p1 b2 r21 h22) ?_)
  rintro _ _ ⟨r21_p1, r21_c2, r21_b4, rfl, rfl⟩
  refine nw_H (H' := [imm I, pt b0 #[.pointer (some ⟨b1, 0, none⟩), .int .i64 m0.base_, .int .i64 m0.slots_, .int .i64 m0.shred_] 78, pt b1 #[.pointer (some ⟨b2, 0, none⟩), .int .i64 r21.2.1.boot_, .int .i64 r21.2.1.n_] 75, pt b2 #[.slice r21_p1 r21.2.2.sure_.length r21_c2, .map (some r21_b4), .bool r21.2.2.off_, .bool r21.2.2.armed_, .int .i64 r21.2.2.left_, .int .u64 r21.2.2.fall_.Keep, .int .i64 r21.2.2.fall_.Tear, .int .i64 r21.2.2.acts_, .int .i64 r21.2.2.falls_] 52, own e_disk_sector 55 r21_p1 r21_c2 r21.2.2.sure_, mpo (kInt .i64) (fun x : disk_sector => Value.agg #[.string x.s_, .int .i64 x.at_]) r21_b4 r21.2.2.wait_, pt b3 #[.int .i64 m3.keys_.e0, .int .i64 m3.keys_.e1, .int .i64 m3.keys_.e2, .int .i64 m3.keys_.e3, .int .i64 m3.keys_.e4, .int .i64 m3.keys_.e5, .int .i64 m3.keys_.e6, .int .i64 m3.keys_.e7, .int .i64 m3.boot_, .int .i64 m3.shred_] 30] ++ F0) rfl (nw_ow ?_)
  refine ow_vals 1 (j := 5) [1, 2, 3, 4, 12] [(1, .pointer (some ⟨b3, 0, none⟩)), (2, .int .i64 x2), (3, .string x3), (4, .int .i64 x4), (12, .int .i64 r21.1)] rfl (by kernel_rfl) ?_
  refine ow_end rfl ?_
  refine ew_then ?_
  refine cw_seq ?_
  refine cw_seq ?_
  refine cw_region ?_
  refine ow_vals 1 (j := 1) [1, 2, 3, 4, 12, 17] [(1, .pointer (some ⟨b3, 0, none⟩)), (2, .int .i64 x2), (3, .string x3), (4, .int .i64 x4), (12, .int .i64 r21.1), (17, .int .i64 x2)] rfl (by kernel_rfl) ?_
  obtain ⟨r25, h26, hF⟩ := bind_some hF
  refine ow_pw rfl (pw_call (F := [pt b0 #[.pointer (some ⟨b1, 0, none⟩), .int .i64 m0.base_, .int .i64 m0.slots_, .int .i64 m0.shred_] 78, pt b1 #[.pointer (some ⟨b2, 0, none⟩), .int .i64 r21.2.1.boot_, .int .i64 r21.2.1.n_] 75, pt b2 #[.slice r21_p1 r21.2.2.sure_.length r21_c2, .map (some r21_b4), .bool r21.2.2.off_, .bool r21.2.2.armed_, .int .i64 r21.2.2.left_, .int .u64 r21.2.2.fall_.Keep, .int .i64 r21.2.2.fall_.Tear, .int .i64 r21.2.2.acts_, .int .i64 r21.2.2.falls_] 52, own e_disk_sector 55 r21_p1 r21_c2 r21.2.2.sure_, mpo (kInt .i64) (fun x : disk_sector => Value.agg #[.string x.s_, .int .i64 x.at_]) r21_b4 r21.2.2.wait_, pt b3 #[.int .i64 m3.keys_.e0, .int .i64 m3.keys_.e1, .int .i64 m3.keys_.e2, .int .i64 m3.keys_.e3, .int .i64 m3.keys_.e4, .int .i64 m3.keys_.e5, .int .i64 m3.keys_.e6, .int .i64 m3.keys_.e7, .int .i64 m3.boot_, .int .i64 m3.shred_] 30] ++ F0) rfl rfl rfl rfl rfl rfl rfl (by kernel_rfl) (perm_of_pulls [0] rfl) (c_law13_in _ x2 r25 h26) ?_)
  rintro _ _ ⟨rfl, rfl⟩
  refine nw_H (H' := [imm I, pt b0 #[.pointer (some ⟨b1, 0, none⟩), .int .i64 m0.base_, .int .i64 m0.slots_, .int .i64 m0.shred_] 78, pt b1 #[.pointer (some ⟨b2, 0, none⟩), .int .i64 r21.2.1.boot_, .int .i64 r21.2.1.n_] 75, pt b2 #[.slice r21_p1 r21.2.2.sure_.length r21_c2, .map (some r21_b4), .bool r21.2.2.off_, .bool r21.2.2.armed_, .int .i64 r21.2.2.left_, .int .u64 r21.2.2.fall_.Keep, .int .i64 r21.2.2.fall_.Tear, .int .i64 r21.2.2.acts_, .int .i64 r21.2.2.falls_] 52, own e_disk_sector 55 r21_p1 r21_c2 r21.2.2.sure_, mpo (kInt .i64) (fun x : disk_sector => Value.agg #[.string x.s_, .int .i64 x.at_]) r21_b4 r21.2.2.wait_, pt b3 #[.int .i64 m3.keys_.e0, .int .i64 m3.keys_.e1, .int .i64 m3.keys_.e2, .int .i64 m3.keys_.e3, .int .i64 m3.keys_.e4, .int .i64 m3.keys_.e5, .int .i64 m3.keys_.e6, .int .i64 m3.keys_.e7, .int .i64 m3.boot_, .int .i64 m3.shred_] 30] ++ F0) rfl (nw_ow ?_)
  refine ow_vals 1 (j := 3) [1, 2, 3, 4, 12, 19] [(1, .pointer (some ⟨b3, 0, none⟩)), (2, .int .i64 x2), (3, .string x3), (4, .int .i64 x4), (12, .int .i64 r21.1), (19, .bool (!r25))] rfl (by kernel_rfl) ?_
  refine ow_end rfl ?_
  refine ew_then ?_
  rcases if_some hF with ⟨h27, hF⟩ | ⟨h27, hF⟩
  · refine cw_cond_t rfl rfl h27 ?_
    refine cw_seq ?_
    refine cw_region ?_
    refine ow_vals 3 (j := 3) [10, 11] [(10, .int .i64 r21.1), (11, .int .i64 5)] rfl (by kernel_rfl) ?_
    refine ow_end rfl ?_
    refine ew_then ?_
    refine cw_ret ?_
    refine ew_then_ret ?_
    have hR := Option.some.inj hF
    subst hR
    exact fin2 (H1 := [imm I, pt b0 #[.pointer (some ⟨b1, 0, none⟩), .int .i64 m0.base_, .int .i64 m0.slots_, .int .i64 m0.shred_] 78, pt b1 #[.pointer (some ⟨b2, 0, none⟩), .int .i64 r21.2.1.boot_, .int .i64 r21.2.1.n_] 75, pt b2 #[.slice r21_p1 r21.2.2.sure_.length r21_c2, .map (some r21_b4), .bool r21.2.2.off_, .bool r21.2.2.armed_, .int .i64 r21.2.2.left_, .int .u64 r21.2.2.fall_.Keep, .int .i64 r21.2.2.fall_.Tear, .int .i64 r21.2.2.acts_, .int .i64 r21.2.2.falls_] 52, pt b3 #[.int .i64 m3.keys_.e0, .int .i64 m3.keys_.e1, .int .i64 m3.keys_.e2, .int .i64 m3.keys_.e3, .int .i64 m3.keys_.e4, .int .i64 m3.keys_.e5, .int .i64 m3.keys_.e6, .int .i64 m3.keys_.e7, .int .i64 m3.boot_, .int .i64 m3.shred_] 30, own e_disk_sector 55 r21_p1 r21_c2 r21.2.2.sure_, mpo (kInt .i64) (fun x : disk_sector => Value.agg #[.string x.s_, .int .i64 x.at_]) r21_b4 r21.2.2.wait_]) (fun w hs => sat_to [0, 0, 0, 0, 2, 0, 0] 0 rfl hs) rfl (rr_tmp rfl) (rr_tmp rfl) ⟨r21_p1, r21_c2, r21_b4, rfl, rfl⟩
  refine cw_cond_f rfl rfl h27 ?_
  refine cw_skip ?_
  refine ew_then ?_
  refine cw_seq ?_
  refine cw_seq ?_
  refine cw_region ?_
  refine ow_vals 3 (j := 3) [1, 2, 4, 12, 23] [(1, .pointer (some ⟨b3, 0, none⟩)), (2, .int .i64 x2), (4, .int .i64 x4), (12, .int .i64 r21.1), (23, .bool ((x3.size : Int) != 32))] rfl (by kernel_rfl) ?_
  refine ow_end rfl ?_
  refine ew_then ?_
  rcases if_some hF with ⟨h28, hF⟩ | ⟨h28, hF⟩
  · refine cw_cond_t rfl rfl h28 ?_
    refine cw_seq ?_
    refine cw_region ?_
    refine ow_vals 3 (j := 3) [10, 11] [(10, .int .i64 r21.1), (11, .int .i64 1)] rfl (by kernel_rfl) ?_
    refine ow_end rfl ?_
    refine ew_then ?_
    refine cw_ret ?_
    refine ew_then_ret ?_
    have hR := Option.some.inj hF
    subst hR
    exact fin2 (H1 := [imm I, pt b0 #[.pointer (some ⟨b1, 0, none⟩), .int .i64 m0.base_, .int .i64 m0.slots_, .int .i64 m0.shred_] 78, pt b1 #[.pointer (some ⟨b2, 0, none⟩), .int .i64 r21.2.1.boot_, .int .i64 r21.2.1.n_] 75, pt b2 #[.slice r21_p1 r21.2.2.sure_.length r21_c2, .map (some r21_b4), .bool r21.2.2.off_, .bool r21.2.2.armed_, .int .i64 r21.2.2.left_, .int .u64 r21.2.2.fall_.Keep, .int .i64 r21.2.2.fall_.Tear, .int .i64 r21.2.2.acts_, .int .i64 r21.2.2.falls_] 52, pt b3 #[.int .i64 m3.keys_.e0, .int .i64 m3.keys_.e1, .int .i64 m3.keys_.e2, .int .i64 m3.keys_.e3, .int .i64 m3.keys_.e4, .int .i64 m3.keys_.e5, .int .i64 m3.keys_.e6, .int .i64 m3.keys_.e7, .int .i64 m3.boot_, .int .i64 m3.shred_] 30, own e_disk_sector 55 r21_p1 r21_c2 r21.2.2.sure_, mpo (kInt .i64) (fun x : disk_sector => Value.agg #[.string x.s_, .int .i64 x.at_]) r21_b4 r21.2.2.wait_]) (fun w hs => sat_to [0, 0, 0, 0, 2, 0, 0] 0 rfl hs) rfl (rr_tmp rfl) (rr_tmp rfl) ⟨r21_p1, r21_c2, r21_b4, rfl, rfl⟩
  refine cw_cond_f rfl rfl h28 ?_
  refine cw_skip ?_
  refine ew_then ?_
  refine cw_seq ?_
  refine cw_seq ?_
  refine cw_region ?_
  refine ow_vals 4 (j := 4) [1, 2, 4, 12, 26, 28] [(1, .pointer (some ⟨b3, 0, none⟩)), (2, .int .i64 x2), (4, .int .i64 x4), (12, .int .i64 r21.1), (26, .int .i64 x2), (28, .pointer (some ⟨b3, 0, none⟩))] rfl (by kernel_rfl) ?_
  obtain ⟨y29, h30, hF⟩ := bind_some hF
  refine ow_pw rfl (pw_quiet (v := .pointer (some ((⟨b3, 0, none⟩ : Addr).add (x2.toNat * 1)))) rfl rfl rfl rfl (q_index_objel (l := ([m3.keys_.e0, m3.keys_.e1, m3.keys_.e2, m3.keys_.e3, m3.keys_.e4, m3.keys_.e5, m3.keys_.e6, m3.keys_.e7] : List Int)) (m := 8) (E := 3) (sz := 1) (tot := 8) rfl (by kernel_rfl) rfl rfl rfl h30) (nw_ow ?_))
  refine ow_pw rfl (pw_quiet (v := .int .i64 y29) rfl rfl rfl rfl (q_load_objel (e := (eInt .i64)) (l := ([m3.keys_.e0, m3.keys_.e1, m3.keys_.e2, m3.keys_.e3, m3.keys_.e4, m3.keys_.e5, m3.keys_.e6, m3.keys_.e7] : List Int)) 6 ([] : List Go.Value) ([.int .i64 m3.boot_, .int .i64 m3.shred_] : List Go.Value) rfl rfl rfl rfl rfl (by kernel_rfl) rfl h30 rfl) (nw_ow ?_))
  refine ow_vals 1 (j := 7) [1, 2, 4, 12, 31] [(1, .pointer (some ⟨b3, 0, none⟩)), (2, .int .i64 x2), (4, .int .i64 x4), (12, .int .i64 r21.1), (31, .bool (y29 != 0))] rfl (by kernel_rfl) ?_
  refine ow_end rfl ?_
  refine ew_then ?_
  rcases if_some hF with ⟨h31, hF⟩ | ⟨h31, hF⟩
  · refine cw_cond_t rfl rfl h31 ?_
    refine cw_seq ?_
    refine cw_region ?_
    refine ow_vals 3 (j := 3) [10, 11] [(10, .int .i64 r21.1), (11, .int .i64 25)] rfl (by kernel_rfl) ?_
    refine ow_end rfl ?_
    refine ew_then ?_
    refine cw_ret ?_
    refine ew_then_ret ?_
    have hR := Option.some.inj hF
    subst hR
    exact fin2 (H1 := [imm I, pt b0 #[.pointer (some ⟨b1, 0, none⟩), .int .i64 m0.base_, .int .i64 m0.slots_, .int .i64 m0.shred_] 78, pt b1 #[.pointer (some ⟨b2, 0, none⟩), .int .i64 r21.2.1.boot_, .int .i64 r21.2.1.n_] 75, pt b2 #[.slice r21_p1 r21.2.2.sure_.length r21_c2, .map (some r21_b4), .bool r21.2.2.off_, .bool r21.2.2.armed_, .int .i64 r21.2.2.left_, .int .u64 r21.2.2.fall_.Keep, .int .i64 r21.2.2.fall_.Tear, .int .i64 r21.2.2.acts_, .int .i64 r21.2.2.falls_] 52, pt b3 #[.int .i64 m3.keys_.e0, .int .i64 m3.keys_.e1, .int .i64 m3.keys_.e2, .int .i64 m3.keys_.e3, .int .i64 m3.keys_.e4, .int .i64 m3.keys_.e5, .int .i64 m3.keys_.e6, .int .i64 m3.keys_.e7, .int .i64 m3.boot_, .int .i64 m3.shred_] 30, own e_disk_sector 55 r21_p1 r21_c2 r21.2.2.sure_, mpo (kInt .i64) (fun x : disk_sector => Value.agg #[.string x.s_, .int .i64 x.at_]) r21_b4 r21.2.2.wait_]) (fun w hs => sat_to [0, 0, 0, 0, 2, 0, 0] 0 rfl hs) rfl (rr_tmp rfl) (rr_tmp rfl) ⟨r21_p1, r21_c2, r21_b4, rfl, rfl⟩
  refine cw_cond_f rfl rfl h31 ?_
  refine cw_skip ?_
  refine ew_then ?_
  refine cw_seq ?_
  refine cw_seq ?_
  refine cw_region ?_
  refine ow_vals 2 (j := 2) [1, 2, 4, 12, 34] [(1, .pointer (some ⟨b3, 0, none⟩)), (2, .int .i64 x2), (4, .int .i64 x4), (12, .int .i64 r21.1), (34, .bool (r21.1 == 0))] rfl (by kernel_rfl) ?_
  refine ow_end rfl ?_
  refine ew_then ?_
  rcases if_some hF with ⟨h32, hF⟩ | ⟨h32, hF⟩
  · refine cw_cond_t rfl rfl h32 ?_
    refine cw_region ?_
    refine ow_vals 5 (j := 5) [12, 36, 37, 39] [(12, .int .i64 r21.1), (36, .int .i64 x2), (37, .int .i64 x4), (39, .pointer (some ⟨b3, 0, none⟩))] rfl (by kernel_rfl) ?_
    obtain ⟨y33, h34, hF⟩ := bind_some hF
    refine ow_pw rfl (pw_quiet (v := .pointer (some ((⟨b3, 0, none⟩ : Addr).add (x2.toNat * 1)))) rfl rfl rfl rfl (q_index_objel (l := ([m3.keys_.e0, m3.keys_.e1, m3.keys_.e2, m3.keys_.e3, m3.keys_.e4, m3.keys_.e5, m3.keys_.e6, m3.keys_.e7] : List Int)) (m := 8) (E := 3) (sz := 1) (tot := 8) rfl (by kernel_rfl) rfl rfl rfl h34) (nw_ow ?_))
    refine ow_pw rfl (pw_store_objel (e := (eInt .i64)) (l := ([m3.keys_.e0, m3.keys_.e1, m3.keys_.e2, m3.keys_.e3, m3.keys_.e4, m3.keys_.e5, m3.keys_.e6, m3.keys_.e7] : List Int)) (z' := x4) (C' := #[.int .i64 (if x2.toNat = 0 then x4 else m3.keys_.e0), .int .i64 (if x2.toNat = 1 then x4 else m3.keys_.e1), .int .i64 (if x2.toNat = 2 then x4 else m3.keys_.e2), .int .i64 (if x2.toNat = 3 then x4 else m3.keys_.e3), .int .i64 (if x2.toNat = 4 then x4 else m3.keys_.e4), .int .i64 (if x2.toNat = 5 then x4 else m3.keys_.e5), .int .i64 (if x2.toNat = 6 then x4 else m3.keys_.e6), .int .i64 (if x2.toNat = 7 then x4 else m3.keys_.e7), .int .i64 m3.boot_, .int .i64 m3.shred_]) 6 ([] : List Go.Value) ([.int .i64 m3.boot_, .int .i64 m3.shred_] : List Go.Value) rfl rfl rfl rfl rfl rfl rfl rfl rfl rfl (by kernel_rfl) rfl rfl rfl h34 rfl (nw_H (H' := [imm I, pt b0 #[.pointer (some ⟨b1, 0, none⟩), .int .i64 m0.base_, .int .i64 m0.slots_, .int .i64 m0.shred_] 78, pt b1 #[.pointer (some ⟨b2, 0, none⟩), .int .i64 r21.2.1.boot_, .int .i64 r21.2.1.n_] 75, pt b2 #[.slice r21_p1 r21.2.2.sure_.length r21_c2, .map (some r21_b4), .bool r21.2.2.off_, .bool r21.2.2.armed_, .int .i64 r21.2.2.left_, .int .u64 r21.2.2.fall_.Keep, .int .i64 r21.2.2.fall_.Tear, .int .i64 r21.2.2.acts_, .int .i64 r21.2.2.falls_] 52, own e_disk_sector 55 r21_p1 r21_c2 r21.2.2.sure_, mpo (kInt .i64) (fun x : disk_sector => Value.agg #[.string x.s_, .int .i64 x.at_]) r21_b4 r21.2.2.wait_, pt b3 #[.int .i64 (if x2.toNat = 0 then x4 else m3.keys_.e0), .int .i64 (if x2.toNat = 1 then x4 else m3.keys_.e1), .int .i64 (if x2.toNat = 2 then x4 else m3.keys_.e2), .int .i64 (if x2.toNat = 3 then x4 else m3.keys_.e3), .int .i64 (if x2.toNat = 4 then x4 else m3.keys_.e4), .int .i64 (if x2.toNat = 5 then x4 else m3.keys_.e5), .int .i64 (if x2.toNat = 6 then x4 else m3.keys_.e6), .int .i64 (if x2.toNat = 7 then x4 else m3.keys_.e7), .int .i64 m3.boot_, .int .i64 m3.shred_] 30] ++ F0) rfl (nw_ow ?_)))
    refine ow_end rfl ?_
    refine ew_then ?_
    refine cw_seq ?_
    refine cw_region ?_
    refine ow_vals 3 (j := 3) [10, 11] [(10, .int .i64 r21.1), (11, .int .i64 0)] rfl (by kernel_rfl) ?_
    refine ow_end rfl ?_
    refine ew_then ?_
    refine cw_ret ?_
    have hR := Option.some.inj hF
    subst hR
    exact fin2 (H1 := [imm I, pt b0 #[.pointer (some ⟨b1, 0, none⟩), .int .i64 m0.base_, .int .i64 m0.slots_, .int .i64 m0.shred_] 78, pt b1 #[.pointer (some ⟨b2, 0, none⟩), .int .i64 r21.2.1.boot_, .int .i64 r21.2.1.n_] 75, pt b2 #[.slice r21_p1 r21.2.2.sure_.length r21_c2, .map (some r21_b4), .bool r21.2.2.off_, .bool r21.2.2.armed_, .int .i64 r21.2.2.left_, .int .u64 r21.2.2.fall_.Keep, .int .i64 r21.2.2.fall_.Tear, .int .i64 r21.2.2.acts_, .int .i64 r21.2.2.falls_] 52, pt b3 #[.int .i64 (((⟨(⟨if x2.toNat = 0 then x4 else m3.keys_.e0, if x2.toNat = 1 then x4 else m3.keys_.e1, if x2.toNat = 2 then x4 else m3.keys_.e2, if x2.toNat = 3 then x4 else m3.keys_.e3, if x2.toNat = 4 then x4 else m3.keys_.e4, if x2.toNat = 5 then x4 else m3.keys_.e5, if x2.toNat = 6 then x4 else m3.keys_.e6, if x2.toNat = 7 then x4 else m3.keys_.e7⟩ : A8_Inti64), m3.boot_, m3.shred_⟩ : law13_plain).keys_).e0), .int .i64 (((⟨(⟨if x2.toNat = 0 then x4 else m3.keys_.e0, if x2.toNat = 1 then x4 else m3.keys_.e1, if x2.toNat = 2 then x4 else m3.keys_.e2, if x2.toNat = 3 then x4 else m3.keys_.e3, if x2.toNat = 4 then x4 else m3.keys_.e4, if x2.toNat = 5 then x4 else m3.keys_.e5, if x2.toNat = 6 then x4 else m3.keys_.e6, if x2.toNat = 7 then x4 else m3.keys_.e7⟩ : A8_Inti64), m3.boot_, m3.shred_⟩ : law13_plain).keys_).e1), .int .i64 (((⟨(⟨if x2.toNat = 0 then x4 else m3.keys_.e0, if x2.toNat = 1 then x4 else m3.keys_.e1, if x2.toNat = 2 then x4 else m3.keys_.e2, if x2.toNat = 3 then x4 else m3.keys_.e3, if x2.toNat = 4 then x4 else m3.keys_.e4, if x2.toNat = 5 then x4 else m3.keys_.e5, if x2.toNat = 6 then x4 else m3.keys_.e6, if x2.toNat = 7 then x4 else m3.keys_.e7⟩ : A8_Inti64), m3.boot_, m3.shred_⟩ : law13_plain).keys_).e2), .int .i64 (((⟨(⟨if x2.toNat = 0 then x4 else m3.keys_.e0, if x2.toNat = 1 then x4 else m3.keys_.e1, if x2.toNat = 2 then x4 else m3.keys_.e2, if x2.toNat = 3 then x4 else m3.keys_.e3, if x2.toNat = 4 then x4 else m3.keys_.e4, if x2.toNat = 5 then x4 else m3.keys_.e5, if x2.toNat = 6 then x4 else m3.keys_.e6, if x2.toNat = 7 then x4 else m3.keys_.e7⟩ : A8_Inti64), m3.boot_, m3.shred_⟩ : law13_plain).keys_).e3), .int .i64 (((⟨(⟨if x2.toNat = 0 then x4 else m3.keys_.e0, if x2.toNat = 1 then x4 else m3.keys_.e1, if x2.toNat = 2 then x4 else m3.keys_.e2, if x2.toNat = 3 then x4 else m3.keys_.e3, if x2.toNat = 4 then x4 else m3.keys_.e4, if x2.toNat = 5 then x4 else m3.keys_.e5, if x2.toNat = 6 then x4 else m3.keys_.e6, if x2.toNat = 7 then x4 else m3.keys_.e7⟩ : A8_Inti64), m3.boot_, m3.shred_⟩ : law13_plain).keys_).e4), .int .i64 (((⟨(⟨if x2.toNat = 0 then x4 else m3.keys_.e0, if x2.toNat = 1 then x4 else m3.keys_.e1, if x2.toNat = 2 then x4 else m3.keys_.e2, if x2.toNat = 3 then x4 else m3.keys_.e3, if x2.toNat = 4 then x4 else m3.keys_.e4, if x2.toNat = 5 then x4 else m3.keys_.e5, if x2.toNat = 6 then x4 else m3.keys_.e6, if x2.toNat = 7 then x4 else m3.keys_.e7⟩ : A8_Inti64), m3.boot_, m3.shred_⟩ : law13_plain).keys_).e5), .int .i64 (((⟨(⟨if x2.toNat = 0 then x4 else m3.keys_.e0, if x2.toNat = 1 then x4 else m3.keys_.e1, if x2.toNat = 2 then x4 else m3.keys_.e2, if x2.toNat = 3 then x4 else m3.keys_.e3, if x2.toNat = 4 then x4 else m3.keys_.e4, if x2.toNat = 5 then x4 else m3.keys_.e5, if x2.toNat = 6 then x4 else m3.keys_.e6, if x2.toNat = 7 then x4 else m3.keys_.e7⟩ : A8_Inti64), m3.boot_, m3.shred_⟩ : law13_plain).keys_).e6), .int .i64 (((⟨(⟨if x2.toNat = 0 then x4 else m3.keys_.e0, if x2.toNat = 1 then x4 else m3.keys_.e1, if x2.toNat = 2 then x4 else m3.keys_.e2, if x2.toNat = 3 then x4 else m3.keys_.e3, if x2.toNat = 4 then x4 else m3.keys_.e4, if x2.toNat = 5 then x4 else m3.keys_.e5, if x2.toNat = 6 then x4 else m3.keys_.e6, if x2.toNat = 7 then x4 else m3.keys_.e7⟩ : A8_Inti64), m3.boot_, m3.shred_⟩ : law13_plain).keys_).e7), .int .i64 ((⟨(⟨if x2.toNat = 0 then x4 else m3.keys_.e0, if x2.toNat = 1 then x4 else m3.keys_.e1, if x2.toNat = 2 then x4 else m3.keys_.e2, if x2.toNat = 3 then x4 else m3.keys_.e3, if x2.toNat = 4 then x4 else m3.keys_.e4, if x2.toNat = 5 then x4 else m3.keys_.e5, if x2.toNat = 6 then x4 else m3.keys_.e6, if x2.toNat = 7 then x4 else m3.keys_.e7⟩ : A8_Inti64), m3.boot_, m3.shred_⟩ : law13_plain).boot_), .int .i64 ((⟨(⟨if x2.toNat = 0 then x4 else m3.keys_.e0, if x2.toNat = 1 then x4 else m3.keys_.e1, if x2.toNat = 2 then x4 else m3.keys_.e2, if x2.toNat = 3 then x4 else m3.keys_.e3, if x2.toNat = 4 then x4 else m3.keys_.e4, if x2.toNat = 5 then x4 else m3.keys_.e5, if x2.toNat = 6 then x4 else m3.keys_.e6, if x2.toNat = 7 then x4 else m3.keys_.e7⟩ : A8_Inti64), m3.boot_, m3.shred_⟩ : law13_plain).shred_)] 30, own e_disk_sector 55 r21_p1 r21_c2 r21.2.2.sure_, mpo (kInt .i64) (fun x : disk_sector => Value.agg #[.string x.s_, .int .i64 x.at_]) r21_b4 r21.2.2.wait_]) (fun w hs => sat_to [0, 0, 0, 0, 2, 0, 0] 0 rfl hs) rfl (rr_tmp rfl) (rr_tmp rfl) ⟨r21_p1, r21_c2, r21_b4, rfl, rfl⟩
  refine cw_cond_f rfl rfl h32 ?_
  refine cw_skip ?_
  refine ew_then ?_
  refine cw_seq ?_
  refine cw_region ?_
  refine ow_vals 3 (j := 3) [10, 11] [(10, .int .i64 r21.1), (11, .int .i64 0)] rfl (by kernel_rfl) ?_
  refine ow_end rfl ?_
  refine ew_then ?_
  refine cw_ret ?_
  have hR := Option.some.inj hF
  subst hR
  exact fin2 (H1 := [imm I, pt b0 #[.pointer (some ⟨b1, 0, none⟩), .int .i64 m0.base_, .int .i64 m0.slots_, .int .i64 m0.shred_] 78, pt b1 #[.pointer (some ⟨b2, 0, none⟩), .int .i64 r21.2.1.boot_, .int .i64 r21.2.1.n_] 75, pt b2 #[.slice r21_p1 r21.2.2.sure_.length r21_c2, .map (some r21_b4), .bool r21.2.2.off_, .bool r21.2.2.armed_, .int .i64 r21.2.2.left_, .int .u64 r21.2.2.fall_.Keep, .int .i64 r21.2.2.fall_.Tear, .int .i64 r21.2.2.acts_, .int .i64 r21.2.2.falls_] 52, pt b3 #[.int .i64 m3.keys_.e0, .int .i64 m3.keys_.e1, .int .i64 m3.keys_.e2, .int .i64 m3.keys_.e3, .int .i64 m3.keys_.e4, .int .i64 m3.keys_.e5, .int .i64 m3.keys_.e6, .int .i64 m3.keys_.e7, .int .i64 m3.boot_, .int .i64 m3.shred_] 30, own e_disk_sector 55 r21_p1 r21_c2 r21.2.2.sure_, mpo (kInt .i64) (fun x : disk_sector => Value.agg #[.string x.s_, .int .i64 x.at_]) r21_b4 r21.2.2.wait_]) (fun w hs => sat_to [0, 0, 0, 0, 2, 0, 0] 0 rfl hs) rfl (rr_tmp rfl) (rr_tmp rfl) ⟨r21_p1, r21_c2, r21_b4, rfl, rfl⟩


def F.law13_shred.r1 (x2 : Int) (m3 : law13_plain) (r21 : Int × keyring_Ring × disk_Disk) (x32 : Bool) : Option (Int × Int × keyring_Ring × disk_Disk × law13_plain) :=
  if x32 then (Option.bind (at_ ([m3.keys_.e0, m3.keys_.e1, m3.keys_.e2, m3.keys_.e3, m3.keys_.e4, m3.keys_.e5, m3.keys_.e6, m3.keys_.e7] : List Int) x2) (fun (y34 : Int) => some ((r21.1, 0, r21.2.1, r21.2.2, (⟨(⟨if x2.toNat = 0 then 0 else m3.keys_.e0, if x2.toNat = 1 then 0 else m3.keys_.e1, if x2.toNat = 2 then 0 else m3.keys_.e2, if x2.toNat = 3 then 0 else m3.keys_.e3, if x2.toNat = 4 then 0 else m3.keys_.e4, if x2.toNat = 5 then 0 else m3.keys_.e5, if x2.toNat = 6 then 0 else m3.keys_.e6, if x2.toNat = 7 then 0 else m3.keys_.e7⟩ : A8_Inti64), m3.boot_, IntKind.i64.wrap (m3.shred_ + 1)⟩ : law13_plain))))) else (some ((r21.1, 0, r21.2.1, r21.2.2, m3)))
def F.law13_shred (x2 : Int) (m0 : keyring_Ring) (m1 : guard_Guard) (m2 : disk_Disk) (m3 : law13_plain) : Option (Int × Int × keyring_Ring × disk_Disk × law13_plain) :=
  Option.bind (F.keyring_Ring_Shred x2 m0 m1 m2) (fun (r21 : Int × keyring_Ring × disk_Disk) => Option.bind (F.law13_in x2) (fun (r25 : Bool) => if !r25 then (some ((r21.1, 5, r21.2.1, r21.2.2, m3))) else (Option.bind (if r21.1 == 0 then (Option.bind (at_ ([m3.keys_.e0, m3.keys_.e1, m3.keys_.e2, m3.keys_.e3, m3.keys_.e4, m3.keys_.e5, m3.keys_.e6, m3.keys_.e7] : List Int) x2) (fun (y30 : Int) => some ((y30 != 0)))) else (some (false))) (fun x => F.law13_shred.r1 x2 m3 r21 x))))
set_option maxRecDepth 100000 in
set_option maxHeartbeats 4000000 in
theorem c_law13_shred (I : Hl) (x2 : Int) (m0 : keyring_Ring) (m1 : guard_Guard) (m2 : disk_Disk) (m3 : law13_plain) (b0 : Nat) (b1 : Nat) (p0 : Option Addr) (c0 : Nat) (p1 : Nat) (b2 : Nat) (b3 : Nat) (res : Int × Int × keyring_Ring × disk_Disk × law13_plain) (hF : F.law13_shred x2 m0 m1 m2 m3 = some res) : Tr Tryz.prog 8 [.pointer (some ⟨b0, 0, none⟩), .pointer (some ⟨b3, 0, none⟩), .int .i64 x2] [imm I, pt b0 #[.pointer (some ⟨b1, 0, none⟩), .int .i64 m0.base_, .int .i64 m0.slots_, .int .i64 m0.shred_] 78, pt b1 #[.pointer (some ⟨b2, 0, none⟩), .int .i64 m1.boot_, .int .i64 m1.n_] 75, pt b2 #[.slice p0 m2.sure_.length c0, .map (some p1), .bool m2.off_, .bool m2.armed_, .int .i64 m2.left_, .int .u64 m2.fall_.Keep, .int .i64 m2.fall_.Tear, .int .i64 m2.acts_, .int .i64 m2.falls_] 52, pt b3 #[.int .i64 m3.keys_.e0, .int .i64 m3.keys_.e1, .int .i64 m3.keys_.e2, .int .i64 m3.keys_.e3, .int .i64 m3.keys_.e4, .int .i64 m3.keys_.e5, .int .i64 m3.keys_.e6, .int .i64 m3.keys_.e7, .int .i64 m3.boot_, .int .i64 m3.shred_] 30, own e_disk_sector 55 p0 c0 m2.sure_, mpo (kInt .i64) (fun x : disk_sector => Value.agg #[.string x.s_, .int .i64 x.at_]) p1 m2.wait_] (fun r H' => ∃ (pq1 : Option Addr), ∃ (cq2 : Nat), ∃ (bq4 : Nat), r = .tuple #[.int .i64 res.1, .int .i64 res.2.1] ∧ H' = [imm I, pt b0 #[.pointer (some ⟨b1, 0, none⟩), .int .i64 res.2.2.1.base_, .int .i64 res.2.2.1.slots_, .int .i64 res.2.2.1.shred_] 78, pt b1 #[.pointer (some ⟨b2, 0, none⟩), .int .i64 m1.boot_, .int .i64 m1.n_] 75, pt b2 #[.slice pq1 res.2.2.2.1.sure_.length cq2, .map (some bq4), .bool res.2.2.2.1.off_, .bool res.2.2.2.1.armed_, .int .i64 res.2.2.2.1.left_, .int .u64 res.2.2.2.1.fall_.Keep, .int .i64 res.2.2.2.1.fall_.Tear, .int .i64 res.2.2.2.1.acts_, .int .i64 res.2.2.2.1.falls_] 52, pt b3 #[.int .i64 res.2.2.2.2.keys_.e0, .int .i64 res.2.2.2.2.keys_.e1, .int .i64 res.2.2.2.2.keys_.e2, .int .i64 res.2.2.2.2.keys_.e3, .int .i64 res.2.2.2.2.keys_.e4, .int .i64 res.2.2.2.2.keys_.e5, .int .i64 res.2.2.2.2.keys_.e6, .int .i64 res.2.2.2.2.keys_.e7, .int .i64 res.2.2.2.2.boot_, .int .i64 res.2.2.2.2.shred_] 30, own e_disk_sector 55 pq1 cq2 res.2.2.2.1.sure_, mpo (kInt .i64) (fun x : disk_sector => Value.agg #[.string x.s_, .int .i64 x.at_]) bq4 res.2.2.2.1.wait_]) := by
  unfold F.law13_shred at hF
  refine tr_of_cw (fn := Tryz.f8) Tryz.func8 rfl (Nat.le_of_ble_eq_true rfl) 41 rfl fun F0 w0 => ?_
  refine cw_keep [0, 1, 2] (L' := [(0, .pointer (some ⟨b0, 0, none⟩)), (1, .pointer (some ⟨b3, 0, none⟩)), (2, .int .i64 x2)]) rfl ?_
  refine cw_state (S' := SAT w0 ([imm I, pt b0 #[.pointer (some ⟨b1, 0, none⟩), .int .i64 m0.base_, .int .i64 m0.slots_, .int .i64 m0.shred_] 78, pt b1 #[.pointer (some ⟨b2, 0, none⟩), .int .i64 m1.boot_, .int .i64 m1.n_] 75, pt b2 #[.slice p0 m2.sure_.length c0, .map (some p1), .bool m2.off_, .bool m2.armed_, .int .i64 m2.left_, .int .u64 m2.fall_.Keep, .int .i64 m2.fall_.Tear, .int .i64 m2.acts_, .int .i64 m2.falls_] 52, pt b3 #[.int .i64 m3.keys_.e0, .int .i64 m3.keys_.e1, .int .i64 m3.keys_.e2, .int .i64 m3.keys_.e3, .int .i64 m3.keys_.e4, .int .i64 m3.keys_.e5, .int .i64 m3.keys_.e6, .int .i64 m3.keys_.e7, .int .i64 m3.boot_, .int .i64 m3.shred_] 30, own e_disk_sector 55 p0 c0 m2.sure_, mpo (kInt .i64) (fun x : disk_sector => Value.agg #[.string x.s_, .int .i64 x.at_]) p1 m2.wait_] ++ F0)) (fun w hs => hs) ?_
  refine cw_seq ?_
  refine cw_region ?_
  refine ow_vals 2 (j := 2) [0, 1, 2] [(0, .pointer (some ⟨b0, 0, none⟩)), (1, .pointer (some ⟨b3, 0, none⟩)), (2, .int .i64 x2)] rfl (by kernel_rfl) ?_
  refine ow_end rfl ?_
  refine ew_then ?_
  refine cw_seq ?_
  refine cw_region ?_
  refine ow_vals 2 (j := 2) [1, 2, 9, 10] [(1, .pointer (some ⟨b3, 0, none⟩)), (2, .int .i64 x2), (9, .pointer (some ⟨b0, 0, none⟩)), (10, .int .i64 x2)] rfl (by kernel_rfl) ?_
  obtain ⟨r21, h22, hF⟩ := bind_some hF
  refine ow_pw rfl (pw_call (F := [pt b3 #[.int .i64 m3.keys_.e0, .int .i64 m3.keys_.e1, .int .i64 m3.keys_.e2, .int .i64 m3.keys_.e3, .int .i64 m3.keys_.e4, .int .i64 m3.keys_.e5, .int .i64 m3.keys_.e6, .int .i64 m3.keys_.e7, .int .i64 m3.boot_, .int .i64 m3.shred_] 30] ++ F0) rfl rfl rfl rfl rfl rfl rfl (by kernel_rfl) (perm_of_pulls [0, 0, 0, 0, 1, 1] rfl) (c_keyring_Ring_Shred _ x2 m0 m1 m2 b0 b1 p0 c0 p1 b2 r21 h22) ?_)
  rintro _ _ ⟨r21_p1, r21_c2, r21_b4, rfl, rfl⟩
  refine nw_H (H' := [imm I, pt b0 #[.pointer (some ⟨b1, 0, none⟩), .int .i64 r21.2.1.base_, .int .i64 r21.2.1.slots_, .int .i64 r21.2.1.shred_] 78, pt b1 #[.pointer (some ⟨b2, 0, none⟩), .int .i64 m1.boot_, .int .i64 m1.n_] 75, pt b2 #[.slice r21_p1 r21.2.2.sure_.length r21_c2, .map (some r21_b4), .bool r21.2.2.off_, .bool r21.2.2.armed_, .int .i64 r21.2.2.left_, .int .u64 r21.2.2.fall_.Keep, .int .i64 r21.2.2.fall_.Tear, .int .i64 r21.2.2.acts_, .int .i64 r21.2.2.falls_] 52, own e_disk_sector 55 r21_p1 r21_c2 r21.2.2.sure_, mpo (kInt .i64) (fun x : disk_sector => Value.agg #[.string x.s_, .int .i64 x.at_]) r21_b4 r21.2.2.wait_, pt b3 #[.int .i64 m3.keys_.e0, .int .i64 m3.keys_.e1, .int .i64 m3.keys_.e2, .int .i64 m3.keys_.e3, .int .i64 m3.keys_.e4, .int .i64 m3.keys_.e5, .int .i64 m3.keys_.e6, .int .i64 m3.keys_.e7, .int .i64 m3.boot_, .int .i64 m3.shred_] 30] ++ F0) rfl (nw_ow ?_)
  refine ow_vals 1 (j := 4) [1, 2, 8] [(1, .pointer (some ⟨b3, 0, none⟩)), (2, .int .i64 x2), (8, .int .i64 r21.1)] rfl (by kernel_rfl) ?_
  refine ow_end rfl ?_
  refine ew_then ?_
  refine cw_seq ?_
  refine cw_seq ?_
  refine cw_region ?_
  refine ow_vals 1 (j := 1) [1, 2, 8, 12] [(1, .pointer (some ⟨b3, 0, none⟩)), (2, .int .i64 x2), (8, .int .i64 r21.1), (12, .int .i64 x2)] rfl (by kernel_rfl) ?_
  obtain ⟨r25, h26, hF⟩ := bind_some hF
  refine ow_pw rfl (pw_call (F := [pt b0 #[.pointer (some ⟨b1, 0, none⟩), .int .i64 r21.2.1.base_, .int .i64 r21.2.1.slots_, .int .i64 r21.2.1.shred_] 78, pt b1 #[.pointer (some ⟨b2, 0, none⟩), .int .i64 m1.boot_, .int .i64 m1.n_] 75, pt b2 #[.slice r21_p1 r21.2.2.sure_.length r21_c2, .map (some r21_b4), .bool r21.2.2.off_, .bool r21.2.2.armed_, .int .i64 r21.2.2.left_, .int .u64 r21.2.2.fall_.Keep, .int .i64 r21.2.2.fall_.Tear, .int .i64 r21.2.2.acts_, .int .i64 r21.2.2.falls_] 52, own e_disk_sector 55 r21_p1 r21_c2 r21.2.2.sure_, mpo (kInt .i64) (fun x : disk_sector => Value.agg #[.string x.s_, .int .i64 x.at_]) r21_b4 r21.2.2.wait_, pt b3 #[.int .i64 m3.keys_.e0, .int .i64 m3.keys_.e1, .int .i64 m3.keys_.e2, .int .i64 m3.keys_.e3, .int .i64 m3.keys_.e4, .int .i64 m3.keys_.e5, .int .i64 m3.keys_.e6, .int .i64 m3.keys_.e7, .int .i64 m3.boot_, .int .i64 m3.shred_] 30] ++ F0) rfl rfl rfl rfl rfl rfl rfl (by kernel_rfl) (perm_of_pulls [0] rfl) (c_law13_in _ x2 r25 h26) ?_)
  rintro _ _ ⟨rfl, rfl⟩
  refine nw_H (H' := [imm I, pt b0 #[.pointer (some ⟨b1, 0, none⟩), .int .i64 r21.2.1.base_, .int .i64 r21.2.1.slots_, .int .i64 r21.2.1.shred_] 78, pt b1 #[.pointer (some ⟨b2, 0, none⟩), .int .i64 m1.boot_, .int .i64 m1.n_] 75, pt b2 #[.slice r21_p1 r21.2.2.sure_.length r21_c2, .map (some r21_b4), .bool r21.2.2.off_, .bool r21.2.2.armed_, .int .i64 r21.2.2.left_, .int .u64 r21.2.2.fall_.Keep, .int .i64 r21.2.2.fall_.Tear, .int .i64 r21.2.2.acts_, .int .i64 r21.2.2.falls_] 52, own e_disk_sector 55 r21_p1 r21_c2 r21.2.2.sure_, mpo (kInt .i64) (fun x : disk_sector => Value.agg #[.string x.s_, .int .i64 x.at_]) r21_b4 r21.2.2.wait_, pt b3 #[.int .i64 m3.keys_.e0, .int .i64 m3.keys_.e1, .int .i64 m3.keys_.e2, .int .i64 m3.keys_.e3, .int .i64 m3.keys_.e4, .int .i64 m3.keys_.e5, .int .i64 m3.keys_.e6, .int .i64 m3.keys_.e7, .int .i64 m3.boot_, .int .i64 m3.shred_] 30] ++ F0) rfl (nw_ow ?_)
  refine ow_vals 1 (j := 3) [1, 2, 8, 14] [(1, .pointer (some ⟨b3, 0, none⟩)), (2, .int .i64 x2), (8, .int .i64 r21.1), (14, .bool (!r25))] rfl (by kernel_rfl) ?_
  refine ow_end rfl ?_
  refine ew_then ?_
  rcases if_some hF with ⟨h27, hF⟩ | ⟨h27, hF⟩
  · refine cw_cond_t rfl rfl h27 ?_
    refine cw_seq ?_
    refine cw_region ?_
    refine ow_vals 3 (j := 3) [6, 7] [(6, .int .i64 r21.1), (7, .int .i64 5)] rfl (by kernel_rfl) ?_
    refine ow_end rfl ?_
    refine ew_then ?_
    refine cw_ret ?_
    refine ew_then_ret ?_
    have hR := Option.some.inj hF
    subst hR
    exact fin2 (H1 := [imm I, pt b0 #[.pointer (some ⟨b1, 0, none⟩), .int .i64 r21.2.1.base_, .int .i64 r21.2.1.slots_, .int .i64 r21.2.1.shred_] 78, pt b1 #[.pointer (some ⟨b2, 0, none⟩), .int .i64 m1.boot_, .int .i64 m1.n_] 75, pt b2 #[.slice r21_p1 r21.2.2.sure_.length r21_c2, .map (some r21_b4), .bool r21.2.2.off_, .bool r21.2.2.armed_, .int .i64 r21.2.2.left_, .int .u64 r21.2.2.fall_.Keep, .int .i64 r21.2.2.fall_.Tear, .int .i64 r21.2.2.acts_, .int .i64 r21.2.2.falls_] 52, pt b3 #[.int .i64 m3.keys_.e0, .int .i64 m3.keys_.e1, .int .i64 m3.keys_.e2, .int .i64 m3.keys_.e3, .int .i64 m3.keys_.e4, .int .i64 m3.keys_.e5, .int .i64 m3.keys_.e6, .int .i64 m3.keys_.e7, .int .i64 m3.boot_, .int .i64 m3.shred_] 30, own e_disk_sector 55 r21_p1 r21_c2 r21.2.2.sure_, mpo (kInt .i64) (fun x : disk_sector => Value.agg #[.string x.s_, .int .i64 x.at_]) r21_b4 r21.2.2.wait_]) (fun w hs => sat_to [0, 0, 0, 0, 2, 0, 0] 0 rfl hs) rfl (rr_tmp rfl) (rr_tmp rfl) ⟨r21_p1, r21_c2, r21_b4, rfl, rfl⟩
  refine cw_cond_f rfl rfl h27 ?_
  refine cw_skip ?_
  refine ew_then ?_
  refine cw_seq ?_
  obtain ⟨v28, hF, hK28⟩ := bind_some hF
  refine cw_mid (fun a w => ∃ (x32 : Bool), x32 = v28 ∧ Fr 41 [(1, .pointer (some ⟨b3, 0, none⟩)), (2, .int .i64 x2), (8, .int .i64 r21.1), (26, .bool x32)] a ∧ SAT w0 ([imm I, pt b0 #[.pointer (some ⟨b1, 0, none⟩), .int .i64 r21.2.1.base_, .int .i64 r21.2.1.slots_, .int .i64 r21.2.1.shred_] 78, pt b1 #[.pointer (some ⟨b2, 0, none⟩), .int .i64 m1.boot_, .int .i64 m1.n_] 75, pt b2 #[.slice r21_p1 r21.2.2.sure_.length r21_c2, .map (some r21_b4), .bool r21.2.2.off_, .bool r21.2.2.armed_, .int .i64 r21.2.2.left_, .int .u64 r21.2.2.fall_.Keep, .int .i64 r21.2.2.fall_.Tear, .int .i64 r21.2.2.acts_, .int .i64 r21.2.2.falls_] 52, pt b3 #[.int .i64 m3.keys_.e0, .int .i64 m3.keys_.e1, .int .i64 m3.keys_.e2, .int .i64 m3.keys_.e3, .int .i64 m3.keys_.e4, .int .i64 m3.keys_.e5, .int .i64 m3.keys_.e6, .int .i64 m3.keys_.e7, .int .i64 m3.boot_, .int .i64 m3.shred_] 30, own e_disk_sector 55 r21_p1 r21_c2 r21.2.2.sure_, mpo (kInt .i64) (fun x : disk_sector => Value.agg #[.string x.s_, .int .i64 x.at_]) r21_b4 r21.2.2.wait_] ++ F0) w) ?_ ?_
  · refine cw_region ?_
    refine ow_vals 3 (j := 3) [1, 2, 8, 18] [(1, .pointer (some ⟨b3, 0, none⟩)), (2, .int .i64 x2), (8, .int .i64 r21.1), (18, .bool (r21.1 == 0))] rfl (by kernel_rfl) ?_
    rcases if_some hF with ⟨h29, hF⟩ | ⟨h29, hF⟩
    · refine ow_slots (L' := [(1, .pointer (some ⟨b3, 0, none⟩)), (2, .int .i64 x2), (8, .int .i64 r21.1), (18, .bool true)]) (by rw [h29]) ?_
      refine ow_vals 4 (j := 7) [1, 2, 8, 18, 20, 22] [(1, .pointer (some ⟨b3, 0, none⟩)), (2, .int .i64 x2), (8, .int .i64 r21.1), (18, .bool true), (20, .int .i64 x2), (22, .pointer (some ⟨b3, 0, none⟩))] rfl (by kernel_rfl) ?_
      obtain ⟨y30, h31, hF⟩ := bind_some hF
      refine ow_pw rfl (pw_quiet (v := .pointer (some ((⟨b3, 0, none⟩ : Addr).add (x2.toNat * 1)))) rfl rfl rfl rfl (q_index_objel (l := ([m3.keys_.e0, m3.keys_.e1, m3.keys_.e2, m3.keys_.e3, m3.keys_.e4, m3.keys_.e5, m3.keys_.e6, m3.keys_.e7] : List Int)) (m := 8) (E := 3) (sz := 1) (tot := 8) rfl (by kernel_rfl) rfl rfl rfl h31) (nw_ow ?_))
      refine ow_pw rfl (pw_quiet (v := .int .i64 y30) rfl rfl rfl rfl (q_load_objel (e := (eInt .i64)) (l := ([m3.keys_.e0, m3.keys_.e1, m3.keys_.e2, m3.keys_.e3, m3.keys_.e4, m3.keys_.e5, m3.keys_.e6, m3.keys_.e7] : List Int)) 6 ([] : List Go.Value) ([.int .i64 m3.boot_, .int .i64 m3.shred_] : List Go.Value) rfl rfl rfl rfl rfl (by kernel_rfl) rfl h31 rfl) (nw_ow ?_))
      refine ow_vals 2 (j := 11) [1, 2, 8, 26] [(1, .pointer (some ⟨b3, 0, none⟩)), (2, .int .i64 x2), (8, .int .i64 r21.1), (26, .bool (y30 != 0))] rfl (by kernel_rfl) ?_
      refine ow_end rfl ?_
      have hR := Option.some.inj hF
      exact fun a w hf hs => ⟨y30 != 0, hR, hf.keep [1, 2, 8, 26], sat_to [0, 0, 0, 0, 2, 0, 0] 0 rfl hs⟩
    refine ow_slots (L' := [(1, .pointer (some ⟨b3, 0, none⟩)), (2, .int .i64 x2), (8, .int .i64 r21.1), (18, .bool false)]) (by rw [h29]) ?_
    refine ow_vals 8 (j := 11) [1, 2, 8, 26] [(1, .pointer (some ⟨b3, 0, none⟩)), (2, .int .i64 x2), (8, .int .i64 r21.1), (26, .bool false)] rfl (by kernel_rfl) ?_
    refine ow_end rfl ?_
    have hR := Option.some.inj hF
    exact fun a w hf hs => ⟨false, hR, hf.keep [1, 2, 8, 26], sat_to [0, 0, 0, 0, 2, 0, 0] 0 rfl hs⟩
  rintro a w ⟨x32, hv, hf, hs⟩
  subst hv
  replace hF := hK28
  clear hK28
  try dsimp only at hF
  revert a w
  show CW _ _ _ 41 [(1, .pointer (some ⟨b3, 0, none⟩)), (2, .int .i64 x2), (8, .int .i64 r21.1), (26, .bool x32)] (SAT w0 ([imm I, pt b0 #[.pointer (some ⟨b1, 0, none⟩), .int .i64 r21.2.1.base_, .int .i64 r21.2.1.slots_, .int .i64 r21.2.1.shred_] 78, pt b1 #[.pointer (some ⟨b2, 0, none⟩), .int .i64 m1.boot_, .int .i64 m1.n_] 75, pt b2 #[.slice r21_p1 r21.2.2.sure_.length r21_c2, .map (some r21_b4), .bool r21.2.2.off_, .bool r21.2.2.armed_, .int .i64 r21.2.2.left_, .int .u64 r21.2.2.fall_.Keep, .int .i64 r21.2.2.fall_.Tear, .int .i64 r21.2.2.acts_, .int .i64 r21.2.2.falls_] 52, pt b3 #[.int .i64 m3.keys_.e0, .int .i64 m3.keys_.e1, .int .i64 m3.keys_.e2, .int .i64 m3.keys_.e3, .int .i64 m3.keys_.e4, .int .i64 m3.keys_.e5, .int .i64 m3.keys_.e6, .int .i64 m3.keys_.e7, .int .i64 m3.boot_, .int .i64 m3.shred_] 30, own e_disk_sector 55 r21_p1 r21_c2 r21.2.2.sure_, mpo (kInt .i64) (fun x : disk_sector => Value.agg #[.string x.s_, .int .i64 x.at_]) r21_b4 r21.2.2.wait_] ++ F0))
  unfold F.law13_shred.r1 at hF
  rcases if_some hF with ⟨h33, hF⟩ | ⟨h33, hF⟩
  · refine cw_cond_t rfl rfl h33 ?_
    refine cw_seq ?_
    refine cw_region ?_
    refine ow_vals 4 (j := 4) [1, 8, 28, 30] [(1, .pointer (some ⟨b3, 0, none⟩)), (8, .int .i64 r21.1), (28, .int .i64 x2), (30, .pointer (some ⟨b3, 0, none⟩))] rfl (by kernel_rfl) ?_
    obtain ⟨y34, h35, hF⟩ := bind_some hF
    refine ow_pw rfl (pw_quiet (v := .pointer (some ((⟨b3, 0, none⟩ : Addr).add (x2.toNat * 1)))) rfl rfl rfl rfl (q_index_objel (l := ([m3.keys_.e0, m3.keys_.e1, m3.keys_.e2, m3.keys_.e3, m3.keys_.e4, m3.keys_.e5, m3.keys_.e6, m3.keys_.e7] : List Int)) (m := 8) (E := 3) (sz := 1) (tot := 8) rfl (by kernel_rfl) rfl rfl rfl h35) (nw_ow ?_))
    refine ow_pw rfl (pw_store_objel (e := (eInt .i64)) (l := ([m3.keys_.e0, m3.keys_.e1, m3.keys_.e2, m3.keys_.e3, m3.keys_.e4, m3.keys_.e5, m3.keys_.e6, m3.keys_.e7] : List Int)) (z' := 0) (C' := #[.int .i64 (if x2.toNat = 0 then 0 else m3.keys_.e0), .int .i64 (if x2.toNat = 1 then 0 else m3.keys_.e1), .int .i64 (if x2.toNat = 2 then 0 else m3.keys_.e2), .int .i64 (if x2.toNat = 3 then 0 else m3.keys_.e3), .int .i64 (if x2.toNat = 4 then 0 else m3.keys_.e4), .int .i64 (if x2.toNat = 5 then 0 else m3.keys_.e5), .int .i64 (if x2.toNat = 6 then 0 else m3.keys_.e6), .int .i64 (if x2.toNat = 7 then 0 else m3.keys_.e7), .int .i64 m3.boot_, .int .i64 m3.shred_]) 4 ([] : List Go.Value) ([.int .i64 m3.boot_, .int .i64 m3.shred_] : List Go.Value) rfl rfl rfl rfl rfl rfl rfl rfl rfl rfl (by kernel_rfl) rfl rfl rfl h35 rfl (nw_H (H' := [imm I, pt b0 #[.pointer (some ⟨b1, 0, none⟩), .int .i64 r21.2.1.base_, .int .i64 r21.2.1.slots_, .int .i64 r21.2.1.shred_] 78, pt b1 #[.pointer (some ⟨b2, 0, none⟩), .int .i64 m1.boot_, .int .i64 m1.n_] 75, pt b2 #[.slice r21_p1 r21.2.2.sure_.length r21_c2, .map (some r21_b4), .bool r21.2.2.off_, .bool r21.2.2.armed_, .int .i64 r21.2.2.left_, .int .u64 r21.2.2.fall_.Keep, .int .i64 r21.2.2.fall_.Tear, .int .i64 r21.2.2.acts_, .int .i64 r21.2.2.falls_] 52, pt b3 #[.int .i64 (if x2.toNat = 0 then 0 else m3.keys_.e0), .int .i64 (if x2.toNat = 1 then 0 else m3.keys_.e1), .int .i64 (if x2.toNat = 2 then 0 else m3.keys_.e2), .int .i64 (if x2.toNat = 3 then 0 else m3.keys_.e3), .int .i64 (if x2.toNat = 4 then 0 else m3.keys_.e4), .int .i64 (if x2.toNat = 5 then 0 else m3.keys_.e5), .int .i64 (if x2.toNat = 6 then 0 else m3.keys_.e6), .int .i64 (if x2.toNat = 7 then 0 else m3.keys_.e7), .int .i64 m3.boot_, .int .i64 m3.shred_] 30, own e_disk_sector 55 r21_p1 r21_c2 r21.2.2.sure_, mpo (kInt .i64) (fun x : disk_sector => Value.agg #[.string x.s_, .int .i64 x.at_]) r21_b4 r21.2.2.wait_] ++ F0) rfl (nw_ow ?_)))
    refine ow_end rfl ?_
    refine ew_then ?_
    refine cw_region ?_
    refine ow_vals 4 (j := 4) [8, 32, 35] [(8, .int .i64 r21.1), (32, .pointer (some ⟨b3, 0, none⟩)), (35, .pointer (some ⟨b3, 9, none⟩))] rfl (by kernel_rfl) ?_
    refine ow_pw rfl (pw_quiet (v := .int .i64 m3.shred_) rfl rfl rfl rfl (q_load 4 rfl rfl rfl (by kernel_rfl)) (nw_ow ?_))
    refine ow_vals 3 (j := 8) [8, 37, 39] [(8, .int .i64 r21.1), (37, .int .i64 (IntKind.i64.wrap (m3.shred_ + 1))), (39, .pointer (some ⟨b3, 9, none⟩))] rfl (by kernel_rfl) ?_
    refine ow_pw rfl (pw_store 4 #[.int .i64 (if x2.toNat = 0 then 0 else m3.keys_.e0), .int .i64 (if x2.toNat = 1 then 0 else m3.keys_.e1), .int .i64 (if x2.toNat = 2 then 0 else m3.keys_.e2), .int .i64 (if x2.toNat = 3 then 0 else m3.keys_.e3), .int .i64 (if x2.toNat = 4 then 0 else m3.keys_.e4), .int .i64 (if x2.toNat = 5 then 0 else m3.keys_.e5), .int .i64 (if x2.toNat = 6 then 0 else m3.keys_.e6), .int .i64 (if x2.toNat = 7 then 0 else m3.keys_.e7), .int .i64 m3.boot_, .int .i64 (IntKind.i64.wrap (m3.shred_ + 1))] rfl rfl rfl rfl rfl rfl rfl (by kernel_rfl) (nw_H (H' := [imm I, pt b0 #[.pointer (some ⟨b1, 0, none⟩), .int .i64 r21.2.1.base_, .int .i64 r21.2.1.slots_, .int .i64 r21.2.1.shred_] 78, pt b1 #[.pointer (some ⟨b2, 0, none⟩), .int .i64 m1.boot_, .int .i64 m1.n_] 75, pt b2 #[.slice r21_p1 r21.2.2.sure_.length r21_c2, .map (some r21_b4), .bool r21.2.2.off_, .bool r21.2.2.armed_, .int .i64 r21.2.2.left_, .int .u64 r21.2.2.fall_.Keep, .int .i64 r21.2.2.fall_.Tear, .int .i64 r21.2.2.acts_, .int .i64 r21.2.2.falls_] 52, pt b3 #[.int .i64 (if x2.toNat = 0 then 0 else m3.keys_.e0), .int .i64 (if x2.toNat = 1 then 0 else m3.keys_.e1), .int .i64 (if x2.toNat = 2 then 0 else m3.keys_.e2), .int .i64 (if x2.toNat = 3 then 0 else m3.keys_.e3), .int .i64 (if x2.toNat = 4 then 0 else m3.keys_.e4), .int .i64 (if x2.toNat = 5 then 0 else m3.keys_.e5), .int .i64 (if x2.toNat = 6 then 0 else m3.keys_.e6), .int .i64 (if x2.toNat = 7 then 0 else m3.keys_.e7), .int .i64 m3.boot_, .int .i64 (IntKind.i64.wrap (m3.shred_ + 1))] 30, own e_disk_sector 55 r21_p1 r21_c2 r21.2.2.sure_, mpo (kInt .i64) (fun x : disk_sector => Value.agg #[.string x.s_, .int .i64 x.at_]) r21_b4 r21.2.2.wait_] ++ F0) rfl (nw_ow ?_)))
    refine ow_end rfl ?_
    refine ew_then ?_
    refine cw_seq ?_
    refine cw_region ?_
    refine ow_vals 3 (j := 3) [6, 7] [(6, .int .i64 r21.1), (7, .int .i64 0)] rfl (by kernel_rfl) ?_
    refine ow_end rfl ?_
    refine ew_then ?_
    refine cw_ret ?_
    have hR := Option.some.inj hF
    subst hR
    exact fin2 (H1 := [imm I, pt b0 #[.pointer (some ⟨b1, 0, none⟩), .int .i64 r21.2.1.base_, .int .i64 r21.2.1.slots_, .int .i64 r21.2.1.shred_] 78, pt b1 #[.pointer (some ⟨b2, 0, none⟩), .int .i64 m1.boot_, .int .i64 m1.n_] 75, pt b2 #[.slice r21_p1 r21.2.2.sure_.length r21_c2, .map (some r21_b4), .bool r21.2.2.off_, .bool r21.2.2.armed_, .int .i64 r21.2.2.left_, .int .u64 r21.2.2.fall_.Keep, .int .i64 r21.2.2.fall_.Tear, .int .i64 r21.2.2.acts_, .int .i64 r21.2.2.falls_] 52, pt b3 #[.int .i64 (((⟨(⟨if x2.toNat = 0 then 0 else m3.keys_.e0, if x2.toNat = 1 then 0 else m3.keys_.e1, if x2.toNat = 2 then 0 else m3.keys_.e2, if x2.toNat = 3 then 0 else m3.keys_.e3, if x2.toNat = 4 then 0 else m3.keys_.e4, if x2.toNat = 5 then 0 else m3.keys_.e5, if x2.toNat = 6 then 0 else m3.keys_.e6, if x2.toNat = 7 then 0 else m3.keys_.e7⟩ : A8_Inti64), m3.boot_, IntKind.i64.wrap (m3.shred_ + 1)⟩ : law13_plain).keys_).e0), .int .i64 (((⟨(⟨if x2.toNat = 0 then 0 else m3.keys_.e0, if x2.toNat = 1 then 0 else m3.keys_.e1, if x2.toNat = 2 then 0 else m3.keys_.e2, if x2.toNat = 3 then 0 else m3.keys_.e3, if x2.toNat = 4 then 0 else m3.keys_.e4, if x2.toNat = 5 then 0 else m3.keys_.e5, if x2.toNat = 6 then 0 else m3.keys_.e6, if x2.toNat = 7 then 0 else m3.keys_.e7⟩ : A8_Inti64), m3.boot_, IntKind.i64.wrap (m3.shred_ + 1)⟩ : law13_plain).keys_).e1), .int .i64 (((⟨(⟨if x2.toNat = 0 then 0 else m3.keys_.e0, if x2.toNat = 1 then 0 else m3.keys_.e1, if x2.toNat = 2 then 0 else m3.keys_.e2, if x2.toNat = 3 then 0 else m3.keys_.e3, if x2.toNat = 4 then 0 else m3.keys_.e4, if x2.toNat = 5 then 0 else m3.keys_.e5, if x2.toNat = 6 then 0 else m3.keys_.e6, if x2.toNat = 7 then 0 else m3.keys_.e7⟩ : A8_Inti64), m3.boot_, IntKind.i64.wrap (m3.shred_ + 1)⟩ : law13_plain).keys_).e2), .int .i64 (((⟨(⟨if x2.toNat = 0 then 0 else m3.keys_.e0, if x2.toNat = 1 then 0 else m3.keys_.e1, if x2.toNat = 2 then 0 else m3.keys_.e2, if x2.toNat = 3 then 0 else m3.keys_.e3, if x2.toNat = 4 then 0 else m3.keys_.e4, if x2.toNat = 5 then 0 else m3.keys_.e5, if x2.toNat = 6 then 0 else m3.keys_.e6, if x2.toNat = 7 then 0 else m3.keys_.e7⟩ : A8_Inti64), m3.boot_, IntKind.i64.wrap (m3.shred_ + 1)⟩ : law13_plain).keys_).e3), .int .i64 (((⟨(⟨if x2.toNat = 0 then 0 else m3.keys_.e0, if x2.toNat = 1 then 0 else m3.keys_.e1, if x2.toNat = 2 then 0 else m3.keys_.e2, if x2.toNat = 3 then 0 else m3.keys_.e3, if x2.toNat = 4 then 0 else m3.keys_.e4, if x2.toNat = 5 then 0 else m3.keys_.e5, if x2.toNat = 6 then 0 else m3.keys_.e6, if x2.toNat = 7 then 0 else m3.keys_.e7⟩ : A8_Inti64), m3.boot_, IntKind.i64.wrap (m3.shred_ + 1)⟩ : law13_plain).keys_).e4), .int .i64 (((⟨(⟨if x2.toNat = 0 then 0 else m3.keys_.e0, if x2.toNat = 1 then 0 else m3.keys_.e1, if x2.toNat = 2 then 0 else m3.keys_.e2, if x2.toNat = 3 then 0 else m3.keys_.e3, if x2.toNat = 4 then 0 else m3.keys_.e4, if x2.toNat = 5 then 0 else m3.keys_.e5, if x2.toNat = 6 then 0 else m3.keys_.e6, if x2.toNat = 7 then 0 else m3.keys_.e7⟩ : A8_Inti64), m3.boot_, IntKind.i64.wrap (m3.shred_ + 1)⟩ : law13_plain).keys_).e5), .int .i64 (((⟨(⟨if x2.toNat = 0 then 0 else m3.keys_.e0, if x2.toNat = 1 then 0 else m3.keys_.e1, if x2.toNat = 2 then 0 else m3.keys_.e2, if x2.toNat = 3 then 0 else m3.keys_.e3, if x2.toNat = 4 then 0 else m3.keys_.e4, if x2.toNat = 5 then 0 else m3.keys_.e5, if x2.toNat = 6 then 0 else m3.keys_.e6, if x2.toNat = 7 then 0 else m3.keys_.e7⟩ : A8_Inti64), m3.boot_, IntKind.i64.wrap (m3.shred_ + 1)⟩ : law13_plain).keys_).e6), .int .i64 (((⟨(⟨if x2.toNat = 0 then 0 else m3.keys_.e0, if x2.toNat = 1 then 0 else m3.keys_.e1, if x2.toNat = 2 then 0 else m3.keys_.e2, if x2.toNat = 3 then 0 else m3.keys_.e3, if x2.toNat = 4 then 0 else m3.keys_.e4, if x2.toNat = 5 then 0 else m3.keys_.e5, if x2.toNat = 6 then 0 else m3.keys_.e6, if x2.toNat = 7 then 0 else m3.keys_.e7⟩ : A8_Inti64), m3.boot_, IntKind.i64.wrap (m3.shred_ + 1)⟩ : law13_plain).keys_).e7), .int .i64 ((⟨(⟨if x2.toNat = 0 then 0 else m3.keys_.e0, if x2.toNat = 1 then 0 else m3.keys_.e1, if x2.toNat = 2 then 0 else m3.keys_.e2, if x2.toNat = 3 then 0 else m3.keys_.e3, if x2.toNat = 4 then 0 else m3.keys_.e4, if x2.toNat = 5 then 0 else m3.keys_.e5, if x2.toNat = 6 then 0 else m3.keys_.e6, if x2.toNat = 7 then 0 else m3.keys_.e7⟩ : A8_Inti64), m3.boot_, IntKind.i64.wrap (m3.shred_ + 1)⟩ : law13_plain).boot_), .int .i64 ((⟨(⟨if x2.toNat = 0 then 0 else m3.keys_.e0, if x2.toNat = 1 then 0 else m3.keys_.e1, if x2.toNat = 2 then 0 else m3.keys_.e2, if x2.toNat = 3 then 0 else m3.keys_.e3, if x2.toNat = 4 then 0 else m3.keys_.e4, if x2.toNat = 5 then 0 else m3.keys_.e5, if x2.toNat = 6 then 0 else m3.keys_.e6, if x2.toNat = 7 then 0 else m3.keys_.e7⟩ : A8_Inti64), m3.boot_, IntKind.i64.wrap (m3.shred_ + 1)⟩ : law13_plain).shred_)] 30, own e_disk_sector 55 r21_p1 r21_c2 r21.2.2.sure_, mpo (kInt .i64) (fun x : disk_sector => Value.agg #[.string x.s_, .int .i64 x.at_]) r21_b4 r21.2.2.wait_]) (fun w hs => sat_to [0, 0, 0, 0, 0, 0, 0] 0 rfl hs) rfl (rr_tmp rfl) (rr_tmp rfl) ⟨r21_p1, r21_c2, r21_b4, rfl, rfl⟩
  refine cw_cond_f rfl rfl h33 ?_
  refine cw_skip ?_
  refine ew_then ?_
  refine cw_seq ?_
  refine cw_region ?_
  refine ow_vals 3 (j := 3) [6, 7] [(6, .int .i64 r21.1), (7, .int .i64 0)] rfl (by kernel_rfl) ?_
  refine ow_end rfl ?_
  refine ew_then ?_
  refine cw_ret ?_
  have hR := Option.some.inj hF
  subst hR
  exact fin2 (H1 := [imm I, pt b0 #[.pointer (some ⟨b1, 0, none⟩), .int .i64 r21.2.1.base_, .int .i64 r21.2.1.slots_, .int .i64 r21.2.1.shred_] 78, pt b1 #[.pointer (some ⟨b2, 0, none⟩), .int .i64 m1.boot_, .int .i64 m1.n_] 75, pt b2 #[.slice r21_p1 r21.2.2.sure_.length r21_c2, .map (some r21_b4), .bool r21.2.2.off_, .bool r21.2.2.armed_, .int .i64 r21.2.2.left_, .int .u64 r21.2.2.fall_.Keep, .int .i64 r21.2.2.fall_.Tear, .int .i64 r21.2.2.acts_, .int .i64 r21.2.2.falls_] 52, pt b3 #[.int .i64 m3.keys_.e0, .int .i64 m3.keys_.e1, .int .i64 m3.keys_.e2, .int .i64 m3.keys_.e3, .int .i64 m3.keys_.e4, .int .i64 m3.keys_.e5, .int .i64 m3.keys_.e6, .int .i64 m3.keys_.e7, .int .i64 m3.boot_, .int .i64 m3.shred_] 30, own e_disk_sector 55 r21_p1 r21_c2 r21.2.2.sure_, mpo (kInt .i64) (fun x : disk_sector => Value.agg #[.string x.s_, .int .i64 x.at_]) r21_b4 r21.2.2.wait_]) (fun w hs => sat_to [0, 0, 0, 0, 0, 0, 0] 0 rfl hs) rfl (rr_tmp rfl) (rr_tmp rfl) ⟨r21_p1, r21_c2, r21_b4, rfl, rfl⟩


def F.disk_Disk_Calm (m0 : disk_Disk) : Option disk_Disk :=
  some ((⟨m0.sure_, m0.wait_, m0.off_, false, m0.left_, m0.fall_, m0.acts_, m0.falls_⟩ : disk_Disk))
set_option maxRecDepth 100000 in
set_option maxHeartbeats 4000000 in
theorem c_disk_Disk_Calm (I : Hl) (m0 : disk_Disk) (p0 : Option Addr) (c0 : Nat) (p1 : Nat) (b0 : Nat) (res : disk_Disk) (hF : F.disk_Disk_Calm m0 = some res) : Tr Tryz.prog 9 [.pointer (some ⟨b0, 0, none⟩)] [imm I, pt b0 #[.slice p0 m0.sure_.length c0, .map (some p1), .bool m0.off_, .bool m0.armed_, .int .i64 m0.left_, .int .u64 m0.fall_.Keep, .int .i64 m0.fall_.Tear, .int .i64 m0.acts_, .int .i64 m0.falls_] 52, own e_disk_sector 55 p0 c0 m0.sure_, mpo (kInt .i64) (fun x : disk_sector => Value.agg #[.string x.s_, .int .i64 x.at_]) p1 m0.wait_] (fun r H' => ∃ (pq1 : Option Addr), ∃ (cq2 : Nat), ∃ (bq4 : Nat), r = .tuple #[] ∧ H' = [imm I, pt b0 #[.slice pq1 res.sure_.length cq2, .map (some bq4), .bool res.off_, .bool res.armed_, .int .i64 res.left_, .int .u64 res.fall_.Keep, .int .i64 res.fall_.Tear, .int .i64 res.acts_, .int .i64 res.falls_] 52, own e_disk_sector 55 pq1 cq2 res.sure_, mpo (kInt .i64) (fun x : disk_sector => Value.agg #[.string x.s_, .int .i64 x.at_]) bq4 res.wait_]) := by
  unfold F.disk_Disk_Calm at hF
  refine tr_of_cw (fn := Tryz.f9) Tryz.func9 rfl (Nat.le_of_ble_eq_true rfl) 7 rfl fun F0 w0 => ?_
  refine cw_keep [0] (L' := [(0, .pointer (some ⟨b0, 0, none⟩))]) rfl ?_
  refine cw_state (S' := SAT w0 ([imm I, pt b0 #[.slice p0 m0.sure_.length c0, .map (some p1), .bool m0.off_, .bool m0.armed_, .int .i64 m0.left_, .int .u64 m0.fall_.Keep, .int .i64 m0.fall_.Tear, .int .i64 m0.acts_, .int .i64 m0.falls_] 52, own e_disk_sector 55 p0 c0 m0.sure_, mpo (kInt .i64) (fun x : disk_sector => Value.agg #[.string x.s_, .int .i64 x.at_]) p1 m0.wait_] ++ F0)) (fun w hs => hs) ?_
  refine cw_seq ?_
  refine cw_region ?_
  refine ow_vals 2 (j := 2) [0, 3] [(0, .pointer (some ⟨b0, 0, none⟩)), (3, .bool true)] rfl (by kernel_rfl) ?_
  refine ow_end rfl ?_
  refine ew_then ?_
  refine cw_cond_t rfl rfl rfl ?_
  refine cw_region ?_
  refine ow_vals 3 (j := 3) [6] [(6, .pointer (some ⟨b0, 3, none⟩))] rfl (by kernel_rfl) ?_
  refine ow_pw rfl (pw_store 1 #[.slice p0 m0.sure_.length c0, .map (some p1), .bool m0.off_, .bool false, .int .i64 m0.left_, .int .u64 m0.fall_.Keep, .int .i64 m0.fall_.Tear, .int .i64 m0.acts_, .int .i64 m0.falls_] rfl rfl rfl rfl rfl rfl rfl (by kernel_rfl) (nw_H (H' := [imm I, pt b0 #[.slice p0 m0.sure_.length c0, .map (some p1), .bool m0.off_, .bool false, .int .i64 m0.left_, .int .u64 m0.fall_.Keep, .int .i64 m0.fall_.Tear, .int .i64 m0.acts_, .int .i64 m0.falls_] 52, own e_disk_sector 55 p0 c0 m0.sure_, mpo (kInt .i64) (fun x : disk_sector => Value.agg #[.string x.s_, .int .i64 x.at_]) p1 m0.wait_] ++ F0) rfl (nw_ow ?_)))
  refine ow_end rfl ?_
  have hR := Option.some.inj hF
  subst hR
  exact fin0n (H1 := [imm I, pt b0 #[.slice p0 ((⟨m0.sure_, m0.wait_, m0.off_, false, m0.left_, m0.fall_, m0.acts_, m0.falls_⟩ : disk_Disk).sure_).length c0, .map (some p1), .bool ((⟨m0.sure_, m0.wait_, m0.off_, false, m0.left_, m0.fall_, m0.acts_, m0.falls_⟩ : disk_Disk).off_), .bool ((⟨m0.sure_, m0.wait_, m0.off_, false, m0.left_, m0.fall_, m0.acts_, m0.falls_⟩ : disk_Disk).armed_), .int .i64 ((⟨m0.sure_, m0.wait_, m0.off_, false, m0.left_, m0.fall_, m0.acts_, m0.falls_⟩ : disk_Disk).left_), .int .u64 (((⟨m0.sure_, m0.wait_, m0.off_, false, m0.left_, m0.fall_, m0.acts_, m0.falls_⟩ : disk_Disk).fall_).Keep), .int .i64 (((⟨m0.sure_, m0.wait_, m0.off_, false, m0.left_, m0.fall_, m0.acts_, m0.falls_⟩ : disk_Disk).fall_).Tear), .int .i64 ((⟨m0.sure_, m0.wait_, m0.off_, false, m0.left_, m0.fall_, m0.acts_, m0.falls_⟩ : disk_Disk).acts_), .int .i64 ((⟨m0.sure_, m0.wait_, m0.off_, false, m0.left_, m0.fall_, m0.acts_, m0.falls_⟩ : disk_Disk).falls_)] 52, own e_disk_sector 55 p0 c0 ((⟨m0.sure_, m0.wait_, m0.off_, false, m0.left_, m0.fall_, m0.acts_, m0.falls_⟩ : disk_Disk).sure_), mpo (kInt .i64) (fun x : disk_sector => Value.agg #[.string x.s_, .int .i64 x.at_]) p1 ((⟨m0.sure_, m0.wait_, m0.off_, false, m0.left_, m0.fall_, m0.acts_, m0.falls_⟩ : disk_Disk).wait_)]) (fun w hs => sat_to [0, 0, 0, 0] 0 rfl hs) rfl  ⟨p0, c0, p1, rfl, rfl⟩


def F.keyring_Ring_Keep.l1 (x1 : List Int) (x26 : Int) (x27 : Int) (x28 : Int) (x29 : Int) (x30 : Int) (l31 : List disk_sector) (l35 : List (Int × disk_sector)) (x38 : Bool) (x39 : Bool) (x40 : Int) (x41 : Int) (x42 : Int) (x43 : Int) (x44 : Int) (x49 : Int) : Option ((Int) ⊕ ((Unit) ⊕ ((Int × Int × Int × Int × (List disk_sector) × (List (Int × disk_sector)) × Bool × Bool × Int × Int × Int × Int × Int) ⊕ ((Int × Int × Int × Int × Int × (List disk_sector) × (List (Int × disk_sector)) × Bool × Bool × Int × Int × Int × Int × Int) ⊕ ((Int × Int × Int × Int × (List disk_sector) × (List (Int × disk_sector)) × Bool × Bool × Int × Int × Int × Int × Int) ⊕ (Int × Int × keyring_Ring × disk_Disk)))))) :=
  if decide (x49 < (x1.length : Int)) then (Option.bind (at_ x1 x49) (fun (y51 : Int) => if y51 == x27 then (some (.inr (.inr (.inl (x26, x28, x29, x30, l31, l35, x38, x39, x40, x41, x42, x43, x44))))) else (some (.inl (IntKind.i64.wrap (x49 + 1)))))) else (some (.inr (.inl ())))
def F.keyring_Ring_Keep.r2 (m1 : guard_Guard) (x26 : Int) (x27 : Int) (x28 : Int) (x29 : Int) (x30 : Int) (l31 : List disk_sector) (l35 : List (Int × disk_sector)) (x38 : Bool) (x39 : Bool) (x40 : Int) (x41 : Int) (x42 : Int) (x43 : Int) (x44 : Int) : Option ((Int × Int × Int × Int × (List disk_sector) × (List (Int × disk_sector)) × Bool × Bool × Int × Int × Int × Int × Int) ⊕ ((Int × Int × Int × Int × Int × (List disk_sector) × (List (Int × disk_sector)) × Bool × Bool × Int × Int × Int × Int × Int) ⊕ ((Int × Int × Int × Int × (List disk_sector) × (List (Int × disk_sector)) × Bool × Bool × Int × Int × Int × Int × Int) ⊕ (Int × Int × keyring_Ring × disk_Disk)))) :=
  Option.bind (F.keyring_Ring_Free x27 (⟨x28, x29, x30⟩ : keyring_Ring) m1 (⟨l31, l35, x38, x39, x40, (⟨x41, x42⟩ : disk_Fall), x43, x44⟩ : disk_Disk)) (fun (r56 : Bool) => if r56 then (some (.inl (x26, (⟨x28, x29, x30⟩ : keyring_Ring).base_, (⟨x28, x29, x30⟩ : keyring_Ring).slots_, (⟨x28, x29, x30⟩ : keyring_Ring).shred_, (⟨l31, l35, x38, x39, x40, (⟨x41, x42⟩ : disk_Fall), x43, x44⟩ : disk_Disk).sure_, (⟨l31, l35, x38, x39, x40, (⟨x41, x42⟩ : disk_Fall), x43, x44⟩ : disk_Disk).wait_, (⟨l31, l35, x38, x39, x40, (⟨x41, x42⟩ : disk_Fall), x43, x44⟩ : disk_Disk).off_, (⟨l31, l35, x38, x39, x40, (⟨x41, x42⟩ : disk_Fall), x43, x44⟩ : disk_Disk).armed_, (⟨l31, l35, x38, x39, x40, (⟨x41, x42⟩ : disk_Fall), x43, x44⟩ : disk_Disk).left_, (⟨l31, l35, x38, x39, x40, (⟨x41, x42⟩ : disk_Fall), x43, x44⟩ : disk_Disk).fall_.Keep, (⟨l31, l35, x38, x39, x40, (⟨x41, x42⟩ : disk_Fall), x43, x44⟩ : disk_Disk).fall_.Tear, (⟨l31, l35, x38, x39, x40, (⟨x41, x42⟩ : disk_Fall), x43, x44⟩ : disk_Disk).acts_, (⟨l31, l35, x38, x39, x40, (⟨x41, x42⟩ : disk_Fall), x43, x44⟩ : disk_Disk).falls_))) else (Option.bind (F.keyring_Ring_Shred x27 (⟨x28, x29, x30⟩ : keyring_Ring) m1 (⟨l31, l35, x38, x39, x40, (⟨x41, x42⟩ : disk_Fall), x43, x44⟩ : disk_Disk)) (fun (r59 : Int × keyring_Ring × disk_Disk) => if r59.1 != 0 then (some (.inr (.inr (.inr ((0, r59.1, r59.2.1, r59.2.2)))))) else (some (.inl (IntKind.i64.wrap (x26 + 1), r59.2.1.base_, r59.2.1.slots_, r59.2.1.shred_, r59.2.2.sure_, r59.2.2.wait_, r59.2.2.off_, r59.2.2.armed_, r59.2.2.left_, r59.2.2.fall_.Keep, r59.2.2.fall_.Tear, r59.2.2.acts_, r59.2.2.falls_))))))
def F.keyring_Ring_Keep.r3 (x27 : Int) (x64 : Int) (x65 : Int) (x66 : Int) (x67 : Int) (l68 : List disk_sector) (l72 : List (Int × disk_sector)) (x75 : Bool) (x76 : Bool) (x77 : Int) (x78 : Int) (x79 : Int) (x80 : Int) (x81 : Int) : Option ((Int × Int × Int × Int × Int × (List disk_sector) × (List (Int × disk_sector)) × Bool × Bool × Int × Int × Int × Int × Int) ⊕ ((Int × Int × Int × Int × (List disk_sector) × (List (Int × disk_sector)) × Bool × Bool × Int × Int × Int × Int × Int) ⊕ (Int × Int × keyring_Ring × disk_Disk))) :=
  some (.inl (x64, IntKind.i64.wrap (x27 + 1), x65, x66, x67, l68, l72, x75, x76, x77, x78, x79, x80, x81))
def F.keyring_Ring_Keep.l4 (x1 : List Int) (m0 : keyring_Ring) (m1 : guard_Guard) (x26 : Int) (x27 : Int) (x28 : Int) (x29 : Int) (x30 : Int) (l31 : List disk_sector) (l35 : List (Int × disk_sector)) (x38 : Bool) (x39 : Bool) (x40 : Int) (x41 : Int) (x42 : Int) (x43 : Int) (x44 : Int) : Option ((Int × Int × Int × Int × Int × (List disk_sector) × (List (Int × disk_sector)) × Bool × Bool × Int × Int × Int × Int × Int) ⊕ ((Int × Int × Int × Int × (List disk_sector) × (List (Int × disk_sector)) × Bool × Bool × Int × Int × Int × Int × Int) ⊕ (Int × Int × keyring_Ring × disk_Disk))) :=
  if decide (x27 < m0.slots_) then (thru (thru (iter (fun x => F.keyring_Ring_Keep.l1 x1 x26 x27 x28 x29 x30 l31 l35 x38 x39 x40 x41 x42 x43 x44 x) FUEL 0) (fun x => F.keyring_Ring_Keep.r2 m1 x26 x27 x28 x29 x30 l31 l35 x38 x39 x40 x41 x42 x43 x44)) (fun x => F.keyring_Ring_Keep.r3 x27 x.1 x.2.1 x.2.2.1 x.2.2.2.1 x.2.2.2.2.1 x.2.2.2.2.2.1 x.2.2.2.2.2.2.1 x.2.2.2.2.2.2.2.1 x.2.2.2.2.2.2.2.2.1 x.2.2.2.2.2.2.2.2.2.1 x.2.2.2.2.2.2.2.2.2.2.1 x.2.2.2.2.2.2.2.2.2.2.2.1 x.2.2.2.2.2.2.2.2.2.2.2.2)) else (some (.inr (.inl (x26, x28, x29, x30, l31, l35, x38, x39, x40, x41, x42, x43, x44))))
def F.keyring_Ring_Keep.r5 (x82 : Int) (x83 : Int) (x84 : Int) (x85 : Int) (l86 : List disk_sector) (l90 : List (Int × disk_sector)) (x93 : Bool) (x94 : Bool) (x95 : Int) (x96 : Int) (x97 : Int) (x98 : Int) (x99 : Int) : Option (Int × Int × keyring_Ring × disk_Disk) :=
  some ((x82, 0, (⟨x83, x84, x85⟩ : keyring_Ring), (⟨l86, l90, x93, x94, x95, (⟨x96, x97⟩ : disk_Fall), x98, x99⟩ : disk_Disk)))
def F.keyring_Ring_Keep (x1 : List Int) (m0 : keyring_Ring) (m1 : guard_Guard) (m2 : disk_Disk) : Option (Int × Int × keyring_Ring × disk_Disk) :=
  Option.bind (F.keyring_Ring_why 0 m0 m1 m2) (fun (r21 : Int) => if r21 != 0 then (some ((0, r21, m0, m2))) else (thru (iter (fun x => F.keyring_Ring_Keep.l4 x1 m0 m1 x.1 x.2.1 x.2.2.1 x.2.2.2.1 x.2.2.2.2.1 x.2.2.2.2.2.1 x.2.2.2.2.2.2.1 x.2.2.2.2.2.2.2.1 x.2.2.2.2.2.2.2.2.1 x.2.2.2.2.2.2.2.2.2.1 x.2.2.2.2.2.2.2.2.2.2.1 x.2.2.2.2.2.2.2.2.2.2.2.1 x.2.2.2.2.2.2.2.2.2.2.2.2.1 x.2.2.2.2.2.2.2.2.2.2.2.2.2) FUEL (0, 0, m0.base_, m0.slots_, m0.shred_, m2.sure_, m2.wait_, m2.off_, m2.armed_, m2.left_, m2.fall_.Keep, m2.fall_.Tear, m2.acts_, m2.falls_)) (fun x => F.keyring_Ring_Keep.r5 x.1 x.2.1 x.2.2.1 x.2.2.2.1 x.2.2.2.2.1 x.2.2.2.2.2.1 x.2.2.2.2.2.2.1 x.2.2.2.2.2.2.2.1 x.2.2.2.2.2.2.2.2.1 x.2.2.2.2.2.2.2.2.2.1 x.2.2.2.2.2.2.2.2.2.2.1 x.2.2.2.2.2.2.2.2.2.2.2.1 x.2.2.2.2.2.2.2.2.2.2.2.2)))
set_option maxRecDepth 100000 in
set_option maxHeartbeats 4000000 in
theorem c_keyring_Ring_Keep (I : Hl) (x1 : List Int) (m0 : keyring_Ring) (m1 : guard_Guard) (m2 : disk_Disk) (p0 : Option Addr) (c0 : Nat) (b0 : Nat) (b1 : Nat) (p1 : Option Addr) (c1 : Nat) (p2 : Nat) (b2 : Nat) (res : Int × Int × keyring_Ring × disk_Disk) (hF : F.keyring_Ring_Keep x1 m0 m1 m2 = some res) (hr0 : ro I (eInt .i64) p0 c0 x1) : Tr Tryz.prog 22 [.pointer (some ⟨b0, 0, none⟩), .slice p0 x1.length c0] [imm I, pt b0 #[.pointer (some ⟨b1, 0, none⟩), .int .i64 m0.base_, .int .i64 m0.slots_, .int .i64 m0.shred_] 78, pt b1 #[.pointer (some ⟨b2, 0, none⟩), .int .i64 m1.boot_, .int .i64 m1.n_] 75, pt b2 #[.slice p1 m2.sure_.length c1, .map (some p2), .bool m2.off_, .bool m2.armed_, .int .i64 m2.left_, .int .u64 m2.fall_.Keep, .int .i64 m2.fall_.Tear, .int .i64 m2.acts_, .int .i64 m2.falls_] 52, own e_disk_sector 55 p1 c1 m2.sure_, mpo (kInt .i64) (fun x : disk_sector => Value.agg #[.string x.s_, .int .i64 x.at_]) p2 m2.wait_] (fun r H' => ∃ (pq1 : Option Addr), ∃ (cq2 : Nat), ∃ (bq4 : Nat), r = .tuple #[.int .i64 res.1, .int .i64 res.2.1] ∧ H' = [imm I, pt b0 #[.pointer (some ⟨b1, 0, none⟩), .int .i64 res.2.2.1.base_, .int .i64 res.2.2.1.slots_, .int .i64 res.2.2.1.shred_] 78, pt b1 #[.pointer (some ⟨b2, 0, none⟩), .int .i64 m1.boot_, .int .i64 m1.n_] 75, pt b2 #[.slice pq1 res.2.2.2.sure_.length cq2, .map (some bq4), .bool res.2.2.2.off_, .bool res.2.2.2.armed_, .int .i64 res.2.2.2.left_, .int .u64 res.2.2.2.fall_.Keep, .int .i64 res.2.2.2.fall_.Tear, .int .i64 res.2.2.2.acts_, .int .i64 res.2.2.2.falls_] 52, own e_disk_sector 55 pq1 cq2 res.2.2.2.sure_, mpo (kInt .i64) (fun x : disk_sector => Value.agg #[.string x.s_, .int .i64 x.at_]) bq4 res.2.2.2.wait_]) := by
  unfold F.keyring_Ring_Keep at hF
  refine tr_of_cw (fn := Tryz.f22) Tryz.func22 rfl (Nat.le_of_ble_eq_true rfl) 47 rfl fun F0 w0 => ?_
  refine cw_keep [0, 1] (L' := [(0, .pointer (some ⟨b0, 0, none⟩)), (1, .slice p0 x1.length c0)]) rfl ?_
  refine cw_state (S' := SAT w0 ([imm I, pt b0 #[.pointer (some ⟨b1, 0, none⟩), .int .i64 m0.base_, .int .i64 m0.slots_, .int .i64 m0.shred_] 78, pt b1 #[.pointer (some ⟨b2, 0, none⟩), .int .i64 m1.boot_, .int .i64 m1.n_] 75, pt b2 #[.slice p1 m2.sure_.length c1, .map (some p2), .bool m2.off_, .bool m2.armed_, .int .i64 m2.left_, .int .u64 m2.fall_.Keep, .int .i64 m2.fall_.Tear, .int .i64 m2.acts_, .int .i64 m2.falls_] 52, own e_disk_sector 55 p1 c1 m2.sure_, mpo (kInt .i64) (fun x : disk_sector => Value.agg #[.string x.s_, .int .i64 x.at_]) p2 m2.wait_] ++ F0)) (fun w hs => hs) ?_
  refine cw_seq ?_
  refine cw_region ?_
  refine ow_vals 2 (j := 2) [0, 1] [(0, .pointer (some ⟨b0, 0, none⟩)), (1, .slice p0 x1.length c0)] rfl (by kernel_rfl) ?_
  refine ow_end rfl ?_
  refine ew_then ?_
  refine cw_scope ?_
  refine cw_seq ?_
  refine cw_seq ?_
  refine cw_region ?_
  refine ow_vals 1 (j := 1) [0, 1, 12] [(0, .pointer (some ⟨b0, 0, none⟩)), (1, .slice p0 x1.length c0), (12, .pointer (some ⟨b0, 0, none⟩))] rfl (by kernel_rfl) ?_
  obtain ⟨r21, h22, hF⟩ := bind_some hF
  refine ow_pw rfl (pw_call (F := [] ++ F0) rfl rfl rfl rfl rfl rfl rfl (by kernel_rfl) (perm_of_pulls [0, 0, 0, 0, 0, 0] rfl) (c_keyring_Ring_why _ 0 m0 m1 m2 b0 b1 p1 c1 p2 b2 r21 h22) ?_)
  rintro _ _ ⟨rfl, rfl⟩
  refine nw_H (H' := [imm I, pt b0 #[.pointer (some ⟨b1, 0, none⟩), .int .i64 m0.base_, .int .i64 m0.slots_, .int .i64 m0.shred_] 78, pt b1 #[.pointer (some ⟨b2, 0, none⟩), .int .i64 m1.boot_, .int .i64 m1.n_] 75, pt b2 #[.slice p1 m2.sure_.length c1, .map (some p2), .bool m2.off_, .bool m2.armed_, .int .i64 m2.left_, .int .u64 m2.fall_.Keep, .int .i64 m2.fall_.Tear, .int .i64 m2.acts_, .int .i64 m2.falls_] 52, own e_disk_sector 55 p1 c1 m2.sure_, mpo (kInt .i64) (fun x : disk_sector => Value.agg #[.string x.s_, .int .i64 x.at_]) p2 m2.wait_] ++ F0) rfl (nw_ow ?_)
  refine ow_vals 1 (j := 3) [0, 1, 6] [(0, .pointer (some ⟨b0, 0, none⟩)), (1, .slice p0 x1.length c0), (6, .int .i64 r21)] rfl (by kernel_rfl) ?_
  refine ow_end rfl ?_
  refine ew_then ?_
  refine cw_seq ?_
  refine cw_region ?_
  refine ow_vals 2 (j := 2) [0, 1, 6, 15] [(0, .pointer (some ⟨b0, 0, none⟩)), (1, .slice p0 x1.length c0), (6, .int .i64 r21), (15, .bool (r21 != 0))] rfl (by kernel_rfl) ?_
  refine ow_end rfl ?_
  refine ew_then ?_
  rcases if_some hF with ⟨h23, hF⟩ | ⟨h23, hF⟩
  · refine cw_cond_t rfl rfl h23 ?_
    refine cw_seq ?_
    refine cw_region ?_
    refine ow_vals 3 (j := 3) [4, 5] [(4, .int .i64 0), (5, .int .i64 r21)] rfl (by kernel_rfl) ?_
    refine ow_end rfl ?_
    refine ew_then ?_
    refine cw_ret ?_
    refine ew_then_ret ?_
    refine ew_scope_ret ?_
    have hR := Option.some.inj hF
    subst hR
    exact fin2 (H1 := [imm I, pt b0 #[.pointer (some ⟨b1, 0, none⟩), .int .i64 m0.base_, .int .i64 m0.slots_, .int .i64 m0.shred_] 78, pt b1 #[.pointer (some ⟨b2, 0, none⟩), .int .i64 m1.boot_, .int .i64 m1.n_] 75, pt b2 #[.slice p1 m2.sure_.length c1, .map (some p2), .bool m2.off_, .bool m2.armed_, .int .i64 m2.left_, .int .u64 m2.fall_.Keep, .int .i64 m2.fall_.Tear, .int .i64 m2.acts_, .int .i64 m2.falls_] 52, own e_disk_sector 55 p1 c1 m2.sure_, mpo (kInt .i64) (fun x : disk_sector => Value.agg #[.string x.s_, .int .i64 x.at_]) p2 m2.wait_]) (fun w hs => sat_to [0, 0, 0, 0, 0, 0] 0 rfl hs) rfl (rr_tmp rfl) (rr_tmp rfl) ⟨p1, c1, p2, rfl, rfl⟩
  refine cw_cond_f rfl rfl h23 ?_
  refine cw_skip ?_
  refine ew_then ?_
  refine cw_seq ?_
  refine cw_region ?_
  refine ow_vals 1 (j := 1) [0, 1, 7] [(0, .pointer (some ⟨b0, 0, none⟩)), (1, .slice p0 x1.length c0), (7, .int .i64 0)] rfl (by kernel_rfl) ?_
  refine ow_end rfl ?_
  refine ew_then ?_
  refine cw_seq ?_
  refine cw_label ?_
  refine ew_then ?_
  obtain ⟨v24, hF, hK24⟩ := thru_some hF
  refine cw_mid (fun a w => ∃ (x82 : Int), ∃ (x83 : Int), ∃ (x84 : Int), ∃ (x85 : Int), ∃ (l86 : List disk_sector), ∃ (l90 : List (Int × disk_sector)), ∃ (x93 : Bool), ∃ (x94 : Bool), ∃ (x95 : Int), ∃ (x96 : Int), ∃ (x97 : Int), ∃ (x98 : Int), ∃ (x99 : Int), ∃ (p87 : Option Addr), ∃ (c88 : Nat), ∃ (b92 : Nat), .inl (x82, x83, x84, x85, l86, l90, x93, x94, x95, x96, x97, x98, x99) = v24 ∧ Fr 47 [(7, .int .i64 x82)] a ∧ SAT w0 ([imm I, pt b0 #[.pointer (some ⟨b1, 0, none⟩), .int .i64 x83, .int .i64 x84, .int .i64 x85] 78, pt b1 #[.pointer (some ⟨b2, 0, none⟩), .int .i64 m1.boot_, .int .i64 m1.n_] 75, pt b2 #[.slice p87 l86.length c88, .map (some b92), .bool x93, .bool x94, .int .i64 x95, .int .u64 x96, .int .i64 x97, .int .i64 x98, .int .i64 x99] 52, own e_disk_sector 55 p87 c88 l86, mpo (kInt .i64) (fun x : disk_sector => Value.agg #[.string x.s_, .int .i64 x.at_]) b92 l90] ++ F0) w) ?_ ?_
  · refine cw_seq ?_
    refine cw_region ?_
    refine ow_vals 3 (j := 3) [0, 1, 7, 19] [(0, .pointer (some ⟨b0, 0, none⟩)), (1, .slice p0 x1.length c0), (7, .int .i64 0), (19, .pointer (some ⟨b0, 2, none⟩))] rfl (by kernel_rfl) ?_
    refine ow_pw rfl (pw_quiet (v := .int .i64 m0.slots_) rfl rfl rfl rfl (q_load 1 rfl rfl rfl (by kernel_rfl)) (nw_ow ?_))
    refine ow_vals 1 (j := 5) [0, 1, 7, 20, 21] [(0, .pointer (some ⟨b0, 0, none⟩)), (1, .slice p0 x1.length c0), (7, .int .i64 0), (20, .int .i64 m0.slots_), (21, .int .i64 0)] rfl (by kernel_rfl) ?_
    refine ow_end rfl ?_
    refine ew_then ?_
    refine cw_block ?_
    refine fun a w hf hs => wp_rounds (fun k a w => ∃ (x26 : Int), ∃ (x27 : Int), ∃ (x28 : Int), ∃ (x29 : Int), ∃ (x30 : Int), ∃ (l31 : List disk_sector), ∃ (l35 : List (Int × disk_sector)), ∃ (x38 : Bool), ∃ (x39 : Bool), ∃ (x40 : Int), ∃ (x41 : Int), ∃ (x42 : Int), ∃ (x43 : Int), ∃ (x44 : Int), ∃ (p32 : Option Addr), ∃ (c33 : Nat), ∃ (b37 : Nat), iter (fun x => F.keyring_Ring_Keep.l4 x1 m0 m1 x.1 x.2.1 x.2.2.1 x.2.2.2.1 x.2.2.2.2.1 x.2.2.2.2.2.1 x.2.2.2.2.2.2.1 x.2.2.2.2.2.2.2.1 x.2.2.2.2.2.2.2.2.1 x.2.2.2.2.2.2.2.2.2.1 x.2.2.2.2.2.2.2.2.2.2.1 x.2.2.2.2.2.2.2.2.2.2.2.1 x.2.2.2.2.2.2.2.2.2.2.2.2.1 x.2.2.2.2.2.2.2.2.2.2.2.2.2) k (x26, x27, x28, x29, x30, l31, l35, x38, x39, x40, x41, x42, x43, x44) = some v24 ∧ Fr 47 [(0, .pointer (some ⟨b0, 0, none⟩)), (1, .slice p0 x1.length c0), (7, .int .i64 x26), (20, .int .i64 m0.slots_), (21, .int .i64 x27)] a ∧ SAT w0 ([imm I, pt b0 #[.pointer (some ⟨b1, 0, none⟩), .int .i64 x28, .int .i64 x29, .int .i64 x30] 78, pt b1 #[.pointer (some ⟨b2, 0, none⟩), .int .i64 m1.boot_, .int .i64 m1.n_] 75, pt b2 #[.slice p32 l31.length c33, .map (some b37), .bool x38, .bool x39, .int .i64 x40, .int .u64 x41, .int .i64 x42, .int .i64 x43, .int .i64 x44] 52, own e_disk_sector 55 p32 c33 l31, mpo (kInt .i64) (fun x : disk_sector => Value.agg #[.string x.s_, .int .i64 x.at_]) b37 l35] ++ F0) w) ?_ FUEL a w ⟨0, 0, m0.base_, m0.slots_, m0.shred_, m2.sure_, m2.wait_, m2.off_, m2.armed_, m2.left_, m2.fall_.Keep, m2.fall_.Tear, m2.acts_, m2.falls_, p1, c1, p2, hF, hf.keep [0, 1, 7, 20, 21], sat_to [0, 0, 0, 0, 0, 0] 0 rfl hs⟩
    clear hf hs
    clear a w hF
    rintro k a w ⟨x26, x27, x28, x29, x30, l31, l35, x38, x39, x40, x41, x42, x43, x44, p32, c33, b37, hF2, hf, hs⟩
    obtain ⟨k, r25, rfl, hF, hL25⟩ := iter_some hF2
    clear hF2
    revert a w
    show CW _ _ _ 47 [(0, .pointer (some ⟨b0, 0, none⟩)), (1, .slice p0 x1.length c0), (7, .int .i64 x26), (20, .int .i64 m0.slots_), (21, .int .i64 x27)] (SAT w0 ([imm I, pt b0 #[.pointer (some ⟨b1, 0, none⟩), .int .i64 x28, .int .i64 x29, .int .i64 x30] 78, pt b1 #[.pointer (some ⟨b2, 0, none⟩), .int .i64 m1.boot_, .int .i64 m1.n_] 75, pt b2 #[.slice p32 l31.length c33, .map (some b37), .bool x38, .bool x39, .int .i64 x40, .int .u64 x41, .int .i64 x42, .int .i64 x43, .int .i64 x44] 52, own e_disk_sector 55 p32 c33 l31, mpo (kInt .i64) (fun x : disk_sector => Value.agg #[.string x.s_, .int .i64 x.at_]) b37 l35] ++ F0))
    try dsimp only at hF
    unfold F.keyring_Ring_Keep.l4 at hF
    refine cw_seq ?_
    refine cw_region ?_
    refine ow_vals 1 (j := 1) [0, 1, 7, 20, 21, 22] [(0, .pointer (some ⟨b0, 0, none⟩)), (1, .slice p0 x1.length c0), (7, .int .i64 x26), (20, .int .i64 m0.slots_), (21, .int .i64 x27), (22, .bool (decide (x27 < m0.slots_)))] rfl (by kernel_rfl) ?_
    refine ow_end rfl ?_
    refine ew_then ?_
    refine cw_seq ?_
    rcases if_some hF with ⟨h45, hF⟩ | ⟨h45, hF⟩
    · refine cw_cond_t rfl rfl h45 ?_
      refine cw_skip ?_
      refine ew_then ?_
      obtain ⟨v46, hF, hK46⟩ := thru_some hF
      refine cw_mid (fun a w => ∃ (x64 : Int), ∃ (x65 : Int), ∃ (x66 : Int), ∃ (x67 : Int), ∃ (l68 : List disk_sector), ∃ (l72 : List (Int × disk_sector)), ∃ (x75 : Bool), ∃ (x76 : Bool), ∃ (x77 : Int), ∃ (x78 : Int), ∃ (x79 : Int), ∃ (x80 : Int), ∃ (x81 : Int), ∃ (p69 : Option Addr), ∃ (c70 : Nat), ∃ (b74 : Nat), .inl (x64, x65, x66, x67, l68, l72, x75, x76, x77, x78, x79, x80, x81) = v46 ∧ Fr 47 [(0, .pointer (some ⟨b0, 0, none⟩)), (1, .slice p0 x1.length c0), (7, .int .i64 x64), (20, .int .i64 m0.slots_), (21, .int .i64 x27)] a ∧ SAT w0 ([imm I, pt b0 #[.pointer (some ⟨b1, 0, none⟩), .int .i64 x65, .int .i64 x66, .int .i64 x67] 78, pt b1 #[.pointer (some ⟨b2, 0, none⟩), .int .i64 m1.boot_, .int .i64 m1.n_] 75, pt b2 #[.slice p69 l68.length c70, .map (some b74), .bool x75, .bool x76, .int .i64 x77, .int .u64 x78, .int .i64 x79, .int .i64 x80, .int .i64 x81] 52, own e_disk_sector 55 p69 c70 l68, mpo (kInt .i64) (fun x : disk_sector => Value.agg #[.string x.s_, .int .i64 x.at_]) b74 l72] ++ F0) w) ?_ ?_
      · refine cw_block ?_
        refine cw_seq ?_
        refine cw_region ?_
        refine ow_vals 2 (j := 2) [0, 1, 7, 8, 20, 21] [(0, .pointer (some ⟨b0, 0, none⟩)), (1, .slice p0 x1.length c0), (7, .int .i64 x26), (8, .int .i64 x27), (20, .int .i64 m0.slots_), (21, .int .i64 x27)] rfl (by kernel_rfl) ?_
        refine ow_end rfl ?_
        refine ew_then ?_
        obtain ⟨v47, hF, hK47⟩ := thru_some hF
        refine cw_mid (fun a w => .inl () = v47 ∧ Fr 47 [(0, .pointer (some ⟨b0, 0, none⟩)), (1, .slice p0 x1.length c0), (7, .int .i64 x26), (8, .int .i64 x27), (20, .int .i64 m0.slots_), (21, .int .i64 x27)] a ∧ SAT w0 ([imm I, pt b0 #[.pointer (some ⟨b1, 0, none⟩), .int .i64 x28, .int .i64 x29, .int .i64 x30] 78, pt b1 #[.pointer (some ⟨b2, 0, none⟩), .int .i64 m1.boot_, .int .i64 m1.n_] 75, pt b2 #[.slice p32 l31.length c33, .map (some b37), .bool x38, .bool x39, .int .i64 x40, .int .u64 x41, .int .i64 x42, .int .i64 x43, .int .i64 x44] 52, own e_disk_sector 55 p32 c33 l31, mpo (kInt .i64) (fun x : disk_sector => Value.agg #[.string x.s_, .int .i64 x.at_]) b37 l35] ++ F0) w) ?_ ?_
        · refine cw_seq ?_
          refine cw_region ?_
          refine ow_vals 3 (j := 3) [0, 1, 7, 8, 20, 21, 24, 25, 26] [(0, .pointer (some ⟨b0, 0, none⟩)), (1, .slice p0 x1.length c0), (7, .int .i64 x26), (8, .int .i64 x27), (20, .int .i64 m0.slots_), (21, .int .i64 x27), (24, .slice p0 x1.length c0), (25, .int .i64 (x1.length : Int)), (26, .int .i64 0)] rfl (by kernel_rfl) ?_
          refine ow_end rfl ?_
          refine ew_then ?_
          refine cw_block ?_
          refine fun a w hf hs => wp_rounds (fun k a w => ∃ (x49 : Int), iter (fun x => F.keyring_Ring_Keep.l1 x1 x26 x27 x28 x29 x30 l31 l35 x38 x39 x40 x41 x42 x43 x44 x) k x49 = some v47 ∧ Fr 47 [(0, .pointer (some ⟨b0, 0, none⟩)), (1, .slice p0 x1.length c0), (7, .int .i64 x26), (8, .int .i64 x27), (20, .int .i64 m0.slots_), (21, .int .i64 x27), (24, .slice p0 x1.length c0), (25, .int .i64 (x1.length : Int)), (26, .int .i64 x49)] a ∧ SAT w0 ([imm I, pt b0 #[.pointer (some ⟨b1, 0, none⟩), .int .i64 x28, .int .i64 x29, .int .i64 x30] 78, pt b1 #[.pointer (some ⟨b2, 0, none⟩), .int .i64 m1.boot_, .int .i64 m1.n_] 75, pt b2 #[.slice p32 l31.length c33, .map (some b37), .bool x38, .bool x39, .int .i64 x40, .int .u64 x41, .int .i64 x42, .int .i64 x43, .int .i64 x44] 52, own e_disk_sector 55 p32 c33 l31, mpo (kInt .i64) (fun x : disk_sector => Value.agg #[.string x.s_, .int .i64 x.at_]) b37 l35] ++ F0) w) ?_ FUEL a w ⟨0, hF, hf.keep [0, 1, 7, 8, 20, 21, 24, 25, 26], sat_to [0, 0, 0, 0, 0, 0] 0 rfl hs⟩
          clear hf hs
          clear a w hF
          rintro k a w ⟨x49, hF2, hf, hs⟩
          obtain ⟨k, r48, rfl, hF, hL48⟩ := iter_some hF2
          clear hF2
          revert a w
          show CW _ _ _ 47 [(0, .pointer (some ⟨b0, 0, none⟩)), (1, .slice p0 x1.length c0), (7, .int .i64 x26), (8, .int .i64 x27), (20, .int .i64 m0.slots_), (21, .int .i64 x27), (24, .slice p0 x1.length c0), (25, .int .i64 (x1.length : Int)), (26, .int .i64 x49)] (SAT w0 ([imm I, pt b0 #[.pointer (some ⟨b1, 0, none⟩), .int .i64 x28, .int .i64 x29, .int .i64 x30] 78, pt b1 #[.pointer (some ⟨b2, 0, none⟩), .int .i64 m1.boot_, .int .i64 m1.n_] 75, pt b2 #[.slice p32 l31.length c33, .map (some b37), .bool x38, .bool x39, .int .i64 x40, .int .u64 x41, .int .i64 x42, .int .i64 x43, .int .i64 x44] 52, own e_disk_sector 55 p32 c33 l31, mpo (kInt .i64) (fun x : disk_sector => Value.agg #[.string x.s_, .int .i64 x.at_]) b37 l35] ++ F0))
          try dsimp only at hF
          unfold F.keyring_Ring_Keep.l1 at hF
          refine cw_seq ?_
          refine cw_region ?_
          refine ow_vals 1 (j := 1) [0, 1, 7, 8, 20, 21, 24, 25, 26, 27] [(0, .pointer (some ⟨b0, 0, none⟩)), (1, .slice p0 x1.length c0), (7, .int .i64 x26), (8, .int .i64 x27), (20, .int .i64 m0.slots_), (21, .int .i64 x27), (24, .slice p0 x1.length c0), (25, .int .i64 (x1.length : Int)), (26, .int .i64 x49), (27, .bool (decide (x49 < (x1.length : Int))))] rfl (by kernel_rfl) ?_
          refine ow_end rfl ?_
          refine ew_then ?_
          refine cw_seq ?_
          rcases if_some hF with ⟨h50, hF⟩ | ⟨h50, hF⟩
          · refine cw_cond_t rfl rfl h50 ?_
            refine cw_skip ?_
            refine ew_then ?_
            refine cw_seq ?_
            refine cw_block ?_
            refine cw_seq ?_
            refine cw_region ?_
            obtain ⟨y51, h52, hF⟩ := bind_some hF
            refine ow_pw rfl (pw_index_ro (E := 3) 1 hr0 rfl rfl rfl rfl rfl (by kernel_rfl) rfl rfl rfl h52 fun q53 h54 => nw_ow ?_)
            refine ow_pw rfl (pw_quiet (v := .int .i64 y51) rfl rfl rfl rfl (q_load_el0 0 rfl h54 rfl rfl (by kernel_rfl)) (nw_ow ?_))
            refine ow_vals 1 (j := 3) [0, 1, 7, 8, 10, 20, 21, 24, 25, 26] [(0, .pointer (some ⟨b0, 0, none⟩)), (1, .slice p0 x1.length c0), (7, .int .i64 x26), (8, .int .i64 x27), (10, .int .i64 y51), (20, .int .i64 m0.slots_), (21, .int .i64 x27), (24, .slice p0 x1.length c0), (25, .int .i64 (x1.length : Int)), (26, .int .i64 x49)] rfl (by kernel_rfl) ?_
            refine ow_end rfl ?_
            refine ew_then ?_
            refine cw_seq ?_
            refine cw_region ?_
            refine ow_vals 3 (j := 3) [0, 1, 7, 8, 20, 21, 24, 25, 26, 32] [(0, .pointer (some ⟨b0, 0, none⟩)), (1, .slice p0 x1.length c0), (7, .int .i64 x26), (8, .int .i64 x27), (20, .int .i64 m0.slots_), (21, .int .i64 x27), (24, .slice p0 x1.length c0), (25, .int .i64 (x1.length : Int)), (26, .int .i64 x49), (32, .bool (y51 == x27))] rfl (by kernel_rfl) ?_
            refine ow_end rfl ?_
            refine ew_then ?_
            rcases if_some hF with ⟨h55, hF⟩ | ⟨h55, hF⟩
            · refine cw_cond_t rfl rfl h55 ?_
              refine cw_exit ?_
              refine ew_blk_other (by decide) ?_
              refine ew_then_exit ?_
              refine ew_then_exit ?_
              refine ew_blk_other (by decide) ?_
              refine ew_then_exit ?_
              refine ew_blk_exit ?_
              have hR := Option.some.inj hF
              subst hR
              have hR := hL48
              try dsimp only at hR
              subst hR
              have hR := hK47
              try dsimp only [Thru] at hR
              exact fun a w hf hs => ⟨x26, x28, x29, x30, l31, l35, x38, x39, x40, x41, x42, x43, x44, p32, c33, b37, hR, hf.keep [0, 1, 7, 20, 21], sat_to [0, 0, 0, 0, 0, 0] 0 rfl hs⟩
            refine cw_cond_f rfl rfl h55 ?_
            refine cw_skip ?_
            refine ew_blk ?_
            refine ew_then ?_
            refine cw_region ?_
            refine ow_vals 2 (j := 2) [0, 1, 7, 8, 20, 21, 24, 25, 26] [(0, .pointer (some ⟨b0, 0, none⟩)), (1, .slice p0 x1.length c0), (7, .int .i64 x26), (8, .int .i64 x27), (20, .int .i64 m0.slots_), (21, .int .i64 x27), (24, .slice p0 x1.length c0), (25, .int .i64 (x1.length : Int)), (26, .int .i64 (IntKind.i64.wrap (x49 + 1)))] rfl (by kernel_rfl) ?_
            refine ow_end rfl ?_
            have hR := Option.some.inj hF
            subst hR
            have hR := hL48
            try dsimp only at hR
            exact fun a w hf hs => ⟨k, Nat.lt_succ_self k, IntKind.i64.wrap (x49 + 1), hR, hf.keep [0, 1, 7, 8, 20, 21, 24, 25, 26], sat_to [0, 0, 0, 0, 0, 0] 0 rfl hs⟩
          refine cw_cond_f rfl rfl h50 ?_
          refine cw_exit ?_
          refine ew_then_exit ?_
          refine ew_then_exit ?_
          refine ew_blk_exit ?_
          have hR := Option.some.inj hF
          subst hR
          have hR := hL48
          try dsimp only at hR
          exact fun a w hf hs => ⟨hR, hf.keep [0, 1, 7, 8, 20, 21], sat_to [0, 0, 0, 0, 0, 0] 0 rfl hs⟩
        rintro a w ⟨hv, hf, hs⟩
        subst hv
        replace hF := hK47
        clear hK47
        try dsimp only [Thru] at hF
        revert a w
        show CW _ _ _ 47 [(0, .pointer (some ⟨b0, 0, none⟩)), (1, .slice p0 x1.length c0), (7, .int .i64 x26), (8, .int .i64 x27), (20, .int .i64 m0.slots_), (21, .int .i64 x27)] (SAT w0 ([imm I, pt b0 #[.pointer (some ⟨b1, 0, none⟩), .int .i64 x28, .int .i64 x29, .int .i64 x30] 78, pt b1 #[.pointer (some ⟨b2, 0, none⟩), .int .i64 m1.boot_, .int .i64 m1.n_] 75, pt b2 #[.slice p32 l31.length c33, .map (some b37), .bool x38, .bool x39, .int .i64 x40, .int .u64 x41, .int .i64 x42, .int .i64 x43, .int .i64 x44] 52, own e_disk_sector 55 p32 c33 l31, mpo (kInt .i64) (fun x : disk_sector => Value.agg #[.string x.s_, .int .i64 x.at_]) b37 l35] ++ F0))
        unfold F.keyring_Ring_Keep.r2 at hF
        refine cw_seq ?_
        refine cw_seq ?_
        refine cw_region ?_
        refine ow_vals 2 (j := 2) [0, 1, 7, 8, 20, 21, 34, 35] [(0, .pointer (some ⟨b0, 0, none⟩)), (1, .slice p0 x1.length c0), (7, .int .i64 x26), (8, .int .i64 x27), (20, .int .i64 m0.slots_), (21, .int .i64 x27), (34, .pointer (some ⟨b0, 0, none⟩)), (35, .int .i64 x27)] rfl (by kernel_rfl) ?_
        obtain ⟨r56, h57, hF⟩ := bind_some hF
        refine ow_pw rfl (pw_call (F := [] ++ F0) rfl rfl rfl rfl rfl rfl rfl (by kernel_rfl) (perm_of_pulls [0, 0, 0, 0, 0, 0] rfl) (c_keyring_Ring_Free _ x27 (⟨x28, x29, x30⟩ : keyring_Ring) m1 (⟨l31, l35, x38, x39, x40, (⟨x41, x42⟩ : disk_Fall), x43, x44⟩ : disk_Disk) b0 b1 p32 c33 b37 b2 r56 h57) ?_)
        rintro _ _ ⟨rfl, rfl⟩
        refine nw_H (H' := [imm I, pt b0 #[.pointer (some ⟨b1, 0, none⟩), .int .i64 ((⟨x28, x29, x30⟩ : keyring_Ring).base_), .int .i64 ((⟨x28, x29, x30⟩ : keyring_Ring).slots_), .int .i64 ((⟨x28, x29, x30⟩ : keyring_Ring).shred_)] 78, pt b1 #[.pointer (some ⟨b2, 0, none⟩), .int .i64 m1.boot_, .int .i64 m1.n_] 75, pt b2 #[.slice p32 ((⟨l31, l35, x38, x39, x40, (⟨x41, x42⟩ : disk_Fall), x43, x44⟩ : disk_Disk).sure_).length c33, .map (some b37), .bool ((⟨l31, l35, x38, x39, x40, (⟨x41, x42⟩ : disk_Fall), x43, x44⟩ : disk_Disk).off_), .bool ((⟨l31, l35, x38, x39, x40, (⟨x41, x42⟩ : disk_Fall), x43, x44⟩ : disk_Disk).armed_), .int .i64 ((⟨l31, l35, x38, x39, x40, (⟨x41, x42⟩ : disk_Fall), x43, x44⟩ : disk_Disk).left_), .int .u64 ((⟨l31, l35, x38, x39, x40, (⟨x41, x42⟩ : disk_Fall), x43, x44⟩ : disk_Disk).fall_.Keep), .int .i64 ((⟨l31, l35, x38, x39, x40, (⟨x41, x42⟩ : disk_Fall), x43, x44⟩ : disk_Disk).fall_.Tear), .int .i64 ((⟨l31, l35, x38, x39, x40, (⟨x41, x42⟩ : disk_Fall), x43, x44⟩ : disk_Disk).acts_), .int .i64 ((⟨l31, l35, x38, x39, x40, (⟨x41, x42⟩ : disk_Fall), x43, x44⟩ : disk_Disk).falls_)] 52, own e_disk_sector 55 p32 c33 ((⟨l31, l35, x38, x39, x40, (⟨x41, x42⟩ : disk_Fall), x43, x44⟩ : disk_Disk).sure_), mpo (kInt .i64) (fun x : disk_sector => Value.agg #[.string x.s_, .int .i64 x.at_]) b37 ((⟨l31, l35, x38, x39, x40, (⟨x41, x42⟩ : disk_Fall), x43, x44⟩ : disk_Disk).wait_)] ++ F0) rfl (nw_ow ?_)
        refine ow_end rfl ?_
        refine ew_then ?_
        rcases if_some hF with ⟨h58, hF⟩ | ⟨h58, hF⟩
        · refine cw_cond_t rfl rfl h58 ?_
          refine cw_exit ?_
          refine ew_then_exit ?_
          refine ew_blk_exit ?_
          have hR := Option.some.inj hF
          exact fun a w hf hs => ⟨x26, (⟨x28, x29, x30⟩ : keyring_Ring).base_, (⟨x28, x29, x30⟩ : keyring_Ring).slots_, (⟨x28, x29, x30⟩ : keyring_Ring).shred_, (⟨l31, l35, x38, x39, x40, (⟨x41, x42⟩ : disk_Fall), x43, x44⟩ : disk_Disk).sure_, (⟨l31, l35, x38, x39, x40, (⟨x41, x42⟩ : disk_Fall), x43, x44⟩ : disk_Disk).wait_, (⟨l31, l35, x38, x39, x40, (⟨x41, x42⟩ : disk_Fall), x43, x44⟩ : disk_Disk).off_, (⟨l31, l35, x38, x39, x40, (⟨x41, x42⟩ : disk_Fall), x43, x44⟩ : disk_Disk).armed_, (⟨l31, l35, x38, x39, x40, (⟨x41, x42⟩ : disk_Fall), x43, x44⟩ : disk_Disk).left_, (⟨l31, l35, x38, x39, x40, (⟨x41, x42⟩ : disk_Fall), x43, x44⟩ : disk_Disk).fall_.Keep, (⟨l31, l35, x38, x39, x40, (⟨x41, x42⟩ : disk_Fall), x43, x44⟩ : disk_Disk).fall_.Tear, (⟨l31, l35, x38, x39, x40, (⟨x41, x42⟩ : disk_Fall), x43, x44⟩ : disk_Disk).acts_, (⟨l31, l35, x38, x39, x40, (⟨x41, x42⟩ : disk_Fall), x43, x44⟩ : disk_Disk).falls_, p32, c33, b37, hR, hf.keep [0, 1, 7, 20, 21], sat_to [0, 0, 0, 0, 0, 0] 0 rfl hs⟩
        refine cw_cond_f rfl rfl h58 ?_
        refine cw_skip ?_
        refine ew_then ?_
        refine cw_seq ?_
        refine cw_seq ?_
        refine cw_region ?_
        refine ow_vals 2 (j := 2) [0, 1, 7, 20, 21, 37, 38] [(0, .pointer (some ⟨b0, 0, none⟩)), (1, .slice p0 x1.length c0), (7, .int .i64 x26), (20, .int .i64 m0.slots_), (21, .int .i64 x27), (37, .pointer (some ⟨b0, 0, none⟩)), (38, .int .i64 x27)] rfl (by kernel_rfl) ?_
        obtain ⟨r59, h60, hF⟩ := bind_some hF
        refine ow_pw rfl (pw_call (F := [] ++ F0) rfl rfl rfl rfl rfl rfl rfl (by kernel_rfl) (perm_of_pulls [0, 0, 0, 0, 0, 0] rfl) (c_keyring_Ring_Shred _ x27 (⟨x28, x29, x30⟩ : keyring_Ring) m1 (⟨l31, l35, x38, x39, x40, (⟨x41, x42⟩ : disk_Fall), x43, x44⟩ : disk_Disk) b0 b1 p32 c33 b37 b2 r59 h60) ?_)
        rintro _ _ ⟨r59_p1, r59_c2, r59_b4, rfl, rfl⟩
        refine nw_H (H' := [imm I, pt b0 #[.pointer (some ⟨b1, 0, none⟩), .int .i64 r59.2.1.base_, .int .i64 r59.2.1.slots_, .int .i64 r59.2.1.shred_] 78, pt b1 #[.pointer (some ⟨b2, 0, none⟩), .int .i64 m1.boot_, .int .i64 m1.n_] 75, pt b2 #[.slice r59_p1 r59.2.2.sure_.length r59_c2, .map (some r59_b4), .bool r59.2.2.off_, .bool r59.2.2.armed_, .int .i64 r59.2.2.left_, .int .u64 r59.2.2.fall_.Keep, .int .i64 r59.2.2.fall_.Tear, .int .i64 r59.2.2.acts_, .int .i64 r59.2.2.falls_] 52, own e_disk_sector 55 r59_p1 r59_c2 r59.2.2.sure_, mpo (kInt .i64) (fun x : disk_sector => Value.agg #[.string x.s_, .int .i64 x.at_]) r59_b4 r59.2.2.wait_] ++ F0) rfl (nw_ow ?_)
        refine ow_vals 1 (j := 4) [0, 1, 7, 11, 20, 21] [(0, .pointer (some ⟨b0, 0, none⟩)), (1, .slice p0 x1.length c0), (7, .int .i64 x26), (11, .int .i64 r59.1), (20, .int .i64 m0.slots_), (21, .int .i64 x27)] rfl (by kernel_rfl) ?_
        refine ow_end rfl ?_
        refine ew_then ?_
        refine cw_seq ?_
        refine cw_region ?_
        refine ow_vals 2 (j := 2) [0, 1, 7, 11, 20, 21, 41] [(0, .pointer (some ⟨b0, 0, none⟩)), (1, .slice p0 x1.length c0), (7, .int .i64 x26), (11, .int .i64 r59.1), (20, .int .i64 m0.slots_), (21, .int .i64 x27), (41, .bool (r59.1 != 0))] rfl (by kernel_rfl) ?_
        refine ow_end rfl ?_
        refine ew_then ?_
        rcases if_some hF with ⟨h63, hF⟩ | ⟨h63, hF⟩
        · refine cw_cond_t rfl rfl h63 ?_
          refine cw_seq ?_
          refine cw_region ?_
          refine ow_vals 3 (j := 3) [4, 5] [(4, .int .i64 0), (5, .int .i64 r59.1)] rfl (by kernel_rfl) ?_
          refine ow_end rfl ?_
          refine ew_then ?_
          refine cw_ret ?_
          refine ew_then_ret ?_
          refine ew_blk_ret ?_
          refine ew_then_ret ?_
          refine ew_then_ret ?_
          refine ew_blk_ret ?_
          refine ew_then_ret ?_
          refine ew_scope_ret ?_
          have hR := Option.some.inj hF
          subst hR
          have hR := hK46
          try dsimp only [Thru] at hR
          subst hR
          have hR := hL25
          try dsimp only at hR
          subst hR
          have hR := hK24
          try dsimp only [Thru] at hR
          subst hR
          exact fin2 (H1 := [imm I, pt b0 #[.pointer (some ⟨b1, 0, none⟩), .int .i64 r59.2.1.base_, .int .i64 r59.2.1.slots_, .int .i64 r59.2.1.shred_] 78, pt b1 #[.pointer (some ⟨b2, 0, none⟩), .int .i64 m1.boot_, .int .i64 m1.n_] 75, pt b2 #[.slice r59_p1 r59.2.2.sure_.length r59_c2, .map (some r59_b4), .bool r59.2.2.off_, .bool r59.2.2.armed_, .int .i64 r59.2.2.left_, .int .u64 r59.2.2.fall_.Keep, .int .i64 r59.2.2.fall_.Tear, .int .i64 r59.2.2.acts_, .int .i64 r59.2.2.falls_] 52, own e_disk_sector 55 r59_p1 r59_c2 r59.2.2.sure_, mpo (kInt .i64) (fun x : disk_sector => Value.agg #[.string x.s_, .int .i64 x.at_]) r59_b4 r59.2.2.wait_]) (fun w hs => sat_to [0, 0, 0, 0, 0, 0] 0 rfl hs) rfl (rr_tmp rfl) (rr_tmp rfl) ⟨r59_p1, r59_c2, r59_b4, rfl, rfl⟩
        refine cw_cond_f rfl rfl h63 ?_
        refine cw_skip ?_
        refine ew_then ?_
        refine cw_region ?_
        refine ow_vals 3 (j := 3) [0, 1, 7, 20, 21] [(0, .pointer (some ⟨b0, 0, none⟩)), (1, .slice p0 x1.length c0), (7, .int .i64 (IntKind.i64.wrap (x26 + 1))), (20, .int .i64 m0.slots_), (21, .int .i64 x27)] rfl (by kernel_rfl) ?_
        refine ow_end rfl ?_
        refine ew_blk ?_
        have hR := Option.some.inj hF
        exact fun a w hf hs => ⟨IntKind.i64.wrap (x26 + 1), r59.2.1.base_, r59.2.1.slots_, r59.2.1.shred_, r59.2.2.sure_, r59.2.2.wait_, r59.2.2.off_, r59.2.2.armed_, r59.2.2.left_, r59.2.2.fall_.Keep, r59.2.2.fall_.Tear, r59.2.2.acts_, r59.2.2.falls_, r59_p1, r59_c2, r59_b4, hR, hf.keep [0, 1, 7, 20, 21], sat_to [0, 0, 0, 0, 0, 0] 0 rfl hs⟩
      rintro a w ⟨x64, x65, x66, x67, l68, l72, x75, x76, x77, x78, x79, x80, x81, p69, c70, b74, hv, hf, hs⟩
      subst hv
      replace hF := hK46
      clear hK46
      try dsimp only [Thru] at hF
      revert a w
      show CW _ _ _ 47 [(0, .pointer (some ⟨b0, 0, none⟩)), (1, .slice p0 x1.length c0), (7, .int .i64 x64), (20, .int .i64 m0.slots_), (21, .int .i64 x27)] (SAT w0 ([imm I, pt b0 #[.pointer (some ⟨b1, 0, none⟩), .int .i64 x65, .int .i64 x66, .int .i64 x67] 78, pt b1 #[.pointer (some ⟨b2, 0, none⟩), .int .i64 m1.boot_, .int .i64 m1.n_] 75, pt b2 #[.slice p69 l68.length c70, .map (some b74), .bool x75, .bool x76, .int .i64 x77, .int .u64 x78, .int .i64 x79, .int .i64 x80, .int .i64 x81] 52, own e_disk_sector 55 p69 c70 l68, mpo (kInt .i64) (fun x : disk_sector => Value.agg #[.string x.s_, .int .i64 x.at_]) b74 l72] ++ F0))
      unfold F.keyring_Ring_Keep.r3 at hF
      refine cw_region ?_
      refine ow_vals 2 (j := 2) [0, 1, 7, 20, 21] [(0, .pointer (some ⟨b0, 0, none⟩)), (1, .slice p0 x1.length c0), (7, .int .i64 x64), (20, .int .i64 m0.slots_), (21, .int .i64 (IntKind.i64.wrap (x27 + 1)))] rfl (by kernel_rfl) ?_
      refine ow_end rfl ?_
      have hR := Option.some.inj hF
      subst hR
      have hR := hL25
      try dsimp only at hR
      exact fun a w hf hs => ⟨k, Nat.lt_succ_self k, x64, IntKind.i64.wrap (x27 + 1), x65, x66, x67, l68, l72, x75, x76, x77, x78, x79, x80, x81, p69, c70, b74, hR, hf.keep [0, 1, 7, 20, 21], sat_to [0, 0, 0, 0, 0, 0] 0 rfl hs⟩
    refine cw_cond_f rfl rfl h45 ?_
    refine cw_exit ?_
    refine ew_then_exit ?_
    refine ew_then_exit ?_
    refine ew_blk_exit ?_
    have hR := Option.some.inj hF
    subst hR
    have hR := hL25
    try dsimp only at hR
    exact fun a w hf hs => ⟨x26, x28, x29, x30, l31, l35, x38, x39, x40, x41, x42, x43, x44, p32, c33, b37, hR, hf.keep [7], sat_to [0, 0, 0, 0, 0, 0] 0 rfl hs⟩
  rintro a w ⟨x82, x83, x84, x85, l86, l90, x93, x94, x95, x96, x97, x98, x99, p87, c88, b92, hv, hf, hs⟩
  subst hv
  replace hF := hK24
  clear hK24
  try dsimp only [Thru] at hF
  revert a w
  show CW _ _ _ 47 [(7, .int .i64 x82)] (SAT w0 ([imm I, pt b0 #[.pointer (some ⟨b1, 0, none⟩), .int .i64 x83, .int .i64 x84, .int .i64 x85] 78, pt b1 #[.pointer (some ⟨b2, 0, none⟩), .int .i64 m1.boot_, .int .i64 m1.n_] 75, pt b2 #[.slice p87 l86.length c88, .map (some b92), .bool x93, .bool x94, .int .i64 x95, .int .u64 x96, .int .i64 x97, .int .i64 x98, .int .i64 x99] 52, own e_disk_sector 55 p87 c88 l86, mpo (kInt .i64) (fun x : disk_sector => Value.agg #[.string x.s_, .int .i64 x.at_]) b92 l90] ++ F0))
  unfold F.keyring_Ring_Keep.r5 at hF
  refine cw_seq ?_
  refine cw_region ?_
  refine ow_vals 3 (j := 3) [4, 5] [(4, .int .i64 x82), (5, .int .i64 0)] rfl (by kernel_rfl) ?_
  refine ow_end rfl ?_
  refine ew_then ?_
  refine cw_ret ?_
  refine ew_scope_ret ?_
  have hR := Option.some.inj hF
  subst hR
  exact fin2 (H1 := [imm I, pt b0 #[.pointer (some ⟨b1, 0, none⟩), .int .i64 ((⟨x83, x84, x85⟩ : keyring_Ring).base_), .int .i64 ((⟨x83, x84, x85⟩ : keyring_Ring).slots_), .int .i64 ((⟨x83, x84, x85⟩ : keyring_Ring).shred_)] 78, pt b1 #[.pointer (some ⟨b2, 0, none⟩), .int .i64 m1.boot_, .int .i64 m1.n_] 75, pt b2 #[.slice p87 ((⟨l86, l90, x93, x94, x95, (⟨x96, x97⟩ : disk_Fall), x98, x99⟩ : disk_Disk).sure_).length c88, .map (some b92), .bool ((⟨l86, l90, x93, x94, x95, (⟨x96, x97⟩ : disk_Fall), x98, x99⟩ : disk_Disk).off_), .bool ((⟨l86, l90, x93, x94, x95, (⟨x96, x97⟩ : disk_Fall), x98, x99⟩ : disk_Disk).armed_), .int .i64 ((⟨l86, l90, x93, x94, x95, (⟨x96, x97⟩ : disk_Fall), x98, x99⟩ : disk_Disk).left_), .int .u64 (((⟨l86, l90, x93, x94, x95, (⟨x96, x97⟩ : disk_Fall), x98, x99⟩ : disk_Disk).fall_).Keep), .int .i64 (((⟨l86, l90, x93, x94, x95, (⟨x96, x97⟩ : disk_Fall), x98, x99⟩ : disk_Disk).fall_).Tear), .int .i64 ((⟨l86, l90, x93, x94, x95, (⟨x96, x97⟩ : disk_Fall), x98, x99⟩ : disk_Disk).acts_), .int .i64 ((⟨l86, l90, x93, x94, x95, (⟨x96, x97⟩ : disk_Fall), x98, x99⟩ : disk_Disk).falls_)] 52, own e_disk_sector 55 p87 c88 ((⟨l86, l90, x93, x94, x95, (⟨x96, x97⟩ : disk_Fall), x98, x99⟩ : disk_Disk).sure_), mpo (kInt .i64) (fun x : disk_sector => Value.agg #[.string x.s_, .int .i64 x.at_]) b92 ((⟨l86, l90, x93, x94, x95, (⟨x96, x97⟩ : disk_Fall), x98, x99⟩ : disk_Disk).wait_)]) (fun w hs => sat_to [0, 0, 0, 0, 0, 0] 0 rfl hs) rfl (rr_tmp rfl) (rr_tmp rfl) ⟨p87, c88, b92, rfl, rfl⟩


def F.law13_keep.l1 (x2 : List Int) (x24 : Int) (x37 : Bool) (x38 : Int) : Option ((Bool × Int) ⊕ (Bool)) :=
  if decide (x38 < (x2.length : Int)) then (if x37 then (some (.inl (true, IntKind.i64.wrap (x38 + 1)))) else (Option.bind (at_ x2 x38) (fun (y41 : Int) => some (.inl (y41 == x24, IntKind.i64.wrap (x38 + 1)))))) else (some (.inr (x37)))
def F.law13_keep.r3 (x23 : Int) (x24 : Int) (x25 : Int) (x26 : Int) (x27 : Int) (x28 : Int) (x29 : Int) (x30 : Int) (x31 : Int) (x32 : Int) (x50 : Bool) : Option (Int × Int × Int × Int × Int × Int × Int × Int × Int) :=
  if x50 then (Option.bind (at_ ([x25, x26, x27, x28, x29, x30, x31, x32] : List Int) x24) (fun (y52 : Int) => some ((IntKind.i64.wrap (x23 + 1), if x24.toNat = 0 then 0 else x25, if x24.toNat = 1 then 0 else x26, if x24.toNat = 2 then 0 else x27, if x24.toNat = 3 then 0 else x28, if x24.toNat = 4 then 0 else x29, if x24.toNat = 5 then 0 else x30, if x24.toNat = 6 then 0 else x31, if x24.toNat = 7 then 0 else x32)))) else (some ((x23, x25, x26, x27, x28, x29, x30, x31, x32)))
def F.law13_keep.r2 (x23 : Int) (x24 : Int) (x25 : Int) (x26 : Int) (x27 : Int) (x28 : Int) (x29 : Int) (x30 : Int) (x31 : Int) (x32 : Int) (x45 : Bool) : Option (Int × Int × Int × Int × Int × Int × Int × Int × Int) :=
  Option.bind (if !x45 then (Option.bind (at_ ([x25, x26, x27, x28, x29, x30, x31, x32] : List Int) x24) (fun (y48 : Int) => some ((y48 != 0)))) else (some (false))) (fun x => F.law13_keep.r3 x23 x24 x25 x26 x27 x28 x29 x30 x31 x32 x)
def F.law13_keep.r4 (x24 : Int) (x54 : Int) (x55 : Int) (x56 : Int) (x57 : Int) (x58 : Int) (x59 : Int) (x60 : Int) (x61 : Int) (x62 : Int) : Option ((Int × Int × Int × Int × Int × Int × Int × Int × Int × Int) ⊕ (Int × Int × Int × Int × Int × Int × Int × Int × Int)) :=
  some (.inl (x54, IntKind.i64.wrap (x24 + 1), x55, x56, x57, x58, x59, x60, x61, x62))
def F.law13_keep.l5 (x2 : List Int) (x23 : Int) (x24 : Int) (x25 : Int) (x26 : Int) (x27 : Int) (x28 : Int) (x29 : Int) (x30 : Int) (x31 : Int) (x32 : Int) : Option ((Int × Int × Int × Int × Int × Int × Int × Int × Int × Int) ⊕ (Int × Int × Int × Int × Int × Int × Int × Int × Int)) :=
  if decide (x24 < 8) then (Option.bind (Option.bind (iter (fun x => F.law13_keep.l1 x2 x24 x.1 x.2) FUEL (false, 0)) (fun x => F.law13_keep.r2 x23 x24 x25 x26 x27 x28 x29 x30 x31 x32 x)) (fun x => F.law13_keep.r4 x24 x.1 x.2.1 x.2.2.1 x.2.2.2.1 x.2.2.2.2.1 x.2.2.2.2.2.1 x.2.2.2.2.2.2.1 x.2.2.2.2.2.2.2.1 x.2.2.2.2.2.2.2.2)) else (some (.inr ((x23, x25, x26, x27, x28, x29, x30, x31, x32))))
def F.law13_keep.r6 (x2 : List Int) (m0 : keyring_Ring) (m1 : guard_Guard) (m2 : disk_Disk) (m3 : law13_plain) (x63 : Int) (x64 : Int) (x65 : Int) (x66 : Int) (x67 : Int) (x68 : Int) (x69 : Int) (x70 : Int) (x71 : Int) : Option (Bool × keyring_Ring × disk_Disk × law13_plain) :=
  Option.bind (F.keyring_Ring_Keep x2 m0 m1 m2) (fun (r72 : Int × Int × keyring_Ring × disk_Disk) => if r72.1 == x63 then (some ((r72.2.1 == 0, r72.2.2.1, r72.2.2.2, (⟨(⟨x64, x65, x66, x67, x68, x69, x70, x71⟩ : A8_Inti64), m3.boot_, IntKind.i64.wrap (m3.shred_ + x63)⟩ : law13_plain)))) else (some ((false, r72.2.2.1, r72.2.2.2, (⟨(⟨x64, x65, x66, x67, x68, x69, x70, x71⟩ : A8_Inti64), m3.boot_, IntKind.i64.wrap (m3.shred_ + x63)⟩ : law13_plain)))))
def F.law13_keep (x2 : List Int) (m0 : keyring_Ring) (m1 : guard_Guard) (m2 : disk_Disk) (m3 : law13_plain) : Option (Bool × keyring_Ring × disk_Disk × law13_plain) :=
  Option.bind (iter (fun x => F.law13_keep.l5 x2 x.1 x.2.1 x.2.2.1 x.2.2.2.1 x.2.2.2.2.1 x.2.2.2.2.2.1 x.2.2.2.2.2.2.1 x.2.2.2.2.2.2.2.1 x.2.2.2.2.2.2.2.2.1 x.2.2.2.2.2.2.2.2.2) FUEL (0, 0, m3.keys_.e0, m3.keys_.e1, m3.keys_.e2, m3.keys_.e3, m3.keys_.e4, m3.keys_.e5, m3.keys_.e6, m3.keys_.e7)) (fun x => F.law13_keep.r6 x2 m0 m1 m2 m3 x.1 x.2.1 x.2.2.1 x.2.2.2.1 x.2.2.2.2.1 x.2.2.2.2.2.1 x.2.2.2.2.2.2.1 x.2.2.2.2.2.2.2.1 x.2.2.2.2.2.2.2.2)
set_option maxRecDepth 100000 in
set_option maxHeartbeats 4000000 in
theorem c_law13_keep (I : Hl) (x2 : List Int) (m0 : keyring_Ring) (m1 : guard_Guard) (m2 : disk_Disk) (m3 : law13_plain) (p0 : Option Addr) (c0 : Nat) (b0 : Nat) (b1 : Nat) (p1 : Option Addr) (c1 : Nat) (p2 : Nat) (b2 : Nat) (b3 : Nat) (res : Bool × keyring_Ring × disk_Disk × law13_plain) (hF : F.law13_keep x2 m0 m1 m2 m3 = some res) (hr0 : ro I (eInt .i64) p0 c0 x2) : Tr Tryz.prog 10 [.pointer (some ⟨b0, 0, none⟩), .pointer (some ⟨b3, 0, none⟩), .slice p0 x2.length c0] [imm I, pt b0 #[.pointer (some ⟨b1, 0, none⟩), .int .i64 m0.base_, .int .i64 m0.slots_, .int .i64 m0.shred_] 78, pt b1 #[.pointer (some ⟨b2, 0, none⟩), .int .i64 m1.boot_, .int .i64 m1.n_] 75, pt b2 #[.slice p1 m2.sure_.length c1, .map (some p2), .bool m2.off_, .bool m2.armed_, .int .i64 m2.left_, .int .u64 m2.fall_.Keep, .int .i64 m2.fall_.Tear, .int .i64 m2.acts_, .int .i64 m2.falls_] 52, pt b3 #[.int .i64 m3.keys_.e0, .int .i64 m3.keys_.e1, .int .i64 m3.keys_.e2, .int .i64 m3.keys_.e3, .int .i64 m3.keys_.e4, .int .i64 m3.keys_.e5, .int .i64 m3.keys_.e6, .int .i64 m3.keys_.e7, .int .i64 m3.boot_, .int .i64 m3.shred_] 30, own e_disk_sector 55 p1 c1 m2.sure_, mpo (kInt .i64) (fun x : disk_sector => Value.agg #[.string x.s_, .int .i64 x.at_]) p2 m2.wait_] (fun r H' => ∃ (pq1 : Option Addr), ∃ (cq2 : Nat), ∃ (bq4 : Nat), r = .bool res.1 ∧ H' = [imm I, pt b0 #[.pointer (some ⟨b1, 0, none⟩), .int .i64 res.2.1.base_, .int .i64 res.2.1.slots_, .int .i64 res.2.1.shred_] 78, pt b1 #[.pointer (some ⟨b2, 0, none⟩), .int .i64 m1.boot_, .int .i64 m1.n_] 75, pt b2 #[.slice pq1 res.2.2.1.sure_.length cq2, .map (some bq4), .bool res.2.2.1.off_, .bool res.2.2.1.armed_, .int .i64 res.2.2.1.left_, .int .u64 res.2.2.1.fall_.Keep, .int .i64 res.2.2.1.fall_.Tear, .int .i64 res.2.2.1.acts_, .int .i64 res.2.2.1.falls_] 52, pt b3 #[.int .i64 res.2.2.2.keys_.e0, .int .i64 res.2.2.2.keys_.e1, .int .i64 res.2.2.2.keys_.e2, .int .i64 res.2.2.2.keys_.e3, .int .i64 res.2.2.2.keys_.e4, .int .i64 res.2.2.2.keys_.e5, .int .i64 res.2.2.2.keys_.e6, .int .i64 res.2.2.2.keys_.e7, .int .i64 res.2.2.2.boot_, .int .i64 res.2.2.2.shred_] 30, own e_disk_sector 55 pq1 cq2 res.2.2.1.sure_, mpo (kInt .i64) (fun x : disk_sector => Value.agg #[.string x.s_, .int .i64 x.at_]) bq4 res.2.2.1.wait_]) := by
  unfold F.law13_keep at hF
  refine tr_of_cw (fn := Tryz.f10) Tryz.func10 rfl (Nat.le_of_ble_eq_true rfl) 72 rfl fun F0 w0 => ?_
  refine cw_keep [0, 1, 2] (L' := [(0, .pointer (some ⟨b0, 0, none⟩)), (1, .pointer (some ⟨b3, 0, none⟩)), (2, .slice p0 x2.length c0)]) rfl ?_
  refine cw_state (S' := SAT w0 ([imm I, pt b0 #[.pointer (some ⟨b1, 0, none⟩), .int .i64 m0.base_, .int .i64 m0.slots_, .int .i64 m0.shred_] 78, pt b1 #[.pointer (some ⟨b2, 0, none⟩), .int .i64 m1.boot_, .int .i64 m1.n_] 75, pt b2 #[.slice p1 m2.sure_.length c1, .map (some p2), .bool m2.off_, .bool m2.armed_, .int .i64 m2.left_, .int .u64 m2.fall_.Keep, .int .i64 m2.fall_.Tear, .int .i64 m2.acts_, .int .i64 m2.falls_] 52, pt b3 #[.int .i64 m3.keys_.e0, .int .i64 m3.keys_.e1, .int .i64 m3.keys_.e2, .int .i64 m3.keys_.e3, .int .i64 m3.keys_.e4, .int .i64 m3.keys_.e5, .int .i64 m3.keys_.e6, .int .i64 m3.keys_.e7, .int .i64 m3.boot_, .int .i64 m3.shred_] 30, own e_disk_sector 55 p1 c1 m2.sure_, mpo (kInt .i64) (fun x : disk_sector => Value.agg #[.string x.s_, .int .i64 x.at_]) p2 m2.wait_] ++ F0)) (fun w hs => hs) ?_
  refine cw_seq ?_
  refine cw_region ?_
  refine ow_vals 1 (j := 1) [0, 1, 2] [(0, .pointer (some ⟨b0, 0, none⟩)), (1, .pointer (some ⟨b3, 0, none⟩)), (2, .slice p0 x2.length c0)] rfl (by kernel_rfl) ?_
  refine ow_end rfl ?_
  refine ew_then ?_
  refine cw_seq ?_
  refine cw_region ?_
  refine ow_vals 1 (j := 1) [0, 1, 2, 7] [(0, .pointer (some ⟨b0, 0, none⟩)), (1, .pointer (some ⟨b3, 0, none⟩)), (2, .slice p0 x2.length c0), (7, .int .i64 0)] rfl (by kernel_rfl) ?_
  refine ow_end rfl ?_
  refine ew_then ?_
  obtain ⟨v21, hF, hK21⟩ := bind_some hF
  refine cw_mid (fun a w => ∃ (x63 : Int), ∃ (x64 : Int), ∃ (x65 : Int), ∃ (x66 : Int), ∃ (x67 : Int), ∃ (x68 : Int), ∃ (x69 : Int), ∃ (x70 : Int), ∃ (x71 : Int), (x63, x64, x65, x66, x67, x68, x69, x70, x71) = v21 ∧ Fr 72 [(0, .pointer (some ⟨b0, 0, none⟩)), (1, .pointer (some ⟨b3, 0, none⟩)), (2, .slice p0 x2.length c0), (7, .int .i64 x63)] a ∧ SAT w0 ([imm I, pt b0 #[.pointer (some ⟨b1, 0, none⟩), .int .i64 m0.base_, .int .i64 m0.slots_, .int .i64 m0.shred_] 78, pt b1 #[.pointer (some ⟨b2, 0, none⟩), .int .i64 m1.boot_, .int .i64 m1.n_] 75, pt b2 #[.slice p1 m2.sure_.length c1, .map (some p2), .bool m2.off_, .bool m2.armed_, .int .i64 m2.left_, .int .u64 m2.fall_.Keep, .int .i64 m2.fall_.Tear, .int .i64 m2.acts_, .int .i64 m2.falls_] 52, pt b3 #[.int .i64 x64, .int .i64 x65, .int .i64 x66, .int .i64 x67, .int .i64 x68, .int .i64 x69, .int .i64 x70, .int .i64 x71, .int .i64 m3.boot_, .int .i64 m3.shred_] 30, own e_disk_sector 55 p1 c1 m2.sure_, mpo (kInt .i64) (fun x : disk_sector => Value.agg #[.string x.s_, .int .i64 x.at_]) p2 m2.wait_] ++ F0) w) ?_ ?_
  · refine cw_seq ?_
    refine cw_region ?_
    refine ow_vals 1 (j := 1) [0, 1, 2, 7, 8] [(0, .pointer (some ⟨b0, 0, none⟩)), (1, .pointer (some ⟨b3, 0, none⟩)), (2, .slice p0 x2.length c0), (7, .int .i64 0), (8, .int .i64 0)] rfl (by kernel_rfl) ?_
    refine ow_end rfl ?_
    refine ew_then ?_
    refine cw_block ?_
    refine fun a w hf hs => wp_rounds (fun k a w => ∃ (x23 : Int), ∃ (x24 : Int), ∃ (x25 : Int), ∃ (x26 : Int), ∃ (x27 : Int), ∃ (x28 : Int), ∃ (x29 : Int), ∃ (x30 : Int), ∃ (x31 : Int), ∃ (x32 : Int), iter (fun x => F.law13_keep.l5 x2 x.1 x.2.1 x.2.2.1 x.2.2.2.1 x.2.2.2.2.1 x.2.2.2.2.2.1 x.2.2.2.2.2.2.1 x.2.2.2.2.2.2.2.1 x.2.2.2.2.2.2.2.2.1 x.2.2.2.2.2.2.2.2.2) k (x23, x24, x25, x26, x27, x28, x29, x30, x31, x32) = some v21 ∧ Fr 72 [(0, .pointer (some ⟨b0, 0, none⟩)), (1, .pointer (some ⟨b3, 0, none⟩)), (2, .slice p0 x2.length c0), (7, .int .i64 x23), (8, .int .i64 x24)] a ∧ SAT w0 ([imm I, pt b0 #[.pointer (some ⟨b1, 0, none⟩), .int .i64 m0.base_, .int .i64 m0.slots_, .int .i64 m0.shred_] 78, pt b1 #[.pointer (some ⟨b2, 0, none⟩), .int .i64 m1.boot_, .int .i64 m1.n_] 75, pt b2 #[.slice p1 m2.sure_.length c1, .map (some p2), .bool m2.off_, .bool m2.armed_, .int .i64 m2.left_, .int .u64 m2.fall_.Keep, .int .i64 m2.fall_.Tear, .int .i64 m2.acts_, .int .i64 m2.falls_] 52, pt b3 #[.int .i64 x25, .int .i64 x26, .int .i64 x27, .int .i64 x28, .int .i64 x29, .int .i64 x30, .int .i64 x31, .int .i64 x32, .int .i64 m3.boot_, .int .i64 m3.shred_] 30, own e_disk_sector 55 p1 c1 m2.sure_, mpo (kInt .i64) (fun x : disk_sector => Value.agg #[.string x.s_, .int .i64 x.at_]) p2 m2.wait_] ++ F0) w) ?_ FUEL a w ⟨0, 0, m3.keys_.e0, m3.keys_.e1, m3.keys_.e2, m3.keys_.e3, m3.keys_.e4, m3.keys_.e5, m3.keys_.e6, m3.keys_.e7, hF, hf.keep [0, 1, 2, 7, 8], sat_to [0, 0, 0, 0, 0, 0, 0] 0 rfl hs⟩
    clear hf hs
    clear a w hF
    rintro k a w ⟨x23, x24, x25, x26, x27, x28, x29, x30, x31, x32, hF2, hf, hs⟩
    obtain ⟨k, r22, rfl, hF, hL22⟩ := iter_some hF2
    clear hF2
    revert a w
    show CW _ _ _ 72 [(0, .pointer (some ⟨b0, 0, none⟩)), (1, .pointer (some ⟨b3, 0, none⟩)), (2, .slice p0 x2.length c0), (7, .int .i64 x23), (8, .int .i64 x24)] (SAT w0 ([imm I, pt b0 #[.pointer (some ⟨b1, 0, none⟩), .int .i64 m0.base_, .int .i64 m0.slots_, .int .i64 m0.shred_] 78, pt b1 #[.pointer (some ⟨b2, 0, none⟩), .int .i64 m1.boot_, .int .i64 m1.n_] 75, pt b2 #[.slice p1 m2.sure_.length c1, .map (some p2), .bool m2.off_, .bool m2.armed_, .int .i64 m2.left_, .int .u64 m2.fall_.Keep, .int .i64 m2.fall_.Tear, .int .i64 m2.acts_, .int .i64 m2.falls_] 52, pt b3 #[.int .i64 x25, .int .i64 x26, .int .i64 x27, .int .i64 x28, .int .i64 x29, .int .i64 x30, .int .i64 x31, .int .i64 x32, .int .i64 m3.boot_, .int .i64 m3.shred_] 30, own e_disk_sector 55 p1 c1 m2.sure_, mpo (kInt .i64) (fun x : disk_sector => Value.agg #[.string x.s_, .int .i64 x.at_]) p2 m2.wait_] ++ F0))
    try dsimp only at hF
    unfold F.law13_keep.l5 at hF
    refine cw_seq ?_
    refine cw_seq ?_
    refine cw_region ?_
    refine ow_vals 2 (j := 2) [0, 1, 2, 7, 8, 14] [(0, .pointer (some ⟨b0, 0, none⟩)), (1, .pointer (some ⟨b3, 0, none⟩)), (2, .slice p0 x2.length c0), (7, .int .i64 x23), (8, .int .i64 x24), (14, .bool (decide (x24 < 8)))] rfl (by kernel_rfl) ?_
    refine ow_end rfl ?_
    refine ew_then ?_
    rcases if_some hF with ⟨h33, hF⟩ | ⟨h33, hF⟩
    · refine cw_cond_t rfl rfl h33 ?_
      refine cw_skip ?_
      refine ew_then ?_
      obtain ⟨v34, hF, hK34⟩ := bind_some hF
      refine cw_mid (fun a w => ∃ (x54 : Int), ∃ (x55 : Int), ∃ (x56 : Int), ∃ (x57 : Int), ∃ (x58 : Int), ∃ (x59 : Int), ∃ (x60 : Int), ∃ (x61 : Int), ∃ (x62 : Int), (x54, x55, x56, x57, x58, x59, x60, x61, x62) = v34 ∧ Fr 72 [(0, .pointer (some ⟨b0, 0, none⟩)), (1, .pointer (some ⟨b3, 0, none⟩)), (2, .slice p0 x2.length c0), (7, .int .i64 x54), (8, .int .i64 x24)] a ∧ SAT w0 ([imm I, pt b0 #[.pointer (some ⟨b1, 0, none⟩), .int .i64 m0.base_, .int .i64 m0.slots_, .int .i64 m0.shred_] 78, pt b1 #[.pointer (some ⟨b2, 0, none⟩), .int .i64 m1.boot_, .int .i64 m1.n_] 75, pt b2 #[.slice p1 m2.sure_.length c1, .map (some p2), .bool m2.off_, .bool m2.armed_, .int .i64 m2.left_, .int .u64 m2.fall_.Keep, .int .i64 m2.fall_.Tear, .int .i64 m2.acts_, .int .i64 m2.falls_] 52, pt b3 #[.int .i64 x55, .int .i64 x56, .int .i64 x57, .int .i64 x58, .int .i64 x59, .int .i64 x60, .int .i64 x61, .int .i64 x62, .int .i64 m3.boot_, .int .i64 m3.shred_] 30, own e_disk_sector 55 p1 c1 m2.sure_, mpo (kInt .i64) (fun x : disk_sector => Value.agg #[.string x.s_, .int .i64 x.at_]) p2 m2.wait_] ++ F0) w) ?_ ?_
      · refine cw_block ?_
        refine cw_seq ?_
        refine cw_region ?_
        refine ow_vals 1 (j := 1) [0, 1, 2, 7, 8, 9] [(0, .pointer (some ⟨b0, 0, none⟩)), (1, .pointer (some ⟨b3, 0, none⟩)), (2, .slice p0 x2.length c0), (7, .int .i64 x23), (8, .int .i64 x24), (9, .bool false)] rfl (by kernel_rfl) ?_
        refine ow_end rfl ?_
        refine ew_then ?_
        obtain ⟨v35, hF, hK35⟩ := bind_some hF
        refine cw_mid (fun a w => ∃ (x45 : Bool), x45 = v35 ∧ Fr 72 [(0, .pointer (some ⟨b0, 0, none⟩)), (1, .pointer (some ⟨b3, 0, none⟩)), (2, .slice p0 x2.length c0), (7, .int .i64 x23), (8, .int .i64 x24), (9, .bool x45)] a ∧ SAT w0 ([imm I, pt b0 #[.pointer (some ⟨b1, 0, none⟩), .int .i64 m0.base_, .int .i64 m0.slots_, .int .i64 m0.shred_] 78, pt b1 #[.pointer (some ⟨b2, 0, none⟩), .int .i64 m1.boot_, .int .i64 m1.n_] 75, pt b2 #[.slice p1 m2.sure_.length c1, .map (some p2), .bool m2.off_, .bool m2.armed_, .int .i64 m2.left_, .int .u64 m2.fall_.Keep, .int .i64 m2.fall_.Tear, .int .i64 m2.acts_, .int .i64 m2.falls_] 52, pt b3 #[.int .i64 x25, .int .i64 x26, .int .i64 x27, .int .i64 x28, .int .i64 x29, .int .i64 x30, .int .i64 x31, .int .i64 x32, .int .i64 m3.boot_, .int .i64 m3.shred_] 30, own e_disk_sector 55 p1 c1 m2.sure_, mpo (kInt .i64) (fun x : disk_sector => Value.agg #[.string x.s_, .int .i64 x.at_]) p2 m2.wait_] ++ F0) w) ?_ ?_
        · refine cw_seq ?_
          refine cw_region ?_
          refine ow_vals 1 (j := 1) [0, 1, 2, 7, 8, 9, 10] [(0, .pointer (some ⟨b0, 0, none⟩)), (1, .pointer (some ⟨b3, 0, none⟩)), (2, .slice p0 x2.length c0), (7, .int .i64 x23), (8, .int .i64 x24), (9, .bool false), (10, .int .i64 0)] rfl (by kernel_rfl) ?_
          refine ow_end rfl ?_
          refine ew_then ?_
          refine cw_block ?_
          refine fun a w hf hs => wp_rounds (fun k a w => ∃ (x37 : Bool), ∃ (x38 : Int), iter (fun x => F.law13_keep.l1 x2 x24 x.1 x.2) k (x37, x38) = some v35 ∧ Fr 72 [(0, .pointer (some ⟨b0, 0, none⟩)), (1, .pointer (some ⟨b3, 0, none⟩)), (2, .slice p0 x2.length c0), (7, .int .i64 x23), (8, .int .i64 x24), (9, .bool x37), (10, .int .i64 x38)] a ∧ SAT w0 ([imm I, pt b0 #[.pointer (some ⟨b1, 0, none⟩), .int .i64 m0.base_, .int .i64 m0.slots_, .int .i64 m0.shred_] 78, pt b1 #[.pointer (some ⟨b2, 0, none⟩), .int .i64 m1.boot_, .int .i64 m1.n_] 75, pt b2 #[.slice p1 m2.sure_.length c1, .map (some p2), .bool m2.off_, .bool m2.armed_, .int .i64 m2.left_, .int .u64 m2.fall_.Keep, .int .i64 m2.fall_.Tear, .int .i64 m2.acts_, .int .i64 m2.falls_] 52, pt b3 #[.int .i64 x25, .int .i64 x26, .int .i64 x27, .int .i64 x28, .int .i64 x29, .int .i64 x30, .int .i64 x31, .int .i64 x32, .int .i64 m3.boot_, .int .i64 m3.shred_] 30, own e_disk_sector 55 p1 c1 m2.sure_, mpo (kInt .i64) (fun x : disk_sector => Value.agg #[.string x.s_, .int .i64 x.at_]) p2 m2.wait_] ++ F0) w) ?_ FUEL a w ⟨false, 0, hF, hf.keep [0, 1, 2, 7, 8, 9, 10], sat_to [0, 0, 0, 0, 0, 0, 0] 0 rfl hs⟩
          clear hf hs
          clear a w hF
          rintro k a w ⟨x37, x38, hF2, hf, hs⟩
          obtain ⟨k, r36, rfl, hF, hL36⟩ := iter_some hF2
          clear hF2
          revert a w
          show CW _ _ _ 72 [(0, .pointer (some ⟨b0, 0, none⟩)), (1, .pointer (some ⟨b3, 0, none⟩)), (2, .slice p0 x2.length c0), (7, .int .i64 x23), (8, .int .i64 x24), (9, .bool x37), (10, .int .i64 x38)] (SAT w0 ([imm I, pt b0 #[.pointer (some ⟨b1, 0, none⟩), .int .i64 m0.base_, .int .i64 m0.slots_, .int .i64 m0.shred_] 78, pt b1 #[.pointer (some ⟨b2, 0, none⟩), .int .i64 m1.boot_, .int .i64 m1.n_] 75, pt b2 #[.slice p1 m2.sure_.length c1, .map (some p2), .bool m2.off_, .bool m2.armed_, .int .i64 m2.left_, .int .u64 m2.fall_.Keep, .int .i64 m2.fall_.Tear, .int .i64 m2.acts_, .int .i64 m2.falls_] 52, pt b3 #[.int .i64 x25, .int .i64 x26, .int .i64 x27, .int .i64 x28, .int .i64 x29, .int .i64 x30, .int .i64 x31, .int .i64 x32, .int .i64 m3.boot_, .int .i64 m3.shred_] 30, own e_disk_sector 55 p1 c1 m2.sure_, mpo (kInt .i64) (fun x : disk_sector => Value.agg #[.string x.s_, .int .i64 x.at_]) p2 m2.wait_] ++ F0))
          try dsimp only at hF
          unfold F.law13_keep.l1 at hF
          refine cw_seq ?_
          refine cw_seq ?_
          refine cw_region ?_
          refine ow_vals 4 (j := 4) [0, 1, 2, 7, 8, 9, 10, 20] [(0, .pointer (some ⟨b0, 0, none⟩)), (1, .pointer (some ⟨b3, 0, none⟩)), (2, .slice p0 x2.length c0), (7, .int .i64 x23), (8, .int .i64 x24), (9, .bool x37), (10, .int .i64 x38), (20, .bool (decide (x38 < (x2.length : Int))))] rfl (by kernel_rfl) ?_
          refine ow_end rfl ?_
          refine ew_then ?_
          rcases if_some hF with ⟨h39, hF⟩ | ⟨h39, hF⟩
          · refine cw_cond_t rfl rfl h39 ?_
            refine cw_skip ?_
            refine ew_then ?_
            refine cw_seq ?_
            refine cw_block ?_
            refine cw_region ?_
            refine ow_vals 2 (j := 2) [0, 1, 2, 7, 8, 10, 24] [(0, .pointer (some ⟨b0, 0, none⟩)), (1, .pointer (some ⟨b3, 0, none⟩)), (2, .slice p0 x2.length c0), (7, .int .i64 x23), (8, .int .i64 x24), (10, .int .i64 x38), (24, .bool x37)] rfl (by kernel_rfl) ?_
            rcases if_some hF with ⟨h40, hF⟩ | ⟨h40, hF⟩
            · refine ow_slots (L' := [(0, .pointer (some ⟨b0, 0, none⟩)), (1, .pointer (some ⟨b3, 0, none⟩)), (2, .slice p0 x2.length c0), (7, .int .i64 x23), (8, .int .i64 x24), (10, .int .i64 x38), (24, .bool true)]) (by rw [h40]) ?_
              refine ow_vals 8 (j := 10) [0, 1, 2, 7, 8, 9, 10] [(0, .pointer (some ⟨b0, 0, none⟩)), (1, .pointer (some ⟨b3, 0, none⟩)), (2, .slice p0 x2.length c0), (7, .int .i64 x23), (8, .int .i64 x24), (9, .bool true), (10, .int .i64 x38)] rfl (by kernel_rfl) ?_
              refine ow_end rfl ?_
              refine ew_blk ?_
              refine ew_then ?_
              refine cw_region ?_
              refine ow_vals 3 (j := 3) [0, 1, 2, 7, 8, 9, 10] [(0, .pointer (some ⟨b0, 0, none⟩)), (1, .pointer (some ⟨b3, 0, none⟩)), (2, .slice p0 x2.length c0), (7, .int .i64 x23), (8, .int .i64 x24), (9, .bool true), (10, .int .i64 (IntKind.i64.wrap (x38 + 1)))] rfl (by kernel_rfl) ?_
              refine ow_end rfl ?_
              have hR := Option.some.inj hF
              subst hR
              have hR := hL36
              try dsimp only at hR
              exact fun a w hf hs => ⟨k, Nat.lt_succ_self k, true, IntKind.i64.wrap (x38 + 1), hR, hf.keep [0, 1, 2, 7, 8, 9, 10], sat_to [0, 0, 0, 0, 0, 0, 0] 0 rfl hs⟩
            refine ow_slots (L' := [(0, .pointer (some ⟨b0, 0, none⟩)), (1, .pointer (some ⟨b3, 0, none⟩)), (2, .slice p0 x2.length c0), (7, .int .i64 x23), (8, .int .i64 x24), (10, .int .i64 x38), (24, .bool false)]) (by rw [h40]) ?_
            refine ow_vals 2 (j := 4) [0, 1, 2, 7, 8, 10, 24, 25, 26] [(0, .pointer (some ⟨b0, 0, none⟩)), (1, .pointer (some ⟨b3, 0, none⟩)), (2, .slice p0 x2.length c0), (7, .int .i64 x23), (8, .int .i64 x24), (10, .int .i64 x38), (24, .bool false), (25, .slice p0 x2.length c0), (26, .int .i64 x38)] rfl (by kernel_rfl) ?_
            obtain ⟨y41, h42, hF⟩ := bind_some hF
            refine ow_pw rfl (pw_index_ro (E := 3) 1 hr0 rfl rfl rfl rfl rfl (by kernel_rfl) rfl rfl rfl h42 fun q43 h44 => nw_ow ?_)
            refine ow_pw rfl (pw_quiet (v := .int .i64 y41) rfl rfl rfl rfl (q_load_el0 0 rfl h44 rfl rfl (by kernel_rfl)) (nw_ow ?_))
            refine ow_vals 4 (j := 10) [0, 1, 2, 7, 8, 9, 10] [(0, .pointer (some ⟨b0, 0, none⟩)), (1, .pointer (some ⟨b3, 0, none⟩)), (2, .slice p0 x2.length c0), (7, .int .i64 x23), (8, .int .i64 x24), (9, .bool (y41 == x24)), (10, .int .i64 x38)] rfl (by kernel_rfl) ?_
            refine ow_end rfl ?_
            refine ew_blk ?_
            refine ew_then ?_
            refine cw_region ?_
            refine ow_vals 3 (j := 3) [0, 1, 2, 7, 8, 9, 10] [(0, .pointer (some ⟨b0, 0, none⟩)), (1, .pointer (some ⟨b3, 0, none⟩)), (2, .slice p0 x2.length c0), (7, .int .i64 x23), (8, .int .i64 x24), (9, .bool (y41 == x24)), (10, .int .i64 (IntKind.i64.wrap (x38 + 1)))] rfl (by kernel_rfl) ?_
            refine ow_end rfl ?_
            have hR := Option.some.inj hF
            subst hR
            have hR := hL36
            try dsimp only at hR
            exact fun a w hf hs => ⟨k, Nat.lt_succ_self k, y41 == x24, IntKind.i64.wrap (x38 + 1), hR, hf.keep [0, 1, 2, 7, 8, 9, 10], sat_to [0, 0, 0, 0, 0, 0, 0] 0 rfl hs⟩
          refine cw_cond_f rfl rfl h39 ?_
          refine cw_exit ?_
          refine ew_then_exit ?_
          refine ew_then_exit ?_
          refine ew_blk_exit ?_
          have hR := Option.some.inj hF
          subst hR
          have hR := hL36
          try dsimp only at hR
          exact fun a w hf hs => ⟨x37, hR, hf.keep [0, 1, 2, 7, 8, 9], sat_to [0, 0, 0, 0, 0, 0, 0] 0 rfl hs⟩
        rintro a w ⟨x45, hv, hf, hs⟩
        subst hv
        replace hF := hK35
        clear hK35
        try dsimp only at hF
        revert a w
        show CW _ _ _ 72 [(0, .pointer (some ⟨b0, 0, none⟩)), (1, .pointer (some ⟨b3, 0, none⟩)), (2, .slice p0 x2.length c0), (7, .int .i64 x23), (8, .int .i64 x24), (9, .bool x45)] (SAT w0 ([imm I, pt b0 #[.pointer (some ⟨b1, 0, none⟩), .int .i64 m0.base_, .int .i64 m0.slots_, .int .i64 m0.shred_] 78, pt b1 #[.pointer (some ⟨b2, 0, none⟩), .int .i64 m1.boot_, .int .i64 m1.n_] 75, pt b2 #[.slice p1 m2.sure_.length c1, .map (some p2), .bool m2.off_, .bool m2.armed_, .int .i64 m2.left_, .int .u64 m2.fall_.Keep, .int .i64 m2.fall_.Tear, .int .i64 m2.acts_, .int .i64 m2.falls_] 52, pt b3 #[.int .i64 x25, .int .i64 x26, .int .i64 x27, .int .i64 x28, .int .i64 x29, .int .i64 x30, .int .i64 x31, .int .i64 x32, .int .i64 m3.boot_, .int .i64 m3.shred_] 30, own e_disk_sector 55 p1 c1 m2.sure_, mpo (kInt .i64) (fun x : disk_sector => Value.agg #[.string x.s_, .int .i64 x.at_]) p2 m2.wait_] ++ F0))
        unfold F.law13_keep.r2 at hF
        obtain ⟨v46, hF, hK46⟩ := bind_some hF
        refine cw_mid (fun a w => ∃ (x50 : Bool), x50 = v46 ∧ Fr 72 [(0, .pointer (some ⟨b0, 0, none⟩)), (1, .pointer (some ⟨b3, 0, none⟩)), (2, .slice p0 x2.length c0), (7, .int .i64 x23), (8, .int .i64 x24), (42, .bool x50)] a ∧ SAT w0 ([imm I, pt b0 #[.pointer (some ⟨b1, 0, none⟩), .int .i64 m0.base_, .int .i64 m0.slots_, .int .i64 m0.shred_] 78, pt b1 #[.pointer (some ⟨b2, 0, none⟩), .int .i64 m1.boot_, .int .i64 m1.n_] 75, pt b2 #[.slice p1 m2.sure_.length c1, .map (some p2), .bool m2.off_, .bool m2.armed_, .int .i64 m2.left_, .int .u64 m2.fall_.Keep, .int .i64 m2.fall_.Tear, .int .i64 m2.acts_, .int .i64 m2.falls_] 52, pt b3 #[.int .i64 x25, .int .i64 x26, .int .i64 x27, .int .i64 x28, .int .i64 x29, .int .i64 x30, .int .i64 x31, .int .i64 x32, .int .i64 m3.boot_, .int .i64 m3.shred_] 30, own e_disk_sector 55 p1 c1 m2.sure_, mpo (kInt .i64) (fun x : disk_sector => Value.agg #[.string x.s_, .int .i64 x.at_]) p2 m2.wait_] ++ F0) w) ?_ ?_
        · refine cw_region ?_
          refine ow_vals 3 (j := 3) [0, 1, 2, 7, 8, 34] [(0, .pointer (some ⟨b0, 0, none⟩)), (1, .pointer (some ⟨b3, 0, none⟩)), (2, .slice p0 x2.length c0), (7, .int .i64 x23), (8, .int .i64 x24), (34, .bool (!x45))] rfl (by kernel_rfl) ?_
          rcases if_some hF with ⟨h47, hF⟩ | ⟨h47, hF⟩
          · refine ow_slots (L' := [(0, .pointer (some ⟨b0, 0, none⟩)), (1, .pointer (some ⟨b3, 0, none⟩)), (2, .slice p0 x2.length c0), (7, .int .i64 x23), (8, .int .i64 x24), (34, .bool true)]) (by rw [h47]) ?_
            refine ow_vals 4 (j := 7) [0, 1, 2, 7, 8, 34, 36, 38] [(0, .pointer (some ⟨b0, 0, none⟩)), (1, .pointer (some ⟨b3, 0, none⟩)), (2, .slice p0 x2.length c0), (7, .int .i64 x23), (8, .int .i64 x24), (34, .bool true), (36, .int .i64 x24), (38, .pointer (some ⟨b3, 0, none⟩))] rfl (by kernel_rfl) ?_
            obtain ⟨y48, h49, hF⟩ := bind_some hF
            refine ow_pw rfl (pw_quiet (v := .pointer (some ((⟨b3, 0, none⟩ : Addr).add (x24.toNat * 1)))) rfl rfl rfl rfl (q_index_objel (l := ([x25, x26, x27, x28, x29, x30, x31, x32] : List Int)) (m := 8) (E := 3) (sz := 1) (tot := 8) rfl (by kernel_rfl) rfl rfl rfl h49) (nw_ow ?_))
            refine ow_pw rfl (pw_quiet (v := .int .i64 y48) rfl rfl rfl rfl (q_load_objel (e := (eInt .i64)) (l := ([x25, x26, x27, x28, x29, x30, x31, x32] : List Int)) 4 ([] : List Go.Value) ([.int .i64 m3.boot_, .int .i64 m3.shred_] : List Go.Value) rfl rfl rfl rfl rfl (by kernel_rfl) rfl h49 rfl) (nw_ow ?_))
            refine ow_vals 2 (j := 11) [0, 1, 2, 7, 8, 42] [(0, .pointer (some ⟨b0, 0, none⟩)), (1, .pointer (some ⟨b3, 0, none⟩)), (2, .slice p0 x2.length c0), (7, .int .i64 x23), (8, .int .i64 x24), (42, .bool (y48 != 0))] rfl (by kernel_rfl) ?_
            refine ow_end rfl ?_
            have hR := Option.some.inj hF
            exact fun a w hf hs => ⟨y48 != 0, hR, hf.keep [0, 1, 2, 7, 8, 42], sat_to [0, 0, 0, 0, 0, 0, 0] 0 rfl hs⟩
          refine ow_slots (L' := [(0, .pointer (some ⟨b0, 0, none⟩)), (1, .pointer (some ⟨b3, 0, none⟩)), (2, .slice p0 x2.length c0), (7, .int .i64 x23), (8, .int .i64 x24), (34, .bool false)]) (by rw [h47]) ?_
          refine ow_vals 8 (j := 11) [0, 1, 2, 7, 8, 42] [(0, .pointer (some ⟨b0, 0, none⟩)), (1, .pointer (some ⟨b3, 0, none⟩)), (2, .slice p0 x2.length c0), (7, .int .i64 x23), (8, .int .i64 x24), (42, .bool false)] rfl (by kernel_rfl) ?_
          refine ow_end rfl ?_
          have hR := Option.some.inj hF
          exact fun a w hf hs => ⟨false, hR, hf.keep [0, 1, 2, 7, 8, 42], sat_to [0, 0, 0, 0, 0, 0, 0] 0 rfl hs⟩
        rintro a w ⟨x50, hv, hf, hs⟩
        subst hv
        replace hF := hK46
        clear hK46
        try dsimp only at hF
        revert a w
        show CW _ _ _ 72 [(0, .pointer (some ⟨b0, 0, none⟩)), (1, .pointer (some ⟨b3, 0, none⟩)), (2, .slice p0 x2.length c0), (7, .int .i64 x23), (8, .int .i64 x24), (42, .bool x50)] (SAT w0 ([imm I, pt b0 #[.pointer (some ⟨b1, 0, none⟩), .int .i64 m0.base_, .int .i64 m0.slots_, .int .i64 m0.shred_] 78, pt b1 #[.pointer (some ⟨b2, 0, none⟩), .int .i64 m1.boot_, .int .i64 m1.n_] 75, pt b2 #[.slice p1 m2.sure_.length c1, .map (some p2), .bool m2.off_, .bool m2.armed_, .int .i64 m2.left_, .int .u64 m2.fall_.Keep, .int .i64 m2.fall_.Tear, .int .i64 m2.acts_, .int .i64 m2.falls_] 52, pt b3 #[.int .i64 x25, .int .i64 x26, .int .i64 x27, .int .i64 x28, .int .i64 x29, .int .i64 x30, .int .i64 x31, .int .i64 x32, .int .i64 m3.boot_, .int .i64 m3.shred_] 30, own e_disk_sector 55 p1 c1 m2.sure_, mpo (kInt .i64) (fun x : disk_sector => Value.agg #[.string x.s_, .int .i64 x.at_]) p2 m2.wait_] ++ F0))
        unfold F.law13_keep.r3 at hF
        rcases if_some hF with ⟨h51, hF⟩ | ⟨h51, hF⟩
        · refine cw_cond_t rfl rfl h51 ?_
          refine cw_seq ?_
          refine cw_region ?_
          refine ow_vals 4 (j := 4) [0, 1, 2, 7, 8, 44, 46] [(0, .pointer (some ⟨b0, 0, none⟩)), (1, .pointer (some ⟨b3, 0, none⟩)), (2, .slice p0 x2.length c0), (7, .int .i64 x23), (8, .int .i64 x24), (44, .int .i64 x24), (46, .pointer (some ⟨b3, 0, none⟩))] rfl (by kernel_rfl) ?_
          obtain ⟨y52, h53, hF⟩ := bind_some hF
          refine ow_pw rfl (pw_quiet (v := .pointer (some ((⟨b3, 0, none⟩ : Addr).add (x24.toNat * 1)))) rfl rfl rfl rfl (q_index_objel (l := ([x25, x26, x27, x28, x29, x30, x31, x32] : List Int)) (m := 8) (E := 3) (sz := 1) (tot := 8) rfl (by kernel_rfl) rfl rfl rfl h53) (nw_ow ?_))
          refine ow_pw rfl (pw_store_objel (e := (eInt .i64)) (l := ([x25, x26, x27, x28, x29, x30, x31, x32] : List Int)) (z' := 0) (C' := #[.int .i64 (if x24.toNat = 0 then 0 else x25), .int .i64 (if x24.toNat = 1 then 0 else x26), .int .i64 (if x24.toNat = 2 then 0 else x27), .int .i64 (if x24.toNat = 3 then 0 else x28), .int .i64 (if x24.toNat = 4 then 0 else x29), .int .i64 (if x24.toNat = 5 then 0 else x30), .int .i64 (if x24.toNat = 6 then 0 else x31), .int .i64 (if x24.toNat = 7 then 0 else x32), .int .i64 m3.boot_, .int .i64 m3.shred_]) 4 ([] : List Go.Value) ([.int .i64 m3.boot_, .int .i64 m3.shred_] : List Go.Value) rfl rfl rfl rfl rfl rfl rfl rfl rfl rfl (by kernel_rfl) rfl rfl rfl h53 rfl (nw_H (H' := [imm I, pt b0 #[.pointer (some ⟨b1, 0, none⟩), .int .i64 m0.base_, .int .i64 m0.slots_, .int .i64 m0.shred_] 78, pt b1 #[.pointer (some ⟨b2, 0, none⟩), .int .i64 m1.boot_, .int .i64 m1.n_] 75, pt b2 #[.slice p1 m2.sure_.length c1, .map (some p2), .bool m2.off_, .bool m2.armed_, .int .i64 m2.left_, .int .u64 m2.fall_.Keep, .int .i64 m2.fall_.Tear, .int .i64 m2.acts_, .int .i64 m2.falls_] 52, pt b3 #[.int .i64 (if x24.toNat = 0 then 0 else x25), .int .i64 (if x24.toNat = 1 then 0 else x26), .int .i64 (if x24.toNat = 2 then 0 else x27), .int .i64 (if x24.toNat = 3 then 0 else x28), .int .i64 (if x24.toNat = 4 then 0 else x29), .int .i64 (if x24.toNat = 5 then 0 else x30), .int .i64 (if x24.toNat = 6 then 0 else x31), .int .i64 (if x24.toNat = 7 then 0 else x32), .int .i64 m3.boot_, .int .i64 m3.shred_] 30, own e_disk_sector 55 p1 c1 m2.sure_, mpo (kInt .i64) (fun x : disk_sector => Value.agg #[.string x.s_, .int .i64 x.at_]) p2 m2.wait_] ++ F0) rfl (nw_ow ?_)))
          refine ow_end rfl ?_
          refine ew_then ?_
          refine cw_region ?_
          refine ow_vals 3 (j := 3) [0, 1, 2, 7, 8] [(0, .pointer (some ⟨b0, 0, none⟩)), (1, .pointer (some ⟨b3, 0, none⟩)), (2, .slice p0 x2.length c0), (7, .int .i64 (IntKind.i64.wrap (x23 + 1))), (8, .int .i64 x24)] rfl (by kernel_rfl) ?_
          refine ow_end rfl ?_
          refine ew_blk ?_
          have hR := Option.some.inj hF
          exact fun a w hf hs => ⟨IntKind.i64.wrap (x23 + 1), if x24.toNat = 0 then 0 else x25, if x24.toNat = 1 then 0 else x26, if x24.toNat = 2 then 0 else x27, if x24.toNat = 3 then 0 else x28, if x24.toNat = 4 then 0 else x29, if x24.toNat = 5 then 0 else x30, if x24.toNat = 6 then 0 else x31, if x24.toNat = 7 then 0 else x32, hR, hf.keep [0, 1, 2, 7, 8], sat_to [0, 0, 0, 0, 0, 0, 0] 0 rfl hs⟩
        refine cw_cond_f rfl rfl h51 ?_
        refine cw_skip ?_
        refine ew_blk ?_
        have hR := Option.some.inj hF
        exact fun a w hf hs => ⟨x23, x25, x26, x27, x28, x29, x30, x31, x32, hR, hf.keep [0, 1, 2, 7, 8], sat_to [0, 0, 0, 0, 0, 0, 0] 0 rfl hs⟩
      rintro a w ⟨x54, x55, x56, x57, x58, x59, x60, x61, x62, hv, hf, hs⟩
      subst hv
      replace hF := hK34
      clear hK34
      try dsimp only at hF
      revert a w
      show CW _ _ _ 72 [(0, .pointer (some ⟨b0, 0, none⟩)), (1, .pointer (some ⟨b3, 0, none⟩)), (2, .slice p0 x2.length c0), (7, .int .i64 x54), (8, .int .i64 x24)] (SAT w0 ([imm I, pt b0 #[.pointer (some ⟨b1, 0, none⟩), .int .i64 m0.base_, .int .i64 m0.slots_, .int .i64 m0.shred_] 78, pt b1 #[.pointer (some ⟨b2, 0, none⟩), .int .i64 m1.boot_, .int .i64 m1.n_] 75, pt b2 #[.slice p1 m2.sure_.length c1, .map (some p2), .bool m2.off_, .bool m2.armed_, .int .i64 m2.left_, .int .u64 m2.fall_.Keep, .int .i64 m2.fall_.Tear, .int .i64 m2.acts_, .int .i64 m2.falls_] 52, pt b3 #[.int .i64 x55, .int .i64 x56, .int .i64 x57, .int .i64 x58, .int .i64 x59, .int .i64 x60, .int .i64 x61, .int .i64 x62, .int .i64 m3.boot_, .int .i64 m3.shred_] 30, own e_disk_sector 55 p1 c1 m2.sure_, mpo (kInt .i64) (fun x : disk_sector => Value.agg #[.string x.s_, .int .i64 x.at_]) p2 m2.wait_] ++ F0))
      unfold F.law13_keep.r4 at hF
      refine cw_region ?_
      refine ow_vals 3 (j := 3) [0, 1, 2, 7, 8] [(0, .pointer (some ⟨b0, 0, none⟩)), (1, .pointer (some ⟨b3, 0, none⟩)), (2, .slice p0 x2.length c0), (7, .int .i64 x54), (8, .int .i64 (IntKind.i64.wrap (x24 + 1)))] rfl (by kernel_rfl) ?_
      refine ow_end rfl ?_
      have hR := Option.some.inj hF
      subst hR
      have hR := hL22
      try dsimp only at hR
      exact fun a w hf hs => ⟨k, Nat.lt_succ_self k, x54, IntKind.i64.wrap (x24 + 1), x55, x56, x57, x58, x59, x60, x61, x62, hR, hf.keep [0, 1, 2, 7, 8], sat_to [0, 0, 0, 0, 0, 0, 0] 0 rfl hs⟩
    refine cw_cond_f rfl rfl h33 ?_
    refine cw_exit ?_
    refine ew_then_exit ?_
    refine ew_then_exit ?_
    refine ew_blk_exit ?_
    have hR := Option.some.inj hF
    subst hR
    have hR := hL22
    try dsimp only at hR
    exact fun a w hf hs => ⟨x23, x25, x26, x27, x28, x29, x30, x31, x32, hR, hf.keep [0, 1, 2, 7], sat_to [0, 0, 0, 0, 0, 0, 0] 0 rfl hs⟩
  rintro a w ⟨x63, x64, x65, x66, x67, x68, x69, x70, x71, hv, hf, hs⟩
  subst hv
  replace hF := hK21
  clear hK21
  try dsimp only at hF
  revert a w
  show CW _ _ _ 72 [(0, .pointer (some ⟨b0, 0, none⟩)), (1, .pointer (some ⟨b3, 0, none⟩)), (2, .slice p0 x2.length c0), (7, .int .i64 x63)] (SAT w0 ([imm I, pt b0 #[.pointer (some ⟨b1, 0, none⟩), .int .i64 m0.base_, .int .i64 m0.slots_, .int .i64 m0.shred_] 78, pt b1 #[.pointer (some ⟨b2, 0, none⟩), .int .i64 m1.boot_, .int .i64 m1.n_] 75, pt b2 #[.slice p1 m2.sure_.length c1, .map (some p2), .bool m2.off_, .bool m2.armed_, .int .i64 m2.left_, .int .u64 m2.fall_.Keep, .int .i64 m2.fall_.Tear, .int .i64 m2.acts_, .int .i64 m2.falls_] 52, pt b3 #[.int .i64 x64, .int .i64 x65, .int .i64 x66, .int .i64 x67, .int .i64 x68, .int .i64 x69, .int .i64 x70, .int .i64 x71, .int .i64 m3.boot_, .int .i64 m3.shred_] 30, own e_disk_sector 55 p1 c1 m2.sure_, mpo (kInt .i64) (fun x : disk_sector => Value.agg #[.string x.s_, .int .i64 x.at_]) p2 m2.wait_] ++ F0))
  unfold F.law13_keep.r6 at hF
  refine cw_seq ?_
  refine cw_region ?_
  refine ow_vals 2 (j := 2) [1, 7, 51, 52] [(1, .pointer (some ⟨b3, 0, none⟩)), (7, .int .i64 x63), (51, .pointer (some ⟨b0, 0, none⟩)), (52, .slice p0 x2.length c0)] rfl (by kernel_rfl) ?_
  obtain ⟨r72, h73, hF⟩ := bind_some hF
  refine ow_pw rfl (pw_call (F := [pt b3 #[.int .i64 x64, .int .i64 x65, .int .i64 x66, .int .i64 x67, .int .i64 x68, .int .i64 x69, .int .i64 x70, .int .i64 x71, .int .i64 m3.boot_, .int .i64 m3.shred_] 30] ++ F0) rfl rfl rfl rfl rfl rfl rfl (by kernel_rfl) (perm_of_pulls [0, 0, 0, 0, 1, 1] rfl) (c_keyring_Ring_Keep _ x2 m0 m1 m2 p0 c0 b0 b1 p1 c1 p2 b2 r72 h73 hr0) ?_)
  rintro _ _ ⟨r72_p1, r72_c2, r72_b4, rfl, rfl⟩
  refine nw_H (H' := [imm I, pt b0 #[.pointer (some ⟨b1, 0, none⟩), .int .i64 r72.2.2.1.base_, .int .i64 r72.2.2.1.slots_, .int .i64 r72.2.2.1.shred_] 78, pt b1 #[.pointer (some ⟨b2, 0, none⟩), .int .i64 m1.boot_, .int .i64 m1.n_] 75, pt b2 #[.slice r72_p1 r72.2.2.2.sure_.length r72_c2, .map (some r72_b4), .bool r72.2.2.2.off_, .bool r72.2.2.2.armed_, .int .i64 r72.2.2.2.left_, .int .u64 r72.2.2.2.fall_.Keep, .int .i64 r72.2.2.2.fall_.Tear, .int .i64 r72.2.2.2.acts_, .int .i64 r72.2.2.2.falls_] 52, own e_disk_sector 55 r72_p1 r72_c2 r72.2.2.2.sure_, mpo (kInt .i64) (fun x : disk_sector => Value.agg #[.string x.s_, .int .i64 x.at_]) r72_b4 r72.2.2.2.wait_, pt b3 #[.int .i64 x64, .int .i64 x65, .int .i64 x66, .int .i64 x67, .int .i64 x68, .int .i64 x69, .int .i64 x70, .int .i64 x71, .int .i64 m3.boot_, .int .i64 m3.shred_] 30] ++ F0) rfl (nw_ow ?_)
  refine ow_vals 5 (j := 8) [1, 7, 11, 12] [(1, .pointer (some ⟨b3, 0, none⟩)), (7, .int .i64 x63), (11, .int .i64 r72.1), (12, .int .i64 r72.2.1)] rfl (by kernel_rfl) ?_
  refine ow_end rfl ?_
  refine ew_then ?_
  refine cw_seq ?_
  refine cw_region ?_
  refine ow_vals 4 (j := 4) [7, 11, 12, 56, 59] [(7, .int .i64 x63), (11, .int .i64 r72.1), (12, .int .i64 r72.2.1), (56, .pointer (some ⟨b3, 0, none⟩)), (59, .pointer (some ⟨b3, 9, none⟩))] rfl (by kernel_rfl) ?_
  refine ow_pw rfl (pw_quiet (v := .int .i64 m3.shred_) rfl rfl rfl rfl (q_load 6 rfl rfl rfl (by kernel_rfl)) (nw_ow ?_))
  refine ow_vals 4 (j := 9) [7, 11, 12, 62, 64] [(7, .int .i64 x63), (11, .int .i64 r72.1), (12, .int .i64 r72.2.1), (62, .int .i64 (IntKind.i64.wrap (m3.shred_ + x63))), (64, .pointer (some ⟨b3, 9, none⟩))] rfl (by kernel_rfl) ?_
  refine ow_pw rfl (pw_store 6 #[.int .i64 x64, .int .i64 x65, .int .i64 x66, .int .i64 x67, .int .i64 x68, .int .i64 x69, .int .i64 x70, .int .i64 x71, .int .i64 m3.boot_, .int .i64 (IntKind.i64.wrap (m3.shred_ + x63))] rfl rfl rfl rfl rfl rfl rfl (by kernel_rfl) (nw_H (H' := [imm I, pt b0 #[.pointer (some ⟨b1, 0, none⟩), .int .i64 r72.2.2.1.base_, .int .i64 r72.2.2.1.slots_, .int .i64 r72.2.2.1.shred_] 78, pt b1 #[.pointer (some ⟨b2, 0, none⟩), .int .i64 m1.boot_, .int .i64 m1.n_] 75, pt b2 #[.slice r72_p1 r72.2.2.2.sure_.length r72_c2, .map (some r72_b4), .bool r72.2.2.2.off_, .bool r72.2.2.2.armed_, .int .i64 r72.2.2.2.left_, .int .u64 r72.2.2.2.fall_.Keep, .int .i64 r72.2.2.2.fall_.Tear, .int .i64 r72.2.2.2.acts_, .int .i64 r72.2.2.2.falls_] 52, own e_disk_sector 55 r72_p1 r72_c2 r72.2.2.2.sure_, mpo (kInt .i64) (fun x : disk_sector => Value.agg #[.string x.s_, .int .i64 x.at_]) r72_b4 r72.2.2.2.wait_, pt b3 #[.int .i64 x64, .int .i64 x65, .int .i64 x66, .int .i64 x67, .int .i64 x68, .int .i64 x69, .int .i64 x70, .int .i64 x71, .int .i64 m3.boot_, .int .i64 (IntKind.i64.wrap (m3.shred_ + x63))] 30] ++ F0) rfl (nw_ow ?_)))
  refine ow_end rfl ?_
  refine ew_then ?_
  refine cw_seq ?_
  refine cw_region ?_
  refine ow_vals 4 (j := 4) [12, 68] [(12, .int .i64 r72.2.1), (68, .bool (r72.1 == x63))] rfl (by kernel_rfl) ?_
  rcases if_some hF with ⟨h76, hF⟩ | ⟨h76, hF⟩
  · refine ow_slots (L' := [(12, .int .i64 r72.2.1), (68, .bool true)]) (by rw [h76]) ?_
    refine ow_vals 4 (j := 8) [6] [(6, .bool (r72.2.1 == 0))] rfl (by kernel_rfl) ?_
    refine ow_end rfl ?_
    refine ew_then ?_
    refine cw_ret ?_
    have hR := Option.some.inj hF
    subst hR
    exact fin1 (H1 := [imm I, pt b0 #[.pointer (some ⟨b1, 0, none⟩), .int .i64 r72.2.2.1.base_, .int .i64 r72.2.2.1.slots_, .int .i64 r72.2.2.1.shred_] 78, pt b1 #[.pointer (some ⟨b2, 0, none⟩), .int .i64 m1.boot_, .int .i64 m1.n_] 75, pt b2 #[.slice r72_p1 r72.2.2.2.sure_.length r72_c2, .map (some r72_b4), .bool r72.2.2.2.off_, .bool r72.2.2.2.armed_, .int .i64 r72.2.2.2.left_, .int .u64 r72.2.2.2.fall_.Keep, .int .i64 r72.2.2.2.fall_.Tear, .int .i64 r72.2.2.2.acts_, .int .i64 r72.2.2.2.falls_] 52, pt b3 #[.int .i64 (((⟨(⟨x64, x65, x66, x67, x68, x69, x70, x71⟩ : A8_Inti64), m3.boot_, IntKind.i64.wrap (m3.shred_ + x63)⟩ : law13_plain).keys_).e0), .int .i64 (((⟨(⟨x64, x65, x66, x67, x68, x69, x70, x71⟩ : A8_Inti64), m3.boot_, IntKind.i64.wrap (m3.shred_ + x63)⟩ : law13_plain).keys_).e1), .int .i64 (((⟨(⟨x64, x65, x66, x67, x68, x69, x70, x71⟩ : A8_Inti64), m3.boot_, IntKind.i64.wrap (m3.shred_ + x63)⟩ : law13_plain).keys_).e2), .int .i64 (((⟨(⟨x64, x65, x66, x67, x68, x69, x70, x71⟩ : A8_Inti64), m3.boot_, IntKind.i64.wrap (m3.shred_ + x63)⟩ : law13_plain).keys_).e3), .int .i64 (((⟨(⟨x64, x65, x66, x67, x68, x69, x70, x71⟩ : A8_Inti64), m3.boot_, IntKind.i64.wrap (m3.shred_ + x63)⟩ : law13_plain).keys_).e4), .int .i64 (((⟨(⟨x64, x65, x66, x67, x68, x69, x70, x71⟩ : A8_Inti64), m3.boot_, IntKind.i64.wrap (m3.shred_ + x63)⟩ : law13_plain).keys_).e5), .int .i64 (((⟨(⟨x64, x65, x66, x67, x68, x69, x70, x71⟩ : A8_Inti64), m3.boot_, IntKind.i64.wrap (m3.shred_ + x63)⟩ : law13_plain).keys_).e6), .int .i64 (((⟨(⟨x64, x65, x66, x67, x68, x69, x70, x71⟩ : A8_Inti64), m3.boot_, IntKind.i64.wrap (m3.shred_ + x63)⟩ : law13_plain).keys_).e7), .int .i64 ((⟨(⟨x64, x65, x66, x67, x68, x69, x70, x71⟩ : A8_Inti64), m3.boot_, IntKind.i64.wrap (m3.shred_ + x63)⟩ : law13_plain).boot_), .int .i64 ((⟨(⟨x64, x65, x66, x67, x68, x69, x70, x71⟩ : A8_Inti64), m3.boot_, IntKind.i64.wrap (m3.shred_ + x63)⟩ : law13_plain).shred_)] 30, own e_disk_sector 55 r72_p1 r72_c2 r72.2.2.2.sure_, mpo (kInt .i64) (fun x : disk_sector => Value.agg #[.string x.s_, .int .i64 x.at_]) r72_b4 r72.2.2.2.wait_]) (fun w hs => sat_to [0, 0, 0, 0, 2, 0, 0] 0 rfl hs) rfl (rr_tmp rfl) ⟨r72_p1, r72_c2, r72_b4, rfl, rfl⟩
  refine ow_slots (L' := [(12, .int .i64 r72.2.1), (68, .bool false)]) (by rw [h76]) ?_
  refine ow_vals 4 (j := 8) [6] [(6, .bool false)] rfl (by kernel_rfl) ?_
  refine ow_end rfl ?_
  refine ew_then ?_
  refine cw_ret ?_
  have hR := Option.some.inj hF
  subst hR
  exact fin1 (H1 := [imm I, pt b0 #[.pointer (some ⟨b1, 0, none⟩), .int .i64 r72.2.2.1.base_, .int .i64 r72.2.2.1.slots_, .int .i64 r72.2.2.1.shred_] 78, pt b1 #[.pointer (some ⟨b2, 0, none⟩), .int .i64 m1.boot_, .int .i64 m1.n_] 75, pt b2 #[.slice r72_p1 r72.2.2.2.sure_.length r72_c2, .map (some r72_b4), .bool r72.2.2.2.off_, .bool r72.2.2.2.armed_, .int .i64 r72.2.2.2.left_, .int .u64 r72.2.2.2.fall_.Keep, .int .i64 r72.2.2.2.fall_.Tear, .int .i64 r72.2.2.2.acts_, .int .i64 r72.2.2.2.falls_] 52, pt b3 #[.int .i64 (((⟨(⟨x64, x65, x66, x67, x68, x69, x70, x71⟩ : A8_Inti64), m3.boot_, IntKind.i64.wrap (m3.shred_ + x63)⟩ : law13_plain).keys_).e0), .int .i64 (((⟨(⟨x64, x65, x66, x67, x68, x69, x70, x71⟩ : A8_Inti64), m3.boot_, IntKind.i64.wrap (m3.shred_ + x63)⟩ : law13_plain).keys_).e1), .int .i64 (((⟨(⟨x64, x65, x66, x67, x68, x69, x70, x71⟩ : A8_Inti64), m3.boot_, IntKind.i64.wrap (m3.shred_ + x63)⟩ : law13_plain).keys_).e2), .int .i64 (((⟨(⟨x64, x65, x66, x67, x68, x69, x70, x71⟩ : A8_Inti64), m3.boot_, IntKind.i64.wrap (m3.shred_ + x63)⟩ : law13_plain).keys_).e3), .int .i64 (((⟨(⟨x64, x65, x66, x67, x68, x69, x70, x71⟩ : A8_Inti64), m3.boot_, IntKind.i64.wrap (m3.shred_ + x63)⟩ : law13_plain).keys_).e4), .int .i64 (((⟨(⟨x64, x65, x66, x67, x68, x69, x70, x71⟩ : A8_Inti64), m3.boot_, IntKind.i64.wrap (m3.shred_ + x63)⟩ : law13_plain).keys_).e5), .int .i64 (((⟨(⟨x64, x65, x66, x67, x68, x69, x70, x71⟩ : A8_Inti64), m3.boot_, IntKind.i64.wrap (m3.shred_ + x63)⟩ : law13_plain).keys_).e6), .int .i64 (((⟨(⟨x64, x65, x66, x67, x68, x69, x70, x71⟩ : A8_Inti64), m3.boot_, IntKind.i64.wrap (m3.shred_ + x63)⟩ : law13_plain).keys_).e7), .int .i64 ((⟨(⟨x64, x65, x66, x67, x68, x69, x70, x71⟩ : A8_Inti64), m3.boot_, IntKind.i64.wrap (m3.shred_ + x63)⟩ : law13_plain).boot_), .int .i64 ((⟨(⟨x64, x65, x66, x67, x68, x69, x70, x71⟩ : A8_Inti64), m3.boot_, IntKind.i64.wrap (m3.shred_ + x63)⟩ : law13_plain).shred_)] 30, own e_disk_sector 55 r72_p1 r72_c2 r72.2.2.2.sure_, mpo (kInt .i64) (fun x : disk_sector => Value.agg #[.string x.s_, .int .i64 x.at_]) r72_b4 r72.2.2.2.wait_]) (fun w hs => sat_to [0, 0, 0, 0, 2, 0, 0] 0 rfl hs) rfl (rr_tmp rfl) ⟨r72_p1, r72_c2, r72_b4, rfl, rfl⟩


def F.disk_Disk_Crash (x1 : disk_Fall) (m0 : disk_Disk) : Option (Int × disk_Disk) :=
  Option.bind (F.disk_Disk_why 0 m0) (fun (r23 : Int) => if r23 != 0 then (some ((r23, m0))) else (Option.bind (F.disk_Disk_drop x1 m0) (fun (r26 : disk_Disk) => some ((0, r26)))))
set_option maxRecDepth 100000 in
set_option maxHeartbeats 4000000 in
theorem c_disk_Disk_Crash (I : Hl) (x1 : disk_Fall) (m0 : disk_Disk) (p0 : Option Addr) (c0 : Nat) (p1 : Nat) (b0 : Nat) (res : Int × disk_Disk) (hF : F.disk_Disk_Crash x1 m0 = some res) : Tr Tryz.prog 23 [.pointer (some ⟨b0, 0, none⟩), .agg #[.int .u64 x1.Keep, .int .i64 x1.Tear]] [imm I, pt b0 #[.slice p0 m0.sure_.length c0, .map (some p1), .bool m0.off_, .bool m0.armed_, .int .i64 m0.left_, .int .u64 m0.fall_.Keep, .int .i64 m0.fall_.Tear, .int .i64 m0.acts_, .int .i64 m0.falls_] 52, own e_disk_sector 55 p0 c0 m0.sure_, mpo (kInt .i64) (fun x : disk_sector => Value.agg #[.string x.s_, .int .i64 x.at_]) p1 m0.wait_] (fun r H' => ∃ (pq1 : Option Addr), ∃ (cq2 : Nat), ∃ (bq4 : Nat), r = .int .i64 res.1 ∧ H' = [imm I, pt b0 #[.slice pq1 res.2.sure_.length cq2, .map (some bq4), .bool res.2.off_, .bool res.2.armed_, .int .i64 res.2.left_, .int .u64 res.2.fall_.Keep, .int .i64 res.2.fall_.Tear, .int .i64 res.2.acts_, .int .i64 res.2.falls_] 52, own e_disk_sector 55 pq1 cq2 res.2.sure_, mpo (kInt .i64) (fun x : disk_sector => Value.agg #[.string x.s_, .int .i64 x.at_]) bq4 res.2.wait_]) := by
  unfold F.disk_Disk_Crash at hF
  refine tr_of_cw (fn := Tryz.f23) Tryz.func23 rfl (Nat.le_of_ble_eq_true rfl) 14 rfl fun F0 w0 => ?_
  refine cw_keep [0, 1] (L' := [(0, .pointer (some ⟨b0, 0, none⟩)), (1, .agg #[.int .u64 x1.Keep, .int .i64 x1.Tear])]) rfl ?_
  refine cw_state (S' := SAT w0 ([imm I, pt b0 #[.slice p0 m0.sure_.length c0, .map (some p1), .bool m0.off_, .bool m0.armed_, .int .i64 m0.left_, .int .u64 m0.fall_.Keep, .int .i64 m0.fall_.Tear, .int .i64 m0.acts_, .int .i64 m0.falls_] 52, own e_disk_sector 55 p0 c0 m0.sure_, mpo (kInt .i64) (fun x : disk_sector => Value.agg #[.string x.s_, .int .i64 x.at_]) p1 m0.wait_] ++ F0)) (fun w hs => hs) ?_
  refine cw_seq ?_
  refine cw_region ?_
  refine ow_pw rfl (pw_box (cs := #[.int .u64 x1.Keep, .int .i64 x1.Tear]) rfl rfl rfl rfl rfl rfl fun b21 => nw_ow ?_)
  refine ow_vals 1 (j := 2) [0, 3] [(0, .pointer (some ⟨b0, 0, none⟩)), (3, .pointer (some ⟨b21, 0, none⟩))] rfl (by kernel_rfl) ?_
  refine ow_end rfl ?_
  refine ew_then ?_
  refine cw_seq ?_
  refine cw_seq ?_
  refine cw_region ?_
  refine ow_vals 1 (j := 1) [0, 3, 6] [(0, .pointer (some ⟨b0, 0, none⟩)), (3, .pointer (some ⟨b21, 0, none⟩)), (6, .pointer (some ⟨b0, 0, none⟩))] rfl (by kernel_rfl) ?_
  obtain ⟨r23, h24, hF⟩ := bind_some hF
  refine ow_pw rfl (pw_call (F := [pt b21 #[.int .u64 x1.Keep, .int .i64 x1.Tear] 36] ++ F0) rfl rfl rfl rfl rfl rfl rfl (by kernel_rfl) (perm_of_pulls [1, 1, 1, 1] rfl) (c_disk_Disk_why _ 0 m0 p0 c0 p1 b0 r23 h24) ?_)
  rintro _ _ ⟨rfl, rfl⟩
  refine nw_H (H' := [imm I, pt b0 #[.slice p0 m0.sure_.length c0, .map (some p1), .bool m0.off_, .bool m0.armed_, .int .i64 m0.left_, .int .u64 m0.fall_.Keep, .int .i64 m0.fall_.Tear, .int .i64 m0.acts_, .int .i64 m0.falls_] 52, own e_disk_sector 55 p0 c0 m0.sure_, mpo (kInt .i64) (fun x : disk_sector => Value.agg #[.string x.s_, .int .i64 x.at_]) p1 m0.wait_, pt b21 #[.int .u64 x1.Keep, .int .i64 x1.Tear] 36] ++ F0) rfl (nw_ow ?_)
  refine ow_vals 1 (j := 3) [0, 3, 5] [(0, .pointer (some ⟨b0, 0, none⟩)), (3, .pointer (some ⟨b21, 0, none⟩)), (5, .int .i64 r23)] rfl (by kernel_rfl) ?_
  refine ow_end rfl ?_
  refine ew_then ?_
  refine cw_seq ?_
  refine cw_region ?_
  refine ow_vals 2 (j := 2) [0, 3, 5, 9] [(0, .pointer (some ⟨b0, 0, none⟩)), (3, .pointer (some ⟨b21, 0, none⟩)), (5, .int .i64 r23), (9, .bool (r23 != 0))] rfl (by kernel_rfl) ?_
  refine ow_end rfl ?_
  refine ew_then ?_
  rcases if_some hF with ⟨h25, hF⟩ | ⟨h25, hF⟩
  · refine cw_cond_t rfl rfl h25 ?_
    refine cw_seq ?_
    refine cw_region ?_
    refine ow_vals 2 (j := 2) [4] [(4, .int .i64 r23)] rfl (by kernel_rfl) ?_
    refine ow_end rfl ?_
    refine ew_then ?_
    refine cw_ret ?_
    refine ew_then_ret ?_
    have hR := Option.some.inj hF
    subst hR
    exact fin1 (H1 := [imm I, pt b0 #[.slice p0 m0.sure_.length c0, .map (some p1), .bool m0.off_, .bool m0.armed_, .int .i64 m0.left_, .int .u64 m0.fall_.Keep, .int .i64 m0.fall_.Tear, .int .i64 m0.acts_, .int .i64 m0.falls_] 52, own e_disk_sector 55 p0 c0 m0.sure_, mpo (kInt .i64) (fun x : disk_sector => Value.agg #[.string x.s_, .int .i64 x.at_]) p1 m0.wait_]) (fun w hs => sat_to [4, 0, 0, 0, 0] 1 rfl hs) rfl (rr_tmp rfl) ⟨p0, c0, p1, rfl, rfl⟩
  refine cw_cond_f rfl rfl h25 ?_
  refine cw_skip ?_
  refine ew_then ?_
  refine cw_seq ?_
  refine cw_region ?_
  refine ow_vals 1 (j := 1) [3, 11] [(3, .pointer (some ⟨b21, 0, none⟩)), (11, .pointer (some ⟨b0, 0, none⟩))] rfl (by kernel_rfl) ?_
  refine ow_pw rfl (pw_quiet (v := .agg #[.int .u64 x1.Keep, .int .i64 x1.Tear]) rfl rfl rfl rfl (q_load 4 rfl rfl rfl (by kernel_rfl)) (nw_ow ?_))
  obtain ⟨r26, h27, hF⟩ := bind_some hF
  refine ow_pw rfl (pw_call (F := [pt b21 #[.int .u64 x1.Keep, .int .i64 x1.Tear] 36] ++ F0) rfl rfl rfl rfl rfl rfl rfl (by kernel_rfl) (perm_of_pulls [0, 0, 0, 0] rfl) (c_disk_Disk_drop _ x1 m0 p0 c0 p1 b0 r26 h27) ?_)
  rintro _ _ ⟨r26_p1, r26_c2, r26_b4, rfl, rfl⟩
  refine nw_H (H' := [imm I, pt b0 #[.slice r26_p1 r26.sure_.length r26_c2, .map (some r26_b4), .bool r26.off_, .bool r26.armed_, .int .i64 r26.left_, .int .u64 r26.fall_.Keep, .int .i64 r26.fall_.Tear, .int .i64 r26.acts_, .int .i64 r26.falls_] 52, own e_disk_sector 55 r26_p1 r26_c2 r26.sure_, mpo (kInt .i64) (fun x : disk_sector => Value.agg #[.string x.s_, .int .i64 x.at_]) r26_b4 r26.wait_, pt b21 #[.int .u64 x1.Keep, .int .i64 x1.Tear] 36] ++ F0) rfl (nw_ow ?_)
  refine ow_end rfl ?_
  refine ew_then ?_
  refine cw_seq ?_
  refine cw_region ?_
  refine ow_vals 1 (j := 1) [4] [(4, .int .i64 0)] rfl (by kernel_rfl) ?_
  refine ow_end rfl ?_
  refine ew_then ?_
  refine cw_ret ?_
  have hR := Option.some.inj hF
  subst hR
  exact fin1 (H1 := [imm I, pt b0 #[.slice r26_p1 r26.sure_.length r26_c2, .map (some r26_b4), .bool r26.off_, .bool r26.armed_, .int .i64 r26.left_, .int .u64 r26.fall_.Keep, .int .i64 r26.fall_.Tear, .int .i64 r26.acts_, .int .i64 r26.falls_] 52, own e_disk_sector 55 r26_p1 r26_c2 r26.sure_, mpo (kInt .i64) (fun x : disk_sector => Value.agg #[.string x.s_, .int .i64 x.at_]) r26_b4 r26.wait_]) (fun w hs => sat_to [4, 0, 0, 0, 0] 1 rfl hs) rfl (rr_tmp rfl) ⟨r26_p1, r26_c2, r26_b4, rfl, rfl⟩


def F.disk_Disk_Start (m0 : disk_Disk) : Option (Int × disk_Disk) :=
  Option.bind (F.disk_Disk_Size m0) (fun (r21 : Int) => if r21 == 0 then (some ((9, m0))) else (if !m0.off_ then (some ((25, m0))) else (some ((0, (⟨m0.sure_, m0.wait_, false, m0.armed_, m0.left_, m0.fall_, m0.acts_, m0.falls_⟩ : disk_Disk))))))
set_option maxRecDepth 100000 in
set_option maxHeartbeats 4000000 in
theorem c_disk_Disk_Start (I : Hl) (m0 : disk_Disk) (p0 : Option Addr) (c0 : Nat) (p1 : Nat) (b0 : Nat) (res : Int × disk_Disk) (hF : F.disk_Disk_Start m0 = some res) : Tr Tryz.prog 24 [.pointer (some ⟨b0, 0, none⟩)] [imm I, pt b0 #[.slice p0 m0.sure_.length c0, .map (some p1), .bool m0.off_, .bool m0.armed_, .int .i64 m0.left_, .int .u64 m0.fall_.Keep, .int .i64 m0.fall_.Tear, .int .i64 m0.acts_, .int .i64 m0.falls_] 52, own e_disk_sector 55 p0 c0 m0.sure_, mpo (kInt .i64) (fun x : disk_sector => Value.agg #[.string x.s_, .int .i64 x.at_]) p1 m0.wait_] (fun r H' => ∃ (pq1 : Option Addr), ∃ (cq2 : Nat), ∃ (bq4 : Nat), r = .int .i64 res.1 ∧ H' = [imm I, pt b0 #[.slice pq1 res.2.sure_.length cq2, .map (some bq4), .bool res.2.off_, .bool res.2.armed_, .int .i64 res.2.left_, .int .u64 res.2.fall_.Keep, .int .i64 res.2.fall_.Tear, .int .i64 res.2.acts_, .int .i64 res.2.falls_] 52, own e_disk_sector 55 pq1 cq2 res.2.sure_, mpo (kInt .i64) (fun x : disk_sector => Value.agg #[.string x.s_, .int .i64 x.at_]) bq4 res.2.wait_]) := by
  unfold F.disk_Disk_Start at hF
  refine tr_of_cw (fn := Tryz.f24) Tryz.func24 rfl (Nat.le_of_ble_eq_true rfl) 16 rfl fun F0 w0 => ?_
  refine cw_keep [0] (L' := [(0, .pointer (some ⟨b0, 0, none⟩))]) rfl ?_
  refine cw_state (S' := SAT w0 ([imm I, pt b0 #[.slice p0 m0.sure_.length c0, .map (some p1), .bool m0.off_, .bool m0.armed_, .int .i64 m0.left_, .int .u64 m0.fall_.Keep, .int .i64 m0.fall_.Tear, .int .i64 m0.acts_, .int .i64 m0.falls_] 52, own e_disk_sector 55 p0 c0 m0.sure_, mpo (kInt .i64) (fun x : disk_sector => Value.agg #[.string x.s_, .int .i64 x.at_]) p1 m0.wait_] ++ F0)) (fun w hs => hs) ?_
  refine cw_seq ?_
  refine cw_region ?_
  refine ow_vals 1 (j := 1) [0] [(0, .pointer (some ⟨b0, 0, none⟩))] rfl (by kernel_rfl) ?_
  refine ow_end rfl ?_
  refine ew_then ?_
  refine cw_seq ?_
  refine cw_block ?_
  refine cw_seq ?_
  refine cw_region ?_
  refine ow_vals 1 (j := 1) [0, 4] [(0, .pointer (some ⟨b0, 0, none⟩)), (4, .pointer (some ⟨b0, 0, none⟩))] rfl (by kernel_rfl) ?_
  obtain ⟨r21, h22, hF⟩ := bind_some hF
  refine ow_pw rfl (pw_call (F := [] ++ F0) rfl rfl rfl rfl rfl rfl rfl (by kernel_rfl) (perm_of_pulls [0, 0, 0, 0] rfl) (c_disk_Disk_Size _ m0 p0 c0 p1 b0 r21 h22) ?_)
  rintro _ _ ⟨rfl, rfl⟩
  refine nw_H (H' := [imm I, pt b0 #[.slice p0 m0.sure_.length c0, .map (some p1), .bool m0.off_, .bool m0.armed_, .int .i64 m0.left_, .int .u64 m0.fall_.Keep, .int .i64 m0.fall_.Tear, .int .i64 m0.acts_, .int .i64 m0.falls_] 52, own e_disk_sector 55 p0 c0 m0.sure_, mpo (kInt .i64) (fun x : disk_sector => Value.agg #[.string x.s_, .int .i64 x.at_]) p1 m0.wait_] ++ F0) rfl (nw_ow ?_)
  refine ow_vals 2 (j := 4) [0, 3] [(0, .pointer (some ⟨b0, 0, none⟩)), (3, .bool (r21 == 0))] rfl (by kernel_rfl) ?_
  refine ow_end rfl ?_
  refine ew_then ?_
  rcases if_some hF with ⟨h23, hF⟩ | ⟨h23, hF⟩
  · refine cw_cond_t rfl rfl h23 ?_
    refine cw_seq ?_
    refine cw_region ?_
    refine ow_vals 1 (j := 1) [2] [(2, .int .i64 9)] rfl (by kernel_rfl) ?_
    refine ow_end rfl ?_
    refine ew_then ?_
    refine cw_ret ?_
    refine ew_blk_ret ?_
    refine ew_then_ret ?_
    have hR := Option.some.inj hF
    subst hR
    exact fin1 (H1 := [imm I, pt b0 #[.slice p0 m0.sure_.length c0, .map (some p1), .bool m0.off_, .bool m0.armed_, .int .i64 m0.left_, .int .u64 m0.fall_.Keep, .int .i64 m0.fall_.Tear, .int .i64 m0.acts_, .int .i64 m0.falls_] 52, own e_disk_sector 55 p0 c0 m0.sure_, mpo (kInt .i64) (fun x : disk_sector => Value.agg #[.string x.s_, .int .i64 x.at_]) p1 m0.wait_]) (fun w hs => sat_to [0, 0, 0, 0] 0 rfl hs) rfl (rr_tmp rfl) ⟨p0, c0, p1, rfl, rfl⟩
  refine cw_cond_f rfl rfl h23 ?_
  refine cw_seq ?_
  refine cw_region ?_
  refine ow_vals 3 (j := 3) [0, 10] [(0, .pointer (some ⟨b0, 0, none⟩)), (10, .pointer (some ⟨b0, 2, none⟩))] rfl (by kernel_rfl) ?_
  refine ow_pw rfl (pw_quiet (v := .bool m0.off_) rfl rfl rfl rfl (q_load 1 rfl rfl rfl (by kernel_rfl)) (nw_ow ?_))
  refine ow_vals 2 (j := 6) [0, 7] [(0, .pointer (some ⟨b0, 0, none⟩)), (7, .bool (!m0.off_))] rfl (by kernel_rfl) ?_
  refine ow_end rfl ?_
  refine ew_then ?_
  rcases if_some hF with ⟨h24, hF⟩ | ⟨h24, hF⟩
  · refine cw_cond_t rfl rfl h24 ?_
    refine cw_seq ?_
    refine cw_region ?_
    refine ow_vals 1 (j := 1) [2] [(2, .int .i64 25)] rfl (by kernel_rfl) ?_
    refine ow_end rfl ?_
    refine ew_then ?_
    refine cw_ret ?_
    refine ew_blk_ret ?_
    refine ew_then_ret ?_
    have hR := Option.some.inj hF
    subst hR
    exact fin1 (H1 := [imm I, pt b0 #[.slice p0 m0.sure_.length c0, .map (some p1), .bool m0.off_, .bool m0.armed_, .int .i64 m0.left_, .int .u64 m0.fall_.Keep, .int .i64 m0.fall_.Tear, .int .i64 m0.acts_, .int .i64 m0.falls_] 52, own e_disk_sector 55 p0 c0 m0.sure_, mpo (kInt .i64) (fun x : disk_sector => Value.agg #[.string x.s_, .int .i64 x.at_]) p1 m0.wait_]) (fun w hs => sat_to [0, 0, 0, 0] 0 rfl hs) rfl (rr_tmp rfl) ⟨p0, c0, p1, rfl, rfl⟩
  refine cw_cond_f rfl rfl h24 ?_
  refine cw_skip ?_
  refine ew_blk ?_
  refine ew_then ?_
  refine cw_seq ?_
  refine cw_region ?_
  refine ow_vals 3 (j := 3) [15] [(15, .pointer (some ⟨b0, 2, none⟩))] rfl (by kernel_rfl) ?_
  refine ow_pw rfl (pw_store 1 #[.slice p0 m0.sure_.length c0, .map (some p1), .bool false, .bool m0.armed_, .int .i64 m0.left_, .int .u64 m0.fall_.Keep, .int .i64 m0.fall_.Tear, .int .i64 m0.acts_, .int .i64 m0.falls_] rfl rfl rfl rfl rfl rfl rfl (by kernel_rfl) (nw_H (H' := [imm I, pt b0 #[.slice p0 m0.sure_.length c0, .map (some p1), .bool false, .bool m0.armed_, .int .i64 m0.left_, .int .u64 m0.fall_.Keep, .int .i64 m0.fall_.Tear, .int .i64 m0.acts_, .int .i64 m0.falls_] 52, own e_disk_sector 55 p0 c0 m0.sure_, mpo (kInt .i64) (fun x : disk_sector => Value.agg #[.string x.s_, .int .i64 x.at_]) p1 m0.wait_] ++ F0) rfl (nw_ow ?_)))
  refine ow_end rfl ?_
  refine ew_then ?_
  refine cw_seq ?_
  refine cw_region ?_
  refine ow_vals 1 (j := 1) [2] [(2, .int .i64 0)] rfl (by kernel_rfl) ?_
  refine ow_end rfl ?_
  refine ew_then ?_
  refine cw_ret ?_
  have hR := Option.some.inj hF
  subst hR
  exact fin1 (H1 := [imm I, pt b0 #[.slice p0 ((⟨m0.sure_, m0.wait_, false, m0.armed_, m0.left_, m0.fall_, m0.acts_, m0.falls_⟩ : disk_Disk).sure_).length c0, .map (some p1), .bool ((⟨m0.sure_, m0.wait_, false, m0.armed_, m0.left_, m0.fall_, m0.acts_, m0.falls_⟩ : disk_Disk).off_), .bool ((⟨m0.sure_, m0.wait_, false, m0.armed_, m0.left_, m0.fall_, m0.acts_, m0.falls_⟩ : disk_Disk).armed_), .int .i64 ((⟨m0.sure_, m0.wait_, false, m0.armed_, m0.left_, m0.fall_, m0.acts_, m0.falls_⟩ : disk_Disk).left_), .int .u64 (((⟨m0.sure_, m0.wait_, false, m0.armed_, m0.left_, m0.fall_, m0.acts_, m0.falls_⟩ : disk_Disk).fall_).Keep), .int .i64 (((⟨m0.sure_, m0.wait_, false, m0.armed_, m0.left_, m0.fall_, m0.acts_, m0.falls_⟩ : disk_Disk).fall_).Tear), .int .i64 ((⟨m0.sure_, m0.wait_, false, m0.armed_, m0.left_, m0.fall_, m0.acts_, m0.falls_⟩ : disk_Disk).acts_), .int .i64 ((⟨m0.sure_, m0.wait_, false, m0.armed_, m0.left_, m0.fall_, m0.acts_, m0.falls_⟩ : disk_Disk).falls_)] 52, own e_disk_sector 55 p0 c0 ((⟨m0.sure_, m0.wait_, false, m0.armed_, m0.left_, m0.fall_, m0.acts_, m0.falls_⟩ : disk_Disk).sure_), mpo (kInt .i64) (fun x : disk_sector => Value.agg #[.string x.s_, .int .i64 x.at_]) p1 ((⟨m0.sure_, m0.wait_, false, m0.armed_, m0.left_, m0.fall_, m0.acts_, m0.falls_⟩ : disk_Disk).wait_)]) (fun w hs => sat_to [0, 0, 0, 0] 0 rfl hs) rfl (rr_tmp rfl) ⟨p0, c0, p1, rfl, rfl⟩


def F.keyring_Ring_Get (x1 : Int) (m0 : keyring_Ring) (m1 : guard_Guard) (m2 : disk_Disk) : Option (ByteArray × Int) :=
  Option.bind (F.keyring_Ring_why x1 m0 m1 m2) (fun (r21 : Int) => if r21 != 0 then (some (((ByteArray.mk #[]), r21))) else (Option.bind (F.guard_Guard_Get (IntKind.i64.wrap (m0.base_ + x1)) m1 m2) (fun (r24 : ByteArray × Int × Int) => if r24.2.2 != 0 then (some (((ByteArray.mk #[]), r24.2.2))) else (if (r24.1.size : Int) != 32 then (some (((ByteArray.mk #[]), 17))) else (some ((r24.1, 0)))))))
set_option maxRecDepth 100000 in
set_option maxHeartbeats 4000000 in
theorem c_keyring_Ring_Get (I : Hl) (x1 : Int) (m0 : keyring_Ring) (m1 : guard_Guard) (m2 : disk_Disk) (b0 : Nat) (b1 : Nat) (p0 : Option Addr) (c0 : Nat) (p1 : Nat) (b2 : Nat) (res : ByteArray × Int) (hF : F.keyring_Ring_Get x1 m0 m1 m2 = some res) : Tr Tryz.prog 25 [.pointer (some ⟨b0, 0, none⟩), .int .i64 x1] [imm I, pt b0 #[.pointer (some ⟨b1, 0, none⟩), .int .i64 m0.base_, .int .i64 m0.slots_, .int .i64 m0.shred_] 78, pt b1 #[.pointer (some ⟨b2, 0, none⟩), .int .i64 m1.boot_, .int .i64 m1.n_] 75, pt b2 #[.slice p0 m2.sure_.length c0, .map (some p1), .bool m2.off_, .bool m2.armed_, .int .i64 m2.left_, .int .u64 m2.fall_.Keep, .int .i64 m2.fall_.Tear, .int .i64 m2.acts_, .int .i64 m2.falls_] 52, own e_disk_sector 55 p0 c0 m2.sure_, mpo (kInt .i64) (fun x : disk_sector => Value.agg #[.string x.s_, .int .i64 x.at_]) p1 m2.wait_] (fun r H' => r = .tuple #[.string res.1, .int .i64 res.2] ∧ H' = [imm I, pt b0 #[.pointer (some ⟨b1, 0, none⟩), .int .i64 m0.base_, .int .i64 m0.slots_, .int .i64 m0.shred_] 78, pt b1 #[.pointer (some ⟨b2, 0, none⟩), .int .i64 m1.boot_, .int .i64 m1.n_] 75, pt b2 #[.slice p0 m2.sure_.length c0, .map (some p1), .bool m2.off_, .bool m2.armed_, .int .i64 m2.left_, .int .u64 m2.fall_.Keep, .int .i64 m2.fall_.Tear, .int .i64 m2.acts_, .int .i64 m2.falls_] 52, own e_disk_sector 55 p0 c0 m2.sure_, mpo (kInt .i64) (fun x : disk_sector => Value.agg #[.string x.s_, .int .i64 x.at_]) p1 m2.wait_]) := by
  unfold F.keyring_Ring_Get at hF
  refine tr_of_cw (fn := Tryz.f25) Tryz.func25 rfl (Nat.le_of_ble_eq_true rfl) 40 rfl fun F0 w0 => ?_
  refine cw_keep [0, 1] (L' := [(0, .pointer (some ⟨b0, 0, none⟩)), (1, .int .i64 x1)]) rfl ?_
  refine cw_state (S' := SAT w0 ([imm I, pt b0 #[.pointer (some ⟨b1, 0, none⟩), .int .i64 m0.base_, .int .i64 m0.slots_, .int .i64 m0.shred_] 78, pt b1 #[.pointer (some ⟨b2, 0, none⟩), .int .i64 m1.boot_, .int .i64 m1.n_] 75, pt b2 #[.slice p0 m2.sure_.length c0, .map (some p1), .bool m2.off_, .bool m2.armed_, .int .i64 m2.left_, .int .u64 m2.fall_.Keep, .int .i64 m2.fall_.Tear, .int .i64 m2.acts_, .int .i64 m2.falls_] 52, own e_disk_sector 55 p0 c0 m2.sure_, mpo (kInt .i64) (fun x : disk_sector => Value.agg #[.string x.s_, .int .i64 x.at_]) p1 m2.wait_] ++ F0)) (fun w hs => hs) ?_
  refine cw_seq ?_
  refine cw_region ?_
  refine ow_vals 2 (j := 2) [0, 1] [(0, .pointer (some ⟨b0, 0, none⟩)), (1, .int .i64 x1)] rfl (by kernel_rfl) ?_
  refine ow_end rfl ?_
  refine ew_then ?_
  refine cw_seq ?_
  refine cw_seq ?_
  refine cw_region ?_
  refine ow_vals 2 (j := 2) [0, 1, 10, 11] [(0, .pointer (some ⟨b0, 0, none⟩)), (1, .int .i64 x1), (10, .pointer (some ⟨b0, 0, none⟩)), (11, .int .i64 x1)] rfl (by kernel_rfl) ?_
  obtain ⟨r21, h22, hF⟩ := bind_some hF
  refine ow_pw rfl (pw_call (F := [] ++ F0) rfl rfl rfl rfl rfl rfl rfl (by kernel_rfl) (perm_of_pulls [0, 0, 0, 0, 0, 0] rfl) (c_keyring_Ring_why _ x1 m0 m1 m2 b0 b1 p0 c0 p1 b2 r21 h22) ?_)
  rintro _ _ ⟨rfl, rfl⟩
  refine nw_H (H' := [imm I, pt b0 #[.pointer (some ⟨b1, 0, none⟩), .int .i64 m0.base_, .int .i64 m0.slots_, .int .i64 m0.shred_] 78, pt b1 #[.pointer (some ⟨b2, 0, none⟩), .int .i64 m1.boot_, .int .i64 m1.n_] 75, pt b2 #[.slice p0 m2.sure_.length c0, .map (some p1), .bool m2.off_, .bool m2.armed_, .int .i64 m2.left_, .int .u64 m2.fall_.Keep, .int .i64 m2.fall_.Tear, .int .i64 m2.acts_, .int .i64 m2.falls_] 52, own e_disk_sector 55 p0 c0 m2.sure_, mpo (kInt .i64) (fun x : disk_sector => Value.agg #[.string x.s_, .int .i64 x.at_]) p1 m2.wait_] ++ F0) rfl (nw_ow ?_)
  refine ow_vals 1 (j := 4) [0, 1, 6] [(0, .pointer (some ⟨b0, 0, none⟩)), (1, .int .i64 x1), (6, .int .i64 r21)] rfl (by kernel_rfl) ?_
  refine ow_end rfl ?_
  refine ew_then ?_
  refine cw_seq ?_
  refine cw_region ?_
  refine ow_vals 2 (j := 2) [0, 1, 6, 14] [(0, .pointer (some ⟨b0, 0, none⟩)), (1, .int .i64 x1), (6, .int .i64 r21), (14, .bool (r21 != 0))] rfl (by kernel_rfl) ?_
  refine ow_end rfl ?_
  refine ew_then ?_
  rcases if_some hF with ⟨h23, hF⟩ | ⟨h23, hF⟩
  · refine cw_cond_t rfl rfl h23 ?_
    refine cw_seq ?_
    refine cw_region ?_
    refine ow_vals 3 (j := 3) [4, 5] [(4, .string (ByteArray.mk #[])), (5, .int .i64 r21)] rfl (by kernel_rfl) ?_
    refine ow_end rfl ?_
    refine ew_then ?_
    refine cw_ret ?_
    refine ew_then_ret ?_
    have hR := Option.some.inj hF
    subst hR
    exact fin2 (H1 := [imm I, pt b0 #[.pointer (some ⟨b1, 0, none⟩), .int .i64 m0.base_, .int .i64 m0.slots_, .int .i64 m0.shred_] 78, pt b1 #[.pointer (some ⟨b2, 0, none⟩), .int .i64 m1.boot_, .int .i64 m1.n_] 75, pt b2 #[.slice p0 m2.sure_.length c0, .map (some p1), .bool m2.off_, .bool m2.armed_, .int .i64 m2.left_, .int .u64 m2.fall_.Keep, .int .i64 m2.fall_.Tear, .int .i64 m2.acts_, .int .i64 m2.falls_] 52, own e_disk_sector 55 p0 c0 m2.sure_, mpo (kInt .i64) (fun x : disk_sector => Value.agg #[.string x.s_, .int .i64 x.at_]) p1 m2.wait_]) (fun w hs => sat_to [0, 0, 0, 0, 0, 0] 0 rfl hs) rfl (rr_tmp rfl) (rr_tmp rfl) ⟨rfl, rfl⟩
  refine cw_cond_f rfl rfl h23 ?_
  refine cw_skip ?_
  refine ew_then ?_
  refine cw_seq ?_
  refine cw_open 18 (SAT w0 ([imm I, pt b0 #[.pointer (some ⟨b1, 0, none⟩), .int .i64 m0.base_, .int .i64 m0.slots_, .int .i64 m0.shred_] 78, pt b1 #[.pointer (some ⟨b2, 0, none⟩), .int .i64 m1.boot_, .int .i64 m1.n_] 75, pt b2 #[.slice p0 m2.sure_.length c0, .map (some p1), .bool m2.off_, .bool m2.armed_, .int .i64 m2.left_, .int .u64 m2.fall_.Keep, .int .i64 m2.fall_.Tear, .int .i64 m2.acts_, .int .i64 m2.falls_] 52, own e_disk_sector 55 p0 c0 m2.sure_, mpo (kInt .i64) (fun x : disk_sector => Value.agg #[.string x.s_, .int .i64 x.at_]) p1 m2.wait_])) (by kernel_rfl) (f := 18) rfl (fun w hs => sat_drew hs) ?_
  refine aw_vals [0, 1, 2, 4, 5, 6, 8] (f' := 11) (m' := 375) [19, 23, 25] [(19, .pointer (some ⟨b0, 0, none⟩)), (23, .pointer (some ⟨b0, 1, none⟩)), (25, .int .i64 x1)] (fun _ _ _ _ _ h => calm_fin (P := Tryz.prog) (fn := Tryz.f25) _ _ _ _ _ h) (fun w hs => sat_pulls [0, 0, 0, 0, 0, 0] (G := [] ++ F0) rfl hs) rfl (by kernel_rfl) ?_
  refine aw_quiet 3 (m' := 383) (v := .pointer (some ⟨b1, 0, none⟩)) 0 [] rfl rfl rfl rfl (by kernel_rfl) (by kernel_rfl) (by kernel_rfl) (fun _ _ _ _ _ h => calm_fin (P := Tryz.prog) (fn := Tryz.f25) _ _ _ _ _ h) (fun w hs => sat_pulls [0, 0, 0, 0, 0, 0] (G := [] ++ F0) rfl hs) (q_load 1 rfl rfl rfl (by kernel_rfl)) ?_
  refine aw_quiet 7 (m' := 511) (v := .int .i64 m0.base_) 0 [] rfl rfl rfl rfl (by kernel_rfl) (by kernel_rfl) (by kernel_rfl) (fun _ _ _ _ _ h => calm_fin (P := Tryz.prog) (fn := Tryz.f25) _ _ _ _ _ h) (fun w hs => sat_pulls [0, 0, 0, 0, 0, 0] (G := [] ++ F0) rfl hs) (q_load 1 rfl rfl rfl (by kernel_rfl)) ?_
  refine aw_vals [9] (f' := 8) (m' := 1023) [20, 26] [(20, .pointer (some ⟨b1, 0, none⟩)), (26, .int .i64 (IntKind.i64.wrap (m0.base_ + x1)))] (fun _ _ _ _ _ h => calm_fin (P := Tryz.prog) (fn := Tryz.f25) _ _ _ _ _ h) (fun w hs => sat_pulls [0, 0, 0, 0, 0, 0] (G := [] ++ F0) rfl hs) rfl (by kernel_rfl) ?_
  obtain ⟨r24, h25, hF⟩ := bind_some hF
  refine aw_only 10 (m' := 2047) (by kernel_rfl) (by kernel_rfl) (pw_call (F := [pt b0 #[.pointer (some ⟨b1, 0, none⟩), .int .i64 m0.base_, .int .i64 m0.slots_, .int .i64 m0.shred_] 78] ++ F0) rfl rfl rfl rfl rfl rfl rfl (by kernel_rfl) (perm_of_pulls [0, 1, 1, 1, 1] rfl) (c_guard_Guard_Get _ (IntKind.i64.wrap (m0.base_ + x1)) m1 m2 b1 p0 c0 p1 b2 r24 h25) ?_)
  rintro _ _ ⟨rfl, rfl⟩
  refine nw_H (H' := [imm I, pt b1 #[.pointer (some ⟨b2, 0, none⟩), .int .i64 m1.boot_, .int .i64 m1.n_] 75, pt b2 #[.slice p0 m2.sure_.length c0, .map (some p1), .bool m2.off_, .bool m2.armed_, .int .i64 m2.left_, .int .u64 m2.fall_.Keep, .int .i64 m2.fall_.Tear, .int .i64 m2.acts_, .int .i64 m2.falls_] 52, own e_disk_sector 55 p0 c0 m2.sure_, mpo (kInt .i64) (fun x : disk_sector => Value.agg #[.string x.s_, .int .i64 x.at_]) p1 m2.wait_, pt b0 #[.pointer (some ⟨b1, 0, none⟩), .int .i64 m0.base_, .int .i64 m0.slots_, .int .i64 m0.shred_] 78] ++ F0) rfl (aw_next (fun w hs => sat_pulls [0, 4, 0, 0, 0, 0] (G := [] ++ F0) rfl hs) ?_)
  refine aw_vals [11, 12, 13, 14, 15, 16, 17] (f' := 0) (m' := 262143) [7, 9] [(7, .string r24.1), (9, .int .i64 r24.2.2)] (fun _ _ _ _ _ h => calm_fin (P := Tryz.prog) (fn := Tryz.f25) _ _ _ _ _ h) (fun w hs => sat_pulls [0, 4, 0, 0, 0, 0] (G := [] ++ F0) rfl hs) rfl (by kernel_rfl) ?_
  refine aw_keep [7, 9] (L' := [(7, .string r24.1), (9, .int .i64 r24.2.2)]) rfl ?_
  refine aw_end (by kernel_rfl) ?_
  refine ew_then ?_
  refine cw_seq ?_
  refine cw_block ?_
  refine cw_seq ?_
  refine cw_region ?_
  refine ow_vals 3 (j := 3) [7, 9, 31] [(7, .string r24.1), (9, .int .i64 r24.2.2), (31, .bool (r24.2.2 != 0))] rfl (by kernel_rfl) ?_
  refine ow_end rfl ?_
  refine ew_then ?_
  rcases if_some hF with ⟨h26, hF⟩ | ⟨h26, hF⟩
  · refine cw_cond_t rfl rfl h26 ?_
    refine cw_seq ?_
    refine cw_region ?_
    refine ow_vals 3 (j := 3) [4, 5] [(4, .string (ByteArray.mk #[])), (5, .int .i64 r24.2.2)] rfl (by kernel_rfl) ?_
    refine ow_end rfl ?_
    refine ew_then ?_
    refine cw_ret ?_
    refine ew_blk_ret ?_
    refine ew_then_ret ?_
    have hR := Option.some.inj hF
    subst hR
    exact fin2 (H1 := [imm I, pt b0 #[.pointer (some ⟨b1, 0, none⟩), .int .i64 m0.base_, .int .i64 m0.slots_, .int .i64 m0.shred_] 78, pt b1 #[.pointer (some ⟨b2, 0, none⟩), .int .i64 m1.boot_, .int .i64 m1.n_] 75, pt b2 #[.slice p0 m2.sure_.length c0, .map (some p1), .bool m2.off_, .bool m2.armed_, .int .i64 m2.left_, .int .u64 m2.fall_.Keep, .int .i64 m2.fall_.Tear, .int .i64 m2.acts_, .int .i64 m2.falls_] 52, own e_disk_sector 55 p0 c0 m2.sure_, mpo (kInt .i64) (fun x : disk_sector => Value.agg #[.string x.s_, .int .i64 x.at_]) p1 m2.wait_]) (fun w hs => sat_to [0, 4, 0, 0, 0, 0] 0 rfl hs) rfl (rr_tmp rfl) (rr_tmp rfl) ⟨rfl, rfl⟩
  refine cw_cond_f rfl rfl h26 ?_
  refine cw_seq ?_
  refine cw_region ?_
  refine ow_vals 4 (j := 4) [7, 35] [(7, .string r24.1), (35, .bool ((r24.1.size : Int) != 32))] rfl (by kernel_rfl) ?_
  refine ow_end rfl ?_
  refine ew_then ?_
  rcases if_some hF with ⟨h27, hF⟩ | ⟨h27, hF⟩
  · refine cw_cond_t rfl rfl h27 ?_
    refine cw_seq ?_
    refine cw_region ?_
    refine ow_vals 2 (j := 2) [4, 5] [(4, .string (ByteArray.mk #[])), (5, .int .i64 17)] rfl (by kernel_rfl) ?_
    refine ow_end rfl ?_
    refine ew_then ?_
    refine cw_ret ?_
    refine ew_blk_ret ?_
    refine ew_then_ret ?_
    have hR := Option.some.inj hF
    subst hR
    exact fin2 (H1 := [imm I, pt b0 #[.pointer (some ⟨b1, 0, none⟩), .int .i64 m0.base_, .int .i64 m0.slots_, .int .i64 m0.shred_] 78, pt b1 #[.pointer (some ⟨b2, 0, none⟩), .int .i64 m1.boot_, .int .i64 m1.n_] 75, pt b2 #[.slice p0 m2.sure_.length c0, .map (some p1), .bool m2.off_, .bool m2.armed_, .int .i64 m2.left_, .int .u64 m2.fall_.Keep, .int .i64 m2.fall_.Tear, .int .i64 m2.acts_, .int .i64 m2.falls_] 52, own e_disk_sector 55 p0 c0 m2.sure_, mpo (kInt .i64) (fun x : disk_sector => Value.agg #[.string x.s_, .int .i64 x.at_]) p1 m2.wait_]) (fun w hs => sat_to [0, 4, 0, 0, 0, 0] 0 rfl hs) rfl (rr_tmp rfl) (rr_tmp rfl) ⟨rfl, rfl⟩
  refine cw_cond_f rfl rfl h27 ?_
  refine cw_skip ?_
  refine ew_blk ?_
  refine ew_then ?_
  refine cw_seq ?_
  refine cw_region ?_
  refine ow_vals 3 (j := 3) [4, 5] [(4, .string r24.1), (5, .int .i64 0)] rfl (by kernel_rfl) ?_
  refine ow_end rfl ?_
  refine ew_then ?_
  refine cw_ret ?_
  have hR := Option.some.inj hF
  subst hR
  exact fin2 (H1 := [imm I, pt b0 #[.pointer (some ⟨b1, 0, none⟩), .int .i64 m0.base_, .int .i64 m0.slots_, .int .i64 m0.shred_] 78, pt b1 #[.pointer (some ⟨b2, 0, none⟩), .int .i64 m1.boot_, .int .i64 m1.n_] 75, pt b2 #[.slice p0 m2.sure_.length c0, .map (some p1), .bool m2.off_, .bool m2.armed_, .int .i64 m2.left_, .int .u64 m2.fall_.Keep, .int .i64 m2.fall_.Tear, .int .i64 m2.acts_, .int .i64 m2.falls_] 52, own e_disk_sector 55 p0 c0 m2.sure_, mpo (kInt .i64) (fun x : disk_sector => Value.agg #[.string x.s_, .int .i64 x.at_]) p1 m2.wait_]) (fun w hs => sat_to [0, 4, 0, 0, 0, 0] 0 rfl hs) rfl (rr_tmp rfl) (rr_tmp rfl) ⟨rfl, rfl⟩


def F.law13_again.r2 (x3 : Int) (m1 : law13_plain) (r31 : Int × disk_Disk) (r35_s1 : (keyring_Ring × guard_Guard)) (r42 : ByteArray × Int) (x66 : Bool) : Option ((Option (keyring_Ring × guard_Guard)) × disk_Disk × law13_plain) :=
  if x66 then (Option.bind (at_ ([m1.keys_.e0, m1.keys_.e1, m1.keys_.e2, m1.keys_.e3, m1.keys_.e4, m1.keys_.e5, m1.keys_.e6, m1.keys_.e7] : List Int) x3) (fun (y68 : Int) => some ((some (r35_s1.1, r35_s1.2), r31.2, (⟨(⟨if x3.toNat = 0 then 0 else m1.keys_.e0, if x3.toNat = 1 then 0 else m1.keys_.e1, if x3.toNat = 2 then 0 else m1.keys_.e2, if x3.toNat = 3 then 0 else m1.keys_.e3, if x3.toNat = 4 then 0 else m1.keys_.e4, if x3.toNat = 5 then 0 else m1.keys_.e5, if x3.toNat = 6 then 0 else m1.keys_.e6, if x3.toNat = 7 then 0 else m1.keys_.e7⟩ : A8_Inti64), IntKind.i64.wrap (m1.boot_ + 1), 0⟩ : law13_plain))))) else (if r42.2 == 17 then (Option.bind (F.keyring_Ring_Shred x3 r35_s1.1 r35_s1.2 r31.2) (fun (r71 : Int × keyring_Ring × disk_Disk) => if r71.1 != 0 then (some ((none, r71.2.2, (⟨m1.keys_, IntKind.i64.wrap (m1.boot_ + 1), 0⟩ : law13_plain)))) else (Option.bind (at_ ([m1.keys_.e0, m1.keys_.e1, m1.keys_.e2, m1.keys_.e3, m1.keys_.e4, m1.keys_.e5, m1.keys_.e6, m1.keys_.e7] : List Int) x3) (fun (y76 : Int) => some ((some (r71.2.1, r35_s1.2), r71.2.2, (⟨(⟨if x3.toNat = 0 then 0 else m1.keys_.e0, if x3.toNat = 1 then 0 else m1.keys_.e1, if x3.toNat = 2 then 0 else m1.keys_.e2, if x3.toNat = 3 then 0 else m1.keys_.e3, if x3.toNat = 4 then 0 else m1.keys_.e4, if x3.toNat = 5 then 0 else m1.keys_.e5, if x3.toNat = 6 then 0 else m1.keys_.e6, if x3.toNat = 7 then 0 else m1.keys_.e7⟩ : A8_Inti64), IntKind.i64.wrap (m1.boot_ + 1), 1⟩ : law13_plain))))))) else (some ((none, r31.2, (⟨m1.keys_, IntKind.i64.wrap (m1.boot_ + 1), 0⟩ : law13_plain)))))
def F.law13_again.r1 (x3 : Int) (x4 : Int) (m1 : law13_plain) (r31 : Int × disk_Disk) (r35_s1 : (keyring_Ring × guard_Guard)) (r42 : ByteArray × Int) (y44 : Int) (x58 : Bool) : Option ((Option (keyring_Ring × guard_Guard)) × disk_Disk × law13_plain) :=
  if x58 then (chk (0 ≤ (0 : Int) ∧ 0 < (r42.1.size : Int)) (Option.bind (at_ ([m1.keys_.e0, m1.keys_.e1, m1.keys_.e2, m1.keys_.e3, m1.keys_.e4, m1.keys_.e5, m1.keys_.e6, m1.keys_.e7] : List Int) x3) (fun (y61 : Int) => some ((some (r35_s1.1, r35_s1.2), r31.2, (⟨(⟨if x3.toNat = 0 then IntKind.i64.wrap (bt r42.1 0) else m1.keys_.e0, if x3.toNat = 1 then IntKind.i64.wrap (bt r42.1 0) else m1.keys_.e1, if x3.toNat = 2 then IntKind.i64.wrap (bt r42.1 0) else m1.keys_.e2, if x3.toNat = 3 then IntKind.i64.wrap (bt r42.1 0) else m1.keys_.e3, if x3.toNat = 4 then IntKind.i64.wrap (bt r42.1 0) else m1.keys_.e4, if x3.toNat = 5 then IntKind.i64.wrap (bt r42.1 0) else m1.keys_.e5, if x3.toNat = 6 then IntKind.i64.wrap (bt r42.1 0) else m1.keys_.e6, if x3.toNat = 7 then IntKind.i64.wrap (bt r42.1 0) else m1.keys_.e7⟩ : A8_Inti64), IntKind.i64.wrap (m1.boot_ + 1), 0⟩ : law13_plain)))))) else (Option.bind (if r42.2 == 7 then (if y44 == 0 then (some (true)) else (some ((x4 == 0)))) else (some (false))) (fun x => F.law13_again.r2 x3 m1 r31 r35_s1 r42 x))
def F.law13_again (x2 : disk_Fall) (x3 : Int) (x4 : Int) (m0 : disk_Disk) (m1 : law13_plain) : Option ((Option (keyring_Ring × guard_Guard)) × disk_Disk × law13_plain) :=
  Option.bind (F.disk_Disk_Crash x2 m0) (fun (r23 : Int × disk_Disk) => Option.bind (F.disk_Disk_Calm r23.2) (fun (r27 : disk_Disk) => Option.bind (F.disk_Disk_Start r27) (fun (r31 : Int × disk_Disk) => Option.bind (F.law13_made (IntKind.i64.wrap (m1.boot_ + 1)) r31.2) (fun (r35 : (Option (keyring_Ring × guard_Guard))) => optC r35 (some ((none, r31.2, (⟨m1.keys_, IntKind.i64.wrap (m1.boot_ + 1), 0⟩ : law13_plain)))) (fun (r35_s1 : (keyring_Ring × guard_Guard)) => Option.bind (F.law13_in x3) (fun (r39 : Bool) => if r39 then (Option.bind (F.keyring_Ring_Get x3 r35_s1.1 r35_s1.2 r31.2) (fun (r42 : ByteArray × Int) => Option.bind (at_ ([m1.keys_.e0, m1.keys_.e1, m1.keys_.e2, m1.keys_.e3, m1.keys_.e4, m1.keys_.e5, m1.keys_.e6, m1.keys_.e7] : List Int) x3) (fun (y44 : Int) => Option.bind (if r42.2 == 0 then (if decide (y44 > 0) then (Option.bind (F.law13_key (IntKind.u8.wrap (y44))) (fun (r49 : ByteArray) => if seqB r42.1 r49 then (some (true)) else (if decide (x4 > 0) then (Option.bind (F.law13_key (IntKind.u8.wrap (x4))) (fun (r53 : ByteArray) => some ((seqB r42.1 r53)))) else (some (false))))) else (if decide (x4 > 0) then (Option.bind (F.law13_key (IntKind.u8.wrap (x4))) (fun (r56 : ByteArray) => some ((seqB r42.1 r56)))) else (some (false)))) else (some (false))) (fun x => F.law13_again.r1 x3 x4 m1 r31 r35_s1 r42 y44 x)))) else (some ((some (r35_s1.1, r35_s1.2), r31.2, (⟨m1.keys_, IntKind.i64.wrap (m1.boot_ + 1), 0⟩ : law13_plain))))))))))
set_option maxRecDepth 100000 in
set_option maxHeartbeats 4000000 in
theorem c_law13_again (I : Hl) (x2 : disk_Fall) (x3 : Int) (x4 : Int) (m0 : disk_Disk) (m1 : law13_plain) (p0 : Option Addr) (c0 : Nat) (p1 : Nat) (b0 : Nat) (b1 : Nat) (res : (Option (keyring_Ring × guard_Guard)) × disk_Disk × law13_plain) (hF : F.law13_again x2 x3 x4 m0 m1 = some res) : Tr Tryz.prog 11 [.pointer (some ⟨b0, 0, none⟩), .pointer (some ⟨b1, 0, none⟩), .agg #[.int .u64 x2.Keep, .int .i64 x2.Tear], .int .i64 x3, .int .i64 x4] [imm I, pt b0 #[.slice p0 m0.sure_.length c0, .map (some p1), .bool m0.off_, .bool m0.armed_, .int .i64 m0.left_, .int .u64 m0.fall_.Keep, .int .i64 m0.fall_.Tear, .int .i64 m0.acts_, .int .i64 m0.falls_] 52, pt b1 #[.int .i64 m1.keys_.e0, .int .i64 m1.keys_.e1, .int .i64 m1.keys_.e2, .int .i64 m1.keys_.e3, .int .i64 m1.keys_.e4, .int .i64 m1.keys_.e5, .int .i64 m1.keys_.e6, .int .i64 m1.keys_.e7, .int .i64 m1.boot_, .int .i64 m1.shred_] 30, own e_disk_sector 55 p0 c0 m0.sure_, mpo (kInt .i64) (fun x : disk_sector => Value.agg #[.string x.s_, .int .i64 x.at_]) p1 m0.wait_] (fun r H' => (∃ (pq1 : Option Addr), ∃ (cq2 : Nat), ∃ (bq4 : Nat), res.1 = none ∧ r = .pointer none ∧ H' = [imm I, pt b0 #[.slice pq1 res.2.1.sure_.length cq2, .map (some bq4), .bool res.2.1.off_, .bool res.2.1.armed_, .int .i64 res.2.1.left_, .int .u64 res.2.1.fall_.Keep, .int .i64 res.2.1.fall_.Tear, .int .i64 res.2.1.acts_, .int .i64 res.2.1.falls_] 52, pt b1 #[.int .i64 res.2.2.keys_.e0, .int .i64 res.2.2.keys_.e1, .int .i64 res.2.2.keys_.e2, .int .i64 res.2.2.keys_.e3, .int .i64 res.2.2.keys_.e4, .int .i64 res.2.2.keys_.e5, .int .i64 res.2.2.keys_.e6, .int .i64 res.2.2.keys_.e7, .int .i64 res.2.2.boot_, .int .i64 res.2.2.shred_] 30, own e_disk_sector 55 pq1 cq2 res.2.1.sure_, mpo (kInt .i64) (fun x : disk_sector => Value.agg #[.string x.s_, .int .i64 x.at_]) bq4 res.2.1.wait_]) ∨ (∃ (sq1 : (keyring_Ring × guard_Guard)), ∃ (bq2 : Nat), ∃ (bq4 : Nat), ∃ (pq6 : Option Addr), ∃ (cq7 : Nat), ∃ (bq9 : Nat), res.1 = some sq1 ∧ r = .pointer (some ⟨bq2, 0, none⟩) ∧ H' = [imm I, pt b0 #[.slice pq6 res.2.1.sure_.length cq7, .map (some bq9), .bool res.2.1.off_, .bool res.2.1.armed_, .int .i64 res.2.1.left_, .int .u64 res.2.1.fall_.Keep, .int .i64 res.2.1.fall_.Tear, .int .i64 res.2.1.acts_, .int .i64 res.2.1.falls_] 52, pt b1 #[.int .i64 res.2.2.keys_.e0, .int .i64 res.2.2.keys_.e1, .int .i64 res.2.2.keys_.e2, .int .i64 res.2.2.keys_.e3, .int .i64 res.2.2.keys_.e4, .int .i64 res.2.2.keys_.e5, .int .i64 res.2.2.keys_.e6, .int .i64 res.2.2.keys_.e7, .int .i64 res.2.2.boot_, .int .i64 res.2.2.shred_] 30, pt bq4 #[.pointer (some ⟨b0, 0, none⟩), .int .i64 sq1.2.boot_, .int .i64 sq1.2.n_] 75, pt bq2 #[.pointer (some ⟨bq4, 0, none⟩), .int .i64 sq1.1.base_, .int .i64 sq1.1.slots_, .int .i64 sq1.1.shred_] 78, own e_disk_sector 55 pq6 cq7 res.2.1.sure_, mpo (kInt .i64) (fun x : disk_sector => Value.agg #[.string x.s_, .int .i64 x.at_]) bq9 res.2.1.wait_])) := by
  unfold F.law13_again at hF
  refine tr_of_cw (fn := Tryz.f11) Tryz.func11 rfl (Nat.le_of_ble_eq_true rfl) 117 rfl fun F0 w0 => ?_
  refine cw_keep [0, 1, 2, 3, 4] (L' := [(0, .pointer (some ⟨b0, 0, none⟩)), (1, .pointer (some ⟨b1, 0, none⟩)), (2, .agg #[.int .u64 x2.Keep, .int .i64 x2.Tear]), (3, .int .i64 x3), (4, .int .i64 x4)]) rfl ?_
  refine cw_state (S' := SAT w0 ([imm I, pt b0 #[.slice p0 m0.sure_.length c0, .map (some p1), .bool m0.off_, .bool m0.armed_, .int .i64 m0.left_, .int .u64 m0.fall_.Keep, .int .i64 m0.fall_.Tear, .int .i64 m0.acts_, .int .i64 m0.falls_] 52, pt b1 #[.int .i64 m1.keys_.e0, .int .i64 m1.keys_.e1, .int .i64 m1.keys_.e2, .int .i64 m1.keys_.e3, .int .i64 m1.keys_.e4, .int .i64 m1.keys_.e5, .int .i64 m1.keys_.e6, .int .i64 m1.keys_.e7, .int .i64 m1.boot_, .int .i64 m1.shred_] 30, own e_disk_sector 55 p0 c0 m0.sure_, mpo (kInt .i64) (fun x : disk_sector => Value.agg #[.string x.s_, .int .i64 x.at_]) p1 m0.wait_] ++ F0)) (fun w hs => hs) ?_
  refine cw_seq ?_
  refine cw_region ?_
  refine ow_pw rfl (pw_box (cs := #[.int .u64 x2.Keep, .int .i64 x2.Tear]) rfl rfl rfl rfl rfl rfl fun b21 => nw_ow ?_)
  refine ow_vals 1 (j := 2) [0, 1, 3, 4, 7] [(0, .pointer (some ⟨b0, 0, none⟩)), (1, .pointer (some ⟨b1, 0, none⟩)), (3, .int .i64 x3), (4, .int .i64 x4), (7, .pointer (some ⟨b21, 0, none⟩))] rfl (by kernel_rfl) ?_
  refine ow_end rfl ?_
  refine ew_then ?_
  refine cw_seq ?_
  refine cw_region ?_
  refine ow_vals 1 (j := 1) [0, 1, 3, 4, 7, 15] [(0, .pointer (some ⟨b0, 0, none⟩)), (1, .pointer (some ⟨b1, 0, none⟩)), (3, .int .i64 x3), (4, .int .i64 x4), (7, .pointer (some ⟨b21, 0, none⟩)), (15, .pointer (some ⟨b0, 0, none⟩))] rfl (by kernel_rfl) ?_
  refine ow_pw rfl (pw_quiet (v := .agg #[.int .u64 x2.Keep, .int .i64 x2.Tear]) rfl rfl rfl rfl (q_load 0 rfl rfl rfl (by kernel_rfl)) (nw_ow ?_))
  obtain ⟨r23, h24, hF⟩ := bind_some hF
  refine ow_pw rfl (pw_call (F := [pt b21 #[.int .u64 x2.Keep, .int .i64 x2.Tear] 36, pt b1 #[.int .i64 m1.keys_.e0, .int .i64 m1.keys_.e1, .int .i64 m1.keys_.e2, .int .i64 m1.keys_.e3, .int .i64 m1.keys_.e4, .int .i64 m1.keys_.e5, .int .i64 m1.keys_.e6, .int .i64 m1.keys_.e7, .int .i64 m1.boot_, .int .i64 m1.shred_] 30] ++ F0) rfl rfl rfl rfl rfl rfl rfl (by kernel_rfl) (perm_of_pulls [1, 1, 2, 2] rfl) (c_disk_Disk_Crash _ x2 m0 p0 c0 p1 b0 r23 h24) ?_)
  rintro _ _ ⟨r23_p1, r23_c2, r23_b4, rfl, rfl⟩
  refine nw_H (H' := [imm I, pt b0 #[.slice r23_p1 r23.2.sure_.length r23_c2, .map (some r23_b4), .bool r23.2.off_, .bool r23.2.armed_, .int .i64 r23.2.left_, .int .u64 r23.2.fall_.Keep, .int .i64 r23.2.fall_.Tear, .int .i64 r23.2.acts_, .int .i64 r23.2.falls_] 52, own e_disk_sector 55 r23_p1 r23_c2 r23.2.sure_, mpo (kInt .i64) (fun x : disk_sector => Value.agg #[.string x.s_, .int .i64 x.at_]) r23_b4 r23.2.wait_, pt b21 #[.int .u64 x2.Keep, .int .i64 x2.Tear] 36, pt b1 #[.int .i64 m1.keys_.e0, .int .i64 m1.keys_.e1, .int .i64 m1.keys_.e2, .int .i64 m1.keys_.e3, .int .i64 m1.keys_.e4, .int .i64 m1.keys_.e5, .int .i64 m1.keys_.e6, .int .i64 m1.keys_.e7, .int .i64 m1.boot_, .int .i64 m1.shred_] 30] ++ F0) rfl (nw_ow ?_)
  refine ow_end rfl ?_
  refine ew_then ?_
  refine cw_seq ?_
  refine cw_region ?_
  refine ow_vals 1 (j := 1) [0, 1, 3, 4, 18] [(0, .pointer (some ⟨b0, 0, none⟩)), (1, .pointer (some ⟨b1, 0, none⟩)), (3, .int .i64 x3), (4, .int .i64 x4), (18, .pointer (some ⟨b0, 0, none⟩))] rfl (by kernel_rfl) ?_
  obtain ⟨r27, h28, hF⟩ := bind_some hF
  refine ow_pw rfl (pw_call (F := [pt b21 #[.int .u64 x2.Keep, .int .i64 x2.Tear] 36, pt b1 #[.int .i64 m1.keys_.e0, .int .i64 m1.keys_.e1, .int .i64 m1.keys_.e2, .int .i64 m1.keys_.e3, .int .i64 m1.keys_.e4, .int .i64 m1.keys_.e5, .int .i64 m1.keys_.e6, .int .i64 m1.keys_.e7, .int .i64 m1.boot_, .int .i64 m1.shred_] 30] ++ F0) rfl rfl rfl rfl rfl rfl rfl (by kernel_rfl) (perm_of_pulls [0, 0, 0, 0] rfl) (c_disk_Disk_Calm _ r23.2 r23_p1 r23_c2 r23_b4 b0 r27 h28) ?_)
  rintro _ _ ⟨r27_p1, r27_c2, r27_b4, rfl, rfl⟩
  refine nw_H (H' := [imm I, pt b0 #[.slice r27_p1 r27.sure_.length r27_c2, .map (some r27_b4), .bool r27.off_, .bool r27.armed_, .int .i64 r27.left_, .int .u64 r27.fall_.Keep, .int .i64 r27.fall_.Tear, .int .i64 r27.acts_, .int .i64 r27.falls_] 52, own e_disk_sector 55 r27_p1 r27_c2 r27.sure_, mpo (kInt .i64) (fun x : disk_sector => Value.agg #[.string x.s_, .int .i64 x.at_]) r27_b4 r27.wait_, pt b21 #[.int .u64 x2.Keep, .int .i64 x2.Tear] 36, pt b1 #[.int .i64 m1.keys_.e0, .int .i64 m1.keys_.e1, .int .i64 m1.keys_.e2, .int .i64 m1.keys_.e3, .int .i64 m1.keys_.e4, .int .i64 m1.keys_.e5, .int .i64 m1.keys_.e6, .int .i64 m1.keys_.e7, .int .i64 m1.boot_, .int .i64 m1.shred_] 30] ++ F0) rfl (nw_ow ?_)
  refine ow_end rfl ?_
  refine ew_then ?_
  refine cw_seq ?_
  refine cw_region ?_
  refine ow_vals 1 (j := 1) [0, 1, 3, 4, 20] [(0, .pointer (some ⟨b0, 0, none⟩)), (1, .pointer (some ⟨b1, 0, none⟩)), (3, .int .i64 x3), (4, .int .i64 x4), (20, .pointer (some ⟨b0, 0, none⟩))] rfl (by kernel_rfl) ?_
  obtain ⟨r31, h32, hF⟩ := bind_some hF
  refine ow_pw rfl (pw_call (F := [pt b21 #[.int .u64 x2.Keep, .int .i64 x2.Tear] 36, pt b1 #[.int .i64 m1.keys_.e0, .int .i64 m1.keys_.e1, .int .i64 m1.keys_.e2, .int .i64 m1.keys_.e3, .int .i64 m1.keys_.e4, .int .i64 m1.keys_.e5, .int .i64 m1.keys_.e6, .int .i64 m1.keys_.e7, .int .i64 m1.boot_, .int .i64 m1.shred_] 30] ++ F0) rfl rfl rfl rfl rfl rfl rfl (by kernel_rfl) (perm_of_pulls [0, 0, 0, 0] rfl) (c_disk_Disk_Start _ r27 r27_p1 r27_c2 r27_b4 b0 r31 h32) ?_)
  rintro _ _ ⟨r31_p1, r31_c2, r31_b4, rfl, rfl⟩
  refine nw_H (H' := [imm I, pt b0 #[.slice r31_p1 r31.2.sure_.length r31_c2, .map (some r31_b4), .bool r31.2.off_, .bool r31.2.armed_, .int .i64 r31.2.left_, .int .u64 r31.2.fall_.Keep, .int .i64 r31.2.fall_.Tear, .int .i64 r31.2.acts_, .int .i64 r31.2.falls_] 52, own e_disk_sector 55 r31_p1 r31_c2 r31.2.sure_, mpo (kInt .i64) (fun x : disk_sector => Value.agg #[.string x.s_, .int .i64 x.at_]) r31_b4 r31.2.wait_, pt b21 #[.int .u64 x2.Keep, .int .i64 x2.Tear] 36, pt b1 #[.int .i64 m1.keys_.e0, .int .i64 m1.keys_.e1, .int .i64 m1.keys_.e2, .int .i64 m1.keys_.e3, .int .i64 m1.keys_.e4, .int .i64 m1.keys_.e5, .int .i64 m1.keys_.e6, .int .i64 m1.keys_.e7, .int .i64 m1.boot_, .int .i64 m1.shred_] 30] ++ F0) rfl (nw_ow ?_)
  refine ow_end rfl ?_
  refine ew_then ?_
  refine cw_seq ?_
  refine cw_region ?_
  refine ow_vals 4 (j := 4) [0, 1, 3, 4, 22, 25] [(0, .pointer (some ⟨b0, 0, none⟩)), (1, .pointer (some ⟨b1, 0, none⟩)), (3, .int .i64 x3), (4, .int .i64 x4), (22, .pointer (some ⟨b1, 0, none⟩)), (25, .pointer (some ⟨b1, 8, none⟩))] rfl (by kernel_rfl) ?_
  refine ow_pw rfl (pw_quiet (v := .int .i64 m1.boot_) rfl rfl rfl rfl (q_load 5 rfl rfl rfl (by kernel_rfl)) (nw_ow ?_))
  refine ow_vals 3 (j := 8) [0, 1, 3, 4, 27, 29] [(0, .pointer (some ⟨b0, 0, none⟩)), (1, .pointer (some ⟨b1, 0, none⟩)), (3, .int .i64 x3), (4, .int .i64 x4), (27, .int .i64 (IntKind.i64.wrap (m1.boot_ + 1))), (29, .pointer (some ⟨b1, 8, none⟩))] rfl (by kernel_rfl) ?_
  refine ow_pw rfl (pw_store 5 #[.int .i64 m1.keys_.e0, .int .i64 m1.keys_.e1, .int .i64 m1.keys_.e2, .int .i64 m1.keys_.e3, .int .i64 m1.keys_.e4, .int .i64 m1.keys_.e5, .int .i64 m1.keys_.e6, .int .i64 m1.keys_.e7, .int .i64 (IntKind.i64.wrap (m1.boot_ + 1)), .int .i64 m1.shred_] rfl rfl rfl rfl rfl rfl rfl (by kernel_rfl) (nw_H (H' := [imm I, pt b0 #[.slice r31_p1 r31.2.sure_.length r31_c2, .map (some r31_b4), .bool r31.2.off_, .bool r31.2.armed_, .int .i64 r31.2.left_, .int .u64 r31.2.fall_.Keep, .int .i64 r31.2.fall_.Tear, .int .i64 r31.2.acts_, .int .i64 r31.2.falls_] 52, own e_disk_sector 55 r31_p1 r31_c2 r31.2.sure_, mpo (kInt .i64) (fun x : disk_sector => Value.agg #[.string x.s_, .int .i64 x.at_]) r31_b4 r31.2.wait_, pt b21 #[.int .u64 x2.Keep, .int .i64 x2.Tear] 36, pt b1 #[.int .i64 m1.keys_.e0, .int .i64 m1.keys_.e1, .int .i64 m1.keys_.e2, .int .i64 m1.keys_.e3, .int .i64 m1.keys_.e4, .int .i64 m1.keys_.e5, .int .i64 m1.keys_.e6, .int .i64 m1.keys_.e7, .int .i64 (IntKind.i64.wrap (m1.boot_ + 1)), .int .i64 m1.shred_] 30] ++ F0) rfl (nw_ow ?_)))
  refine ow_end rfl ?_
  refine ew_then ?_
  refine cw_seq ?_
  refine cw_region ?_
  refine ow_vals 3 (j := 3) [0, 1, 3, 4, 32] [(0, .pointer (some ⟨b0, 0, none⟩)), (1, .pointer (some ⟨b1, 0, none⟩)), (3, .int .i64 x3), (4, .int .i64 x4), (32, .pointer (some ⟨b1, 9, none⟩))] rfl (by kernel_rfl) ?_
  refine ow_pw rfl (pw_store 5 #[.int .i64 m1.keys_.e0, .int .i64 m1.keys_.e1, .int .i64 m1.keys_.e2, .int .i64 m1.keys_.e3, .int .i64 m1.keys_.e4, .int .i64 m1.keys_.e5, .int .i64 m1.keys_.e6, .int .i64 m1.keys_.e7, .int .i64 (IntKind.i64.wrap (m1.boot_ + 1)), .int .i64 0] rfl rfl rfl rfl rfl rfl rfl (by kernel_rfl) (nw_H (H' := [imm I, pt b0 #[.slice r31_p1 r31.2.sure_.length r31_c2, .map (some r31_b4), .bool r31.2.off_, .bool r31.2.armed_, .int .i64 r31.2.left_, .int .u64 r31.2.fall_.Keep, .int .i64 r31.2.fall_.Tear, .int .i64 r31.2.acts_, .int .i64 r31.2.falls_] 52, own e_disk_sector 55 r31_p1 r31_c2 r31.2.sure_, mpo (kInt .i64) (fun x : disk_sector => Value.agg #[.string x.s_, .int .i64 x.at_]) r31_b4 r31.2.wait_, pt b21 #[.int .u64 x2.Keep, .int .i64 x2.Tear] 36, pt b1 #[.int .i64 m1.keys_.e0, .int .i64 m1.keys_.e1, .int .i64 m1.keys_.e2, .int .i64 m1.keys_.e3, .int .i64 m1.keys_.e4, .int .i64 m1.keys_.e5, .int .i64 m1.keys_.e6, .int .i64 m1.keys_.e7, .int .i64 (IntKind.i64.wrap (m1.boot_ + 1)), .int .i64 0] 30] ++ F0) rfl (nw_ow ?_)))
  refine ow_end rfl ?_
  refine ew_then ?_
  refine cw_seq ?_
  refine cw_region ?_
  refine ow_vals 4 (j := 4) [1, 3, 4, 33, 36] [(1, .pointer (some ⟨b1, 0, none⟩)), (3, .int .i64 x3), (4, .int .i64 x4), (33, .pointer (some ⟨b0, 0, none⟩)), (36, .pointer (some ⟨b1, 8, none⟩))] rfl (by kernel_rfl) ?_
  refine ow_pw rfl (pw_quiet (v := .int .i64 (IntKind.i64.wrap (m1.boot_ + 1))) rfl rfl rfl rfl (q_load 5 rfl rfl rfl (by kernel_rfl)) (nw_ow ?_))
  obtain ⟨r35, h36, hF⟩ := bind_some hF
  refine ow_pw rfl (pw_call (F := [pt b21 #[.int .u64 x2.Keep, .int .i64 x2.Tear] 36, pt b1 #[.int .i64 m1.keys_.e0, .int .i64 m1.keys_.e1, .int .i64 m1.keys_.e2, .int .i64 m1.keys_.e3, .int .i64 m1.keys_.e4, .int .i64 m1.keys_.e5, .int .i64 m1.keys_.e6, .int .i64 m1.keys_.e7, .int .i64 (IntKind.i64.wrap (m1.boot_ + 1)), .int .i64 0] 30] ++ F0) rfl rfl rfl rfl rfl rfl rfl (by kernel_rfl) (perm_of_pulls [0, 0, 0, 0] rfl) (c_law13_made _ (IntKind.i64.wrap (m1.boot_ + 1)) r31.2 r31_p1 r31_c2 r31_b4 b0 r35 h36) ?_)
  rintro _ _ (⟨hO, rfl, rfl⟩ | ⟨r35_s1, r35_b2, r35_b4, hO, rfl, rfl⟩)
  · rw [hO] at hF
    try dsimp only [optC] at hF
    refine nw_H (H' := [imm I, pt b0 #[.slice r31_p1 r31.2.sure_.length r31_c2, .map (some r31_b4), .bool r31.2.off_, .bool r31.2.armed_, .int .i64 r31.2.left_, .int .u64 r31.2.fall_.Keep, .int .i64 r31.2.fall_.Tear, .int .i64 r31.2.acts_, .int .i64 r31.2.falls_] 52, own e_disk_sector 55 r31_p1 r31_c2 r31.2.sure_, mpo (kInt .i64) (fun x : disk_sector => Value.agg #[.string x.s_, .int .i64 x.at_]) r31_b4 r31.2.wait_, pt b21 #[.int .u64 x2.Keep, .int .i64 x2.Tear] 36, pt b1 #[.int .i64 m1.keys_.e0, .int .i64 m1.keys_.e1, .int .i64 m1.keys_.e2, .int .i64 m1.keys_.e3, .int .i64 m1.keys_.e4, .int .i64 m1.keys_.e5, .int .i64 m1.keys_.e6, .int .i64 m1.keys_.e7, .int .i64 (IntKind.i64.wrap (m1.boot_ + 1)), .int .i64 0] 30] ++ F0) rfl (nw_ow ?_)
    refine ow_vals 1 (j := 7) [1, 3, 4, 11] [(1, .pointer (some ⟨b1, 0, none⟩)), (3, .int .i64 x3), (4, .int .i64 x4), (11, .pointer none)] rfl (by kernel_rfl) ?_
    refine ow_end rfl ?_
    refine ew_then ?_
    refine cw_seq ?_
    refine cw_seq ?_
    refine cw_region ?_
    refine ow_vals 2 (j := 2) [1, 3, 4, 11, 40] [(1, .pointer (some ⟨b1, 0, none⟩)), (3, .int .i64 x3), (4, .int .i64 x4), (11, .pointer none), (40, .bool true)] rfl (by kernel_rfl) ?_
    refine ow_end rfl ?_
    refine ew_then ?_
    refine cw_cond_t rfl rfl rfl ?_
    refine cw_seq ?_
    refine cw_region ?_
    refine ow_vals 1 (j := 1) [10] [(10, .pointer none)] rfl (by kernel_rfl) ?_
    refine ow_end rfl ?_
    refine ew_then ?_
    refine cw_ret ?_
    refine ew_then_ret ?_
    have hR := Option.some.inj hF
    subst hR
    exact fin1 (H1 := [imm I, pt b0 #[.slice r31_p1 r31.2.sure_.length r31_c2, .map (some r31_b4), .bool r31.2.off_, .bool r31.2.armed_, .int .i64 r31.2.left_, .int .u64 r31.2.fall_.Keep, .int .i64 r31.2.fall_.Tear, .int .i64 r31.2.acts_, .int .i64 r31.2.falls_] 52, pt b1 #[.int .i64 (((⟨m1.keys_, IntKind.i64.wrap (m1.boot_ + 1), 0⟩ : law13_plain).keys_).e0), .int .i64 (((⟨m1.keys_, IntKind.i64.wrap (m1.boot_ + 1), 0⟩ : law13_plain).keys_).e1), .int .i64 (((⟨m1.keys_, IntKind.i64.wrap (m1.boot_ + 1), 0⟩ : law13_plain).keys_).e2), .int .i64 (((⟨m1.keys_, IntKind.i64.wrap (m1.boot_ + 1), 0⟩ : law13_plain).keys_).e3), .int .i64 (((⟨m1.keys_, IntKind.i64.wrap (m1.boot_ + 1), 0⟩ : law13_plain).keys_).e4), .int .i64 (((⟨m1.keys_, IntKind.i64.wrap (m1.boot_ + 1), 0⟩ : law13_plain).keys_).e5), .int .i64 (((⟨m1.keys_, IntKind.i64.wrap (m1.boot_ + 1), 0⟩ : law13_plain).keys_).e6), .int .i64 (((⟨m1.keys_, IntKind.i64.wrap (m1.boot_ + 1), 0⟩ : law13_plain).keys_).e7), .int .i64 ((⟨m1.keys_, IntKind.i64.wrap (m1.boot_ + 1), 0⟩ : law13_plain).boot_), .int .i64 ((⟨m1.keys_, IntKind.i64.wrap (m1.boot_ + 1), 0⟩ : law13_plain).shred_)] 30, own e_disk_sector 55 r31_p1 r31_c2 r31.2.sure_, mpo (kInt .i64) (fun x : disk_sector => Value.agg #[.string x.s_, .int .i64 x.at_]) r31_b4 r31.2.wait_]) (fun w hs => sat_to [4, 0, 0, 2, 0, 0] 1 rfl hs) rfl (rr_tmp rfl) (.inl ⟨r31_p1, r31_c2, r31_b4, rfl, rfl, rfl⟩)
  rw [hO] at hF
  try dsimp only [optC] at hF
  refine nw_H (H' := [imm I, pt b0 #[.slice r31_p1 r31.2.sure_.length r31_c2, .map (some r31_b4), .bool r31.2.off_, .bool r31.2.armed_, .int .i64 r31.2.left_, .int .u64 r31.2.fall_.Keep, .int .i64 r31.2.fall_.Tear, .int .i64 r31.2.acts_, .int .i64 r31.2.falls_] 52, pt r35_b4 #[.pointer (some ⟨b0, 0, none⟩), .int .i64 r35_s1.2.boot_, .int .i64 r35_s1.2.n_] 75, pt r35_b2 #[.pointer (some ⟨r35_b4, 0, none⟩), .int .i64 r35_s1.1.base_, .int .i64 r35_s1.1.slots_, .int .i64 r35_s1.1.shred_] 78, own e_disk_sector 55 r31_p1 r31_c2 r31.2.sure_, mpo (kInt .i64) (fun x : disk_sector => Value.agg #[.string x.s_, .int .i64 x.at_]) r31_b4 r31.2.wait_, pt b21 #[.int .u64 x2.Keep, .int .i64 x2.Tear] 36, pt b1 #[.int .i64 m1.keys_.e0, .int .i64 m1.keys_.e1, .int .i64 m1.keys_.e2, .int .i64 m1.keys_.e3, .int .i64 m1.keys_.e4, .int .i64 m1.keys_.e5, .int .i64 m1.keys_.e6, .int .i64 m1.keys_.e7, .int .i64 (IntKind.i64.wrap (m1.boot_ + 1)), .int .i64 0] 30] ++ F0) rfl (nw_ow ?_)
  refine ow_vals 1 (j := 7) [1, 3, 4, 11] [(1, .pointer (some ⟨b1, 0, none⟩)), (3, .int .i64 x3), (4, .int .i64 x4), (11, .pointer (some ⟨r35_b2, 0, none⟩))] rfl (by kernel_rfl) ?_
  refine ow_end rfl ?_
  refine ew_then ?_
  refine cw_seq ?_
  refine cw_seq ?_
  refine cw_region ?_
  refine ow_vals 2 (j := 2) [1, 3, 4, 11, 40] [(1, .pointer (some ⟨b1, 0, none⟩)), (3, .int .i64 x3), (4, .int .i64 x4), (11, .pointer (some ⟨r35_b2, 0, none⟩)), (40, .bool false)] rfl (by kernel_rfl) ?_
  refine ow_end rfl ?_
  refine ew_then ?_
  refine cw_cond_f rfl rfl rfl ?_
  refine cw_skip ?_
  refine ew_then ?_
  refine cw_seq ?_
  refine cw_seq ?_
  refine cw_region ?_
  refine ow_vals 1 (j := 1) [1, 3, 4, 11, 41] [(1, .pointer (some ⟨b1, 0, none⟩)), (3, .int .i64 x3), (4, .int .i64 x4), (11, .pointer (some ⟨r35_b2, 0, none⟩)), (41, .int .i64 x3)] rfl (by kernel_rfl) ?_
  obtain ⟨r39, h40, hF⟩ := bind_some hF
  refine ow_pw rfl (pw_call (F := [pt b0 #[.slice r31_p1 r31.2.sure_.length r31_c2, .map (some r31_b4), .bool r31.2.off_, .bool r31.2.armed_, .int .i64 r31.2.left_, .int .u64 r31.2.fall_.Keep, .int .i64 r31.2.fall_.Tear, .int .i64 r31.2.acts_, .int .i64 r31.2.falls_] 52, pt r35_b4 #[.pointer (some ⟨b0, 0, none⟩), .int .i64 r35_s1.2.boot_, .int .i64 r35_s1.2.n_] 75, pt r35_b2 #[.pointer (some ⟨r35_b4, 0, none⟩), .int .i64 r35_s1.1.base_, .int .i64 r35_s1.1.slots_, .int .i64 r35_s1.1.shred_] 78, own e_disk_sector 55 r31_p1 r31_c2 r31.2.sure_, mpo (kInt .i64) (fun x : disk_sector => Value.agg #[.string x.s_, .int .i64 x.at_]) r31_b4 r31.2.wait_, pt b21 #[.int .u64 x2.Keep, .int .i64 x2.Tear] 36, pt b1 #[.int .i64 m1.keys_.e0, .int .i64 m1.keys_.e1, .int .i64 m1.keys_.e2, .int .i64 m1.keys_.e3, .int .i64 m1.keys_.e4, .int .i64 m1.keys_.e5, .int .i64 m1.keys_.e6, .int .i64 m1.keys_.e7, .int .i64 (IntKind.i64.wrap (m1.boot_ + 1)), .int .i64 0] 30] ++ F0) rfl rfl rfl rfl rfl rfl rfl (by kernel_rfl) (perm_of_pulls [0] rfl) (c_law13_in _ x3 r39 h40) ?_)
  rintro _ _ ⟨rfl, rfl⟩
  refine nw_H (H' := [imm I, pt b0 #[.slice r31_p1 r31.2.sure_.length r31_c2, .map (some r31_b4), .bool r31.2.off_, .bool r31.2.armed_, .int .i64 r31.2.left_, .int .u64 r31.2.fall_.Keep, .int .i64 r31.2.fall_.Tear, .int .i64 r31.2.acts_, .int .i64 r31.2.falls_] 52, pt r35_b4 #[.pointer (some ⟨b0, 0, none⟩), .int .i64 r35_s1.2.boot_, .int .i64 r35_s1.2.n_] 75, pt r35_b2 #[.pointer (some ⟨r35_b4, 0, none⟩), .int .i64 r35_s1.1.base_, .int .i64 r35_s1.1.slots_, .int .i64 r35_s1.1.shred_] 78, own e_disk_sector 55 r31_p1 r31_c2 r31.2.sure_, mpo (kInt .i64) (fun x : disk_sector => Value.agg #[.string x.s_, .int .i64 x.at_]) r31_b4 r31.2.wait_, pt b21 #[.int .u64 x2.Keep, .int .i64 x2.Tear] 36, pt b1 #[.int .i64 m1.keys_.e0, .int .i64 m1.keys_.e1, .int .i64 m1.keys_.e2, .int .i64 m1.keys_.e3, .int .i64 m1.keys_.e4, .int .i64 m1.keys_.e5, .int .i64 m1.keys_.e6, .int .i64 m1.keys_.e7, .int .i64 (IntKind.i64.wrap (m1.boot_ + 1)), .int .i64 0] 30] ++ F0) rfl (nw_ow ?_)
  refine ow_end rfl ?_
  refine ew_then ?_
  rcases if_some hF with ⟨h41, hF⟩ | ⟨h41, hF⟩
  · refine cw_cond_t rfl rfl h41 ?_
    refine cw_seq ?_
    refine cw_region ?_
    refine ow_vals 2 (j := 2) [1, 3, 4, 11, 44, 45] [(1, .pointer (some ⟨b1, 0, none⟩)), (3, .int .i64 x3), (4, .int .i64 x4), (11, .pointer (some ⟨r35_b2, 0, none⟩)), (44, .pointer (some ⟨r35_b2, 0, none⟩)), (45, .int .i64 x3)] rfl (by kernel_rfl) ?_
    obtain ⟨r42, h43, hF⟩ := bind_some hF
    refine ow_pw rfl (pw_call (F := [pt b21 #[.int .u64 x2.Keep, .int .i64 x2.Tear] 36, pt b1 #[.int .i64 m1.keys_.e0, .int .i64 m1.keys_.e1, .int .i64 m1.keys_.e2, .int .i64 m1.keys_.e3, .int .i64 m1.keys_.e4, .int .i64 m1.keys_.e5, .int .i64 m1.keys_.e6, .int .i64 m1.keys_.e7, .int .i64 (IntKind.i64.wrap (m1.boot_ + 1)), .int .i64 0] 30] ++ F0) rfl rfl rfl rfl rfl rfl rfl (by kernel_rfl) (perm_of_pulls [0, 2, 1, 0, 0, 0] rfl) (c_keyring_Ring_Get _ x3 r35_s1.1 r35_s1.2 r31.2 r35_b2 r35_b4 r31_p1 r31_c2 r31_b4 b0 r42 h43) ?_)
    rintro _ _ ⟨rfl, rfl⟩
    refine nw_H (H' := [imm I, pt r35_b2 #[.pointer (some ⟨r35_b4, 0, none⟩), .int .i64 r35_s1.1.base_, .int .i64 r35_s1.1.slots_, .int .i64 r35_s1.1.shred_] 78, pt r35_b4 #[.pointer (some ⟨b0, 0, none⟩), .int .i64 r35_s1.2.boot_, .int .i64 r35_s1.2.n_] 75, pt b0 #[.slice r31_p1 r31.2.sure_.length r31_c2, .map (some r31_b4), .bool r31.2.off_, .bool r31.2.armed_, .int .i64 r31.2.left_, .int .u64 r31.2.fall_.Keep, .int .i64 r31.2.fall_.Tear, .int .i64 r31.2.acts_, .int .i64 r31.2.falls_] 52, own e_disk_sector 55 r31_p1 r31_c2 r31.2.sure_, mpo (kInt .i64) (fun x : disk_sector => Value.agg #[.string x.s_, .int .i64 x.at_]) r31_b4 r31.2.wait_, pt b21 #[.int .u64 x2.Keep, .int .i64 x2.Tear] 36, pt b1 #[.int .i64 m1.keys_.e0, .int .i64 m1.keys_.e1, .int .i64 m1.keys_.e2, .int .i64 m1.keys_.e3, .int .i64 m1.keys_.e4, .int .i64 m1.keys_.e5, .int .i64 m1.keys_.e6, .int .i64 m1.keys_.e7, .int .i64 (IntKind.i64.wrap (m1.boot_ + 1)), .int .i64 0] 30] ++ F0) rfl (nw_ow ?_)
    refine ow_vals 5 (j := 8) [1, 3, 4, 11, 12, 13] [(1, .pointer (some ⟨b1, 0, none⟩)), (3, .int .i64 x3), (4, .int .i64 x4), (11, .pointer (some ⟨r35_b2, 0, none⟩)), (12, .string r42.1), (13, .int .i64 r42.2)] rfl (by kernel_rfl) ?_
    refine ow_end rfl ?_
    refine ew_then ?_
    refine cw_seq ?_
    refine cw_region ?_
    refine ow_vals 4 (j := 4) [1, 3, 4, 11, 12, 13, 50, 52] [(1, .pointer (some ⟨b1, 0, none⟩)), (3, .int .i64 x3), (4, .int .i64 x4), (11, .pointer (some ⟨r35_b2, 0, none⟩)), (12, .string r42.1), (13, .int .i64 r42.2), (50, .int .i64 x3), (52, .pointer (some ⟨b1, 0, none⟩))] rfl (by kernel_rfl) ?_
    obtain ⟨y44, h45, hF⟩ := bind_some hF
    refine ow_pw rfl (pw_quiet (v := .pointer (some ((⟨b1, 0, none⟩ : Addr).add (x3.toNat * 1)))) rfl rfl rfl rfl (q_index_objel (l := ([m1.keys_.e0, m1.keys_.e1, m1.keys_.e2, m1.keys_.e3, m1.keys_.e4, m1.keys_.e5, m1.keys_.e6, m1.keys_.e7] : List Int)) (m := 8) (E := 3) (sz := 1) (tot := 8) rfl (by kernel_rfl) rfl rfl rfl h45) (nw_ow ?_))
    refine ow_pw rfl (pw_quiet (v := .int .i64 y44) rfl rfl rfl rfl (q_load_objel (e := (eInt .i64)) (l := ([m1.keys_.e0, m1.keys_.e1, m1.keys_.e2, m1.keys_.e3, m1.keys_.e4, m1.keys_.e5, m1.keys_.e6, m1.keys_.e7] : List Int)) 7 ([] : List Go.Value) ([.int .i64 (IntKind.i64.wrap (m1.boot_ + 1)), .int .i64 0] : List Go.Value) rfl rfl rfl rfl rfl (by kernel_rfl) rfl h45 rfl) (nw_ow ?_))
    refine ow_vals 1 (j := 7) [1, 3, 4, 11, 12, 13, 14] [(1, .pointer (some ⟨b1, 0, none⟩)), (3, .int .i64 x3), (4, .int .i64 x4), (11, .pointer (some ⟨r35_b2, 0, none⟩)), (12, .string r42.1), (13, .int .i64 r42.2), (14, .int .i64 y44)] rfl (by kernel_rfl) ?_
    refine ow_end rfl ?_
    refine ew_then ?_
    obtain ⟨v46, hF, hK46⟩ := bind_some hF
    refine cw_mid (fun a w => ∃ (x58 : Bool), x58 = v46 ∧ Fr 117 [(1, .pointer (some ⟨b1, 0, none⟩)), (3, .int .i64 x3), (4, .int .i64 x4), (11, .pointer (some ⟨r35_b2, 0, none⟩)), (12, .string r42.1), (13, .int .i64 r42.2), (14, .int .i64 y44), (78, .bool x58)] a ∧ SAT w0 ([imm I, pt r35_b2 #[.pointer (some ⟨r35_b4, 0, none⟩), .int .i64 r35_s1.1.base_, .int .i64 r35_s1.1.slots_, .int .i64 r35_s1.1.shred_] 78, pt r35_b4 #[.pointer (some ⟨b0, 0, none⟩), .int .i64 r35_s1.2.boot_, .int .i64 r35_s1.2.n_] 75, pt b0 #[.slice r31_p1 r31.2.sure_.length r31_c2, .map (some r31_b4), .bool r31.2.off_, .bool r31.2.armed_, .int .i64 r31.2.left_, .int .u64 r31.2.fall_.Keep, .int .i64 r31.2.fall_.Tear, .int .i64 r31.2.acts_, .int .i64 r31.2.falls_] 52, pt b21 #[.int .u64 x2.Keep, .int .i64 x2.Tear] 36, pt b1 #[.int .i64 m1.keys_.e0, .int .i64 m1.keys_.e1, .int .i64 m1.keys_.e2, .int .i64 m1.keys_.e3, .int .i64 m1.keys_.e4, .int .i64 m1.keys_.e5, .int .i64 m1.keys_.e6, .int .i64 m1.keys_.e7, .int .i64 (IntKind.i64.wrap (m1.boot_ + 1)), .int .i64 0] 30, own e_disk_sector 55 r31_p1 r31_c2 r31.2.sure_, mpo (kInt .i64) (fun x : disk_sector => Value.agg #[.string x.s_, .int .i64 x.at_]) r31_b4 r31.2.wait_] ++ F0) w) ?_ ?_
    · refine cw_region ?_
      refine ow_vals 3 (j := 3) [1, 3, 4, 11, 12, 13, 14, 57] [(1, .pointer (some ⟨b1, 0, none⟩)), (3, .int .i64 x3), (4, .int .i64 x4), (11, .pointer (some ⟨r35_b2, 0, none⟩)), (12, .string r42.1), (13, .int .i64 r42.2), (14, .int .i64 y44), (57, .bool (r42.2 == 0))] rfl (by kernel_rfl) ?_
      rcases if_some hF with ⟨h47, hF⟩ | ⟨h47, hF⟩
      · refine ow_slots (L' := [(1, .pointer (some ⟨b1, 0, none⟩)), (3, .int .i64 x3), (4, .int .i64 x4), (11, .pointer (some ⟨r35_b2, 0, none⟩)), (12, .string r42.1), (13, .int .i64 r42.2), (14, .int .i64 y44), (57, .bool true)]) (by rw [h47]) ?_
        refine ow_vals 3 (j := 6) [1, 3, 4, 11, 12, 13, 14, 57, 60] [(1, .pointer (some ⟨b1, 0, none⟩)), (3, .int .i64 x3), (4, .int .i64 x4), (11, .pointer (some ⟨r35_b2, 0, none⟩)), (12, .string r42.1), (13, .int .i64 r42.2), (14, .int .i64 y44), (57, .bool true), (60, .bool (decide (y44 > 0)))] rfl (by kernel_rfl) ?_
        rcases if_some hF with ⟨h48, hF⟩ | ⟨h48, hF⟩
        · refine ow_slots (L' := [(1, .pointer (some ⟨b1, 0, none⟩)), (3, .int .i64 x3), (4, .int .i64 x4), (11, .pointer (some ⟨r35_b2, 0, none⟩)), (12, .string r42.1), (13, .int .i64 r42.2), (14, .int .i64 y44), (57, .bool true), (60, .bool true)]) (by rw [h48]) ?_
          refine ow_vals 3 (j := 9) [1, 3, 4, 11, 12, 13, 14, 57, 60, 61, 63] [(1, .pointer (some ⟨b1, 0, none⟩)), (3, .int .i64 x3), (4, .int .i64 x4), (11, .pointer (some ⟨r35_b2, 0, none⟩)), (12, .string r42.1), (13, .int .i64 r42.2), (14, .int .i64 y44), (57, .bool true), (60, .bool true), (61, .string r42.1), (63, .int .u8 (IntKind.u8.wrap (y44)))] rfl (by kernel_rfl) ?_
          obtain ⟨r49, h50, hF⟩ := bind_some hF
          refine ow_pw rfl (pw_call (F := [pt r35_b2 #[.pointer (some ⟨r35_b4, 0, none⟩), .int .i64 r35_s1.1.base_, .int .i64 r35_s1.1.slots_, .int .i64 r35_s1.1.shred_] 78, pt r35_b4 #[.pointer (some ⟨b0, 0, none⟩), .int .i64 r35_s1.2.boot_, .int .i64 r35_s1.2.n_] 75, pt b0 #[.slice r31_p1 r31.2.sure_.length r31_c2, .map (some r31_b4), .bool r31.2.off_, .bool r31.2.armed_, .int .i64 r31.2.left_, .int .u64 r31.2.fall_.Keep, .int .i64 r31.2.fall_.Tear, .int .i64 r31.2.acts_, .int .i64 r31.2.falls_] 52, own e_disk_sector 55 r31_p1 r31_c2 r31.2.sure_, mpo (kInt .i64) (fun x : disk_sector => Value.agg #[.string x.s_, .int .i64 x.at_]) r31_b4 r31.2.wait_, pt b21 #[.int .u64 x2.Keep, .int .i64 x2.Tear] 36, pt b1 #[.int .i64 m1.keys_.e0, .int .i64 m1.keys_.e1, .int .i64 m1.keys_.e2, .int .i64 m1.keys_.e3, .int .i64 m1.keys_.e4, .int .i64 m1.keys_.e5, .int .i64 m1.keys_.e6, .int .i64 m1.keys_.e7, .int .i64 (IntKind.i64.wrap (m1.boot_ + 1)), .int .i64 0] 30] ++ F0) rfl rfl rfl rfl rfl rfl rfl (by kernel_rfl) (perm_of_pulls [0] rfl) (c_law13_key _ (IntKind.u8.wrap (y44)) r49 h50) ?_)
          rintro _ _ ⟨rfl, rfl⟩
          refine nw_H (H' := [imm I, pt r35_b2 #[.pointer (some ⟨r35_b4, 0, none⟩), .int .i64 r35_s1.1.base_, .int .i64 r35_s1.1.slots_, .int .i64 r35_s1.1.shred_] 78, pt r35_b4 #[.pointer (some ⟨b0, 0, none⟩), .int .i64 r35_s1.2.boot_, .int .i64 r35_s1.2.n_] 75, pt b0 #[.slice r31_p1 r31.2.sure_.length r31_c2, .map (some r31_b4), .bool r31.2.off_, .bool r31.2.armed_, .int .i64 r31.2.left_, .int .u64 r31.2.fall_.Keep, .int .i64 r31.2.fall_.Tear, .int .i64 r31.2.acts_, .int .i64 r31.2.falls_] 52, own e_disk_sector 55 r31_p1 r31_c2 r31.2.sure_, mpo (kInt .i64) (fun x : disk_sector => Value.agg #[.string x.s_, .int .i64 x.at_]) r31_b4 r31.2.wait_, pt b21 #[.int .u64 x2.Keep, .int .i64 x2.Tear] 36, pt b1 #[.int .i64 m1.keys_.e0, .int .i64 m1.keys_.e1, .int .i64 m1.keys_.e2, .int .i64 m1.keys_.e3, .int .i64 m1.keys_.e4, .int .i64 m1.keys_.e5, .int .i64 m1.keys_.e6, .int .i64 m1.keys_.e7, .int .i64 (IntKind.i64.wrap (m1.boot_ + 1)), .int .i64 0] 30] ++ F0) rfl (nw_ow ?_)
          refine ow_vals 3 (j := 13) [1, 3, 4, 11, 12, 13, 14, 57, 67] [(1, .pointer (some ⟨b1, 0, none⟩)), (3, .int .i64 x3), (4, .int .i64 x4), (11, .pointer (some ⟨r35_b2, 0, none⟩)), (12, .string r42.1), (13, .int .i64 r42.2), (14, .int .i64 y44), (57, .bool true), (67, .bool (seqB r42.1 r49))] rfl (by kernel_rfl) ?_
          rcases if_some hF with ⟨h51, hF⟩ | ⟨h51, hF⟩
          · refine ow_slots (L' := [(1, .pointer (some ⟨b1, 0, none⟩)), (3, .int .i64 x3), (4, .int .i64 x4), (11, .pointer (some ⟨r35_b2, 0, none⟩)), (12, .string r42.1), (13, .int .i64 r42.2), (14, .int .i64 y44), (57, .bool true), (67, .bool true)]) (by rw [h51]) ?_
            refine ow_vals 11 (j := 24) [1, 3, 4, 11, 12, 13, 14, 78] [(1, .pointer (some ⟨b1, 0, none⟩)), (3, .int .i64 x3), (4, .int .i64 x4), (11, .pointer (some ⟨r35_b2, 0, none⟩)), (12, .string r42.1), (13, .int .i64 r42.2), (14, .int .i64 y44), (78, .bool true)] rfl (by kernel_rfl) ?_
            refine ow_end rfl ?_
            have hR := Option.some.inj hF
            exact fun a w hf hs => ⟨true, hR, hf.keep [1, 3, 4, 11, 12, 13, 14, 78], sat_to [0, 0, 0, 0, 2, 2, 0, 0] 0 rfl hs⟩
          refine ow_slots (L' := [(1, .pointer (some ⟨b1, 0, none⟩)), (3, .int .i64 x3), (4, .int .i64 x4), (11, .pointer (some ⟨r35_b2, 0, none⟩)), (12, .string r42.1), (13, .int .i64 r42.2), (14, .int .i64 y44), (57, .bool true), (67, .bool false)]) (by rw [h51]) ?_
          refine ow_vals 3 (j := 16) [1, 3, 4, 11, 12, 13, 14, 57, 67, 70] [(1, .pointer (some ⟨b1, 0, none⟩)), (3, .int .i64 x3), (4, .int .i64 x4), (11, .pointer (some ⟨r35_b2, 0, none⟩)), (12, .string r42.1), (13, .int .i64 r42.2), (14, .int .i64 y44), (57, .bool true), (67, .bool false), (70, .bool (decide (x4 > 0)))] rfl (by kernel_rfl) ?_
          rcases if_some hF with ⟨h52, hF⟩ | ⟨h52, hF⟩
          · refine ow_slots (L' := [(1, .pointer (some ⟨b1, 0, none⟩)), (3, .int .i64 x3), (4, .int .i64 x4), (11, .pointer (some ⟨r35_b2, 0, none⟩)), (12, .string r42.1), (13, .int .i64 r42.2), (14, .int .i64 y44), (57, .bool true), (67, .bool false), (70, .bool true)]) (by rw [h52]) ?_
            refine ow_vals 3 (j := 19) [1, 3, 4, 11, 12, 13, 14, 57, 67, 70, 71, 73] [(1, .pointer (some ⟨b1, 0, none⟩)), (3, .int .i64 x3), (4, .int .i64 x4), (11, .pointer (some ⟨r35_b2, 0, none⟩)), (12, .string r42.1), (13, .int .i64 r42.2), (14, .int .i64 y44), (57, .bool true), (67, .bool false), (70, .bool true), (71, .string r42.1), (73, .int .u8 (IntKind.u8.wrap (x4)))] rfl (by kernel_rfl) ?_
            obtain ⟨r53, h54, hF⟩ := bind_some hF
            refine ow_pw rfl (pw_call (F := [pt r35_b2 #[.pointer (some ⟨r35_b4, 0, none⟩), .int .i64 r35_s1.1.base_, .int .i64 r35_s1.1.slots_, .int .i64 r35_s1.1.shred_] 78, pt r35_b4 #[.pointer (some ⟨b0, 0, none⟩), .int .i64 r35_s1.2.boot_, .int .i64 r35_s1.2.n_] 75, pt b0 #[.slice r31_p1 r31.2.sure_.length r31_c2, .map (some r31_b4), .bool r31.2.off_, .bool r31.2.armed_, .int .i64 r31.2.left_, .int .u64 r31.2.fall_.Keep, .int .i64 r31.2.fall_.Tear, .int .i64 r31.2.acts_, .int .i64 r31.2.falls_] 52, own e_disk_sector 55 r31_p1 r31_c2 r31.2.sure_, mpo (kInt .i64) (fun x : disk_sector => Value.agg #[.string x.s_, .int .i64 x.at_]) r31_b4 r31.2.wait_, pt b21 #[.int .u64 x2.Keep, .int .i64 x2.Tear] 36, pt b1 #[.int .i64 m1.keys_.e0, .int .i64 m1.keys_.e1, .int .i64 m1.keys_.e2, .int .i64 m1.keys_.e3, .int .i64 m1.keys_.e4, .int .i64 m1.keys_.e5, .int .i64 m1.keys_.e6, .int .i64 m1.keys_.e7, .int .i64 (IntKind.i64.wrap (m1.boot_ + 1)), .int .i64 0] 30] ++ F0) rfl rfl rfl rfl rfl rfl rfl (by kernel_rfl) (perm_of_pulls [0] rfl) (c_law13_key _ (IntKind.u8.wrap (x4)) r53 h54) ?_)
            rintro _ _ ⟨rfl, rfl⟩
            refine nw_H (H' := [imm I, pt r35_b2 #[.pointer (some ⟨r35_b4, 0, none⟩), .int .i64 r35_s1.1.base_, .int .i64 r35_s1.1.slots_, .int .i64 r35_s1.1.shred_] 78, pt r35_b4 #[.pointer (some ⟨b0, 0, none⟩), .int .i64 r35_s1.2.boot_, .int .i64 r35_s1.2.n_] 75, pt b0 #[.slice r31_p1 r31.2.sure_.length r31_c2, .map (some r31_b4), .bool r31.2.off_, .bool r31.2.armed_, .int .i64 r31.2.left_, .int .u64 r31.2.fall_.Keep, .int .i64 r31.2.fall_.Tear, .int .i64 r31.2.acts_, .int .i64 r31.2.falls_] 52, own e_disk_sector 55 r31_p1 r31_c2 r31.2.sure_, mpo (kInt .i64) (fun x : disk_sector => Value.agg #[.string x.s_, .int .i64 x.at_]) r31_b4 r31.2.wait_, pt b21 #[.int .u64 x2.Keep, .int .i64 x2.Tear] 36, pt b1 #[.int .i64 m1.keys_.e0, .int .i64 m1.keys_.e1, .int .i64 m1.keys_.e2, .int .i64 m1.keys_.e3, .int .i64 m1.keys_.e4, .int .i64 m1.keys_.e5, .int .i64 m1.keys_.e6, .int .i64 m1.keys_.e7, .int .i64 (IntKind.i64.wrap (m1.boot_ + 1)), .int .i64 0] 30] ++ F0) rfl (nw_ow ?_)
            refine ow_vals 4 (j := 24) [1, 3, 4, 11, 12, 13, 14, 78] [(1, .pointer (some ⟨b1, 0, none⟩)), (3, .int .i64 x3), (4, .int .i64 x4), (11, .pointer (some ⟨r35_b2, 0, none⟩)), (12, .string r42.1), (13, .int .i64 r42.2), (14, .int .i64 y44), (78, .bool (seqB r42.1 r53))] rfl (by kernel_rfl) ?_
            refine ow_end rfl ?_
            have hR := Option.some.inj hF
            exact fun a w hf hs => ⟨seqB r42.1 r53, hR, hf.keep [1, 3, 4, 11, 12, 13, 14, 78], sat_to [0, 0, 0, 0, 2, 2, 0, 0] 0 rfl hs⟩
          refine ow_slots (L' := [(1, .pointer (some ⟨b1, 0, none⟩)), (3, .int .i64 x3), (4, .int .i64 x4), (11, .pointer (some ⟨r35_b2, 0, none⟩)), (12, .string r42.1), (13, .int .i64 r42.2), (14, .int .i64 y44), (57, .bool true), (67, .bool false), (70, .bool false)]) (by rw [h52]) ?_
          refine ow_vals 8 (j := 24) [1, 3, 4, 11, 12, 13, 14, 78] [(1, .pointer (some ⟨b1, 0, none⟩)), (3, .int .i64 x3), (4, .int .i64 x4), (11, .pointer (some ⟨r35_b2, 0, none⟩)), (12, .string r42.1), (13, .int .i64 r42.2), (14, .int .i64 y44), (78, .bool false)] rfl (by kernel_rfl) ?_
          refine ow_end rfl ?_
          have hR := Option.some.inj hF
          exact fun a w hf hs => ⟨false, hR, hf.keep [1, 3, 4, 11, 12, 13, 14, 78], sat_to [0, 0, 0, 0, 2, 2, 0, 0] 0 rfl hs⟩
        refine ow_slots (L' := [(1, .pointer (some ⟨b1, 0, none⟩)), (3, .int .i64 x3), (4, .int .i64 x4), (11, .pointer (some ⟨r35_b2, 0, none⟩)), (12, .string r42.1), (13, .int .i64 r42.2), (14, .int .i64 y44), (57, .bool true), (60, .bool false)]) (by rw [h48]) ?_
        refine ow_vals 10 (j := 16) [1, 3, 4, 11, 12, 13, 14, 57, 67, 70] [(1, .pointer (some ⟨b1, 0, none⟩)), (3, .int .i64 x3), (4, .int .i64 x4), (11, .pointer (some ⟨r35_b2, 0, none⟩)), (12, .string r42.1), (13, .int .i64 r42.2), (14, .int .i64 y44), (57, .bool true), (67, .bool false), (70, .bool (decide (x4 > 0)))] rfl (by kernel_rfl) ?_
        rcases if_some hF with ⟨h55, hF⟩ | ⟨h55, hF⟩
        · refine ow_slots (L' := [(1, .pointer (some ⟨b1, 0, none⟩)), (3, .int .i64 x3), (4, .int .i64 x4), (11, .pointer (some ⟨r35_b2, 0, none⟩)), (12, .string r42.1), (13, .int .i64 r42.2), (14, .int .i64 y44), (57, .bool true), (67, .bool false), (70, .bool true)]) (by rw [h55]) ?_
          refine ow_vals 3 (j := 19) [1, 3, 4, 11, 12, 13, 14, 57, 67, 70, 71, 73] [(1, .pointer (some ⟨b1, 0, none⟩)), (3, .int .i64 x3), (4, .int .i64 x4), (11, .pointer (some ⟨r35_b2, 0, none⟩)), (12, .string r42.1), (13, .int .i64 r42.2), (14, .int .i64 y44), (57, .bool true), (67, .bool false), (70, .bool true), (71, .string r42.1), (73, .int .u8 (IntKind.u8.wrap (x4)))] rfl (by kernel_rfl) ?_
          obtain ⟨r56, h57, hF⟩ := bind_some hF
          refine ow_pw rfl (pw_call (F := [pt r35_b2 #[.pointer (some ⟨r35_b4, 0, none⟩), .int .i64 r35_s1.1.base_, .int .i64 r35_s1.1.slots_, .int .i64 r35_s1.1.shred_] 78, pt r35_b4 #[.pointer (some ⟨b0, 0, none⟩), .int .i64 r35_s1.2.boot_, .int .i64 r35_s1.2.n_] 75, pt b0 #[.slice r31_p1 r31.2.sure_.length r31_c2, .map (some r31_b4), .bool r31.2.off_, .bool r31.2.armed_, .int .i64 r31.2.left_, .int .u64 r31.2.fall_.Keep, .int .i64 r31.2.fall_.Tear, .int .i64 r31.2.acts_, .int .i64 r31.2.falls_] 52, own e_disk_sector 55 r31_p1 r31_c2 r31.2.sure_, mpo (kInt .i64) (fun x : disk_sector => Value.agg #[.string x.s_, .int .i64 x.at_]) r31_b4 r31.2.wait_, pt b21 #[.int .u64 x2.Keep, .int .i64 x2.Tear] 36, pt b1 #[.int .i64 m1.keys_.e0, .int .i64 m1.keys_.e1, .int .i64 m1.keys_.e2, .int .i64 m1.keys_.e3, .int .i64 m1.keys_.e4, .int .i64 m1.keys_.e5, .int .i64 m1.keys_.e6, .int .i64 m1.keys_.e7, .int .i64 (IntKind.i64.wrap (m1.boot_ + 1)), .int .i64 0] 30] ++ F0) rfl rfl rfl rfl rfl rfl rfl (by kernel_rfl) (perm_of_pulls [0] rfl) (c_law13_key _ (IntKind.u8.wrap (x4)) r56 h57) ?_)
          rintro _ _ ⟨rfl, rfl⟩
          refine nw_H (H' := [imm I, pt r35_b2 #[.pointer (some ⟨r35_b4, 0, none⟩), .int .i64 r35_s1.1.base_, .int .i64 r35_s1.1.slots_, .int .i64 r35_s1.1.shred_] 78, pt r35_b4 #[.pointer (some ⟨b0, 0, none⟩), .int .i64 r35_s1.2.boot_, .int .i64 r35_s1.2.n_] 75, pt b0 #[.slice r31_p1 r31.2.sure_.length r31_c2, .map (some r31_b4), .bool r31.2.off_, .bool r31.2.armed_, .int .i64 r31.2.left_, .int .u64 r31.2.fall_.Keep, .int .i64 r31.2.fall_.Tear, .int .i64 r31.2.acts_, .int .i64 r31.2.falls_] 52, own e_disk_sector 55 r31_p1 r31_c2 r31.2.sure_, mpo (kInt .i64) (fun x : disk_sector => Value.agg #[.string x.s_, .int .i64 x.at_]) r31_b4 r31.2.wait_, pt b21 #[.int .u64 x2.Keep, .int .i64 x2.Tear] 36, pt b1 #[.int .i64 m1.keys_.e0, .int .i64 m1.keys_.e1, .int .i64 m1.keys_.e2, .int .i64 m1.keys_.e3, .int .i64 m1.keys_.e4, .int .i64 m1.keys_.e5, .int .i64 m1.keys_.e6, .int .i64 m1.keys_.e7, .int .i64 (IntKind.i64.wrap (m1.boot_ + 1)), .int .i64 0] 30] ++ F0) rfl (nw_ow ?_)
          refine ow_vals 4 (j := 24) [1, 3, 4, 11, 12, 13, 14, 78] [(1, .pointer (some ⟨b1, 0, none⟩)), (3, .int .i64 x3), (4, .int .i64 x4), (11, .pointer (some ⟨r35_b2, 0, none⟩)), (12, .string r42.1), (13, .int .i64 r42.2), (14, .int .i64 y44), (78, .bool (seqB r42.1 r56))] rfl (by kernel_rfl) ?_
          refine ow_end rfl ?_
          have hR := Option.some.inj hF
          exact fun a w hf hs => ⟨seqB r42.1 r56, hR, hf.keep [1, 3, 4, 11, 12, 13, 14, 78], sat_to [0, 0, 0, 0, 2, 2, 0, 0] 0 rfl hs⟩
        refine ow_slots (L' := [(1, .pointer (some ⟨b1, 0, none⟩)), (3, .int .i64 x3), (4, .int .i64 x4), (11, .pointer (some ⟨r35_b2, 0, none⟩)), (12, .string r42.1), (13, .int .i64 r42.2), (14, .int .i64 y44), (57, .bool true), (67, .bool false), (70, .bool false)]) (by rw [h55]) ?_
        refine ow_vals 8 (j := 24) [1, 3, 4, 11, 12, 13, 14, 78] [(1, .pointer (some ⟨b1, 0, none⟩)), (3, .int .i64 x3), (4, .int .i64 x4), (11, .pointer (some ⟨r35_b2, 0, none⟩)), (12, .string r42.1), (13, .int .i64 r42.2), (14, .int .i64 y44), (78, .bool false)] rfl (by kernel_rfl) ?_
        refine ow_end rfl ?_
        have hR := Option.some.inj hF
        exact fun a w hf hs => ⟨false, hR, hf.keep [1, 3, 4, 11, 12, 13, 14, 78], sat_to [0, 0, 0, 0, 2, 2, 0, 0] 0 rfl hs⟩
      refine ow_slots (L' := [(1, .pointer (some ⟨b1, 0, none⟩)), (3, .int .i64 x3), (4, .int .i64 x4), (11, .pointer (some ⟨r35_b2, 0, none⟩)), (12, .string r42.1), (13, .int .i64 r42.2), (14, .int .i64 y44), (57, .bool false)]) (by rw [h47]) ?_
      refine ow_vals 21 (j := 24) [1, 3, 4, 11, 12, 13, 14, 78] [(1, .pointer (some ⟨b1, 0, none⟩)), (3, .int .i64 x3), (4, .int .i64 x4), (11, .pointer (some ⟨r35_b2, 0, none⟩)), (12, .string r42.1), (13, .int .i64 r42.2), (14, .int .i64 y44), (78, .bool false)] rfl (by kernel_rfl) ?_
      refine ow_end rfl ?_
      have hR := Option.some.inj hF
      exact fun a w hf hs => ⟨false, hR, hf.keep [1, 3, 4, 11, 12, 13, 14, 78], sat_to [0, 0, 0, 0, 2, 2, 0, 0] 0 rfl hs⟩
    rintro a w ⟨x58, hv, hf, hs⟩
    subst hv
    replace hF := hK46
    clear hK46
    try dsimp only at hF
    revert a w
    show CW _ _ _ 117 [(1, .pointer (some ⟨b1, 0, none⟩)), (3, .int .i64 x3), (4, .int .i64 x4), (11, .pointer (some ⟨r35_b2, 0, none⟩)), (12, .string r42.1), (13, .int .i64 r42.2), (14, .int .i64 y44), (78, .bool x58)] (SAT w0 ([imm I, pt r35_b2 #[.pointer (some ⟨r35_b4, 0, none⟩), .int .i64 r35_s1.1.base_, .int .i64 r35_s1.1.slots_, .int .i64 r35_s1.1.shred_] 78, pt r35_b4 #[.pointer (some ⟨b0, 0, none⟩), .int .i64 r35_s1.2.boot_, .int .i64 r35_s1.2.n_] 75, pt b0 #[.slice r31_p1 r31.2.sure_.length r31_c2, .map (some r31_b4), .bool r31.2.off_, .bool r31.2.armed_, .int .i64 r31.2.left_, .int .u64 r31.2.fall_.Keep, .int .i64 r31.2.fall_.Tear, .int .i64 r31.2.acts_, .int .i64 r31.2.falls_] 52, pt b21 #[.int .u64 x2.Keep, .int .i64 x2.Tear] 36, pt b1 #[.int .i64 m1.keys_.e0, .int .i64 m1.keys_.e1, .int .i64 m1.keys_.e2, .int .i64 m1.keys_.e3, .int .i64 m1.keys_.e4, .int .i64 m1.keys_.e5, .int .i64 m1.keys_.e6, .int .i64 m1.keys_.e7, .int .i64 (IntKind.i64.wrap (m1.boot_ + 1)), .int .i64 0] 30, own e_disk_sector 55 r31_p1 r31_c2 r31.2.sure_, mpo (kInt .i64) (fun x : disk_sector => Value.agg #[.string x.s_, .int .i64 x.at_]) r31_b4 r31.2.wait_] ++ F0))
    unfold F.law13_again.r1 at hF
    rcases if_some hF with ⟨h59, hF⟩ | ⟨h59, hF⟩
    · refine cw_cond_t rfl rfl h59 ?_
      refine cw_open 8 (SAT w0 ([imm I, pt r35_b2 #[.pointer (some ⟨r35_b4, 0, none⟩), .int .i64 r35_s1.1.base_, .int .i64 r35_s1.1.slots_, .int .i64 r35_s1.1.shred_] 78, pt r35_b4 #[.pointer (some ⟨b0, 0, none⟩), .int .i64 r35_s1.2.boot_, .int .i64 r35_s1.2.n_] 75, pt b0 #[.slice r31_p1 r31.2.sure_.length r31_c2, .map (some r31_b4), .bool r31.2.off_, .bool r31.2.armed_, .int .i64 r31.2.left_, .int .u64 r31.2.fall_.Keep, .int .i64 r31.2.fall_.Tear, .int .i64 r31.2.acts_, .int .i64 r31.2.falls_] 52, pt b21 #[.int .u64 x2.Keep, .int .i64 x2.Tear] 36, pt b1 #[.int .i64 m1.keys_.e0, .int .i64 m1.keys_.e1, .int .i64 m1.keys_.e2, .int .i64 m1.keys_.e3, .int .i64 m1.keys_.e4, .int .i64 m1.keys_.e5, .int .i64 m1.keys_.e6, .int .i64 m1.keys_.e7, .int .i64 (IntKind.i64.wrap (m1.boot_ + 1)), .int .i64 0] 30, own e_disk_sector 55 r31_p1 r31_c2 r31.2.sure_, mpo (kInt .i64) (fun x : disk_sector => Value.agg #[.string x.s_, .int .i64 x.at_]) r31_b4 r31.2.wait_])) (by kernel_rfl) (f := 9) rfl (fun w hs => sat_drew hs) ?_
      refine aw_vals [0, 1, 2, 5, 6] (f' := 4) (m' := 103) [11, 80, 81, 85] [(11, .pointer (some ⟨r35_b2, 0, none⟩)), (80, .int .i64 x3), (81, .string r42.1), (85, .pointer (some ⟨b1, 0, none⟩))] (fun _ _ _ _ _ h => calm_fin (P := Tryz.prog) (fn := Tryz.f11) _ _ _ _ _ h) (fun w hs => sat_pulls [0, 0, 0, 0, 0, 0, 0, 0] (G := [] ++ F0) rfl hs) rfl (by kernel_rfl) ?_
      obtain ⟨h60, hF⟩ := chk_some hF
      refine aw_pure 3 (m' := 111) (v := .int .u8 (bt r42.1 0)) rfl rfl rfl rfl (by kernel_rfl) (by kernel_rfl) (fun _ _ _ _ _ h => calm_fin (P := Tryz.prog) (fn := Tryz.f11) _ _ _ _ _ h) (fun w hs => sat_pulls [0, 0, 0, 0, 0, 0, 0, 0] (G := [] ++ F0) rfl hs) (q_index_str rfl (by kernel_rfl) rfl rfl h60.1 h60.2) ?_
      refine aw_vals [4] (f' := 2) (m' := 127) [11, 80, 83, 85] [(11, .pointer (some ⟨r35_b2, 0, none⟩)), (80, .int .i64 x3), (83, .int .i64 (IntKind.i64.wrap (bt r42.1 0))), (85, .pointer (some ⟨b1, 0, none⟩))] (fun _ _ _ _ _ h => calm_fin (P := Tryz.prog) (fn := Tryz.f11) _ _ _ _ _ h) (fun w hs => sat_pulls [0, 0, 0, 0, 0, 0, 0, 0] (G := [] ++ F0) rfl hs) rfl (by kernel_rfl) ?_
      obtain ⟨y61, h62, hF⟩ := bind_some hF
      refine aw_pure 7 (m' := 255) (v := .pointer (some ((⟨b1, 0, none⟩ : Addr).add (x3.toNat * 1)))) rfl rfl rfl rfl (by kernel_rfl) (by kernel_rfl) (fun _ _ _ _ _ h => calm_fin (P := Tryz.prog) (fn := Tryz.f11) _ _ _ _ _ h) (fun w hs => sat_pulls [0, 0, 0, 0, 0, 0, 0, 0] (G := [] ++ F0) rfl hs) (q_index_objel (l := ([m1.keys_.e0, m1.keys_.e1, m1.keys_.e2, m1.keys_.e3, m1.keys_.e4, m1.keys_.e5, m1.keys_.e6, m1.keys_.e7] : List Int)) (m := 8) (E := 3) (sz := 1) (tot := 8) rfl (by kernel_rfl) rfl rfl rfl h62) ?_
      refine aw_only 8 (m' := 511) (by kernel_rfl) (by kernel_rfl) (pw_store_objel (e := (eInt .i64)) (l := ([m1.keys_.e0, m1.keys_.e1, m1.keys_.e2, m1.keys_.e3, m1.keys_.e4, m1.keys_.e5, m1.keys_.e6, m1.keys_.e7] : List Int)) (z' := IntKind.i64.wrap (bt r42.1 0)) (C' := #[.int .i64 (if x3.toNat = 0 then IntKind.i64.wrap (bt r42.1 0) else m1.keys_.e0), .int .i64 (if x3.toNat = 1 then IntKind.i64.wrap (bt r42.1 0) else m1.keys_.e1), .int .i64 (if x3.toNat = 2 then IntKind.i64.wrap (bt r42.1 0) else m1.keys_.e2), .int .i64 (if x3.toNat = 3 then IntKind.i64.wrap (bt r42.1 0) else m1.keys_.e3), .int .i64 (if x3.toNat = 4 then IntKind.i64.wrap (bt r42.1 0) else m1.keys_.e4), .int .i64 (if x3.toNat = 5 then IntKind.i64.wrap (bt r42.1 0) else m1.keys_.e5), .int .i64 (if x3.toNat = 6 then IntKind.i64.wrap (bt r42.1 0) else m1.keys_.e6), .int .i64 (if x3.toNat = 7 then IntKind.i64.wrap (bt r42.1 0) else m1.keys_.e7), .int .i64 (IntKind.i64.wrap (m1.boot_ + 1)), .int .i64 0]) 5 ([] : List Go.Value) ([.int .i64 (IntKind.i64.wrap (m1.boot_ + 1)), .int .i64 0] : List Go.Value) rfl rfl rfl rfl rfl rfl rfl rfl rfl rfl (by kernel_rfl) rfl rfl rfl h62 rfl (nw_H (H' := [imm I, pt r35_b2 #[.pointer (some ⟨r35_b4, 0, none⟩), .int .i64 r35_s1.1.base_, .int .i64 r35_s1.1.slots_, .int .i64 r35_s1.1.shred_] 78, pt r35_b4 #[.pointer (some ⟨b0, 0, none⟩), .int .i64 r35_s1.2.boot_, .int .i64 r35_s1.2.n_] 75, pt b0 #[.slice r31_p1 r31.2.sure_.length r31_c2, .map (some r31_b4), .bool r31.2.off_, .bool r31.2.armed_, .int .i64 r31.2.left_, .int .u64 r31.2.fall_.Keep, .int .i64 r31.2.fall_.Tear, .int .i64 r31.2.acts_, .int .i64 r31.2.falls_] 52, pt b21 #[.int .u64 x2.Keep, .int .i64 x2.Tear] 36, pt b1 #[.int .i64 (if x3.toNat = 0 then IntKind.i64.wrap (bt r42.1 0) else m1.keys_.e0), .int .i64 (if x3.toNat = 1 then IntKind.i64.wrap (bt r42.1 0) else m1.keys_.e1), .int .i64 (if x3.toNat = 2 then IntKind.i64.wrap (bt r42.1 0) else m1.keys_.e2), .int .i64 (if x3.toNat = 3 then IntKind.i64.wrap (bt r42.1 0) else m1.keys_.e3), .int .i64 (if x3.toNat = 4 then IntKind.i64.wrap (bt r42.1 0) else m1.keys_.e4), .int .i64 (if x3.toNat = 5 then IntKind.i64.wrap (bt r42.1 0) else m1.keys_.e5), .int .i64 (if x3.toNat = 6 then IntKind.i64.wrap (bt r42.1 0) else m1.keys_.e6), .int .i64 (if x3.toNat = 7 then IntKind.i64.wrap (bt r42.1 0) else m1.keys_.e7), .int .i64 (IntKind.i64.wrap (m1.boot_ + 1)), .int .i64 0] 30, own e_disk_sector 55 r31_p1 r31_c2 r31.2.sure_, mpo (kInt .i64) (fun x : disk_sector => Value.agg #[.string x.s_, .int .i64 x.at_]) r31_b4 r31.2.wait_] ++ F0) rfl (aw_last (by kernel_rfl) ?_)))
      refine aw_keep [11] (L' := [(11, .pointer (some ⟨r35_b2, 0, none⟩))]) rfl ?_
      refine aw_end (by kernel_rfl) ?_
      refine ew_then ?_
      refine cw_seq ?_
      refine cw_region ?_
      refine ow_vals 2 (j := 2) [10] [(10, .pointer (some ⟨r35_b2, 0, none⟩))] rfl (by kernel_rfl) ?_
      refine ow_end rfl ?_
      refine ew_then ?_
      refine cw_ret ?_
      have hR := Option.some.inj hF
      subst hR
      exact fin1 (H1 := [imm I, pt b0 #[.slice r31_p1 r31.2.sure_.length r31_c2, .map (some r31_b4), .bool r31.2.off_, .bool r31.2.armed_, .int .i64 r31.2.left_, .int .u64 r31.2.fall_.Keep, .int .i64 r31.2.fall_.Tear, .int .i64 r31.2.acts_, .int .i64 r31.2.falls_] 52, pt b1 #[.int .i64 (((⟨(⟨if x3.toNat = 0 then IntKind.i64.wrap (bt r42.1 0) else m1.keys_.e0, if x3.toNat = 1 then IntKind.i64.wrap (bt r42.1 0) else m1.keys_.e1, if x3.toNat = 2 then IntKind.i64.wrap (bt r42.1 0) else m1.keys_.e2, if x3.toNat = 3 then IntKind.i64.wrap (bt r42.1 0) else m1.keys_.e3, if x3.toNat = 4 then IntKind.i64.wrap (bt r42.1 0) else m1.keys_.e4, if x3.toNat = 5 then IntKind.i64.wrap (bt r42.1 0) else m1.keys_.e5, if x3.toNat = 6 then IntKind.i64.wrap (bt r42.1 0) else m1.keys_.e6, if x3.toNat = 7 then IntKind.i64.wrap (bt r42.1 0) else m1.keys_.e7⟩ : A8_Inti64), IntKind.i64.wrap (m1.boot_ + 1), 0⟩ : law13_plain).keys_).e0), .int .i64 (((⟨(⟨if x3.toNat = 0 then IntKind.i64.wrap (bt r42.1 0) else m1.keys_.e0, if x3.toNat = 1 then IntKind.i64.wrap (bt r42.1 0) else m1.keys_.e1, if x3.toNat = 2 then IntKind.i64.wrap (bt r42.1 0) else m1.keys_.e2, if x3.toNat = 3 then IntKind.i64.wrap (bt r42.1 0) else m1.keys_.e3, if x3.toNat = 4 then IntKind.i64.wrap (bt r42.1 0) else m1.keys_.e4, if x3.toNat = 5 then IntKind.i64.wrap (bt r42.1 0) else m1.keys_.e5, if x3.toNat = 6 then IntKind.i64.wrap (bt r42.1 0) else m1.keys_.e6, if x3.toNat = 7 then IntKind.i64.wrap (bt r42.1 0) else m1.keys_.e7⟩ : A8_Inti64), IntKind.i64.wrap (m1.boot_ + 1), 0⟩ : law13_plain).keys_).e1), .int .i64 (((⟨(⟨if x3.toNat = 0 then IntKind.i64.wrap (bt r42.1 0) else m1.keys_.e0, if x3.toNat = 1 then IntKind.i64.wrap (bt r42.1 0) else m1.keys_.e1, if x3.toNat = 2 then IntKind.i64.wrap (bt r42.1 0) else m1.keys_.e2, if x3.toNat = 3 then IntKind.i64.wrap (bt r42.1 0) else m1.keys_.e3, if x3.toNat = 4 then IntKind.i64.wrap (bt r42.1 0) else m1.keys_.e4, if x3.toNat = 5 then IntKind.i64.wrap (bt r42.1 0) else m1.keys_.e5, if x3.toNat = 6 then IntKind.i64.wrap (bt r42.1 0) else m1.keys_.e6, if x3.toNat = 7 then IntKind.i64.wrap (bt r42.1 0) else m1.keys_.e7⟩ : A8_Inti64), IntKind.i64.wrap (m1.boot_ + 1), 0⟩ : law13_plain).keys_).e2), .int .i64 (((⟨(⟨if x3.toNat = 0 then IntKind.i64.wrap (bt r42.1 0) else m1.keys_.e0, if x3.toNat = 1 then IntKind.i64.wrap (bt r42.1 0) else m1.keys_.e1, if x3.toNat = 2 then IntKind.i64.wrap (bt r42.1 0) else m1.keys_.e2, if x3.toNat = 3 then IntKind.i64.wrap (bt r42.1 0) else m1.keys_.e3, if x3.toNat = 4 then IntKind.i64.wrap (bt r42.1 0) else m1.keys_.e4, if x3.toNat = 5 then IntKind.i64.wrap (bt r42.1 0) else m1.keys_.e5, if x3.toNat = 6 then IntKind.i64.wrap (bt r42.1 0) else m1.keys_.e6, if x3.toNat = 7 then IntKind.i64.wrap (bt r42.1 0) else m1.keys_.e7⟩ : A8_Inti64), IntKind.i64.wrap (m1.boot_ + 1), 0⟩ : law13_plain).keys_).e3), .int .i64 (((⟨(⟨if x3.toNat = 0 then IntKind.i64.wrap (bt r42.1 0) else m1.keys_.e0, if x3.toNat = 1 then IntKind.i64.wrap (bt r42.1 0) else m1.keys_.e1, if x3.toNat = 2 then IntKind.i64.wrap (bt r42.1 0) else m1.keys_.e2, if x3.toNat = 3 then IntKind.i64.wrap (bt r42.1 0) else m1.keys_.e3, if x3.toNat = 4 then IntKind.i64.wrap (bt r42.1 0) else m1.keys_.e4, if x3.toNat = 5 then IntKind.i64.wrap (bt r42.1 0) else m1.keys_.e5, if x3.toNat = 6 then IntKind.i64.wrap (bt r42.1 0) else m1.keys_.e6, if x3.toNat = 7 then IntKind.i64.wrap (bt r42.1 0) else m1.keys_.e7⟩ : A8_Inti64), IntKind.i64.wrap (m1.boot_ + 1), 0⟩ : law13_plain).keys_).e4), .int .i64 (((⟨(⟨if x3.toNat = 0 then IntKind.i64.wrap (bt r42.1 0) else m1.keys_.e0, if x3.toNat = 1 then IntKind.i64.wrap (bt r42.1 0) else m1.keys_.e1, if x3.toNat = 2 then IntKind.i64.wrap (bt r42.1 0) else m1.keys_.e2, if x3.toNat = 3 then IntKind.i64.wrap (bt r42.1 0) else m1.keys_.e3, if x3.toNat = 4 then IntKind.i64.wrap (bt r42.1 0) else m1.keys_.e4, if x3.toNat = 5 then IntKind.i64.wrap (bt r42.1 0) else m1.keys_.e5, if x3.toNat = 6 then IntKind.i64.wrap (bt r42.1 0) else m1.keys_.e6, if x3.toNat = 7 then IntKind.i64.wrap (bt r42.1 0) else m1.keys_.e7⟩ : A8_Inti64), IntKind.i64.wrap (m1.boot_ + 1), 0⟩ : law13_plain).keys_).e5), .int .i64 (((⟨(⟨if x3.toNat = 0 then IntKind.i64.wrap (bt r42.1 0) else m1.keys_.e0, if x3.toNat = 1 then IntKind.i64.wrap (bt r42.1 0) else m1.keys_.e1, if x3.toNat = 2 then IntKind.i64.wrap (bt r42.1 0) else m1.keys_.e2, if x3.toNat = 3 then IntKind.i64.wrap (bt r42.1 0) else m1.keys_.e3, if x3.toNat = 4 then IntKind.i64.wrap (bt r42.1 0) else m1.keys_.e4, if x3.toNat = 5 then IntKind.i64.wrap (bt r42.1 0) else m1.keys_.e5, if x3.toNat = 6 then IntKind.i64.wrap (bt r42.1 0) else m1.keys_.e6, if x3.toNat = 7 then IntKind.i64.wrap (bt r42.1 0) else m1.keys_.e7⟩ : A8_Inti64), IntKind.i64.wrap (m1.boot_ + 1), 0⟩ : law13_plain).keys_).e6), .int .i64 (((⟨(⟨if x3.toNat = 0 then IntKind.i64.wrap (bt r42.1 0) else m1.keys_.e0, if x3.toNat = 1 then IntKind.i64.wrap (bt r42.1 0) else m1.keys_.e1, if x3.toNat = 2 then IntKind.i64.wrap (bt r42.1 0) else m1.keys_.e2, if x3.toNat = 3 then IntKind.i64.wrap (bt r42.1 0) else m1.keys_.e3, if x3.toNat = 4 then IntKind.i64.wrap (bt r42.1 0) else m1.keys_.e4, if x3.toNat = 5 then IntKind.i64.wrap (bt r42.1 0) else m1.keys_.e5, if x3.toNat = 6 then IntKind.i64.wrap (bt r42.1 0) else m1.keys_.e6, if x3.toNat = 7 then IntKind.i64.wrap (bt r42.1 0) else m1.keys_.e7⟩ : A8_Inti64), IntKind.i64.wrap (m1.boot_ + 1), 0⟩ : law13_plain).keys_).e7), .int .i64 ((⟨(⟨if x3.toNat = 0 then IntKind.i64.wrap (bt r42.1 0) else m1.keys_.e0, if x3.toNat = 1 then IntKind.i64.wrap (bt r42.1 0) else m1.keys_.e1, if x3.toNat = 2 then IntKind.i64.wrap (bt r42.1 0) else m1.keys_.e2, if x3.toNat = 3 then IntKind.i64.wrap (bt r42.1 0) else m1.keys_.e3, if x3.toNat = 4 then IntKind.i64.wrap (bt r42.1 0) else m1.keys_.e4, if x3.toNat = 5 then IntKind.i64.wrap (bt r42.1 0) else m1.keys_.e5, if x3.toNat = 6 then IntKind.i64.wrap (bt r42.1 0) else m1.keys_.e6, if x3.toNat = 7 then IntKind.i64.wrap (bt r42.1 0) else m1.keys_.e7⟩ : A8_Inti64), IntKind.i64.wrap (m1.boot_ + 1), 0⟩ : law13_plain).boot_), .int .i64 ((⟨(⟨if x3.toNat = 0 then IntKind.i64.wrap (bt r42.1 0) else m1.keys_.e0, if x3.toNat = 1 then IntKind.i64.wrap (bt r42.1 0) else m1.keys_.e1, if x3.toNat = 2 then IntKind.i64.wrap (bt r42.1 0) else m1.keys_.e2, if x3.toNat = 3 then IntKind.i64.wrap (bt r42.1 0) else m1.keys_.e3, if x3.toNat = 4 then IntKind.i64.wrap (bt r42.1 0) else m1.keys_.e4, if x3.toNat = 5 then IntKind.i64.wrap (bt r42.1 0) else m1.keys_.e5, if x3.toNat = 6 then IntKind.i64.wrap (bt r42.1 0) else m1.keys_.e6, if x3.toNat = 7 then IntKind.i64.wrap (bt r42.1 0) else m1.keys_.e7⟩ : A8_Inti64), IntKind.i64.wrap (m1.boot_ + 1), 0⟩ : law13_plain).shred_)] 30, pt r35_b4 #[.pointer (some ⟨b0, 0, none⟩), .int .i64 (r35_s1.1, r35_s1.2).2.boot_, .int .i64 (r35_s1.1, r35_s1.2).2.n_] 75, pt r35_b2 #[.pointer (some ⟨r35_b4, 0, none⟩), .int .i64 (r35_s1.1, r35_s1.2).1.base_, .int .i64 (r35_s1.1, r35_s1.2).1.slots_, .int .i64 (r35_s1.1, r35_s1.2).1.shred_] 78, own e_disk_sector 55 r31_p1 r31_c2 r31.2.sure_, mpo (kInt .i64) (fun x : disk_sector => Value.agg #[.string x.s_, .int .i64 x.at_]) r31_b4 r31.2.wait_]) (fun w hs => sat_to [4, 0, 2, 2, 1, 0, 0, 0] 1 rfl hs) rfl (rr_tmp rfl) (.inr ⟨(r35_s1.1, r35_s1.2), r35_b2, r35_b4, r31_p1, r31_c2, r31_b4, rfl, rfl, rfl⟩)
    refine cw_cond_f rfl rfl h59 ?_
    obtain ⟨v63, hF, hK63⟩ := bind_some hF
    refine cw_mid (fun a w => ∃ (x66 : Bool), x66 = v63 ∧ Fr 117 [(1, .pointer (some ⟨b1, 0, none⟩)), (3, .int .i64 x3), (11, .pointer (some ⟨r35_b2, 0, none⟩)), (13, .int .i64 r42.2), (96, .bool x66)] a ∧ SAT w0 ([imm I, pt r35_b2 #[.pointer (some ⟨r35_b4, 0, none⟩), .int .i64 r35_s1.1.base_, .int .i64 r35_s1.1.slots_, .int .i64 r35_s1.1.shred_] 78, pt r35_b4 #[.pointer (some ⟨b0, 0, none⟩), .int .i64 r35_s1.2.boot_, .int .i64 r35_s1.2.n_] 75, pt b0 #[.slice r31_p1 r31.2.sure_.length r31_c2, .map (some r31_b4), .bool r31.2.off_, .bool r31.2.armed_, .int .i64 r31.2.left_, .int .u64 r31.2.fall_.Keep, .int .i64 r31.2.fall_.Tear, .int .i64 r31.2.acts_, .int .i64 r31.2.falls_] 52, pt b21 #[.int .u64 x2.Keep, .int .i64 x2.Tear] 36, pt b1 #[.int .i64 m1.keys_.e0, .int .i64 m1.keys_.e1, .int .i64 m1.keys_.e2, .int .i64 m1.keys_.e3, .int .i64 m1.keys_.e4, .int .i64 m1.keys_.e5, .int .i64 m1.keys_.e6, .int .i64 m1.keys_.e7, .int .i64 (IntKind.i64.wrap (m1.boot_ + 1)), .int .i64 0] 30, own e_disk_sector 55 r31_p1 r31_c2 r31.2.sure_, mpo (kInt .i64) (fun x : disk_sector => Value.agg #[.string x.s_, .int .i64 x.at_]) r31_b4 r31.2.wait_] ++ F0) w) ?_ ?_
    · refine cw_region ?_
      refine ow_vals 3 (j := 3) [1, 3, 4, 11, 13, 14, 89] [(1, .pointer (some ⟨b1, 0, none⟩)), (3, .int .i64 x3), (4, .int .i64 x4), (11, .pointer (some ⟨r35_b2, 0, none⟩)), (13, .int .i64 r42.2), (14, .int .i64 y44), (89, .bool (r42.2 == 7))] rfl (by kernel_rfl) ?_
      rcases if_some hF with ⟨h64, hF⟩ | ⟨h64, hF⟩
      · refine ow_slots (L' := [(1, .pointer (some ⟨b1, 0, none⟩)), (3, .int .i64 x3), (4, .int .i64 x4), (11, .pointer (some ⟨r35_b2, 0, none⟩)), (13, .int .i64 r42.2), (14, .int .i64 y44), (89, .bool true)]) (by rw [h64]) ?_
        refine ow_vals 3 (j := 6) [1, 3, 4, 11, 13, 89, 92] [(1, .pointer (some ⟨b1, 0, none⟩)), (3, .int .i64 x3), (4, .int .i64 x4), (11, .pointer (some ⟨r35_b2, 0, none⟩)), (13, .int .i64 r42.2), (89, .bool true), (92, .bool (y44 == 0))] rfl (by kernel_rfl) ?_
        rcases if_some hF with ⟨h65, hF⟩ | ⟨h65, hF⟩
        · refine ow_slots (L' := [(1, .pointer (some ⟨b1, 0, none⟩)), (3, .int .i64 x3), (4, .int .i64 x4), (11, .pointer (some ⟨r35_b2, 0, none⟩)), (13, .int .i64 r42.2), (89, .bool true), (92, .bool true)]) (by rw [h65]) ?_
          refine ow_vals 4 (j := 10) [1, 3, 11, 13, 96] [(1, .pointer (some ⟨b1, 0, none⟩)), (3, .int .i64 x3), (11, .pointer (some ⟨r35_b2, 0, none⟩)), (13, .int .i64 r42.2), (96, .bool true)] rfl (by kernel_rfl) ?_
          refine ow_end rfl ?_
          have hR := Option.some.inj hF
          exact fun a w hf hs => ⟨true, hR, hf.keep [1, 3, 11, 13, 96], sat_to [0, 0, 0, 0, 0, 0, 0, 0] 0 rfl hs⟩
        refine ow_slots (L' := [(1, .pointer (some ⟨b1, 0, none⟩)), (3, .int .i64 x3), (4, .int .i64 x4), (11, .pointer (some ⟨r35_b2, 0, none⟩)), (13, .int .i64 r42.2), (89, .bool true), (92, .bool false)]) (by rw [h65]) ?_
        refine ow_vals 4 (j := 10) [1, 3, 11, 13, 96] [(1, .pointer (some ⟨b1, 0, none⟩)), (3, .int .i64 x3), (11, .pointer (some ⟨r35_b2, 0, none⟩)), (13, .int .i64 r42.2), (96, .bool (x4 == 0))] rfl (by kernel_rfl) ?_
        refine ow_end rfl ?_
        have hR := Option.some.inj hF
        exact fun a w hf hs => ⟨x4 == 0, hR, hf.keep [1, 3, 11, 13, 96], sat_to [0, 0, 0, 0, 0, 0, 0, 0] 0 rfl hs⟩
      refine ow_slots (L' := [(1, .pointer (some ⟨b1, 0, none⟩)), (3, .int .i64 x3), (4, .int .i64 x4), (11, .pointer (some ⟨r35_b2, 0, none⟩)), (13, .int .i64 r42.2), (14, .int .i64 y44), (89, .bool false)]) (by rw [h64]) ?_
      refine ow_vals 7 (j := 10) [1, 3, 11, 13, 96] [(1, .pointer (some ⟨b1, 0, none⟩)), (3, .int .i64 x3), (11, .pointer (some ⟨r35_b2, 0, none⟩)), (13, .int .i64 r42.2), (96, .bool false)] rfl (by kernel_rfl) ?_
      refine ow_end rfl ?_
      have hR := Option.some.inj hF
      exact fun a w hf hs => ⟨false, hR, hf.keep [1, 3, 11, 13, 96], sat_to [0, 0, 0, 0, 0, 0, 0, 0] 0 rfl hs⟩
    rintro a w ⟨x66, hv, hf, hs⟩
    subst hv
    replace hF := hK63
    clear hK63
    try dsimp only at hF
    revert a w
    show CW _ _ _ 117 [(1, .pointer (some ⟨b1, 0, none⟩)), (3, .int .i64 x3), (11, .pointer (some ⟨r35_b2, 0, none⟩)), (13, .int .i64 r42.2), (96, .bool x66)] (SAT w0 ([imm I, pt r35_b2 #[.pointer (some ⟨r35_b4, 0, none⟩), .int .i64 r35_s1.1.base_, .int .i64 r35_s1.1.slots_, .int .i64 r35_s1.1.shred_] 78, pt r35_b4 #[.pointer (some ⟨b0, 0, none⟩), .int .i64 r35_s1.2.boot_, .int .i64 r35_s1.2.n_] 75, pt b0 #[.slice r31_p1 r31.2.sure_.length r31_c2, .map (some r31_b4), .bool r31.2.off_, .bool r31.2.armed_, .int .i64 r31.2.left_, .int .u64 r31.2.fall_.Keep, .int .i64 r31.2.fall_.Tear, .int .i64 r31.2.acts_, .int .i64 r31.2.falls_] 52, pt b21 #[.int .u64 x2.Keep, .int .i64 x2.Tear] 36, pt b1 #[.int .i64 m1.keys_.e0, .int .i64 m1.keys_.e1, .int .i64 m1.keys_.e2, .int .i64 m1.keys_.e3, .int .i64 m1.keys_.e4, .int .i64 m1.keys_.e5, .int .i64 m1.keys_.e6, .int .i64 m1.keys_.e7, .int .i64 (IntKind.i64.wrap (m1.boot_ + 1)), .int .i64 0] 30, own e_disk_sector 55 r31_p1 r31_c2 r31.2.sure_, mpo (kInt .i64) (fun x : disk_sector => Value.agg #[.string x.s_, .int .i64 x.at_]) r31_b4 r31.2.wait_] ++ F0))
    unfold F.law13_again.r2 at hF
    rcases if_some hF with ⟨h67, hF⟩ | ⟨h67, hF⟩
    · refine cw_cond_t rfl rfl h67 ?_
      refine cw_region ?_
      refine ow_vals 4 (j := 4) [11, 98, 100] [(11, .pointer (some ⟨r35_b2, 0, none⟩)), (98, .int .i64 x3), (100, .pointer (some ⟨b1, 0, none⟩))] rfl (by kernel_rfl) ?_
      obtain ⟨y68, h69, hF⟩ := bind_some hF
      refine ow_pw rfl (pw_quiet (v := .pointer (some ((⟨b1, 0, none⟩ : Addr).add (x3.toNat * 1)))) rfl rfl rfl rfl (q_index_objel (l := ([m1.keys_.e0, m1.keys_.e1, m1.keys_.e2, m1.keys_.e3, m1.keys_.e4, m1.keys_.e5, m1.keys_.e6, m1.keys_.e7] : List Int)) (m := 8) (E := 3) (sz := 1) (tot := 8) rfl (by kernel_rfl) rfl rfl rfl h69) (nw_ow ?_))
      refine ow_pw rfl (pw_store_objel (e := (eInt .i64)) (l := ([m1.keys_.e0, m1.keys_.e1, m1.keys_.e2, m1.keys_.e3, m1.keys_.e4, m1.keys_.e5, m1.keys_.e6, m1.keys_.e7] : List Int)) (z' := 0) (C' := #[.int .i64 (if x3.toNat = 0 then 0 else m1.keys_.e0), .int .i64 (if x3.toNat = 1 then 0 else m1.keys_.e1), .int .i64 (if x3.toNat = 2 then 0 else m1.keys_.e2), .int .i64 (if x3.toNat = 3 then 0 else m1.keys_.e3), .int .i64 (if x3.toNat = 4 then 0 else m1.keys_.e4), .int .i64 (if x3.toNat = 5 then 0 else m1.keys_.e5), .int .i64 (if x3.toNat = 6 then 0 else m1.keys_.e6), .int .i64 (if x3.toNat = 7 then 0 else m1.keys_.e7), .int .i64 (IntKind.i64.wrap (m1.boot_ + 1)), .int .i64 0]) 5 ([] : List Go.Value) ([.int .i64 (IntKind.i64.wrap (m1.boot_ + 1)), .int .i64 0] : List Go.Value) rfl rfl rfl rfl rfl rfl rfl rfl rfl rfl (by kernel_rfl) rfl rfl rfl h69 rfl (nw_H (H' := [imm I, pt r35_b2 #[.pointer (some ⟨r35_b4, 0, none⟩), .int .i64 r35_s1.1.base_, .int .i64 r35_s1.1.slots_, .int .i64 r35_s1.1.shred_] 78, pt r35_b4 #[.pointer (some ⟨b0, 0, none⟩), .int .i64 r35_s1.2.boot_, .int .i64 r35_s1.2.n_] 75, pt b0 #[.slice r31_p1 r31.2.sure_.length r31_c2, .map (some r31_b4), .bool r31.2.off_, .bool r31.2.armed_, .int .i64 r31.2.left_, .int .u64 r31.2.fall_.Keep, .int .i64 r31.2.fall_.Tear, .int .i64 r31.2.acts_, .int .i64 r31.2.falls_] 52, pt b21 #[.int .u64 x2.Keep, .int .i64 x2.Tear] 36, pt b1 #[.int .i64 (if x3.toNat = 0 then 0 else m1.keys_.e0), .int .i64 (if x3.toNat = 1 then 0 else m1.keys_.e1), .int .i64 (if x3.toNat = 2 then 0 else m1.keys_.e2), .int .i64 (if x3.toNat = 3 then 0 else m1.keys_.e3), .int .i64 (if x3.toNat = 4 then 0 else m1.keys_.e4), .int .i64 (if x3.toNat = 5 then 0 else m1.keys_.e5), .int .i64 (if x3.toNat = 6 then 0 else m1.keys_.e6), .int .i64 (if x3.toNat = 7 then 0 else m1.keys_.e7), .int .i64 (IntKind.i64.wrap (m1.boot_ + 1)), .int .i64 0] 30, own e_disk_sector 55 r31_p1 r31_c2 r31.2.sure_, mpo (kInt .i64) (fun x : disk_sector => Value.agg #[.string x.s_, .int .i64 x.at_]) r31_b4 r31.2.wait_] ++ F0) rfl (nw_ow ?_)))
      refine ow_end rfl ?_
      refine ew_then ?_
      refine cw_seq ?_
      refine cw_region ?_
      refine ow_vals 2 (j := 2) [10] [(10, .pointer (some ⟨r35_b2, 0, none⟩))] rfl (by kernel_rfl) ?_
      refine ow_end rfl ?_
      refine ew_then ?_
      refine cw_ret ?_
      have hR := Option.some.inj hF
      subst hR
      exact fin1 (H1 := [imm I, pt b0 #[.slice r31_p1 r31.2.sure_.length r31_c2, .map (some r31_b4), .bool r31.2.off_, .bool r31.2.armed_, .int .i64 r31.2.left_, .int .u64 r31.2.fall_.Keep, .int .i64 r31.2.fall_.Tear, .int .i64 r31.2.acts_, .int .i64 r31.2.falls_] 52, pt b1 #[.int .i64 (((⟨(⟨if x3.toNat = 0 then 0 else m1.keys_.e0, if x3.toNat = 1 then 0 else m1.keys_.e1, if x3.toNat = 2 then 0 else m1.keys_.e2, if x3.toNat = 3 then 0 else m1.keys_.e3, if x3.toNat = 4 then 0 else m1.keys_.e4, if x3.toNat = 5 then 0 else m1.keys_.e5, if x3.toNat = 6 then 0 else m1.keys_.e6, if x3.toNat = 7 then 0 else m1.keys_.e7⟩ : A8_Inti64), IntKind.i64.wrap (m1.boot_ + 1), 0⟩ : law13_plain).keys_).e0), .int .i64 (((⟨(⟨if x3.toNat = 0 then 0 else m1.keys_.e0, if x3.toNat = 1 then 0 else m1.keys_.e1, if x3.toNat = 2 then 0 else m1.keys_.e2, if x3.toNat = 3 then 0 else m1.keys_.e3, if x3.toNat = 4 then 0 else m1.keys_.e4, if x3.toNat = 5 then 0 else m1.keys_.e5, if x3.toNat = 6 then 0 else m1.keys_.e6, if x3.toNat = 7 then 0 else m1.keys_.e7⟩ : A8_Inti64), IntKind.i64.wrap (m1.boot_ + 1), 0⟩ : law13_plain).keys_).e1), .int .i64 (((⟨(⟨if x3.toNat = 0 then 0 else m1.keys_.e0, if x3.toNat = 1 then 0 else m1.keys_.e1, if x3.toNat = 2 then 0 else m1.keys_.e2, if x3.toNat = 3 then 0 else m1.keys_.e3, if x3.toNat = 4 then 0 else m1.keys_.e4, if x3.toNat = 5 then 0 else m1.keys_.e5, if x3.toNat = 6 then 0 else m1.keys_.e6, if x3.toNat = 7 then 0 else m1.keys_.e7⟩ : A8_Inti64), IntKind.i64.wrap (m1.boot_ + 1), 0⟩ : law13_plain).keys_).e2), .int .i64 (((⟨(⟨if x3.toNat = 0 then 0 else m1.keys_.e0, if x3.toNat = 1 then 0 else m1.keys_.e1, if x3.toNat = 2 then 0 else m1.keys_.e2, if x3.toNat = 3 then 0 else m1.keys_.e3, if x3.toNat = 4 then 0 else m1.keys_.e4, if x3.toNat = 5 then 0 else m1.keys_.e5, if x3.toNat = 6 then 0 else m1.keys_.e6, if x3.toNat = 7 then 0 else m1.keys_.e7⟩ : A8_Inti64), IntKind.i64.wrap (m1.boot_ + 1), 0⟩ : law13_plain).keys_).e3), .int .i64 (((⟨(⟨if x3.toNat = 0 then 0 else m1.keys_.e0, if x3.toNat = 1 then 0 else m1.keys_.e1, if x3.toNat = 2 then 0 else m1.keys_.e2, if x3.toNat = 3 then 0 else m1.keys_.e3, if x3.toNat = 4 then 0 else m1.keys_.e4, if x3.toNat = 5 then 0 else m1.keys_.e5, if x3.toNat = 6 then 0 else m1.keys_.e6, if x3.toNat = 7 then 0 else m1.keys_.e7⟩ : A8_Inti64), IntKind.i64.wrap (m1.boot_ + 1), 0⟩ : law13_plain).keys_).e4), .int .i64 (((⟨(⟨if x3.toNat = 0 then 0 else m1.keys_.e0, if x3.toNat = 1 then 0 else m1.keys_.e1, if x3.toNat = 2 then 0 else m1.keys_.e2, if x3.toNat = 3 then 0 else m1.keys_.e3, if x3.toNat = 4 then 0 else m1.keys_.e4, if x3.toNat = 5 then 0 else m1.keys_.e5, if x3.toNat = 6 then 0 else m1.keys_.e6, if x3.toNat = 7 then 0 else m1.keys_.e7⟩ : A8_Inti64), IntKind.i64.wrap (m1.boot_ + 1), 0⟩ : law13_plain).keys_).e5), .int .i64 (((⟨(⟨if x3.toNat = 0 then 0 else m1.keys_.e0, if x3.toNat = 1 then 0 else m1.keys_.e1, if x3.toNat = 2 then 0 else m1.keys_.e2, if x3.toNat = 3 then 0 else m1.keys_.e3, if x3.toNat = 4 then 0 else m1.keys_.e4, if x3.toNat = 5 then 0 else m1.keys_.e5, if x3.toNat = 6 then 0 else m1.keys_.e6, if x3.toNat = 7 then 0 else m1.keys_.e7⟩ : A8_Inti64), IntKind.i64.wrap (m1.boot_ + 1), 0⟩ : law13_plain).keys_).e6), .int .i64 (((⟨(⟨if x3.toNat = 0 then 0 else m1.keys_.e0, if x3.toNat = 1 then 0 else m1.keys_.e1, if x3.toNat = 2 then 0 else m1.keys_.e2, if x3.toNat = 3 then 0 else m1.keys_.e3, if x3.toNat = 4 then 0 else m1.keys_.e4, if x3.toNat = 5 then 0 else m1.keys_.e5, if x3.toNat = 6 then 0 else m1.keys_.e6, if x3.toNat = 7 then 0 else m1.keys_.e7⟩ : A8_Inti64), IntKind.i64.wrap (m1.boot_ + 1), 0⟩ : law13_plain).keys_).e7), .int .i64 ((⟨(⟨if x3.toNat = 0 then 0 else m1.keys_.e0, if x3.toNat = 1 then 0 else m1.keys_.e1, if x3.toNat = 2 then 0 else m1.keys_.e2, if x3.toNat = 3 then 0 else m1.keys_.e3, if x3.toNat = 4 then 0 else m1.keys_.e4, if x3.toNat = 5 then 0 else m1.keys_.e5, if x3.toNat = 6 then 0 else m1.keys_.e6, if x3.toNat = 7 then 0 else m1.keys_.e7⟩ : A8_Inti64), IntKind.i64.wrap (m1.boot_ + 1), 0⟩ : law13_plain).boot_), .int .i64 ((⟨(⟨if x3.toNat = 0 then 0 else m1.keys_.e0, if x3.toNat = 1 then 0 else m1.keys_.e1, if x3.toNat = 2 then 0 else m1.keys_.e2, if x3.toNat = 3 then 0 else m1.keys_.e3, if x3.toNat = 4 then 0 else m1.keys_.e4, if x3.toNat = 5 then 0 else m1.keys_.e5, if x3.toNat = 6 then 0 else m1.keys_.e6, if x3.toNat = 7 then 0 else m1.keys_.e7⟩ : A8_Inti64), IntKind.i64.wrap (m1.boot_ + 1), 0⟩ : law13_plain).shred_)] 30, pt r35_b4 #[.pointer (some ⟨b0, 0, none⟩), .int .i64 (r35_s1.1, r35_s1.2).2.boot_, .int .i64 (r35_s1.1, r35_s1.2).2.n_] 75, pt r35_b2 #[.pointer (some ⟨r35_b4, 0, none⟩), .int .i64 (r35_s1.1, r35_s1.2).1.base_, .int .i64 (r35_s1.1, r35_s1.2).1.slots_, .int .i64 (r35_s1.1, r35_s1.2).1.shred_] 78, own e_disk_sector 55 r31_p1 r31_c2 r31.2.sure_, mpo (kInt .i64) (fun x : disk_sector => Value.agg #[.string x.s_, .int .i64 x.at_]) r31_b4 r31.2.wait_]) (fun w hs => sat_to [4, 0, 2, 2, 1, 0, 0, 0] 1 rfl hs) rfl (rr_tmp rfl) (.inr ⟨(r35_s1.1, r35_s1.2), r35_b2, r35_b4, r31_p1, r31_c2, r31_b4, rfl, rfl, rfl⟩)
    refine cw_cond_f rfl rfl h67 ?_
    refine cw_seq ?_
    refine cw_region ?_
    refine ow_vals 2 (j := 2) [1, 3, 11, 103] [(1, .pointer (some ⟨b1, 0, none⟩)), (3, .int .i64 x3), (11, .pointer (some ⟨r35_b2, 0, none⟩)), (103, .bool (r42.2 == 17))] rfl (by kernel_rfl) ?_
    refine ow_end rfl ?_
    refine ew_then ?_
    rcases if_some hF with ⟨h70, hF⟩ | ⟨h70, hF⟩
    · refine cw_cond_t rfl rfl h70 ?_
      refine cw_seq ?_
      refine cw_seq ?_
      refine cw_region ?_
      refine ow_vals 2 (j := 2) [1, 3, 11, 104, 105] [(1, .pointer (some ⟨b1, 0, none⟩)), (3, .int .i64 x3), (11, .pointer (some ⟨r35_b2, 0, none⟩)), (104, .pointer (some ⟨r35_b2, 0, none⟩)), (105, .int .i64 x3)] rfl (by kernel_rfl) ?_
      obtain ⟨r71, h72, hF⟩ := bind_some hF
      refine ow_pw rfl (pw_call (F := [pt b21 #[.int .u64 x2.Keep, .int .i64 x2.Tear] 36, pt b1 #[.int .i64 m1.keys_.e0, .int .i64 m1.keys_.e1, .int .i64 m1.keys_.e2, .int .i64 m1.keys_.e3, .int .i64 m1.keys_.e4, .int .i64 m1.keys_.e5, .int .i64 m1.keys_.e6, .int .i64 m1.keys_.e7, .int .i64 (IntKind.i64.wrap (m1.boot_ + 1)), .int .i64 0] 30] ++ F0) rfl rfl rfl rfl rfl rfl rfl (by kernel_rfl) (perm_of_pulls [0, 0, 0, 0, 2, 2] rfl) (c_keyring_Ring_Shred _ x3 r35_s1.1 r35_s1.2 r31.2 r35_b2 r35_b4 r31_p1 r31_c2 r31_b4 b0 r71 h72) ?_)
      rintro _ _ ⟨r71_p1, r71_c2, r71_b4, rfl, rfl⟩
      refine nw_H (H' := [imm I, pt r35_b2 #[.pointer (some ⟨r35_b4, 0, none⟩), .int .i64 r71.2.1.base_, .int .i64 r71.2.1.slots_, .int .i64 r71.2.1.shred_] 78, pt r35_b4 #[.pointer (some ⟨b0, 0, none⟩), .int .i64 r35_s1.2.boot_, .int .i64 r35_s1.2.n_] 75, pt b0 #[.slice r71_p1 r71.2.2.sure_.length r71_c2, .map (some r71_b4), .bool r71.2.2.off_, .bool r71.2.2.armed_, .int .i64 r71.2.2.left_, .int .u64 r71.2.2.fall_.Keep, .int .i64 r71.2.2.fall_.Tear, .int .i64 r71.2.2.acts_, .int .i64 r71.2.2.falls_] 52, own e_disk_sector 55 r71_p1 r71_c2 r71.2.2.sure_, mpo (kInt .i64) (fun x : disk_sector => Value.agg #[.string x.s_, .int .i64 x.at_]) r71_b4 r71.2.2.wait_, pt b21 #[.int .u64 x2.Keep, .int .i64 x2.Tear] 36, pt b1 #[.int .i64 m1.keys_.e0, .int .i64 m1.keys_.e1, .int .i64 m1.keys_.e2, .int .i64 m1.keys_.e3, .int .i64 m1.keys_.e4, .int .i64 m1.keys_.e5, .int .i64 m1.keys_.e6, .int .i64 m1.keys_.e7, .int .i64 (IntKind.i64.wrap (m1.boot_ + 1)), .int .i64 0] 30] ++ F0) rfl (nw_ow ?_)
      refine ow_vals 1 (j := 4) [1, 3, 11, 107] [(1, .pointer (some ⟨b1, 0, none⟩)), (3, .int .i64 x3), (11, .pointer (some ⟨r35_b2, 0, none⟩)), (107, .bool (r71.1 != 0))] rfl (by kernel_rfl) ?_
      refine ow_end rfl ?_
      refine ew_then ?_
      rcases if_some hF with ⟨h75, hF⟩ | ⟨h75, hF⟩
      · refine cw_cond_t rfl rfl h75 ?_
        refine cw_seq ?_
        refine cw_region ?_
        refine ow_vals 1 (j := 1) [10] [(10, .pointer none)] rfl (by kernel_rfl) ?_
        refine ow_end rfl ?_
        refine ew_then ?_
        refine cw_ret ?_
        refine ew_then_ret ?_
        refine ew_then_ret ?_
        have hR := Option.some.inj hF
        subst hR
        exact fin1 (H1 := [imm I, pt b0 #[.slice r71_p1 r71.2.2.sure_.length r71_c2, .map (some r71_b4), .bool r71.2.2.off_, .bool r71.2.2.armed_, .int .i64 r71.2.2.left_, .int .u64 r71.2.2.fall_.Keep, .int .i64 r71.2.2.fall_.Tear, .int .i64 r71.2.2.acts_, .int .i64 r71.2.2.falls_] 52, pt b1 #[.int .i64 (((⟨m1.keys_, IntKind.i64.wrap (m1.boot_ + 1), 0⟩ : law13_plain).keys_).e0), .int .i64 (((⟨m1.keys_, IntKind.i64.wrap (m1.boot_ + 1), 0⟩ : law13_plain).keys_).e1), .int .i64 (((⟨m1.keys_, IntKind.i64.wrap (m1.boot_ + 1), 0⟩ : law13_plain).keys_).e2), .int .i64 (((⟨m1.keys_, IntKind.i64.wrap (m1.boot_ + 1), 0⟩ : law13_plain).keys_).e3), .int .i64 (((⟨m1.keys_, IntKind.i64.wrap (m1.boot_ + 1), 0⟩ : law13_plain).keys_).e4), .int .i64 (((⟨m1.keys_, IntKind.i64.wrap (m1.boot_ + 1), 0⟩ : law13_plain).keys_).e5), .int .i64 (((⟨m1.keys_, IntKind.i64.wrap (m1.boot_ + 1), 0⟩ : law13_plain).keys_).e6), .int .i64 (((⟨m1.keys_, IntKind.i64.wrap (m1.boot_ + 1), 0⟩ : law13_plain).keys_).e7), .int .i64 ((⟨m1.keys_, IntKind.i64.wrap (m1.boot_ + 1), 0⟩ : law13_plain).boot_), .int .i64 ((⟨m1.keys_, IntKind.i64.wrap (m1.boot_ + 1), 0⟩ : law13_plain).shred_)] 30, own e_disk_sector 55 r71_p1 r71_c2 r71.2.2.sure_, mpo (kInt .i64) (fun x : disk_sector => Value.agg #[.string x.s_, .int .i64 x.at_]) r71_b4 r71.2.2.wait_]) (fun w hs => sat_to [1, 1, 4, 0, 0, 2, 0, 0] 3 rfl hs) rfl (rr_tmp rfl) (.inl ⟨r71_p1, r71_c2, r71_b4, rfl, rfl, rfl⟩)
      refine cw_cond_f rfl rfl h75 ?_
      refine cw_skip ?_
      refine ew_then ?_
      refine cw_seq ?_
      refine cw_region ?_
      refine ow_vals 4 (j := 4) [1, 11, 109, 111] [(1, .pointer (some ⟨b1, 0, none⟩)), (11, .pointer (some ⟨r35_b2, 0, none⟩)), (109, .int .i64 x3), (111, .pointer (some ⟨b1, 0, none⟩))] rfl (by kernel_rfl) ?_
      obtain ⟨y76, h77, hF⟩ := bind_some hF
      refine ow_pw rfl (pw_quiet (v := .pointer (some ((⟨b1, 0, none⟩ : Addr).add (x3.toNat * 1)))) rfl rfl rfl rfl (q_index_objel (l := ([m1.keys_.e0, m1.keys_.e1, m1.keys_.e2, m1.keys_.e3, m1.keys_.e4, m1.keys_.e5, m1.keys_.e6, m1.keys_.e7] : List Int)) (m := 8) (E := 3) (sz := 1) (tot := 8) rfl (by kernel_rfl) rfl rfl rfl h77) (nw_ow ?_))
      refine ow_pw rfl (pw_store_objel (e := (eInt .i64)) (l := ([m1.keys_.e0, m1.keys_.e1, m1.keys_.e2, m1.keys_.e3, m1.keys_.e4, m1.keys_.e5, m1.keys_.e6, m1.keys_.e7] : List Int)) (z' := 0) (C' := #[.int .i64 (if x3.toNat = 0 then 0 else m1.keys_.e0), .int .i64 (if x3.toNat = 1 then 0 else m1.keys_.e1), .int .i64 (if x3.toNat = 2 then 0 else m1.keys_.e2), .int .i64 (if x3.toNat = 3 then 0 else m1.keys_.e3), .int .i64 (if x3.toNat = 4 then 0 else m1.keys_.e4), .int .i64 (if x3.toNat = 5 then 0 else m1.keys_.e5), .int .i64 (if x3.toNat = 6 then 0 else m1.keys_.e6), .int .i64 (if x3.toNat = 7 then 0 else m1.keys_.e7), .int .i64 (IntKind.i64.wrap (m1.boot_ + 1)), .int .i64 0]) 7 ([] : List Go.Value) ([.int .i64 (IntKind.i64.wrap (m1.boot_ + 1)), .int .i64 0] : List Go.Value) rfl rfl rfl rfl rfl rfl rfl rfl rfl rfl (by kernel_rfl) rfl rfl rfl h77 rfl (nw_H (H' := [imm I, pt r35_b2 #[.pointer (some ⟨r35_b4, 0, none⟩), .int .i64 r71.2.1.base_, .int .i64 r71.2.1.slots_, .int .i64 r71.2.1.shred_] 78, pt r35_b4 #[.pointer (some ⟨b0, 0, none⟩), .int .i64 r35_s1.2.boot_, .int .i64 r35_s1.2.n_] 75, pt b0 #[.slice r71_p1 r71.2.2.sure_.length r71_c2, .map (some r71_b4), .bool r71.2.2.off_, .bool r71.2.2.armed_, .int .i64 r71.2.2.left_, .int .u64 r71.2.2.fall_.Keep, .int .i64 r71.2.2.fall_.Tear, .int .i64 r71.2.2.acts_, .int .i64 r71.2.2.falls_] 52, own e_disk_sector 55 r71_p1 r71_c2 r71.2.2.sure_, mpo (kInt .i64) (fun x : disk_sector => Value.agg #[.string x.s_, .int .i64 x.at_]) r71_b4 r71.2.2.wait_, pt b21 #[.int .u64 x2.Keep, .int .i64 x2.Tear] 36, pt b1 #[.int .i64 (if x3.toNat = 0 then 0 else m1.keys_.e0), .int .i64 (if x3.toNat = 1 then 0 else m1.keys_.e1), .int .i64 (if x3.toNat = 2 then 0 else m1.keys_.e2), .int .i64 (if x3.toNat = 3 then 0 else m1.keys_.e3), .int .i64 (if x3.toNat = 4 then 0 else m1.keys_.e4), .int .i64 (if x3.toNat = 5 then 0 else m1.keys_.e5), .int .i64 (if x3.toNat = 6 then 0 else m1.keys_.e6), .int .i64 (if x3.toNat = 7 then 0 else m1.keys_.e7), .int .i64 (IntKind.i64.wrap (m1.boot_ + 1)), .int .i64 0] 30] ++ F0) rfl (nw_ow ?_)))
      refine ow_end rfl ?_
      refine ew_then ?_
      refine cw_region ?_
      refine ow_vals 3 (j := 3) [11, 115] [(11, .pointer (some ⟨r35_b2, 0, none⟩)), (115, .pointer (some ⟨b1, 9, none⟩))] rfl (by kernel_rfl) ?_
      refine ow_pw rfl (pw_store 7 #[.int .i64 (if x3.toNat = 0 then 0 else m1.keys_.e0), .int .i64 (if x3.toNat = 1 then 0 else m1.keys_.e1), .int .i64 (if x3.toNat = 2 then 0 else m1.keys_.e2), .int .i64 (if x3.toNat = 3 then 0 else m1.keys_.e3), .int .i64 (if x3.toNat = 4 then 0 else m1.keys_.e4), .int .i64 (if x3.toNat = 5 then 0 else m1.keys_.e5), .int .i64 (if x3.toNat = 6 then 0 else m1.keys_.e6), .int .i64 (if x3.toNat = 7 then 0 else m1.keys_.e7), .int .i64 (IntKind.i64.wrap (m1.boot_ + 1)), .int .i64 1] rfl rfl rfl rfl rfl rfl rfl (by kernel_rfl) (nw_H (H' := [imm I, pt r35_b2 #[.pointer (some ⟨r35_b4, 0, none⟩), .int .i64 r71.2.1.base_, .int .i64 r71.2.1.slots_, .int .i64 r71.2.1.shred_] 78, pt r35_b4 #[.pointer (some ⟨b0, 0, none⟩), .int .i64 r35_s1.2.boot_, .int .i64 r35_s1.2.n_] 75, pt b0 #[.slice r71_p1 r71.2.2.sure_.length r71_c2, .map (some r71_b4), .bool r71.2.2.off_, .bool r71.2.2.armed_, .int .i64 r71.2.2.left_, .int .u64 r71.2.2.fall_.Keep, .int .i64 r71.2.2.fall_.Tear, .int .i64 r71.2.2.acts_, .int .i64 r71.2.2.falls_] 52, own e_disk_sector 55 r71_p1 r71_c2 r71.2.2.sure_, mpo (kInt .i64) (fun x : disk_sector => Value.agg #[.string x.s_, .int .i64 x.at_]) r71_b4 r71.2.2.wait_, pt b21 #[.int .u64 x2.Keep, .int .i64 x2.Tear] 36, pt b1 #[.int .i64 (if x3.toNat = 0 then 0 else m1.keys_.e0), .int .i64 (if x3.toNat = 1 then 0 else m1.keys_.e1), .int .i64 (if x3.toNat = 2 then 0 else m1.keys_.e2), .int .i64 (if x3.toNat = 3 then 0 else m1.keys_.e3), .int .i64 (if x3.toNat = 4 then 0 else m1.keys_.e4), .int .i64 (if x3.toNat = 5 then 0 else m1.keys_.e5), .int .i64 (if x3.toNat = 6 then 0 else m1.keys_.e6), .int .i64 (if x3.toNat = 7 then 0 else m1.keys_.e7), .int .i64 (IntKind.i64.wrap (m1.boot_ + 1)), .int .i64 1] 30] ++ F0) rfl (nw_ow ?_)))
      refine ow_end rfl ?_
      refine ew_then ?_
      refine cw_seq ?_
      refine cw_region ?_
      refine ow_vals 2 (j := 2) [10] [(10, .pointer (some ⟨r35_b2, 0, none⟩))] rfl (by kernel_rfl) ?_
      refine ow_end rfl ?_
      refine ew_then ?_
      refine cw_ret ?_
      have hR := Option.some.inj hF
      subst hR
      exact fin1 (H1 := [imm I, pt b0 #[.slice r71_p1 r71.2.2.sure_.length r71_c2, .map (some r71_b4), .bool r71.2.2.off_, .bool r71.2.2.armed_, .int .i64 r71.2.2.left_, .int .u64 r71.2.2.fall_.Keep, .int .i64 r71.2.2.fall_.Tear, .int .i64 r71.2.2.acts_, .int .i64 r71.2.2.falls_] 52, pt b1 #[.int .i64 (((⟨(⟨if x3.toNat = 0 then 0 else m1.keys_.e0, if x3.toNat = 1 then 0 else m1.keys_.e1, if x3.toNat = 2 then 0 else m1.keys_.e2, if x3.toNat = 3 then 0 else m1.keys_.e3, if x3.toNat = 4 then 0 else m1.keys_.e4, if x3.toNat = 5 then 0 else m1.keys_.e5, if x3.toNat = 6 then 0 else m1.keys_.e6, if x3.toNat = 7 then 0 else m1.keys_.e7⟩ : A8_Inti64), IntKind.i64.wrap (m1.boot_ + 1), 1⟩ : law13_plain).keys_).e0), .int .i64 (((⟨(⟨if x3.toNat = 0 then 0 else m1.keys_.e0, if x3.toNat = 1 then 0 else m1.keys_.e1, if x3.toNat = 2 then 0 else m1.keys_.e2, if x3.toNat = 3 then 0 else m1.keys_.e3, if x3.toNat = 4 then 0 else m1.keys_.e4, if x3.toNat = 5 then 0 else m1.keys_.e5, if x3.toNat = 6 then 0 else m1.keys_.e6, if x3.toNat = 7 then 0 else m1.keys_.e7⟩ : A8_Inti64), IntKind.i64.wrap (m1.boot_ + 1), 1⟩ : law13_plain).keys_).e1), .int .i64 (((⟨(⟨if x3.toNat = 0 then 0 else m1.keys_.e0, if x3.toNat = 1 then 0 else m1.keys_.e1, if x3.toNat = 2 then 0 else m1.keys_.e2, if x3.toNat = 3 then 0 else m1.keys_.e3, if x3.toNat = 4 then 0 else m1.keys_.e4, if x3.toNat = 5 then 0 else m1.keys_.e5, if x3.toNat = 6 then 0 else m1.keys_.e6, if x3.toNat = 7 then 0 else m1.keys_.e7⟩ : A8_Inti64), IntKind.i64.wrap (m1.boot_ + 1), 1⟩ : law13_plain).keys_).e2), .int .i64 (((⟨(⟨if x3.toNat = 0 then 0 else m1.keys_.e0, if x3.toNat = 1 then 0 else m1.keys_.e1, if x3.toNat = 2 then 0 else m1.keys_.e2, if x3.toNat = 3 then 0 else m1.keys_.e3, if x3.toNat = 4 then 0 else m1.keys_.e4, if x3.toNat = 5 then 0 else m1.keys_.e5, if x3.toNat = 6 then 0 else m1.keys_.e6, if x3.toNat = 7 then 0 else m1.keys_.e7⟩ : A8_Inti64), IntKind.i64.wrap (m1.boot_ + 1), 1⟩ : law13_plain).keys_).e3), .int .i64 (((⟨(⟨if x3.toNat = 0 then 0 else m1.keys_.e0, if x3.toNat = 1 then 0 else m1.keys_.e1, if x3.toNat = 2 then 0 else m1.keys_.e2, if x3.toNat = 3 then 0 else m1.keys_.e3, if x3.toNat = 4 then 0 else m1.keys_.e4, if x3.toNat = 5 then 0 else m1.keys_.e5, if x3.toNat = 6 then 0 else m1.keys_.e6, if x3.toNat = 7 then 0 else m1.keys_.e7⟩ : A8_Inti64), IntKind.i64.wrap (m1.boot_ + 1), 1⟩ : law13_plain).keys_).e4), .int .i64 (((⟨(⟨if x3.toNat = 0 then 0 else m1.keys_.e0, if x3.toNat = 1 then 0 else m1.keys_.e1, if x3.toNat = 2 then 0 else m1.keys_.e2, if x3.toNat = 3 then 0 else m1.keys_.e3, if x3.toNat = 4 then 0 else m1.keys_.e4, if x3.toNat = 5 then 0 else m1.keys_.e5, if x3.toNat = 6 then 0 else m1.keys_.e6, if x3.toNat = 7 then 0 else m1.keys_.e7⟩ : A8_Inti64), IntKind.i64.wrap (m1.boot_ + 1), 1⟩ : law13_plain).keys_).e5), .int .i64 (((⟨(⟨if x3.toNat = 0 then 0 else m1.keys_.e0, if x3.toNat = 1 then 0 else m1.keys_.e1, if x3.toNat = 2 then 0 else m1.keys_.e2, if x3.toNat = 3 then 0 else m1.keys_.e3, if x3.toNat = 4 then 0 else m1.keys_.e4, if x3.toNat = 5 then 0 else m1.keys_.e5, if x3.toNat = 6 then 0 else m1.keys_.e6, if x3.toNat = 7 then 0 else m1.keys_.e7⟩ : A8_Inti64), IntKind.i64.wrap (m1.boot_ + 1), 1⟩ : law13_plain).keys_).e6), .int .i64 (((⟨(⟨if x3.toNat = 0 then 0 else m1.keys_.e0, if x3.toNat = 1 then 0 else m1.keys_.e1, if x3.toNat = 2 then 0 else m1.keys_.e2, if x3.toNat = 3 then 0 else m1.keys_.e3, if x3.toNat = 4 then 0 else m1.keys_.e4, if x3.toNat = 5 then 0 else m1.keys_.e5, if x3.toNat = 6 then 0 else m1.keys_.e6, if x3.toNat = 7 then 0 else m1.keys_.e7⟩ : A8_Inti64), IntKind.i64.wrap (m1.boot_ + 1), 1⟩ : law13_plain).keys_).e7), .int .i64 ((⟨(⟨if x3.toNat = 0 then 0 else m1.keys_.e0, if x3.toNat = 1 then 0 else m1.keys_.e1, if x3.toNat = 2 then 0 else m1.keys_.e2, if x3.toNat = 3 then 0 else m1.keys_.e3, if x3.toNat = 4 then 0 else m1.keys_.e4, if x3.toNat = 5 then 0 else m1.keys_.e5, if x3.toNat = 6 then 0 else m1.keys_.e6, if x3.toNat = 7 then 0 else m1.keys_.e7⟩ : A8_Inti64), IntKind.i64.wrap (m1.boot_ + 1), 1⟩ : law13_plain).boot_), .int .i64 ((⟨(⟨if x3.toNat = 0 then 0 else m1.keys_.e0, if x3.toNat = 1 then 0 else m1.keys_.e1, if x3.toNat = 2 then 0 else m1.keys_.e2, if x3.toNat = 3 then 0 else m1.keys_.e3, if x3.toNat = 4 then 0 else m1.keys_.e4, if x3.toNat = 5 then 0 else m1.keys_.e5, if x3.toNat = 6 then 0 else m1.keys_.e6, if x3.toNat = 7 then 0 else m1.keys_.e7⟩ : A8_Inti64), IntKind.i64.wrap (m1.boot_ + 1), 1⟩ : law13_plain).shred_)] 30, pt r35_b4 #[.pointer (some ⟨b0, 0, none⟩), .int .i64 (r71.2.1, r35_s1.2).2.boot_, .int .i64 (r71.2.1, r35_s1.2).2.n_] 75, pt r35_b2 #[.pointer (some ⟨r35_b4, 0, none⟩), .int .i64 (r71.2.1, r35_s1.2).1.base_, .int .i64 (r71.2.1, r35_s1.2).1.slots_, .int .i64 (r71.2.1, r35_s1.2).1.shred_] 78, own e_disk_sector 55 r71_p1 r71_c2 r71.2.2.sure_, mpo (kInt .i64) (fun x : disk_sector => Value.agg #[.string x.s_, .int .i64 x.at_]) r71_b4 r71.2.2.wait_]) (fun w hs => sat_to [6, 0, 2, 4, 1, 0, 0, 0] 1 rfl hs) rfl (rr_tmp rfl) (.inr ⟨(r71.2.1, r35_s1.2), r35_b2, r35_b4, r71_p1, r71_c2, r71_b4, rfl, rfl, rfl⟩)
    refine cw_cond_f rfl rfl h70 ?_
    refine cw_seq ?_
    refine cw_region ?_
    refine ow_vals 1 (j := 1) [10] [(10, .pointer none)] rfl (by kernel_rfl) ?_
    refine ow_end rfl ?_
    refine ew_then ?_
    refine cw_ret ?_
    refine ew_then_ret ?_
    have hR := Option.some.inj hF
    subst hR
    exact fin1 (H1 := [imm I, pt b0 #[.slice r31_p1 r31.2.sure_.length r31_c2, .map (some r31_b4), .bool r31.2.off_, .bool r31.2.armed_, .int .i64 r31.2.left_, .int .u64 r31.2.fall_.Keep, .int .i64 r31.2.fall_.Tear, .int .i64 r31.2.acts_, .int .i64 r31.2.falls_] 52, pt b1 #[.int .i64 (((⟨m1.keys_, IntKind.i64.wrap (m1.boot_ + 1), 0⟩ : law13_plain).keys_).e0), .int .i64 (((⟨m1.keys_, IntKind.i64.wrap (m1.boot_ + 1), 0⟩ : law13_plain).keys_).e1), .int .i64 (((⟨m1.keys_, IntKind.i64.wrap (m1.boot_ + 1), 0⟩ : law13_plain).keys_).e2), .int .i64 (((⟨m1.keys_, IntKind.i64.wrap (m1.boot_ + 1), 0⟩ : law13_plain).keys_).e3), .int .i64 (((⟨m1.keys_, IntKind.i64.wrap (m1.boot_ + 1), 0⟩ : law13_plain).keys_).e4), .int .i64 (((⟨m1.keys_, IntKind.i64.wrap (m1.boot_ + 1), 0⟩ : law13_plain).keys_).e5), .int .i64 (((⟨m1.keys_, IntKind.i64.wrap (m1.boot_ + 1), 0⟩ : law13_plain).keys_).e6), .int .i64 (((⟨m1.keys_, IntKind.i64.wrap (m1.boot_ + 1), 0⟩ : law13_plain).keys_).e7), .int .i64 ((⟨m1.keys_, IntKind.i64.wrap (m1.boot_ + 1), 0⟩ : law13_plain).boot_), .int .i64 ((⟨m1.keys_, IntKind.i64.wrap (m1.boot_ + 1), 0⟩ : law13_plain).shred_)] 30, own e_disk_sector 55 r31_p1 r31_c2 r31.2.sure_, mpo (kInt .i64) (fun x : disk_sector => Value.agg #[.string x.s_, .int .i64 x.at_]) r31_b4 r31.2.wait_]) (fun w hs => sat_to [1, 1, 2, 0, 0, 0, 0, 0] 3 rfl hs) rfl (rr_tmp rfl) (.inl ⟨r31_p1, r31_c2, r31_b4, rfl, rfl, rfl⟩)
  refine cw_cond_f rfl rfl h41 ?_
  refine cw_skip ?_
  refine ew_then ?_
  refine cw_seq ?_
  refine cw_region ?_
  refine ow_vals 2 (j := 2) [10] [(10, .pointer (some ⟨r35_b2, 0, none⟩))] rfl (by kernel_rfl) ?_
  refine ow_end rfl ?_
  refine ew_then ?_
  refine cw_ret ?_
  have hR := Option.some.inj hF
  subst hR
  exact fin1 (H1 := [imm I, pt b0 #[.slice r31_p1 r31.2.sure_.length r31_c2, .map (some r31_b4), .bool r31.2.off_, .bool r31.2.armed_, .int .i64 r31.2.left_, .int .u64 r31.2.fall_.Keep, .int .i64 r31.2.fall_.Tear, .int .i64 r31.2.acts_, .int .i64 r31.2.falls_] 52, pt b1 #[.int .i64 (((⟨m1.keys_, IntKind.i64.wrap (m1.boot_ + 1), 0⟩ : law13_plain).keys_).e0), .int .i64 (((⟨m1.keys_, IntKind.i64.wrap (m1.boot_ + 1), 0⟩ : law13_plain).keys_).e1), .int .i64 (((⟨m1.keys_, IntKind.i64.wrap (m1.boot_ + 1), 0⟩ : law13_plain).keys_).e2), .int .i64 (((⟨m1.keys_, IntKind.i64.wrap (m1.boot_ + 1), 0⟩ : law13_plain).keys_).e3), .int .i64 (((⟨m1.keys_, IntKind.i64.wrap (m1.boot_ + 1), 0⟩ : law13_plain).keys_).e4), .int .i64 (((⟨m1.keys_, IntKind.i64.wrap (m1.boot_ + 1), 0⟩ : law13_plain).keys_).e5), .int .i64 (((⟨m1.keys_, IntKind.i64.wrap (m1.boot_ + 1), 0⟩ : law13_plain).keys_).e6), .int .i64 (((⟨m1.keys_, IntKind.i64.wrap (m1.boot_ + 1), 0⟩ : law13_plain).keys_).e7), .int .i64 ((⟨m1.keys_, IntKind.i64.wrap (m1.boot_ + 1), 0⟩ : law13_plain).boot_), .int .i64 ((⟨m1.keys_, IntKind.i64.wrap (m1.boot_ + 1), 0⟩ : law13_plain).shred_)] 30, pt r35_b4 #[.pointer (some ⟨b0, 0, none⟩), .int .i64 (r35_s1.1, r35_s1.2).2.boot_, .int .i64 (r35_s1.1, r35_s1.2).2.n_] 75, pt r35_b2 #[.pointer (some ⟨r35_b4, 0, none⟩), .int .i64 (r35_s1.1, r35_s1.2).1.base_, .int .i64 (r35_s1.1, r35_s1.2).1.slots_, .int .i64 (r35_s1.1, r35_s1.2).1.shred_] 78, own e_disk_sector 55 r31_p1 r31_c2 r31.2.sure_, mpo (kInt .i64) (fun x : disk_sector => Value.agg #[.string x.s_, .int .i64 x.at_]) r31_b4 r31.2.wait_]) (fun w hs => sat_to [6, 0, 0, 4, 0, 0, 0, 0] 1 rfl hs) rfl (rr_tmp rfl) (.inr ⟨(r35_s1.1, r35_s1.2), r35_b2, r35_b4, r31_p1, r31_c2, r31_b4, rfl, rfl, rfl⟩)

end Go.Proofs.YtilpkebkhibpeaaGreatDoor
