/- What the functions compute, and that the code computes it: printed by a program of this claim (wip/tools), for the group Saves. -/
import Derived.Test.YtgbciaegbpkpaaaGreatDoorGSuperb
namespace Go.Proofs.YtgbciaegbpkpaaaGreatDoor
set_option linter.all false
open Go Go.RowKit Go.Fw
set_option linter.unusedVariables false

def F.law11_SuperSaves.r2 (x0 : super_Super) (r36 : Int × guard_Guard × disk_Disk) : Option (Bool) :=
  Option.bind (F.guard_Read (x0.Gen.tmod 2) r36.2.2) (fun (r51 : ByteArray × Int × Int) => Option.bind (F.super_Load r36.2.2) (fun (r53 : super_Super × Int) => if r36.1 == 0 then (if r51.2.2 == 0 then (Option.bind (F.law11_bytes x0) (fun (r59 : ByteArray) => if seqB r51.1 r59 then (Option.bind (F.disk_Disk_Waiting r36.2.2) (fun (r62 : (List Int)) => if (r62.length : Int) == 0 then (if ((r53.1.Gen == x0.Gen) && ((r53.1.Boot == x0.Boot) && ((r53.1.Side == x0.Side) && ((r53.1.Seed == x0.Seed) && (true))))) then (if r53.2 == 0 then (Option.bind (F.law11_awake) (fun (r68 : Bool) => some (r68))) else (some (false))) else (some (false))) else (some (false)))) else (some (false)))) else (some (false))) else (some (false))))
def F.law11_SuperSaves.r1 (x0 : super_Super) (r23_s1 : disk_Disk) (r23_s9 : guard_Guard) : Option (Bool) :=
  Option.bind (F.super_Save x0 r23_s9 r23_s1) (fun (r36 : Int × guard_Guard × disk_Disk) => thru (Option.bind (F.law11_right x0) (fun (r41 : Bool) => if !r41 then (if r36.1 == 1 then (Option.bind (F.disk_Disk_Waiting r36.2.2) (fun (r45 : (List Int)) => if (r45.length : Int) == 0 then (Option.bind (F.law11_awake) (fun (r49 : Bool) => some (.inr (r49)))) else (some (.inr (false))))) else (some (.inr (false)))) else (some (.inl ())))) (fun x => F.law11_SuperSaves.r2 x0 r36))
def F.law11_SuperSaves (x0 : super_Super) : Option Bool :=
  Option.bind (F.law11_made) (fun (r23 : (Option disk_Disk) × (Option guard_Guard)) => optC r23.1 (optC r23.2 (some (false)) (fun _ => none)) (fun (r23_s1 : disk_Disk) => optC r23.2 (none) (fun (r23_s9 : guard_Guard) => thru (Option.bind (F.super_Right x0) (fun (r31 : Bool) => Option.bind (F.law11_right x0) (fun (r33 : Bool) => if !(r31 == r33) then (some (.inr (false))) else (some (.inl ()))))) (fun x => F.law11_SuperSaves.r1 x0 r23_s1 r23_s9))))
set_option maxRecDepth 100000 in
set_option maxHeartbeats 4000000 in
theorem c_law11_SuperSaves (I : Hl) (x0 : super_Super) (res : Bool) (hF : F.law11_SuperSaves x0 = some res) : Tr Tryz.prog 3 [.agg #[.int .i64 x0.Gen, .int .i64 x0.Boot, .int .i64 x0.Side, .int .i64 x0.Seed]] [imm I] (fun r H' => r = .bool res ∧ H' = [imm I]) := by
  unfold F.law11_SuperSaves at hF
  refine tr_of_cw (fn := Tryz.f3) Tryz.func3 rfl (Nat.le_of_ble_eq_true rfl) 89 rfl fun F0 w0 => ?_
  refine cw_keep [0] (L' := [(0, .agg #[.int .i64 x0.Gen, .int .i64 x0.Boot, .int .i64 x0.Side, .int .i64 x0.Seed])]) rfl ?_
  refine cw_state (S' := SAT w0 ([imm I] ++ F0)) (fun w hs => hs) ?_
  refine cw_seq ?_
  refine cw_region ?_
  refine ow_pw rfl (pw_box (cs := #[.int .i64 x0.Gen, .int .i64 x0.Boot, .int .i64 x0.Side, .int .i64 x0.Seed]) rfl rfl rfl rfl rfl rfl fun b21 => nw_ow ?_)
  refine ow_vals 1 (j := 2) [1] [(1, .pointer (some ⟨b21, 0, none⟩))] rfl (by kernel_rfl) ?_
  refine ow_end rfl ?_
  refine ew_then ?_
  refine cw_seq ?_
  refine cw_region ?_
  obtain ⟨r23, h24, hF⟩ := bind_some hF
  refine ow_pw rfl (pw_call (F := [pt b21 #[.int .i64 x0.Gen, .int .i64 x0.Boot, .int .i64 x0.Side, .int .i64 x0.Seed] 23] ++ F0) rfl rfl rfl rfl rfl rfl rfl (by kernel_rfl) (perm_of_pulls [1] rfl) (c_law11_made _ r23 h24) ?_)
  rintro _ _ (⟨hO, hO1, rfl, rfl⟩ | ⟨r23_s1, r23_b2, r23_p4, r23_c5, r23_b7, r23_s9, r23_b10, hO, hO1, rfl, rfl⟩)
  · rw [hO] at hF
    try dsimp only [optC] at hF
    rw [hO1] at hF
    try dsimp only [optC] at hF
    refine nw_H (H' := [imm I, pt b21 #[.int .i64 x0.Gen, .int .i64 x0.Boot, .int .i64 x0.Side, .int .i64 x0.Seed] 23] ++ F0) rfl (nw_ow ?_)
    refine ow_vals 5 (j := 6) [1, 3, 4] [(1, .pointer (some ⟨b21, 0, none⟩)), (3, .pointer none), (4, .pointer none)] rfl (by kernel_rfl) ?_
    refine ow_end rfl ?_
    refine ew_then ?_
    refine cw_seq ?_
    refine cw_seq ?_
    refine cw_open 13 (SAT w0 ([imm I, pt b21 #[.int .i64 x0.Gen, .int .i64 x0.Boot, .int .i64 x0.Side, .int .i64 x0.Seed] 23])) (by kernel_rfl) (f := 13) rfl (fun w hs => sat_drew hs) ?_
    refine aw_vals [0, 1, 2, 3, 4, 5, 6, 7, 8, 9, 10, 11, 12] (f' := 0) (m' := 8191) [1, 3, 4, 27] [(1, .pointer (some ⟨b21, 0, none⟩)), (3, .pointer none), (4, .pointer none), (27, .bool true)] (fun _ _ _ _ _ h => calm_fin (P := Tryz.prog) (fn := Tryz.f3) _ _ _ _ _ h) (fun w hs => sat_pulls [0, 0] (G := [] ++ F0) rfl hs) rfl (by kernel_rfl) ?_
    refine aw_keep [1, 3, 4, 27] (L' := [(1, .pointer (some ⟨b21, 0, none⟩)), (3, .pointer none), (4, .pointer none), (27, .bool true)]) rfl ?_
    refine aw_end (by kernel_rfl) ?_
    refine ew_then ?_
    refine cw_cond_t rfl rfl rfl ?_
    refine cw_seq ?_
    refine cw_region ?_
    refine ow_vals 1 (j := 1) [2] [(2, .bool false)] rfl (by kernel_rfl) ?_
    refine ow_end rfl ?_
    refine ew_then ?_
    refine cw_ret ?_
    refine ew_then_ret ?_
    have hR := Option.some.inj hF
    subst hR
    exact fin1 (H1 := [imm I]) (fun w hs => sat_to [1, 0] 1 rfl hs) rfl (rr_tmp rfl) ⟨rfl, rfl⟩
  rw [hO] at hF
  try dsimp only [optC] at hF
  rw [hO1] at hF
  try dsimp only [optC] at hF
  refine nw_H (H' := [imm I, pt r23_b2 #[.slice r23_p4 r23_s1.sure_.length r23_c5, .map (some r23_b7), .bool r23_s1.off_, .bool r23_s1.armed_, .int .i64 r23_s1.left_, .int .u64 r23_s1.fall_.Keep, .int .i64 r23_s1.fall_.Tear, .int .i64 r23_s1.acts_, .int .i64 r23_s1.falls_] 65, pt r23_b10 #[.pointer (some ⟨r23_b2, 0, none⟩), .int .i64 r23_s9.boot_, .int .i64 r23_s9.n_] 76, own e_disk_sector 86 r23_p4 r23_c5 r23_s1.sure_, mpo (kInt .i64) (fun x : disk_sector => Value.agg #[.string x.s_, .int .i64 x.at_]) r23_b7 r23_s1.wait_, pt b21 #[.int .i64 x0.Gen, .int .i64 x0.Boot, .int .i64 x0.Side, .int .i64 x0.Seed] 23] ++ F0) rfl (nw_ow ?_)
  refine ow_vals 5 (j := 6) [1, 3, 4] [(1, .pointer (some ⟨b21, 0, none⟩)), (3, .pointer (some ⟨r23_b2, 0, none⟩)), (4, .pointer (some ⟨r23_b10, 0, none⟩))] rfl (by kernel_rfl) ?_
  refine ow_end rfl ?_
  refine ew_then ?_
  obtain ⟨v30, hF, hK30⟩ := thru_some hF
  refine cw_mid (fun a w => .inl () = v30 ∧ Fr 89 [(1, .pointer (some ⟨b21, 0, none⟩)), (3, .pointer (some ⟨r23_b2, 0, none⟩)), (4, .pointer (some ⟨r23_b10, 0, none⟩))] a ∧ SAT w0 ([imm I, pt r23_b2 #[.slice r23_p4 r23_s1.sure_.length r23_c5, .map (some r23_b7), .bool r23_s1.off_, .bool r23_s1.armed_, .int .i64 r23_s1.left_, .int .u64 r23_s1.fall_.Keep, .int .i64 r23_s1.fall_.Tear, .int .i64 r23_s1.acts_, .int .i64 r23_s1.falls_] 65, pt r23_b10 #[.pointer (some ⟨r23_b2, 0, none⟩), .int .i64 r23_s9.boot_, .int .i64 r23_s9.n_] 76, pt b21 #[.int .i64 x0.Gen, .int .i64 x0.Boot, .int .i64 x0.Side, .int .i64 x0.Seed] 23, own e_disk_sector 86 r23_p4 r23_c5 r23_s1.sure_, mpo (kInt .i64) (fun x : disk_sector => Value.agg #[.string x.s_, .int .i64 x.at_]) r23_b7 r23_s1.wait_] ++ F0) w) ?_ ?_
  · refine cw_seq ?_
    refine cw_open 13 (SAT w0 ([imm I, pt r23_b2 #[.slice r23_p4 r23_s1.sure_.length r23_c5, .map (some r23_b7), .bool r23_s1.off_, .bool r23_s1.armed_, .int .i64 r23_s1.left_, .int .u64 r23_s1.fall_.Keep, .int .i64 r23_s1.fall_.Tear, .int .i64 r23_s1.acts_, .int .i64 r23_s1.falls_] 65, pt r23_b10 #[.pointer (some ⟨r23_b2, 0, none⟩), .int .i64 r23_s9.boot_, .int .i64 r23_s9.n_] 76, own e_disk_sector 86 r23_p4 r23_c5 r23_s1.sure_, mpo (kInt .i64) (fun x : disk_sector => Value.agg #[.string x.s_, .int .i64 x.at_]) r23_b7 r23_s1.wait_, pt b21 #[.int .i64 x0.Gen, .int .i64 x0.Boot, .int .i64 x0.Side, .int .i64 x0.Seed] 23])) (by kernel_rfl) (f := 13) rfl (fun w hs => sat_drew hs) ?_
    refine aw_vals [0, 1, 2, 3, 4, 5, 6] (f' := 6) (m' := 127) [1, 3, 4, 21] [(1, .pointer (some ⟨b21, 0, none⟩)), (3, .pointer (some ⟨r23_b2, 0, none⟩)), (4, .pointer (some ⟨r23_b10, 0, none⟩)), (21, .bool false)] (fun _ _ _ _ _ h => calm_fin (P := Tryz.prog) (fn := Tryz.f3) _ _ _ _ _ h) (fun w hs => sat_pulls [0, 0, 0, 0, 0, 0] (G := [] ++ F0) rfl hs) rfl (by kernel_rfl) ?_
    refine aw_quiet 7 (m' := 255) (v := .agg #[.int .i64 x0.Gen, .int .i64 x0.Boot, .int .i64 x0.Side, .int .i64 x0.Seed]) 0 [] rfl rfl rfl rfl (by kernel_rfl) (by kernel_rfl) (by kernel_rfl) (fun _ _ _ _ _ h => calm_fin (P := Tryz.prog) (fn := Tryz.f3) _ _ _ _ _ h) (fun w hs => sat_pulls [0, 0, 0, 0, 0, 0] (G := [] ++ F0) rfl hs) (q_load 5 rfl rfl rfl (by kernel_rfl)) ?_
    refine aw_quiet 9 (m' := 767) (v := .agg #[.int .i64 x0.Gen, .int .i64 x0.Boot, .int .i64 x0.Side, .int .i64 x0.Seed]) 0 [] rfl rfl rfl rfl (by kernel_rfl) (by kernel_rfl) (by kernel_rfl) (fun _ _ _ _ _ h => calm_fin (P := Tryz.prog) (fn := Tryz.f3) _ _ _ _ _ h) (fun w hs => sat_pulls [0, 0, 0, 0, 0, 0] (G := [] ++ F0) rfl hs) (q_load 5 rfl rfl rfl (by kernel_rfl)) ?_
    obtain ⟨r31, h32, hF⟩ := bind_some hF
    refine aw_only 8 (m' := 1023) (by kernel_rfl) (by kernel_rfl) (pw_call (F := [pt r23_b2 #[.slice r23_p4 r23_s1.sure_.length r23_c5, .map (some r23_b7), .bool r23_s1.off_, .bool r23_s1.armed_, .int .i64 r23_s1.left_, .int .u64 r23_s1.fall_.Keep, .int .i64 r23_s1.fall_.Tear, .int .i64 r23_s1.acts_, .int .i64 r23_s1.falls_] 65, pt r23_b10 #[.pointer (some ⟨r23_b2, 0, none⟩), .int .i64 r23_s9.boot_, .int .i64 r23_s9.n_] 76, own e_disk_sector 86 r23_p4 r23_c5 r23_s1.sure_, mpo (kInt .i64) (fun x : disk_sector => Value.agg #[.string x.s_, .int .i64 x.at_]) r23_b7 r23_s1.wait_, pt b21 #[.int .i64 x0.Gen, .int .i64 x0.Boot, .int .i64 x0.Side, .int .i64 x0.Seed] 23] ++ F0) rfl rfl rfl rfl rfl rfl rfl (by kernel_rfl) (perm_of_pulls [0] rfl) (c_super_Right _ x0 r31 h32) ?_)
    rintro _ _ ⟨rfl, rfl⟩
    refine nw_H (H' := [imm I, pt r23_b2 #[.slice r23_p4 r23_s1.sure_.length r23_c5, .map (some r23_b7), .bool r23_s1.off_, .bool r23_s1.armed_, .int .i64 r23_s1.left_, .int .u64 r23_s1.fall_.Keep, .int .i64 r23_s1.fall_.Tear, .int .i64 r23_s1.acts_, .int .i64 r23_s1.falls_] 65, pt r23_b10 #[.pointer (some ⟨r23_b2, 0, none⟩), .int .i64 r23_s9.boot_, .int .i64 r23_s9.n_] 76, own e_disk_sector 86 r23_p4 r23_c5 r23_s1.sure_, mpo (kInt .i64) (fun x : disk_sector => Value.agg #[.string x.s_, .int .i64 x.at_]) r23_b7 r23_s1.wait_, pt b21 #[.int .i64 x0.Gen, .int .i64 x0.Boot, .int .i64 x0.Side, .int .i64 x0.Seed] 23] ++ F0) rfl (aw_next (fun w hs => sat_pulls [0, 0, 0, 0, 0, 0] (G := [] ++ F0) rfl hs) ?_)
    obtain ⟨r33, h34, hF⟩ := bind_some hF
    refine aw_only 10 (m' := 2047) (by kernel_rfl) (by kernel_rfl) (pw_call (F := [pt r23_b2 #[.slice r23_p4 r23_s1.sure_.length r23_c5, .map (some r23_b7), .bool r23_s1.off_, .bool r23_s1.armed_, .int .i64 r23_s1.left_, .int .u64 r23_s1.fall_.Keep, .int .i64 r23_s1.fall_.Tear, .int .i64 r23_s1.acts_, .int .i64 r23_s1.falls_] 65, pt r23_b10 #[.pointer (some ⟨r23_b2, 0, none⟩), .int .i64 r23_s9.boot_, .int .i64 r23_s9.n_] 76, own e_disk_sector 86 r23_p4 r23_c5 r23_s1.sure_, mpo (kInt .i64) (fun x : disk_sector => Value.agg #[.string x.s_, .int .i64 x.at_]) r23_b7 r23_s1.wait_, pt b21 #[.int .i64 x0.Gen, .int .i64 x0.Boot, .int .i64 x0.Side, .int .i64 x0.Seed] 23] ++ F0) rfl rfl rfl rfl rfl rfl rfl (by kernel_rfl) (perm_of_pulls [0] rfl) (c_law11_right _ x0 r33 h34) ?_)
    rintro _ _ ⟨rfl, rfl⟩
    refine nw_H (H' := [imm I, pt r23_b2 #[.slice r23_p4 r23_s1.sure_.length r23_c5, .map (some r23_b7), .bool r23_s1.off_, .bool r23_s1.armed_, .int .i64 r23_s1.left_, .int .u64 r23_s1.fall_.Keep, .int .i64 r23_s1.fall_.Tear, .int .i64 r23_s1.acts_, .int .i64 r23_s1.falls_] 65, pt r23_b10 #[.pointer (some ⟨r23_b2, 0, none⟩), .int .i64 r23_s9.boot_, .int .i64 r23_s9.n_] 76, own e_disk_sector 86 r23_p4 r23_c5 r23_s1.sure_, mpo (kInt .i64) (fun x : disk_sector => Value.agg #[.string x.s_, .int .i64 x.at_]) r23_b7 r23_s1.wait_, pt b21 #[.int .i64 x0.Gen, .int .i64 x0.Boot, .int .i64 x0.Side, .int .i64 x0.Seed] 23] ++ F0) rfl (aw_next (fun w hs => sat_pulls [0, 0, 0, 0, 0, 0] (G := [] ++ F0) rfl hs) ?_)
    refine aw_vals [11, 12] (f' := 0) (m' := 8191) [1, 3, 4, 27] [(1, .pointer (some ⟨b21, 0, none⟩)), (3, .pointer (some ⟨r23_b2, 0, none⟩)), (4, .pointer (some ⟨r23_b10, 0, none⟩)), (27, .bool (!(r31 == r33)))] (fun _ _ _ _ _ h => calm_fin (P := Tryz.prog) (fn := Tryz.f3) _ _ _ _ _ h) (fun w hs => sat_pulls [0, 0, 0, 0, 0, 0] (G := [] ++ F0) rfl hs) rfl (by kernel_rfl) ?_
    refine aw_keep [1, 3, 4, 27] (L' := [(1, .pointer (some ⟨b21, 0, none⟩)), (3, .pointer (some ⟨r23_b2, 0, none⟩)), (4, .pointer (some ⟨r23_b10, 0, none⟩)), (27, .bool (!(r31 == r33)))]) rfl ?_
    refine aw_end (by kernel_rfl) ?_
    refine ew_then ?_
    rcases if_some hF with ⟨h35, hF⟩ | ⟨h35, hF⟩
    · refine cw_cond_t rfl rfl h35 ?_
      refine cw_seq ?_
      refine cw_region ?_
      refine ow_vals 1 (j := 1) [2] [(2, .bool false)] rfl (by kernel_rfl) ?_
      refine ow_end rfl ?_
      refine ew_then ?_
      refine cw_ret ?_
      refine ew_then_ret ?_
      have hR := Option.some.inj hF
      subst hR
      have hR := hK30
      try dsimp only [Thru] at hR
      subst hR
      exact fin1 (H1 := [imm I]) (fun w hs => sat_to [1, 1, 1, 1, 1, 0] 5 rfl hs) rfl (rr_tmp rfl) ⟨rfl, rfl⟩
    refine cw_cond_f rfl rfl h35 ?_
    refine cw_skip ?_
    have hR := Option.some.inj hF
    exact fun a w hf hs => ⟨hR, hf.keep [1, 3, 4], sat_to [0, 0, 0, 2, 0, 0] 0 rfl hs⟩
  rintro a w ⟨hv, hf, hs⟩
  subst hv
  replace hF := hK30
  clear hK30
  try dsimp only [Thru] at hF
  revert a w
  show CW _ _ _ 89 [(1, .pointer (some ⟨b21, 0, none⟩)), (3, .pointer (some ⟨r23_b2, 0, none⟩)), (4, .pointer (some ⟨r23_b10, 0, none⟩))] (SAT w0 ([imm I, pt r23_b2 #[.slice r23_p4 r23_s1.sure_.length r23_c5, .map (some r23_b7), .bool r23_s1.off_, .bool r23_s1.armed_, .int .i64 r23_s1.left_, .int .u64 r23_s1.fall_.Keep, .int .i64 r23_s1.fall_.Tear, .int .i64 r23_s1.acts_, .int .i64 r23_s1.falls_] 65, pt r23_b10 #[.pointer (some ⟨r23_b2, 0, none⟩), .int .i64 r23_s9.boot_, .int .i64 r23_s9.n_] 76, pt b21 #[.int .i64 x0.Gen, .int .i64 x0.Boot, .int .i64 x0.Side, .int .i64 x0.Seed] 23, own e_disk_sector 86 r23_p4 r23_c5 r23_s1.sure_, mpo (kInt .i64) (fun x : disk_sector => Value.agg #[.string x.s_, .int .i64 x.at_]) r23_b7 r23_s1.wait_] ++ F0))
  unfold F.law11_SuperSaves.r1 at hF
  refine cw_seq ?_
  refine cw_region ?_
  refine ow_vals 1 (j := 1) [1, 3, 28] [(1, .pointer (some ⟨b21, 0, none⟩)), (3, .pointer (some ⟨r23_b2, 0, none⟩)), (28, .pointer (some ⟨r23_b10, 0, none⟩))] rfl (by kernel_rfl) ?_
  refine ow_pw rfl (pw_quiet (v := .agg #[.int .i64 x0.Gen, .int .i64 x0.Boot, .int .i64 x0.Side, .int .i64 x0.Seed]) rfl rfl rfl rfl (q_load 3 rfl rfl rfl (by kernel_rfl)) (nw_ow ?_))
  obtain ⟨r36, h37, hF⟩ := bind_some hF
  refine ow_pw rfl (pw_call (F := [pt b21 #[.int .i64 x0.Gen, .int .i64 x0.Boot, .int .i64 x0.Side, .int .i64 x0.Seed] 23] ++ F0) rfl rfl rfl rfl rfl rfl rfl (by kernel_rfl) (perm_of_pulls [0, 1, 0, 1, 1] rfl) (c_super_Save _ x0 r23_s9 r23_s1 r23_b10 r23_p4 r23_c5 r23_b7 r23_b2 r36 h37) ?_)
  rintro _ _ ⟨r36_p1, r36_c2, r36_b4, rfl, rfl⟩
  refine nw_H (H' := [imm I, pt r23_b10 #[.pointer (some ⟨r23_b2, 0, none⟩), .int .i64 r36.2.1.boot_, .int .i64 r36.2.1.n_] 76, pt r23_b2 #[.slice r36_p1 r36.2.2.sure_.length r36_c2, .map (some r36_b4), .bool r36.2.2.off_, .bool r36.2.2.armed_, .int .i64 r36.2.2.left_, .int .u64 r36.2.2.fall_.Keep, .int .i64 r36.2.2.fall_.Tear, .int .i64 r36.2.2.acts_, .int .i64 r36.2.2.falls_] 65, own e_disk_sector 86 r36_p1 r36_c2 r36.2.2.sure_, mpo (kInt .i64) (fun x : disk_sector => Value.agg #[.string x.s_, .int .i64 x.at_]) r36_b4 r36.2.2.wait_, pt b21 #[.int .i64 x0.Gen, .int .i64 x0.Boot, .int .i64 x0.Side, .int .i64 x0.Seed] 23] ++ F0) rfl (nw_ow ?_)
  refine ow_vals 1 (j := 4) [1, 3, 5] [(1, .pointer (some ⟨b21, 0, none⟩)), (3, .pointer (some ⟨r23_b2, 0, none⟩)), (5, .int .i64 r36.1)] rfl (by kernel_rfl) ?_
  refine ow_end rfl ?_
  refine ew_then ?_
  obtain ⟨v40, hF, hK40⟩ := thru_some hF
  refine cw_mid (fun a w => .inl () = v40 ∧ Fr 89 [(1, .pointer (some ⟨b21, 0, none⟩)), (3, .pointer (some ⟨r23_b2, 0, none⟩)), (5, .int .i64 r36.1)] a ∧ SAT w0 ([imm I, pt r23_b10 #[.pointer (some ⟨r23_b2, 0, none⟩), .int .i64 r36.2.1.boot_, .int .i64 r36.2.1.n_] 76, pt r23_b2 #[.slice r36_p1 r36.2.2.sure_.length r36_c2, .map (some r36_b4), .bool r36.2.2.off_, .bool r36.2.2.armed_, .int .i64 r36.2.2.left_, .int .u64 r36.2.2.fall_.Keep, .int .i64 r36.2.2.fall_.Tear, .int .i64 r36.2.2.acts_, .int .i64 r36.2.2.falls_] 65, pt b21 #[.int .i64 x0.Gen, .int .i64 x0.Boot, .int .i64 x0.Side, .int .i64 x0.Seed] 23, own e_disk_sector 86 r36_p1 r36_c2 r36.2.2.sure_, mpo (kInt .i64) (fun x : disk_sector => Value.agg #[.string x.s_, .int .i64 x.at_]) r36_b4 r36.2.2.wait_] ++ F0) w) ?_ ?_
  · refine cw_seq ?_
    refine cw_region ?_
    refine ow_pw rfl (pw_quiet (v := .agg #[.int .i64 x0.Gen, .int .i64 x0.Boot, .int .i64 x0.Side, .int .i64 x0.Seed]) rfl rfl rfl rfl (q_load 5 rfl rfl rfl (by kernel_rfl)) (nw_ow ?_))
    obtain ⟨r41, h42, hF⟩ := bind_some hF
    refine ow_pw rfl (pw_call (F := [pt r23_b10 #[.pointer (some ⟨r23_b2, 0, none⟩), .int .i64 r36.2.1.boot_, .int .i64 r36.2.1.n_] 76, pt r23_b2 #[.slice r36_p1 r36.2.2.sure_.length r36_c2, .map (some r36_b4), .bool r36.2.2.off_, .bool r36.2.2.armed_, .int .i64 r36.2.2.left_, .int .u64 r36.2.2.fall_.Keep, .int .i64 r36.2.2.fall_.Tear, .int .i64 r36.2.2.acts_, .int .i64 r36.2.2.falls_] 65, own e_disk_sector 86 r36_p1 r36_c2 r36.2.2.sure_, mpo (kInt .i64) (fun x : disk_sector => Value.agg #[.string x.s_, .int .i64 x.at_]) r36_b4 r36.2.2.wait_, pt b21 #[.int .i64 x0.Gen, .int .i64 x0.Boot, .int .i64 x0.Side, .int .i64 x0.Seed] 23] ++ F0) rfl rfl rfl rfl rfl rfl rfl (by kernel_rfl) (perm_of_pulls [0] rfl) (c_law11_right _ x0 r41 h42) ?_)
    rintro _ _ ⟨rfl, rfl⟩
    refine nw_H (H' := [imm I, pt r23_b10 #[.pointer (some ⟨r23_b2, 0, none⟩), .int .i64 r36.2.1.boot_, .int .i64 r36.2.1.n_] 76, pt r23_b2 #[.slice r36_p1 r36.2.2.sure_.length r36_c2, .map (some r36_b4), .bool r36.2.2.off_, .bool r36.2.2.armed_, .int .i64 r36.2.2.left_, .int .u64 r36.2.2.fall_.Keep, .int .i64 r36.2.2.fall_.Tear, .int .i64 r36.2.2.acts_, .int .i64 r36.2.2.falls_] 65, own e_disk_sector 86 r36_p1 r36_c2 r36.2.2.sure_, mpo (kInt .i64) (fun x : disk_sector => Value.agg #[.string x.s_, .int .i64 x.at_]) r36_b4 r36.2.2.wait_, pt b21 #[.int .i64 x0.Gen, .int .i64 x0.Boot, .int .i64 x0.Side, .int .i64 x0.Seed] 23] ++ F0) rfl (nw_ow ?_)
    refine ow_vals 1 (j := 3) [1, 3, 5, 33] [(1, .pointer (some ⟨b21, 0, none⟩)), (3, .pointer (some ⟨r23_b2, 0, none⟩)), (5, .int .i64 r36.1), (33, .bool (!r41))] rfl (by kernel_rfl) ?_
    refine ow_end rfl ?_
    refine ew_then ?_
    rcases if_some hF with ⟨h43, hF⟩ | ⟨h43, hF⟩
    · refine cw_cond_t rfl rfl h43 ?_
      refine cw_seq ?_
      refine cw_region ?_
      refine ow_vals 3 (j := 3) [3, 36] [(3, .pointer (some ⟨r23_b2, 0, none⟩)), (36, .bool (r36.1 == 1))] rfl (by kernel_rfl) ?_
      rcases if_some hF with ⟨h44, hF⟩ | ⟨h44, hF⟩
      · refine ow_slots (L' := [(3, .pointer (some ⟨r23_b2, 0, none⟩)), (36, .bool true)]) (by rw [h44]) ?_
        refine ow_vals 1 (j := 4) [36, 37] [(36, .bool true), (37, .pointer (some ⟨r23_b2, 0, none⟩))] rfl (by kernel_rfl) ?_
        obtain ⟨r45, h46, hF⟩ := bind_some hF
        refine ow_pw rfl (pw_call (F := [pt r23_b10 #[.pointer (some ⟨r23_b2, 0, none⟩), .int .i64 r36.2.1.boot_, .int .i64 r36.2.1.n_] 76, pt b21 #[.int .i64 x0.Gen, .int .i64 x0.Boot, .int .i64 x0.Side, .int .i64 x0.Seed] 23] ++ F0) rfl rfl rfl rfl rfl rfl rfl (by kernel_rfl) (perm_of_pulls [0, 1, 1, 1] rfl) (c_disk_Disk_Waiting _ r36.2.2 r36_p1 r36_c2 r36_b4 r23_b2 r45 h46) ?_)
        rintro _ _ ⟨r45_p1, r45_c2, rfl, rfl⟩
        refine nw_H (H' := [imm I, pt r23_b2 #[.slice r36_p1 r36.2.2.sure_.length r36_c2, .map (some r36_b4), .bool r36.2.2.off_, .bool r36.2.2.armed_, .int .i64 r36.2.2.left_, .int .u64 r36.2.2.fall_.Keep, .int .i64 r36.2.2.fall_.Tear, .int .i64 r36.2.2.acts_, .int .i64 r36.2.2.falls_] 65, own (eInt .i64) 3 r45_p1 r45_c2 r45, own e_disk_sector 86 r36_p1 r36_c2 r36.2.2.sure_, mpo (kInt .i64) (fun x : disk_sector => Value.agg #[.string x.s_, .int .i64 x.at_]) r36_b4 r36.2.2.wait_, pt r23_b10 #[.pointer (some ⟨r23_b2, 0, none⟩), .int .i64 r36.2.1.boot_, .int .i64 r36.2.1.n_] 76, pt b21 #[.int .i64 x0.Gen, .int .i64 x0.Boot, .int .i64 x0.Side, .int .i64 x0.Seed] 23] ++ F0) rfl (nw_ow ?_)
        refine ow_vals 4 (j := 9) [42] [(42, .bool ((r45.length : Int) == 0))] rfl (by kernel_rfl) ?_
        rcases if_some hF with ⟨h48, hF⟩ | ⟨h48, hF⟩
        · refine ow_slots (L' := [(42, .bool true)]) (by rw [h48]) ?_
          obtain ⟨r49, h50, hF⟩ := bind_some hF
          refine ow_pw rfl (pw_call (F := [pt r23_b2 #[.slice r36_p1 r36.2.2.sure_.length r36_c2, .map (some r36_b4), .bool r36.2.2.off_, .bool r36.2.2.armed_, .int .i64 r36.2.2.left_, .int .u64 r36.2.2.fall_.Keep, .int .i64 r36.2.2.fall_.Tear, .int .i64 r36.2.2.acts_, .int .i64 r36.2.2.falls_] 65, own (eInt .i64) 3 r45_p1 r45_c2 r45, own e_disk_sector 86 r36_p1 r36_c2 r36.2.2.sure_, mpo (kInt .i64) (fun x : disk_sector => Value.agg #[.string x.s_, .int .i64 x.at_]) r36_b4 r36.2.2.wait_, pt r23_b10 #[.pointer (some ⟨r23_b2, 0, none⟩), .int .i64 r36.2.1.boot_, .int .i64 r36.2.1.n_] 76, pt b21 #[.int .i64 x0.Gen, .int .i64 x0.Boot, .int .i64 x0.Side, .int .i64 x0.Seed] 23] ++ F0) rfl rfl rfl rfl rfl rfl rfl (by kernel_rfl) (perm_of_pulls [0] rfl) (c_law11_awake _ r49 h50) ?_)
          rintro _ _ ⟨rfl, rfl⟩
          refine nw_H (H' := [imm I, pt r23_b2 #[.slice r36_p1 r36.2.2.sure_.length r36_c2, .map (some r36_b4), .bool r36.2.2.off_, .bool r36.2.2.armed_, .int .i64 r36.2.2.left_, .int .u64 r36.2.2.fall_.Keep, .int .i64 r36.2.2.fall_.Tear, .int .i64 r36.2.2.acts_, .int .i64 r36.2.2.falls_] 65, own (eInt .i64) 3 r45_p1 r45_c2 r45, own e_disk_sector 86 r36_p1 r36_c2 r36.2.2.sure_, mpo (kInt .i64) (fun x : disk_sector => Value.agg #[.string x.s_, .int .i64 x.at_]) r36_b4 r36.2.2.wait_, pt r23_b10 #[.pointer (some ⟨r23_b2, 0, none⟩), .int .i64 r36.2.1.boot_, .int .i64 r36.2.1.n_] 76, pt b21 #[.int .i64 x0.Gen, .int .i64 x0.Boot, .int .i64 x0.Side, .int .i64 x0.Seed] 23] ++ F0) rfl (nw_ow ?_)
          refine ow_vals 2 (j := 12) [2] [(2, .bool r49)] rfl (by kernel_rfl) ?_
          refine ow_end rfl ?_
          refine ew_then ?_
          refine cw_ret ?_
          refine ew_then_ret ?_
          have hR := Option.some.inj hF
          subst hR
          have hR := hK40
          try dsimp only [Thru] at hR
          subst hR
          exact fin1 (H1 := [imm I]) (fun w hs => sat_to [1, 1, 1, 1, 1, 1, 0] 6 rfl hs) rfl (rr_tmp rfl) ⟨rfl, rfl⟩
        refine ow_slots (L' := [(42, .bool false)]) (by rw [h48]) ?_
        refine ow_vals 3 (j := 12) [2] [(2, .bool false)] rfl (by kernel_rfl) ?_
        refine ow_end rfl ?_
        refine ew_then ?_
        refine cw_ret ?_
        refine ew_then_ret ?_
        have hR := Option.some.inj hF
        subst hR
        have hR := hK40
        try dsimp only [Thru] at hR
        subst hR
        exact fin1 (H1 := [imm I]) (fun w hs => sat_to [1, 1, 1, 1, 1, 1, 0] 6 rfl hs) rfl (rr_tmp rfl) ⟨rfl, rfl⟩
      refine ow_slots (L' := [(3, .pointer (some ⟨r23_b2, 0, none⟩)), (36, .bool false)]) (by rw [h44]) ?_
      refine ow_vals 9 (j := 12) [2] [(2, .bool false)] rfl (by kernel_rfl) ?_
      refine ow_end rfl ?_
      refine ew_then ?_
      refine cw_ret ?_
      refine ew_then_ret ?_
      have hR := Option.some.inj hF
      subst hR
      have hR := hK40
      try dsimp only [Thru] at hR
      subst hR
      exact fin1 (H1 := [imm I]) (fun w hs => sat_to [1, 1, 1, 1, 1, 0] 5 rfl hs) rfl (rr_tmp rfl) ⟨rfl, rfl⟩
    refine cw_cond_f rfl rfl h43 ?_
    refine cw_skip ?_
    have hR := Option.some.inj hF
    exact fun a w hf hs => ⟨hR, hf.keep [1, 3, 5], sat_to [0, 0, 0, 2, 0, 0] 0 rfl hs⟩
  rintro a w ⟨hv, hf, hs⟩
  subst hv
  replace hF := hK40
  clear hK40
  try dsimp only [Thru] at hF
  revert a w
  show CW _ _ _ 89 [(1, .pointer (some ⟨b21, 0, none⟩)), (3, .pointer (some ⟨r23_b2, 0, none⟩)), (5, .int .i64 r36.1)] (SAT w0 ([imm I, pt r23_b10 #[.pointer (some ⟨r23_b2, 0, none⟩), .int .i64 r36.2.1.boot_, .int .i64 r36.2.1.n_] 76, pt r23_b2 #[.slice r36_p1 r36.2.2.sure_.length r36_c2, .map (some r36_b4), .bool r36.2.2.off_, .bool r36.2.2.armed_, .int .i64 r36.2.2.left_, .int .u64 r36.2.2.fall_.Keep, .int .i64 r36.2.2.fall_.Tear, .int .i64 r36.2.2.acts_, .int .i64 r36.2.2.falls_] 65, pt b21 #[.int .i64 x0.Gen, .int .i64 x0.Boot, .int .i64 x0.Side, .int .i64 x0.Seed] 23, own e_disk_sector 86 r36_p1 r36_c2 r36.2.2.sure_, mpo (kInt .i64) (fun x : disk_sector => Value.agg #[.string x.s_, .int .i64 x.at_]) r36_b4 r36.2.2.wait_] ++ F0))
  unfold F.law11_SuperSaves.r2 at hF
  refine cw_seq ?_
  refine cw_region ?_
  refine ow_vals 2 (j := 2) [1, 3, 5, 46, 47] [(1, .pointer (some ⟨b21, 0, none⟩)), (3, .pointer (some ⟨r23_b2, 0, none⟩)), (5, .int .i64 r36.1), (46, .pointer (some ⟨r23_b2, 0, none⟩)), (47, .pointer (some ⟨b21, 0, none⟩))] rfl (by kernel_rfl) ?_
  refine ow_pw rfl (pw_quiet (v := .int .i64 x0.Gen) rfl rfl rfl rfl (q_load 3 rfl rfl rfl (by kernel_rfl)) (nw_ow ?_))
  refine ow_vals 1 (j := 4) [1, 3, 5, 46, 49] [(1, .pointer (some ⟨b21, 0, none⟩)), (3, .pointer (some ⟨r23_b2, 0, none⟩)), (5, .int .i64 r36.1), (46, .pointer (some ⟨r23_b2, 0, none⟩)), (49, .int .i64 (x0.Gen.tmod 2))] rfl (by kernel_rfl) ?_
  obtain ⟨r51, h52, hF⟩ := bind_some hF
  refine ow_pw rfl (pw_call (F := [pt r23_b10 #[.pointer (some ⟨r23_b2, 0, none⟩), .int .i64 r36.2.1.boot_, .int .i64 r36.2.1.n_] 76, pt b21 #[.int .i64 x0.Gen, .int .i64 x0.Boot, .int .i64 x0.Side, .int .i64 x0.Seed] 23] ++ F0) rfl rfl rfl rfl rfl rfl rfl (by kernel_rfl) (perm_of_pulls [0, 1, 2, 2] rfl) (c_guard_Read _ (x0.Gen.tmod 2) r36.2.2 r36_p1 r36_c2 r36_b4 r23_b2 r51 h52) ?_)
  rintro _ _ ⟨rfl, rfl⟩
  refine nw_H (H' := [imm I, pt r23_b2 #[.slice r36_p1 r36.2.2.sure_.length r36_c2, .map (some r36_b4), .bool r36.2.2.off_, .bool r36.2.2.armed_, .int .i64 r36.2.2.left_, .int .u64 r36.2.2.fall_.Keep, .int .i64 r36.2.2.fall_.Tear, .int .i64 r36.2.2.acts_, .int .i64 r36.2.2.falls_] 65, own e_disk_sector 86 r36_p1 r36_c2 r36.2.2.sure_, mpo (kInt .i64) (fun x : disk_sector => Value.agg #[.string x.s_, .int .i64 x.at_]) r36_b4 r36.2.2.wait_, pt r23_b10 #[.pointer (some ⟨r23_b2, 0, none⟩), .int .i64 r36.2.1.boot_, .int .i64 r36.2.1.n_] 76, pt b21 #[.int .i64 x0.Gen, .int .i64 x0.Boot, .int .i64 x0.Side, .int .i64 x0.Seed] 23] ++ F0) rfl (nw_ow ?_)
  refine ow_vals 7 (j := 12) [1, 3, 5, 6, 8] [(1, .pointer (some ⟨b21, 0, none⟩)), (3, .pointer (some ⟨r23_b2, 0, none⟩)), (5, .int .i64 r36.1), (6, .string r51.1), (8, .int .i64 r51.2.2)] rfl (by kernel_rfl) ?_
  refine ow_end rfl ?_
  refine ew_then ?_
  refine cw_seq ?_
  refine cw_region ?_
  refine ow_vals 1 (j := 1) [1, 3, 5, 6, 8, 55] [(1, .pointer (some ⟨b21, 0, none⟩)), (3, .pointer (some ⟨r23_b2, 0, none⟩)), (5, .int .i64 r36.1), (6, .string r51.1), (8, .int .i64 r51.2.2), (55, .pointer (some ⟨r23_b2, 0, none⟩))] rfl (by kernel_rfl) ?_
  obtain ⟨r53, h54, hF⟩ := bind_some hF
  refine ow_pw rfl (pw_call (F := [pt r23_b10 #[.pointer (some ⟨r23_b2, 0, none⟩), .int .i64 r36.2.1.boot_, .int .i64 r36.2.1.n_] 76, pt b21 #[.int .i64 x0.Gen, .int .i64 x0.Boot, .int .i64 x0.Side, .int .i64 x0.Seed] 23] ++ F0) rfl rfl rfl rfl rfl rfl rfl (by kernel_rfl) (perm_of_pulls [0, 0, 0, 0] rfl) (c_super_Load _ r36.2.2 r36_p1 r36_c2 r36_b4 r23_b2 r53 h54) ?_)
  rintro _ _ ⟨rfl, rfl⟩
  refine nw_H (H' := [imm I, pt r23_b2 #[.slice r36_p1 r36.2.2.sure_.length r36_c2, .map (some r36_b4), .bool r36.2.2.off_, .bool r36.2.2.armed_, .int .i64 r36.2.2.left_, .int .u64 r36.2.2.fall_.Keep, .int .i64 r36.2.2.fall_.Tear, .int .i64 r36.2.2.acts_, .int .i64 r36.2.2.falls_] 65, own e_disk_sector 86 r36_p1 r36_c2 r36.2.2.sure_, mpo (kInt .i64) (fun x : disk_sector => Value.agg #[.string x.s_, .int .i64 x.at_]) r36_b4 r36.2.2.wait_, pt r23_b10 #[.pointer (some ⟨r23_b2, 0, none⟩), .int .i64 r36.2.1.boot_, .int .i64 r36.2.1.n_] 76, pt b21 #[.int .i64 x0.Gen, .int .i64 x0.Boot, .int .i64 x0.Side, .int .i64 x0.Seed] 23] ++ F0) rfl (nw_ow ?_)
  refine ow_vals 3 (j := 5) [1, 3, 5, 6, 8, 57, 58] [(1, .pointer (some ⟨b21, 0, none⟩)), (3, .pointer (some ⟨r23_b2, 0, none⟩)), (5, .int .i64 r36.1), (6, .string r51.1), (8, .int .i64 r51.2.2), (57, .agg #[.int .i64 r53.1.Gen, .int .i64 r53.1.Boot, .int .i64 r53.1.Side, .int .i64 r53.1.Seed]), (58, .int .i64 r53.2)] rfl (by kernel_rfl) ?_
  refine ow_pw rfl (pw_alloc (cs := #[.int .i64 0, .int .i64 0, .int .i64 0, .int .i64 0]) rfl rfl rfl rfl rfl (by kernel_rfl) fun b55 => nw_ow ?_)
  refine ow_pw rfl (pw_store 0 #[.int .i64 r53.1.Gen, .int .i64 r53.1.Boot, .int .i64 r53.1.Side, .int .i64 r53.1.Seed] rfl rfl rfl rfl rfl rfl rfl (by kernel_rfl) (nw_H (H' := [pt b55 #[.int .i64 r53.1.Gen, .int .i64 r53.1.Boot, .int .i64 r53.1.Side, .int .i64 r53.1.Seed] 23, imm I, pt r23_b2 #[.slice r36_p1 r36.2.2.sure_.length r36_c2, .map (some r36_b4), .bool r36.2.2.off_, .bool r36.2.2.armed_, .int .i64 r36.2.2.left_, .int .u64 r36.2.2.fall_.Keep, .int .i64 r36.2.2.fall_.Tear, .int .i64 r36.2.2.acts_, .int .i64 r36.2.2.falls_] 65, own e_disk_sector 86 r36_p1 r36_c2 r36.2.2.sure_, mpo (kInt .i64) (fun x : disk_sector => Value.agg #[.string x.s_, .int .i64 x.at_]) r36_b4 r36.2.2.wait_, pt r23_b10 #[.pointer (some ⟨r23_b2, 0, none⟩), .int .i64 r36.2.1.boot_, .int .i64 r36.2.1.n_] 76, pt b21 #[.int .i64 x0.Gen, .int .i64 x0.Boot, .int .i64 x0.Side, .int .i64 x0.Seed] 23] ++ F0) rfl (nw_ow ?_)))
  refine ow_vals 1 (j := 8) [1, 3, 5, 6, 8, 9, 10] [(1, .pointer (some ⟨b21, 0, none⟩)), (3, .pointer (some ⟨r23_b2, 0, none⟩)), (5, .int .i64 r36.1), (6, .string r51.1), (8, .int .i64 r51.2.2), (9, .pointer (some ⟨b55, 0, none⟩)), (10, .int .i64 r53.2)] rfl (by kernel_rfl) ?_
  refine ow_end rfl ?_
  refine ew_then ?_
  refine cw_seq ?_
  refine cw_region ?_
  refine ow_vals 3 (j := 3) [1, 3, 6, 8, 9, 10, 61] [(1, .pointer (some ⟨b21, 0, none⟩)), (3, .pointer (some ⟨r23_b2, 0, none⟩)), (6, .string r51.1), (8, .int .i64 r51.2.2), (9, .pointer (some ⟨b55, 0, none⟩)), (10, .int .i64 r53.2), (61, .bool (r36.1 == 0))] rfl (by kernel_rfl) ?_
  rcases if_some hF with ⟨h57, hF⟩ | ⟨h57, hF⟩
  · refine ow_slots (L' := [(1, .pointer (some ⟨b21, 0, none⟩)), (3, .pointer (some ⟨r23_b2, 0, none⟩)), (6, .string r51.1), (8, .int .i64 r51.2.2), (9, .pointer (some ⟨b55, 0, none⟩)), (10, .int .i64 r53.2), (61, .bool true)]) (by rw [h57]) ?_
    refine ow_vals 4 (j := 7) [1, 3, 6, 9, 10, 65] [(1, .pointer (some ⟨b21, 0, none⟩)), (3, .pointer (some ⟨r23_b2, 0, none⟩)), (6, .string r51.1), (9, .pointer (some ⟨b55, 0, none⟩)), (10, .int .i64 r53.2), (65, .bool (r51.2.2 == 0))] rfl (by kernel_rfl) ?_
    rcases if_some hF with ⟨h58, hF⟩ | ⟨h58, hF⟩
    · refine ow_slots (L' := [(1, .pointer (some ⟨b21, 0, none⟩)), (3, .pointer (some ⟨r23_b2, 0, none⟩)), (6, .string r51.1), (9, .pointer (some ⟨b55, 0, none⟩)), (10, .int .i64 r53.2), (65, .bool true)]) (by rw [h58]) ?_
      refine ow_vals 1 (j := 8) [1, 3, 9, 10, 65, 66] [(1, .pointer (some ⟨b21, 0, none⟩)), (3, .pointer (some ⟨r23_b2, 0, none⟩)), (9, .pointer (some ⟨b55, 0, none⟩)), (10, .int .i64 r53.2), (65, .bool true), (66, .string r51.1)] rfl (by kernel_rfl) ?_
      refine ow_pw rfl (pw_quiet (v := .agg #[.int .i64 x0.Gen, .int .i64 x0.Boot, .int .i64 x0.Side, .int .i64 x0.Seed]) rfl rfl rfl rfl (q_load 6 rfl rfl rfl (by kernel_rfl)) (nw_ow ?_))
      obtain ⟨r59, h60, hF⟩ := bind_some hF
      refine ow_pw rfl (pw_call (F := [pt b55 #[.int .i64 r53.1.Gen, .int .i64 r53.1.Boot, .int .i64 r53.1.Side, .int .i64 r53.1.Seed] 23, pt r23_b2 #[.slice r36_p1 r36.2.2.sure_.length r36_c2, .map (some r36_b4), .bool r36.2.2.off_, .bool r36.2.2.armed_, .int .i64 r36.2.2.left_, .int .u64 r36.2.2.fall_.Keep, .int .i64 r36.2.2.fall_.Tear, .int .i64 r36.2.2.acts_, .int .i64 r36.2.2.falls_] 65, own e_disk_sector 86 r36_p1 r36_c2 r36.2.2.sure_, mpo (kInt .i64) (fun x : disk_sector => Value.agg #[.string x.s_, .int .i64 x.at_]) r36_b4 r36.2.2.wait_, pt r23_b10 #[.pointer (some ⟨r23_b2, 0, none⟩), .int .i64 r36.2.1.boot_, .int .i64 r36.2.1.n_] 76, pt b21 #[.int .i64 x0.Gen, .int .i64 x0.Boot, .int .i64 x0.Side, .int .i64 x0.Seed] 23] ++ F0) rfl rfl rfl rfl rfl rfl rfl (by kernel_rfl) (perm_of_pulls [1] rfl) (c_law11_bytes _ x0 r59 h60) ?_)
      rintro _ _ ⟨rfl, rfl⟩
      refine nw_H (H' := [imm I, pt b55 #[.int .i64 r53.1.Gen, .int .i64 r53.1.Boot, .int .i64 r53.1.Side, .int .i64 r53.1.Seed] 23, pt r23_b2 #[.slice r36_p1 r36.2.2.sure_.length r36_c2, .map (some r36_b4), .bool r36.2.2.off_, .bool r36.2.2.armed_, .int .i64 r36.2.2.left_, .int .u64 r36.2.2.fall_.Keep, .int .i64 r36.2.2.fall_.Tear, .int .i64 r36.2.2.acts_, .int .i64 r36.2.2.falls_] 65, own e_disk_sector 86 r36_p1 r36_c2 r36.2.2.sure_, mpo (kInt .i64) (fun x : disk_sector => Value.agg #[.string x.s_, .int .i64 x.at_]) r36_b4 r36.2.2.wait_, pt r23_b10 #[.pointer (some ⟨r23_b2, 0, none⟩), .int .i64 r36.2.1.boot_, .int .i64 r36.2.1.n_] 76, pt b21 #[.int .i64 x0.Gen, .int .i64 x0.Boot, .int .i64 x0.Side, .int .i64 x0.Seed] 23] ++ F0) rfl (nw_ow ?_)
      refine ow_vals 3 (j := 13) [1, 3, 9, 10, 71] [(1, .pointer (some ⟨b21, 0, none⟩)), (3, .pointer (some ⟨r23_b2, 0, none⟩)), (9, .pointer (some ⟨b55, 0, none⟩)), (10, .int .i64 r53.2), (71, .bool (seqB r51.1 r59))] rfl (by kernel_rfl) ?_
      rcases if_some hF with ⟨h61, hF⟩ | ⟨h61, hF⟩
      · refine ow_slots (L' := [(1, .pointer (some ⟨b21, 0, none⟩)), (3, .pointer (some ⟨r23_b2, 0, none⟩)), (9, .pointer (some ⟨b55, 0, none⟩)), (10, .int .i64 r53.2), (71, .bool true)]) (by rw [h61]) ?_
        refine ow_vals 1 (j := 14) [1, 9, 10, 71, 72] [(1, .pointer (some ⟨b21, 0, none⟩)), (9, .pointer (some ⟨b55, 0, none⟩)), (10, .int .i64 r53.2), (71, .bool true), (72, .pointer (some ⟨r23_b2, 0, none⟩))] rfl (by kernel_rfl) ?_
        obtain ⟨r62, h63, hF⟩ := bind_some hF
        refine ow_pw rfl (pw_call (F := [pt b55 #[.int .i64 r53.1.Gen, .int .i64 r53.1.Boot, .int .i64 r53.1.Side, .int .i64 r53.1.Seed] 23, pt r23_b10 #[.pointer (some ⟨r23_b2, 0, none⟩), .int .i64 r36.2.1.boot_, .int .i64 r36.2.1.n_] 76, pt b21 #[.int .i64 x0.Gen, .int .i64 x0.Boot, .int .i64 x0.Side, .int .i64 x0.Seed] 23] ++ F0) rfl rfl rfl rfl rfl rfl rfl (by kernel_rfl) (perm_of_pulls [0, 1, 1, 1] rfl) (c_disk_Disk_Waiting _ r36.2.2 r36_p1 r36_c2 r36_b4 r23_b2 r62 h63) ?_)
        rintro _ _ ⟨r62_p1, r62_c2, rfl, rfl⟩
        refine nw_H (H' := [imm I, pt r23_b2 #[.slice r36_p1 r36.2.2.sure_.length r36_c2, .map (some r36_b4), .bool r36.2.2.off_, .bool r36.2.2.armed_, .int .i64 r36.2.2.left_, .int .u64 r36.2.2.fall_.Keep, .int .i64 r36.2.2.fall_.Tear, .int .i64 r36.2.2.acts_, .int .i64 r36.2.2.falls_] 65, own (eInt .i64) 3 r62_p1 r62_c2 r62, own e_disk_sector 86 r36_p1 r36_c2 r36.2.2.sure_, mpo (kInt .i64) (fun x : disk_sector => Value.agg #[.string x.s_, .int .i64 x.at_]) r36_b4 r36.2.2.wait_, pt b55 #[.int .i64 r53.1.Gen, .int .i64 r53.1.Boot, .int .i64 r53.1.Side, .int .i64 r53.1.Seed] 23, pt r23_b10 #[.pointer (some ⟨r23_b2, 0, none⟩), .int .i64 r36.2.1.boot_, .int .i64 r36.2.1.n_] 76, pt b21 #[.int .i64 x0.Gen, .int .i64 x0.Boot, .int .i64 x0.Side, .int .i64 x0.Seed] 23] ++ F0) rfl (nw_ow ?_)
        refine ow_vals 4 (j := 19) [1, 9, 10, 77] [(1, .pointer (some ⟨b21, 0, none⟩)), (9, .pointer (some ⟨b55, 0, none⟩)), (10, .int .i64 r53.2), (77, .bool ((r62.length : Int) == 0))] rfl (by kernel_rfl) ?_
        rcases if_some hF with ⟨h65, hF⟩ | ⟨h65, hF⟩
        · refine ow_slots (L' := [(1, .pointer (some ⟨b21, 0, none⟩)), (9, .pointer (some ⟨b55, 0, none⟩)), (10, .int .i64 r53.2), (77, .bool true)]) (by rw [h65]) ?_
          refine ow_pw rfl (pw_quiet (v := .agg #[.int .i64 r53.1.Gen, .int .i64 r53.1.Boot, .int .i64 r53.1.Side, .int .i64 r53.1.Seed]) rfl rfl rfl rfl (q_load 5 rfl rfl rfl (by kernel_rfl)) (nw_ow ?_))
          refine ow_pw rfl (pw_quiet (v := .agg #[.int .i64 x0.Gen, .int .i64 x0.Boot, .int .i64 x0.Side, .int .i64 x0.Seed]) rfl rfl rfl rfl (q_load 7 rfl rfl rfl (by kernel_rfl)) (nw_ow ?_))
          refine ow_pw rfl (pw_quiet (v := .bool ((r53.1.Gen == x0.Gen) && ((r53.1.Boot == x0.Boot) && ((r53.1.Side == x0.Side) && ((r53.1.Seed == x0.Seed) && (true)))))) rfl rfl rfl rfl (q_eql_struct (b := ((r53.1.Gen == x0.Gen) && ((r53.1.Boot == x0.Boot) && ((r53.1.Side == x0.Side) && ((r53.1.Seed == x0.Seed) && (true)))))) rfl rfl rfl (by kernel_rfl) (by kernel_rfl) (by kernel_rfl) (by kernel_rfl)) (nw_ow ?_))
          refine ow_vals 2 (j := 24) [10, 82] [(10, .int .i64 r53.2), (82, .bool ((r53.1.Gen == x0.Gen) && ((r53.1.Boot == x0.Boot) && ((r53.1.Side == x0.Side) && ((r53.1.Seed == x0.Seed) && (true))))))] rfl (by kernel_rfl) ?_
          rcases if_some hF with ⟨h66, hF⟩ | ⟨h66, hF⟩
          · refine ow_slots (L' := [(10, .int .i64 r53.2), (82, .bool true)]) (by rw [h66]) ?_
            refine ow_vals 4 (j := 28) [86] [(86, .bool (r53.2 == 0))] rfl (by kernel_rfl) ?_
            rcases if_some hF with ⟨h67, hF⟩ | ⟨h67, hF⟩
            · refine ow_slots (L' := [(86, .bool true)]) (by rw [h67]) ?_
              obtain ⟨r68, h69, hF⟩ := bind_some hF
              refine ow_pw rfl (pw_call (F := [pt r23_b2 #[.slice r36_p1 r36.2.2.sure_.length r36_c2, .map (some r36_b4), .bool r36.2.2.off_, .bool r36.2.2.armed_, .int .i64 r36.2.2.left_, .int .u64 r36.2.2.fall_.Keep, .int .i64 r36.2.2.fall_.Tear, .int .i64 r36.2.2.acts_, .int .i64 r36.2.2.falls_] 65, own (eInt .i64) 3 r62_p1 r62_c2 r62, own e_disk_sector 86 r36_p1 r36_c2 r36.2.2.sure_, mpo (kInt .i64) (fun x : disk_sector => Value.agg #[.string x.s_, .int .i64 x.at_]) r36_b4 r36.2.2.wait_, pt b55 #[.int .i64 r53.1.Gen, .int .i64 r53.1.Boot, .int .i64 r53.1.Side, .int .i64 r53.1.Seed] 23, pt r23_b10 #[.pointer (some ⟨r23_b2, 0, none⟩), .int .i64 r36.2.1.boot_, .int .i64 r36.2.1.n_] 76, pt b21 #[.int .i64 x0.Gen, .int .i64 x0.Boot, .int .i64 x0.Side, .int .i64 x0.Seed] 23] ++ F0) rfl rfl rfl rfl rfl rfl rfl (by kernel_rfl) (perm_of_pulls [0] rfl) (c_law11_awake _ r68 h69) ?_)
              rintro _ _ ⟨rfl, rfl⟩
              refine nw_H (H' := [imm I, pt r23_b2 #[.slice r36_p1 r36.2.2.sure_.length r36_c2, .map (some r36_b4), .bool r36.2.2.off_, .bool r36.2.2.armed_, .int .i64 r36.2.2.left_, .int .u64 r36.2.2.fall_.Keep, .int .i64 r36.2.2.fall_.Tear, .int .i64 r36.2.2.acts_, .int .i64 r36.2.2.falls_] 65, own (eInt .i64) 3 r62_p1 r62_c2 r62, own e_disk_sector 86 r36_p1 r36_c2 r36.2.2.sure_, mpo (kInt .i64) (fun x : disk_sector => Value.agg #[.string x.s_, .int .i64 x.at_]) r36_b4 r36.2.2.wait_, pt b55 #[.int .i64 r53.1.Gen, .int .i64 r53.1.Boot, .int .i64 r53.1.Side, .int .i64 r53.1.Seed] 23, pt r23_b10 #[.pointer (some ⟨r23_b2, 0, none⟩), .int .i64 r36.2.1.boot_, .int .i64 r36.2.1.n_] 76, pt b21 #[.int .i64 x0.Gen, .int .i64 x0.Boot, .int .i64 x0.Side, .int .i64 x0.Seed] 23] ++ F0) rfl (nw_ow ?_)
              refine ow_vals 2 (j := 31) [2] [(2, .bool r68)] rfl (by kernel_rfl) ?_
              refine ow_end rfl ?_
              refine ew_then ?_
              refine cw_ret ?_
              have hR := Option.some.inj hF
              subst hR
              exact fin1 (H1 := [imm I]) (fun w hs => sat_to [1, 1, 1, 1, 1, 1, 1, 0] 7 rfl hs) rfl (rr_tmp rfl) ⟨rfl, rfl⟩
            refine ow_slots (L' := [(86, .bool false)]) (by rw [h67]) ?_
            refine ow_vals 3 (j := 31) [2] [(2, .bool false)] rfl (by kernel_rfl) ?_
            refine ow_end rfl ?_
            refine ew_then ?_
            refine cw_ret ?_
            have hR := Option.some.inj hF
            subst hR
            exact fin1 (H1 := [imm I]) (fun w hs => sat_to [1, 1, 1, 1, 1, 1, 1, 0] 7 rfl hs) rfl (rr_tmp rfl) ⟨rfl, rfl⟩
          refine ow_slots (L' := [(10, .int .i64 r53.2), (82, .bool false)]) (by rw [h66]) ?_
          refine ow_vals 7 (j := 31) [2] [(2, .bool false)] rfl (by kernel_rfl) ?_
          refine ow_end rfl ?_
          refine ew_then ?_
          refine cw_ret ?_
          have hR := Option.some.inj hF
          subst hR
          exact fin1 (H1 := [imm I]) (fun w hs => sat_to [1, 1, 1, 1, 1, 1, 1, 0] 7 rfl hs) rfl (rr_tmp rfl) ⟨rfl, rfl⟩
        refine ow_slots (L' := [(1, .pointer (some ⟨b21, 0, none⟩)), (9, .pointer (some ⟨b55, 0, none⟩)), (10, .int .i64 r53.2), (77, .bool false)]) (by rw [h65]) ?_
        refine ow_vals 12 (j := 31) [2] [(2, .bool false)] rfl (by kernel_rfl) ?_
        refine ow_end rfl ?_
        refine ew_then ?_
        refine cw_ret ?_
        have hR := Option.some.inj hF
        subst hR
        exact fin1 (H1 := [imm I]) (fun w hs => sat_to [1, 1, 1, 1, 1, 1, 1, 0] 7 rfl hs) rfl (rr_tmp rfl) ⟨rfl, rfl⟩
      refine ow_slots (L' := [(1, .pointer (some ⟨b21, 0, none⟩)), (3, .pointer (some ⟨r23_b2, 0, none⟩)), (9, .pointer (some ⟨b55, 0, none⟩)), (10, .int .i64 r53.2), (71, .bool false)]) (by rw [h61]) ?_
      refine ow_vals 18 (j := 31) [2] [(2, .bool false)] rfl (by kernel_rfl) ?_
      refine ow_end rfl ?_
      refine ew_then ?_
      refine cw_ret ?_
      have hR := Option.some.inj hF
      subst hR
      exact fin1 (H1 := [imm I]) (fun w hs => sat_to [1, 1, 1, 1, 1, 1, 0] 6 rfl hs) rfl (rr_tmp rfl) ⟨rfl, rfl⟩
    refine ow_slots (L' := [(1, .pointer (some ⟨b21, 0, none⟩)), (3, .pointer (some ⟨r23_b2, 0, none⟩)), (6, .string r51.1), (9, .pointer (some ⟨b55, 0, none⟩)), (10, .int .i64 r53.2), (65, .bool false)]) (by rw [h58]) ?_
    refine ow_vals 24 (j := 31) [2] [(2, .bool false)] rfl (by kernel_rfl) ?_
    refine ow_end rfl ?_
    refine ew_then ?_
    refine cw_ret ?_
    have hR := Option.some.inj hF
    subst hR
    exact fin1 (H1 := [imm I]) (fun w hs => sat_to [0, 1, 1, 1, 1, 1, 0] 6 rfl hs) rfl (rr_tmp rfl) ⟨rfl, rfl⟩
  refine ow_slots (L' := [(1, .pointer (some ⟨b21, 0, none⟩)), (3, .pointer (some ⟨r23_b2, 0, none⟩)), (6, .string r51.1), (8, .int .i64 r51.2.2), (9, .pointer (some ⟨b55, 0, none⟩)), (10, .int .i64 r53.2), (61, .bool false)]) (by rw [h57]) ?_
  refine ow_vals 28 (j := 31) [2] [(2, .bool false)] rfl (by kernel_rfl) ?_
  refine ow_end rfl ?_
  refine ew_then ?_
  refine cw_ret ?_
  have hR := Option.some.inj hF
  subst hR
  exact fin1 (H1 := [imm I]) (fun w hs => sat_to [0, 1, 1, 1, 1, 1, 0] 6 rfl hs) rfl (rr_tmp rfl) ⟨rfl, rfl⟩

end Go.Proofs.YtgbciaegbpkpaaaGreatDoor
