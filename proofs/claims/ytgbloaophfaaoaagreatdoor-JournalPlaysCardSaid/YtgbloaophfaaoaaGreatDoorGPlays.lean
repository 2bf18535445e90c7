/- What the functions compute, and that the code computes it: printed by a program of this claim (wip/tools), for the group Plays. -/
import Derived.Test.YtgbloaophfaaoaaGreatDoorGJour
import Derived.Test.YtgbloaophfaaoaaGreatDoorFwN
namespace Go.Proofs.YtgbloaophfaaoaaGreatDoor
set_option linter.all false
open Go Go.RowKit Go.Fw
set_option linter.unusedVariables false

structure disk_Fall where
  Keep : Int
  Tear : Int
def disk_Fall.cells (x : disk_Fall) : List Go.Value := [.int .u64 x.Keep, i6 x.Tear]
def e_disk_Fall : Enc disk_Fall := ⟨disk_Fall.cells, 2, fun _ => rfl, fun _ => rfl, by decide⟩

structure law12_Op where
  Kind : Int
  Long : Int
  C : Int
  F : disk_Fall
def law12_Op.cells (x : law12_Op) : List Go.Value := [i6 x.Kind, i6 x.Long, .int .u8 x.C, .int .u64 x.F.Keep, i6 x.F.Tear]
def e_law12_Op : Enc law12_Op := ⟨law12_Op.cells, 5, fun _ => rfl, fun _ => rfl, by decide⟩

structure disk_sector where
  s_ : ByteArray
  at_ : Int
def disk_sector.cells (x : disk_sector) : List Go.Value := [.string x.s_, i6 x.at_]
def e_disk_sector : Enc disk_sector := ⟨disk_sector.cells, 2, fun _ => rfl, fun _ => rfl, by decide⟩

structure disk_Disk where
  sure_ : List disk_sector
  wait_ : List (Int × disk_sector)
  off_ : Bool
  armed_ : Bool
  left_ : Int
  fall_ : disk_Fall
  acts_ : Int
  falls_ : Int

structure guard_Guard where
  boot_ : Int
  n_ : Int

structure journal_Journal where
  base_ : Int
  size_ : Int
  next_ : Int
  last_ : Int
  list_ : List ByteArray
  sure_ : Int
  dead_ : Bool

structure law12_plain where
  l_ : List ByteArray
  sure_ : Int
  boot_ : Int

def F.strings_Repeat (x0 : ByteArray) (x1 : Int) : Option ByteArray :=
  chk (0 ≤ x1 ∧ x1 ≤ 9223372036854775807 ∧ x0.size * x1.toNat ≤ 140737488355328) (some (repB x0 x1.toNat))
theorem c_strings_Repeat (I : Hl) (x0 : ByteArray) (x1 : Int) (res : ByteArray) (hF : F.strings_Repeat x0 x1 = some res) : Tr Tryz.prog 33 [.string x0, i6 x1] [imm I] (fun r H' => r = .string res ∧ H' = [imm I]) := by
  unfold F.strings_Repeat at hF
  obtain ⟨⟨h0, h1, h2⟩, hF⟩ := chk_some hF
  obtain rfl := Option.some.inj hF
  obtain ⟨c, rfl⟩ := Int.eq_ofNat_of_zero_le h0
  exact tr_below fun w => Tryz.strings_Repeat x0 c w (by omega) h2


def F.disk_blank : Option ByteArray :=
  Option.bind (F.strings_Repeat (ByteArray.mk #[0]) 64) (fun (r21 : ByteArray) => some (r21))
set_option maxRecDepth 100000 in
set_option maxHeartbeats 4000000 in
theorem c_disk_blank (I : Hl) (res : ByteArray) (hF : F.disk_blank = some res) : Tr Tryz.prog 13 [] [imm I] (fun r H' => r = .string res ∧ H' = [imm I]) := by
  unfold F.disk_blank at hF
  refine tr_of_cw (fn := Tryz.f13) Tryz.func13 rfl (Nat.le_of_ble_eq_true rfl) 2 rfl fun F0 w0 => ?_
  refine cw_keep [] (L' := []) rfl ?_
  refine cw_state (S' := SAT w0 ([imm I] ++ F0)) (fun w hs => hs) ?_
  refine cw_seq ?_
  refine cw_region ?_
  refine ow_vals 1 (j := 1) [] [] rfl (by kernel_rfl) ?_
  refine ow_end rfl ?_
  refine ew_then ?_
  refine cw_seq ?_
  refine cw_region ?_
  obtain ⟨r21, h22, hF⟩ := bind_some hF
  refine ow_pw rfl (pw_call (F := [] ++ F0) rfl rfl rfl rfl rfl rfl rfl (by kernel_rfl) (perm_of_pulls [0] rfl) (c_strings_Repeat _ (ByteArray.mk #[0]) 64 r21 h22) ?_)
  rintro _ _ ⟨rfl, rfl⟩
  refine nw_H (H' := [imm I] ++ F0) rfl (nw_ow ?_)
  refine ow_vals 1 (j := 2) [0] [(0, .string r21)] rfl (by kernel_rfl) ?_
  refine ow_end rfl ?_
  refine ew_then ?_
  refine cw_ret ?_
  have hR := Option.some.inj hF
  subst hR
  exact fin1 (H1 := [imm I]) (fun w hs => sat_to [0] 0 rfl hs) rfl (rr_tmp rfl) ⟨rfl, rfl⟩


def F.disk_New.l2 (x0 : Int) (x34 : Int) (l35 : List disk_sector) : Option ((Int × (List disk_sector)) ⊕ ((List disk_sector))) :=
  if decide (x34 < ((List.replicate x0.toNat (⟨(ByteArray.mk #[]), 0⟩ : disk_sector) : List disk_sector).length : Int)) then (Option.bind (F.disk_blank) (fun (r40 : ByteArray) => Option.bind (at_ l35 x34) (fun (y42 : disk_sector) => some (.inl (IntKind.i64.wrap (x34 + 1), l35.set x34.toNat (⟨r40, y42.at_⟩ : disk_sector)))))) else (some (.inr (l35)))
def F.disk_New.r3 (l44 : List disk_sector) : Option ((Option disk_Disk) × Int) :=
  some ((some (⟨l44, ([] : List (Int × disk_sector)), false, false, 0, (⟨0, 0⟩ : disk_Fall), 0, 0⟩ : disk_Disk), 0))
def F.disk_New.r1 (x0 : Int) : Option ((Option disk_Disk) × Int) :=
  chk (0 ≤ x0 ∧ room x0.toNat 24) (Option.bind (iter (fun x => F.disk_New.l2 x0 x.1 x.2) FUEL (0, (List.replicate x0.toNat (⟨(ByteArray.mk #[]), 0⟩ : disk_sector) : List disk_sector))) (fun x => F.disk_New.r3 x))
def F.disk_New (x0 : Int) : Option ((Option disk_Disk) × Int) :=
  thru (if decide (x0 < 1) then (some (.inr ((none, 1)))) else (if decide (x0 > 8192) then (some (.inr ((none, 1)))) else (some (.inl ())))) (fun x => F.disk_New.r1 x0)
set_option maxRecDepth 100000 in
set_option maxHeartbeats 4000000 in
theorem c_disk_New (I : Hl) (x0 : Int) (res : (Option disk_Disk) × Int) (hF : F.disk_New x0 = some res) : Tr Tryz.prog 4 [i6 x0] [imm I] (fun r H' => (res.1 = none ∧ r = .tuple #[.pointer none, i6 1] ∧ H' = [imm I]) ∨ (∃ (sq1 : disk_Disk), ∃ (bq2 : Nat), ∃ (pq4 : Option Addr), ∃ (cq5 : Nat), ∃ (bq7 : Nat), res.1 = some sq1 ∧ r = .tuple #[pP bq2, i6 0] ∧ H' = [imm I, o0 bq2 pq4 sq1.sure_ cq5 bq7 sq1.off_ sq1.armed_ sq1.left_ sq1.fall_.Keep sq1.fall_.Tear sq1.acts_ sq1.falls_, own e_disk_sector 51 pq4 cq5 sq1.sure_, mpo (kInt .i64) (fun x : disk_sector => Value.agg #[.string x.s_, i6 x.at_]) bq7 sq1.wait_])) := by
  unfold F.disk_New at hF
  refine tr_of_cw (fn := Tryz.f4) Tryz.func4 rfl (Nat.le_of_ble_eq_true rfl) 35 rfl fun F0 w0 => ?_
  refine cw_keep [0] (L' := [(0, i6 x0)]) rfl ?_
  refine cw_state (S' := SAT w0 ([imm I] ++ F0)) (fun w hs => hs) ?_
  refine cw_seq ?_
  refine cw_region ?_
  refine ow_vals 2 (j := 2) [0] [(0, i6 x0)] rfl (by kernel_rfl) ?_
  refine ow_end rfl ?_
  refine ew_then ?_
  obtain ⟨v21, hF, hK21⟩ := thru_some hF
  refine cw_mid (fun a w => .inl () = v21 ∧ Fr 35 [(0, i6 x0)] a ∧ SAT w0 ([imm I] ++ F0) w) ?_ ?_
  · refine cw_seq ?_
    refine cw_region ?_
    refine ow_vals 3 (j := 3) [0, 8] [(0, i6 x0), (8, .bool (decide (x0 < 1)))] rfl (by kernel_rfl) ?_
    rcases if_some hF with ⟨h22, hF⟩ | ⟨h22, hF⟩
    · refine ow_slots (L' := [(0, i6 x0), (8, .bool true)]) (by rw [h22]) ?_
      refine ow_vals 3 (j := 6) [0, 11] [(0, i6 x0), (11, .bool true)] rfl (by kernel_rfl) ?_
      refine ow_end rfl ?_
      refine ew_then ?_
      refine cw_cond_t rfl rfl rfl ?_
      refine cw_seq ?_
      refine cw_region ?_
      refine ow_vals 2 (j := 2) [2, 3] [(2, .pointer none), (3, i6 1)] rfl (by kernel_rfl) ?_
      refine ow_end rfl ?_
      refine ew_then ?_
      refine cw_ret ?_
      refine ew_then_ret ?_
      have hR := Option.some.inj hF
      subst hR
      have hR := hK21
      try dsimp only [Thru] at hR
      subst hR
      exact fin2 (H1 := [imm I]) (fun w hs => sat_to [0] 0 rfl hs) rfl (rr_tmp rfl) (rr_tmp rfl) (.inl ⟨rfl, rfl, rfl⟩)
    refine ow_slots (L' := [(0, i6 x0), (8, .bool false)]) (by rw [h22]) ?_
    refine ow_vals 3 (j := 6) [0, 11] [(0, i6 x0), (11, .bool (decide (x0 > 8192)))] rfl (by kernel_rfl) ?_
    refine ow_end rfl ?_
    refine ew_then ?_
    rcases if_some hF with ⟨h23, hF⟩ | ⟨h23, hF⟩
    · refine cw_cond_t rfl rfl h23 ?_
      refine cw_seq ?_
      refine cw_region ?_
      refine ow_vals 2 (j := 2) [2, 3] [(2, .pointer none), (3, i6 1)] rfl (by kernel_rfl) ?_
      refine ow_end rfl ?_
      refine ew_then ?_
      refine cw_ret ?_
      refine ew_then_ret ?_
      have hR := Option.some.inj hF
      subst hR
      have hR := hK21
      try dsimp only [Thru] at hR
      subst hR
      exact fin2 (H1 := [imm I]) (fun w hs => sat_to [0] 0 rfl hs) rfl (rr_tmp rfl) (rr_tmp rfl) (.inl ⟨rfl, rfl, rfl⟩)
    refine cw_cond_f rfl rfl h23 ?_
    refine cw_skip ?_
    have hR := Option.some.inj hF
    exact fun a w hf hs => ⟨hR, hf.keep [0], sat_to [0] 0 rfl hs⟩
  rintro a w ⟨hv, hf, hs⟩
  subst hv
  replace hF := hK21
  clear hK21
  try dsimp only [Thru] at hF
  revert a w
  show CW _ _ _ 35 [(0, i6 x0)] (SAT w0 ([imm I] ++ F0))
  unfold F.disk_New.r1 at hF
  refine cw_seq ?_
  refine cw_region ?_
  refine ow_vals 1 (j := 1) [12] [(12, i6 x0)] rfl (by kernel_rfl) ?_
  obtain ⟨h24, hF⟩ := chk_some hF
  refine ow_pw rfl (pw_make (E := 51) e_disk_sector (⟨(ByteArray.mk #[]), 0⟩ : disk_sector) rfl rfl rfl rfl rfl (by kernel_rfl) (by kernel_rfl) rfl rfl rfl h24.1 (room_max h24.1 h24.2) (room_bytes h24.1 h24.2) fun p25 c26 => nw_ow ?_)
  refine ow_pw rfl (pw_makeMap (kInt .i64) (fun x : disk_sector => Value.agg #[.string x.s_, i6 x.at_]) rfl rfl rfl rfl rfl fun b28 => nw_ow ?_)
  refine ow_vals 1 (j := 4) [15] [(15, .agg #[.slice p25 (List.replicate x0.toNat (⟨(ByteArray.mk #[]), 0⟩ : disk_sector) : List disk_sector).length c26, .map (some b28), .bool false, .bool false, i6 0, .int .u64 0, i6 0, i6 0, i6 0])] rfl (by kernel_rfl) ?_
  refine ow_pw rfl (pw_box (cs := #[.slice p25 (List.replicate x0.toNat (⟨(ByteArray.mk #[]), 0⟩ : disk_sector) : List disk_sector).length c26, .map (some b28), .bool false, .bool false, i6 0, .int .u64 0, i6 0, i6 0, i6 0]) rfl rfl rfl rfl rfl rfl fun b30 => nw_ow ?_)
  refine ow_vals 1 (j := 6) [4] [(4, pP b30)] rfl (by kernel_rfl) ?_
  refine ow_end rfl ?_
  refine ew_then ?_
  obtain ⟨v32, hF, hK32⟩ := bind_some hF
  refine cw_mid (fun a w => ∃ (l44 : List disk_sector), ∃ (p45 : Option Addr), ∃ (c46 : Nat), l44 = v32 ∧ Fr 35 [(4, pP b30)] a ∧ SAT w0 ([imm I, o0 b30 p45 l44 c46 b28 false false 0 0 0 0 0, own e_disk_sector 51 p45 c46 l44, mpo (kInt .i64) (fun x : disk_sector => Value.agg #[.string x.s_, i6 x.at_]) b28 ([] : List (Int × disk_sector))] ++ F0) w) ?_ ?_
  · refine cw_seq ?_
    refine cw_region ?_
    refine ow_vals 3 (j := 3) [4, 19] [(4, pP b30), (19, pP b30)] rfl (by kernel_rfl) ?_
    refine ow_pw rfl (pw_quiet (v := .slice p25 (List.replicate x0.toNat (⟨(ByteArray.mk #[]), 0⟩ : disk_sector) : List disk_sector).length c26) rfl rfl rfl rfl (q_load 0 rfl rfl rfl (by kernel_rfl)) (nw_ow ?_))
    refine ow_vals 2 (j := 6) [4, 21, 22] [(4, pP b30), (21, i6 ((List.replicate x0.toNat (⟨(ByteArray.mk #[]), 0⟩ : disk_sector) : List disk_sector).length : Int)), (22, i6 0)] rfl (by kernel_rfl) ?_
    refine ow_end rfl ?_
    refine ew_then ?_
    refine cw_block ?_
    refine fun a w hf hs => wp_rounds (fun k a w => ∃ (x34 : Int), ∃ (l35 : List disk_sector), ∃ (p36 : Option Addr), ∃ (c37 : Nat), iter (fun x => F.disk_New.l2 x0 x.1 x.2) k (x34, l35) = some v32 ∧ Fr 35 [(4, pP b30), (21, i6 ((List.replicate x0.toNat (⟨(ByteArray.mk #[]), 0⟩ : disk_sector) : List disk_sector).length : Int)), (22, i6 x34)] a ∧ SAT w0 ([imm I, o0 b30 p36 l35 c37 b28 false false 0 0 0 0 0, own e_disk_sector 51 p36 c37 l35, mpo (kInt .i64) (fun x : disk_sector => Value.agg #[.string x.s_, i6 x.at_]) b28 ([] : List (Int × disk_sector))] ++ F0) w) ?_ FUEL a w ⟨0, (List.replicate x0.toNat (⟨(ByteArray.mk #[]), 0⟩ : disk_sector) : List disk_sector), p25, c26, hF, hf.keep [4, 21, 22], sat_to [3, 0, 1, 0] 0 rfl hs⟩
    clear hf hs
    clear a w hF
    rintro k a w ⟨x34, l35, p36, c37, hF2, hf, hs⟩
    obtain ⟨k, r33, rfl, hF, hL33⟩ := iter_some hF2
    clear hF2
    revert a w
    show CW _ _ _ 35 [(4, pP b30), (21, i6 ((List.replicate x0.toNat (⟨(ByteArray.mk #[]), 0⟩ : disk_sector) : List disk_sector).length : Int)), (22, i6 x34)] (SAT w0 ([imm I, o0 b30 p36 l35 c37 b28 false false 0 0 0 0 0, own e_disk_sector 51 p36 c37 l35, mpo (kInt .i64) (fun x : disk_sector => Value.agg #[.string x.s_, i6 x.at_]) b28 ([] : List (Int × disk_sector))] ++ F0))
    try dsimp only at hF
    unfold F.disk_New.l2 at hF
    refine cw_seq ?_
    refine cw_region ?_
    refine ow_vals 1 (j := 1) [4, 21, 22, 23] [(4, pP b30), (21, i6 ((List.replicate x0.toNat (⟨(ByteArray.mk #[]), 0⟩ : disk_sector) : List disk_sector).length : Int)), (22, i6 x34), (23, .bool (decide (x34 < ((List.replicate x0.toNat (⟨(ByteArray.mk #[]), 0⟩ : disk_sector) : List disk_sector).length : Int))))] rfl (by kernel_rfl) ?_
    refine ow_end rfl ?_
    refine ew_then ?_
    refine cw_seq ?_
    rcases if_some hF with ⟨h39, hF⟩ | ⟨h39, hF⟩
    · refine cw_cond_t rfl rfl h39 ?_
      refine cw_skip ?_
      refine ew_then ?_
      refine cw_seq ?_
      refine cw_block ?_
      refine cw_seq ?_
      refine cw_region ?_
      refine ow_vals 2 (j := 2) [4, 5, 21, 22] [(4, pP b30), (5, i6 x34), (21, i6 ((List.replicate x0.toNat (⟨(ByteArray.mk #[]), 0⟩ : disk_sector) : List disk_sector).length : Int)), (22, i6 x34)] rfl (by kernel_rfl) ?_
      refine ow_end rfl ?_
      refine ew_then ?_
      refine cw_open 8 (SAT w0 ([imm I, o0 b30 p36 l35 c37 b28 false false 0 0 0 0 0, own e_disk_sector 51 p36 c37 l35, mpo (kInt .i64) (fun x : disk_sector => Value.agg #[.string x.s_, i6 x.at_]) b28 ([] : List (Int × disk_sector))])) (by kernel_rfl) (f := 9) rfl (fun w hs => sat_drew hs) ?_
      refine aw_vals [0, 1, 2, 4] (f' := 5) (m' := 23) [4, 21, 22, 27, 29] [(4, pP b30), (21, i6 ((List.replicate x0.toNat (⟨(ByteArray.mk #[]), 0⟩ : disk_sector) : List disk_sector).length : Int)), (22, i6 x34), (27, pP b30), (29, i6 x34)] (fun _ _ _ _ _ h => calm_fin (P := Tryz.prog) (fn := Tryz.f4) _ _ _ _ _ h) (fun w hs => sat_pulls [0, 0, 0, 0] (G := [] ++ F0) rfl hs) rfl (by kernel_rfl) ?_
      refine aw_quiet 3 (m' := 31) (v := .slice p36 l35.length c37) 3 [] rfl rfl rfl rfl (by kernel_rfl) (by kernel_rfl) (by kernel_rfl) (fun _ _ _ _ _ h => calm_fin (P := Tryz.prog) (fn := Tryz.f4) _ _ _ _ _ h) (fun w hs => sat_pulls [0, 0, 0, 0] (G := [] ++ F0) rfl hs) (q_load 1 rfl rfl rfl (by kernel_rfl)) ?_
      obtain ⟨r40, h41, hF⟩ := bind_some hF
      refine aw_only 5 (m' := 63) (by kernel_rfl) (by kernel_rfl) (pw_call (F := [o0 b30 p36 l35 c37 b28 false false 0 0 0 0 0, own e_disk_sector 51 p36 c37 l35, mpo (kInt .i64) (fun x : disk_sector => Value.agg #[.string x.s_, i6 x.at_]) b28 ([] : List (Int × disk_sector))] ++ F0) rfl rfl rfl rfl rfl rfl rfl (by kernel_rfl) (perm_of_pulls [0] rfl) (c_disk_blank _ r40 h41) ?_)
      rintro _ _ ⟨rfl, rfl⟩
      refine nw_H (H' := [imm I, o0 b30 p36 l35 c37 b28 false false 0 0 0 0 0, own e_disk_sector 51 p36 c37 l35, mpo (kInt .i64) (fun x : disk_sector => Value.agg #[.string x.s_, i6 x.at_]) b28 ([] : List (Int × disk_sector))] ++ F0) rfl (aw_next (fun w hs => sat_pulls [0, 0, 0, 0] (G := [] ++ F0) rfl hs) ?_)
      obtain ⟨y42, h43, hF⟩ := bind_some hF
      refine aw_quiet 6 (m' := 127) (v := .pointer (some ((base p36).add (x34.toNat * 2)))) 7 [6] rfl rfl rfl rfl (by kernel_rfl) (by kernel_rfl) (by kernel_rfl) (fun _ _ _ _ _ h => calm_fin (P := Tryz.prog) (fn := Tryz.f4) _ _ _ _ _ h) (fun w hs => sat_pulls [0, 0, 0, 0] (G := [] ++ F0) rfl hs) (q_index_own 2 2 rfl rfl (by kernel_rfl) rfl rfl (at_some h43).1 (at_lt h43)) ?_
      refine aw_vals [7] (f' := 1) (m' := 255) [4, 21, 22, 30, 32] [(4, pP b30), (21, i6 ((List.replicate x0.toNat (⟨(ByteArray.mk #[]), 0⟩ : disk_sector) : List disk_sector).length : Int)), (22, i6 x34), (30, .string r40), (32, .pointer (some (((base p36).add (x34.toNat * 2)).add 0)))] (fun _ _ _ _ _ h => calm_fin (P := Tryz.prog) (fn := Tryz.f4) _ _ _ _ _ h) (fun w hs => sat_pulls [0, 0, 0, 0] (G := [] ++ F0) rfl hs) rfl (by kernel_rfl) ?_
      refine aw_only 8 (m' := 511) (by kernel_rfl) (by kernel_rfl) (pw_store_own 2 2 (z' := (⟨r40, y42.at_⟩ : disk_sector)) (off := 0) rfl rfl rfl rfl rfl rfl rfl rfl (at_some h43).2 (by kernel_rfl) (nw_H (H' := [imm I, o0 b30 p36 (l35.set x34.toNat (⟨r40, y42.at_⟩ : disk_sector)) c37 b28 false false 0 0 0 0 0, own e_disk_sector 51 p36 c37 (l35.set x34.toNat (⟨r40, y42.at_⟩ : disk_sector)), mpo (kInt .i64) (fun x : disk_sector => Value.agg #[.string x.s_, i6 x.at_]) b28 ([] : List (Int × disk_sector))] ++ F0) (by first | rfl | (simp only [o0, o3, o5, List.length_set]; rfl)) (aw_last (by kernel_rfl) ?_)))
      refine aw_slots (L' := [(4, pP b30), (21, i6 ((List.replicate x0.toNat (⟨(ByteArray.mk #[]), 0⟩ : disk_sector) : List disk_sector).length : Int)), (22, i6 x34), (30, .string r40), (32, .pointer (some (((base p36).add (x34.toNat * 2)).add 0)))]) (by first | rfl | (simp only [o0, o3, o5, List.length_set]; rfl)) ?_
      refine aw_keep [4, 21, 22] (L' := [(4, pP b30), (21, i6 ((List.replicate x0.toNat (⟨(ByteArray.mk #[]), 0⟩ : disk_sector) : List disk_sector).length : Int)), (22, i6 x34)]) rfl ?_
      refine aw_end (by kernel_rfl) ?_
      refine ew_blk ?_
      refine ew_then ?_
      refine cw_region ?_
      refine ow_vals 2 (j := 2) [4, 21, 22] [(4, pP b30), (21, i6 ((List.replicate x0.toNat (⟨(ByteArray.mk #[]), 0⟩ : disk_sector) : List disk_sector).length : Int)), (22, i6 (IntKind.i64.wrap (x34 + 1)))] rfl (by kernel_rfl) ?_
      refine ow_end rfl ?_
      have hR := Option.some.inj hF
      subst hR
      have hR := hL33
      try dsimp only at hR
      exact fun a w hf hs => ⟨k, Nat.lt_succ_self k, IntKind.i64.wrap (x34 + 1), l35.set x34.toNat (⟨r40, y42.at_⟩ : disk_sector), p36, c37, hR, hf.keep [4, 21, 22], sat_to [0, 0, 0, 0] 0 rfl hs⟩
    refine cw_cond_f rfl rfl h39 ?_
    refine cw_exit ?_
    refine ew_then_exit ?_
    refine ew_then_exit ?_
    refine ew_blk_exit ?_
    have hR := Option.some.inj hF
    subst hR
    have hR := hL33
    try dsimp only at hR
    exact fun a w hf hs => ⟨l35, p36, c37, hR, hf.keep [4], sat_to [0, 0, 0, 0] 0 rfl hs⟩
  rintro a w ⟨l44, p45, c46, hv, hf, hs⟩
  subst hv
  replace hF := hK32
  clear hK32
  try dsimp only at hF
  revert a w
  show CW _ _ _ 35 [(4, pP b30)] (SAT w0 ([imm I, o0 b30 p45 l44 c46 b28 false false 0 0 0 0 0, own e_disk_sector 51 p45 c46 l44, mpo (kInt .i64) (fun x : disk_sector => Value.agg #[.string x.s_, i6 x.at_]) b28 ([] : List (Int × disk_sector))] ++ F0))
  unfold F.disk_New.r3 at hF
  refine cw_seq ?_
  refine cw_region ?_
  refine ow_vals 3 (j := 3) [2, 3] [(2, pP b30), (3, i6 0)] rfl (by kernel_rfl) ?_
  refine ow_end rfl ?_
  refine ew_then ?_
  refine cw_ret ?_
  have hR := Option.some.inj hF
  subst hR
  exact fin2 (H1 := [imm I, o0 b30 p45 ((⟨l44, ([] : List (Int × disk_sector)), false, false, 0, (⟨0, 0⟩ : disk_Fall), 0, 0⟩ : disk_Disk).sure_) c46 b28 ((⟨l44, ([] : List (Int × disk_sector)), false, false, 0, (⟨0, 0⟩ : disk_Fall), 0, 0⟩ : disk_Disk).off_) ((⟨l44, ([] : List (Int × disk_sector)), false, false, 0, (⟨0, 0⟩ : disk_Fall), 0, 0⟩ : disk_Disk).armed_) ((⟨l44, ([] : List (Int × disk_sector)), false, false, 0, (⟨0, 0⟩ : disk_Fall), 0, 0⟩ : disk_Disk).left_) ((⟨l44, ([] : List (Int × disk_sector)), false, false, 0, (⟨0, 0⟩ : disk_Fall), 0, 0⟩ : disk_Disk).fall_.Keep) ((⟨l44, ([] : List (Int × disk_sector)), false, false, 0, (⟨0, 0⟩ : disk_Fall), 0, 0⟩ : disk_Disk).fall_.Tear) ((⟨l44, ([] : List (Int × disk_sector)), false, false, 0, (⟨0, 0⟩ : disk_Fall), 0, 0⟩ : disk_Disk).acts_) ((⟨l44, ([] : List (Int × disk_sector)), false, false, 0, (⟨0, 0⟩ : disk_Fall), 0, 0⟩ : disk_Disk).falls_), own e_disk_sector 51 p45 c46 (⟨l44, ([] : List (Int × disk_sector)), false, false, 0, (⟨0, 0⟩ : disk_Fall), 0, 0⟩ : disk_Disk).sure_, mpo (kInt .i64) (fun x : disk_sector => Value.agg #[.string x.s_, i6 x.at_]) b28 (⟨l44, ([] : List (Int × disk_sector)), false, false, 0, (⟨0, 0⟩ : disk_Fall), 0, 0⟩ : disk_Disk).wait_]) (fun w hs => sat_to [0, 0, 0, 0] 0 rfl hs) rfl (rr_tmp rfl) (rr_tmp rfl) (.inr ⟨(⟨l44, ([] : List (Int × disk_sector)), false, false, 0, (⟨0, 0⟩ : disk_Fall), 0, 0⟩ : disk_Disk), b30, p45, c46, b28, rfl, rfl, rfl⟩)


def F.disk_Disk_Size (m0 : disk_Disk) : Option Int :=
  some ((m0.sure_.length : Int))
set_option maxRecDepth 100000 in
set_option maxHeartbeats 4000000 in
theorem c_disk_Disk_Size (I : Hl) (m0 : disk_Disk) (p0 : Option Addr) (c0 : Nat) (p1 : Nat) (b0 : Nat) (res : Int) (hF : F.disk_Disk_Size m0 = some res) : Tr Tryz.prog 23 [pP b0] [imm I, o0 b0 p0 m0.sure_ c0 p1 m0.off_ m0.armed_ m0.left_ m0.fall_.Keep m0.fall_.Tear m0.acts_ m0.falls_, own e_disk_sector 51 p0 c0 m0.sure_, mpo (kInt .i64) (fun x : disk_sector => Value.agg #[.string x.s_, i6 x.at_]) p1 m0.wait_] (fun r H' => r = i6 res ∧ H' = [imm I, o0 b0 p0 m0.sure_ c0 p1 m0.off_ m0.armed_ m0.left_ m0.fall_.Keep m0.fall_.Tear m0.acts_ m0.falls_, own e_disk_sector 51 p0 c0 m0.sure_, mpo (kInt .i64) (fun x : disk_sector => Value.agg #[.string x.s_, i6 x.at_]) p1 m0.wait_]) := by
  unfold F.disk_Disk_Size at hF
  refine tr_of_cw (fn := Tryz.f23) Tryz.func23 rfl (Nat.le_of_ble_eq_true rfl) 10 rfl fun F0 w0 => ?_
  refine cw_keep [0] (L' := [(0, pP b0)]) rfl ?_
  refine cw_state (S' := SAT w0 ([imm I, o0 b0 p0 m0.sure_ c0 p1 m0.off_ m0.armed_ m0.left_ m0.fall_.Keep m0.fall_.Tear m0.acts_ m0.falls_, own e_disk_sector 51 p0 c0 m0.sure_, mpo (kInt .i64) (fun x : disk_sector => Value.agg #[.string x.s_, i6 x.at_]) p1 m0.wait_] ++ F0)) (fun w hs => hs) ?_
  refine cw_seq ?_
  refine cw_region ?_
  refine ow_vals 1 (j := 1) [0] [(0, pP b0)] rfl (by kernel_rfl) ?_
  refine ow_end rfl ?_
  refine ew_then ?_
  refine cw_seq ?_
  refine cw_seq ?_
  refine cw_region ?_
  refine ow_vals 2 (j := 2) [0, 4] [(0, pP b0), (4, .bool false)] rfl (by kernel_rfl) ?_
  refine ow_end rfl ?_
  refine ew_then ?_
  refine cw_cond_f rfl rfl rfl ?_
  refine cw_skip ?_
  refine ew_then ?_
  refine cw_seq ?_
  refine cw_region ?_
  refine ow_vals 3 (j := 3) [7] [(7, pP b0)] rfl (by kernel_rfl) ?_
  refine ow_pw rfl (pw_quiet (v := .slice p0 m0.sure_.length c0) rfl rfl rfl rfl (q_load 1 rfl rfl rfl (by kernel_rfl)) (nw_ow ?_))
  refine ow_vals 2 (j := 6) [2] [(2, i6 (m0.sure_.length : Int))] rfl (by kernel_rfl) ?_
  refine ow_end rfl ?_
  refine ew_then ?_
  refine cw_ret ?_
  have hR := Option.some.inj hF
  subst hR
  exact fin1 (H1 := [imm I, o0 b0 p0 m0.sure_ c0 p1 m0.off_ m0.armed_ m0.left_ m0.fall_.Keep m0.fall_.Tear m0.acts_ m0.falls_, own e_disk_sector 51 p0 c0 m0.sure_, mpo (kInt .i64) (fun x : disk_sector => Value.agg #[.string x.s_, i6 x.at_]) p1 m0.wait_]) (fun w hs => sat_to [0, 0, 0, 0] 0 rfl hs) rfl (rr_tmp rfl) ⟨rfl, rfl⟩


def F.guard_New.r1 (x1 : Int) : Option ((Option guard_Guard) × Int) :=
  some ((some (⟨x1, 0⟩ : guard_Guard), 0))
def F.guard_New (x1 : Int) (m0 : disk_Disk) : Option ((Option guard_Guard) × Int) :=
  thru (Option.bind (F.disk_Disk_Size m0) (fun (r22 : Int) => if r22 == 0 then (some (.inr ((none, 1)))) else (if decide (x1 < 1) then (some (.inr ((none, 1)))) else (if decide (x1 > 2147483647) then (some (.inr ((none, 1)))) else (some (.inl ())))))) (fun x => F.guard_New.r1 x1)
set_option maxRecDepth 100000 in
set_option maxHeartbeats 4000000 in
theorem c_guard_New (I : Hl) (x1 : Int) (m0 : disk_Disk) (p0 : Option Addr) (c0 : Nat) (p1 : Nat) (b0 : Nat) (res : (Option guard_Guard) × Int) (hF : F.guard_New x1 m0 = some res) : Tr Tryz.prog 14 [pP b0, i6 x1] [imm I, o0 b0 p0 m0.sure_ c0 p1 m0.off_ m0.armed_ m0.left_ m0.fall_.Keep m0.fall_.Tear m0.acts_ m0.falls_, own e_disk_sector 51 p0 c0 m0.sure_, mpo (kInt .i64) (fun x : disk_sector => Value.agg #[.string x.s_, i6 x.at_]) p1 m0.wait_] (fun r H' => (res.1 = none ∧ r = .tuple #[.pointer none, i6 1] ∧ H' = [imm I, o0 b0 p0 m0.sure_ c0 p1 m0.off_ m0.armed_ m0.left_ m0.fall_.Keep m0.fall_.Tear m0.acts_ m0.falls_, own e_disk_sector 51 p0 c0 m0.sure_, mpo (kInt .i64) (fun x : disk_sector => Value.agg #[.string x.s_, i6 x.at_]) p1 m0.wait_]) ∨ (∃ (sq1 : guard_Guard), ∃ (bq2 : Nat), res.1 = some sq1 ∧ r = .tuple #[pP bq2, i6 0] ∧ H' = [imm I, o0 b0 p0 m0.sure_ c0 p1 m0.off_ m0.armed_ m0.left_ m0.fall_.Keep m0.fall_.Tear m0.acts_ m0.falls_, o1 bq2 b0 sq1.boot_ sq1.n_, own e_disk_sector 51 p0 c0 m0.sure_, mpo (kInt .i64) (fun x : disk_sector => Value.agg #[.string x.s_, i6 x.at_]) p1 m0.wait_])) := by
  unfold F.guard_New at hF
  refine tr_of_cw (fn := Tryz.f14) Tryz.func14 rfl (Nat.le_of_ble_eq_true rfl) 21 rfl fun F0 w0 => ?_
  refine cw_keep [0, 1] (L' := [(0, pP b0), (1, i6 x1)]) rfl ?_
  refine cw_state (S' := SAT w0 ([imm I, o0 b0 p0 m0.sure_ c0 p1 m0.off_ m0.armed_ m0.left_ m0.fall_.Keep m0.fall_.Tear m0.acts_ m0.falls_, own e_disk_sector 51 p0 c0 m0.sure_, mpo (kInt .i64) (fun x : disk_sector => Value.agg #[.string x.s_, i6 x.at_]) p1 m0.wait_] ++ F0)) (fun w hs => hs) ?_
  refine cw_seq ?_
  refine cw_region ?_
  refine ow_vals 2 (j := 2) [0, 1] [(0, pP b0), (1, i6 x1)] rfl (by kernel_rfl) ?_
  refine ow_end rfl ?_
  refine ew_then ?_
  obtain ⟨v21, hF, hK21⟩ := thru_some hF
  refine cw_mid (fun a w => .inl () = v21 ∧ Fr 21 [(0, pP b0), (1, i6 x1)] a ∧ SAT w0 ([imm I, o0 b0 p0 m0.sure_ c0 p1 m0.off_ m0.armed_ m0.left_ m0.fall_.Keep m0.fall_.Tear m0.acts_ m0.falls_, own e_disk_sector 51 p0 c0 m0.sure_, mpo (kInt .i64) (fun x : disk_sector => Value.agg #[.string x.s_, i6 x.at_]) p1 m0.wait_] ++ F0) w) ?_ ?_
  · refine cw_seq ?_
    refine cw_region ?_
    refine ow_vals 1 (j := 1) [0, 1, 6] [(0, pP b0), (1, i6 x1), (6, pP b0)] rfl (by kernel_rfl) ?_
    obtain ⟨r22, h23, hF⟩ := bind_some hF
    refine ow_pw rfl (pw_call (F := [] ++ F0) rfl rfl rfl rfl rfl rfl rfl (by kernel_rfl) (perm_of_pulls [0, 0, 0, 0] rfl) (c_disk_Disk_Size _ m0 p0 c0 p1 b0 r22 h23) ?_)
    rintro _ _ ⟨rfl, rfl⟩
    refine nw_H (H' := [imm I, o0 b0 p0 m0.sure_ c0 p1 m0.off_ m0.armed_ m0.left_ m0.fall_.Keep m0.fall_.Tear m0.acts_ m0.falls_, own e_disk_sector 51 p0 c0 m0.sure_, mpo (kInt .i64) (fun x : disk_sector => Value.agg #[.string x.s_, i6 x.at_]) p1 m0.wait_] ++ F0) rfl (nw_ow ?_)
    refine ow_vals 2 (j := 4) [0, 1, 9] [(0, pP b0), (1, i6 x1), (9, .bool (r22 == 0))] rfl (by kernel_rfl) ?_
    rcases if_some hF with ⟨h24, hF⟩ | ⟨h24, hF⟩
    · refine ow_slots (L' := [(0, pP b0), (1, i6 x1), (9, .bool true)]) (by rw [h24]) ?_
      refine ow_vals 7 (j := 11) [0, 1, 16] [(0, pP b0), (1, i6 x1), (16, .bool true)] rfl (by kernel_rfl) ?_
      refine ow_end rfl ?_
      refine ew_then ?_
      refine cw_cond_t rfl rfl rfl ?_
      refine cw_seq ?_
      refine cw_region ?_
      refine ow_vals 2 (j := 2) [4, 5] [(4, .pointer none), (5, i6 1)] rfl (by kernel_rfl) ?_
      refine ow_end rfl ?_
      refine ew_then ?_
      refine cw_ret ?_
      refine ew_then_ret ?_
      have hR := Option.some.inj hF
      subst hR
      have hR := hK21
      try dsimp only [Thru] at hR
      subst hR
      exact fin2 (H1 := [imm I, o0 b0 p0 m0.sure_ c0 p1 m0.off_ m0.armed_ m0.left_ m0.fall_.Keep m0.fall_.Tear m0.acts_ m0.falls_, own e_disk_sector 51 p0 c0 m0.sure_, mpo (kInt .i64) (fun x : disk_sector => Value.agg #[.string x.s_, i6 x.at_]) p1 m0.wait_]) (fun w hs => sat_to [0, 0, 0, 0] 0 rfl hs) rfl (rr_tmp rfl) (rr_tmp rfl) (.inl ⟨rfl, rfl, rfl⟩)
    refine ow_slots (L' := [(0, pP b0), (1, i6 x1), (9, .bool false)]) (by rw [h24]) ?_
    refine ow_vals 4 (j := 8) [0, 1, 13] [(0, pP b0), (1, i6 x1), (13, .bool (decide (x1 < 1)))] rfl (by kernel_rfl) ?_
    rcases if_some hF with ⟨h25, hF⟩ | ⟨h25, hF⟩
    · refine ow_slots (L' := [(0, pP b0), (1, i6 x1), (13, .bool true)]) (by rw [h25]) ?_
      refine ow_vals 3 (j := 11) [0, 1, 16] [(0, pP b0), (1, i6 x1), (16, .bool true)] rfl (by kernel_rfl) ?_
      refine ow_end rfl ?_
      refine ew_then ?_
      refine cw_cond_t rfl rfl rfl ?_
      refine cw_seq ?_
      refine cw_region ?_
      refine ow_vals 2 (j := 2) [4, 5] [(4, .pointer none), (5, i6 1)] rfl (by kernel_rfl) ?_
      refine ow_end rfl ?_
      refine ew_then ?_
      refine cw_ret ?_
      refine ew_then_ret ?_
      have hR := Option.some.inj hF
      subst hR
      have hR := hK21
      try dsimp only [Thru] at hR
      subst hR
      exact fin2 (H1 := [imm I, o0 b0 p0 m0.sure_ c0 p1 m0.off_ m0.armed_ m0.left_ m0.fall_.Keep m0.fall_.Tear m0.acts_ m0.falls_, own e_disk_sector 51 p0 c0 m0.sure_, mpo (kInt .i64) (fun x : disk_sector => Value.agg #[.string x.s_, i6 x.at_]) p1 m0.wait_]) (fun w hs => sat_to [0, 0, 0, 0] 0 rfl hs) rfl (rr_tmp rfl) (rr_tmp rfl) (.inl ⟨rfl, rfl, rfl⟩)
    refine ow_slots (L' := [(0, pP b0), (1, i6 x1), (13, .bool false)]) (by rw [h25]) ?_
    refine ow_vals 3 (j := 11) [0, 1, 16] [(0, pP b0), (1, i6 x1), (16, .bool (decide (x1 > 2147483647)))] rfl (by kernel_rfl) ?_
    refine ow_end rfl ?_
    refine ew_then ?_
    rcases if_some hF with ⟨h26, hF⟩ | ⟨h26, hF⟩
    · refine cw_cond_t rfl rfl h26 ?_
      refine cw_seq ?_
      refine cw_region ?_
      refine ow_vals 2 (j := 2) [4, 5] [(4, .pointer none), (5, i6 1)] rfl (by kernel_rfl) ?_
      refine ow_end rfl ?_
      refine ew_then ?_
      refine cw_ret ?_
      refine ew_then_ret ?_
      have hR := Option.some.inj hF
      subst hR
      have hR := hK21
      try dsimp only [Thru] at hR
      subst hR
      exact fin2 (H1 := [imm I, o0 b0 p0 m0.sure_ c0 p1 m0.off_ m0.armed_ m0.left_ m0.fall_.Keep m0.fall_.Tear m0.acts_ m0.falls_, own e_disk_sector 51 p0 c0 m0.sure_, mpo (kInt .i64) (fun x : disk_sector => Value.agg #[.string x.s_, i6 x.at_]) p1 m0.wait_]) (fun w hs => sat_to [0, 0, 0, 0] 0 rfl hs) rfl (rr_tmp rfl) (rr_tmp rfl) (.inl ⟨rfl, rfl, rfl⟩)
    refine cw_cond_f rfl rfl h26 ?_
    refine cw_skip ?_
    have hR := Option.some.inj hF
    exact fun a w hf hs => ⟨hR, hf.keep [0, 1], sat_to [0, 0, 0, 0] 0 rfl hs⟩
  rintro a w ⟨hv, hf, hs⟩
  subst hv
  replace hF := hK21
  clear hK21
  try dsimp only [Thru] at hF
  revert a w
  show CW _ _ _ 21 [(0, pP b0), (1, i6 x1)] (SAT w0 ([imm I, o0 b0 p0 m0.sure_ c0 p1 m0.off_ m0.armed_ m0.left_ m0.fall_.Keep m0.fall_.Tear m0.acts_ m0.falls_, own e_disk_sector 51 p0 c0 m0.sure_, mpo (kInt .i64) (fun x : disk_sector => Value.agg #[.string x.s_, i6 x.at_]) p1 m0.wait_] ++ F0))
  unfold F.guard_New.r1 at hF
  refine cw_seq ?_
  refine cw_region ?_
  refine ow_vals 3 (j := 3) [19] [(19, .agg #[pP b0, i6 x1, i6 0])] rfl (by kernel_rfl) ?_
  refine ow_pw rfl (pw_box (cs := #[pP b0, i6 x1, i6 0]) rfl rfl rfl rfl rfl rfl fun b27 => nw_ow ?_)
  refine ow_vals 2 (j := 6) [4, 5] [(4, pP b27), (5, i6 0)] rfl (by kernel_rfl) ?_
  refine ow_end rfl ?_
  refine ew_then ?_
  refine cw_ret ?_
  have hR := Option.some.inj hF
  subst hR
  exact fin2 (H1 := [imm I, o0 b0 p0 m0.sure_ c0 p1 m0.off_ m0.armed_ m0.left_ m0.fall_.Keep m0.fall_.Tear m0.acts_ m0.falls_, o1 b27 b0 ((⟨x1, 0⟩ : guard_Guard).boot_) ((⟨x1, 0⟩ : guard_Guard).n_), own e_disk_sector 51 p0 c0 m0.sure_, mpo (kInt .i64) (fun x : disk_sector => Value.agg #[.string x.s_, i6 x.at_]) p1 m0.wait_]) (fun w hs => sat_to [1, 1, 0, 0, 0] 0 rfl hs) rfl (rr_tmp rfl) (rr_tmp rfl) (.inr ⟨(⟨x1, 0⟩ : guard_Guard), b27, rfl, rfl, rfl⟩)


def F.guard_Guard_none (m0 : guard_Guard) (m1 : disk_Disk) : Option Unit :=
  some (())
set_option maxRecDepth 100000 in
set_option maxHeartbeats 4000000 in
theorem c_guard_Guard_none (I : Hl) (m0 : guard_Guard) (m1 : disk_Disk) (b0 : Nat) (p0 : Option Addr) (c0 : Nat) (p1 : Nat) (b1 : Nat) (res : Unit) (hF : F.guard_Guard_none m0 m1 = some res) : Tr Tryz.prog 39 [pP b0] [imm I, o1 b0 b1 m0.boot_ m0.n_, o0 b1 p0 m1.sure_ c0 p1 m1.off_ m1.armed_ m1.left_ m1.fall_.Keep m1.fall_.Tear m1.acts_ m1.falls_, own e_disk_sector 51 p0 c0 m1.sure_, mpo (kInt .i64) (fun x : disk_sector => Value.agg #[.string x.s_, i6 x.at_]) p1 m1.wait_] (fun r H' => r = .bool false ∧ H' = [imm I, o1 b0 b1 m0.boot_ m0.n_, o0 b1 p0 m1.sure_ c0 p1 m1.off_ m1.armed_ m1.left_ m1.fall_.Keep m1.fall_.Tear m1.acts_ m1.falls_, own e_disk_sector 51 p0 c0 m1.sure_, mpo (kInt .i64) (fun x : disk_sector => Value.agg #[.string x.s_, i6 x.at_]) p1 m1.wait_]) := by
  unfold F.guard_Guard_none at hF
  refine tr_of_cw (fn := Tryz.f39) Tryz.func39 rfl (Nat.le_of_ble_eq_true rfl) 12 rfl fun F0 w0 => ?_
  refine cw_keep [0] (L' := [(0, pP b0)]) rfl ?_
  refine cw_state (S' := SAT w0 ([imm I, o1 b0 b1 m0.boot_ m0.n_, o0 b1 p0 m1.sure_ c0 p1 m1.off_ m1.armed_ m1.left_ m1.fall_.Keep m1.fall_.Tear m1.acts_ m1.falls_, own e_disk_sector 51 p0 c0 m1.sure_, mpo (kInt .i64) (fun x : disk_sector => Value.agg #[.string x.s_, i6 x.at_]) p1 m1.wait_] ++ F0)) (fun w hs => hs) ?_
  refine cw_seq ?_
  refine cw_region ?_
  refine ow_vals 1 (j := 1) [0] [(0, pP b0)] rfl (by kernel_rfl) ?_
  refine ow_end rfl ?_
  refine ew_then ?_
  refine cw_seq ?_
  refine cw_region ?_
  refine ow_vals 6 (j := 6) [5, 8] [(5, .bool false), (8, pP b0)] rfl (by kernel_rfl) ?_
  refine ow_pw rfl (pw_quiet (v := pP b1) rfl rfl rfl rfl (q_load 1 rfl rfl rfl (by kernel_rfl)) (nw_ow ?_))
  refine ow_vals 3 (j := 10) [2] [(2, .bool false)] rfl (by kernel_rfl) ?_
  refine ow_end rfl ?_
  refine ew_then ?_
  refine cw_ret ?_
  have hR := Option.some.inj hF
  subst hR
  exact fin1 (H1 := [imm I, o1 b0 b1 m0.boot_ m0.n_, o0 b1 p0 m1.sure_ c0 p1 m1.off_ m1.armed_ m1.left_ m1.fall_.Keep m1.fall_.Tear m1.acts_ m1.falls_, own e_disk_sector 51 p0 c0 m1.sure_, mpo (kInt .i64) (fun x : disk_sector => Value.agg #[.string x.s_, i6 x.at_]) p1 m1.wait_]) (fun w hs => sat_to [0, 0, 0, 0, 0] 0 rfl hs) rfl (rr_tmp rfl) ⟨rfl, rfl⟩


def F.guard_Guard_Disk (m0 : guard_Guard) (m1 : disk_Disk) : Option Unit :=
  Option.bind (F.guard_Guard_none m0 m1) (fun (r21 : Unit) => some (()))
set_option maxRecDepth 100000 in
set_option maxHeartbeats 4000000 in
theorem c_guard_Guard_Disk (I : Hl) (m0 : guard_Guard) (m1 : disk_Disk) (b0 : Nat) (p0 : Option Addr) (c0 : Nat) (p1 : Nat) (b1 : Nat) (res : Unit) (hF : F.guard_Guard_Disk m0 m1 = some res) : Tr Tryz.prog 34 [pP b0] [imm I, o1 b0 b1 m0.boot_ m0.n_, o0 b1 p0 m1.sure_ c0 p1 m1.off_ m1.armed_ m1.left_ m1.fall_.Keep m1.fall_.Tear m1.acts_ m1.falls_, own e_disk_sector 51 p0 c0 m1.sure_, mpo (kInt .i64) (fun x : disk_sector => Value.agg #[.string x.s_, i6 x.at_]) p1 m1.wait_] (fun r H' => r = pP b1 ∧ H' = [imm I, o1 b0 b1 m0.boot_ m0.n_, o0 b1 p0 m1.sure_ c0 p1 m1.off_ m1.armed_ m1.left_ m1.fall_.Keep m1.fall_.Tear m1.acts_ m1.falls_, own e_disk_sector 51 p0 c0 m1.sure_, mpo (kInt .i64) (fun x : disk_sector => Value.agg #[.string x.s_, i6 x.at_]) p1 m1.wait_]) := by
  unfold F.guard_Guard_Disk at hF
  refine tr_of_cw (fn := Tryz.f34) Tryz.func34 rfl (Nat.le_of_ble_eq_true rfl) 9 rfl fun F0 w0 => ?_
  refine cw_keep [0] (L' := [(0, pP b0)]) rfl ?_
  refine cw_state (S' := SAT w0 ([imm I, o1 b0 b1 m0.boot_ m0.n_, o0 b1 p0 m1.sure_ c0 p1 m1.off_ m1.armed_ m1.left_ m1.fall_.Keep m1.fall_.Tear m1.acts_ m1.falls_, own e_disk_sector 51 p0 c0 m1.sure_, mpo (kInt .i64) (fun x : disk_sector => Value.agg #[.string x.s_, i6 x.at_]) p1 m1.wait_] ++ F0)) (fun w hs => hs) ?_
  refine cw_seq ?_
  refine cw_region ?_
  refine ow_vals 1 (j := 1) [0] [(0, pP b0)] rfl (by kernel_rfl) ?_
  refine ow_end rfl ?_
  refine ew_then ?_
  refine cw_seq ?_
  refine cw_seq ?_
  refine cw_region ?_
  refine ow_vals 1 (j := 1) [0, 3] [(0, pP b0), (3, pP b0)] rfl (by kernel_rfl) ?_
  obtain ⟨r21, h22, hF⟩ := bind_some hF
  refine ow_pw rfl (pw_call (F := [] ++ F0) rfl rfl rfl rfl rfl rfl rfl (by kernel_rfl) (perm_of_pulls [0, 0, 0, 0, 0] rfl) (c_guard_Guard_none _ m0 m1 b0 p0 c0 p1 b1 r21 h22) ?_)
  rintro _ _ ⟨rfl, rfl⟩
  refine nw_H (H' := [imm I, o1 b0 b1 m0.boot_ m0.n_, o0 b1 p0 m1.sure_ c0 p1 m1.off_ m1.armed_ m1.left_ m1.fall_.Keep m1.fall_.Tear m1.acts_ m1.falls_, own e_disk_sector 51 p0 c0 m1.sure_, mpo (kInt .i64) (fun x : disk_sector => Value.agg #[.string x.s_, i6 x.at_]) p1 m1.wait_] ++ F0) rfl (nw_ow ?_)
  refine ow_end rfl ?_
  refine ew_then ?_
  refine cw_cond_f rfl rfl rfl ?_
  refine cw_skip ?_
  refine ew_then ?_
  refine cw_seq ?_
  refine cw_region ?_
  refine ow_vals 3 (j := 3) [7] [(7, pP b0)] rfl (by kernel_rfl) ?_
  refine ow_pw rfl (pw_quiet (v := pP b1) rfl rfl rfl rfl (q_load 1 rfl rfl rfl (by kernel_rfl)) (nw_ow ?_))
  refine ow_vals 1 (j := 5) [2] [(2, pP b1)] rfl (by kernel_rfl) ?_
  refine ow_end rfl ?_
  refine ew_then ?_
  refine cw_ret ?_
  have hR := Option.some.inj hF
  subst hR
  exact fin1 (H1 := [imm I, o1 b0 b1 m0.boot_ m0.n_, o0 b1 p0 m1.sure_ c0 p1 m1.off_ m1.armed_ m1.left_ m1.fall_.Keep m1.fall_.Tear m1.acts_ m1.falls_, own e_disk_sector 51 p0 c0 m1.sure_, mpo (kInt .i64) (fun x : disk_sector => Value.agg #[.string x.s_, i6 x.at_]) p1 m1.wait_]) (fun w hs => sat_to [0, 0, 0, 0, 0] 0 rfl hs) rfl (rr_tmp rfl) ⟨rfl, rfl⟩


def F.disk_Disk_why (x1 : Int) (m0 : disk_Disk) : Option Int :=
  Option.bind (F.disk_Disk_Size m0) (fun (r21 : Int) => if r21 == 0 then (some (9)) else (if m0.off_ then (some (8)) else (if decide (x1 < 0) then (some (5)) else (if decide (x1 ≥ (m0.sure_.length : Int)) then (some (5)) else (some (0))))))
set_option maxRecDepth 100000 in
set_option maxHeartbeats 4000000 in
theorem c_disk_Disk_why (I : Hl) (x1 : Int) (m0 : disk_Disk) (p0 : Option Addr) (c0 : Nat) (p1 : Nat) (b0 : Nat) (res : Int) (hF : F.disk_Disk_why x1 m0 = some res) : Tr Tryz.prog 28 [pP b0, i6 x1] [imm I, o0 b0 p0 m0.sure_ c0 p1 m0.off_ m0.armed_ m0.left_ m0.fall_.Keep m0.fall_.Tear m0.acts_ m0.falls_, own e_disk_sector 51 p0 c0 m0.sure_, mpo (kInt .i64) (fun x : disk_sector => Value.agg #[.string x.s_, i6 x.at_]) p1 m0.wait_] (fun r H' => r = i6 res ∧ H' = [imm I, o0 b0 p0 m0.sure_ c0 p1 m0.off_ m0.armed_ m0.left_ m0.fall_.Keep m0.fall_.Tear m0.acts_ m0.falls_, own e_disk_sector 51 p0 c0 m0.sure_, mpo (kInt .i64) (fun x : disk_sector => Value.agg #[.string x.s_, i6 x.at_]) p1 m0.wait_]) := by
  unfold F.disk_Disk_why at hF
  refine tr_of_cw (fn := Tryz.f28) Tryz.func28 rfl (Nat.le_of_ble_eq_true rfl) 26 rfl fun F0 w0 => ?_
  refine cw_keep [0, 1] (L' := [(0, pP b0), (1, i6 x1)]) rfl ?_
  refine cw_state (S' := SAT w0 ([imm I, o0 b0 p0 m0.sure_ c0 p1 m0.off_ m0.armed_ m0.left_ m0.fall_.Keep m0.fall_.Tear m0.acts_ m0.falls_, own e_disk_sector 51 p0 c0 m0.sure_, mpo (kInt .i64) (fun x : disk_sector => Value.agg #[.string x.s_, i6 x.at_]) p1 m0.wait_] ++ F0)) (fun w hs => hs) ?_
  refine cw_seq ?_
  refine cw_region ?_
  refine ow_vals 1 (j := 1) [0, 1] [(0, pP b0), (1, i6 x1)] rfl (by kernel_rfl) ?_
  refine ow_end rfl ?_
  refine ew_then ?_
  refine cw_seq ?_
  refine cw_block ?_
  refine cw_seq ?_
  refine cw_region ?_
  refine ow_vals 1 (j := 1) [0, 1, 6] [(0, pP b0), (1, i6 x1), (6, pP b0)] rfl (by kernel_rfl) ?_
  obtain ⟨r21, h22, hF⟩ := bind_some hF
  refine ow_pw rfl (pw_call (F := [] ++ F0) rfl rfl rfl rfl rfl rfl rfl (by kernel_rfl) (perm_of_pulls [0, 0, 0, 0] rfl) (c_disk_Disk_Size _ m0 p0 c0 p1 b0 r21 h22) ?_)
  rintro _ _ ⟨rfl, rfl⟩
  refine nw_H (H' := [imm I, o0 b0 p0 m0.sure_ c0 p1 m0.off_ m0.armed_ m0.left_ m0.fall_.Keep m0.fall_.Tear m0.acts_ m0.falls_, own e_disk_sector 51 p0 c0 m0.sure_, mpo (kInt .i64) (fun x : disk_sector => Value.agg #[.string x.s_, i6 x.at_]) p1 m0.wait_] ++ F0) rfl (nw_ow ?_)
  refine ow_vals 2 (j := 4) [0, 1, 5] [(0, pP b0), (1, i6 x1), (5, .bool (r21 == 0))] rfl (by kernel_rfl) ?_
  refine ow_end rfl ?_
  refine ew_then ?_
  rcases if_some hF with ⟨h23, hF⟩ | ⟨h23, hF⟩
  · refine cw_cond_t rfl rfl h23 ?_
    refine cw_seq ?_
    refine cw_region ?_
    refine ow_vals 1 (j := 1) [4] [(4, i6 9)] rfl (by kernel_rfl) ?_
    refine ow_end rfl ?_
    refine ew_then ?_
    refine cw_ret ?_
    refine ew_blk_ret ?_
    refine ew_then_ret ?_
    have hR := Option.some.inj hF
    subst hR
    exact fin1 (H1 := [imm I, o0 b0 p0 m0.sure_ c0 p1 m0.off_ m0.armed_ m0.left_ m0.fall_.Keep m0.fall_.Tear m0.acts_ m0.falls_, own e_disk_sector 51 p0 c0 m0.sure_, mpo (kInt .i64) (fun x : disk_sector => Value.agg #[.string x.s_, i6 x.at_]) p1 m0.wait_]) (fun w hs => sat_to [0, 0, 0, 0] 0 rfl hs) rfl (rr_tmp rfl) ⟨rfl, rfl⟩
  refine cw_cond_f rfl rfl h23 ?_
  refine cw_seq ?_
  refine cw_region ?_
  refine ow_vals 3 (j := 3) [0, 1, 12] [(0, pP b0), (1, i6 x1), (12, .pointer (some ⟨b0, 2, none⟩))] rfl (by kernel_rfl) ?_
  refine ow_pw rfl (pw_quiet (v := .bool m0.off_) rfl rfl rfl rfl (q_load 1 rfl rfl rfl (by kernel_rfl)) (nw_ow ?_))
  refine ow_vals 1 (j := 5) [0, 1, 9] [(0, pP b0), (1, i6 x1), (9, .bool m0.off_)] rfl (by kernel_rfl) ?_
  refine ow_end rfl ?_
  refine ew_then ?_
  rcases if_some hF with ⟨h24, hF⟩ | ⟨h24, hF⟩
  · refine cw_cond_t rfl rfl h24 ?_
    refine cw_seq ?_
    refine cw_region ?_
    refine ow_vals 1 (j := 1) [4] [(4, i6 8)] rfl (by kernel_rfl) ?_
    refine ow_end rfl ?_
    refine ew_then ?_
    refine cw_ret ?_
    refine ew_blk_ret ?_
    refine ew_then_ret ?_
    have hR := Option.some.inj hF
    subst hR
    exact fin1 (H1 := [imm I, o0 b0 p0 m0.sure_ c0 p1 m0.off_ m0.armed_ m0.left_ m0.fall_.Keep m0.fall_.Tear m0.acts_ m0.falls_, own e_disk_sector 51 p0 c0 m0.sure_, mpo (kInt .i64) (fun x : disk_sector => Value.agg #[.string x.s_, i6 x.at_]) p1 m0.wait_]) (fun w hs => sat_to [0, 0, 0, 0] 0 rfl hs) rfl (rr_tmp rfl) ⟨rfl, rfl⟩
  refine cw_cond_f rfl rfl h24 ?_
  refine cw_seq ?_
  refine cw_region ?_
  refine ow_vals 3 (j := 3) [0, 1, 17] [(0, pP b0), (1, i6 x1), (17, .bool (decide (x1 < 0)))] rfl (by kernel_rfl) ?_
  rcases if_some hF with ⟨h25, hF⟩ | ⟨h25, hF⟩
  · refine ow_slots (L' := [(0, pP b0), (1, i6 x1), (17, .bool true)]) (by rw [h25]) ?_
    refine ow_vals 9 (j := 12) [14] [(14, .bool true)] rfl (by kernel_rfl) ?_
    refine ow_end rfl ?_
    refine ew_then ?_
    refine cw_cond_t rfl rfl rfl ?_
    refine cw_seq ?_
    refine cw_region ?_
    refine ow_vals 1 (j := 1) [4] [(4, i6 5)] rfl (by kernel_rfl) ?_
    refine ow_end rfl ?_
    refine ew_then ?_
    refine cw_ret ?_
    refine ew_blk_ret ?_
    refine ew_then_ret ?_
    have hR := Option.some.inj hF
    subst hR
    exact fin1 (H1 := [imm I, o0 b0 p0 m0.sure_ c0 p1 m0.off_ m0.armed_ m0.left_ m0.fall_.Keep m0.fall_.Tear m0.acts_ m0.falls_, own e_disk_sector 51 p0 c0 m0.sure_, mpo (kInt .i64) (fun x : disk_sector => Value.agg #[.string x.s_, i6 x.at_]) p1 m0.wait_]) (fun w hs => sat_to [0, 0, 0, 0] 0 rfl hs) rfl (rr_tmp rfl) ⟨rfl, rfl⟩
  refine ow_slots (L' := [(0, pP b0), (1, i6 x1), (17, .bool false)]) (by rw [h25]) ?_
  refine ow_vals 4 (j := 7) [17, 18, 21] [(17, .bool false), (18, i6 x1), (21, pP b0)] rfl (by kernel_rfl) ?_
  refine ow_pw rfl (pw_quiet (v := .slice p0 m0.sure_.length c0) rfl rfl rfl rfl (q_load 1 rfl rfl rfl (by kernel_rfl)) (nw_ow ?_))
  refine ow_vals 4 (j := 12) [14] [(14, .bool (decide (x1 ≥ (m0.sure_.length : Int))))] rfl (by kernel_rfl) ?_
  refine ow_end rfl ?_
  refine ew_then ?_
  rcases if_some hF with ⟨h26, hF⟩ | ⟨h26, hF⟩
  · refine cw_cond_t rfl rfl h26 ?_
    refine cw_seq ?_
    refine cw_region ?_
    refine ow_vals 1 (j := 1) [4] [(4, i6 5)] rfl (by kernel_rfl) ?_
    refine ow_end rfl ?_
    refine ew_then ?_
    refine cw_ret ?_
    refine ew_blk_ret ?_
    refine ew_then_ret ?_
    have hR := Option.some.inj hF
    subst hR
    exact fin1 (H1 := [imm I, o0 b0 p0 m0.sure_ c0 p1 m0.off_ m0.armed_ m0.left_ m0.fall_.Keep m0.fall_.Tear m0.acts_ m0.falls_, own e_disk_sector 51 p0 c0 m0.sure_, mpo (kInt .i64) (fun x : disk_sector => Value.agg #[.string x.s_, i6 x.at_]) p1 m0.wait_]) (fun w hs => sat_to [0, 0, 0, 0] 0 rfl hs) rfl (rr_tmp rfl) ⟨rfl, rfl⟩
  refine cw_cond_f rfl rfl h26 ?_
  refine cw_skip ?_
  refine ew_blk ?_
  refine ew_then ?_
  refine cw_seq ?_
  refine cw_region ?_
  refine ow_vals 1 (j := 1) [4] [(4, i6 0)] rfl (by kernel_rfl) ?_
  refine ow_end rfl ?_
  refine ew_then ?_
  refine cw_ret ?_
  have hR := Option.some.inj hF
  subst hR
  exact fin1 (H1 := [imm I, o0 b0 p0 m0.sure_ c0 p1 m0.off_ m0.armed_ m0.left_ m0.fall_.Keep m0.fall_.Tear m0.acts_ m0.falls_, own e_disk_sector 51 p0 c0 m0.sure_, mpo (kInt .i64) (fun x : disk_sector => Value.agg #[.string x.s_, i6 x.at_]) p1 m0.wait_]) (fun w hs => sat_to [0, 0, 0, 0] 0 rfl hs) rfl (rr_tmp rfl) ⟨rfl, rfl⟩


def F.disk_Disk_Read (x1 : Int) (m0 : disk_Disk) : Option (ByteArray × Int) :=
  Option.bind (F.disk_Disk_why x1 m0) (fun (r21 : Int) => if r21 != 0 then (some (((ByteArray.mk #[]), r21))) else (if mhas m0.wait_ x1 then (some (((mgetD m0.wait_ x1 (⟨(ByteArray.mk #[]), 0⟩ : disk_sector)).s_, 0))) else (Option.bind (at_ m0.sure_ x1) (fun (y27 : disk_sector) => some ((y27.s_, 0))))))
set_option maxRecDepth 100000 in
set_option maxHeartbeats 4000000 in
theorem c_disk_Disk_Read (I : Hl) (x1 : Int) (m0 : disk_Disk) (p0 : Option Addr) (c0 : Nat) (p1 : Nat) (b0 : Nat) (res : ByteArray × Int) (hF : F.disk_Disk_Read x1 m0 = some res) : Tr Tryz.prog 65 [pP b0, i6 x1] [imm I, o0 b0 p0 m0.sure_ c0 p1 m0.off_ m0.armed_ m0.left_ m0.fall_.Keep m0.fall_.Tear m0.acts_ m0.falls_, own e_disk_sector 51 p0 c0 m0.sure_, mpo (kInt .i64) (fun x : disk_sector => Value.agg #[.string x.s_, i6 x.at_]) p1 m0.wait_] (fun r H' => r = .tuple #[.string res.1, i6 res.2] ∧ H' = [imm I, o0 b0 p0 m0.sure_ c0 p1 m0.off_ m0.armed_ m0.left_ m0.fall_.Keep m0.fall_.Tear m0.acts_ m0.falls_, own e_disk_sector 51 p0 c0 m0.sure_, mpo (kInt .i64) (fun x : disk_sector => Value.agg #[.string x.s_, i6 x.at_]) p1 m0.wait_]) := by
  unfold F.disk_Disk_Read at hF
  refine tr_of_cw (fn := Tryz.f65) Tryz.func65 rfl (Nat.le_of_ble_eq_true rfl) 35 rfl fun F0 w0 => ?_
  refine cw_keep [0, 1] (L' := [(0, pP b0), (1, i6 x1)]) rfl ?_
  refine cw_state (S' := SAT w0 ([imm I, o0 b0 p0 m0.sure_ c0 p1 m0.off_ m0.armed_ m0.left_ m0.fall_.Keep m0.fall_.Tear m0.acts_ m0.falls_, own e_disk_sector 51 p0 c0 m0.sure_, mpo (kInt .i64) (fun x : disk_sector => Value.agg #[.string x.s_, i6 x.at_]) p1 m0.wait_] ++ F0)) (fun w hs => hs) ?_
  refine cw_seq ?_
  refine cw_region ?_
  refine ow_vals 2 (j := 2) [0, 1] [(0, pP b0), (1, i6 x1)] rfl (by kernel_rfl) ?_
  refine ow_end rfl ?_
  refine ew_then ?_
  refine cw_seq ?_
  refine cw_seq ?_
  refine cw_region ?_
  refine ow_vals 2 (j := 2) [0, 1, 9, 10] [(0, pP b0), (1, i6 x1), (9, pP b0), (10, i6 x1)] rfl (by kernel_rfl) ?_
  obtain ⟨r21, h22, hF⟩ := bind_some hF
  refine ow_pw rfl (pw_call (F := [] ++ F0) rfl rfl rfl rfl rfl rfl rfl (by kernel_rfl) (perm_of_pulls [0, 0, 0, 0] rfl) (c_disk_Disk_why _ x1 m0 p0 c0 p1 b0 r21 h22) ?_)
  rintro _ _ ⟨rfl, rfl⟩
  refine nw_H (H' := [imm I, o0 b0 p0 m0.sure_ c0 p1 m0.off_ m0.armed_ m0.left_ m0.fall_.Keep m0.fall_.Tear m0.acts_ m0.falls_, own e_disk_sector 51 p0 c0 m0.sure_, mpo (kInt .i64) (fun x : disk_sector => Value.agg #[.string x.s_, i6 x.at_]) p1 m0.wait_] ++ F0) rfl (nw_ow ?_)
  refine ow_vals 1 (j := 4) [0, 1, 6] [(0, pP b0), (1, i6 x1), (6, i6 r21)] rfl (by kernel_rfl) ?_
  refine ow_end rfl ?_
  refine ew_then ?_
  refine cw_seq ?_
  refine cw_region ?_
  refine ow_vals 2 (j := 2) [0, 1, 6, 13] [(0, pP b0), (1, i6 x1), (6, i6 r21), (13, .bool (r21 != 0))] rfl (by kernel_rfl) ?_
  refine ow_end rfl ?_
  refine ew_then ?_
  rcases if_some hF with ⟨h23, hF⟩ | ⟨h23, hF⟩
  · refine cw_cond_t rfl rfl h23 ?_
    refine cw_seq ?_
    refine cw_region ?_
    refine ow_vals 3 (j := 3) [4, 5] [(4, .string (ByteArray.mk #[])), (5, i6 r21)] rfl (by kernel_rfl) ?_
    refine ow_end rfl ?_
    refine ew_then ?_
    refine cw_ret ?_
    refine ew_then_ret ?_
    have hR := Option.some.inj hF
    subst hR
    exact fin2 (H1 := [imm I, o0 b0 p0 m0.sure_ c0 p1 m0.off_ m0.armed_ m0.left_ m0.fall_.Keep m0.fall_.Tear m0.acts_ m0.falls_, own e_disk_sector 51 p0 c0 m0.sure_, mpo (kInt .i64) (fun x : disk_sector => Value.agg #[.string x.s_, i6 x.at_]) p1 m0.wait_]) (fun w hs => sat_to [0, 0, 0, 0] 0 rfl hs) rfl (rr_tmp rfl) (rr_tmp rfl) ⟨rfl, rfl⟩
  refine cw_cond_f rfl rfl h23 ?_
  refine cw_skip ?_
  refine ew_then ?_
  refine cw_seq ?_
  refine cw_seq ?_
  refine cw_region ?_
  refine ow_vals 3 (j := 3) [0, 1, 18] [(0, pP b0), (1, i6 x1), (18, .pointer (some ⟨b0, 1, none⟩))] rfl (by kernel_rfl) ?_
  refine ow_pw rfl (pw_quiet (v := .map (some p1)) rfl rfl rfl rfl (q_load 1 rfl rfl rfl (by kernel_rfl)) (nw_ow ?_))
  refine ow_vals 1 (j := 5) [0, 1, 19, 20] [(0, pP b0), (1, i6 x1), (19, .map (some p1)), (20, i6 x1)] rfl (by kernel_rfl) ?_
  refine ow_pw rfl (pw_quiet (v := .tuple #[.agg #[.string ((mgetD m0.wait_ x1 (⟨(ByteArray.mk #[]), 0⟩ : disk_sector)).s_), i6 ((mgetD m0.wait_ x1 (⟨(ByteArray.mk #[]), 0⟩ : disk_sector)).at_)], .bool (mhas m0.wait_ x1)]) rfl rfl rfl rfl (q_lookup2 (kf := (kInt .i64)) (vf := (fun x : disk_sector => Value.agg #[.string x.s_, i6 x.at_])) (key := x1) 3 (⟨(ByteArray.mk #[]), 0⟩ : disk_sector) (mkey_int (by kernel_rfl)) rfl rfl rfl rfl rfl (by kernel_rfl)) (nw_ow ?_))
  refine ow_vals 3 (j := 9) [0, 1, 22, 23] [(0, pP b0), (1, i6 x1), (22, .agg #[.string ((mgetD m0.wait_ x1 (⟨(ByteArray.mk #[]), 0⟩ : disk_sector)).s_), i6 ((mgetD m0.wait_ x1 (⟨(ByteArray.mk #[]), 0⟩ : disk_sector)).at_)]), (23, .bool (mhas m0.wait_ x1))] rfl (by kernel_rfl) ?_
  refine ow_pw rfl (pw_alloc (cs := #[.string (ByteArray.mk #[]), i6 0]) rfl rfl rfl rfl rfl (by kernel_rfl) fun b24 => nw_ow ?_)
  refine ow_pw rfl (pw_store 0 #[.string ((mgetD m0.wait_ x1 (⟨(ByteArray.mk #[]), 0⟩ : disk_sector)).s_), i6 ((mgetD m0.wait_ x1 (⟨(ByteArray.mk #[]), 0⟩ : disk_sector)).at_)] rfl rfl rfl rfl rfl rfl rfl (by kernel_rfl) (nw_H (H' := [o2 b24 ((mgetD m0.wait_ x1 (⟨(ByteArray.mk #[]), 0⟩ : disk_sector)).s_) ((mgetD m0.wait_ x1 (⟨(ByteArray.mk #[]), 0⟩ : disk_sector)).at_), imm I, o0 b0 p0 m0.sure_ c0 p1 m0.off_ m0.armed_ m0.left_ m0.fall_.Keep m0.fall_.Tear m0.acts_ m0.falls_, own e_disk_sector 51 p0 c0 m0.sure_, mpo (kInt .i64) (fun x : disk_sector => Value.agg #[.string x.s_, i6 x.at_]) p1 m0.wait_] ++ F0) rfl (nw_ow ?_)))
  refine ow_vals 1 (j := 12) [0, 1, 7, 8] [(0, pP b0), (1, i6 x1), (7, pP b24), (8, .bool (mhas m0.wait_ x1))] rfl (by kernel_rfl) ?_
  refine ow_end rfl ?_
  refine ew_then ?_
  refine cw_seq ?_
  refine cw_region ?_
  refine ow_vals 1 (j := 1) [0, 1, 7, 24] [(0, pP b0), (1, i6 x1), (7, pP b24), (24, .bool (mhas m0.wait_ x1))] rfl (by kernel_rfl) ?_
  refine ow_end rfl ?_
  refine ew_then ?_
  rcases if_some hF with ⟨h26, hF⟩ | ⟨h26, hF⟩
  · refine cw_cond_t rfl rfl h26 ?_
    refine cw_seq ?_
    refine cw_region ?_
    refine ow_vals 1 (j := 1) [25] [(25, pP b24)] rfl (by kernel_rfl) ?_
    refine ow_pw rfl (pw_quiet (v := .string ((mgetD m0.wait_ x1 (⟨(ByteArray.mk #[]), 0⟩ : disk_sector)).s_)) rfl rfl rfl rfl (q_load 0 rfl rfl rfl (by kernel_rfl)) (nw_ow ?_))
    refine ow_vals 2 (j := 4) [4, 5] [(4, .string ((mgetD m0.wait_ x1 (⟨(ByteArray.mk #[]), 0⟩ : disk_sector)).s_)), (5, i6 0)] rfl (by kernel_rfl) ?_
    refine ow_end rfl ?_
    refine ew_then ?_
    refine cw_ret ?_
    refine ew_then_ret ?_
    have hR := Option.some.inj hF
    subst hR
    exact fin2 (H1 := [imm I, o0 b0 p0 m0.sure_ c0 p1 m0.off_ m0.armed_ m0.left_ m0.fall_.Keep m0.fall_.Tear m0.acts_ m0.falls_, own e_disk_sector 51 p0 c0 m0.sure_, mpo (kInt .i64) (fun x : disk_sector => Value.agg #[.string x.s_, i6 x.at_]) p1 m0.wait_]) (fun w hs => sat_to [0, 0, 0, 0, 0] 1 rfl hs) rfl (rr_tmp rfl) (rr_tmp rfl) ⟨rfl, rfl⟩
  refine cw_cond_f rfl rfl h26 ?_
  refine cw_skip ?_
  refine ew_then ?_
  refine cw_seq ?_
  refine cw_region ?_
  refine ow_vals 3 (j := 3) [1, 29] [(1, i6 x1), (29, pP b0)] rfl (by kernel_rfl) ?_
  refine ow_pw rfl (pw_quiet (v := .slice p0 m0.sure_.length c0) rfl rfl rfl rfl (q_load 2 rfl rfl rfl (by kernel_rfl)) (nw_ow ?_))
  refine ow_vals 1 (j := 5) [30, 31] [(30, .slice p0 m0.sure_.length c0), (31, i6 x1)] rfl (by kernel_rfl) ?_
  obtain ⟨y27, h28, hF⟩ := bind_some hF
  refine ow_pw rfl (pw_quiet (v := .pointer (some ((base p0).add (x1.toNat * 2)))) rfl rfl rfl rfl (q_index_own 3 2 rfl rfl (by kernel_rfl) rfl rfl (at_some h28).1 (at_lt h28)) (nw_ow ?_))
  refine ow_vals 1 (j := 7) [33] [(33, .pointer (some (((base p0).add (x1.toNat * 2)).add 0)))] rfl (by kernel_rfl) ?_
  refine ow_pw rfl (pw_quiet (v := .string y27.s_) rfl rfl rfl rfl (q_load_own 3 2 rfl rfl rfl rfl (at_some h28).2 (by kernel_rfl)) (nw_ow ?_))
  refine ow_vals 2 (j := 10) [4, 5] [(4, .string y27.s_), (5, i6 0)] rfl (by kernel_rfl) ?_
  refine ow_end rfl ?_
  refine ew_then ?_
  refine cw_ret ?_
  have hR := Option.some.inj hF
  subst hR
  exact fin2 (H1 := [imm I, o0 b0 p0 m0.sure_ c0 p1 m0.off_ m0.armed_ m0.left_ m0.fall_.Keep m0.fall_.Tear m0.acts_ m0.falls_, own e_disk_sector 51 p0 c0 m0.sure_, mpo (kInt .i64) (fun x : disk_sector => Value.agg #[.string x.s_, i6 x.at_]) p1 m0.wait_]) (fun w hs => sat_to [0, 0, 0, 0, 0] 1 rfl hs) rfl (rr_tmp rfl) (rr_tmp rfl) ⟨rfl, rfl⟩


def F.guard_Number.l1 (x0 : ByteArray) (x27 : Int) (x28 : Int) : Option ((Int × Int) ⊕ (Int)) :=
  if decide (x28 < ((sbytes x0).length : Int)) then (Option.bind (at_ (sbytes x0) x28) (fun (y30 : Int) => some (.inl (ior .i64 (IntKind.i64.wrap (x27 * 2 ^ 8)) (IntKind.i64.wrap (y30)), IntKind.i64.wrap (x28 + 1))))) else (some (.inr (x27)))
def F.guard_Number.r2 (x32 : Int) : Option (Int) :=
  some (x32)
def F.guard_Number (x0 : ByteArray) : Option Int :=
  Option.bind (chk (x0.size ≤ maxLen) (iter (fun x => F.guard_Number.l1 x0 x.1 x.2) FUEL (0, 0))) (fun x => F.guard_Number.r2 x)
set_option maxRecDepth 100000 in
set_option maxHeartbeats 4000000 in
theorem c_guard_Number (I : Hl) (x0 : ByteArray) (res : Int) (hF : F.guard_Number x0 = some res) : Tr Tryz.prog 58 [.string x0] [imm I] (fun r H' => r = i6 res ∧ H' = [imm I]) := by
  unfold F.guard_Number at hF
  refine tr_of_cw (fn := Tryz.f58) Tryz.func58 rfl (Nat.le_of_ble_eq_true rfl) 20 rfl fun F0 w0 => ?_
  refine cw_keep [0] (L' := [(0, .string x0)]) rfl ?_
  refine cw_state (S' := SAT w0 ([imm I] ++ F0)) (fun w hs => hs) ?_
  refine cw_seq ?_
  refine cw_region ?_
  refine ow_vals 1 (j := 1) [0] [(0, .string x0)] rfl (by kernel_rfl) ?_
  refine ow_end rfl ?_
  refine ew_then ?_
  refine cw_seq ?_
  refine cw_region ?_
  refine ow_vals 1 (j := 1) [0, 3] [(0, .string x0), (3, i6 0)] rfl (by kernel_rfl) ?_
  refine ow_end rfl ?_
  refine ew_then ?_
  obtain ⟨v21, hF, hK21⟩ := bind_some hF
  refine cw_mid (fun a w => ∃ (x32 : Int), x32 = v21 ∧ Fr 20 [(3, i6 x32)] a ∧ SAT w0 ([imm I] ++ F0) w) ?_ ?_
  · refine cw_seq ?_
    refine cw_region ?_
    refine ow_vals 1 (j := 1) [3, 6] [(3, i6 0), (6, .string x0)] rfl (by kernel_rfl) ?_
    obtain ⟨h22, hF⟩ := chk_some hF
    refine ow_pw rfl (pw_str_bytes (E := 5) rfl rfl rfl rfl rfl (by kernel_rfl) (by kernel_rfl) (by kernel_rfl) rfl h22 fun p23 c24 => nw_ow ?_)
    refine ow_vals 2 (j := 4) [3, 7, 8, 9] [(3, i6 0), (7, .slice p23 (sbytes x0).length c24), (8, i6 ((sbytes x0).length : Int)), (9, i6 0)] rfl (by kernel_rfl) ?_
    refine ow_end rfl ?_
    refine ew_then ?_
    refine cw_block ?_
    refine fun a w hf hs => wp_rounds (fun k a w => ∃ (x27 : Int), ∃ (x28 : Int), iter (fun x => F.guard_Number.l1 x0 x.1 x.2) k (x27, x28) = some v21 ∧ Fr 20 [(3, i6 x27), (7, .slice p23 (sbytes x0).length c24), (8, i6 ((sbytes x0).length : Int)), (9, i6 x28)] a ∧ SAT w0 ([imm I, own (eInt .u8) 5 p23 c24 (sbytes x0)] ++ F0) w) ?_ FUEL a w ⟨0, 0, hF, hf.keep [3, 7, 8, 9], sat_to [1, 0] 0 rfl hs⟩
    clear hf hs
    clear a w hF
    rintro k a w ⟨x27, x28, hF2, hf, hs⟩
    obtain ⟨k, r26, rfl, hF, hL26⟩ := iter_some hF2
    clear hF2
    revert a w
    show CW _ _ _ 20 [(3, i6 x27), (7, .slice p23 (sbytes x0).length c24), (8, i6 ((sbytes x0).length : Int)), (9, i6 x28)] (SAT w0 ([imm I, own (eInt .u8) 5 p23 c24 (sbytes x0)] ++ F0))
    try dsimp only at hF
    unfold F.guard_Number.l1 at hF
    refine cw_seq ?_
    refine cw_region ?_
    refine ow_vals 1 (j := 1) [3, 7, 8, 9, 10] [(3, i6 x27), (7, .slice p23 (sbytes x0).length c24), (8, i6 ((sbytes x0).length : Int)), (9, i6 x28), (10, .bool (decide (x28 < ((sbytes x0).length : Int))))] rfl (by kernel_rfl) ?_
    refine ow_end rfl ?_
    refine ew_then ?_
    refine cw_seq ?_
    rcases if_some hF with ⟨h29, hF⟩ | ⟨h29, hF⟩
    · refine cw_cond_t rfl rfl h29 ?_
      refine cw_skip ?_
      refine ew_then ?_
      refine cw_seq ?_
      refine cw_block ?_
      refine cw_seq ?_
      refine cw_region ?_
      obtain ⟨y30, h31, hF⟩ := bind_some hF
      refine ow_pw rfl (pw_quiet (v := .pointer (some ((base p23).add (x28.toNat * 1)))) rfl rfl rfl rfl (q_index_own 1 1 rfl rfl (by kernel_rfl) rfl rfl (at_some h31).1 (at_lt h31)) (nw_ow ?_))
      refine ow_pw rfl (pw_quiet (v := .int .u8 y30) rfl rfl rfl rfl (q_load_own0 1 1 rfl rfl rfl rfl (at_some h31).2 (by kernel_rfl)) (nw_ow ?_))
      refine ow_vals 1 (j := 3) [3, 5, 7, 8, 9] [(3, i6 x27), (5, .int .u8 y30), (7, .slice p23 (sbytes x0).length c24), (8, i6 ((sbytes x0).length : Int)), (9, i6 x28)] rfl (by kernel_rfl) ?_
      refine ow_end rfl ?_
      refine ew_then ?_
      refine cw_region ?_
      refine ow_vals 6 (j := 6) [3, 7, 8, 9] [(3, i6 (ior .i64 (IntKind.i64.wrap (x27 * 2 ^ 8)) (IntKind.i64.wrap (y30)))), (7, .slice p23 (sbytes x0).length c24), (8, i6 ((sbytes x0).length : Int)), (9, i6 x28)] rfl (by kernel_rfl) ?_
      refine ow_end rfl ?_
      refine ew_blk ?_
      refine ew_then ?_
      refine cw_region ?_
      refine ow_vals 2 (j := 2) [3, 7, 8, 9] [(3, i6 (ior .i64 (IntKind.i64.wrap (x27 * 2 ^ 8)) (IntKind.i64.wrap (y30)))), (7, .slice p23 (sbytes x0).length c24), (8, i6 ((sbytes x0).length : Int)), (9, i6 (IntKind.i64.wrap (x28 + 1)))] rfl (by kernel_rfl) ?_
      refine ow_end rfl ?_
      have hR := Option.some.inj hF
      subst hR
      have hR := hL26
      try dsimp only at hR
      exact fun a w hf hs => ⟨k, Nat.lt_succ_self k, ior .i64 (IntKind.i64.wrap (x27 * 2 ^ 8)) (IntKind.i64.wrap (y30)), IntKind.i64.wrap (x28 + 1), hR, hf.keep [3, 7, 8, 9], sat_to [0, 0] 0 rfl hs⟩
    refine cw_cond_f rfl rfl h29 ?_
    refine cw_exit ?_
    refine ew_then_exit ?_
    refine ew_then_exit ?_
    refine ew_blk_exit ?_
    have hR := Option.some.inj hF
    subst hR
    have hR := hL26
    try dsimp only at hR
    exact fun a w hf hs => ⟨x27, hR, hf.keep [3], sat_to [1, 0] 1 rfl hs⟩
  rintro a w ⟨x32, hv, hf, hs⟩
  subst hv
  replace hF := hK21
  clear hK21
  try dsimp only at hF
  revert a w
  show CW _ _ _ 20 [(3, i6 x32)] (SAT w0 ([imm I] ++ F0))
  unfold F.guard_Number.r2 at hF
  refine cw_seq ?_
  refine cw_region ?_
  refine ow_vals 2 (j := 2) [2] [(2, i6 x32)] rfl (by kernel_rfl) ?_
  refine ow_end rfl ?_
  refine ew_then ?_
  refine cw_ret ?_
  have hR := Option.some.inj hF
  subst hR
  exact fin1 (H1 := [imm I]) (fun w hs => sat_to [0] 0 rfl hs) rfl (rr_tmp rfl) ⟨rfl, rfl⟩


def F.strings_Trim (x0 : ByteArray) (x1 : ByteArray) : Option ByteArray :=
  chk (trimOk x0 x1) (some (trimB x0 x1))
theorem c_strings_Trim (I : Hl) (x0 : ByteArray) (x1 : ByteArray) (res : ByteArray) (hF : F.strings_Trim x0 x1 = some res) : Tr Tryz.prog 66 [.string x0, .string x1] [imm I] (fun r H' => r = .string res ∧ H' = [imm I]) := by
  unfold F.strings_Trim at hF
  obtain ⟨h, hF⟩ := chk_some hF
  obtain rfl := Option.some.inj hF
  exact tr_trim h fun c hc w => Tryz.strings_Trim_one x0 c hc w h.2.2


def F.guard_Read.r1 (r21 : ByteArray × Int) (r30 : Int) : Option (ByteArray × Int × Int) :=
  chk (0 ≤ (9 : Int) ∧ (9 : Int) ≤ (IntKind.i64.wrap (9 + (IntKind.i64.wrap (bt r21.1 8)))) ∧ (IntKind.i64.wrap (9 + (IntKind.i64.wrap (bt r21.1 8)))) ≤ (r21.1.size : Int)) (some ((r21.1.extract (9 : Int).toNat (IntKind.i64.wrap (9 + (IntKind.i64.wrap (bt r21.1 8)))).toNat, r30, 0)))
def F.guard_Read (x1 : Int) (m0 : disk_Disk) : Option (ByteArray × Int × Int) :=
  Option.bind (F.disk_Disk_Read x1 m0) (fun (r21 : ByteArray × Int) => if r21.2 != 0 then (some (((ByteArray.mk #[]), 0, r21.2))) else (Option.bind (F.strings_Repeat (ByteArray.mk #[0]) 64) (fun (r24 : ByteArray) => if seqB r21.1 r24 then (some (((ByteArray.mk #[]), 0, 7))) else (chk (0 ≤ (0 : Int) ∧ (0 : Int) ≤ (8 : Int) ∧ (8 : Int) ≤ (r21.1.size : Int)) (chk (0 ≤ (56 : Int) ∧ (56 : Int) ≤ (r21.1.size : Int) ∧ (r21.1.size : Int) ≤ (r21.1.size : Int)) (chk (0 ≤ (8 : Int) ∧ 8 < (r21.1.size : Int)) (Option.bind (F.guard_Number (r21.1.extract (0 : Int).toNat (8 : Int).toNat)) (fun (r30 : Int) => thru (if !(seqB (r21.1.extract (0 : Int).toNat (8 : Int).toNat) (r21.1.extract (56 : Int).toNat (r21.1.size : Int).toNat)) then (some (.inr (((ByteArray.mk #[]), 0, 17)))) else (if decide (r30 < 4294967296) then (some (.inr (((ByteArray.mk #[]), 0, 17)))) else (if decide ((IntKind.i64.wrap (bt r21.1 8)) > 47) then (some (.inr (((ByteArray.mk #[]), 0, 17)))) else (chk (0 ≤ (IntKind.i64.wrap (9 + (IntKind.i64.wrap (bt r21.1 8)))) ∧ (IntKind.i64.wrap (9 + (IntKind.i64.wrap (bt r21.1 8)))) ≤ (56 : Int) ∧ (56 : Int) ≤ (r21.1.size : Int)) (Option.bind (F.strings_Trim (r21.1.extract (IntKind.i64.wrap (9 + (IntKind.i64.wrap (bt r21.1 8)))).toNat (56 : Int).toNat) (ByteArray.mk #[0])) (fun (r37 : ByteArray) => if !(seqB r37 (ByteArray.mk #[])) then (some (.inr (((ByteArray.mk #[]), 0, 17)))) else (some (.inl ())))))))) (fun x => F.guard_Read.r1 r21 r30)))))))))
set_option maxRecDepth 100000 in
set_option maxHeartbeats 4000000 in
theorem c_guard_Read (I : Hl) (x1 : Int) (m0 : disk_Disk) (p0 : Option Addr) (c0 : Nat) (p1 : Nat) (b0 : Nat) (res : ByteArray × Int × Int) (hF : F.guard_Read x1 m0 = some res) : Tr Tryz.prog 62 [pP b0, i6 x1] [imm I, o0 b0 p0 m0.sure_ c0 p1 m0.off_ m0.armed_ m0.left_ m0.fall_.Keep m0.fall_.Tear m0.acts_ m0.falls_, own e_disk_sector 51 p0 c0 m0.sure_, mpo (kInt .i64) (fun x : disk_sector => Value.agg #[.string x.s_, i6 x.at_]) p1 m0.wait_] (fun r H' => r = .tuple #[.string res.1, i6 res.2.1, i6 res.2.2] ∧ H' = [imm I, o0 b0 p0 m0.sure_ c0 p1 m0.off_ m0.armed_ m0.left_ m0.fall_.Keep m0.fall_.Tear m0.acts_ m0.falls_, own e_disk_sector 51 p0 c0 m0.sure_, mpo (kInt .i64) (fun x : disk_sector => Value.agg #[.string x.s_, i6 x.at_]) p1 m0.wait_]) := by
  unfold F.guard_Read at hF
  refine tr_of_cw (fn := Tryz.f62) Tryz.func62 rfl (Nat.le_of_ble_eq_true rfl) 58 rfl fun F0 w0 => ?_
  refine cw_keep [0, 1] (L' := [(0, pP b0), (1, i6 x1)]) rfl ?_
  refine cw_state (S' := SAT w0 ([imm I, o0 b0 p0 m0.sure_ c0 p1 m0.off_ m0.armed_ m0.left_ m0.fall_.Keep m0.fall_.Tear m0.acts_ m0.falls_, own e_disk_sector 51 p0 c0 m0.sure_, mpo (kInt .i64) (fun x : disk_sector => Value.agg #[.string x.s_, i6 x.at_]) p1 m0.wait_] ++ F0)) (fun w hs => hs) ?_
  refine cw_seq ?_
  refine cw_region ?_
  refine ow_vals 3 (j := 3) [0, 1] [(0, pP b0), (1, i6 x1)] rfl (by kernel_rfl) ?_
  refine ow_end rfl ?_
  refine ew_then ?_
  refine cw_seq ?_
  refine cw_region ?_
  refine ow_vals 2 (j := 2) [14, 15] [(14, pP b0), (15, i6 x1)] rfl (by kernel_rfl) ?_
  obtain ⟨r21, h22, hF⟩ := bind_some hF
  refine ow_pw rfl (pw_call (F := [] ++ F0) rfl rfl rfl rfl rfl rfl rfl (by kernel_rfl) (perm_of_pulls [0, 0, 0, 0] rfl) (c_disk_Disk_Read _ x1 m0 p0 c0 p1 b0 r21 h22) ?_)
  rintro _ _ ⟨rfl, rfl⟩
  refine nw_H (H' := [imm I, o0 b0 p0 m0.sure_ c0 p1 m0.off_ m0.armed_ m0.left_ m0.fall_.Keep m0.fall_.Tear m0.acts_ m0.falls_, own e_disk_sector 51 p0 c0 m0.sure_, mpo (kInt .i64) (fun x : disk_sector => Value.agg #[.string x.s_, i6 x.at_]) p1 m0.wait_] ++ F0) rfl (nw_ow ?_)
  refine ow_vals 5 (j := 8) [7, 8] [(7, .string r21.1), (8, i6 r21.2)] rfl (by kernel_rfl) ?_
  refine ow_end rfl ?_
  refine ew_then ?_
  refine cw_seq ?_
  refine cw_seq ?_
  refine cw_region ?_
  refine ow_vals 2 (j := 2) [7, 8, 20] [(7, .string r21.1), (8, i6 r21.2), (20, .bool (r21.2 != 0))] rfl (by kernel_rfl) ?_
  refine ow_end rfl ?_
  refine ew_then ?_
  rcases if_some hF with ⟨h23, hF⟩ | ⟨h23, hF⟩
  · refine cw_cond_t rfl rfl h23 ?_
    refine cw_seq ?_
    refine cw_region ?_
    refine ow_vals 4 (j := 4) [4, 5, 6] [(4, .string (ByteArray.mk #[])), (5, i6 0), (6, i6 r21.2)] rfl (by kernel_rfl) ?_
    refine ow_end rfl ?_
    refine ew_then ?_
    refine cw_ret ?_
    refine ew_then_ret ?_
    have hR := Option.some.inj hF
    subst hR
    exact fin3 (H1 := [imm I, o0 b0 p0 m0.sure_ c0 p1 m0.off_ m0.armed_ m0.left_ m0.fall_.Keep m0.fall_.Tear m0.acts_ m0.falls_, own e_disk_sector 51 p0 c0 m0.sure_, mpo (kInt .i64) (fun x : disk_sector => Value.agg #[.string x.s_, i6 x.at_]) p1 m0.wait_]) (fun w hs => sat_to [0, 0, 0, 0] 0 rfl hs) rfl (rr_tmp rfl) (rr_tmp rfl) (rr_tmp rfl) ⟨rfl, rfl⟩
  refine cw_cond_f rfl rfl h23 ?_
  refine cw_skip ?_
  refine ew_then ?_
  refine cw_seq ?_
  refine cw_seq ?_
  refine cw_region ?_
  refine ow_vals 1 (j := 1) [7, 22] [(7, .string r21.1), (22, .string r21.1)] rfl (by kernel_rfl) ?_
  obtain ⟨r24, h25, hF⟩ := bind_some hF
  refine ow_pw rfl (pw_call (F := [o0 b0 p0 m0.sure_ c0 p1 m0.off_ m0.armed_ m0.left_ m0.fall_.Keep m0.fall_.Tear m0.acts_ m0.falls_, own e_disk_sector 51 p0 c0 m0.sure_, mpo (kInt .i64) (fun x : disk_sector => Value.agg #[.string x.s_, i6 x.at_]) p1 m0.wait_] ++ F0) rfl rfl rfl rfl rfl rfl rfl (by kernel_rfl) (perm_of_pulls [0] rfl) (c_strings_Repeat _ (ByteArray.mk #[0]) 64 r24 h25) ?_)
  rintro _ _ ⟨rfl, rfl⟩
  refine nw_H (H' := [imm I, o0 b0 p0 m0.sure_ c0 p1 m0.off_ m0.armed_ m0.left_ m0.fall_.Keep m0.fall_.Tear m0.acts_ m0.falls_, own e_disk_sector 51 p0 c0 m0.sure_, mpo (kInt .i64) (fun x : disk_sector => Value.agg #[.string x.s_, i6 x.at_]) p1 m0.wait_] ++ F0) rfl (nw_ow ?_)
  refine ow_vals 1 (j := 3) [7, 24] [(7, .string r21.1), (24, .bool (seqB r21.1 r24))] rfl (by kernel_rfl) ?_
  refine ow_end rfl ?_
  refine ew_then ?_
  rcases if_some hF with ⟨h26, hF⟩ | ⟨h26, hF⟩
  · refine cw_cond_t rfl rfl h26 ?_
    refine cw_seq ?_
    refine cw_region ?_
    refine ow_vals 3 (j := 3) [4, 5, 6] [(4, .string (ByteArray.mk #[])), (5, i6 0), (6, i6 7)] rfl (by kernel_rfl) ?_
    refine ow_end rfl ?_
    refine ew_then ?_
    refine cw_ret ?_
    refine ew_then_ret ?_
    have hR := Option.some.inj hF
    subst hR
    exact fin3 (H1 := [imm I, o0 b0 p0 m0.sure_ c0 p1 m0.off_ m0.armed_ m0.left_ m0.fall_.Keep m0.fall_.Tear m0.acts_ m0.falls_, own e_disk_sector 51 p0 c0 m0.sure_, mpo (kInt .i64) (fun x : disk_sector => Value.agg #[.string x.s_, i6 x.at_]) p1 m0.wait_]) (fun w hs => sat_to [0, 0, 0, 0] 0 rfl hs) rfl (rr_tmp rfl) (rr_tmp rfl) (rr_tmp rfl) ⟨rfl, rfl⟩
  refine cw_cond_f rfl rfl h26 ?_
  refine cw_skip ?_
  refine ew_then ?_
  refine cw_seq ?_
  refine cw_open 6 (SAT w0 ([imm I, o0 b0 p0 m0.sure_ c0 p1 m0.off_ m0.armed_ m0.left_ m0.fall_.Keep m0.fall_.Tear m0.acts_ m0.falls_, own e_disk_sector 51 p0 c0 m0.sure_, mpo (kInt .i64) (fun x : disk_sector => Value.agg #[.string x.s_, i6 x.at_]) p1 m0.wait_])) (by kernel_rfl) (f := 6) rfl (fun w hs => sat_drew hs) ?_
  refine aw_vals [0, 2] (f' := 4) (m' := 5) [7, 25, 27] [(7, .string r21.1), (25, .string r21.1), (27, .string r21.1)] (fun _ _ _ _ _ h => calm_fin (P := Tryz.prog) (fn := Tryz.f62) _ _ _ _ _ h) (fun w hs => sat_pulls [0, 0, 0, 0] (G := [] ++ F0) rfl hs) rfl (by kernel_rfl) ?_
  obtain ⟨h27, hF⟩ := chk_some hF
  refine aw_pure 1 (m' := 7) (v := .string (r21.1.extract (0 : Int).toNat (8 : Int).toNat)) rfl rfl rfl rfl (by kernel_rfl) (by kernel_rfl) (fun _ _ _ _ _ h => calm_fin (P := Tryz.prog) (fn := Tryz.f62) _ _ _ _ _ h) (fun w hs => sat_pulls [0, 0, 0, 0] (G := [] ++ F0) rfl hs) (q_slice_str rfl (by kernel_rfl) rfl rfl rfl h27.1 h27.2.1 h27.2.2) ?_
  refine aw_vals [4] (f' := 2) (m' := 23) [7, 9, 27] [(7, .string r21.1), (9, .string (r21.1.extract (0 : Int).toNat (8 : Int).toNat)), (27, .string r21.1)] (fun _ _ _ _ _ h => calm_fin (P := Tryz.prog) (fn := Tryz.f62) _ _ _ _ _ h) (fun w hs => sat_pulls [0, 0, 0, 0] (G := [] ++ F0) rfl hs) rfl (by kernel_rfl) ?_
  obtain ⟨h28, hF⟩ := chk_some hF
  refine aw_pure 3 (m' := 31) (v := .string (r21.1.extract (56 : Int).toNat (r21.1.size : Int).toNat)) rfl rfl rfl rfl (by kernel_rfl) (by kernel_rfl) (fun _ _ _ _ _ h => calm_fin (P := Tryz.prog) (fn := Tryz.f62) _ _ _ _ _ h) (fun w hs => sat_pulls [0, 0, 0, 0] (G := [] ++ F0) rfl hs) (q_slice_str rfl (by kernel_rfl) rfl rfl rfl h28.1 h28.2.1 h28.2.2) ?_
  refine aw_vals [5] (f' := 0) (m' := 63) [7, 9, 10] [(7, .string r21.1), (9, .string (r21.1.extract (0 : Int).toNat (8 : Int).toNat)), (10, .string (r21.1.extract (56 : Int).toNat (r21.1.size : Int).toNat))] (fun _ _ _ _ _ h => calm_fin (P := Tryz.prog) (fn := Tryz.f62) _ _ _ _ _ h) (fun w hs => sat_pulls [0, 0, 0, 0] (G := [] ++ F0) rfl hs) rfl (by kernel_rfl) ?_
  refine aw_keep [7, 9, 10] (L' := [(7, .string r21.1), (9, .string (r21.1.extract (0 : Int).toNat (8 : Int).toNat)), (10, .string (r21.1.extract (56 : Int).toNat (r21.1.size : Int).toNat))]) rfl ?_
  refine aw_end (by kernel_rfl) ?_
  refine ew_then ?_
  refine cw_seq ?_
  refine cw_region ?_
  refine ow_vals 1 (j := 1) [7, 9, 10, 29] [(7, .string r21.1), (9, .string (r21.1.extract (0 : Int).toNat (8 : Int).toNat)), (10, .string (r21.1.extract (56 : Int).toNat (r21.1.size : Int).toNat)), (29, .string r21.1)] rfl (by kernel_rfl) ?_
  obtain ⟨h29, hF⟩ := chk_some hF
  refine ow_pw rfl (pw_quiet (v := .int .u8 (bt r21.1 8)) rfl rfl rfl rfl (q_index_str rfl (by kernel_rfl) rfl rfl h29.1 h29.2) (nw_ow ?_))
  refine ow_vals 2 (j := 4) [7, 9, 10, 11] [(7, .string r21.1), (9, .string (r21.1.extract (0 : Int).toNat (8 : Int).toNat)), (10, .string (r21.1.extract (56 : Int).toNat (r21.1.size : Int).toNat)), (11, i6 (IntKind.i64.wrap (bt r21.1 8)))] rfl (by kernel_rfl) ?_
  refine ow_end rfl ?_
  refine ew_then ?_
  refine cw_seq ?_
  refine cw_region ?_
  refine ow_vals 1 (j := 1) [7, 9, 10, 11, 32] [(7, .string r21.1), (9, .string (r21.1.extract (0 : Int).toNat (8 : Int).toNat)), (10, .string (r21.1.extract (56 : Int).toNat (r21.1.size : Int).toNat)), (11, i6 (IntKind.i64.wrap (bt r21.1 8))), (32, .string (r21.1.extract (0 : Int).toNat (8 : Int).toNat))] rfl (by kernel_rfl) ?_
  obtain ⟨r30, h31, hF⟩ := bind_some hF
  refine ow_pw rfl (pw_call (F := [o0 b0 p0 m0.sure_ c0 p1 m0.off_ m0.armed_ m0.left_ m0.fall_.Keep m0.fall_.Tear m0.acts_ m0.falls_, own e_disk_sector 51 p0 c0 m0.sure_, mpo (kInt .i64) (fun x : disk_sector => Value.agg #[.string x.s_, i6 x.at_]) p1 m0.wait_] ++ F0) rfl rfl rfl rfl rfl rfl rfl (by kernel_rfl) (perm_of_pulls [0] rfl) (c_guard_Number _ (r21.1.extract (0 : Int).toNat (8 : Int).toNat) r30 h31) ?_)
  rintro _ _ ⟨rfl, rfl⟩
  refine nw_H (H' := [imm I, o0 b0 p0 m0.sure_ c0 p1 m0.off_ m0.armed_ m0.left_ m0.fall_.Keep m0.fall_.Tear m0.acts_ m0.falls_, own e_disk_sector 51 p0 c0 m0.sure_, mpo (kInt .i64) (fun x : disk_sector => Value.agg #[.string x.s_, i6 x.at_]) p1 m0.wait_] ++ F0) rfl (nw_ow ?_)
  refine ow_vals 1 (j := 3) [7, 9, 10, 11, 12] [(7, .string r21.1), (9, .string (r21.1.extract (0 : Int).toNat (8 : Int).toNat)), (10, .string (r21.1.extract (56 : Int).toNat (r21.1.size : Int).toNat)), (11, i6 (IntKind.i64.wrap (bt r21.1 8))), (12, i6 r30)] rfl (by kernel_rfl) ?_
  refine ow_end rfl ?_
  refine ew_then ?_
  obtain ⟨v32, hF, hK32⟩ := thru_some hF
  refine cw_mid (fun a w => .inl () = v32 ∧ Fr 58 [(7, .string r21.1), (11, i6 (IntKind.i64.wrap (bt r21.1 8))), (12, i6 r30)] a ∧ SAT w0 ([imm I, o0 b0 p0 m0.sure_ c0 p1 m0.off_ m0.armed_ m0.left_ m0.fall_.Keep m0.fall_.Tear m0.acts_ m0.falls_, own e_disk_sector 51 p0 c0 m0.sure_, mpo (kInt .i64) (fun x : disk_sector => Value.agg #[.string x.s_, i6 x.at_]) p1 m0.wait_] ++ F0) w) ?_ ?_
  · refine cw_seq ?_
    refine cw_region ?_
    refine ow_vals 4 (j := 4) [7, 11, 12, 37] [(7, .string r21.1), (11, i6 (IntKind.i64.wrap (bt r21.1 8))), (12, i6 r30), (37, .bool (!(seqB (r21.1.extract (0 : Int).toNat (8 : Int).toNat) (r21.1.extract (56 : Int).toNat (r21.1.size : Int).toNat))))] rfl (by kernel_rfl) ?_
    rcases if_some hF with ⟨h33, hF⟩ | ⟨h33, hF⟩
    · refine ow_slots (L' := [(7, .string r21.1), (11, i6 (IntKind.i64.wrap (bt r21.1 8))), (12, i6 r30), (37, .bool true)]) (by rw [h33]) ?_
      refine ow_vals 15 (j := 19) [7, 11, 12, 52] [(7, .string r21.1), (11, i6 (IntKind.i64.wrap (bt r21.1 8))), (12, i6 r30), (52, .bool true)] rfl (by kernel_rfl) ?_
      refine ow_end rfl ?_
      refine ew_then ?_
      refine cw_cond_t rfl rfl rfl ?_
      refine cw_seq ?_
      refine cw_region ?_
      refine ow_vals 3 (j := 3) [4, 5, 6] [(4, .string (ByteArray.mk #[])), (5, i6 0), (6, i6 17)] rfl (by kernel_rfl) ?_
      refine ow_end rfl ?_
      refine ew_then ?_
      refine cw_ret ?_
      refine ew_then_ret ?_
      have hR := Option.some.inj hF
      subst hR
      have hR := hK32
      try dsimp only [Thru] at hR
      subst hR
      exact fin3 (H1 := [imm I, o0 b0 p0 m0.sure_ c0 p1 m0.off_ m0.armed_ m0.left_ m0.fall_.Keep m0.fall_.Tear m0.acts_ m0.falls_, own e_disk_sector 51 p0 c0 m0.sure_, mpo (kInt .i64) (fun x : disk_sector => Value.agg #[.string x.s_, i6 x.at_]) p1 m0.wait_]) (fun w hs => sat_to [0, 0, 0, 0] 0 rfl hs) rfl (rr_tmp rfl) (rr_tmp rfl) (rr_tmp rfl) ⟨rfl, rfl⟩
    refine ow_slots (L' := [(7, .string r21.1), (11, i6 (IntKind.i64.wrap (bt r21.1 8))), (12, i6 r30), (37, .bool false)]) (by rw [h33]) ?_
    refine ow_vals 4 (j := 8) [7, 11, 12, 41] [(7, .string r21.1), (11, i6 (IntKind.i64.wrap (bt r21.1 8))), (12, i6 r30), (41, .bool (decide (r30 < 4294967296)))] rfl (by kernel_rfl) ?_
    rcases if_some hF with ⟨h34, hF⟩ | ⟨h34, hF⟩
    · refine ow_slots (L' := [(7, .string r21.1), (11, i6 (IntKind.i64.wrap (bt r21.1 8))), (12, i6 r30), (41, .bool true)]) (by rw [h34]) ?_
      refine ow_vals 11 (j := 19) [7, 11, 12, 52] [(7, .string r21.1), (11, i6 (IntKind.i64.wrap (bt r21.1 8))), (12, i6 r30), (52, .bool true)] rfl (by kernel_rfl) ?_
      refine ow_end rfl ?_
      refine ew_then ?_
      refine cw_cond_t rfl rfl rfl ?_
      refine cw_seq ?_
      refine cw_region ?_
      refine ow_vals 3 (j := 3) [4, 5, 6] [(4, .string (ByteArray.mk #[])), (5, i6 0), (6, i6 17)] rfl (by kernel_rfl) ?_
      refine ow_end rfl ?_
      refine ew_then ?_
      refine cw_ret ?_
      refine ew_then_ret ?_
      have hR := Option.some.inj hF
      subst hR
      have hR := hK32
      try dsimp only [Thru] at hR
      subst hR
      exact fin3 (H1 := [imm I, o0 b0 p0 m0.sure_ c0 p1 m0.off_ m0.armed_ m0.left_ m0.fall_.Keep m0.fall_.Tear m0.acts_ m0.falls_, own e_disk_sector 51 p0 c0 m0.sure_, mpo (kInt .i64) (fun x : disk_sector => Value.agg #[.string x.s_, i6 x.at_]) p1 m0.wait_]) (fun w hs => sat_to [0, 0, 0, 0] 0 rfl hs) rfl (rr_tmp rfl) (rr_tmp rfl) (rr_tmp rfl) ⟨rfl, rfl⟩
    refine ow_slots (L' := [(7, .string r21.1), (11, i6 (IntKind.i64.wrap (bt r21.1 8))), (12, i6 r30), (41, .bool false)]) (by rw [h34]) ?_
    refine ow_vals 4 (j := 12) [7, 11, 12, 45] [(7, .string r21.1), (11, i6 (IntKind.i64.wrap (bt r21.1 8))), (12, i6 r30), (45, .bool (decide ((IntKind.i64.wrap (bt r21.1 8)) > 47)))] rfl (by kernel_rfl) ?_
    rcases if_some hF with ⟨h35, hF⟩ | ⟨h35, hF⟩
    · refine ow_slots (L' := [(7, .string r21.1), (11, i6 (IntKind.i64.wrap (bt r21.1 8))), (12, i6 r30), (45, .bool true)]) (by rw [h35]) ?_
      refine ow_vals 7 (j := 19) [7, 11, 12, 52] [(7, .string r21.1), (11, i6 (IntKind.i64.wrap (bt r21.1 8))), (12, i6 r30), (52, .bool true)] rfl (by kernel_rfl) ?_
      refine ow_end rfl ?_
      refine ew_then ?_
      refine cw_cond_t rfl rfl rfl ?_
      refine cw_seq ?_
      refine cw_region ?_
      refine ow_vals 3 (j := 3) [4, 5, 6] [(4, .string (ByteArray.mk #[])), (5, i6 0), (6, i6 17)] rfl (by kernel_rfl) ?_
      refine ow_end rfl ?_
      refine ew_then ?_
      refine cw_ret ?_
      refine ew_then_ret ?_
      have hR := Option.some.inj hF
      subst hR
      have hR := hK32
      try dsimp only [Thru] at hR
      subst hR
      exact fin3 (H1 := [imm I, o0 b0 p0 m0.sure_ c0 p1 m0.off_ m0.armed_ m0.left_ m0.fall_.Keep m0.fall_.Tear m0.acts_ m0.falls_, own e_disk_sector 51 p0 c0 m0.sure_, mpo (kInt .i64) (fun x : disk_sector => Value.agg #[.string x.s_, i6 x.at_]) p1 m0.wait_]) (fun w hs => sat_to [0, 0, 0, 0] 0 rfl hs) rfl (rr_tmp rfl) (rr_tmp rfl) (rr_tmp rfl) ⟨rfl, rfl⟩
    refine ow_slots (L' := [(7, .string r21.1), (11, i6 (IntKind.i64.wrap (bt r21.1 8))), (12, i6 r30), (45, .bool false)]) (by rw [h35]) ?_
    refine ow_vals 3 (j := 15) [7, 11, 12, 45, 46, 48] [(7, .string r21.1), (11, i6 (IntKind.i64.wrap (bt r21.1 8))), (12, i6 r30), (45, .bool false), (46, .string r21.1), (48, i6 (IntKind.i64.wrap (9 + (IntKind.i64.wrap (bt r21.1 8)))))] rfl (by kernel_rfl) ?_
    obtain ⟨h36, hF⟩ := chk_some hF
    refine ow_pw rfl (pw_quiet (v := .string (r21.1.extract (IntKind.i64.wrap (9 + (IntKind.i64.wrap (bt r21.1 8)))).toNat (56 : Int).toNat)) rfl rfl rfl rfl (q_slice_str rfl (by kernel_rfl) rfl rfl rfl h36.1 h36.2.1 h36.2.2) (nw_ow ?_))
    obtain ⟨r37, h38, hF⟩ := bind_some hF
    refine ow_pw rfl (pw_call (F := [o0 b0 p0 m0.sure_ c0 p1 m0.off_ m0.armed_ m0.left_ m0.fall_.Keep m0.fall_.Tear m0.acts_ m0.falls_, own e_disk_sector 51 p0 c0 m0.sure_, mpo (kInt .i64) (fun x : disk_sector => Value.agg #[.string x.s_, i6 x.at_]) p1 m0.wait_] ++ F0) rfl rfl rfl rfl rfl rfl rfl (by kernel_rfl) (perm_of_pulls [0] rfl) (c_strings_Trim _ (r21.1.extract (IntKind.i64.wrap (9 + (IntKind.i64.wrap (bt r21.1 8)))).toNat (56 : Int).toNat) (ByteArray.mk #[0]) r37 h38) ?_)
    rintro _ _ ⟨rfl, rfl⟩
    refine nw_H (H' := [imm I, o0 b0 p0 m0.sure_ c0 p1 m0.off_ m0.armed_ m0.left_ m0.fall_.Keep m0.fall_.Tear m0.acts_ m0.falls_, own e_disk_sector 51 p0 c0 m0.sure_, mpo (kInt .i64) (fun x : disk_sector => Value.agg #[.string x.s_, i6 x.at_]) p1 m0.wait_] ++ F0) rfl (nw_ow ?_)
    refine ow_vals 2 (j := 19) [7, 11, 12, 52] [(7, .string r21.1), (11, i6 (IntKind.i64.wrap (bt r21.1 8))), (12, i6 r30), (52, .bool (!(seqB r37 (ByteArray.mk #[]))))] rfl (by kernel_rfl) ?_
    refine ow_end rfl ?_
    refine ew_then ?_
    rcases if_some hF with ⟨h39, hF⟩ | ⟨h39, hF⟩
    · refine cw_cond_t rfl rfl h39 ?_
      refine cw_seq ?_
      refine cw_region ?_
      refine ow_vals 3 (j := 3) [4, 5, 6] [(4, .string (ByteArray.mk #[])), (5, i6 0), (6, i6 17)] rfl (by kernel_rfl) ?_
      refine ow_end rfl ?_
      refine ew_then ?_
      refine cw_ret ?_
      refine ew_then_ret ?_
      have hR := Option.some.inj hF
      subst hR
      have hR := hK32
      try dsimp only [Thru] at hR
      subst hR
      exact fin3 (H1 := [imm I, o0 b0 p0 m0.sure_ c0 p1 m0.off_ m0.armed_ m0.left_ m0.fall_.Keep m0.fall_.Tear m0.acts_ m0.falls_, own e_disk_sector 51 p0 c0 m0.sure_, mpo (kInt .i64) (fun x : disk_sector => Value.agg #[.string x.s_, i6 x.at_]) p1 m0.wait_]) (fun w hs => sat_to [0, 0, 0, 0] 0 rfl hs) rfl (rr_tmp rfl) (rr_tmp rfl) (rr_tmp rfl) ⟨rfl, rfl⟩
    refine cw_cond_f rfl rfl h39 ?_
    refine cw_skip ?_
    have hR := Option.some.inj hF
    exact fun a w hf hs => ⟨hR, hf.keep [7, 11, 12], sat_to [0, 0, 0, 0] 0 rfl hs⟩
  rintro a w ⟨hv, hf, hs⟩
  subst hv
  replace hF := hK32
  clear hK32
  try dsimp only [Thru] at hF
  revert a w
  show CW _ _ _ 58 [(7, .string r21.1), (11, i6 (IntKind.i64.wrap (bt r21.1 8))), (12, i6 r30)] (SAT w0 ([imm I, o0 b0 p0 m0.sure_ c0 p1 m0.off_ m0.armed_ m0.left_ m0.fall_.Keep m0.fall_.Tear m0.acts_ m0.falls_, own e_disk_sector 51 p0 c0 m0.sure_, mpo (kInt .i64) (fun x : disk_sector => Value.agg #[.string x.s_, i6 x.at_]) p1 m0.wait_] ++ F0))
  unfold F.guard_Read.r1 at hF
  refine cw_seq ?_
  refine cw_region ?_
  refine ow_vals 3 (j := 3) [12, 53, 55] [(12, i6 r30), (53, .string r21.1), (55, i6 (IntKind.i64.wrap (9 + (IntKind.i64.wrap (bt r21.1 8)))))] rfl (by kernel_rfl) ?_
  obtain ⟨h40, hF⟩ := chk_some hF
  refine ow_pw rfl (pw_quiet (v := .string (r21.1.extract (9 : Int).toNat (IntKind.i64.wrap (9 + (IntKind.i64.wrap (bt r21.1 8)))).toNat)) rfl rfl rfl rfl (q_slice_str rfl (by kernel_rfl) rfl rfl rfl h40.1 h40.2.1 h40.2.2) (nw_ow ?_))
  refine ow_vals 4 (j := 8) [4, 5, 6] [(4, .string (r21.1.extract (9 : Int).toNat (IntKind.i64.wrap (9 + (IntKind.i64.wrap (bt r21.1 8)))).toNat)), (5, i6 r30), (6, i6 0)] rfl (by kernel_rfl) ?_
  refine ow_end rfl ?_
  refine ew_then ?_
  refine cw_ret ?_
  have hR := Option.some.inj hF
  subst hR
  exact fin3 (H1 := [imm I, o0 b0 p0 m0.sure_ c0 p1 m0.off_ m0.armed_ m0.left_ m0.fall_.Keep m0.fall_.Tear m0.acts_ m0.falls_, own e_disk_sector 51 p0 c0 m0.sure_, mpo (kInt .i64) (fun x : disk_sector => Value.agg #[.string x.s_, i6 x.at_]) p1 m0.wait_]) (fun w hs => sat_to [0, 0, 0, 0] 0 rfl hs) rfl (rr_tmp rfl) (rr_tmp rfl) (rr_tmp rfl) ⟨rfl, rfl⟩


def F.guard_Guard_Get (x1 : Int) (m0 : guard_Guard) (m1 : disk_Disk) : Option (ByteArray × Int × Int) :=
  Option.bind (F.guard_Guard_none m0 m1) (fun (r21 : Unit) => Option.bind (F.guard_Read x1 m1) (fun (r23 : ByteArray × Int × Int) => some ((r23.1, r23.2.1, r23.2.2))))
set_option maxRecDepth 100000 in
set_option maxHeartbeats 4000000 in
theorem c_guard_Guard_Get (I : Hl) (x1 : Int) (m0 : guard_Guard) (m1 : disk_Disk) (b0 : Nat) (p0 : Option Addr) (c0 : Nat) (p1 : Nat) (b1 : Nat) (res : ByteArray × Int × Int) (hF : F.guard_Guard_Get x1 m0 m1 = some res) : Tr Tryz.prog 57 [pP b0, i6 x1] [imm I, o1 b0 b1 m0.boot_ m0.n_, o0 b1 p0 m1.sure_ c0 p1 m1.off_ m1.armed_ m1.left_ m1.fall_.Keep m1.fall_.Tear m1.acts_ m1.falls_, own e_disk_sector 51 p0 c0 m1.sure_, mpo (kInt .i64) (fun x : disk_sector => Value.agg #[.string x.s_, i6 x.at_]) p1 m1.wait_] (fun r H' => r = .tuple #[.string res.1, i6 res.2.1, i6 res.2.2] ∧ H' = [imm I, o1 b0 b1 m0.boot_ m0.n_, o0 b1 p0 m1.sure_ c0 p1 m1.off_ m1.armed_ m1.left_ m1.fall_.Keep m1.fall_.Tear m1.acts_ m1.falls_, own e_disk_sector 51 p0 c0 m1.sure_, mpo (kInt .i64) (fun x : disk_sector => Value.agg #[.string x.s_, i6 x.at_]) p1 m1.wait_]) := by
  unfold F.guard_Guard_Get at hF
  refine tr_of_cw (fn := Tryz.f57) Tryz.func57 rfl (Nat.le_of_ble_eq_true rfl) 18 rfl fun F0 w0 => ?_
  refine cw_keep [0, 1] (L' := [(0, pP b0), (1, i6 x1)]) rfl ?_
  refine cw_state (S' := SAT w0 ([imm I, o1 b0 b1 m0.boot_ m0.n_, o0 b1 p0 m1.sure_ c0 p1 m1.off_ m1.armed_ m1.left_ m1.fall_.Keep m1.fall_.Tear m1.acts_ m1.falls_, own e_disk_sector 51 p0 c0 m1.sure_, mpo (kInt .i64) (fun x : disk_sector => Value.agg #[.string x.s_, i6 x.at_]) p1 m1.wait_] ++ F0)) (fun w hs => hs) ?_
  refine cw_seq ?_
  refine cw_region ?_
  refine ow_vals 3 (j := 3) [0, 1] [(0, pP b0), (1, i6 x1)] rfl (by kernel_rfl) ?_
  refine ow_end rfl ?_
  refine ew_then ?_
  refine cw_seq ?_
  refine cw_seq ?_
  refine cw_region ?_
  refine ow_vals 1 (j := 1) [0, 1, 7] [(0, pP b0), (1, i6 x1), (7, pP b0)] rfl (by kernel_rfl) ?_
  obtain ⟨r21, h22, hF⟩ := bind_some hF
  refine ow_pw rfl (pw_call (F := [] ++ F0) rfl rfl rfl rfl rfl rfl rfl (by kernel_rfl) (perm_of_pulls [0, 0, 0, 0, 0] rfl) (c_guard_Guard_none _ m0 m1 b0 p0 c0 p1 b1 r21 h22) ?_)
  rintro _ _ ⟨rfl, rfl⟩
  refine nw_H (H' := [imm I, o1 b0 b1 m0.boot_ m0.n_, o0 b1 p0 m1.sure_ c0 p1 m1.off_ m1.armed_ m1.left_ m1.fall_.Keep m1.fall_.Tear m1.acts_ m1.falls_, own e_disk_sector 51 p0 c0 m1.sure_, mpo (kInt .i64) (fun x : disk_sector => Value.agg #[.string x.s_, i6 x.at_]) p1 m1.wait_] ++ F0) rfl (nw_ow ?_)
  refine ow_end rfl ?_
  refine ew_then ?_
  refine cw_cond_f rfl rfl rfl ?_
  refine cw_skip ?_
  refine ew_then ?_
  refine cw_seq ?_
  refine cw_region ?_
  refine ow_vals 3 (j := 3) [1, 11] [(1, i6 x1), (11, pP b0)] rfl (by kernel_rfl) ?_
  refine ow_pw rfl (pw_quiet (v := pP b1) rfl rfl rfl rfl (q_load 1 rfl rfl rfl (by kernel_rfl)) (nw_ow ?_))
  refine ow_vals 1 (j := 5) [12, 13] [(12, pP b1), (13, i6 x1)] rfl (by kernel_rfl) ?_
  obtain ⟨r23, h24, hF⟩ := bind_some hF
  refine ow_pw rfl (pw_call (F := [o1 b0 b1 m0.boot_ m0.n_] ++ F0) rfl rfl rfl rfl rfl rfl rfl (by kernel_rfl) (perm_of_pulls [0, 1, 1, 1] rfl) (c_guard_Read _ x1 m1 p0 c0 p1 b1 r23 h24) ?_)
  rintro _ _ ⟨rfl, rfl⟩
  refine nw_H (H' := [imm I, o0 b1 p0 m1.sure_ c0 p1 m1.off_ m1.armed_ m1.left_ m1.fall_.Keep m1.fall_.Tear m1.acts_ m1.falls_, own e_disk_sector 51 p0 c0 m1.sure_, mpo (kInt .i64) (fun x : disk_sector => Value.agg #[.string x.s_, i6 x.at_]) p1 m1.wait_, o1 b0 b1 m0.boot_ m0.n_] ++ F0) rfl (nw_ow ?_)
  refine ow_vals 6 (j := 12) [4, 5, 6] [(4, .string r23.1), (5, i6 r23.2.1), (6, i6 r23.2.2)] rfl (by kernel_rfl) ?_
  refine ow_end rfl ?_
  refine ew_then ?_
  refine cw_ret ?_
  have hR := Option.some.inj hF
  subst hR
  exact fin3 (H1 := [imm I, o1 b0 b1 m0.boot_ m0.n_, o0 b1 p0 m1.sure_ c0 p1 m1.off_ m1.armed_ m1.left_ m1.fall_.Keep m1.fall_.Tear m1.acts_ m1.falls_, own e_disk_sector 51 p0 c0 m1.sure_, mpo (kInt .i64) (fun x : disk_sector => Value.agg #[.string x.s_, i6 x.at_]) p1 m1.wait_]) (fun w hs => sat_to [0, 3, 0, 0, 0] 0 rfl hs) rfl (rr_tmp rfl) (rr_tmp rfl) (rr_tmp rfl) ⟨rfl, rfl⟩


def F.journal_Journal_part_1.r2 (x35 : Bool) : Option ((Unit) ⊕ (Int × Int × ByteArray × Int × Int)) :=
  if x35 then (some (.inr ((0, 0, (ByteArray.mk #[]), 0, 0)))) else (some (.inl ()))
def F.journal_Journal_part_1.r1 (x2 : Int) (r22 : ByteArray × Int × Int) (x27 : Bool) : Option ((Unit) ⊕ (Int × Int × ByteArray × Int × Int)) :=
  if x27 then (some (.inr ((0, 0, (ByteArray.mk #[]), 0, 0)))) else (if r22.2.2 != 0 then (some (.inr ((0, 0, (ByteArray.mk #[]), 0, r22.2.2)))) else (Option.bind (if decide ((r22.1.size : Int) < 9) then (some (true)) else (chk (0 ≤ (1 : Int) ∧ (1 : Int) ≤ (9 : Int) ∧ (9 : Int) ≤ (r22.1.size : Int)) (Option.bind (F.guard_Number (r22.1.extract (1 : Int).toNat (9 : Int).toNat)) (fun (r33 : Int) => some ((r33 != x2)))))) (fun x => F.journal_Journal_part_1.r2 x)))
def F.journal_Journal_part_1.r3 (r22 : ByteArray × Int × Int) : Option (Int × Int × ByteArray × Int × Int) :=
  chk (0 ≤ (0 : Int) ∧ 0 < (r22.1.size : Int)) (chk (0 ≤ (9 : Int) ∧ (9 : Int) ≤ (r22.1.size : Int) ∧ (r22.1.size : Int) ≤ (r22.1.size : Int)) (if (IntKind.i64.wrap (bt r22.1 0)) == 1 then (if decide (((r22.1.extract (9 : Int).toNat (r22.1.size : Int).toNat).size : Int) < 2) then (some ((0, 0, (ByteArray.mk #[]), 0, 0))) else (chk (0 ≤ (0 : Int) ∧ 0 < ((r22.1.extract (9 : Int).toNat (r22.1.size : Int).toNat).size : Int)) (chk (0 ≤ (1 : Int) ∧ 1 < ((r22.1.extract (9 : Int).toNat (r22.1.size : Int).toNat).size : Int)) (chk (0 ≤ (2 : Int) ∧ (2 : Int) ≤ ((r22.1.extract (9 : Int).toNat (r22.1.size : Int).toNat).size : Int) ∧ ((r22.1.extract (9 : Int).toNat (r22.1.size : Int).toNat).size : Int) ≤ ((r22.1.extract (9 : Int).toNat (r22.1.size : Int).toNat).size : Int)) (some ((IntKind.i64.wrap (bt r22.1 0), ior .i64 (IntKind.i64.wrap ((IntKind.i64.wrap (bt (r22.1.extract (9 : Int).toNat (r22.1.size : Int).toNat) 0)) * 2 ^ 8)) (IntKind.i64.wrap (bt (r22.1.extract (9 : Int).toNat (r22.1.size : Int).toNat) 1)), (r22.1.extract (9 : Int).toNat (r22.1.size : Int).toNat).extract (2 : Int).toNat ((r22.1.extract (9 : Int).toNat (r22.1.size : Int).toNat).size : Int).toNat, r22.2.1, 0))))))) else (some ((IntKind.i64.wrap (bt r22.1 0), 0, r22.1.extract (9 : Int).toNat (r22.1.size : Int).toNat, r22.2.1, 0)))))
def F.journal_Journal_part_1 (x1 : Int) (x2 : Int) (m0 : journal_Journal) (m1 : guard_Guard) (m2 : disk_Disk) : Option (Int × Int × ByteArray × Int × Int) :=
  if decide (x1 ≥ m0.size_) then (some ((0, 0, (ByteArray.mk #[]), 0, 0))) else (Option.bind (F.guard_Guard_Get (IntKind.i64.wrap (m0.base_ + x1)) m1 m2) (fun (r22 : ByteArray × Int × Int) => thru (Option.bind (if r22.2.2 == 7 then (some (true)) else (some ((r22.2.2 == 17)))) (fun x => F.journal_Journal_part_1.r1 x2 r22 x)) (fun x => F.journal_Journal_part_1.r3 r22)))
set_option maxRecDepth 100000 in
set_option maxHeartbeats 4000000 in
theorem c_journal_Journal_part_1 (I : Hl) (x1 : Int) (x2 : Int) (m0 : journal_Journal) (m1 : guard_Guard) (m2 : disk_Disk) (p0 : Option Addr) (c0 : Nat) (b0 : Nat) (b1 : Nat) (p1 : Option Addr) (c1 : Nat) (p2 : Nat) (b2 : Nat) (res : Int × Int × ByteArray × Int × Int) (hF : F.journal_Journal_part_1 x1 x2 m0 m1 m2 = some res) : Tr Tryz.prog 48 [pP b0, i6 x1, i6 x2] [imm I, o3 b0 b1 m0.base_ m0.size_ m0.next_ m0.last_ p0 m0.list_ c0 m0.sure_ m0.dead_, o1 b1 b2 m1.boot_ m1.n_, o0 b2 p1 m2.sure_ c1 p2 m2.off_ m2.armed_ m2.left_ m2.fall_.Keep m2.fall_.Tear m2.acts_ m2.falls_, own eStr 9 p0 c0 m0.list_, own e_disk_sector 51 p1 c1 m2.sure_, mpo (kInt .i64) (fun x : disk_sector => Value.agg #[.string x.s_, i6 x.at_]) p2 m2.wait_] (fun r H' => r = .tuple #[i6 res.1, i6 res.2.1, .string res.2.2.1, i6 res.2.2.2.1, i6 res.2.2.2.2] ∧ H' = [imm I, o3 b0 b1 m0.base_ m0.size_ m0.next_ m0.last_ p0 m0.list_ c0 m0.sure_ m0.dead_, o1 b1 b2 m1.boot_ m1.n_, o0 b2 p1 m2.sure_ c1 p2 m2.off_ m2.armed_ m2.left_ m2.fall_.Keep m2.fall_.Tear m2.acts_ m2.falls_, own eStr 9 p0 c0 m0.list_, own e_disk_sector 51 p1 c1 m2.sure_, mpo (kInt .i64) (fun x : disk_sector => Value.agg #[.string x.s_, i6 x.at_]) p2 m2.wait_]) := by
  unfold F.journal_Journal_part_1 at hF
  refine tr_of_cw (fn := Tryz.f48) Tryz.func48 rfl (Nat.le_of_ble_eq_true rfl) 84 rfl fun F0 w0 => ?_
  refine cw_keep [0, 1, 2] (L' := [(0, pP b0), (1, i6 x1), (2, i6 x2)]) rfl ?_
  refine cw_state (S' := SAT w0 ([imm I, o3 b0 b1 m0.base_ m0.size_ m0.next_ m0.last_ p0 m0.list_ c0 m0.sure_ m0.dead_, o1 b1 b2 m1.boot_ m1.n_, o0 b2 p1 m2.sure_ c1 p2 m2.off_ m2.armed_ m2.left_ m2.fall_.Keep m2.fall_.Tear m2.acts_ m2.falls_, own eStr 9 p0 c0 m0.list_, own e_disk_sector 51 p1 c1 m2.sure_, mpo (kInt .i64) (fun x : disk_sector => Value.agg #[.string x.s_, i6 x.at_]) p2 m2.wait_] ++ F0)) (fun w hs => hs) ?_
  refine cw_seq ?_
  refine cw_region ?_
  refine ow_vals 5 (j := 5) [0, 1, 2] [(0, pP b0), (1, i6 x1), (2, i6 x2)] rfl (by kernel_rfl) ?_
  refine ow_end rfl ?_
  refine ew_then ?_
  refine cw_seq ?_
  refine cw_seq ?_
  refine cw_region ?_
  refine ow_vals 4 (j := 4) [0, 1, 2, 16, 19] [(0, pP b0), (1, i6 x1), (2, i6 x2), (16, i6 x1), (19, .pointer (some ⟨b0, 2, none⟩))] rfl (by kernel_rfl) ?_
  refine ow_pw rfl (pw_quiet (v := i6 m0.size_) rfl rfl rfl rfl (q_load 1 rfl rfl rfl (by kernel_rfl)) (nw_ow ?_))
  refine ow_vals 1 (j := 6) [0, 1, 2, 21] [(0, pP b0), (1, i6 x1), (2, i6 x2), (21, .bool (decide (x1 ≥ m0.size_)))] rfl (by kernel_rfl) ?_
  refine ow_end rfl ?_
  refine ew_then ?_
  rcases if_some hF with ⟨h21, hF⟩ | ⟨h21, hF⟩
  · refine cw_cond_t rfl rfl h21 ?_
    refine cw_seq ?_
    refine cw_region ?_
    refine ow_vals 5 (j := 5) [6, 7, 8, 9, 10] [(6, i6 0), (7, i6 0), (8, .string (ByteArray.mk #[])), (9, i6 0), (10, i6 0)] rfl (by kernel_rfl) ?_
    refine ow_end rfl ?_
    refine ew_then ?_
    refine cw_ret ?_
    refine ew_then_ret ?_
    have hR := Option.some.inj hF
    subst hR
    exact fin5 (H1 := [imm I, o3 b0 b1 m0.base_ m0.size_ m0.next_ m0.last_ p0 m0.list_ c0 m0.sure_ m0.dead_, o1 b1 b2 m1.boot_ m1.n_, o0 b2 p1 m2.sure_ c1 p2 m2.off_ m2.armed_ m2.left_ m2.fall_.Keep m2.fall_.Tear m2.acts_ m2.falls_, own eStr 9 p0 c0 m0.list_, own e_disk_sector 51 p1 c1 m2.sure_, mpo (kInt .i64) (fun x : disk_sector => Value.agg #[.string x.s_, i6 x.at_]) p2 m2.wait_]) (fun w hs => sat_to [0, 0, 0, 0, 0, 0, 0] 0 rfl hs) rfl (rr_tmp rfl) (rr_tmp rfl) (rr_tmp rfl) (rr_tmp rfl) (rr_tmp rfl) ⟨rfl, rfl⟩
  refine cw_cond_f rfl rfl h21 ?_
  refine cw_skip ?_
  refine ew_then ?_
  refine cw_seq ?_
  refine cw_open 18 (SAT w0 ([imm I, o3 b0 b1 m0.base_ m0.size_ m0.next_ m0.last_ p0 m0.list_ c0 m0.sure_ m0.dead_, o1 b1 b2 m1.boot_ m1.n_, o0 b2 p1 m2.sure_ c1 p2 m2.off_ m2.armed_ m2.left_ m2.fall_.Keep m2.fall_.Tear m2.acts_ m2.falls_, own eStr 9 p0 c0 m0.list_, own e_disk_sector 51 p1 c1 m2.sure_, mpo (kInt .i64) (fun x : disk_sector => Value.agg #[.string x.s_, i6 x.at_]) p2 m2.wait_])) (by kernel_rfl) (f := 18) rfl (fun w hs => sat_drew hs) ?_
  refine aw_vals [0, 1, 2, 4, 5, 6, 8] (f' := 11) (m' := 375) [2, 25, 29, 31] [(2, i6 x2), (25, pP b0), (29, .pointer (some ⟨b0, 1, none⟩)), (31, i6 x1)] (fun _ _ _ _ _ h => calm_fin (P := Tryz.prog) (fn := Tryz.f48) _ _ _ _ _ h) (fun w hs => sat_pulls [0, 0, 0, 0, 0, 0, 0] (G := [] ++ F0) rfl hs) rfl (by kernel_rfl) ?_
  refine aw_quiet 3 (m' := 383) (v := pP b1) 0 [] rfl rfl rfl rfl (by kernel_rfl) (by kernel_rfl) (by kernel_rfl) (fun _ _ _ _ _ h => calm_fin (P := Tryz.prog) (fn := Tryz.f48) _ _ _ _ _ h) (fun w hs => sat_pulls [0, 0, 0, 0, 0, 0, 0] (G := [] ++ F0) rfl hs) (q_load 1 rfl rfl rfl (by kernel_rfl)) ?_
  refine aw_quiet 7 (m' := 511) (v := i6 m0.base_) 0 [] rfl rfl rfl rfl (by kernel_rfl) (by kernel_rfl) (by kernel_rfl) (fun _ _ _ _ _ h => calm_fin (P := Tryz.prog) (fn := Tryz.f48) _ _ _ _ _ h) (fun w hs => sat_pulls [0, 0, 0, 0, 0, 0, 0] (G := [] ++ F0) rfl hs) (q_load 1 rfl rfl rfl (by kernel_rfl)) ?_
  refine aw_vals [9] (f' := 8) (m' := 1023) [2, 26, 32] [(2, i6 x2), (26, pP b1), (32, i6 (IntKind.i64.wrap (m0.base_ + x1)))] (fun _ _ _ _ _ h => calm_fin (P := Tryz.prog) (fn := Tryz.f48) _ _ _ _ _ h) (fun w hs => sat_pulls [0, 0, 0, 0, 0, 0, 0] (G := [] ++ F0) rfl hs) rfl (by kernel_rfl) ?_
  obtain ⟨r22, h23, hF⟩ := bind_some hF
  refine aw_only 10 (m' := 2047) (by kernel_rfl) (by kernel_rfl) (pw_call (F := [o3 b0 b1 m0.base_ m0.size_ m0.next_ m0.last_ p0 m0.list_ c0 m0.sure_ m0.dead_, own eStr 9 p0 c0 m0.list_] ++ F0) rfl rfl rfl rfl rfl rfl rfl (by kernel_rfl) (perm_of_pulls [0, 1, 1, 2, 2] rfl) (c_guard_Guard_Get _ (IntKind.i64.wrap (m0.base_ + x1)) m1 m2 b1 p1 c1 p2 b2 r22 h23) ?_)
  rintro _ _ ⟨rfl, rfl⟩
  refine nw_H (H' := [imm I, o1 b1 b2 m1.boot_ m1.n_, o0 b2 p1 m2.sure_ c1 p2 m2.off_ m2.armed_ m2.left_ m2.fall_.Keep m2.fall_.Tear m2.acts_ m2.falls_, own e_disk_sector 51 p1 c1 m2.sure_, mpo (kInt .i64) (fun x : disk_sector => Value.agg #[.string x.s_, i6 x.at_]) p2 m2.wait_, o3 b0 b1 m0.base_ m0.size_ m0.next_ m0.last_ p0 m0.list_ c0 m0.sure_ m0.dead_, own eStr 9 p0 c0 m0.list_] ++ F0) rfl (aw_next (fun w hs => sat_pulls [0, 4, 0, 0, 2, 0, 0] (G := [] ++ F0) rfl hs) ?_)
  refine aw_vals [11, 12, 13, 14, 15, 16, 17] (f' := 0) (m' := 262143) [2, 11, 12, 13] [(2, i6 x2), (11, .string r22.1), (12, i6 r22.2.1), (13, i6 r22.2.2)] (fun _ _ _ _ _ h => calm_fin (P := Tryz.prog) (fn := Tryz.f48) _ _ _ _ _ h) (fun w hs => sat_pulls [0, 4, 0, 0, 2, 0, 0] (G := [] ++ F0) rfl hs) rfl (by kernel_rfl) ?_
  refine aw_keep [2, 11, 12, 13] (L' := [(2, i6 x2), (11, .string r22.1), (12, i6 r22.2.1), (13, i6 r22.2.2)]) rfl ?_
  refine aw_end (by kernel_rfl) ?_
  refine ew_then ?_
  obtain ⟨v24, hF, hK24⟩ := thru_some hF
  refine cw_mid (fun a w => .inl () = v24 ∧ Fr 84 [(11, .string r22.1), (12, i6 r22.2.1)] a ∧ SAT w0 ([imm I, o1 b1 b2 m1.boot_ m1.n_, o0 b2 p1 m2.sure_ c1 p2 m2.off_ m2.armed_ m2.left_ m2.fall_.Keep m2.fall_.Tear m2.acts_ m2.falls_, o3 b0 b1 m0.base_ m0.size_ m0.next_ m0.last_ p0 m0.list_ c0 m0.sure_ m0.dead_, own e_disk_sector 51 p1 c1 m2.sure_, mpo (kInt .i64) (fun x : disk_sector => Value.agg #[.string x.s_, i6 x.at_]) p2 m2.wait_, own eStr 9 p0 c0 m0.list_] ++ F0) w) ?_ ?_
  · refine cw_block ?_
    obtain ⟨v25, hF, hK25⟩ := bind_some hF
    refine cw_mid (fun a w => ∃ (x27 : Bool), x27 = v25 ∧ Fr 84 [(2, i6 x2), (11, .string r22.1), (12, i6 r22.2.1), (13, i6 r22.2.2), (37, .bool x27)] a ∧ SAT w0 ([imm I, o1 b1 b2 m1.boot_ m1.n_, o0 b2 p1 m2.sure_ c1 p2 m2.off_ m2.armed_ m2.left_ m2.fall_.Keep m2.fall_.Tear m2.acts_ m2.falls_, o3 b0 b1 m0.base_ m0.size_ m0.next_ m0.last_ p0 m0.list_ c0 m0.sure_ m0.dead_, own e_disk_sector 51 p1 c1 m2.sure_, mpo (kInt .i64) (fun x : disk_sector => Value.agg #[.string x.s_, i6 x.at_]) p2 m2.wait_, own eStr 9 p0 c0 m0.list_] ++ F0) w) ?_ ?_
    · refine cw_region ?_
      refine ow_vals 3 (j := 3) [2, 11, 12, 13, 40] [(2, i6 x2), (11, .string r22.1), (12, i6 r22.2.1), (13, i6 r22.2.2), (40, .bool (r22.2.2 == 7))] rfl (by kernel_rfl) ?_
      rcases if_some hF with ⟨h26, hF⟩ | ⟨h26, hF⟩
      · refine ow_slots (L' := [(2, i6 x2), (11, .string r22.1), (12, i6 r22.2.1), (13, i6 r22.2.2), (40, .bool true)]) (by rw [h26]) ?_
        refine ow_vals 4 (j := 7) [2, 11, 12, 13, 37] [(2, i6 x2), (11, .string r22.1), (12, i6 r22.2.1), (13, i6 r22.2.2), (37, .bool true)] rfl (by kernel_rfl) ?_
        refine ow_end rfl ?_
        have hR := Option.some.inj hF
        exact fun a w hf hs => ⟨true, hR, hf.keep [2, 11, 12, 13, 37], sat_to [0, 0, 0, 2, 0, 0, 0] 0 rfl hs⟩
      refine ow_slots (L' := [(2, i6 x2), (11, .string r22.1), (12, i6 r22.2.1), (13, i6 r22.2.2), (40, .bool false)]) (by rw [h26]) ?_
      refine ow_vals 4 (j := 7) [2, 11, 12, 13, 37] [(2, i6 x2), (11, .string r22.1), (12, i6 r22.2.1), (13, i6 r22.2.2), (37, .bool (r22.2.2 == 17))] rfl (by kernel_rfl) ?_
      refine ow_end rfl ?_
      have hR := Option.some.inj hF
      exact fun a w hf hs => ⟨r22.2.2 == 17, hR, hf.keep [2, 11, 12, 13, 37], sat_to [0, 0, 0, 2, 0, 0, 0] 0 rfl hs⟩
    rintro a w ⟨x27, hv, hf, hs⟩
    subst hv
    replace hF := hK25
    clear hK25
    try dsimp only at hF
    revert a w
    show CW _ _ _ 84 [(2, i6 x2), (11, .string r22.1), (12, i6 r22.2.1), (13, i6 r22.2.2), (37, .bool x27)] (SAT w0 ([imm I, o1 b1 b2 m1.boot_ m1.n_, o0 b2 p1 m2.sure_ c1 p2 m2.off_ m2.armed_ m2.left_ m2.fall_.Keep m2.fall_.Tear m2.acts_ m2.falls_, o3 b0 b1 m0.base_ m0.size_ m0.next_ m0.last_ p0 m0.list_ c0 m0.sure_ m0.dead_, own e_disk_sector 51 p1 c1 m2.sure_, mpo (kInt .i64) (fun x : disk_sector => Value.agg #[.string x.s_, i6 x.at_]) p2 m2.wait_, own eStr 9 p0 c0 m0.list_] ++ F0))
    unfold F.journal_Journal_part_1.r1 at hF
    rcases if_some hF with ⟨h28, hF⟩ | ⟨h28, hF⟩
    · refine cw_cond_t rfl rfl h28 ?_
      refine cw_seq ?_
      refine cw_region ?_
      refine ow_vals 5 (j := 5) [6, 7, 8, 9, 10] [(6, i6 0), (7, i6 0), (8, .string (ByteArray.mk #[])), (9, i6 0), (10, i6 0)] rfl (by kernel_rfl) ?_
      refine ow_end rfl ?_
      refine ew_then ?_
      refine cw_ret ?_
      refine ew_blk_ret ?_
      refine ew_then_ret ?_
      have hR := Option.some.inj hF
      subst hR
      have hR := hK24
      try dsimp only [Thru] at hR
      subst hR
      exact fin5 (H1 := [imm I, o3 b0 b1 m0.base_ m0.size_ m0.next_ m0.last_ p0 m0.list_ c0 m0.sure_ m0.dead_, o1 b1 b2 m1.boot_ m1.n_, o0 b2 p1 m2.sure_ c1 p2 m2.off_ m2.armed_ m2.left_ m2.fall_.Keep m2.fall_.Tear m2.acts_ m2.falls_, own eStr 9 p0 c0 m0.list_, own e_disk_sector 51 p1 c1 m2.sure_, mpo (kInt .i64) (fun x : disk_sector => Value.agg #[.string x.s_, i6 x.at_]) p2 m2.wait_]) (fun w hs => sat_to [0, 2, 0, 0, 2, 0, 0] 0 rfl hs) rfl (rr_tmp rfl) (rr_tmp rfl) (rr_tmp rfl) (rr_tmp rfl) (rr_tmp rfl) ⟨rfl, rfl⟩
    refine cw_cond_f rfl rfl h28 ?_
    refine cw_seq ?_
    refine cw_region ?_
    refine ow_vals 3 (j := 3) [2, 11, 12, 13, 44] [(2, i6 x2), (11, .string r22.1), (12, i6 r22.2.1), (13, i6 r22.2.2), (44, .bool (r22.2.2 != 0))] rfl (by kernel_rfl) ?_
    refine ow_end rfl ?_
    refine ew_then ?_
    rcases if_some hF with ⟨h29, hF⟩ | ⟨h29, hF⟩
    · refine cw_cond_t rfl rfl h29 ?_
      refine cw_seq ?_
      refine cw_region ?_
      refine ow_vals 6 (j := 6) [6, 7, 8, 9, 10] [(6, i6 0), (7, i6 0), (8, .string (ByteArray.mk #[])), (9, i6 0), (10, i6 r22.2.2)] rfl (by kernel_rfl) ?_
      refine ow_end rfl ?_
      refine ew_then ?_
      refine cw_ret ?_
      refine ew_blk_ret ?_
      refine ew_then_ret ?_
      have hR := Option.some.inj hF
      subst hR
      have hR := hK24
      try dsimp only [Thru] at hR
      subst hR
      exact fin5 (H1 := [imm I, o3 b0 b1 m0.base_ m0.size_ m0.next_ m0.last_ p0 m0.list_ c0 m0.sure_ m0.dead_, o1 b1 b2 m1.boot_ m1.n_, o0 b2 p1 m2.sure_ c1 p2 m2.off_ m2.armed_ m2.left_ m2.fall_.Keep m2.fall_.Tear m2.acts_ m2.falls_, own eStr 9 p0 c0 m0.list_, own e_disk_sector 51 p1 c1 m2.sure_, mpo (kInt .i64) (fun x : disk_sector => Value.agg #[.string x.s_, i6 x.at_]) p2 m2.wait_]) (fun w hs => sat_to [0, 2, 0, 0, 2, 0, 0] 0 rfl hs) rfl (rr_tmp rfl) (rr_tmp rfl) (rr_tmp rfl) (rr_tmp rfl) (rr_tmp rfl) ⟨rfl, rfl⟩
    refine cw_cond_f rfl rfl h29 ?_
    obtain ⟨v30, hF, hK30⟩ := bind_some hF
    refine cw_mid (fun a w => ∃ (x35 : Bool), x35 = v30 ∧ Fr 84 [(11, .string r22.1), (12, i6 r22.2.1), (48, .bool x35)] a ∧ SAT w0 ([imm I, o1 b1 b2 m1.boot_ m1.n_, o0 b2 p1 m2.sure_ c1 p2 m2.off_ m2.armed_ m2.left_ m2.fall_.Keep m2.fall_.Tear m2.acts_ m2.falls_, o3 b0 b1 m0.base_ m0.size_ m0.next_ m0.last_ p0 m0.list_ c0 m0.sure_ m0.dead_, own e_disk_sector 51 p1 c1 m2.sure_, mpo (kInt .i64) (fun x : disk_sector => Value.agg #[.string x.s_, i6 x.at_]) p2 m2.wait_, own eStr 9 p0 c0 m0.list_] ++ F0) w) ?_ ?_
    · refine cw_region ?_
      refine ow_vals 4 (j := 4) [2, 11, 12, 52] [(2, i6 x2), (11, .string r22.1), (12, i6 r22.2.1), (52, .bool (decide ((r22.1.size : Int) < 9)))] rfl (by kernel_rfl) ?_
      rcases if_some hF with ⟨h31, hF⟩ | ⟨h31, hF⟩
      · refine ow_slots (L' := [(2, i6 x2), (11, .string r22.1), (12, i6 r22.2.1), (52, .bool true)]) (by rw [h31]) ?_
        refine ow_vals 7 (j := 11) [11, 12, 48] [(11, .string r22.1), (12, i6 r22.2.1), (48, .bool true)] rfl (by kernel_rfl) ?_
        refine ow_end rfl ?_
        have hR := Option.some.inj hF
        exact fun a w hf hs => ⟨true, hR, hf.keep [11, 12, 48], sat_to [0, 0, 0, 0, 0, 0, 0] 0 rfl hs⟩
      refine ow_slots (L' := [(2, i6 x2), (11, .string r22.1), (12, i6 r22.2.1), (52, .bool false)]) (by rw [h31]) ?_
      refine ow_vals 1 (j := 5) [2, 11, 12, 52, 53] [(2, i6 x2), (11, .string r22.1), (12, i6 r22.2.1), (52, .bool false), (53, .string r22.1)] rfl (by kernel_rfl) ?_
      obtain ⟨h32, hF⟩ := chk_some hF
      refine ow_pw rfl (pw_quiet (v := .string (r22.1.extract (1 : Int).toNat (9 : Int).toNat)) rfl rfl rfl rfl (q_slice_str rfl (by kernel_rfl) rfl rfl rfl h32.1 h32.2.1 h32.2.2) (nw_ow ?_))
      obtain ⟨r33, h34, hF⟩ := bind_some hF
      refine ow_pw rfl (pw_call (F := [o1 b1 b2 m1.boot_ m1.n_, o0 b2 p1 m2.sure_ c1 p2 m2.off_ m2.armed_ m2.left_ m2.fall_.Keep m2.fall_.Tear m2.acts_ m2.falls_, o3 b0 b1 m0.base_ m0.size_ m0.next_ m0.last_ p0 m0.list_ c0 m0.sure_ m0.dead_, own e_disk_sector 51 p1 c1 m2.sure_, mpo (kInt .i64) (fun x : disk_sector => Value.agg #[.string x.s_, i6 x.at_]) p2 m2.wait_, own eStr 9 p0 c0 m0.list_] ++ F0) rfl rfl rfl rfl rfl rfl rfl (by kernel_rfl) (perm_of_pulls [0] rfl) (c_guard_Number _ (r22.1.extract (1 : Int).toNat (9 : Int).toNat) r33 h34) ?_)
      rintro _ _ ⟨rfl, rfl⟩
      refine nw_H (H' := [imm I, o1 b1 b2 m1.boot_ m1.n_, o0 b2 p1 m2.sure_ c1 p2 m2.off_ m2.armed_ m2.left_ m2.fall_.Keep m2.fall_.Tear m2.acts_ m2.falls_, o3 b0 b1 m0.base_ m0.size_ m0.next_ m0.last_ p0 m0.list_ c0 m0.sure_ m0.dead_, own e_disk_sector 51 p1 c1 m2.sure_, mpo (kInt .i64) (fun x : disk_sector => Value.agg #[.string x.s_, i6 x.at_]) p2 m2.wait_, own eStr 9 p0 c0 m0.list_] ++ F0) rfl (nw_ow ?_)
      refine ow_vals 4 (j := 11) [11, 12, 48] [(11, .string r22.1), (12, i6 r22.2.1), (48, .bool (r33 != x2))] rfl (by kernel_rfl) ?_
      refine ow_end rfl ?_
      have hR := Option.some.inj hF
      exact fun a w hf hs => ⟨r33 != x2, hR, hf.keep [11, 12, 48], sat_to [0, 0, 0, 0, 0, 0, 0] 0 rfl hs⟩
    rintro a w ⟨x35, hv, hf, hs⟩
    subst hv
    replace hF := hK30
    clear hK30
    try dsimp only at hF
    revert a w
    show CW _ _ _ 84 [(11, .string r22.1), (12, i6 r22.2.1), (48, .bool x35)] (SAT w0 ([imm I, o1 b1 b2 m1.boot_ m1.n_, o0 b2 p1 m2.sure_ c1 p2 m2.off_ m2.armed_ m2.left_ m2.fall_.Keep m2.fall_.Tear m2.acts_ m2.falls_, o3 b0 b1 m0.base_ m0.size_ m0.next_ m0.last_ p0 m0.list_ c0 m0.sure_ m0.dead_, own e_disk_sector 51 p1 c1 m2.sure_, mpo (kInt .i64) (fun x : disk_sector => Value.agg #[.string x.s_, i6 x.at_]) p2 m2.wait_, own eStr 9 p0 c0 m0.list_] ++ F0))
    unfold F.journal_Journal_part_1.r2 at hF
    rcases if_some hF with ⟨h36, hF⟩ | ⟨h36, hF⟩
    · refine cw_cond_t rfl rfl h36 ?_
      refine cw_seq ?_
      refine cw_region ?_
      refine ow_vals 5 (j := 5) [6, 7, 8, 9, 10] [(6, i6 0), (7, i6 0), (8, .string (ByteArray.mk #[])), (9, i6 0), (10, i6 0)] rfl (by kernel_rfl) ?_
      refine ow_end rfl ?_
      refine ew_then ?_
      refine cw_ret ?_
      refine ew_blk_ret ?_
      refine ew_then_ret ?_
      have hR := Option.some.inj hF
      subst hR
      have hR := hK24
      try dsimp only [Thru] at hR
      subst hR
      exact fin5 (H1 := [imm I, o3 b0 b1 m0.base_ m0.size_ m0.next_ m0.last_ p0 m0.list_ c0 m0.sure_ m0.dead_, o1 b1 b2 m1.boot_ m1.n_, o0 b2 p1 m2.sure_ c1 p2 m2.off_ m2.armed_ m2.left_ m2.fall_.Keep m2.fall_.Tear m2.acts_ m2.falls_, own eStr 9 p0 c0 m0.list_, own e_disk_sector 51 p1 c1 m2.sure_, mpo (kInt .i64) (fun x : disk_sector => Value.agg #[.string x.s_, i6 x.at_]) p2 m2.wait_]) (fun w hs => sat_to [0, 2, 0, 0, 2, 0, 0] 0 rfl hs) rfl (rr_tmp rfl) (rr_tmp rfl) (rr_tmp rfl) (rr_tmp rfl) (rr_tmp rfl) ⟨rfl, rfl⟩
    refine cw_cond_f rfl rfl h36 ?_
    refine cw_skip ?_
    refine ew_blk ?_
    have hR := Option.some.inj hF
    exact fun a w hf hs => ⟨hR, hf.keep [11, 12], sat_to [0, 0, 0, 0, 0, 0, 0] 0 rfl hs⟩
  rintro a w ⟨hv, hf, hs⟩
  subst hv
  replace hF := hK24
  clear hK24
  try dsimp only [Thru] at hF
  revert a w
  show CW _ _ _ 84 [(11, .string r22.1), (12, i6 r22.2.1)] (SAT w0 ([imm I, o1 b1 b2 m1.boot_ m1.n_, o0 b2 p1 m2.sure_ c1 p2 m2.off_ m2.armed_ m2.left_ m2.fall_.Keep m2.fall_.Tear m2.acts_ m2.falls_, o3 b0 b1 m0.base_ m0.size_ m0.next_ m0.last_ p0 m0.list_ c0 m0.sure_ m0.dead_, own e_disk_sector 51 p1 c1 m2.sure_, mpo (kInt .i64) (fun x : disk_sector => Value.agg #[.string x.s_, i6 x.at_]) p2 m2.wait_, own eStr 9 p0 c0 m0.list_] ++ F0))
  unfold F.journal_Journal_part_1.r3 at hF
  refine cw_seq ?_
  refine cw_open 7 (SAT w0 ([imm I, o1 b1 b2 m1.boot_ m1.n_, o0 b2 p1 m2.sure_ c1 p2 m2.off_ m2.armed_ m2.left_ m2.fall_.Keep m2.fall_.Tear m2.acts_ m2.falls_, o3 b0 b1 m0.base_ m0.size_ m0.next_ m0.last_ p0 m0.list_ c0 m0.sure_ m0.dead_, own e_disk_sector 51 p1 c1 m2.sure_, mpo (kInt .i64) (fun x : disk_sector => Value.agg #[.string x.s_, i6 x.at_]) p2 m2.wait_, own eStr 9 p0 c0 m0.list_])) (by kernel_rfl) (f := 7) rfl (fun w hs => sat_drew hs) ?_
  refine aw_vals [0, 3] (f' := 5) (m' := 9) [12, 59, 62] [(12, i6 r22.2.1), (59, .string r22.1), (62, .string r22.1)] (fun _ _ _ _ _ h => calm_fin (P := Tryz.prog) (fn := Tryz.f48) _ _ _ _ _ h) (fun w hs => sat_pulls [0, 0, 0, 0, 0, 0, 0] (G := [] ++ F0) rfl hs) rfl (by kernel_rfl) ?_
  obtain ⟨h37, hF⟩ := chk_some hF
  refine aw_pure 1 (m' := 11) (v := .int .u8 (bt r22.1 0)) rfl rfl rfl rfl (by kernel_rfl) (by kernel_rfl) (fun _ _ _ _ _ h => calm_fin (P := Tryz.prog) (fn := Tryz.f48) _ _ _ _ _ h) (fun w hs => sat_pulls [0, 0, 0, 0, 0, 0, 0] (G := [] ++ F0) rfl hs) (q_index_str rfl (by kernel_rfl) rfl rfl h37.1 h37.2) ?_
  refine aw_vals [2, 5] (f' := 2) (m' := 47) [12, 14, 62] [(12, i6 r22.2.1), (14, i6 (IntKind.i64.wrap (bt r22.1 0))), (62, .string r22.1)] (fun _ _ _ _ _ h => calm_fin (P := Tryz.prog) (fn := Tryz.f48) _ _ _ _ _ h) (fun w hs => sat_pulls [0, 0, 0, 0, 0, 0, 0] (G := [] ++ F0) rfl hs) rfl (by kernel_rfl) ?_
  obtain ⟨h38, hF⟩ := chk_some hF
  refine aw_pure 4 (m' := 63) (v := .string (r22.1.extract (9 : Int).toNat (r22.1.size : Int).toNat)) rfl rfl rfl rfl (by kernel_rfl) (by kernel_rfl) (fun _ _ _ _ _ h => calm_fin (P := Tryz.prog) (fn := Tryz.f48) _ _ _ _ _ h) (fun w hs => sat_pulls [0, 0, 0, 0, 0, 0, 0] (G := [] ++ F0) rfl hs) (q_slice_str rfl (by kernel_rfl) rfl rfl rfl h38.1 h38.2.1 h38.2.2) ?_
  refine aw_vals [6] (f' := 0) (m' := 127) [12, 14, 15] [(12, i6 r22.2.1), (14, i6 (IntKind.i64.wrap (bt r22.1 0))), (15, .string (r22.1.extract (9 : Int).toNat (r22.1.size : Int).toNat))] (fun _ _ _ _ _ h => calm_fin (P := Tryz.prog) (fn := Tryz.f48) _ _ _ _ _ h) (fun w hs => sat_pulls [0, 0, 0, 0, 0, 0, 0] (G := [] ++ F0) rfl hs) rfl (by kernel_rfl) ?_
  refine aw_keep [12, 14, 15] (L' := [(12, i6 r22.2.1), (14, i6 (IntKind.i64.wrap (bt r22.1 0))), (15, .string (r22.1.extract (9 : Int).toNat (r22.1.size : Int).toNat))]) rfl ?_
  refine aw_end (by kernel_rfl) ?_
  refine ew_then ?_
  refine cw_seq ?_
  refine cw_seq ?_
  refine cw_region ?_
  refine ow_vals 2 (j := 2) [12, 14, 15, 65] [(12, i6 r22.2.1), (14, i6 (IntKind.i64.wrap (bt r22.1 0))), (15, .string (r22.1.extract (9 : Int).toNat (r22.1.size : Int).toNat)), (65, .bool ((IntKind.i64.wrap (bt r22.1 0)) == 1))] rfl (by kernel_rfl) ?_
  refine ow_end rfl ?_
  refine ew_then ?_
  rcases if_some hF with ⟨h39, hF⟩ | ⟨h39, hF⟩
  · refine cw_cond_t rfl rfl h39 ?_
    refine cw_seq ?_
    refine cw_seq ?_
    refine cw_region ?_
    refine ow_vals 3 (j := 3) [12, 14, 15, 68] [(12, i6 r22.2.1), (14, i6 (IntKind.i64.wrap (bt r22.1 0))), (15, .string (r22.1.extract (9 : Int).toNat (r22.1.size : Int).toNat)), (68, .bool (decide (((r22.1.extract (9 : Int).toNat (r22.1.size : Int).toNat).size : Int) < 2)))] rfl (by kernel_rfl) ?_
    refine ow_end rfl ?_
    refine ew_then ?_
    rcases if_some hF with ⟨h40, hF⟩ | ⟨h40, hF⟩
    · refine cw_cond_t rfl rfl h40 ?_
      refine cw_seq ?_
      refine cw_region ?_
      refine ow_vals 5 (j := 5) [6, 7, 8, 9, 10] [(6, i6 0), (7, i6 0), (8, .string (ByteArray.mk #[])), (9, i6 0), (10, i6 0)] rfl (by kernel_rfl) ?_
      refine ow_end rfl ?_
      refine ew_then ?_
      refine cw_ret ?_
      refine ew_then_ret ?_
      refine ew_then_ret ?_
      have hR := Option.some.inj hF
      subst hR
      exact fin5 (H1 := [imm I, o3 b0 b1 m0.base_ m0.size_ m0.next_ m0.last_ p0 m0.list_ c0 m0.sure_ m0.dead_, o1 b1 b2 m1.boot_ m1.n_, o0 b2 p1 m2.sure_ c1 p2 m2.off_ m2.armed_ m2.left_ m2.fall_.Keep m2.fall_.Tear m2.acts_ m2.falls_, own eStr 9 p0 c0 m0.list_, own e_disk_sector 51 p1 c1 m2.sure_, mpo (kInt .i64) (fun x : disk_sector => Value.agg #[.string x.s_, i6 x.at_]) p2 m2.wait_]) (fun w hs => sat_to [0, 2, 0, 0, 2, 0, 0] 0 rfl hs) rfl (rr_tmp rfl) (rr_tmp rfl) (rr_tmp rfl) (rr_tmp rfl) (rr_tmp rfl) ⟨rfl, rfl⟩
    refine cw_cond_f rfl rfl h40 ?_
    refine cw_skip ?_
    refine ew_then ?_
    refine cw_seq ?_
    refine cw_open 17 (SAT w0 ([imm I, o1 b1 b2 m1.boot_ m1.n_, o0 b2 p1 m2.sure_ c1 p2 m2.off_ m2.armed_ m2.left_ m2.fall_.Keep m2.fall_.Tear m2.acts_ m2.falls_, o3 b0 b1 m0.base_ m0.size_ m0.next_ m0.last_ p0 m0.list_ c0 m0.sure_ m0.dead_, own e_disk_sector 51 p1 c1 m2.sure_, mpo (kInt .i64) (fun x : disk_sector => Value.agg #[.string x.s_, i6 x.at_]) p2 m2.wait_, own eStr 9 p0 c0 m0.list_])) (by kernel_rfl) (f := 17) rfl (fun w hs => sat_drew hs) ?_
    refine aw_vals [0, 1, 5, 9, 11, 12] (f' := 11) (m' := 6691) [6, 70, 74, 78, 80] [(6, i6 (IntKind.i64.wrap (bt r22.1 0))), (70, .string (r22.1.extract (9 : Int).toNat (r22.1.size : Int).toNat)), (74, .string (r22.1.extract (9 : Int).toNat (r22.1.size : Int).toNat)), (78, .string (r22.1.extract (9 : Int).toNat (r22.1.size : Int).toNat)), (80, i6 r22.2.1)] (fun _ _ _ _ _ h => calm_fin (P := Tryz.prog) (fn := Tryz.f48) _ _ _ _ _ h) (fun w hs => sat_pulls [0, 0, 0, 0, 0, 0, 0] (G := [] ++ F0) rfl hs) rfl (by kernel_rfl) ?_
    obtain ⟨h41, hF⟩ := chk_some hF
    refine aw_pure 2 (m' := 6695) (v := .int .u8 (bt (r22.1.extract (9 : Int).toNat (r22.1.size : Int).toNat) 0)) rfl rfl rfl rfl (by kernel_rfl) (by kernel_rfl) (fun _ _ _ _ _ h => calm_fin (P := Tryz.prog) (fn := Tryz.f48) _ _ _ _ _ h) (fun w hs => sat_pulls [0, 0, 0, 0, 0, 0, 0] (G := [] ++ F0) rfl hs) (q_index_str rfl (by kernel_rfl) rfl rfl h41.1 h41.2) ?_
    refine aw_vals [3, 4] (f' := 8) (m' := 6719) [6, 73, 74, 78, 80] [(6, i6 (IntKind.i64.wrap (bt r22.1 0))), (73, i6 (IntKind.i64.wrap ((IntKind.i64.wrap (bt (r22.1.extract (9 : Int).toNat (r22.1.size : Int).toNat) 0)) * 2 ^ 8))), (74, .string (r22.1.extract (9 : Int).toNat (r22.1.size : Int).toNat)), (78, .string (r22.1.extract (9 : Int).toNat (r22.1.size : Int).toNat)), (80, i6 r22.2.1)] (fun _ _ _ _ _ h => calm_fin (P := Tryz.prog) (fn := Tryz.f48) _ _ _ _ _ h) (fun w hs => sat_pulls [0, 0, 0, 0, 0, 0, 0] (G := [] ++ F0) rfl hs) rfl (by kernel_rfl) ?_
    obtain ⟨h42, hF⟩ := chk_some hF
    refine aw_pure 6 (m' := 6783) (v := .int .u8 (bt (r22.1.extract (9 : Int).toNat (r22.1.size : Int).toNat) 1)) rfl rfl rfl rfl (by kernel_rfl) (by kernel_rfl) (fun _ _ _ _ _ h => calm_fin (P := Tryz.prog) (fn := Tryz.f48) _ _ _ _ _ h) (fun w hs => sat_pulls [0, 0, 0, 0, 0, 0, 0] (G := [] ++ F0) rfl hs) (q_index_str rfl (by kernel_rfl) rfl rfl h42.1 h42.2) ?_
    refine aw_vals [7, 8, 13] (f' := 4) (m' := 15359) [6, 7, 78, 80] [(6, i6 (IntKind.i64.wrap (bt r22.1 0))), (7, i6 (ior .i64 (IntKind.i64.wrap ((IntKind.i64.wrap (bt (r22.1.extract (9 : Int).toNat (r22.1.size : Int).toNat) 0)) * 2 ^ 8)) (IntKind.i64.wrap (bt (r22.1.extract (9 : Int).toNat (r22.1.size : Int).toNat) 1)))), (78, .string (r22.1.extract (9 : Int).toNat (r22.1.size : Int).toNat)), (80, i6 r22.2.1)] (fun _ _ _ _ _ h => calm_fin (P := Tryz.prog) (fn := Tryz.f48) _ _ _ _ _ h) (fun w hs => sat_pulls [0, 0, 0, 0, 0, 0, 0] (G := [] ++ F0) rfl hs) rfl (by kernel_rfl) ?_
    obtain ⟨h43, hF⟩ := chk_some hF
    refine aw_pure 10 (m' := 16383) (v := .string ((r22.1.extract (9 : Int).toNat (r22.1.size : Int).toNat).extract (2 : Int).toNat ((r22.1.extract (9 : Int).toNat (r22.1.size : Int).toNat).size : Int).toNat)) rfl rfl rfl rfl (by kernel_rfl) (by kernel_rfl) (fun _ _ _ _ _ h => calm_fin (P := Tryz.prog) (fn := Tryz.f48) _ _ _ _ _ h) (fun w hs => sat_pulls [0, 0, 0, 0, 0, 0, 0] (G := [] ++ F0) rfl hs) (q_slice_str rfl (by kernel_rfl) rfl rfl rfl h43.1 h43.2.1 h43.2.2) ?_
    refine aw_vals [14, 15, 16] (f' := 0) (m' := 131071) [6, 7, 8, 9, 10] [(6, i6 (IntKind.i64.wrap (bt r22.1 0))), (7, i6 (ior .i64 (IntKind.i64.wrap ((IntKind.i64.wrap (bt (r22.1.extract (9 : Int).toNat (r22.1.size : Int).toNat) 0)) * 2 ^ 8)) (IntKind.i64.wrap (bt (r22.1.extract (9 : Int).toNat (r22.1.size : Int).toNat) 1)))), (8, .string ((r22.1.extract (9 : Int).toNat (r22.1.size : Int).toNat).extract (2 : Int).toNat ((r22.1.extract (9 : Int).toNat (r22.1.size : Int).toNat).size : Int).toNat)), (9, i6 r22.2.1), (10, i6 0)] (fun _ _ _ _ _ h => calm_fin (P := Tryz.prog) (fn := Tryz.f48) _ _ _ _ _ h) (fun w hs => sat_pulls [0, 0, 0, 0, 0, 0, 0] (G := [] ++ F0) rfl hs) rfl (by kernel_rfl) ?_
    refine aw_keep [6, 7, 8, 9, 10] (L' := [(6, i6 (IntKind.i64.wrap (bt r22.1 0))), (7, i6 (ior .i64 (IntKind.i64.wrap ((IntKind.i64.wrap (bt (r22.1.extract (9 : Int).toNat (r22.1.size : Int).toNat) 0)) * 2 ^ 8)) (IntKind.i64.wrap (bt (r22.1.extract (9 : Int).toNat (r22.1.size : Int).toNat) 1)))), (8, .string ((r22.1.extract (9 : Int).toNat (r22.1.size : Int).toNat).extract (2 : Int).toNat ((r22.1.extract (9 : Int).toNat (r22.1.size : Int).toNat).size : Int).toNat)), (9, i6 r22.2.1), (10, i6 0)]) rfl ?_
    refine aw_end (by kernel_rfl) ?_
    refine ew_then ?_
    refine cw_ret ?_
    refine ew_then_ret ?_
    have hR := Option.some.inj hF
    subst hR
    exact fin5 (H1 := [imm I, o3 b0 b1 m0.base_ m0.size_ m0.next_ m0.last_ p0 m0.list_ c0 m0.sure_ m0.dead_, o1 b1 b2 m1.boot_ m1.n_, o0 b2 p1 m2.sure_ c1 p2 m2.off_ m2.armed_ m2.left_ m2.fall_.Keep m2.fall_.Tear m2.acts_ m2.falls_, own eStr 9 p0 c0 m0.list_, own e_disk_sector 51 p1 c1 m2.sure_, mpo (kInt .i64) (fun x : disk_sector => Value.agg #[.string x.s_, i6 x.at_]) p2 m2.wait_]) (fun w hs => sat_to [0, 2, 0, 0, 2, 0, 0] 0 rfl hs) rfl (rr_tmp rfl) (rr_tmp rfl) (rr_tmp rfl) (rr_tmp rfl) (rr_tmp rfl) ⟨rfl, rfl⟩
  refine cw_cond_f rfl rfl h39 ?_
  refine cw_skip ?_
  refine ew_then ?_
  refine cw_seq ?_
  refine cw_region ?_
  refine ow_vals 8 (j := 8) [6, 7, 8, 9, 10] [(6, i6 (IntKind.i64.wrap (bt r22.1 0))), (7, i6 0), (8, .string (r22.1.extract (9 : Int).toNat (r22.1.size : Int).toNat)), (9, i6 r22.2.1), (10, i6 0)] rfl (by kernel_rfl) ?_
  refine ow_end rfl ?_
  refine ew_then ?_
  refine cw_ret ?_
  have hR := Option.some.inj hF
  subst hR
  exact fin5 (H1 := [imm I, o3 b0 b1 m0.base_ m0.size_ m0.next_ m0.last_ p0 m0.list_ c0 m0.sure_ m0.dead_, o1 b1 b2 m1.boot_ m1.n_, o0 b2 p1 m2.sure_ c1 p2 m2.off_ m2.armed_ m2.left_ m2.fall_.Keep m2.fall_.Tear m2.acts_ m2.falls_, own eStr 9 p0 c0 m0.list_, own e_disk_sector 51 p1 c1 m2.sure_, mpo (kInt .i64) (fun x : disk_sector => Value.agg #[.string x.s_, i6 x.at_]) p2 m2.wait_]) (fun w hs => sat_to [0, 2, 0, 0, 2, 0, 0] 0 rfl hs) rfl (rr_tmp rfl) (rr_tmp rfl) (rr_tmp rfl) (rr_tmp rfl) (rr_tmp rfl) ⟨rfl, rfl⟩


def F.journal_Journal_record_1.r1 (r21 : Int × Int × ByteArray × Int × Int) (x28 : Bool) : Option ((Unit) ⊕ (ByteArray × Int × Int × Int)) :=
  if x28 then (some (.inr (((ByteArray.mk #[]), 0, 0, r21.2.2.2.2)))) else (some (.inl ()))
def F.journal_Journal_record_1.r3 (r36 : Int × Int × ByteArray × Int × Int) (x42 : Bool) : Option ((Unit) ⊕ ((ByteArray × Int × Int) ⊕ ((ByteArray × Int × Int) ⊕ (ByteArray × Int × Int × Int)))) :=
  if x42 then (some (.inr (.inr (.inr (((ByteArray.mk #[]), 0, 0, r36.2.2.2.2)))))) else (some (.inl ()))
def F.journal_Journal_record_1.r4 (s32 : ByteArray) (x34 : Int) (r36 : Int × Int × ByteArray × Int × Int) : Option ((ByteArray × Int × Int) ⊕ ((ByteArray × Int × Int) ⊕ (ByteArray × Int × Int × Int))) :=
  chk (s32.size + r36.2.2.1.size ≤ 9223372036854775807) (some (.inl (s32 ++ r36.2.2.1, r36.2.2.2.1, IntKind.i64.wrap (x34 + 1))))
def F.journal_Journal_record_1.l5 (x1 : Int) (m0 : journal_Journal) (m1 : guard_Guard) (m2 : disk_Disk) (r21 : Int × Int × ByteArray × Int × Int) (s32 : ByteArray) (x33 : Int) (x34 : Int) : Option ((ByteArray × Int × Int) ⊕ ((ByteArray × Int × Int) ⊕ (ByteArray × Int × Int × Int))) :=
  if decide ((s32.size : Int) < r21.2.1) then (Option.bind (F.journal_Journal_part_1 (IntKind.i64.wrap (x1 + x34)) x33 m0 m1 m2) (fun (r36 : Int × Int × ByteArray × Int × Int) => thru (Option.bind (if r36.2.2.2.2 != 0 then (some (true)) else (if r36.1 != 2 then (some (true)) else (some (((r36.2.2.1.size : Int) != (if 38 < (IntKind.i64.wrap (r21.2.1 - (s32.size : Int))) then 38 else (IntKind.i64.wrap (r21.2.1 - (s32.size : Int))))))))) (fun x => F.journal_Journal_record_1.r3 r36 x)) (fun x => F.journal_Journal_record_1.r4 s32 x34 r36))) else (some (.inr (.inl (s32, x33, x34))))
def F.journal_Journal_record_1.r6 (s45 : ByteArray) (x46 : Int) (x47 : Int) : Option (ByteArray × Int × Int × Int) :=
  some ((s45, x47, x46, 0))
def F.journal_Journal_record_1.r2 (x1 : Int) (m0 : journal_Journal) (m1 : guard_Guard) (m2 : disk_Disk) (r21 : Int × Int × ByteArray × Int × Int) : Option (ByteArray × Int × Int × Int) :=
  thru (iter (fun x => F.journal_Journal_record_1.l5 x1 m0 m1 m2 r21 x.1 x.2.1 x.2.2) FUEL (r21.2.2.1, r21.2.2.2.1, 1)) (fun x => F.journal_Journal_record_1.r6 x.1 x.2.1 x.2.2)
def F.journal_Journal_record_1 (x1 : Int) (x2 : Int) (m0 : journal_Journal) (m1 : guard_Guard) (m2 : disk_Disk) : Option (ByteArray × Int × Int × Int) :=
  Option.bind (F.journal_Journal_part_1 x1 x2 m0 m1 m2) (fun (r21 : Int × Int × ByteArray × Int × Int) => thru (Option.bind (if r21.2.2.2.2 != 0 then (some (true)) else (if r21.1 != 1 then (some (true)) else (if decide (r21.2.1 > 6000) then (some (true)) else (some (((r21.2.2.1.size : Int) != (if 36 < r21.2.1 then 36 else r21.2.1))))))) (fun x => F.journal_Journal_record_1.r1 r21 x)) (fun x => F.journal_Journal_record_1.r2 x1 m0 m1 m2 r21))
set_option maxRecDepth 100000 in
set_option maxHeartbeats 4000000 in
theorem c_journal_Journal_record_1 (I : Hl) (x1 : Int) (x2 : Int) (m0 : journal_Journal) (m1 : guard_Guard) (m2 : disk_Disk) (p0 : Option Addr) (c0 : Nat) (b0 : Nat) (b1 : Nat) (p1 : Option Addr) (c1 : Nat) (p2 : Nat) (b2 : Nat) (res : ByteArray × Int × Int × Int) (hF : F.journal_Journal_record_1 x1 x2 m0 m1 m2 = some res) : Tr Tryz.prog 35 [pP b0, i6 x1, i6 x2] [imm I, o3 b0 b1 m0.base_ m0.size_ m0.next_ m0.last_ p0 m0.list_ c0 m0.sure_ m0.dead_, o1 b1 b2 m1.boot_ m1.n_, o0 b2 p1 m2.sure_ c1 p2 m2.off_ m2.armed_ m2.left_ m2.fall_.Keep m2.fall_.Tear m2.acts_ m2.falls_, own eStr 9 p0 c0 m0.list_, own e_disk_sector 51 p1 c1 m2.sure_, mpo (kInt .i64) (fun x : disk_sector => Value.agg #[.string x.s_, i6 x.at_]) p2 m2.wait_] (fun r H' => r = .tuple #[.string res.1, i6 res.2.1, i6 res.2.2.1, i6 res.2.2.2] ∧ H' = [imm I, o3 b0 b1 m0.base_ m0.size_ m0.next_ m0.last_ p0 m0.list_ c0 m0.sure_ m0.dead_, o1 b1 b2 m1.boot_ m1.n_, o0 b2 p1 m2.sure_ c1 p2 m2.off_ m2.armed_ m2.left_ m2.fall_.Keep m2.fall_.Tear m2.acts_ m2.falls_, own eStr 9 p0 c0 m0.list_, own e_disk_sector 51 p1 c1 m2.sure_, mpo (kInt .i64) (fun x : disk_sector => Value.agg #[.string x.s_, i6 x.at_]) p2 m2.wait_]) := by
  unfold F.journal_Journal_record_1 at hF
  refine tr_of_cw (fn := Tryz.f35) Tryz.func35 rfl (Nat.le_of_ble_eq_true rfl) 91 rfl fun F0 w0 => ?_
  refine cw_keep [0, 1, 2] (L' := [(0, pP b0), (1, i6 x1), (2, i6 x2)]) rfl ?_
  refine cw_state (S' := SAT w0 ([imm I, o3 b0 b1 m0.base_ m0.size_ m0.next_ m0.last_ p0 m0.list_ c0 m0.sure_ m0.dead_, o1 b1 b2 m1.boot_ m1.n_, o0 b2 p1 m2.sure_ c1 p2 m2.off_ m2.armed_ m2.left_ m2.fall_.Keep m2.fall_.Tear m2.acts_ m2.falls_, own eStr 9 p0 c0 m0.list_, own e_disk_sector 51 p1 c1 m2.sure_, mpo (kInt .i64) (fun x : disk_sector => Value.agg #[.string x.s_, i6 x.at_]) p2 m2.wait_] ++ F0)) (fun w hs => hs) ?_
  refine cw_seq ?_
  refine cw_region ?_
  refine ow_vals 4 (j := 4) [0, 1, 2] [(0, pP b0), (1, i6 x1), (2, i6 x2)] rfl (by kernel_rfl) ?_
  refine ow_end rfl ?_
  refine ew_then ?_
  refine cw_seq ?_
  refine cw_region ?_
  refine ow_vals 3 (j := 3) [0, 1, 22, 23, 24] [(0, pP b0), (1, i6 x1), (22, pP b0), (23, i6 x1), (24, i6 x2)] rfl (by kernel_rfl) ?_
  obtain ⟨r21, h22, hF⟩ := bind_some hF
  refine ow_pw rfl (pw_call (F := [] ++ F0) rfl rfl rfl rfl rfl rfl rfl (by kernel_rfl) (perm_of_pulls [0, 0, 0, 0, 0, 0, 0] rfl) (c_journal_Journal_part_1 _ x1 x2 m0 m1 m2 p0 c0 b0 b1 p1 c1 p2 b2 r21 h22) ?_)
  rintro _ _ ⟨rfl, rfl⟩
  refine nw_H (H' := [imm I, o3 b0 b1 m0.base_ m0.size_ m0.next_ m0.last_ p0 m0.list_ c0 m0.sure_ m0.dead_, o1 b1 b2 m1.boot_ m1.n_, o0 b2 p1 m2.sure_ c1 p2 m2.off_ m2.armed_ m2.left_ m2.fall_.Keep m2.fall_.Tear m2.acts_ m2.falls_, own eStr 9 p0 c0 m0.list_, own e_disk_sector 51 p1 c1 m2.sure_, mpo (kInt .i64) (fun x : disk_sector => Value.agg #[.string x.s_, i6 x.at_]) p2 m2.wait_] ++ F0) rfl (nw_ow ?_)
  refine ow_vals 11 (j := 15) [0, 1, 10, 11, 12, 13, 14] [(0, pP b0), (1, i6 x1), (10, i6 r21.1), (11, i6 r21.2.1), (12, .string r21.2.2.1), (13, i6 r21.2.2.2.1), (14, i6 r21.2.2.2.2)] rfl (by kernel_rfl) ?_
  refine ow_end rfl ?_
  refine ew_then ?_
  obtain ⟨v23, hF, hK23⟩ := thru_some hF
  refine cw_mid (fun a w => .inl () = v23 ∧ Fr 91 [(0, pP b0), (1, i6 x1), (11, i6 r21.2.1), (12, .string r21.2.2.1), (13, i6 r21.2.2.2.1)] a ∧ SAT w0 ([imm I, o3 b0 b1 m0.base_ m0.size_ m0.next_ m0.last_ p0 m0.list_ c0 m0.sure_ m0.dead_, o1 b1 b2 m1.boot_ m1.n_, o0 b2 p1 m2.sure_ c1 p2 m2.off_ m2.armed_ m2.left_ m2.fall_.Keep m2.fall_.Tear m2.acts_ m2.falls_, own eStr 9 p0 c0 m0.list_, own e_disk_sector 51 p1 c1 m2.sure_, mpo (kInt .i64) (fun x : disk_sector => Value.agg #[.string x.s_, i6 x.at_]) p2 m2.wait_] ++ F0) w) ?_ ?_
  · obtain ⟨v24, hF, hK24⟩ := bind_some hF
    refine cw_mid (fun a w => ∃ (x28 : Bool), x28 = v24 ∧ Fr 91 [(0, pP b0), (1, i6 x1), (11, i6 r21.2.1), (12, .string r21.2.2.1), (13, i6 r21.2.2.2.1), (14, i6 r21.2.2.2.2), (47, .bool x28)] a ∧ SAT w0 ([imm I, o3 b0 b1 m0.base_ m0.size_ m0.next_ m0.last_ p0 m0.list_ c0 m0.sure_ m0.dead_, o1 b1 b2 m1.boot_ m1.n_, o0 b2 p1 m2.sure_ c1 p2 m2.off_ m2.armed_ m2.left_ m2.fall_.Keep m2.fall_.Tear m2.acts_ m2.falls_, own eStr 9 p0 c0 m0.list_, own e_disk_sector 51 p1 c1 m2.sure_, mpo (kInt .i64) (fun x : disk_sector => Value.agg #[.string x.s_, i6 x.at_]) p2 m2.wait_] ++ F0) w) ?_ ?_
    · refine cw_region ?_
      refine ow_vals 3 (j := 3) [0, 1, 10, 11, 12, 13, 14, 33] [(0, pP b0), (1, i6 x1), (10, i6 r21.1), (11, i6 r21.2.1), (12, .string r21.2.2.1), (13, i6 r21.2.2.2.1), (14, i6 r21.2.2.2.2), (33, .bool (r21.2.2.2.2 != 0))] rfl (by kernel_rfl) ?_
      rcases if_some hF with ⟨h25, hF⟩ | ⟨h25, hF⟩
      · refine ow_slots (L' := [(0, pP b0), (1, i6 x1), (10, i6 r21.1), (11, i6 r21.2.1), (12, .string r21.2.2.1), (13, i6 r21.2.2.2.1), (14, i6 r21.2.2.2.2), (33, .bool true)]) (by rw [h25]) ?_
        refine ow_vals 14 (j := 17) [0, 1, 11, 12, 13, 14, 47] [(0, pP b0), (1, i6 x1), (11, i6 r21.2.1), (12, .string r21.2.2.1), (13, i6 r21.2.2.2.1), (14, i6 r21.2.2.2.2), (47, .bool true)] rfl (by kernel_rfl) ?_
        refine ow_end rfl ?_
        have hR := Option.some.inj hF
        exact fun a w hf hs => ⟨true, hR, hf.keep [0, 1, 11, 12, 13, 14, 47], sat_to [0, 0, 0, 0, 0, 0, 0] 0 rfl hs⟩
      refine ow_slots (L' := [(0, pP b0), (1, i6 x1), (10, i6 r21.1), (11, i6 r21.2.1), (12, .string r21.2.2.1), (13, i6 r21.2.2.2.1), (14, i6 r21.2.2.2.2), (33, .bool false)]) (by rw [h25]) ?_
      refine ow_vals 4 (j := 7) [0, 1, 11, 12, 13, 14, 37] [(0, pP b0), (1, i6 x1), (11, i6 r21.2.1), (12, .string r21.2.2.1), (13, i6 r21.2.2.2.1), (14, i6 r21.2.2.2.2), (37, .bool (r21.1 != 1))] rfl (by kernel_rfl) ?_
      rcases if_some hF with ⟨h26, hF⟩ | ⟨h26, hF⟩
      · refine ow_slots (L' := [(0, pP b0), (1, i6 x1), (11, i6 r21.2.1), (12, .string r21.2.2.1), (13, i6 r21.2.2.2.1), (14, i6 r21.2.2.2.2), (37, .bool true)]) (by rw [h26]) ?_
        refine ow_vals 10 (j := 17) [0, 1, 11, 12, 13, 14, 47] [(0, pP b0), (1, i6 x1), (11, i6 r21.2.1), (12, .string r21.2.2.1), (13, i6 r21.2.2.2.1), (14, i6 r21.2.2.2.2), (47, .bool true)] rfl (by kernel_rfl) ?_
        refine ow_end rfl ?_
        have hR := Option.some.inj hF
        exact fun a w hf hs => ⟨true, hR, hf.keep [0, 1, 11, 12, 13, 14, 47], sat_to [0, 0, 0, 0, 0, 0, 0] 0 rfl hs⟩
      refine ow_slots (L' := [(0, pP b0), (1, i6 x1), (11, i6 r21.2.1), (12, .string r21.2.2.1), (13, i6 r21.2.2.2.1), (14, i6 r21.2.2.2.2), (37, .bool false)]) (by rw [h26]) ?_
      refine ow_vals 4 (j := 11) [0, 1, 11, 12, 13, 14, 41] [(0, pP b0), (1, i6 x1), (11, i6 r21.2.1), (12, .string r21.2.2.1), (13, i6 r21.2.2.2.1), (14, i6 r21.2.2.2.2), (41, .bool (decide (r21.2.1 > 6000)))] rfl (by kernel_rfl) ?_
      rcases if_some hF with ⟨h27, hF⟩ | ⟨h27, hF⟩
      · refine ow_slots (L' := [(0, pP b0), (1, i6 x1), (11, i6 r21.2.1), (12, .string r21.2.2.1), (13, i6 r21.2.2.2.1), (14, i6 r21.2.2.2.2), (41, .bool true)]) (by rw [h27]) ?_
        refine ow_vals 6 (j := 17) [0, 1, 11, 12, 13, 14, 47] [(0, pP b0), (1, i6 x1), (11, i6 r21.2.1), (12, .string r21.2.2.1), (13, i6 r21.2.2.2.1), (14, i6 r21.2.2.2.2), (47, .bool true)] rfl (by kernel_rfl) ?_
        refine ow_end rfl ?_
        have hR := Option.some.inj hF
        exact fun a w hf hs => ⟨true, hR, hf.keep [0, 1, 11, 12, 13, 14, 47], sat_to [0, 0, 0, 0, 0, 0, 0] 0 rfl hs⟩
      refine ow_slots (L' := [(0, pP b0), (1, i6 x1), (11, i6 r21.2.1), (12, .string r21.2.2.1), (13, i6 r21.2.2.2.1), (14, i6 r21.2.2.2.2), (41, .bool false)]) (by rw [h27]) ?_
      refine ow_vals 6 (j := 17) [0, 1, 11, 12, 13, 14, 47] [(0, pP b0), (1, i6 x1), (11, i6 r21.2.1), (12, .string r21.2.2.1), (13, i6 r21.2.2.2.1), (14, i6 r21.2.2.2.2), (47, .bool ((r21.2.2.1.size : Int) != (if 36 < r21.2.1 then 36 else r21.2.1)))] rfl (by kernel_rfl) ?_
      refine ow_end rfl ?_
      have hR := Option.some.inj hF
      exact fun a w hf hs => ⟨(r21.2.2.1.size : Int) != (if 36 < r21.2.1 then 36 else r21.2.1), hR, hf.keep [0, 1, 11, 12, 13, 14, 47], sat_to [0, 0, 0, 0, 0, 0, 0] 0 rfl hs⟩
    rintro a w ⟨x28, hv, hf, hs⟩
    subst hv
    replace hF := hK24
    clear hK24
    try dsimp only at hF
    revert a w
    show CW _ _ _ 91 [(0, pP b0), (1, i6 x1), (11, i6 r21.2.1), (12, .string r21.2.2.1), (13, i6 r21.2.2.2.1), (14, i6 r21.2.2.2.2), (47, .bool x28)] (SAT w0 ([imm I, o3 b0 b1 m0.base_ m0.size_ m0.next_ m0.last_ p0 m0.list_ c0 m0.sure_ m0.dead_, o1 b1 b2 m1.boot_ m1.n_, o0 b2 p1 m2.sure_ c1 p2 m2.off_ m2.armed_ m2.left_ m2.fall_.Keep m2.fall_.Tear m2.acts_ m2.falls_, own eStr 9 p0 c0 m0.list_, own e_disk_sector 51 p1 c1 m2.sure_, mpo (kInt .i64) (fun x : disk_sector => Value.agg #[.string x.s_, i6 x.at_]) p2 m2.wait_] ++ F0))
    unfold F.journal_Journal_record_1.r1 at hF
    rcases if_some hF with ⟨h29, hF⟩ | ⟨h29, hF⟩
    · refine cw_cond_t rfl rfl h29 ?_
      refine cw_seq ?_
      refine cw_region ?_
      refine ow_vals 5 (j := 5) [6, 7, 8, 9] [(6, .string (ByteArray.mk #[])), (7, i6 0), (8, i6 0), (9, i6 r21.2.2.2.2)] rfl (by kernel_rfl) ?_
      refine ow_end rfl ?_
      refine ew_then ?_
      refine cw_ret ?_
      refine ew_then_ret ?_
      have hR := Option.some.inj hF
      subst hR
      have hR := hK23
      try dsimp only [Thru] at hR
      subst hR
      exact fin4 (H1 := [imm I, o3 b0 b1 m0.base_ m0.size_ m0.next_ m0.last_ p0 m0.list_ c0 m0.sure_ m0.dead_, o1 b1 b2 m1.boot_ m1.n_, o0 b2 p1 m2.sure_ c1 p2 m2.off_ m2.armed_ m2.left_ m2.fall_.Keep m2.fall_.Tear m2.acts_ m2.falls_, own eStr 9 p0 c0 m0.list_, own e_disk_sector 51 p1 c1 m2.sure_, mpo (kInt .i64) (fun x : disk_sector => Value.agg #[.string x.s_, i6 x.at_]) p2 m2.wait_]) (fun w hs => sat_to [0, 0, 0, 0, 0, 0, 0] 0 rfl hs) rfl (rr_tmp rfl) (rr_tmp rfl) (rr_tmp rfl) (rr_tmp rfl) ⟨rfl, rfl⟩
    refine cw_cond_f rfl rfl h29 ?_
    refine cw_skip ?_
    have hR := Option.some.inj hF
    exact fun a w hf hs => ⟨hR, hf.keep [0, 1, 11, 12, 13], sat_to [0, 0, 0, 0, 0, 0, 0] 0 rfl hs⟩
  rintro a w ⟨hv, hf, hs⟩
  subst hv
  replace hF := hK23
  clear hK23
  try dsimp only [Thru] at hF
  revert a w
  show CW _ _ _ 91 [(0, pP b0), (1, i6 x1), (11, i6 r21.2.1), (12, .string r21.2.2.1), (13, i6 r21.2.2.2.1)] (SAT w0 ([imm I, o3 b0 b1 m0.base_ m0.size_ m0.next_ m0.last_ p0 m0.list_ c0 m0.sure_ m0.dead_, o1 b1 b2 m1.boot_ m1.n_, o0 b2 p1 m2.sure_ c1 p2 m2.off_ m2.armed_ m2.left_ m2.fall_.Keep m2.fall_.Tear m2.acts_ m2.falls_, own eStr 9 p0 c0 m0.list_, own e_disk_sector 51 p1 c1 m2.sure_, mpo (kInt .i64) (fun x : disk_sector => Value.agg #[.string x.s_, i6 x.at_]) p2 m2.wait_] ++ F0))
  unfold F.journal_Journal_record_1.r2 at hF
  refine cw_seq ?_
  refine cw_region ?_
  refine ow_vals 1 (j := 1) [0, 1, 11, 12, 13, 15] [(0, pP b0), (1, i6 x1), (11, i6 r21.2.1), (12, .string r21.2.2.1), (13, i6 r21.2.2.2.1), (15, i6 1)] rfl (by kernel_rfl) ?_
  refine ow_end rfl ?_
  refine ew_then ?_
  obtain ⟨v30, hF, hK30⟩ := thru_some hF
  refine cw_mid (fun a w => ∃ (s45 : ByteArray), ∃ (x46 : Int), ∃ (x47 : Int), .inl (s45, x46, x47) = v30 ∧ Fr 91 [(12, .string s45), (13, i6 x46), (15, i6 x47)] a ∧ SAT w0 ([imm I, o3 b0 b1 m0.base_ m0.size_ m0.next_ m0.last_ p0 m0.list_ c0 m0.sure_ m0.dead_, o1 b1 b2 m1.boot_ m1.n_, o0 b2 p1 m2.sure_ c1 p2 m2.off_ m2.armed_ m2.left_ m2.fall_.Keep m2.fall_.Tear m2.acts_ m2.falls_, own eStr 9 p0 c0 m0.list_, own e_disk_sector 51 p1 c1 m2.sure_, mpo (kInt .i64) (fun x : disk_sector => Value.agg #[.string x.s_, i6 x.at_]) p2 m2.wait_] ++ F0) w) ?_ ?_
  · refine cw_block ?_
    refine fun a w hf hs => wp_rounds (fun k a w => ∃ (s32 : ByteArray), ∃ (x33 : Int), ∃ (x34 : Int), iter (fun x => F.journal_Journal_record_1.l5 x1 m0 m1 m2 r21 x.1 x.2.1 x.2.2) k (s32, x33, x34) = some v30 ∧ Fr 91 [(0, pP b0), (1, i6 x1), (11, i6 r21.2.1), (12, .string s32), (13, i6 x33), (15, i6 x34)] a ∧ SAT w0 ([imm I, o3 b0 b1 m0.base_ m0.size_ m0.next_ m0.last_ p0 m0.list_ c0 m0.sure_ m0.dead_, o1 b1 b2 m1.boot_ m1.n_, o0 b2 p1 m2.sure_ c1 p2 m2.off_ m2.armed_ m2.left_ m2.fall_.Keep m2.fall_.Tear m2.acts_ m2.falls_, own eStr 9 p0 c0 m0.list_, own e_disk_sector 51 p1 c1 m2.sure_, mpo (kInt .i64) (fun x : disk_sector => Value.agg #[.string x.s_, i6 x.at_]) p2 m2.wait_] ++ F0) w) ?_ FUEL a w ⟨r21.2.2.1, r21.2.2.2.1, 1, hF, hf.keep [0, 1, 11, 12, 13, 15], sat_to [0, 0, 0, 0, 0, 0, 0] 0 rfl hs⟩
    clear hf hs
    clear a w hF
    rintro k a w ⟨s32, x33, x34, hF2, hf, hs⟩
    obtain ⟨k, r31, rfl, hF, hL31⟩ := iter_some hF2
    clear hF2
    revert a w
    show CW _ _ _ 91 [(0, pP b0), (1, i6 x1), (11, i6 r21.2.1), (12, .string s32), (13, i6 x33), (15, i6 x34)] (SAT w0 ([imm I, o3 b0 b1 m0.base_ m0.size_ m0.next_ m0.last_ p0 m0.list_ c0 m0.sure_ m0.dead_, o1 b1 b2 m1.boot_ m1.n_, o0 b2 p1 m2.sure_ c1 p2 m2.off_ m2.armed_ m2.left_ m2.fall_.Keep m2.fall_.Tear m2.acts_ m2.falls_, own eStr 9 p0 c0 m0.list_, own e_disk_sector 51 p1 c1 m2.sure_, mpo (kInt .i64) (fun x : disk_sector => Value.agg #[.string x.s_, i6 x.at_]) p2 m2.wait_] ++ F0))
    try dsimp only at hF
    unfold F.journal_Journal_record_1.l5 at hF
    refine cw_seq ?_
    refine cw_seq ?_
    refine cw_region ?_
    refine ow_vals 4 (j := 4) [0, 1, 11, 12, 13, 15, 52] [(0, pP b0), (1, i6 x1), (11, i6 r21.2.1), (12, .string s32), (13, i6 x33), (15, i6 x34), (52, .bool (decide ((s32.size : Int) < r21.2.1)))] rfl (by kernel_rfl) ?_
    refine ow_end rfl ?_
    refine ew_then ?_
    rcases if_some hF with ⟨h35, hF⟩ | ⟨h35, hF⟩
    · refine cw_cond_t rfl rfl h35 ?_
      refine cw_skip ?_
      refine ew_then ?_
      refine cw_block ?_
      refine cw_seq ?_
      refine cw_region ?_
      refine ow_vals 5 (j := 5) [0, 1, 11, 12, 15, 54, 57, 58] [(0, pP b0), (1, i6 x1), (11, i6 r21.2.1), (12, .string s32), (15, i6 x34), (54, pP b0), (57, i6 (IntKind.i64.wrap (x1 + x34))), (58, i6 x33)] rfl (by kernel_rfl) ?_
      obtain ⟨r36, h37, hF⟩ := bind_some hF
      refine ow_pw rfl (pw_call (F := [] ++ F0) rfl rfl rfl rfl rfl rfl rfl (by kernel_rfl) (perm_of_pulls [0, 0, 0, 0, 0, 0, 0] rfl) (c_journal_Journal_part_1 _ (IntKind.i64.wrap (x1 + x34)) x33 m0 m1 m2 p0 c0 b0 b1 p1 c1 p2 b2 r36 h37) ?_)
      rintro _ _ ⟨rfl, rfl⟩
      refine nw_H (H' := [imm I, o3 b0 b1 m0.base_ m0.size_ m0.next_ m0.last_ p0 m0.list_ c0 m0.sure_ m0.dead_, o1 b1 b2 m1.boot_ m1.n_, o0 b2 p1 m2.sure_ c1 p2 m2.off_ m2.armed_ m2.left_ m2.fall_.Keep m2.fall_.Tear m2.acts_ m2.falls_, own eStr 9 p0 c0 m0.list_, own e_disk_sector 51 p1 c1 m2.sure_, mpo (kInt .i64) (fun x : disk_sector => Value.agg #[.string x.s_, i6 x.at_]) p2 m2.wait_] ++ F0) rfl (nw_ow ?_)
      refine ow_vals 11 (j := 17) [0, 1, 11, 12, 15, 16, 18, 19, 20] [(0, pP b0), (1, i6 x1), (11, i6 r21.2.1), (12, .string s32), (15, i6 x34), (16, i6 r36.1), (18, .string r36.2.2.1), (19, i6 r36.2.2.2.1), (20, i6 r36.2.2.2.2)] rfl (by kernel_rfl) ?_
      refine ow_end rfl ?_
      refine ew_then ?_
      obtain ⟨v38, hF, hK38⟩ := thru_some hF
      refine cw_mid (fun a w => .inl () = v38 ∧ Fr 91 [(0, pP b0), (1, i6 x1), (11, i6 r21.2.1), (12, .string s32), (15, i6 x34), (18, .string r36.2.2.1), (19, i6 r36.2.2.2.1)] a ∧ SAT w0 ([imm I, o3 b0 b1 m0.base_ m0.size_ m0.next_ m0.last_ p0 m0.list_ c0 m0.sure_ m0.dead_, o1 b1 b2 m1.boot_ m1.n_, o0 b2 p1 m2.sure_ c1 p2 m2.off_ m2.armed_ m2.left_ m2.fall_.Keep m2.fall_.Tear m2.acts_ m2.falls_, own eStr 9 p0 c0 m0.list_, own e_disk_sector 51 p1 c1 m2.sure_, mpo (kInt .i64) (fun x : disk_sector => Value.agg #[.string x.s_, i6 x.at_]) p2 m2.wait_] ++ F0) w) ?_ ?_
      · obtain ⟨v39, hF, hK39⟩ := bind_some hF
        refine cw_mid (fun a w => ∃ (x42 : Bool), x42 = v39 ∧ Fr 91 [(0, pP b0), (1, i6 x1), (11, i6 r21.2.1), (12, .string s32), (15, i6 x34), (18, .string r36.2.2.1), (19, i6 r36.2.2.2.1), (20, i6 r36.2.2.2.2), (80, .bool x42)] a ∧ SAT w0 ([imm I, o3 b0 b1 m0.base_ m0.size_ m0.next_ m0.last_ p0 m0.list_ c0 m0.sure_ m0.dead_, o1 b1 b2 m1.boot_ m1.n_, o0 b2 p1 m2.sure_ c1 p2 m2.off_ m2.armed_ m2.left_ m2.fall_.Keep m2.fall_.Tear m2.acts_ m2.falls_, own eStr 9 p0 c0 m0.list_, own e_disk_sector 51 p1 c1 m2.sure_, mpo (kInt .i64) (fun x : disk_sector => Value.agg #[.string x.s_, i6 x.at_]) p2 m2.wait_] ++ F0) w) ?_ ?_
        · refine cw_region ?_
          refine ow_vals 3 (j := 3) [0, 1, 11, 12, 15, 16, 18, 19, 20, 67] [(0, pP b0), (1, i6 x1), (11, i6 r21.2.1), (12, .string s32), (15, i6 x34), (16, i6 r36.1), (18, .string r36.2.2.1), (19, i6 r36.2.2.2.1), (20, i6 r36.2.2.2.2), (67, .bool (r36.2.2.2.2 != 0))] rfl (by kernel_rfl) ?_
          rcases if_some hF with ⟨h40, hF⟩ | ⟨h40, hF⟩
          · refine ow_slots (L' := [(0, pP b0), (1, i6 x1), (11, i6 r21.2.1), (12, .string s32), (15, i6 x34), (16, i6 r36.1), (18, .string r36.2.2.1), (19, i6 r36.2.2.2.1), (20, i6 r36.2.2.2.2), (67, .bool true)]) (by rw [h40]) ?_
            refine ow_vals 13 (j := 16) [0, 1, 11, 12, 15, 18, 19, 20, 80] [(0, pP b0), (1, i6 x1), (11, i6 r21.2.1), (12, .string s32), (15, i6 x34), (18, .string r36.2.2.1), (19, i6 r36.2.2.2.1), (20, i6 r36.2.2.2.2), (80, .bool true)] rfl (by kernel_rfl) ?_
            refine ow_end rfl ?_
            have hR := Option.some.inj hF
            exact fun a w hf hs => ⟨true, hR, hf.keep [0, 1, 11, 12, 15, 18, 19, 20, 80], sat_to [0, 0, 0, 0, 0, 0, 0] 0 rfl hs⟩
          refine ow_slots (L' := [(0, pP b0), (1, i6 x1), (11, i6 r21.2.1), (12, .string s32), (15, i6 x34), (16, i6 r36.1), (18, .string r36.2.2.1), (19, i6 r36.2.2.2.1), (20, i6 r36.2.2.2.2), (67, .bool false)]) (by rw [h40]) ?_
          refine ow_vals 4 (j := 7) [0, 1, 11, 12, 15, 18, 19, 20, 71] [(0, pP b0), (1, i6 x1), (11, i6 r21.2.1), (12, .string s32), (15, i6 x34), (18, .string r36.2.2.1), (19, i6 r36.2.2.2.1), (20, i6 r36.2.2.2.2), (71, .bool (r36.1 != 2))] rfl (by kernel_rfl) ?_
          rcases if_some hF with ⟨h41, hF⟩ | ⟨h41, hF⟩
          · refine ow_slots (L' := [(0, pP b0), (1, i6 x1), (11, i6 r21.2.1), (12, .string s32), (15, i6 x34), (18, .string r36.2.2.1), (19, i6 r36.2.2.2.1), (20, i6 r36.2.2.2.2), (71, .bool true)]) (by rw [h41]) ?_
            refine ow_vals 9 (j := 16) [0, 1, 11, 12, 15, 18, 19, 20, 80] [(0, pP b0), (1, i6 x1), (11, i6 r21.2.1), (12, .string s32), (15, i6 x34), (18, .string r36.2.2.1), (19, i6 r36.2.2.2.1), (20, i6 r36.2.2.2.2), (80, .bool true)] rfl (by kernel_rfl) ?_
            refine ow_end rfl ?_
            have hR := Option.some.inj hF
            exact fun a w hf hs => ⟨true, hR, hf.keep [0, 1, 11, 12, 15, 18, 19, 20, 80], sat_to [0, 0, 0, 0, 0, 0, 0] 0 rfl hs⟩
          refine ow_slots (L' := [(0, pP b0), (1, i6 x1), (11, i6 r21.2.1), (12, .string s32), (15, i6 x34), (18, .string r36.2.2.1), (19, i6 r36.2.2.2.1), (20, i6 r36.2.2.2.2), (71, .bool false)]) (by rw [h41]) ?_
          refine ow_vals 9 (j := 16) [0, 1, 11, 12, 15, 18, 19, 20, 80] [(0, pP b0), (1, i6 x1), (11, i6 r21.2.1), (12, .string s32), (15, i6 x34), (18, .string r36.2.2.1), (19, i6 r36.2.2.2.1), (20, i6 r36.2.2.2.2), (80, .bool ((r36.2.2.1.size : Int) != (if 38 < (IntKind.i64.wrap (r21.2.1 - (s32.size : Int))) then 38 else (IntKind.i64.wrap (r21.2.1 - (s32.size : Int))))))] rfl (by kernel_rfl) ?_
          refine ow_end rfl ?_
          have hR := Option.some.inj hF
          exact fun a w hf hs => ⟨(r36.2.2.1.size : Int) != (if 38 < (IntKind.i64.wrap (r21.2.1 - (s32.size : Int))) then 38 else (IntKind.i64.wrap (r21.2.1 - (s32.size : Int)))), hR, hf.keep [0, 1, 11, 12, 15, 18, 19, 20, 80], sat_to [0, 0, 0, 0, 0, 0, 0] 0 rfl hs⟩
        rintro a w ⟨x42, hv, hf, hs⟩
        subst hv
        replace hF := hK39
        clear hK39
        try dsimp only at hF
        revert a w
        show CW _ _ _ 91 [(0, pP b0), (1, i6 x1), (11, i6 r21.2.1), (12, .string s32), (15, i6 x34), (18, .string r36.2.2.1), (19, i6 r36.2.2.2.1), (20, i6 r36.2.2.2.2), (80, .bool x42)] (SAT w0 ([imm I, o3 b0 b1 m0.base_ m0.size_ m0.next_ m0.last_ p0 m0.list_ c0 m0.sure_ m0.dead_, o1 b1 b2 m1.boot_ m1.n_, o0 b2 p1 m2.sure_ c1 p2 m2.off_ m2.armed_ m2.left_ m2.fall_.Keep m2.fall_.Tear m2.acts_ m2.falls_, own eStr 9 p0 c0 m0.list_, own e_disk_sector 51 p1 c1 m2.sure_, mpo (kInt .i64) (fun x : disk_sector => Value.agg #[.string x.s_, i6 x.at_]) p2 m2.wait_] ++ F0))
        unfold F.journal_Journal_record_1.r3 at hF
        rcases if_some hF with ⟨h43, hF⟩ | ⟨h43, hF⟩
        · refine cw_cond_t rfl rfl h43 ?_
          refine cw_seq ?_
          refine cw_region ?_
          refine ow_vals 5 (j := 5) [6, 7, 8, 9] [(6, .string (ByteArray.mk #[])), (7, i6 0), (8, i6 0), (9, i6 r36.2.2.2.2)] rfl (by kernel_rfl) ?_
          refine ow_end rfl ?_
          refine ew_then ?_
          refine cw_ret ?_
          refine ew_then_ret ?_
          refine ew_blk_ret ?_
          refine ew_then_ret ?_
          refine ew_blk_ret ?_
          refine ew_then_ret ?_
          have hR := Option.some.inj hF
          subst hR
          have hR := hK38
          try dsimp only [Thru] at hR
          subst hR
          have hR := hL31
          try dsimp only at hR
          subst hR
          have hR := hK30
          try dsimp only [Thru] at hR
          subst hR
          exact fin4 (H1 := [imm I, o3 b0 b1 m0.base_ m0.size_ m0.next_ m0.last_ p0 m0.list_ c0 m0.sure_ m0.dead_, o1 b1 b2 m1.boot_ m1.n_, o0 b2 p1 m2.sure_ c1 p2 m2.off_ m2.armed_ m2.left_ m2.fall_.Keep m2.fall_.Tear m2.acts_ m2.falls_, own eStr 9 p0 c0 m0.list_, own e_disk_sector 51 p1 c1 m2.sure_, mpo (kInt .i64) (fun x : disk_sector => Value.agg #[.string x.s_, i6 x.at_]) p2 m2.wait_]) (fun w hs => sat_to [0, 0, 0, 0, 0, 0, 0] 0 rfl hs) rfl (rr_tmp rfl) (rr_tmp rfl) (rr_tmp rfl) (rr_tmp rfl) ⟨rfl, rfl⟩
        refine cw_cond_f rfl rfl h43 ?_
        refine cw_skip ?_
        have hR := Option.some.inj hF
        exact fun a w hf hs => ⟨hR, hf.keep [0, 1, 11, 12, 15, 18, 19], sat_to [0, 0, 0, 0, 0, 0, 0] 0 rfl hs⟩
      rintro a w ⟨hv, hf, hs⟩
      subst hv
      replace hF := hK38
      clear hK38
      try dsimp only [Thru] at hF
      revert a w
      show CW _ _ _ 91 [(0, pP b0), (1, i6 x1), (11, i6 r21.2.1), (12, .string s32), (15, i6 x34), (18, .string r36.2.2.1), (19, i6 r36.2.2.2.1)] (SAT w0 ([imm I, o3 b0 b1 m0.base_ m0.size_ m0.next_ m0.last_ p0 m0.list_ c0 m0.sure_ m0.dead_, o1 b1 b2 m1.boot_ m1.n_, o0 b2 p1 m2.sure_ c1 p2 m2.off_ m2.armed_ m2.left_ m2.fall_.Keep m2.fall_.Tear m2.acts_ m2.falls_, own eStr 9 p0 c0 m0.list_, own e_disk_sector 51 p1 c1 m2.sure_, mpo (kInt .i64) (fun x : disk_sector => Value.agg #[.string x.s_, i6 x.at_]) p2 m2.wait_] ++ F0))
      unfold F.journal_Journal_record_1.r4 at hF
      refine cw_seq ?_
      refine cw_region ?_
      refine ow_vals 2 (j := 2) [0, 1, 11, 15, 19, 82, 83] [(0, pP b0), (1, i6 x1), (11, i6 r21.2.1), (15, i6 x34), (19, i6 r36.2.2.2.1), (82, .string s32), (83, .string r36.2.2.1)] rfl (by kernel_rfl) ?_
      obtain ⟨h44, hF⟩ := chk_some hF
      refine ow_pw rfl (pw_quiet (v := .string (s32 ++ r36.2.2.1)) rfl rfl rfl rfl (q_concat rfl rfl rfl h44) (nw_ow ?_))
      refine ow_vals 3 (j := 6) [0, 1, 11, 12, 13, 15] [(0, pP b0), (1, i6 x1), (11, i6 r21.2.1), (12, .string (s32 ++ r36.2.2.1)), (13, i6 r36.2.2.2.1), (15, i6 x34)] rfl (by kernel_rfl) ?_
      refine ow_end rfl ?_
      refine ew_then ?_
      refine cw_region ?_
      refine ow_vals 3 (j := 3) [0, 1, 11, 12, 13, 15] [(0, pP b0), (1, i6 x1), (11, i6 r21.2.1), (12, .string (s32 ++ r36.2.2.1)), (13, i6 r36.2.2.2.1), (15, i6 (IntKind.i64.wrap (x34 + 1)))] rfl (by kernel_rfl) ?_
      refine ow_end rfl ?_
      refine ew_blk ?_
      have hR := Option.some.inj hF
      subst hR
      have hR := hL31
      try dsimp only at hR
      exact fun a w hf hs => ⟨k, Nat.lt_succ_self k, s32 ++ r36.2.2.1, r36.2.2.2.1, IntKind.i64.wrap (x34 + 1), hR, hf.keep [0, 1, 11, 12, 13, 15], sat_to [0, 0, 0, 0, 0, 0, 0] 0 rfl hs⟩
    refine cw_cond_f rfl rfl h35 ?_
    refine cw_exit ?_
    refine ew_then_exit ?_
    refine ew_then_exit ?_
    refine ew_blk_exit ?_
    have hR := Option.some.inj hF
    subst hR
    have hR := hL31
    try dsimp only at hR
    exact fun a w hf hs => ⟨s32, x33, x34, hR, hf.keep [12, 13, 15], sat_to [0, 0, 0, 0, 0, 0, 0] 0 rfl hs⟩
  rintro a w ⟨s45, x46, x47, hv, hf, hs⟩
  subst hv
  replace hF := hK30
  clear hK30
  try dsimp only [Thru] at hF
  revert a w
  show CW _ _ _ 91 [(12, .string s45), (13, i6 x46), (15, i6 x47)] (SAT w0 ([imm I, o3 b0 b1 m0.base_ m0.size_ m0.next_ m0.last_ p0 m0.list_ c0 m0.sure_ m0.dead_, o1 b1 b2 m1.boot_ m1.n_, o0 b2 p1 m2.sure_ c1 p2 m2.off_ m2.armed_ m2.left_ m2.fall_.Keep m2.fall_.Tear m2.acts_ m2.falls_, own eStr 9 p0 c0 m0.list_, own e_disk_sector 51 p1 c1 m2.sure_, mpo (kInt .i64) (fun x : disk_sector => Value.agg #[.string x.s_, i6 x.at_]) p2 m2.wait_] ++ F0))
  unfold F.journal_Journal_record_1.r6 at hF
  refine cw_seq ?_
  refine cw_region ?_
  refine ow_vals 7 (j := 7) [6, 7, 8, 9] [(6, .string s45), (7, i6 x47), (8, i6 x46), (9, i6 0)] rfl (by kernel_rfl) ?_
  refine ow_end rfl ?_
  refine ew_then ?_
  refine cw_ret ?_
  have hR := Option.some.inj hF
  subst hR
  exact fin4 (H1 := [imm I, o3 b0 b1 m0.base_ m0.size_ m0.next_ m0.last_ p0 m0.list_ c0 m0.sure_ m0.dead_, o1 b1 b2 m1.boot_ m1.n_, o0 b2 p1 m2.sure_ c1 p2 m2.off_ m2.armed_ m2.left_ m2.fall_.Keep m2.fall_.Tear m2.acts_ m2.falls_, own eStr 9 p0 c0 m0.list_, own e_disk_sector 51 p1 c1 m2.sure_, mpo (kInt .i64) (fun x : disk_sector => Value.agg #[.string x.s_, i6 x.at_]) p2 m2.wait_]) (fun w hs => sat_to [0, 0, 0, 0, 0, 0, 0] 0 rfl hs) rfl (rr_tmp rfl) (rr_tmp rfl) (rr_tmp rfl) (rr_tmp rfl) ⟨rfl, rfl⟩

end Go.Proofs.YtgbloaophfaaoaaGreatDoor
