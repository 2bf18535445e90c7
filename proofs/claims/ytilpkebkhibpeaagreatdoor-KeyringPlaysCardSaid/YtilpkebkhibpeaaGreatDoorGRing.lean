/- What the functions compute, and that the code computes it: printed by a program of this claim (wip/tools), for the group Ring. -/
import Derived.Test.YtilpkebkhibpeaaGreatDoorProg
import Derived.Test.YtilpkebkhibpeaaGreatDoorLib
namespace Go.Proofs.YtilpkebkhibpeaaGreatDoor
set_option linter.all false
open Go Go.RowKit Go.Fw
set_option linter.unusedVariables false

structure disk_sector where
  s_ : ByteArray
  at_ : Int
def disk_sector.cells (x : disk_sector) : List Go.Value := [.string x.s_, .int .i64 x.at_]
def e_disk_sector : Enc disk_sector := ⟨disk_sector.cells, 2, fun _ => rfl, fun _ => rfl, by decide⟩

structure disk_Fall where
  Keep : Int
  Tear : Int
def disk_Fall.cells (x : disk_Fall) : List Go.Value := [.int .u64 x.Keep, .int .i64 x.Tear]
def e_disk_Fall : Enc disk_Fall := ⟨disk_Fall.cells, 2, fun _ => rfl, fun _ => rfl, by decide⟩

structure disk_Disk where
  sure_ : List disk_sector
  wait_ : List (Int × disk_sector)
  off_ : Bool
  armed_ : Bool
  left_ : Int
  fall_ : disk_Fall
  acts_ : Int
  falls_ : Int

structure guard_Guard where
  boot_ : Int
  n_ : Int

structure keyring_Ring where
  base_ : Int
  slots_ : Int
  shred_ : Int

def F.law13_key.l1 (x0 : Int) (l27 : List Int) (x31 : Int) : Option (((List Int) × Int) ⊕ ((List Int))) :=
  if decide (x31 < (l27.length : Int)) then (Option.bind (at_ l27 x31) (fun (y33 : Int) => some (.inl (l27.set x31.toNat x0, IntKind.i64.wrap (x31 + 1))))) else (some (.inr (l27)))
def F.law13_key.r2 (l35 : List Int) : Option (ByteArray) :=
  some ((bstr l35))
def F.law13_key (x0 : Int) : Option ByteArray :=
  chk (0 ≤ (32 : Int) ∧ room (32 : Int).toNat 1) (Option.bind (iter (fun x => F.law13_key.l1 x0 x.1 x.2) FUEL ((List.replicate (32 : Int).toNat 0 : List Int), 0)) (fun x => F.law13_key.r2 x))
set_option maxRecDepth 100000 in
set_option maxHeartbeats 4000000 in
theorem c_law13_key (I : Hl) (x0 : Int) (res : ByteArray) (hF : F.law13_key x0 = some res) : Tr Tryz.prog 7 [.int .u8 x0] [imm I] (fun r H' => r = .string res ∧ H' = [imm I]) := by
  unfold F.law13_key at hF
  refine tr_of_cw (fn := Tryz.f7) Tryz.func7 rfl (Nat.le_of_ble_eq_true rfl) 18 rfl fun F0 w0 => ?_
  refine cw_keep [0] (L' := [(0, .int .u8 x0)]) rfl ?_
  refine cw_state (S' := SAT w0 ([imm I] ++ F0)) (fun w hs => hs) ?_
  refine cw_seq ?_
  refine cw_region ?_
  refine ow_vals 1 (j := 1) [0] [(0, .int .u8 x0)] rfl (by kernel_rfl) ?_
  refine ow_end rfl ?_
  refine ew_then ?_
  refine cw_seq ?_
  refine cw_region ?_
  obtain ⟨h21, hF⟩ := chk_some hF
  refine ow_pw rfl (pw_make (E := 5) (eInt .u8) 0 rfl rfl rfl rfl rfl (by kernel_rfl) (by kernel_rfl) rfl rfl rfl h21.1 (room_max h21.1 h21.2) (room_bytes h21.1 h21.2) fun p22 c23 => nw_ow ?_)
  refine ow_vals 1 (j := 2) [0, 3] [(0, .int .u8 x0), (3, .slice p22 (List.replicate (32 : Int).toNat 0 : List Int).length c23)] rfl (by kernel_rfl) ?_
  refine ow_end rfl ?_
  refine ew_then ?_
  obtain ⟨v25, hF, hK25⟩ := bind_some hF
  refine cw_mid (fun a w => ∃ (l35 : List Int), ∃ (p36 : Option Addr), ∃ (c37 : Nat), l35 = v25 ∧ Fr 18 [(3, .slice p36 l35.length c37)] a ∧ SAT w0 ([imm I, own (eInt .u8) 5 p36 c37 l35] ++ F0) w) ?_ ?_
  · refine cw_seq ?_
    refine cw_region ?_
    refine ow_vals 1 (j := 1) [0, 3, 4] [(0, .int .u8 x0), (3, .slice p22 (List.replicate (32 : Int).toNat 0 : List Int).length c23), (4, .int .i64 0)] rfl (by kernel_rfl) ?_
    refine ow_end rfl ?_
    refine ew_then ?_
    refine cw_block ?_
    refine fun a w hf hs => wp_rounds (fun k a w => ∃ (l27 : List Int), ∃ (x31 : Int), ∃ (p28 : Option Addr), ∃ (c29 : Nat), iter (fun x => F.law13_key.l1 x0 x.1 x.2) k (l27, x31) = some v25 ∧ Fr 18 [(0, .int .u8 x0), (3, .slice p28 l27.length c29), (4, .int .i64 x31)] a ∧ SAT w0 ([imm I, own (eInt .u8) 5 p28 c29 l27] ++ F0) w) ?_ FUEL a w ⟨(List.replicate (32 : Int).toNat 0 : List Int), 0, p22, c23, hF, hf.keep [0, 3, 4], sat_to [1, 0] 0 rfl hs⟩
    clear hf hs
    clear a w hF
    rintro k a w ⟨l27, x31, p28, c29, hF2, hf, hs⟩
    obtain ⟨k, r26, rfl, hF, hL26⟩ := iter_some hF2
    clear hF2
    revert a w
    show CW _ _ _ 18 [(0, .int .u8 x0), (3, .slice p28 l27.length c29), (4, .int .i64 x31)] (SAT w0 ([imm I, own (eInt .u8) 5 p28 c29 l27] ++ F0))
    try dsimp only at hF
    unfold F.law13_key.l1 at hF
    refine cw_seq ?_
    refine cw_seq ?_
    refine cw_region ?_
    refine ow_vals 4 (j := 4) [0, 3, 4, 9] [(0, .int .u8 x0), (3, .slice p28 l27.length c29), (4, .int .i64 x31), (9, .bool (decide (x31 < (l27.length : Int))))] rfl (by kernel_rfl) ?_
    refine ow_end rfl ?_
    refine ew_then ?_
    rcases if_some hF with ⟨h32, hF⟩ | ⟨h32, hF⟩
    · refine cw_cond_t rfl rfl h32 ?_
      refine cw_skip ?_
      refine ew_then ?_
      refine cw_seq ?_
      refine cw_block ?_
      refine cw_region ?_
      refine ow_vals 3 (j := 3) [0, 3, 4, 12, 13, 14] [(0, .int .u8 x0), (3, .slice p28 l27.length c29), (4, .int .i64 x31), (12, .slice p28 l27.length c29), (13, .int .i64 x31), (14, .int .u8 x0)] rfl (by kernel_rfl) ?_
      obtain ⟨y33, h34, hF⟩ := bind_some hF
      refine ow_pw rfl (pw_quiet (v := .pointer (some ((base p28).add (x31.toNat * 1)))) rfl rfl rfl rfl (q_index_own 1 1 rfl rfl (by kernel_rfl) rfl rfl (at_some h34).1 (at_lt h34)) (nw_ow ?_))
      refine ow_pw rfl (pw_store_own 1 1 (z' := x0) (off := 0) rfl rfl rfl rfl rfl rfl rfl rfl (at_some h34).2 (by kernel_rfl) (nw_H (H' := [imm I, own (eInt .u8) 5 p28 c29 (l27.set x31.toNat x0)] ++ F0) (by first | rfl | (simp only [List.length_set]; rfl)) (nw_ow ?_)))
      refine ow_slots (L' := [(15, .pointer (some ((base p28).add (x31.toNat * 1)))), (0, .int .u8 x0), (3, .slice p28 (l27.set x31.toNat x0).length c29), (4, .int .i64 x31), (12, .slice p28 (l27.set x31.toNat x0).length c29), (13, .int .i64 x31), (14, .int .u8 x0)]) (by first | rfl | (simp only [List.length_set]; rfl)) ?_
      refine ow_end rfl ?_
      refine ew_blk ?_
      refine ew_then ?_
      refine cw_region ?_
      refine ow_vals 3 (j := 3) [0, 3, 4] [(0, .int .u8 x0), (3, .slice p28 (l27.set x31.toNat x0).length c29), (4, .int .i64 (IntKind.i64.wrap (x31 + 1)))] rfl (by kernel_rfl) ?_
      refine ow_end rfl ?_
      have hR := Option.some.inj hF
      subst hR
      have hR := hL26
      try dsimp only at hR
      exact fun a w hf hs => ⟨k, Nat.lt_succ_self k, l27.set x31.toNat x0, IntKind.i64.wrap (x31 + 1), p28, c29, hR, hf.keep [0, 3, 4], sat_to [0, 0] 0 rfl hs⟩
    refine cw_cond_f rfl rfl h32 ?_
    refine cw_exit ?_
    refine ew_then_exit ?_
    refine ew_then_exit ?_
    refine ew_blk_exit ?_
    have hR := Option.some.inj hF
    subst hR
    have hR := hL26
    try dsimp only at hR
    exact fun a w hf hs => ⟨l27, p28, c29, hR, hf.keep [3], sat_to [0, 0] 0 rfl hs⟩
  rintro a w ⟨l35, p36, c37, hv, hf, hs⟩
  subst hv
  replace hF := hK25
  clear hK25
  try dsimp only at hF
  revert a w
  show CW _ _ _ 18 [(3, .slice p36 l35.length c37)] (SAT w0 ([imm I, own (eInt .u8) 5 p36 c37 l35] ++ F0))
  unfold F.law13_key.r2 at hF
  refine cw_seq ?_
  refine cw_region ?_
  refine ow_vals 1 (j := 1) [16] [(16, .slice p36 l35.length c37)] rfl (by kernel_rfl) ?_
  refine ow_pw rfl (pw_quiet (v := .string (bstr l35)) rfl rfl rfl rfl (q_bytes_str_own 1 rfl rfl (by kernel_rfl) (by kernel_rfl) rfl) (nw_ow ?_))
  refine ow_vals 1 (j := 3) [2] [(2, .string (bstr l35))] rfl (by kernel_rfl) ?_
  refine ow_end rfl ?_
  refine ew_then ?_
  refine cw_ret ?_
  have hR := Option.some.inj hF
  subst hR
  exact fin1 (H1 := [imm I]) (fun w hs => sat_to [1, 0] 1 rfl hs) rfl (rr_tmp rfl) ⟨rfl, rfl⟩


def F.strings_Repeat (x0 : ByteArray) (x1 : Int) : Option ByteArray :=
  chk (0 ≤ x1 ∧ x1 ≤ 9223372036854775807 ∧ x0.size * x1.toNat ≤ 140737488355328) (some (repB x0 x1.toNat))
theorem c_strings_Repeat (I : Hl) (x0 : ByteArray) (x1 : Int) (res : ByteArray) (hF : F.strings_Repeat x0 x1 = some res) : Tr Tryz.prog 32 [.string x0, .int .i64 x1] [imm I] (fun r H' => r = .string res ∧ H' = [imm I]) := by
  unfold F.strings_Repeat at hF
  obtain ⟨⟨h0, h1, h2⟩, hF⟩ := chk_some hF
  obtain rfl := Option.some.inj hF
  obtain ⟨c, rfl⟩ := Int.eq_ofNat_of_zero_le h0
  exact tr_below fun w => Tryz.strings_Repeat x0 c w (by omega) h2


def F.disk_blank : Option ByteArray :=
  Option.bind (F.strings_Repeat (ByteArray.mk #[0]) 64) (fun (r21 : ByteArray) => some (r21))
set_option maxRecDepth 100000 in
set_option maxHeartbeats 4000000 in
theorem c_disk_blank (I : Hl) (res : ByteArray) (hF : F.disk_blank = some res) : Tr Tryz.prog 16 [] [imm I] (fun r H' => r = .string res ∧ H' = [imm I]) := by
  unfold F.disk_blank at hF
  refine tr_of_cw (fn := Tryz.f16) Tryz.func16 rfl (Nat.le_of_ble_eq_true rfl) 2 rfl fun F0 w0 => ?_
  refine cw_keep [] (L' := []) rfl ?_
  refine cw_state (S' := SAT w0 ([imm I] ++ F0)) (fun w hs => hs) ?_
  refine cw_seq ?_
  refine cw_region ?_
  refine ow_vals 1 (j := 1) [] [] rfl (by kernel_rfl) ?_
  refine ow_end rfl ?_
  refine ew_then ?_
  refine cw_seq ?_
  refine cw_region ?_
  obtain ⟨r21, h22, hF⟩ := bind_some hF
  refine ow_pw rfl (pw_call (F := [] ++ F0) rfl rfl rfl rfl rfl rfl rfl (by kernel_rfl) (perm_of_pulls [0] rfl) (c_strings_Repeat _ (ByteArray.mk #[0]) 64 r21 h22) ?_)
  rintro _ _ ⟨rfl, rfl⟩
  refine nw_H (H' := [imm I] ++ F0) rfl (nw_ow ?_)
  refine ow_vals 1 (j := 2) [0] [(0, .string r21)] rfl (by kernel_rfl) ?_
  refine ow_end rfl ?_
  refine ew_then ?_
  refine cw_ret ?_
  have hR := Option.some.inj hF
  subst hR
  exact fin1 (H1 := [imm I]) (fun w hs => sat_to [0] 0 rfl hs) rfl (rr_tmp rfl) ⟨rfl, rfl⟩


def F.disk_New.l2 (x0 : Int) (x34 : Int) (l35 : List disk_sector) : Option ((Int × (List disk_sector)) ⊕ ((List disk_sector))) :=
  if decide (x34 < ((List.replicate x0.toNat (⟨(ByteArray.mk #[]), 0⟩ : disk_sector) : List disk_sector).length : Int)) then (Option.bind (F.disk_blank) (fun (r40 : ByteArray) => Option.bind (at_ l35 x34) (fun (y42 : disk_sector) => some (.inl (IntKind.i64.wrap (x34 + 1), l35.set x34.toNat (⟨r40, y42.at_⟩ : disk_sector)))))) else (some (.inr (l35)))
def F.disk_New.r3 (l44 : List disk_sector) : Option ((Option disk_Disk) × Int) :=
  some ((some (⟨l44, ([] : List (Int × disk_sector)), false, false, 0, (⟨0, 0⟩ : disk_Fall), 0, 0⟩ : disk_Disk), 0))
def F.disk_New.r1 (x0 : Int) : Option ((Option disk_Disk) × Int) :=
  chk (0 ≤ x0 ∧ room x0.toNat 24) (Option.bind (iter (fun x => F.disk_New.l2 x0 x.1 x.2) FUEL (0, (List.replicate x0.toNat (⟨(ByteArray.mk #[]), 0⟩ : disk_sector) : List disk_sector))) (fun x => F.disk_New.r3 x))
def F.disk_New (x0 : Int) : Option ((Option disk_Disk) × Int) :=
  thru (if decide (x0 < 1) then (some (.inr ((none, 1)))) else (if decide (x0 > 8192) then (some (.inr ((none, 1)))) else (some (.inl ())))) (fun x => F.disk_New.r1 x0)
set_option maxRecDepth 100000 in
set_option maxHeartbeats 4000000 in
theorem c_disk_New (I : Hl) (x0 : Int) (res : (Option disk_Disk) × Int) (hF : F.disk_New x0 = some res) : Tr Tryz.prog 4 [.int .i64 x0] [imm I] (fun r H' => (res.1 = none ∧ r = .tuple #[.pointer none, .int .i64 1] ∧ H' = [imm I]) ∨ (∃ (sq1 : disk_Disk), ∃ (bq2 : Nat), ∃ (pq4 : Option Addr), ∃ (cq5 : Nat), ∃ (bq7 : Nat), res.1 = some sq1 ∧ r = .tuple #[.pointer (some ⟨bq2, 0, none⟩), .int .i64 0] ∧ H' = [imm I, pt bq2 #[.slice pq4 sq1.sure_.length cq5, .map (some bq7), .bool sq1.off_, .bool sq1.armed_, .int .i64 sq1.left_, .int .u64 sq1.fall_.Keep, .int .i64 sq1.fall_.Tear, .int .i64 sq1.acts_, .int .i64 sq1.falls_] 52, own e_disk_sector 55 pq4 cq5 sq1.sure_, mpo (kInt .i64) (fun x : disk_sector => Value.agg #[.string x.s_, .int .i64 x.at_]) bq7 sq1.wait_])) := by
  unfold F.disk_New at hF
  refine tr_of_cw (fn := Tryz.f4) Tryz.func4 rfl (Nat.le_of_ble_eq_true rfl) 35 rfl fun F0 w0 => ?_
  refine cw_keep [0] (L' := [(0, .int .i64 x0)]) rfl ?_
  refine cw_state (S' := SAT w0 ([imm I] ++ F0)) (fun w hs => hs) ?_
  refine cw_seq ?_
  refine cw_region ?_
  refine ow_vals 2 (j := 2) [0] [(0, .int .i64 x0)] rfl (by kernel_rfl) ?_
  refine ow_end rfl ?_
  refine ew_then ?_
  obtain ⟨v21, hF, hK21⟩ := thru_some hF
  refine cw_mid (fun a w => .inl () = v21 ∧ Fr 35 [(0, .int .i64 x0)] a ∧ SAT w0 ([imm I] ++ F0) w) ?_ ?_
  · refine cw_seq ?_
    refine cw_region ?_
    refine ow_vals 3 (j := 3) [0, 8] [(0, .int .i64 x0), (8, .bool (decide (x0 < 1)))] rfl (by kernel_rfl) ?_
    rcases if_some hF with ⟨h22, hF⟩ | ⟨h22, hF⟩
    · refine ow_slots (L' := [(0, .int .i64 x0), (8, .bool true)]) (by rw [h22]) ?_
      refine ow_vals 3 (j := 6) [0, 11] [(0, .int .i64 x0), (11, .bool true)] rfl (by kernel_rfl) ?_
      refine ow_end rfl ?_
      refine ew_then ?_
      refine cw_cond_t rfl rfl rfl ?_
      refine cw_seq ?_
      refine cw_region ?_
      refine ow_vals 2 (j := 2) [2, 3] [(2, .pointer none), (3, .int .i64 1)] rfl (by kernel_rfl) ?_
      refine ow_end rfl ?_
      refine ew_then ?_
      refine cw_ret ?_
      refine ew_then_ret ?_
      have hR := Option.some.inj hF
      subst hR
      have hR := hK21
      try dsimp only [Thru] at hR
      subst hR
      exact fin2 (H1 := [imm I]) (fun w hs => sat_to [0] 0 rfl hs) rfl (rr_tmp rfl) (rr_tmp rfl) (.inl ⟨rfl, rfl, rfl⟩)
    refine ow_slots (L' := [(0, .int .i64 x0), (8, .bool false)]) (by rw [h22]) ?_
    refine ow_vals 3 (j := 6) [0, 11] [(0, .int .i64 x0), (11, .bool (decide (x0 > 8192)))] rfl (by kernel_rfl) ?_
    refine ow_end rfl ?_
    refine ew_then ?_
    rcases if_some hF with ⟨h23, hF⟩ | ⟨h23, hF⟩
    · refine cw_cond_t rfl rfl h23 ?_
      refine cw_seq ?_
      refine cw_region ?_
      refine ow_vals 2 (j := 2) [2, 3] [(2, .pointer none), (3, .int .i64 1)] rfl (by kernel_rfl) ?_
      refine ow_end rfl ?_
      refine ew_then ?_
      refine cw_ret ?_
      refine ew_then_ret ?_
      have hR := Option.some.inj hF
      subst hR
      have hR := hK21
      try dsimp only [Thru] at hR
      subst hR
      exact fin2 (H1 := [imm I]) (fun w hs => sat_to [0] 0 rfl hs) rfl (rr_tmp rfl) (rr_tmp rfl) (.inl ⟨rfl, rfl, rfl⟩)
    refine cw_cond_f rfl rfl h23 ?_
    refine cw_skip ?_
    have hR := Option.some.inj hF
    exact fun a w hf hs => ⟨hR, hf.keep [0], sat_to [0] 0 rfl hs⟩
  rintro a w ⟨hv, hf, hs⟩
  subst hv
  replace hF := hK21
  clear hK21
  try dsimp only [Thru] at hF
  revert a w
  show CW _ _ _ 35 [(0, .int .i64 x0)] (SAT w0 ([imm I] ++ F0))
  unfold F.disk_New.r1 at hF
  refine cw_seq ?_
  refine cw_region ?_
  refine ow_vals 1 (j := 1) [12] [(12, .int .i64 x0)] rfl (by kernel_rfl) ?_
  obtain ⟨h24, hF⟩ := chk_some hF
  refine ow_pw rfl (pw_make (E := 55) e_disk_sector (⟨(ByteArray.mk #[]), 0⟩ : disk_sector) rfl rfl rfl rfl rfl (by kernel_rfl) (by kernel_rfl) rfl rfl rfl h24.1 (room_max h24.1 h24.2) (room_bytes h24.1 h24.2) fun p25 c26 => nw_ow ?_)
  refine ow_pw rfl (pw_makeMap (kInt .i64) (fun x : disk_sector => Value.agg #[.string x.s_, .int .i64 x.at_]) rfl rfl rfl rfl rfl fun b28 => nw_ow ?_)
  refine ow_vals 1 (j := 4) [15] [(15, .agg #[.slice p25 (List.replicate x0.toNat (⟨(ByteArray.mk #[]), 0⟩ : disk_sector) : List disk_sector).length c26, .map (some b28), .bool false, .bool false, .int .i64 0, .int .u64 0, .int .i64 0, .int .i64 0, .int .i64 0])] rfl (by kernel_rfl) ?_
  refine ow_pw rfl (pw_box (cs := #[.slice p25 (List.replicate x0.toNat (⟨(ByteArray.mk #[]), 0⟩ : disk_sector) : List disk_sector).length c26, .map (some b28), .bool false, .bool false, .int .i64 0, .int .u64 0, .int .i64 0, .int .i64 0, .int .i64 0]) rfl rfl rfl rfl rfl rfl fun b30 => nw_ow ?_)
  refine ow_vals 1 (j := 6) [4] [(4, .pointer (some ⟨b30, 0, none⟩))] rfl (by kernel_rfl) ?_
  refine ow_end rfl ?_
  refine ew_then ?_
  obtain ⟨v32, hF, hK32⟩ := bind_some hF
  refine cw_mid (fun a w => ∃ (l44 : List disk_sector), ∃ (p45 : Option Addr), ∃ (c46 : Nat), l44 = v32 ∧ Fr 35 [(4, .pointer (some ⟨b30, 0, none⟩))] a ∧ SAT w0 ([imm I, pt b30 #[.slice p45 l44.length c46, .map (some b28), .bool false, .bool false, .int .i64 0, .int .u64 0, .int .i64 0, .int .i64 0, .int .i64 0] 52, own e_disk_sector 55 p45 c46 l44, mpo (kInt .i64) (fun x : disk_sector => Value.agg #[.string x.s_, .int .i64 x.at_]) b28 ([] : List (Int × disk_sector))] ++ F0) w) ?_ ?_
  · refine cw_seq ?_
    refine cw_region ?_
    refine ow_vals 3 (j := 3) [4, 19] [(4, .pointer (some ⟨b30, 0, none⟩)), (19, .pointer (some ⟨b30, 0, none⟩))] rfl (by kernel_rfl) ?_
    refine ow_pw rfl (pw_quiet (v := .slice p25 (List.replicate x0.toNat (⟨(ByteArray.mk #[]), 0⟩ : disk_sector) : List disk_sector).length c26) rfl rfl rfl rfl (q_load 0 rfl rfl rfl (by kernel_rfl)) (nw_ow ?_))
    refine ow_vals 2 (j := 6) [4, 21, 22] [(4, .pointer (some ⟨b30, 0, none⟩)), (21, .int .i64 ((List.replicate x0.toNat (⟨(ByteArray.mk #[]), 0⟩ : disk_sector) : List disk_sector).length : Int)), (22, .int .i64 0)] rfl (by kernel_rfl) ?_
    refine ow_end rfl ?_
    refine ew_then ?_
    refine cw_block ?_
    refine fun a w hf hs => wp_rounds (fun k a w => ∃ (x34 : Int), ∃ (l35 : List disk_sector), ∃ (p36 : Option Addr), ∃ (c37 : Nat), iter (fun x => F.disk_New.l2 x0 x.1 x.2) k (x34, l35) = some v32 ∧ Fr 35 [(4, .pointer (some ⟨b30, 0, none⟩)), (21, .int .i64 ((List.replicate x0.toNat (⟨(ByteArray.mk #[]), 0⟩ : disk_sector) : List disk_sector).length : Int)), (22, .int .i64 x34)] a ∧ SAT w0 ([imm I, pt b30 #[.slice p36 l35.length c37, .map (some b28), .bool false, .bool false, .int .i64 0, .int .u64 0, .int .i64 0, .int .i64 0, .int .i64 0] 52, own e_disk_sector 55 p36 c37 l35, mpo (kInt .i64) (fun x : disk_sector => Value.agg #[.string x.s_, .int .i64 x.at_]) b28 ([] : List (Int × disk_sector))] ++ F0) w) ?_ FUEL a w ⟨0, (List.replicate x0.toNat (⟨(ByteArray.mk #[]), 0⟩ : disk_sector) : List disk_sector), p25, c26, hF, hf.keep [4, 21, 22], sat_to [3, 0, 1, 0] 0 rfl hs⟩
    clear hf hs
    clear a w hF
    rintro k a w ⟨x34, l35, p36, c37, hF2, hf, hs⟩
    obtain ⟨k, r33, rfl, hF, hL33⟩ := iter_some hF2
    clear hF2
    revert a w
    show CW _ _ _ 35 [(4, .pointer (some ⟨b30, 0, none⟩)), (21, .int .i64 ((List.replicate x0.toNat (⟨(ByteArray.mk #[]), 0⟩ : disk_sector) : List disk_sector).length : Int)), (22, .int .i64 x34)] (SAT w0 ([imm I, pt b30 #[.slice p36 l35.length c37, .map (some b28), .bool false, .bool false, .int .i64 0, .int .u64 0, .int .i64 0, .int .i64 0, .int .i64 0] 52, own e_disk_sector 55 p36 c37 l35, mpo (kInt .i64) (fun x : disk_sector => Value.agg #[.string x.s_, .int .i64 x.at_]) b28 ([] : List (Int × disk_sector))] ++ F0))
    try dsimp only at hF
    unfold F.disk_New.l2 at hF
    refine cw_seq ?_
    refine cw_region ?_
    refine ow_vals 1 (j := 1) [4, 21, 22, 23] [(4, .pointer (some ⟨b30, 0, none⟩)), (21, .int .i64 ((List.replicate x0.toNat (⟨(ByteArray.mk #[]), 0⟩ : disk_sector) : List disk_sector).length : Int)), (22, .int .i64 x34), (23, .bool (decide (x34 < ((List.replicate x0.toNat (⟨(ByteArray.mk #[]), 0⟩ : disk_sector) : List disk_sector).length : Int))))] rfl (by kernel_rfl) ?_
    refine ow_end rfl ?_
    refine ew_then ?_
    refine cw_seq ?_
    rcases if_some hF with ⟨h39, hF⟩ | ⟨h39, hF⟩
    · refine cw_cond_t rfl rfl h39 ?_
      refine cw_skip ?_
      refine ew_then ?_
      refine cw_seq ?_
      refine cw_block ?_
      refine cw_seq ?_
      refine cw_region ?_
      refine ow_vals 2 (j := 2) [4, 5, 21, 22] [(4, .pointer (some ⟨b30, 0, none⟩)), (5, .int .i64 x34), (21, .int .i64 ((List.replicate x0.toNat (⟨(ByteArray.mk #[]), 0⟩ : disk_sector) : List disk_sector).length : Int)), (22, .int .i64 x34)] rfl (by kernel_rfl) ?_
      refine ow_end rfl ?_
      refine ew_then ?_
      refine cw_open 8 (SAT w0 ([imm I, pt b30 #[.slice p36 l35.length c37, .map (some b28), .bool false, .bool false, .int .i64 0, .int .u64 0, .int .i64 0, .int .i64 0, .int .i64 0] 52, own e_disk_sector 55 p36 c37 l35, mpo (kInt .i64) (fun x : disk_sector => Value.agg #[.string x.s_, .int .i64 x.at_]) b28 ([] : List (Int × disk_sector))])) (by kernel_rfl) (f := 9) rfl (fun w hs => sat_drew hs) ?_
      refine aw_vals [0, 1, 2, 4] (f' := 5) (m' := 23) [4, 21, 22, 27, 29] [(4, .pointer (some ⟨b30, 0, none⟩)), (21, .int .i64 ((List.replicate x0.toNat (⟨(ByteArray.mk #[]), 0⟩ : disk_sector) : List disk_sector).length : Int)), (22, .int .i64 x34), (27, .pointer (some ⟨b30, 0, none⟩)), (29, .int .i64 x34)] (fun _ _ _ _ _ h => calm_fin (P := Tryz.prog) (fn := Tryz.f4) _ _ _ _ _ h) (fun w hs => sat_pulls [0, 0, 0, 0] (G := [] ++ F0) rfl hs) rfl (by kernel_rfl) ?_
      refine aw_quiet 3 (m' := 31) (v := .slice p36 l35.length c37) 3 [] rfl rfl rfl rfl (by kernel_rfl) (by kernel_rfl) (by kernel_rfl) (fun _ _ _ _ _ h => calm_fin (P := Tryz.prog) (fn := Tryz.f4) _ _ _ _ _ h) (fun w hs => sat_pulls [0, 0, 0, 0] (G := [] ++ F0) rfl hs) (q_load 1 rfl rfl rfl (by kernel_rfl)) ?_
      obtain ⟨r40, h41, hF⟩ := bind_some hF
      refine aw_only 5 (m' := 63) (by kernel_rfl) (by kernel_rfl) (pw_call (F := [pt b30 #[.slice p36 l35.length c37, .map (some b28), .bool false, .bool false, .int .i64 0, .int .u64 0, .int .i64 0, .int .i64 0, .int .i64 0] 52, own e_disk_sector 55 p36 c37 l35, mpo (kInt .i64) (fun x : disk_sector => Value.agg #[.string x.s_, .int .i64 x.at_]) b28 ([] : List (Int × disk_sector))] ++ F0) rfl rfl rfl rfl rfl rfl rfl (by kernel_rfl) (perm_of_pulls [0] rfl) (c_disk_blank _ r40 h41) ?_)
      rintro _ _ ⟨rfl, rfl⟩
      refine nw_H (H' := [imm I, pt b30 #[.slice p36 l35.length c37, .map (some b28), .bool false, .bool false, .int .i64 0, .int .u64 0, .int .i64 0, .int .i64 0, .int .i64 0] 52, own e_disk_sector 55 p36 c37 l35, mpo (kInt .i64) (fun x : disk_sector => Value.agg #[.string x.s_, .int .i64 x.at_]) b28 ([] : List (Int × disk_sector))] ++ F0) rfl (aw_next (fun w hs => sat_pulls [0, 0, 0, 0] (G := [] ++ F0) rfl hs) ?_)
      obtain ⟨y42, h43, hF⟩ := bind_some hF
      refine aw_quiet 6 (m' := 127) (v := .pointer (some ((base p36).add (x34.toNat * 2)))) 7 [6] rfl rfl rfl rfl (by kernel_rfl) (by kernel_rfl) (by kernel_rfl) (fun _ _ _ _ _ h => calm_fin (P := Tryz.prog) (fn := Tryz.f4) _ _ _ _ _ h) (fun w hs => sat_pulls [0, 0, 0, 0] (G := [] ++ F0) rfl hs) (q_index_own 2 2 rfl rfl (by kernel_rfl) rfl rfl (at_some h43).1 (at_lt h43)) ?_
      refine aw_vals [7] (f' := 1) (m' := 255) [4, 21, 22, 30, 32] [(4, .pointer (some ⟨b30, 0, none⟩)), (21, .int .i64 ((List.replicate x0.toNat (⟨(ByteArray.mk #[]), 0⟩ : disk_sector) : List disk_sector).length : Int)), (22, .int .i64 x34), (30, .string r40), (32, .pointer (some (((base p36).add (x34.toNat * 2)).add 0)))] (fun _ _ _ _ _ h => calm_fin (P := Tryz.prog) (fn := Tryz.f4) _ _ _ _ _ h) (fun w hs => sat_pulls [0, 0, 0, 0] (G := [] ++ F0) rfl hs) rfl (by kernel_rfl) ?_
      refine aw_only 8 (m' := 511) (by kernel_rfl) (by kernel_rfl) (pw_store_own 2 2 (z' := (⟨r40, y42.at_⟩ : disk_sector)) (off := 0) rfl rfl rfl rfl rfl rfl rfl rfl (at_some h43).2 (by kernel_rfl) (nw_H (H' := [imm I, pt b30 #[.slice p36 (l35.set x34.toNat (⟨r40, y42.at_⟩ : disk_sector)).length c37, .map (some b28), .bool false, .bool false, .int .i64 0, .int .u64 0, .int .i64 0, .int .i64 0, .int .i64 0] 52, own e_disk_sector 55 p36 c37 (l35.set x34.toNat (⟨r40, y42.at_⟩ : disk_sector)), mpo (kInt .i64) (fun x : disk_sector => Value.agg #[.string x.s_, .int .i64 x.at_]) b28 ([] : List (Int × disk_sector))] ++ F0) (by first | rfl | (simp only [List.length_set]; rfl)) (aw_last (by kernel_rfl) ?_)))
      refine aw_slots (L' := [(4, .pointer (some ⟨b30, 0, none⟩)), (21, .int .i64 ((List.replicate x0.toNat (⟨(ByteArray.mk #[]), 0⟩ : disk_sector) : List disk_sector).length : Int)), (22, .int .i64 x34), (30, .string r40), (32, .pointer (some (((base p36).add (x34.toNat * 2)).add 0)))]) (by first | rfl | (simp only [List.length_set]; rfl)) ?_
      refine aw_keep [4, 21, 22] (L' := [(4, .pointer (some ⟨b30, 0, none⟩)), (21, .int .i64 ((List.replicate x0.toNat (⟨(ByteArray.mk #[]), 0⟩ : disk_sector) : List disk_sector).length : Int)), (22, .int .i64 x34)]) rfl ?_
      refine aw_end (by kernel_rfl) ?_
      refine ew_blk ?_
      refine ew_then ?_
      refine cw_region ?_
      refine ow_vals 2 (j := 2) [4, 21, 22] [(4, .pointer (some ⟨b30, 0, none⟩)), (21, .int .i64 ((List.replicate x0.toNat (⟨(ByteArray.mk #[]), 0⟩ : disk_sector) : List disk_sector).length : Int)), (22, .int .i64 (IntKind.i64.wrap (x34 + 1)))] rfl (by kernel_rfl) ?_
      refine ow_end rfl ?_
      have hR := Option.some.inj hF
      subst hR
      have hR := hL33
      try dsimp only at hR
      exact fun a w hf hs => ⟨k, Nat.lt_succ_self k, IntKind.i64.wrap (x34 + 1), l35.set x34.toNat (⟨r40, y42.at_⟩ : disk_sector), p36, c37, hR, hf.keep [4, 21, 22], sat_to [0, 0, 0, 0] 0 rfl hs⟩
    refine cw_cond_f rfl rfl h39 ?_
    refine cw_exit ?_
    refine ew_then_exit ?_
    refine ew_then_exit ?_
    refine ew_blk_exit ?_
    have hR := Option.some.inj hF
    subst hR
    have hR := hL33
    try dsimp only at hR
    exact fun a w hf hs => ⟨l35, p36, c37, hR, hf.keep [4], sat_to [0, 0, 0, 0] 0 rfl hs⟩
  rintro a w ⟨l44, p45, c46, hv, hf, hs⟩
  subst hv
  replace hF := hK32
  clear hK32
  try dsimp only at hF
  revert a w
  show CW _ _ _ 35 [(4, .pointer (some ⟨b30, 0, none⟩))] (SAT w0 ([imm I, pt b30 #[.slice p45 l44.length c46, .map (some b28), .bool false, .bool false, .int .i64 0, .int .u64 0, .int .i64 0, .int .i64 0, .int .i64 0] 52, own e_disk_sector 55 p45 c46 l44, mpo (kInt .i64) (fun x : disk_sector => Value.agg #[.string x.s_, .int .i64 x.at_]) b28 ([] : List (Int × disk_sector))] ++ F0))
  unfold F.disk_New.r3 at hF
  refine cw_seq ?_
  refine cw_region ?_
  refine ow_vals 3 (j := 3) [2, 3] [(2, .pointer (some ⟨b30, 0, none⟩)), (3, .int .i64 0)] rfl (by kernel_rfl) ?_
  refine ow_end rfl ?_
  refine ew_then ?_
  refine cw_ret ?_
  have hR := Option.some.inj hF
  subst hR
  exact fin2 (H1 := [imm I, pt b30 #[.slice p45 (⟨l44, ([] : List (Int × disk_sector)), false, false, 0, (⟨0, 0⟩ : disk_Fall), 0, 0⟩ : disk_Disk).sure_.length c46, .map (some b28), .bool (⟨l44, ([] : List (Int × disk_sector)), false, false, 0, (⟨0, 0⟩ : disk_Fall), 0, 0⟩ : disk_Disk).off_, .bool (⟨l44, ([] : List (Int × disk_sector)), false, false, 0, (⟨0, 0⟩ : disk_Fall), 0, 0⟩ : disk_Disk).armed_, .int .i64 (⟨l44, ([] : List (Int × disk_sector)), false, false, 0, (⟨0, 0⟩ : disk_Fall), 0, 0⟩ : disk_Disk).left_, .int .u64 (⟨l44, ([] : List (Int × disk_sector)), false, false, 0, (⟨0, 0⟩ : disk_Fall), 0, 0⟩ : disk_Disk).fall_.Keep, .int .i64 (⟨l44, ([] : List (Int × disk_sector)), false, false, 0, (⟨0, 0⟩ : disk_Fall), 0, 0⟩ : disk_Disk).fall_.Tear, .int .i64 (⟨l44, ([] : List (Int × disk_sector)), false, false, 0, (⟨0, 0⟩ : disk_Fall), 0, 0⟩ : disk_Disk).acts_, .int .i64 (⟨l44, ([] : List (Int × disk_sector)), false, false, 0, (⟨0, 0⟩ : disk_Fall), 0, 0⟩ : disk_Disk).falls_] 52, own e_disk_sector 55 p45 c46 (⟨l44, ([] : List (Int × disk_sector)), false, false, 0, (⟨0, 0⟩ : disk_Fall), 0, 0⟩ : disk_Disk).sure_, mpo (kInt .i64) (fun x : disk_sector => Value.agg #[.string x.s_, .int .i64 x.at_]) b28 (⟨l44, ([] : List (Int × disk_sector)), false, false, 0, (⟨0, 0⟩ : disk_Fall), 0, 0⟩ : disk_Disk).wait_]) (fun w hs => sat_to [0, 0, 0, 0] 0 rfl hs) rfl (rr_tmp rfl) (rr_tmp rfl) (.inr ⟨(⟨l44, ([] : List (Int × disk_sector)), false, false, 0, (⟨0, 0⟩ : disk_Fall), 0, 0⟩ : disk_Disk), b30, p45, c46, b28, rfl, rfl, rfl⟩)


def F.disk_Disk_Size (m0 : disk_Disk) : Option Int :=
  some ((m0.sure_.length : Int))
set_option maxRecDepth 100000 in
set_option maxHeartbeats 4000000 in
theorem c_disk_Disk_Size (I : Hl) (m0 : disk_Disk) (p0 : Option Addr) (c0 : Nat) (p1 : Nat) (b0 : Nat) (res : Int) (hF : F.disk_Disk_Size m0 = some res) : Tr Tryz.prog 27 [.pointer (some ⟨b0, 0, none⟩)] [imm I, pt b0 #[.slice p0 m0.sure_.length c0, .map (some p1), .bool m0.off_, .bool m0.armed_, .int .i64 m0.left_, .int .u64 m0.fall_.Keep, .int .i64 m0.fall_.Tear, .int .i64 m0.acts_, .int .i64 m0.falls_] 52, own e_disk_sector 55 p0 c0 m0.sure_, mpo (kInt .i64) (fun x : disk_sector => Value.agg #[.string x.s_, .int .i64 x.at_]) p1 m0.wait_] (fun r H' => r = .int .i64 res ∧ H' = [imm I, pt b0 #[.slice p0 m0.sure_.length c0, .map (some p1), .bool m0.off_, .bool m0.armed_, .int .i64 m0.left_, .int .u64 m0.fall_.Keep, .int .i64 m0.fall_.Tear, .int .i64 m0.acts_, .int .i64 m0.falls_] 52, own e_disk_sector 55 p0 c0 m0.sure_, mpo (kInt .i64) (fun x : disk_sector => Value.agg #[.string x.s_, .int .i64 x.at_]) p1 m0.wait_]) := by
  unfold F.disk_Disk_Size at hF
  refine tr_of_cw (fn := Tryz.f27) Tryz.func27 rfl (Nat.le_of_ble_eq_true rfl) 10 rfl fun F0 w0 => ?_
  refine cw_keep [0] (L' := [(0, .pointer (some ⟨b0, 0, none⟩))]) rfl ?_
  refine cw_state (S' := SAT w0 ([imm I, pt b0 #[.slice p0 m0.sure_.length c0, .map (some p1), .bool m0.off_, .bool m0.armed_, .int .i64 m0.left_, .int .u64 m0.fall_.Keep, .int .i64 m0.fall_.Tear, .int .i64 m0.acts_, .int .i64 m0.falls_] 52, own e_disk_sector 55 p0 c0 m0.sure_, mpo (kInt .i64) (fun x : disk_sector => Value.agg #[.string x.s_, .int .i64 x.at_]) p1 m0.wait_] ++ F0)) (fun w hs => hs) ?_
  refine cw_seq ?_
  refine cw_region ?_
  refine ow_vals 1 (j := 1) [0] [(0, .pointer (some ⟨b0, 0, none⟩))] rfl (by kernel_rfl) ?_
  refine ow_end rfl ?_
  refine ew_then ?_
  refine cw_seq ?_
  refine cw_seq ?_
  refine cw_region ?_
  refine ow_vals 2 (j := 2) [0, 4] [(0, .pointer (some ⟨b0, 0, none⟩)), (4, .bool false)] rfl (by kernel_rfl) ?_
  refine ow_end rfl ?_
  refine ew_then ?_
  refine cw_cond_f rfl rfl rfl ?_
  refine cw_skip ?_
  refine ew_then ?_
  refine cw_seq ?_
  refine cw_region ?_
  refine ow_vals 3 (j := 3) [7] [(7, .pointer (some ⟨b0, 0, none⟩))] rfl (by kernel_rfl) ?_
  refine ow_pw rfl (pw_quiet (v := .slice p0 m0.sure_.length c0) rfl rfl rfl rfl (q_load 1 rfl rfl rfl (by kernel_rfl)) (nw_ow ?_))
  refine ow_vals 2 (j := 6) [2] [(2, .int .i64 (m0.sure_.length : Int))] rfl (by kernel_rfl) ?_
  refine ow_end rfl ?_
  refine ew_then ?_
  refine cw_ret ?_
  have hR := Option.some.inj hF
  subst hR
  exact fin1 (H1 := [imm I, pt b0 #[.slice p0 m0.sure_.length c0, .map (some p1), .bool m0.off_, .bool m0.armed_, .int .i64 m0.left_, .int .u64 m0.fall_.Keep, .int .i64 m0.fall_.Tear, .int .i64 m0.acts_, .int .i64 m0.falls_] 52, own e_disk_sector 55 p0 c0 m0.sure_, mpo (kInt .i64) (fun x : disk_sector => Value.agg #[.string x.s_, .int .i64 x.at_]) p1 m0.wait_]) (fun w hs => sat_to [0, 0, 0, 0] 0 rfl hs) rfl (rr_tmp rfl) ⟨rfl, rfl⟩


def F.guard_New.r1 (x1 : Int) : Option ((Option guard_Guard) × Int) :=
  some ((some (⟨x1, 0⟩ : guard_Guard), 0))
def F.guard_New (x1 : Int) (m0 : disk_Disk) : Option ((Option guard_Guard) × Int) :=
  thru (Option.bind (F.disk_Disk_Size m0) (fun (r22 : Int) => if r22 == 0 then (some (.inr ((none, 1)))) else (if decide (x1 < 1) then (some (.inr ((none, 1)))) else (if decide (x1 > 2147483647) then (some (.inr ((none, 1)))) else (some (.inl ())))))) (fun x => F.guard_New.r1 x1)
set_option maxRecDepth 100000 in
set_option maxHeartbeats 4000000 in
theorem c_guard_New (I : Hl) (x1 : Int) (m0 : disk_Disk) (p0 : Option Addr) (c0 : Nat) (p1 : Nat) (b0 : Nat) (res : (Option guard_Guard) × Int) (hF : F.guard_New x1 m0 = some res) : Tr Tryz.prog 17 [.pointer (some ⟨b0, 0, none⟩), .int .i64 x1] [imm I, pt b0 #[.slice p0 m0.sure_.length c0, .map (some p1), .bool m0.off_, .bool m0.armed_, .int .i64 m0.left_, .int .u64 m0.fall_.Keep, .int .i64 m0.fall_.Tear, .int .i64 m0.acts_, .int .i64 m0.falls_] 52, own e_disk_sector 55 p0 c0 m0.sure_, mpo (kInt .i64) (fun x : disk_sector => Value.agg #[.string x.s_, .int .i64 x.at_]) p1 m0.wait_] (fun r H' => (res.1 = none ∧ r = .tuple #[.pointer none, .int .i64 1] ∧ H' = [imm I, pt b0 #[.slice p0 m0.sure_.length c0, .map (some p1), .bool m0.off_, .bool m0.armed_, .int .i64 m0.left_, .int .u64 m0.fall_.Keep, .int .i64 m0.fall_.Tear, .int .i64 m0.acts_, .int .i64 m0.falls_] 52, own e_disk_sector 55 p0 c0 m0.sure_, mpo (kInt .i64) (fun x : disk_sector => Value.agg #[.string x.s_, .int .i64 x.at_]) p1 m0.wait_]) ∨ (∃ (sq1 : guard_Guard), ∃ (bq2 : Nat), res.1 = some sq1 ∧ r = .tuple #[.pointer (some ⟨bq2, 0, none⟩), .int .i64 0] ∧ H' = [imm I, pt b0 #[.slice p0 m0.sure_.length c0, .map (some p1), .bool m0.off_, .bool m0.armed_, .int .i64 m0.left_, .int .u64 m0.fall_.Keep, .int .i64 m0.fall_.Tear, .int .i64 m0.acts_, .int .i64 m0.falls_] 52, pt bq2 #[.pointer (some ⟨b0, 0, none⟩), .int .i64 sq1.boot_, .int .i64 sq1.n_] 75, own e_disk_sector 55 p0 c0 m0.sure_, mpo (kInt .i64) (fun x : disk_sector => Value.agg #[.string x.s_, .int .i64 x.at_]) p1 m0.wait_])) := by
  unfold F.guard_New at hF
  refine tr_of_cw (fn := Tryz.f17) Tryz.func17 rfl (Nat.le_of_ble_eq_true rfl) 21 rfl fun F0 w0 => ?_
  refine cw_keep [0, 1] (L' := [(0, .pointer (some ⟨b0, 0, none⟩)), (1, .int .i64 x1)]) rfl ?_
  refine cw_state (S' := SAT w0 ([imm I, pt b0 #[.slice p0 m0.sure_.length c0, .map (some p1), .bool m0.off_, .bool m0.armed_, .int .i64 m0.left_, .int .u64 m0.fall_.Keep, .int .i64 m0.fall_.Tear, .int .i64 m0.acts_, .int .i64 m0.falls_] 52, own e_disk_sector 55 p0 c0 m0.sure_, mpo (kInt .i64) (fun x : disk_sector => Value.agg #[.string x.s_, .int .i64 x.at_]) p1 m0.wait_] ++ F0)) (fun w hs => hs) ?_
  refine cw_seq ?_
  refine cw_region ?_
  refine ow_vals 2 (j := 2) [0, 1] [(0, .pointer (some ⟨b0, 0, none⟩)), (1, .int .i64 x1)] rfl (by kernel_rfl) ?_
  refine ow_end rfl ?_
  refine ew_then ?_
  obtain ⟨v21, hF, hK21⟩ := thru_some hF
  refine cw_mid (fun a w => .inl () = v21 ∧ Fr 21 [(0, .pointer (some ⟨b0, 0, none⟩)), (1, .int .i64 x1)] a ∧ SAT w0 ([imm I, pt b0 #[.slice p0 m0.sure_.length c0, .map (some p1), .bool m0.off_, .bool m0.armed_, .int .i64 m0.left_, .int .u64 m0.fall_.Keep, .int .i64 m0.fall_.Tear, .int .i64 m0.acts_, .int .i64 m0.falls_] 52, own e_disk_sector 55 p0 c0 m0.sure_, mpo (kInt .i64) (fun x : disk_sector => Value.agg #[.string x.s_, .int .i64 x.at_]) p1 m0.wait_] ++ F0) w) ?_ ?_
  · refine cw_seq ?_
    refine cw_region ?_
    refine ow_vals 1 (j := 1) [0, 1, 6] [(0, .pointer (some ⟨b0, 0, none⟩)), (1, .int .i64 x1), (6, .pointer (some ⟨b0, 0, none⟩))] rfl (by kernel_rfl) ?_
    obtain ⟨r22, h23, hF⟩ := bind_some hF
    refine ow_pw rfl (pw_call (F := [] ++ F0) rfl rfl rfl rfl rfl rfl rfl (by kernel_rfl) (perm_of_pulls [0, 0, 0, 0] rfl) (c_disk_Disk_Size _ m0 p0 c0 p1 b0 r22 h23) ?_)
    rintro _ _ ⟨rfl, rfl⟩
    refine nw_H (H' := [imm I, pt b0 #[.slice p0 m0.sure_.length c0, .map (some p1), .bool m0.off_, .bool m0.armed_, .int .i64 m0.left_, .int .u64 m0.fall_.Keep, .int .i64 m0.fall_.Tear, .int .i64 m0.acts_, .int .i64 m0.falls_] 52, own e_disk_sector 55 p0 c0 m0.sure_, mpo (kInt .i64) (fun x : disk_sector => Value.agg #[.string x.s_, .int .i64 x.at_]) p1 m0.wait_] ++ F0) rfl (nw_ow ?_)
    refine ow_vals 2 (j := 4) [0, 1, 9] [(0, .pointer (some ⟨b0, 0, none⟩)), (1, .int .i64 x1), (9, .bool (r22 == 0))] rfl (by kernel_rfl) ?_
    rcases if_some hF with ⟨h24, hF⟩ | ⟨h24, hF⟩
    · refine ow_slots (L' := [(0, .pointer (some ⟨b0, 0, none⟩)), (1, .int .i64 x1), (9, .bool true)]) (by rw [h24]) ?_
      refine ow_vals 7 (j := 11) [0, 1, 16] [(0, .pointer (some ⟨b0, 0, none⟩)), (1, .int .i64 x1), (16, .bool true)] rfl (by kernel_rfl) ?_
      refine ow_end rfl ?_
      refine ew_then ?_
      refine cw_cond_t rfl rfl rfl ?_
      refine cw_seq ?_
      refine cw_region ?_
      refine ow_vals 2 (j := 2) [4, 5] [(4, .pointer none), (5, .int .i64 1)] rfl (by kernel_rfl) ?_
      refine ow_end rfl ?_
      refine ew_then ?_
      refine cw_ret ?_
      refine ew_then_ret ?_
      have hR := Option.some.inj hF
      subst hR
      have hR := hK21
      try dsimp only [Thru] at hR
      subst hR
      exact fin2 (H1 := [imm I, pt b0 #[.slice p0 m0.sure_.length c0, .map (some p1), .bool m0.off_, .bool m0.armed_, .int .i64 m0.left_, .int .u64 m0.fall_.Keep, .int .i64 m0.fall_.Tear, .int .i64 m0.acts_, .int .i64 m0.falls_] 52, own e_disk_sector 55 p0 c0 m0.sure_, mpo (kInt .i64) (fun x : disk_sector => Value.agg #[.string x.s_, .int .i64 x.at_]) p1 m0.wait_]) (fun w hs => sat_to [0, 0, 0, 0] 0 rfl hs) rfl (rr_tmp rfl) (rr_tmp rfl) (.inl ⟨rfl, rfl, rfl⟩)
    refine ow_slots (L' := [(0, .pointer (some ⟨b0, 0, none⟩)), (1, .int .i64 x1), (9, .bool false)]) (by rw [h24]) ?_
    refine ow_vals 4 (j := 8) [0, 1, 13] [(0, .pointer (some ⟨b0, 0, none⟩)), (1, .int .i64 x1), (13, .bool (decide (x1 < 1)))] rfl (by kernel_rfl) ?_
    rcases if_some hF with ⟨h25, hF⟩ | ⟨h25, hF⟩
    · refine ow_slots (L' := [(0, .pointer (some ⟨b0, 0, none⟩)), (1, .int .i64 x1), (13, .bool true)]) (by rw [h25]) ?_
      refine ow_vals 3 (j := 11) [0, 1, 16] [(0, .pointer (some ⟨b0, 0, none⟩)), (1, .int .i64 x1), (16, .bool true)] rfl (by kernel_rfl) ?_
      refine ow_end rfl ?_
      refine ew_then ?_
      refine cw_cond_t rfl rfl rfl ?_
      refine cw_seq ?_
      refine cw_region ?_
      refine ow_vals 2 (j := 2) [4, 5] [(4, .pointer none), (5, .int .i64 1)] rfl (by kernel_rfl) ?_
      refine ow_end rfl ?_
      refine ew_then ?_
      refine cw_ret ?_
      refine ew_then_ret ?_
      have hR := Option.some.inj hF
      subst hR
      have hR := hK21
      try dsimp only [Thru] at hR
      subst hR
      exact fin2 (H1 := [imm I, pt b0 #[.slice p0 m0.sure_.length c0, .map (some p1), .bool m0.off_, .bool m0.armed_, .int .i64 m0.left_, .int .u64 m0.fall_.Keep, .int .i64 m0.fall_.Tear, .int .i64 m0.acts_, .int .i64 m0.falls_] 52, own e_disk_sector 55 p0 c0 m0.sure_, mpo (kInt .i64) (fun x : disk_sector => Value.agg #[.string x.s_, .int .i64 x.at_]) p1 m0.wait_]) (fun w hs => sat_to [0, 0, 0, 0] 0 rfl hs) rfl (rr_tmp rfl) (rr_tmp rfl) (.inl ⟨rfl, rfl, rfl⟩)
    refine ow_slots (L' := [(0, .pointer (some ⟨b0, 0, none⟩)), (1, .int .i64 x1), (13, .bool false)]) (by rw [h25]) ?_
    refine ow_vals 3 (j := 11) [0, 1, 16] [(0, .pointer (some ⟨b0, 0, none⟩)), (1, .int .i64 x1), (16, .bool (decide (x1 > 2147483647)))] rfl (by kernel_rfl) ?_
    refine ow_end rfl ?_
    refine ew_then ?_
    rcases if_some hF with ⟨h26, hF⟩ | ⟨h26, hF⟩
    · refine cw_cond_t rfl rfl h26 ?_
      refine cw_seq ?_
      refine cw_region ?_
      refine ow_vals 2 (j := 2) [4, 5] [(4, .pointer none), (5, .int .i64 1)] rfl (by kernel_rfl) ?_
      refine ow_end rfl ?_
      refine ew_then ?_
      refine cw_ret ?_
      refine ew_then_ret ?_
      have hR := Option.some.inj hF
      subst hR
      have hR := hK21
      try dsimp only [Thru] at hR
      subst hR
      exact fin2 (H1 := [imm I, pt b0 #[.slice p0 m0.sure_.length c0, .map (some p1), .bool m0.off_, .bool m0.armed_, .int .i64 m0.left_, .int .u64 m0.fall_.Keep, .int .i64 m0.fall_.Tear, .int .i64 m0.acts_, .int .i64 m0.falls_] 52, own e_disk_sector 55 p0 c0 m0.sure_, mpo (kInt .i64) (fun x : disk_sector => Value.agg #[.string x.s_, .int .i64 x.at_]) p1 m0.wait_]) (fun w hs => sat_to [0, 0, 0, 0] 0 rfl hs) rfl (rr_tmp rfl) (rr_tmp rfl) (.inl ⟨rfl, rfl, rfl⟩)
    refine cw_cond_f rfl rfl h26 ?_
    refine cw_skip ?_
    have hR := Option.some.inj hF
    exact fun a w hf hs => ⟨hR, hf.keep [0, 1], sat_to [0, 0, 0, 0] 0 rfl hs⟩
  rintro a w ⟨hv, hf, hs⟩
  subst hv
  replace hF := hK21
  clear hK21
  try dsimp only [Thru] at hF
  revert a w
  show CW _ _ _ 21 [(0, .pointer (some ⟨b0, 0, none⟩)), (1, .int .i64 x1)] (SAT w0 ([imm I, pt b0 #[.slice p0 m0.sure_.length c0, .map (some p1), .bool m0.off_, .bool m0.armed_, .int .i64 m0.left_, .int .u64 m0.fall_.Keep, .int .i64 m0.fall_.Tear, .int .i64 m0.acts_, .int .i64 m0.falls_] 52, own e_disk_sector 55 p0 c0 m0.sure_, mpo (kInt .i64) (fun x : disk_sector => Value.agg #[.string x.s_, .int .i64 x.at_]) p1 m0.wait_] ++ F0))
  unfold F.guard_New.r1 at hF
  refine cw_seq ?_
  refine cw_region ?_
  refine ow_vals 3 (j := 3) [19] [(19, .agg #[.pointer (some ⟨b0, 0, none⟩), .int .i64 x1, .int .i64 0])] rfl (by kernel_rfl) ?_
  refine ow_pw rfl (pw_box (cs := #[.pointer (some ⟨b0, 0, none⟩), .int .i64 x1, .int .i64 0]) rfl rfl rfl rfl rfl rfl fun b27 => nw_ow ?_)
  refine ow_vals 2 (j := 6) [4, 5] [(4, .pointer (some ⟨b27, 0, none⟩)), (5, .int .i64 0)] rfl (by kernel_rfl) ?_
  refine ow_end rfl ?_
  refine ew_then ?_
  refine cw_ret ?_
  have hR := Option.some.inj hF
  subst hR
  exact fin2 (H1 := [imm I, pt b0 #[.slice p0 m0.sure_.length c0, .map (some p1), .bool m0.off_, .bool m0.armed_, .int .i64 m0.left_, .int .u64 m0.fall_.Keep, .int .i64 m0.fall_.Tear, .int .i64 m0.acts_, .int .i64 m0.falls_] 52, pt b27 #[.pointer (some ⟨b0, 0, none⟩), .int .i64 (⟨x1, 0⟩ : guard_Guard).boot_, .int .i64 (⟨x1, 0⟩ : guard_Guard).n_] 75, own e_disk_sector 55 p0 c0 m0.sure_, mpo (kInt .i64) (fun x : disk_sector => Value.agg #[.string x.s_, .int .i64 x.at_]) p1 m0.wait_]) (fun w hs => sat_to [1, 1, 0, 0, 0] 0 rfl hs) rfl (rr_tmp rfl) (rr_tmp rfl) (.inr ⟨(⟨x1, 0⟩ : guard_Guard), b27, rfl, rfl, rfl⟩)


def F.guard_Guard_none (m0 : guard_Guard) (m1 : disk_Disk) : Option Unit :=
  some (())
set_option maxRecDepth 100000 in
set_option maxHeartbeats 4000000 in
theorem c_guard_Guard_none (I : Hl) (m0 : guard_Guard) (m1 : disk_Disk) (b0 : Nat) (p0 : Option Addr) (c0 : Nat) (p1 : Nat) (b1 : Nat) (res : Unit) (hF : F.guard_Guard_none m0 m1 = some res) : Tr Tryz.prog 47 [.pointer (some ⟨b0, 0, none⟩)] [imm I, pt b0 #[.pointer (some ⟨b1, 0, none⟩), .int .i64 m0.boot_, .int .i64 m0.n_] 75, pt b1 #[.slice p0 m1.sure_.length c0, .map (some p1), .bool m1.off_, .bool m1.armed_, .int .i64 m1.left_, .int .u64 m1.fall_.Keep, .int .i64 m1.fall_.Tear, .int .i64 m1.acts_, .int .i64 m1.falls_] 52, own e_disk_sector 55 p0 c0 m1.sure_, mpo (kInt .i64) (fun x : disk_sector => Value.agg #[.string x.s_, .int .i64 x.at_]) p1 m1.wait_] (fun r H' => r = .bool false ∧ H' = [imm I, pt b0 #[.pointer (some ⟨b1, 0, none⟩), .int .i64 m0.boot_, .int .i64 m0.n_] 75, pt b1 #[.slice p0 m1.sure_.length c0, .map (some p1), .bool m1.off_, .bool m1.armed_, .int .i64 m1.left_, .int .u64 m1.fall_.Keep, .int .i64 m1.fall_.Tear, .int .i64 m1.acts_, .int .i64 m1.falls_] 52, own e_disk_sector 55 p0 c0 m1.sure_, mpo (kInt .i64) (fun x : disk_sector => Value.agg #[.string x.s_, .int .i64 x.at_]) p1 m1.wait_]) := by
  unfold F.guard_Guard_none at hF
  refine tr_of_cw (fn := Tryz.f47) Tryz.func47 rfl (Nat.le_of_ble_eq_true rfl) 12 rfl fun F0 w0 => ?_
  refine cw_keep [0] (L' := [(0, .pointer (some ⟨b0, 0, none⟩))]) rfl ?_
  refine cw_state (S' := SAT w0 ([imm I, pt b0 #[.pointer (some ⟨b1, 0, none⟩), .int .i64 m0.boot_, .int .i64 m0.n_] 75, pt b1 #[.slice p0 m1.sure_.length c0, .map (some p1), .bool m1.off_, .bool m1.armed_, .int .i64 m1.left_, .int .u64 m1.fall_.Keep, .int .i64 m1.fall_.Tear, .int .i64 m1.acts_, .int .i64 m1.falls_] 52, own e_disk_sector 55 p0 c0 m1.sure_, mpo (kInt .i64) (fun x : disk_sector => Value.agg #[.string x.s_, .int .i64 x.at_]) p1 m1.wait_] ++ F0)) (fun w hs => hs) ?_
  refine cw_seq ?_
  refine cw_region ?_
  refine ow_vals 1 (j := 1) [0] [(0, .pointer (some ⟨b0, 0, none⟩))] rfl (by kernel_rfl) ?_
  refine ow_end rfl ?_
  refine ew_then ?_
  refine cw_seq ?_
  refine cw_region ?_
  refine ow_vals 6 (j := 6) [5, 8] [(5, .bool false), (8, .pointer (some ⟨b0, 0, none⟩))] rfl (by kernel_rfl) ?_
  refine ow_pw rfl (pw_quiet (v := .pointer (some ⟨b1, 0, none⟩)) rfl rfl rfl rfl (q_load 1 rfl rfl rfl (by kernel_rfl)) (nw_ow ?_))
  refine ow_vals 3 (j := 10) [2] [(2, .bool false)] rfl (by kernel_rfl) ?_
  refine ow_end rfl ?_
  refine ew_then ?_
  refine cw_ret ?_
  have hR := Option.some.inj hF
  subst hR
  exact fin1 (H1 := [imm I, pt b0 #[.pointer (some ⟨b1, 0, none⟩), .int .i64 m0.boot_, .int .i64 m0.n_] 75, pt b1 #[.slice p0 m1.sure_.length c0, .map (some p1), .bool m1.off_, .bool m1.armed_, .int .i64 m1.left_, .int .u64 m1.fall_.Keep, .int .i64 m1.fall_.Tear, .int .i64 m1.acts_, .int .i64 m1.falls_] 52, own e_disk_sector 55 p0 c0 m1.sure_, mpo (kInt .i64) (fun x : disk_sector => Value.agg #[.string x.s_, .int .i64 x.at_]) p1 m1.wait_]) (fun w hs => sat_to [0, 0, 0, 0, 0] 0 rfl hs) rfl (rr_tmp rfl) ⟨rfl, rfl⟩


def F.guard_Guard_Disk (m0 : guard_Guard) (m1 : disk_Disk) : Option Unit :=
  Option.bind (F.guard_Guard_none m0 m1) (fun (r21 : Unit) => some (()))
set_option maxRecDepth 100000 in
set_option maxHeartbeats 4000000 in
theorem c_guard_Guard_Disk (I : Hl) (m0 : guard_Guard) (m1 : disk_Disk) (b0 : Nat) (p0 : Option Addr) (c0 : Nat) (p1 : Nat) (b1 : Nat) (res : Unit) (hF : F.guard_Guard_Disk m0 m1 = some res) : Tr Tryz.prog 33 [.pointer (some ⟨b0, 0, none⟩)] [imm I, pt b0 #[.pointer (some ⟨b1, 0, none⟩), .int .i64 m0.boot_, .int .i64 m0.n_] 75, pt b1 #[.slice p0 m1.sure_.length c0, .map (some p1), .bool m1.off_, .bool m1.armed_, .int .i64 m1.left_, .int .u64 m1.fall_.Keep, .int .i64 m1.fall_.Tear, .int .i64 m1.acts_, .int .i64 m1.falls_] 52, own e_disk_sector 55 p0 c0 m1.sure_, mpo (kInt .i64) (fun x : disk_sector => Value.agg #[.string x.s_, .int .i64 x.at_]) p1 m1.wait_] (fun r H' => r = .pointer (some ⟨b1, 0, none⟩) ∧ H' = [imm I, pt b0 #[.pointer (some ⟨b1, 0, none⟩), .int .i64 m0.boot_, .int .i64 m0.n_] 75, pt b1 #[.slice p0 m1.sure_.length c0, .map (some p1), .bool m1.off_, .bool m1.armed_, .int .i64 m1.left_, .int .u64 m1.fall_.Keep, .int .i64 m1.fall_.Tear, .int .i64 m1.acts_, .int .i64 m1.falls_] 52, own e_disk_sector 55 p0 c0 m1.sure_, mpo (kInt .i64) (fun x : disk_sector => Value.agg #[.string x.s_, .int .i64 x.at_]) p1 m1.wait_]) := by
  unfold F.guard_Guard_Disk at hF
  refine tr_of_cw (fn := Tryz.f33) Tryz.func33 rfl (Nat.le_of_ble_eq_true rfl) 9 rfl fun F0 w0 => ?_
  refine cw_keep [0] (L' := [(0, .pointer (some ⟨b0, 0, none⟩))]) rfl ?_
  refine cw_state (S' := SAT w0 ([imm I, pt b0 #[.pointer (some ⟨b1, 0, none⟩), .int .i64 m0.boot_, .int .i64 m0.n_] 75, pt b1 #[.slice p0 m1.sure_.length c0, .map (some p1), .bool m1.off_, .bool m1.armed_, .int .i64 m1.left_, .int .u64 m1.fall_.Keep, .int .i64 m1.fall_.Tear, .int .i64 m1.acts_, .int .i64 m1.falls_] 52, own e_disk_sector 55 p0 c0 m1.sure_, mpo (kInt .i64) (fun x : disk_sector => Value.agg #[.string x.s_, .int .i64 x.at_]) p1 m1.wait_] ++ F0)) (fun w hs => hs) ?_
  refine cw_seq ?_
  refine cw_region ?_
  refine ow_vals 1 (j := 1) [0] [(0, .pointer (some ⟨b0, 0, none⟩))] rfl (by kernel_rfl) ?_
  refine ow_end rfl ?_
  refine ew_then ?_
  refine cw_seq ?_
  refine cw_seq ?_
  refine cw_region ?_
  refine ow_vals 1 (j := 1) [0, 3] [(0, .pointer (some ⟨b0, 0, none⟩)), (3, .pointer (some ⟨b0, 0, none⟩))] rfl (by kernel_rfl) ?_
  obtain ⟨r21, h22, hF⟩ := bind_some hF
  refine ow_pw rfl (pw_call (F := [] ++ F0) rfl rfl rfl rfl rfl rfl rfl (by kernel_rfl) (perm_of_pulls [0, 0, 0, 0, 0] rfl) (c_guard_Guard_none _ m0 m1 b0 p0 c0 p1 b1 r21 h22) ?_)
  rintro _ _ ⟨rfl, rfl⟩
  refine nw_H (H' := [imm I, pt b0 #[.pointer (some ⟨b1, 0, none⟩), .int .i64 m0.boot_, .int .i64 m0.n_] 75, pt b1 #[.slice p0 m1.sure_.length c0, .map (some p1), .bool m1.off_, .bool m1.armed_, .int .i64 m1.left_, .int .u64 m1.fall_.Keep, .int .i64 m1.fall_.Tear, .int .i64 m1.acts_, .int .i64 m1.falls_] 52, own e_disk_sector 55 p0 c0 m1.sure_, mpo (kInt .i64) (fun x : disk_sector => Value.agg #[.string x.s_, .int .i64 x.at_]) p1 m1.wait_] ++ F0) rfl (nw_ow ?_)
  refine ow_end rfl ?_
  refine ew_then ?_
  refine cw_cond_f rfl rfl rfl ?_
  refine cw_skip ?_
  refine ew_then ?_
  refine cw_seq ?_
  refine cw_region ?_
  refine ow_vals 3 (j := 3) [7] [(7, .pointer (some ⟨b0, 0, none⟩))] rfl (by kernel_rfl) ?_
  refine ow_pw rfl (pw_quiet (v := .pointer (some ⟨b1, 0, none⟩)) rfl rfl rfl rfl (q_load 1 rfl rfl rfl (by kernel_rfl)) (nw_ow ?_))
  refine ow_vals 1 (j := 5) [2] [(2, .pointer (some ⟨b1, 0, none⟩))] rfl (by kernel_rfl) ?_
  refine ow_end rfl ?_
  refine ew_then ?_
  refine cw_ret ?_
  have hR := Option.some.inj hF
  subst hR
  exact fin1 (H1 := [imm I, pt b0 #[.pointer (some ⟨b1, 0, none⟩), .int .i64 m0.boot_, .int .i64 m0.n_] 75, pt b1 #[.slice p0 m1.sure_.length c0, .map (some p1), .bool m1.off_, .bool m1.armed_, .int .i64 m1.left_, .int .u64 m1.fall_.Keep, .int .i64 m1.fall_.Tear, .int .i64 m1.acts_, .int .i64 m1.falls_] 52, own e_disk_sector 55 p0 c0 m1.sure_, mpo (kInt .i64) (fun x : disk_sector => Value.agg #[.string x.s_, .int .i64 x.at_]) p1 m1.wait_]) (fun w hs => sat_to [0, 0, 0, 0, 0] 0 rfl hs) rfl (rr_tmp rfl) ⟨rfl, rfl⟩


def F.keyring_New.r1 (x1 : Int) (x2 : Int) (m0 : guard_Guard) (m1 : disk_Disk) (x27 : Bool) : Option ((Unit) ⊕ ((Option keyring_Ring) × Int)) :=
  if x27 then (some (.inr ((none, 1)))) else (Option.bind (F.guard_Guard_Disk m0 m1) (fun (r29 : Unit) => Option.bind (F.disk_Disk_Size m1) (fun (r31 : Int) => if decide (x1 > r31) then (some (.inr ((none, 5)))) else (Option.bind (F.guard_Guard_Disk m0 m1) (fun (r34 : Unit) => Option.bind (F.disk_Disk_Size m1) (fun (r36 : Int) => if decide (x2 > (IntKind.i64.wrap (r36 - x1))) then (some (.inr ((none, 5)))) else (some (.inl ()))))))))
def F.keyring_New.r2 (x1 : Int) (x2 : Int) : Option ((Option keyring_Ring) × Int) :=
  some ((some (⟨x1, x2, 0⟩ : keyring_Ring), 0))
def F.keyring_New (x1 : Int) (x2 : Int) (m0 : guard_Guard) (m1 : disk_Disk) : Option ((Option keyring_Ring) × Int) :=
  thru (Option.bind (Option.bind (F.guard_Guard_Disk m0 m1) (fun (r23 : Unit) => if decide (x1 < 0) then (some (true)) else (if decide (x2 < 1) then (some (true)) else (some ((decide (x2 > 64))))))) (fun x => F.keyring_New.r1 x1 x2 m0 m1 x)) (fun x => F.keyring_New.r2 x1 x2)
set_option maxRecDepth 100000 in
set_option maxHeartbeats 4000000 in
theorem c_keyring_New (I : Hl) (x1 : Int) (x2 : Int) (m0 : guard_Guard) (m1 : disk_Disk) (b0 : Nat) (p0 : Option Addr) (c0 : Nat) (p1 : Nat) (b1 : Nat) (res : (Option keyring_Ring) × Int) (hF : F.keyring_New x1 x2 m0 m1 = some res) : Tr Tryz.prog 18 [.pointer (some ⟨b0, 0, none⟩), .int .i64 x1, .int .i64 x2] [imm I, pt b0 #[.pointer (some ⟨b1, 0, none⟩), .int .i64 m0.boot_, .int .i64 m0.n_] 75, pt b1 #[.slice p0 m1.sure_.length c0, .map (some p1), .bool m1.off_, .bool m1.armed_, .int .i64 m1.left_, .int .u64 m1.fall_.Keep, .int .i64 m1.fall_.Tear, .int .i64 m1.acts_, .int .i64 m1.falls_] 52, own e_disk_sector 55 p0 c0 m1.sure_, mpo (kInt .i64) (fun x : disk_sector => Value.agg #[.string x.s_, .int .i64 x.at_]) p1 m1.wait_] (fun r H' => (res.1 = none ∧ r = .tuple #[.pointer none, .int .i64 res.2] ∧ H' = [imm I, pt b0 #[.pointer (some ⟨b1, 0, none⟩), .int .i64 m0.boot_, .int .i64 m0.n_] 75, pt b1 #[.slice p0 m1.sure_.length c0, .map (some p1), .bool m1.off_, .bool m1.armed_, .int .i64 m1.left_, .int .u64 m1.fall_.Keep, .int .i64 m1.fall_.Tear, .int .i64 m1.acts_, .int .i64 m1.falls_] 52, own e_disk_sector 55 p0 c0 m1.sure_, mpo (kInt .i64) (fun x : disk_sector => Value.agg #[.string x.s_, .int .i64 x.at_]) p1 m1.wait_]) ∨ (∃ (sq1 : keyring_Ring), ∃ (bq2 : Nat), res.1 = some sq1 ∧ r = .tuple #[.pointer (some ⟨bq2, 0, none⟩), .int .i64 0] ∧ H' = [imm I, pt b0 #[.pointer (some ⟨b1, 0, none⟩), .int .i64 m0.boot_, .int .i64 m0.n_] 75, pt b1 #[.slice p0 m1.sure_.length c0, .map (some p1), .bool m1.off_, .bool m1.armed_, .int .i64 m1.left_, .int .u64 m1.fall_.Keep, .int .i64 m1.fall_.Tear, .int .i64 m1.acts_, .int .i64 m1.falls_] 52, pt bq2 #[.pointer (some ⟨b0, 0, none⟩), .int .i64 sq1.base_, .int .i64 sq1.slots_, .int .i64 sq1.shred_] 78, own e_disk_sector 55 p0 c0 m1.sure_, mpo (kInt .i64) (fun x : disk_sector => Value.agg #[.string x.s_, .int .i64 x.at_]) p1 m1.wait_])) := by
  unfold F.keyring_New at hF
  refine tr_of_cw (fn := Tryz.f18) Tryz.func18 rfl (Nat.le_of_ble_eq_true rfl) 44 rfl fun F0 w0 => ?_
  refine cw_keep [0, 1, 2] (L' := [(0, .pointer (some ⟨b0, 0, none⟩)), (1, .int .i64 x1), (2, .int .i64 x2)]) rfl ?_
  refine cw_state (S' := SAT w0 ([imm I, pt b0 #[.pointer (some ⟨b1, 0, none⟩), .int .i64 m0.boot_, .int .i64 m0.n_] 75, pt b1 #[.slice p0 m1.sure_.length c0, .map (some p1), .bool m1.off_, .bool m1.armed_, .int .i64 m1.left_, .int .u64 m1.fall_.Keep, .int .i64 m1.fall_.Tear, .int .i64 m1.acts_, .int .i64 m1.falls_] 52, own e_disk_sector 55 p0 c0 m1.sure_, mpo (kInt .i64) (fun x : disk_sector => Value.agg #[.string x.s_, .int .i64 x.at_]) p1 m1.wait_] ++ F0)) (fun w hs => hs) ?_
  refine cw_seq ?_
  refine cw_region ?_
  refine ow_vals 2 (j := 2) [0, 1, 2] [(0, .pointer (some ⟨b0, 0, none⟩)), (1, .int .i64 x1), (2, .int .i64 x2)] rfl (by kernel_rfl) ?_
  refine ow_end rfl ?_
  refine ew_then ?_
  obtain ⟨v21, hF, hK21⟩ := thru_some hF
  refine cw_mid (fun a w => .inl () = v21 ∧ Fr 44 [(0, .pointer (some ⟨b0, 0, none⟩)), (1, .int .i64 x1), (2, .int .i64 x2)] a ∧ SAT w0 ([imm I, pt b1 #[.slice p0 m1.sure_.length c0, .map (some p1), .bool m1.off_, .bool m1.armed_, .int .i64 m1.left_, .int .u64 m1.fall_.Keep, .int .i64 m1.fall_.Tear, .int .i64 m1.acts_, .int .i64 m1.falls_] 52, pt b0 #[.pointer (some ⟨b1, 0, none⟩), .int .i64 m0.boot_, .int .i64 m0.n_] 75, own e_disk_sector 55 p0 c0 m1.sure_, mpo (kInt .i64) (fun x : disk_sector => Value.agg #[.string x.s_, .int .i64 x.at_]) p1 m1.wait_] ++ F0) w) ?_ ?_
  · refine cw_block ?_
    obtain ⟨v22, hF, hK22⟩ := bind_some hF
    refine cw_mid (fun a w => ∃ (x27 : Bool), x27 = v22 ∧ Fr 44 [(0, .pointer (some ⟨b0, 0, none⟩)), (1, .int .i64 x1), (2, .int .i64 x2), (8, .bool x27)] a ∧ SAT w0 ([imm I, pt b0 #[.pointer (some ⟨b1, 0, none⟩), .int .i64 m0.boot_, .int .i64 m0.n_] 75, pt b1 #[.slice p0 m1.sure_.length c0, .map (some p1), .bool m1.off_, .bool m1.armed_, .int .i64 m1.left_, .int .u64 m1.fall_.Keep, .int .i64 m1.fall_.Tear, .int .i64 m1.acts_, .int .i64 m1.falls_] 52, own e_disk_sector 55 p0 c0 m1.sure_, mpo (kInt .i64) (fun x : disk_sector => Value.agg #[.string x.s_, .int .i64 x.at_]) p1 m1.wait_] ++ F0) w) ?_ ?_
    · refine cw_region ?_
      refine ow_vals 1 (j := 1) [0, 1, 2, 9] [(0, .pointer (some ⟨b0, 0, none⟩)), (1, .int .i64 x1), (2, .int .i64 x2), (9, .pointer (some ⟨b0, 0, none⟩))] rfl (by kernel_rfl) ?_
      obtain ⟨r23, h24, hF⟩ := bind_some hF
      refine ow_pw rfl (pw_call (F := [] ++ F0) rfl rfl rfl rfl rfl rfl rfl (by kernel_rfl) (perm_of_pulls [0, 0, 0, 0, 0] rfl) (c_guard_Guard_Disk _ m0 m1 b0 p0 c0 p1 b1 r23 h24) ?_)
      rintro _ _ ⟨rfl, rfl⟩
      refine nw_H (H' := [imm I, pt b0 #[.pointer (some ⟨b1, 0, none⟩), .int .i64 m0.boot_, .int .i64 m0.n_] 75, pt b1 #[.slice p0 m1.sure_.length c0, .map (some p1), .bool m1.off_, .bool m1.armed_, .int .i64 m1.left_, .int .u64 m1.fall_.Keep, .int .i64 m1.fall_.Tear, .int .i64 m1.acts_, .int .i64 m1.falls_] 52, own e_disk_sector 55 p0 c0 m1.sure_, mpo (kInt .i64) (fun x : disk_sector => Value.agg #[.string x.s_, .int .i64 x.at_]) p1 m1.wait_] ++ F0) rfl (nw_ow ?_)
      refine ow_vals 6 (j := 8) [0, 1, 2, 16] [(0, .pointer (some ⟨b0, 0, none⟩)), (1, .int .i64 x1), (2, .int .i64 x2), (16, .bool (decide (x1 < 0)))] rfl (by kernel_rfl) ?_
      rcases if_some hF with ⟨h25, hF⟩ | ⟨h25, hF⟩
      · refine ow_slots (L' := [(0, .pointer (some ⟨b0, 0, none⟩)), (1, .int .i64 x1), (2, .int .i64 x2), (16, .bool true)]) (by rw [h25]) ?_
        refine ow_vals 8 (j := 16) [0, 1, 2, 8] [(0, .pointer (some ⟨b0, 0, none⟩)), (1, .int .i64 x1), (2, .int .i64 x2), (8, .bool true)] rfl (by kernel_rfl) ?_
        refine ow_end rfl ?_
        have hR := Option.some.inj hF
        exact fun a w hf hs => ⟨true, hR, hf.keep [0, 1, 2, 8], sat_to [0, 0, 0, 0, 0] 0 rfl hs⟩
      refine ow_slots (L' := [(0, .pointer (some ⟨b0, 0, none⟩)), (1, .int .i64 x1), (2, .int .i64 x2), (16, .bool false)]) (by rw [h25]) ?_
      refine ow_vals 4 (j := 12) [0, 1, 2, 20] [(0, .pointer (some ⟨b0, 0, none⟩)), (1, .int .i64 x1), (2, .int .i64 x2), (20, .bool (decide (x2 < 1)))] rfl (by kernel_rfl) ?_
      rcases if_some hF with ⟨h26, hF⟩ | ⟨h26, hF⟩
      · refine ow_slots (L' := [(0, .pointer (some ⟨b0, 0, none⟩)), (1, .int .i64 x1), (2, .int .i64 x2), (20, .bool true)]) (by rw [h26]) ?_
        refine ow_vals 4 (j := 16) [0, 1, 2, 8] [(0, .pointer (some ⟨b0, 0, none⟩)), (1, .int .i64 x1), (2, .int .i64 x2), (8, .bool true)] rfl (by kernel_rfl) ?_
        refine ow_end rfl ?_
        have hR := Option.some.inj hF
        exact fun a w hf hs => ⟨true, hR, hf.keep [0, 1, 2, 8], sat_to [0, 0, 0, 0, 0] 0 rfl hs⟩
      refine ow_slots (L' := [(0, .pointer (some ⟨b0, 0, none⟩)), (1, .int .i64 x1), (2, .int .i64 x2), (20, .bool false)]) (by rw [h26]) ?_
      refine ow_vals 4 (j := 16) [0, 1, 2, 8] [(0, .pointer (some ⟨b0, 0, none⟩)), (1, .int .i64 x1), (2, .int .i64 x2), (8, .bool (decide (x2 > 64)))] rfl (by kernel_rfl) ?_
      refine ow_end rfl ?_
      have hR := Option.some.inj hF
      exact fun a w hf hs => ⟨decide (x2 > 64), hR, hf.keep [0, 1, 2, 8], sat_to [0, 0, 0, 0, 0] 0 rfl hs⟩
    rintro a w ⟨x27, hv, hf, hs⟩
    subst hv
    replace hF := hK22
    clear hK22
    try dsimp only at hF
    revert a w
    show CW _ _ _ 44 [(0, .pointer (some ⟨b0, 0, none⟩)), (1, .int .i64 x1), (2, .int .i64 x2), (8, .bool x27)] (SAT w0 ([imm I, pt b0 #[.pointer (some ⟨b1, 0, none⟩), .int .i64 m0.boot_, .int .i64 m0.n_] 75, pt b1 #[.slice p0 m1.sure_.length c0, .map (some p1), .bool m1.off_, .bool m1.armed_, .int .i64 m1.left_, .int .u64 m1.fall_.Keep, .int .i64 m1.fall_.Tear, .int .i64 m1.acts_, .int .i64 m1.falls_] 52, own e_disk_sector 55 p0 c0 m1.sure_, mpo (kInt .i64) (fun x : disk_sector => Value.agg #[.string x.s_, .int .i64 x.at_]) p1 m1.wait_] ++ F0))
    unfold F.keyring_New.r1 at hF
    rcases if_some hF with ⟨h28, hF⟩ | ⟨h28, hF⟩
    · refine cw_cond_t rfl rfl h28 ?_
      refine cw_seq ?_
      refine cw_region ?_
      refine ow_vals 2 (j := 2) [6, 7] [(6, .pointer none), (7, .int .i64 1)] rfl (by kernel_rfl) ?_
      refine ow_end rfl ?_
      refine ew_then ?_
      refine cw_ret ?_
      refine ew_blk_ret ?_
      refine ew_then_ret ?_
      have hR := Option.some.inj hF
      subst hR
      have hR := hK21
      try dsimp only [Thru] at hR
      subst hR
      exact fin2 (H1 := [imm I, pt b0 #[.pointer (some ⟨b1, 0, none⟩), .int .i64 m0.boot_, .int .i64 m0.n_] 75, pt b1 #[.slice p0 m1.sure_.length c0, .map (some p1), .bool m1.off_, .bool m1.armed_, .int .i64 m1.left_, .int .u64 m1.fall_.Keep, .int .i64 m1.fall_.Tear, .int .i64 m1.acts_, .int .i64 m1.falls_] 52, own e_disk_sector 55 p0 c0 m1.sure_, mpo (kInt .i64) (fun x : disk_sector => Value.agg #[.string x.s_, .int .i64 x.at_]) p1 m1.wait_]) (fun w hs => sat_to [0, 0, 0, 0, 0] 0 rfl hs) rfl (rr_tmp rfl) (rr_tmp rfl) (.inl ⟨rfl, rfl, rfl⟩)
    refine cw_cond_f rfl rfl h28 ?_
    refine cw_seq ?_
    refine cw_region ?_
    refine ow_vals 2 (j := 2) [0, 1, 2, 25, 26] [(0, .pointer (some ⟨b0, 0, none⟩)), (1, .int .i64 x1), (2, .int .i64 x2), (25, .int .i64 x1), (26, .pointer (some ⟨b0, 0, none⟩))] rfl (by kernel_rfl) ?_
    obtain ⟨r29, h30, hF⟩ := bind_some hF
    refine ow_pw rfl (pw_call (F := [] ++ F0) rfl rfl rfl rfl rfl rfl rfl (by kernel_rfl) (perm_of_pulls [0, 0, 0, 0, 0] rfl) (c_guard_Guard_Disk _ m0 m1 b0 p0 c0 p1 b1 r29 h30) ?_)
    rintro _ _ ⟨rfl, rfl⟩
    refine nw_H (H' := [imm I, pt b0 #[.pointer (some ⟨b1, 0, none⟩), .int .i64 m0.boot_, .int .i64 m0.n_] 75, pt b1 #[.slice p0 m1.sure_.length c0, .map (some p1), .bool m1.off_, .bool m1.armed_, .int .i64 m1.left_, .int .u64 m1.fall_.Keep, .int .i64 m1.fall_.Tear, .int .i64 m1.acts_, .int .i64 m1.falls_] 52, own e_disk_sector 55 p0 c0 m1.sure_, mpo (kInt .i64) (fun x : disk_sector => Value.agg #[.string x.s_, .int .i64 x.at_]) p1 m1.wait_] ++ F0) rfl (nw_ow ?_)
    obtain ⟨r31, h32, hF⟩ := bind_some hF
    refine ow_pw rfl (pw_call (F := [pt b0 #[.pointer (some ⟨b1, 0, none⟩), .int .i64 m0.boot_, .int .i64 m0.n_] 75] ++ F0) rfl rfl rfl rfl rfl rfl rfl (by kernel_rfl) (perm_of_pulls [0, 1, 1, 1] rfl) (c_disk_Disk_Size _ m1 p0 c0 p1 b1 r31 h32) ?_)
    rintro _ _ ⟨rfl, rfl⟩
    refine nw_H (H' := [imm I, pt b1 #[.slice p0 m1.sure_.length c0, .map (some p1), .bool m1.off_, .bool m1.armed_, .int .i64 m1.left_, .int .u64 m1.fall_.Keep, .int .i64 m1.fall_.Tear, .int .i64 m1.acts_, .int .i64 m1.falls_] 52, own e_disk_sector 55 p0 c0 m1.sure_, mpo (kInt .i64) (fun x : disk_sector => Value.agg #[.string x.s_, .int .i64 x.at_]) p1 m1.wait_, pt b0 #[.pointer (some ⟨b1, 0, none⟩), .int .i64 m0.boot_, .int .i64 m0.n_] 75] ++ F0) rfl (nw_ow ?_)
    refine ow_vals 2 (j := 6) [0, 1, 2, 30] [(0, .pointer (some ⟨b0, 0, none⟩)), (1, .int .i64 x1), (2, .int .i64 x2), (30, .bool (decide (x1 > r31)))] rfl (by kernel_rfl) ?_
    rcases if_some hF with ⟨h33, hF⟩ | ⟨h33, hF⟩
    · refine ow_slots (L' := [(0, .pointer (some ⟨b0, 0, none⟩)), (1, .int .i64 x1), (2, .int .i64 x2), (30, .bool true)]) (by rw [h33]) ?_
      refine ow_vals 9 (j := 15) [0, 1, 2, 24] [(0, .pointer (some ⟨b0, 0, none⟩)), (1, .int .i64 x1), (2, .int .i64 x2), (24, .bool true)] rfl (by kernel_rfl) ?_
      refine ow_end rfl ?_
      refine ew_then ?_
      refine cw_cond_t rfl rfl rfl ?_
      refine cw_seq ?_
      refine cw_region ?_
      refine ow_vals 2 (j := 2) [6, 7] [(6, .pointer none), (7, .int .i64 5)] rfl (by kernel_rfl) ?_
      refine ow_end rfl ?_
      refine ew_then ?_
      refine cw_ret ?_
      refine ew_blk_ret ?_
      refine ew_then_ret ?_
      have hR := Option.some.inj hF
      subst hR
      have hR := hK21
      try dsimp only [Thru] at hR
      subst hR
      exact fin2 (H1 := [imm I, pt b0 #[.pointer (some ⟨b1, 0, none⟩), .int .i64 m0.boot_, .int .i64 m0.n_] 75, pt b1 #[.slice p0 m1.sure_.length c0, .map (some p1), .bool m1.off_, .bool m1.armed_, .int .i64 m1.left_, .int .u64 m1.fall_.Keep, .int .i64 m1.fall_.Tear, .int .i64 m1.acts_, .int .i64 m1.falls_] 52, own e_disk_sector 55 p0 c0 m1.sure_, mpo (kInt .i64) (fun x : disk_sector => Value.agg #[.string x.s_, .int .i64 x.at_]) p1 m1.wait_]) (fun w hs => sat_to [0, 3, 0, 0, 0] 0 rfl hs) rfl (rr_tmp rfl) (rr_tmp rfl) (.inl ⟨rfl, rfl, rfl⟩)
    refine ow_slots (L' := [(0, .pointer (some ⟨b0, 0, none⟩)), (1, .int .i64 x1), (2, .int .i64 x2), (30, .bool false)]) (by rw [h33]) ?_
    refine ow_vals 2 (j := 8) [0, 1, 2, 30, 31, 32] [(0, .pointer (some ⟨b0, 0, none⟩)), (1, .int .i64 x1), (2, .int .i64 x2), (30, .bool false), (31, .int .i64 x2), (32, .pointer (some ⟨b0, 0, none⟩))] rfl (by kernel_rfl) ?_
    obtain ⟨r34, h35, hF⟩ := bind_some hF
    refine ow_pw rfl (pw_call (F := [] ++ F0) rfl rfl rfl rfl rfl rfl rfl (by kernel_rfl) (perm_of_pulls [0, 3, 0, 0, 0] rfl) (c_guard_Guard_Disk _ m0 m1 b0 p0 c0 p1 b1 r34 h35) ?_)
    rintro _ _ ⟨rfl, rfl⟩
    refine nw_H (H' := [imm I, pt b0 #[.pointer (some ⟨b1, 0, none⟩), .int .i64 m0.boot_, .int .i64 m0.n_] 75, pt b1 #[.slice p0 m1.sure_.length c0, .map (some p1), .bool m1.off_, .bool m1.armed_, .int .i64 m1.left_, .int .u64 m1.fall_.Keep, .int .i64 m1.fall_.Tear, .int .i64 m1.acts_, .int .i64 m1.falls_] 52, own e_disk_sector 55 p0 c0 m1.sure_, mpo (kInt .i64) (fun x : disk_sector => Value.agg #[.string x.s_, .int .i64 x.at_]) p1 m1.wait_] ++ F0) rfl (nw_ow ?_)
    obtain ⟨r36, h37, hF⟩ := bind_some hF
    refine ow_pw rfl (pw_call (F := [pt b0 #[.pointer (some ⟨b1, 0, none⟩), .int .i64 m0.boot_, .int .i64 m0.n_] 75] ++ F0) rfl rfl rfl rfl rfl rfl rfl (by kernel_rfl) (perm_of_pulls [0, 1, 1, 1] rfl) (c_disk_Disk_Size _ m1 p0 c0 p1 b1 r36 h37) ?_)
    rintro _ _ ⟨rfl, rfl⟩
    refine nw_H (H' := [imm I, pt b1 #[.slice p0 m1.sure_.length c0, .map (some p1), .bool m1.off_, .bool m1.armed_, .int .i64 m1.left_, .int .u64 m1.fall_.Keep, .int .i64 m1.fall_.Tear, .int .i64 m1.acts_, .int .i64 m1.falls_] 52, own e_disk_sector 55 p0 c0 m1.sure_, mpo (kInt .i64) (fun x : disk_sector => Value.agg #[.string x.s_, .int .i64 x.at_]) p1 m1.wait_, pt b0 #[.pointer (some ⟨b1, 0, none⟩), .int .i64 m0.boot_, .int .i64 m0.n_] 75] ++ F0) rfl (nw_ow ?_)
    refine ow_vals 5 (j := 15) [0, 1, 2, 24] [(0, .pointer (some ⟨b0, 0, none⟩)), (1, .int .i64 x1), (2, .int .i64 x2), (24, .bool (decide (x2 > (IntKind.i64.wrap (r36 - x1)))))] rfl (by kernel_rfl) ?_
    refine ow_end rfl ?_
    refine ew_then ?_
    rcases if_some hF with ⟨h38, hF⟩ | ⟨h38, hF⟩
    · refine cw_cond_t rfl rfl h38 ?_
      refine cw_seq ?_
      refine cw_region ?_
      refine ow_vals 2 (j := 2) [6, 7] [(6, .pointer none), (7, .int .i64 5)] rfl (by kernel_rfl) ?_
      refine ow_end rfl ?_
      refine ew_then ?_
      refine cw_ret ?_
      refine ew_blk_ret ?_
      refine ew_then_ret ?_
      have hR := Option.some.inj hF
      subst hR
      have hR := hK21
      try dsimp only [Thru] at hR
      subst hR
      exact fin2 (H1 := [imm I, pt b0 #[.pointer (some ⟨b1, 0, none⟩), .int .i64 m0.boot_, .int .i64 m0.n_] 75, pt b1 #[.slice p0 m1.sure_.length c0, .map (some p1), .bool m1.off_, .bool m1.armed_, .int .i64 m1.left_, .int .u64 m1.fall_.Keep, .int .i64 m1.fall_.Tear, .int .i64 m1.acts_, .int .i64 m1.falls_] 52, own e_disk_sector 55 p0 c0 m1.sure_, mpo (kInt .i64) (fun x : disk_sector => Value.agg #[.string x.s_, .int .i64 x.at_]) p1 m1.wait_]) (fun w hs => sat_to [0, 3, 0, 0, 0] 0 rfl hs) rfl (rr_tmp rfl) (rr_tmp rfl) (.inl ⟨rfl, rfl, rfl⟩)
    refine cw_cond_f rfl rfl h38 ?_
    refine cw_skip ?_
    refine ew_blk ?_
    have hR := Option.some.inj hF
    exact fun a w hf hs => ⟨hR, hf.keep [0, 1, 2], sat_to [0, 0, 2, 0, 0] 0 rfl hs⟩
  rintro a w ⟨hv, hf, hs⟩
  subst hv
  replace hF := hK21
  clear hK21
  try dsimp only [Thru] at hF
  revert a w
  show CW _ _ _ 44 [(0, .pointer (some ⟨b0, 0, none⟩)), (1, .int .i64 x1), (2, .int .i64 x2)] (SAT w0 ([imm I, pt b1 #[.slice p0 m1.sure_.length c0, .map (some p1), .bool m1.off_, .bool m1.armed_, .int .i64 m1.left_, .int .u64 m1.fall_.Keep, .int .i64 m1.fall_.Tear, .int .i64 m1.acts_, .int .i64 m1.falls_] 52, pt b0 #[.pointer (some ⟨b1, 0, none⟩), .int .i64 m0.boot_, .int .i64 m0.n_] 75, own e_disk_sector 55 p0 c0 m1.sure_, mpo (kInt .i64) (fun x : disk_sector => Value.agg #[.string x.s_, .int .i64 x.at_]) p1 m1.wait_] ++ F0))
  unfold F.keyring_New.r2 at hF
  refine cw_seq ?_
  refine cw_region ?_
  refine ow_vals 4 (j := 4) [42] [(42, .agg #[.pointer (some ⟨b0, 0, none⟩), .int .i64 x1, .int .i64 x2, .int .i64 0])] rfl (by kernel_rfl) ?_
  refine ow_pw rfl (pw_box (cs := #[.pointer (some ⟨b0, 0, none⟩), .int .i64 x1, .int .i64 x2, .int .i64 0]) rfl rfl rfl rfl rfl rfl fun b39 => nw_ow ?_)
  refine ow_vals 2 (j := 7) [6, 7] [(6, .pointer (some ⟨b39, 0, none⟩)), (7, .int .i64 0)] rfl (by kernel_rfl) ?_
  refine ow_end rfl ?_
  refine ew_then ?_
  refine cw_ret ?_
  have hR := Option.some.inj hF
  subst hR
  exact fin2 (H1 := [imm I, pt b0 #[.pointer (some ⟨b1, 0, none⟩), .int .i64 m0.boot_, .int .i64 m0.n_] 75, pt b1 #[.slice p0 m1.sure_.length c0, .map (some p1), .bool m1.off_, .bool m1.armed_, .int .i64 m1.left_, .int .u64 m1.fall_.Keep, .int .i64 m1.fall_.Tear, .int .i64 m1.acts_, .int .i64 m1.falls_] 52, pt b39 #[.pointer (some ⟨b0, 0, none⟩), .int .i64 (⟨x1, x2, 0⟩ : keyring_Ring).base_, .int .i64 (⟨x1, x2, 0⟩ : keyring_Ring).slots_, .int .i64 (⟨x1, x2, 0⟩ : keyring_Ring).shred_] 78, own e_disk_sector 55 p0 c0 m1.sure_, mpo (kInt .i64) (fun x : disk_sector => Value.agg #[.string x.s_, .int .i64 x.at_]) p1 m1.wait_]) (fun w hs => sat_to [1, 2, 1, 0, 0, 0] 0 rfl hs) rfl (rr_tmp rfl) (rr_tmp rfl) (.inr ⟨(⟨x1, x2, 0⟩ : keyring_Ring), b39, rfl, rfl, rfl⟩)


def F.law13_made (x1 : Int) (m0 : disk_Disk) : Option (Option (keyring_Ring × guard_Guard)) :=
  Option.bind (F.guard_New x1 m0) (fun (r21 : (Option guard_Guard) × Int) => optC r21.1 (some (none)) (fun (r21_s1 : guard_Guard) => Option.bind (F.keyring_New 5 8 r21_s1 m0) (fun (r24 : (Option keyring_Ring) × Int) => optC r24.1 (if r24.2 != 0 then (some (none)) else (some (none))) (fun (r24_s1 : keyring_Ring) => some ((some (r24_s1, r21_s1)))))))
set_option maxRecDepth 100000 in
set_option maxHeartbeats 4000000 in
theorem c_law13_made (I : Hl) (x1 : Int) (m0 : disk_Disk) (p0 : Option Addr) (c0 : Nat) (p1 : Nat) (b0 : Nat) (res : (Option (keyring_Ring × guard_Guard))) (hF : F.law13_made x1 m0 = some res) : Tr Tryz.prog 5 [.pointer (some ⟨b0, 0, none⟩), .int .i64 x1] [imm I, pt b0 #[.slice p0 m0.sure_.length c0, .map (some p1), .bool m0.off_, .bool m0.armed_, .int .i64 m0.left_, .int .u64 m0.fall_.Keep, .int .i64 m0.fall_.Tear, .int .i64 m0.acts_, .int .i64 m0.falls_] 52, own e_disk_sector 55 p0 c0 m0.sure_, mpo (kInt .i64) (fun x : disk_sector => Value.agg #[.string x.s_, .int .i64 x.at_]) p1 m0.wait_] (fun r H' => (res = none ∧ r = .pointer none ∧ H' = [imm I, pt b0 #[.slice p0 m0.sure_.length c0, .map (some p1), .bool m0.off_, .bool m0.armed_, .int .i64 m0.left_, .int .u64 m0.fall_.Keep, .int .i64 m0.fall_.Tear, .int .i64 m0.acts_, .int .i64 m0.falls_] 52, own e_disk_sector 55 p0 c0 m0.sure_, mpo (kInt .i64) (fun x : disk_sector => Value.agg #[.string x.s_, .int .i64 x.at_]) p1 m0.wait_]) ∨ (∃ (sq1 : (keyring_Ring × guard_Guard)), ∃ (bq2 : Nat), ∃ (bq4 : Nat), res = some sq1 ∧ r = .pointer (some ⟨bq2, 0, none⟩) ∧ H' = [imm I, pt b0 #[.slice p0 m0.sure_.length c0, .map (some p1), .bool m0.off_, .bool m0.armed_, .int .i64 m0.left_, .int .u64 m0.fall_.Keep, .int .i64 m0.fall_.Tear, .int .i64 m0.acts_, .int .i64 m0.falls_] 52, pt bq4 #[.pointer (some ⟨b0, 0, none⟩), .int .i64 sq1.2.boot_, .int .i64 sq1.2.n_] 75, pt bq2 #[.pointer (some ⟨bq4, 0, none⟩), .int .i64 sq1.1.base_, .int .i64 sq1.1.slots_, .int .i64 sq1.1.shred_] 78, own e_disk_sector 55 p0 c0 m0.sure_, mpo (kInt .i64) (fun x : disk_sector => Value.agg #[.string x.s_, .int .i64 x.at_]) p1 m0.wait_])) := by
  unfold F.law13_made at hF
  refine tr_of_cw (fn := Tryz.f5) Tryz.func5 rfl (Nat.le_of_ble_eq_true rfl) 25 rfl fun F0 w0 => ?_
  refine cw_keep [0, 1] (L' := [(0, .pointer (some ⟨b0, 0, none⟩)), (1, .int .i64 x1)]) rfl ?_
  refine cw_state (S' := SAT w0 ([imm I, pt b0 #[.slice p0 m0.sure_.length c0, .map (some p1), .bool m0.off_, .bool m0.armed_, .int .i64 m0.left_, .int .u64 m0.fall_.Keep, .int .i64 m0.fall_.Tear, .int .i64 m0.acts_, .int .i64 m0.falls_] 52, own e_disk_sector 55 p0 c0 m0.sure_, mpo (kInt .i64) (fun x : disk_sector => Value.agg #[.string x.s_, .int .i64 x.at_]) p1 m0.wait_] ++ F0)) (fun w hs => hs) ?_
  refine cw_seq ?_
  refine cw_region ?_
  refine ow_vals 1 (j := 1) [0, 1] [(0, .pointer (some ⟨b0, 0, none⟩)), (1, .int .i64 x1)] rfl (by kernel_rfl) ?_
  refine ow_end rfl ?_
  refine ew_then ?_
  refine cw_seq ?_
  refine cw_region ?_
  refine ow_vals 2 (j := 2) [10, 11] [(10, .pointer (some ⟨b0, 0, none⟩)), (11, .int .i64 x1)] rfl (by kernel_rfl) ?_
  obtain ⟨r21, h22, hF⟩ := bind_some hF
  refine ow_pw rfl (pw_call (F := [] ++ F0) rfl rfl rfl rfl rfl rfl rfl (by kernel_rfl) (perm_of_pulls [0, 0, 0, 0] rfl) (c_guard_New _ x1 m0 p0 c0 p1 b0 r21 h22) ?_)
  rintro _ _ (⟨hO, rfl, rfl⟩ | ⟨r21_s1, r21_b2, hO, rfl, rfl⟩)
  · rw [hO] at hF
    try dsimp only [optC] at hF
    refine nw_H (H' := [imm I, pt b0 #[.slice p0 m0.sure_.length c0, .map (some p1), .bool m0.off_, .bool m0.armed_, .int .i64 m0.left_, .int .u64 m0.fall_.Keep, .int .i64 m0.fall_.Tear, .int .i64 m0.acts_, .int .i64 m0.falls_] 52, own e_disk_sector 55 p0 c0 m0.sure_, mpo (kInt .i64) (fun x : disk_sector => Value.agg #[.string x.s_, .int .i64 x.at_]) p1 m0.wait_] ++ F0) rfl (nw_ow ?_)
    refine ow_vals 5 (j := 8) [5, 6] [(5, .pointer none), (6, .int .i64 1)] rfl (by kernel_rfl) ?_
    refine ow_end rfl ?_
    refine ew_then ?_
    refine cw_seq ?_
    refine cw_seq ?_
    refine cw_region ?_
    refine ow_vals 2 (j := 2) [5, 16] [(5, .pointer none), (16, .bool true)] rfl (by kernel_rfl) ?_
    refine ow_end rfl ?_
    refine ew_then ?_
    refine cw_cond_t rfl rfl rfl ?_
    refine cw_seq ?_
    refine cw_region ?_
    refine ow_vals 1 (j := 1) [4] [(4, .pointer none)] rfl (by kernel_rfl) ?_
    refine ow_end rfl ?_
    refine ew_then ?_
    refine cw_ret ?_
    refine ew_then_ret ?_
    have hR := Option.some.inj hF
    subst hR
    exact fin1 (H1 := [imm I, pt b0 #[.slice p0 m0.sure_.length c0, .map (some p1), .bool m0.off_, .bool m0.armed_, .int .i64 m0.left_, .int .u64 m0.fall_.Keep, .int .i64 m0.fall_.Tear, .int .i64 m0.acts_, .int .i64 m0.falls_] 52, own e_disk_sector 55 p0 c0 m0.sure_, mpo (kInt .i64) (fun x : disk_sector => Value.agg #[.string x.s_, .int .i64 x.at_]) p1 m0.wait_]) (fun w hs => sat_to [0, 0, 0, 0] 0 rfl hs) rfl (rr_tmp rfl) (.inl ⟨rfl, rfl, rfl⟩)
  rw [hO] at hF
  try dsimp only [optC] at hF
  refine nw_H (H' := [imm I, pt b0 #[.slice p0 m0.sure_.length c0, .map (some p1), .bool m0.off_, .bool m0.armed_, .int .i64 m0.left_, .int .u64 m0.fall_.Keep, .int .i64 m0.fall_.Tear, .int .i64 m0.acts_, .int .i64 m0.falls_] 52, pt r21_b2 #[.pointer (some ⟨b0, 0, none⟩), .int .i64 r21_s1.boot_, .int .i64 r21_s1.n_] 75, own e_disk_sector 55 p0 c0 m0.sure_, mpo (kInt .i64) (fun x : disk_sector => Value.agg #[.string x.s_, .int .i64 x.at_]) p1 m0.wait_] ++ F0) rfl (nw_ow ?_)
  refine ow_vals 5 (j := 8) [5, 6] [(5, .pointer (some ⟨r21_b2, 0, none⟩)), (6, .int .i64 0)] rfl (by kernel_rfl) ?_
  refine ow_end rfl ?_
  refine ew_then ?_
  refine cw_seq ?_
  refine cw_seq ?_
  refine cw_region ?_
  refine ow_vals 2 (j := 2) [5, 16] [(5, .pointer (some ⟨r21_b2, 0, none⟩)), (16, .bool false)] rfl (by kernel_rfl) ?_
  refine ow_end rfl ?_
  refine ew_then ?_
  refine cw_cond_f rfl rfl rfl ?_
  refine cw_skip ?_
  refine ew_then ?_
  refine cw_seq ?_
  refine cw_region ?_
  refine ow_vals 1 (j := 1) [18] [(18, .pointer (some ⟨r21_b2, 0, none⟩))] rfl (by kernel_rfl) ?_
  obtain ⟨r24, h25, hF⟩ := bind_some hF
  refine ow_pw rfl (pw_call (F := [] ++ F0) rfl rfl rfl rfl rfl rfl rfl (by kernel_rfl) (perm_of_pulls [0, 1, 0, 0, 0] rfl) (c_keyring_New _ 5 8 r21_s1 m0 r21_b2 p0 c0 p1 b0 r24 h25) ?_)
  rintro _ _ (⟨hO, rfl, rfl⟩ | ⟨r24_s1, r24_b2, hO, rfl, rfl⟩)
  · rw [hO] at hF
    try dsimp only [optC] at hF
    refine nw_H (H' := [imm I, pt r21_b2 #[.pointer (some ⟨b0, 0, none⟩), .int .i64 r21_s1.boot_, .int .i64 r21_s1.n_] 75, pt b0 #[.slice p0 m0.sure_.length c0, .map (some p1), .bool m0.off_, .bool m0.armed_, .int .i64 m0.left_, .int .u64 m0.fall_.Keep, .int .i64 m0.fall_.Tear, .int .i64 m0.acts_, .int .i64 m0.falls_] 52, own e_disk_sector 55 p0 c0 m0.sure_, mpo (kInt .i64) (fun x : disk_sector => Value.agg #[.string x.s_, .int .i64 x.at_]) p1 m0.wait_] ++ F0) rfl (nw_ow ?_)
    refine ow_vals 5 (j := 7) [7, 8] [(7, .pointer none), (8, .int .i64 r24.2)] rfl (by kernel_rfl) ?_
    refine ow_end rfl ?_
    refine ew_then ?_
    refine cw_seq ?_
    refine cw_seq ?_
    refine cw_region ?_
    refine ow_vals 2 (j := 2) [7, 23] [(7, .pointer none), (23, .bool (r24.2 != 0))] rfl (by kernel_rfl) ?_
    refine ow_end rfl ?_
    refine ew_then ?_
    rcases if_some hF with ⟨h27, hF⟩ | ⟨h27, hF⟩
    · refine cw_cond_t rfl rfl h27 ?_
      refine cw_seq ?_
      refine cw_region ?_
      refine ow_vals 1 (j := 1) [4] [(4, .pointer none)] rfl (by kernel_rfl) ?_
      refine ow_end rfl ?_
      refine ew_then ?_
      refine cw_ret ?_
      refine ew_then_ret ?_
      have hR := Option.some.inj hF
      subst hR
      exact fin1 (H1 := [imm I, pt b0 #[.slice p0 m0.sure_.length c0, .map (some p1), .bool m0.off_, .bool m0.armed_, .int .i64 m0.left_, .int .u64 m0.fall_.Keep, .int .i64 m0.fall_.Tear, .int .i64 m0.acts_, .int .i64 m0.falls_] 52, own e_disk_sector 55 p0 c0 m0.sure_, mpo (kInt .i64) (fun x : disk_sector => Value.agg #[.string x.s_, .int .i64 x.at_]) p1 m0.wait_]) (fun w hs => sat_to [1, 0, 0, 0, 0] 1 rfl hs) rfl (rr_tmp rfl) (.inl ⟨rfl, rfl, rfl⟩)
    refine cw_cond_f rfl rfl h27 ?_
    refine cw_skip ?_
    refine ew_then ?_
    refine cw_seq ?_
    refine cw_region ?_
    refine ow_vals 2 (j := 2) [4] [(4, .pointer none)] rfl (by kernel_rfl) ?_
    refine ow_end rfl ?_
    refine ew_then ?_
    refine cw_ret ?_
    have hR := Option.some.inj hF
    subst hR
    exact fin1 (H1 := [imm I, pt b0 #[.slice p0 m0.sure_.length c0, .map (some p1), .bool m0.off_, .bool m0.armed_, .int .i64 m0.left_, .int .u64 m0.fall_.Keep, .int .i64 m0.fall_.Tear, .int .i64 m0.acts_, .int .i64 m0.falls_] 52, own e_disk_sector 55 p0 c0 m0.sure_, mpo (kInt .i64) (fun x : disk_sector => Value.agg #[.string x.s_, .int .i64 x.at_]) p1 m0.wait_]) (fun w hs => sat_to [1, 0, 0, 0, 0] 1 rfl hs) rfl (rr_tmp rfl) (.inl ⟨rfl, rfl, rfl⟩)
  rw [hO] at hF
  try dsimp only [optC] at hF
  refine nw_H (H' := [imm I, pt r21_b2 #[.pointer (some ⟨b0, 0, none⟩), .int .i64 r21_s1.boot_, .int .i64 r21_s1.n_] 75, pt b0 #[.slice p0 m0.sure_.length c0, .map (some p1), .bool m0.off_, .bool m0.armed_, .int .i64 m0.left_, .int .u64 m0.fall_.Keep, .int .i64 m0.fall_.Tear, .int .i64 m0.acts_, .int .i64 m0.falls_] 52, pt r24_b2 #[.pointer (some ⟨r21_b2, 0, none⟩), .int .i64 r24_s1.base_, .int .i64 r24_s1.slots_, .int .i64 r24_s1.shred_] 78, own e_disk_sector 55 p0 c0 m0.sure_, mpo (kInt .i64) (fun x : disk_sector => Value.agg #[.string x.s_, .int .i64 x.at_]) p1 m0.wait_] ++ F0) rfl (nw_ow ?_)
  refine ow_vals 5 (j := 7) [7, 8] [(7, .pointer (some ⟨r24_b2, 0, none⟩)), (8, .int .i64 0)] rfl (by kernel_rfl) ?_
  refine ow_end rfl ?_
  refine ew_then ?_
  refine cw_seq ?_
  refine cw_seq ?_
  refine cw_region ?_
  refine ow_vals 2 (j := 2) [7, 23] [(7, .pointer (some ⟨r24_b2, 0, none⟩)), (23, .bool false)] rfl (by kernel_rfl) ?_
  refine ow_end rfl ?_
  refine ew_then ?_
  refine cw_cond_f rfl rfl rfl ?_
  refine cw_skip ?_
  refine ew_then ?_
  refine cw_seq ?_
  refine cw_region ?_
  refine ow_vals 2 (j := 2) [4] [(4, .pointer (some ⟨r24_b2, 0, none⟩))] rfl (by kernel_rfl) ?_
  refine ow_end rfl ?_
  refine ew_then ?_
  refine cw_ret ?_
  have hR := Option.some.inj hF
  subst hR
  exact fin1 (H1 := [imm I, pt b0 #[.slice p0 m0.sure_.length c0, .map (some p1), .bool m0.off_, .bool m0.armed_, .int .i64 m0.left_, .int .u64 m0.fall_.Keep, .int .i64 m0.fall_.Tear, .int .i64 m0.acts_, .int .i64 m0.falls_] 52, pt r21_b2 #[.pointer (some ⟨b0, 0, none⟩), .int .i64 (r24_s1, r21_s1).2.boot_, .int .i64 (r24_s1, r21_s1).2.n_] 75, pt r24_b2 #[.pointer (some ⟨r21_b2, 0, none⟩), .int .i64 (r24_s1, r21_s1).1.base_, .int .i64 (r24_s1, r21_s1).1.slots_, .int .i64 (r24_s1, r21_s1).1.shred_] 78, own e_disk_sector 55 p0 c0 m0.sure_, mpo (kInt .i64) (fun x : disk_sector => Value.agg #[.string x.s_, .int .i64 x.at_]) p1 m0.wait_]) (fun w hs => sat_to [0, 1, 0, 0, 0, 0] 0 rfl hs) rfl (rr_tmp rfl) (.inr ⟨(r24_s1, r21_s1), r24_b2, r21_b2, rfl, rfl, rfl⟩)


def F.keyring_Ring_why.r1 (x1 : Int) (m0 : keyring_Ring) : Option (Int) :=
  if decide (x1 < 0) then (some (5)) else (if decide (x1 ≥ m0.slots_) then (some (5)) else (some (0)))
def F.keyring_Ring_why (x1 : Int) (m0 : keyring_Ring) (m1 : guard_Guard) (m2 : disk_Disk) : Option Int :=
  Option.bind (some (())) (fun x => F.keyring_Ring_why.r1 x1 m0)
set_option maxRecDepth 100000 in
set_option maxHeartbeats 4000000 in
theorem c_keyring_Ring_why (I : Hl) (x1 : Int) (m0 : keyring_Ring) (m1 : guard_Guard) (m2 : disk_Disk) (b0 : Nat) (b1 : Nat) (p0 : Option Addr) (c0 : Nat) (p1 : Nat) (b2 : Nat) (res : Int) (hF : F.keyring_Ring_why x1 m0 m1 m2 = some res) : Tr Tryz.prog 34 [.pointer (some ⟨b0, 0, none⟩), .int .i64 x1] [imm I, pt b0 #[.pointer (some ⟨b1, 0, none⟩), .int .i64 m0.base_, .int .i64 m0.slots_, .int .i64 m0.shred_] 78, pt b1 #[.pointer (some ⟨b2, 0, none⟩), .int .i64 m1.boot_, .int .i64 m1.n_] 75, pt b2 #[.slice p0 m2.sure_.length c0, .map (some p1), .bool m2.off_, .bool m2.armed_, .int .i64 m2.left_, .int .u64 m2.fall_.Keep, .int .i64 m2.fall_.Tear, .int .i64 m2.acts_, .int .i64 m2.falls_] 52, own e_disk_sector 55 p0 c0 m2.sure_, mpo (kInt .i64) (fun x : disk_sector => Value.agg #[.string x.s_, .int .i64 x.at_]) p1 m2.wait_] (fun r H' => r = .int .i64 res ∧ H' = [imm I, pt b0 #[.pointer (some ⟨b1, 0, none⟩), .int .i64 m0.base_, .int .i64 m0.slots_, .int .i64 m0.shred_] 78, pt b1 #[.pointer (some ⟨b2, 0, none⟩), .int .i64 m1.boot_, .int .i64 m1.n_] 75, pt b2 #[.slice p0 m2.sure_.length c0, .map (some p1), .bool m2.off_, .bool m2.armed_, .int .i64 m2.left_, .int .u64 m2.fall_.Keep, .int .i64 m2.fall_.Tear, .int .i64 m2.acts_, .int .i64 m2.falls_] 52, own e_disk_sector 55 p0 c0 m2.sure_, mpo (kInt .i64) (fun x : disk_sector => Value.agg #[.string x.s_, .int .i64 x.at_]) p1 m2.wait_]) := by
  unfold F.keyring_Ring_why at hF
  refine tr_of_cw (fn := Tryz.f34) Tryz.func34 rfl (Nat.le_of_ble_eq_true rfl) 26 rfl fun F0 w0 => ?_
  refine cw_keep [0, 1] (L' := [(0, .pointer (some ⟨b0, 0, none⟩)), (1, .int .i64 x1)]) rfl ?_
  refine cw_state (S' := SAT w0 ([imm I, pt b0 #[.pointer (some ⟨b1, 0, none⟩), .int .i64 m0.base_, .int .i64 m0.slots_, .int .i64 m0.shred_] 78, pt b1 #[.pointer (some ⟨b2, 0, none⟩), .int .i64 m1.boot_, .int .i64 m1.n_] 75, pt b2 #[.slice p0 m2.sure_.length c0, .map (some p1), .bool m2.off_, .bool m2.armed_, .int .i64 m2.left_, .int .u64 m2.fall_.Keep, .int .i64 m2.fall_.Tear, .int .i64 m2.acts_, .int .i64 m2.falls_] 52, own e_disk_sector 55 p0 c0 m2.sure_, mpo (kInt .i64) (fun x : disk_sector => Value.agg #[.string x.s_, .int .i64 x.at_]) p1 m2.wait_] ++ F0)) (fun w hs => hs) ?_
  refine cw_seq ?_
  refine cw_region ?_
  refine ow_vals 1 (j := 1) [0, 1] [(0, .pointer (some ⟨b0, 0, none⟩)), (1, .int .i64 x1)] rfl (by kernel_rfl) ?_
  refine ow_end rfl ?_
  refine ew_then ?_
  refine cw_seq ?_
  refine cw_block ?_
  obtain ⟨v21, hF, hK21⟩ := bind_some hF
  refine cw_mid (fun a w => () = v21 ∧ Fr 26 [(0, .pointer (some ⟨b0, 0, none⟩)), (1, .int .i64 x1), (5, .bool false)] a ∧ SAT w0 ([imm I, pt b0 #[.pointer (some ⟨b1, 0, none⟩), .int .i64 m0.base_, .int .i64 m0.slots_, .int .i64 m0.shred_] 78, pt b1 #[.pointer (some ⟨b2, 0, none⟩), .int .i64 m1.boot_, .int .i64 m1.n_] 75, pt b2 #[.slice p0 m2.sure_.length c0, .map (some p1), .bool m2.off_, .bool m2.armed_, .int .i64 m2.left_, .int .u64 m2.fall_.Keep, .int .i64 m2.fall_.Tear, .int .i64 m2.acts_, .int .i64 m2.falls_] 52, own e_disk_sector 55 p0 c0 m2.sure_, mpo (kInt .i64) (fun x : disk_sector => Value.agg #[.string x.s_, .int .i64 x.at_]) p1 m2.wait_] ++ F0) w) ?_ ?_
  · refine cw_region ?_
    refine ow_vals 6 (j := 6) [0, 1, 8, 11] [(0, .pointer (some ⟨b0, 0, none⟩)), (1, .int .i64 x1), (8, .bool false), (11, .pointer (some ⟨b0, 0, none⟩))] rfl (by kernel_rfl) ?_
    refine ow_pw rfl (pw_quiet (v := .pointer (some ⟨b1, 0, none⟩)) rfl rfl rfl rfl (q_load 1 rfl rfl rfl (by kernel_rfl)) (nw_ow ?_))
    refine ow_vals 3 (j := 10) [0, 1, 5] [(0, .pointer (some ⟨b0, 0, none⟩)), (1, .int .i64 x1), (5, .bool false)] rfl (by kernel_rfl) ?_
    refine ow_end rfl ?_
    have hR := Option.some.inj hF
    exact fun a w hf hs => ⟨hR, hf.keep [0, 1, 5], sat_to [0, 0, 0, 0, 0, 0] 0 rfl hs⟩
  rintro a w ⟨hv, hf, hs⟩
  subst hv
  replace hF := hK21
  clear hK21
  try dsimp only at hF
  revert a w
  show CW _ _ _ 26 [(0, .pointer (some ⟨b0, 0, none⟩)), (1, .int .i64 x1), (5, .bool false)] (SAT w0 ([imm I, pt b0 #[.pointer (some ⟨b1, 0, none⟩), .int .i64 m0.base_, .int .i64 m0.slots_, .int .i64 m0.shred_] 78, pt b1 #[.pointer (some ⟨b2, 0, none⟩), .int .i64 m1.boot_, .int .i64 m1.n_] 75, pt b2 #[.slice p0 m2.sure_.length c0, .map (some p1), .bool m2.off_, .bool m2.armed_, .int .i64 m2.left_, .int .u64 m2.fall_.Keep, .int .i64 m2.fall_.Tear, .int .i64 m2.acts_, .int .i64 m2.falls_] 52, own e_disk_sector 55 p0 c0 m2.sure_, mpo (kInt .i64) (fun x : disk_sector => Value.agg #[.string x.s_, .int .i64 x.at_]) p1 m2.wait_] ++ F0))
  unfold F.keyring_Ring_why.r1 at hF
  refine cw_cond_f rfl rfl rfl ?_
  refine cw_seq ?_
  refine cw_region ?_
  refine ow_vals 3 (j := 3) [0, 1, 18] [(0, .pointer (some ⟨b0, 0, none⟩)), (1, .int .i64 x1), (18, .bool (decide (x1 < 0)))] rfl (by kernel_rfl) ?_
  rcases if_some hF with ⟨h22, hF⟩ | ⟨h22, hF⟩
  · refine ow_slots (L' := [(0, .pointer (some ⟨b0, 0, none⟩)), (1, .int .i64 x1), (18, .bool true)]) (by rw [h22]) ?_
    refine ow_vals 8 (j := 11) [15] [(15, .bool true)] rfl (by kernel_rfl) ?_
    refine ow_end rfl ?_
    refine ew_then ?_
    refine cw_cond_t rfl rfl rfl ?_
    refine cw_seq ?_
    refine cw_region ?_
    refine ow_vals 1 (j := 1) [4] [(4, .int .i64 5)] rfl (by kernel_rfl) ?_
    refine ow_end rfl ?_
    refine ew_then ?_
    refine cw_ret ?_
    refine ew_blk_ret ?_
    refine ew_then_ret ?_
    have hR := Option.some.inj hF
    subst hR
    exact fin1 (H1 := [imm I, pt b0 #[.pointer (some ⟨b1, 0, none⟩), .int .i64 m0.base_, .int .i64 m0.slots_, .int .i64 m0.shred_] 78, pt b1 #[.pointer (some ⟨b2, 0, none⟩), .int .i64 m1.boot_, .int .i64 m1.n_] 75, pt b2 #[.slice p0 m2.sure_.length c0, .map (some p1), .bool m2.off_, .bool m2.armed_, .int .i64 m2.left_, .int .u64 m2.fall_.Keep, .int .i64 m2.fall_.Tear, .int .i64 m2.acts_, .int .i64 m2.falls_] 52, own e_disk_sector 55 p0 c0 m2.sure_, mpo (kInt .i64) (fun x : disk_sector => Value.agg #[.string x.s_, .int .i64 x.at_]) p1 m2.wait_]) (fun w hs => sat_to [0, 0, 0, 0, 0, 0] 0 rfl hs) rfl (rr_tmp rfl) ⟨rfl, rfl⟩
  refine ow_slots (L' := [(0, .pointer (some ⟨b0, 0, none⟩)), (1, .int .i64 x1), (18, .bool false)]) (by rw [h22]) ?_
  refine ow_vals 4 (j := 7) [18, 19, 22] [(18, .bool false), (19, .int .i64 x1), (22, .pointer (some ⟨b0, 2, none⟩))] rfl (by kernel_rfl) ?_
  refine ow_pw rfl (pw_quiet (v := .int .i64 m0.slots_) rfl rfl rfl rfl (q_load 1 rfl rfl rfl (by kernel_rfl)) (nw_ow ?_))
  refine ow_vals 3 (j := 11) [15] [(15, .bool (decide (x1 ≥ m0.slots_)))] rfl (by kernel_rfl) ?_
  refine ow_end rfl ?_
  refine ew_then ?_
  rcases if_some hF with ⟨h23, hF⟩ | ⟨h23, hF⟩
  · refine cw_cond_t rfl rfl h23 ?_
    refine cw_seq ?_
    refine cw_region ?_
    refine ow_vals 1 (j := 1) [4] [(4, .int .i64 5)] rfl (by kernel_rfl) ?_
    refine ow_end rfl ?_
    refine ew_then ?_
    refine cw_ret ?_
    refine ew_blk_ret ?_
    refine ew_then_ret ?_
    have hR := Option.some.inj hF
    subst hR
    exact fin1 (H1 := [imm I, pt b0 #[.pointer (some ⟨b1, 0, none⟩), .int .i64 m0.base_, .int .i64 m0.slots_, .int .i64 m0.shred_] 78, pt b1 #[.pointer (some ⟨b2, 0, none⟩), .int .i64 m1.boot_, .int .i64 m1.n_] 75, pt b2 #[.slice p0 m2.sure_.length c0, .map (some p1), .bool m2.off_, .bool m2.armed_, .int .i64 m2.left_, .int .u64 m2.fall_.Keep, .int .i64 m2.fall_.Tear, .int .i64 m2.acts_, .int .i64 m2.falls_] 52, own e_disk_sector 55 p0 c0 m2.sure_, mpo (kInt .i64) (fun x : disk_sector => Value.agg #[.string x.s_, .int .i64 x.at_]) p1 m2.wait_]) (fun w hs => sat_to [0, 0, 0, 0, 0, 0] 0 rfl hs) rfl (rr_tmp rfl) ⟨rfl, rfl⟩
  refine cw_cond_f rfl rfl h23 ?_
  refine cw_skip ?_
  refine ew_blk ?_
  refine ew_then ?_
  refine cw_seq ?_
  refine cw_region ?_
  refine ow_vals 1 (j := 1) [4] [(4, .int .i64 0)] rfl (by kernel_rfl) ?_
  refine ow_end rfl ?_
  refine ew_then ?_
  refine cw_ret ?_
  have hR := Option.some.inj hF
  subst hR
  exact fin1 (H1 := [imm I, pt b0 #[.pointer (some ⟨b1, 0, none⟩), .int .i64 m0.base_, .int .i64 m0.slots_, .int .i64 m0.shred_] 78, pt b1 #[.pointer (some ⟨b2, 0, none⟩), .int .i64 m1.boot_, .int .i64 m1.n_] 75, pt b2 #[.slice p0 m2.sure_.length c0, .map (some p1), .bool m2.off_, .bool m2.armed_, .int .i64 m2.left_, .int .u64 m2.fall_.Keep, .int .i64 m2.fall_.Tear, .int .i64 m2.acts_, .int .i64 m2.falls_] 52, own e_disk_sector 55 p0 c0 m2.sure_, mpo (kInt .i64) (fun x : disk_sector => Value.agg #[.string x.s_, .int .i64 x.at_]) p1 m2.wait_]) (fun w hs => sat_to [0, 0, 0, 0, 0, 0] 0 rfl hs) rfl (rr_tmp rfl) ⟨rfl, rfl⟩


def F.disk_Disk_why (x1 : Int) (m0 : disk_Disk) : Option Int :=
  Option.bind (F.disk_Disk_Size m0) (fun (r21 : Int) => if r21 == 0 then (some (9)) else (if m0.off_ then (some (8)) else (if decide (x1 < 0) then (some (5)) else (if decide (x1 ≥ (m0.sure_.length : Int)) then (some (5)) else (some (0))))))
set_option maxRecDepth 100000 in
set_option maxHeartbeats 4000000 in
theorem c_disk_Disk_why (I : Hl) (x1 : Int) (m0 : disk_Disk) (p0 : Option Addr) (c0 : Nat) (p1 : Nat) (b0 : Nat) (res : Int) (hF : F.disk_Disk_why x1 m0 = some res) : Tr Tryz.prog 26 [.pointer (some ⟨b0, 0, none⟩), .int .i64 x1] [imm I, pt b0 #[.slice p0 m0.sure_.length c0, .map (some p1), .bool m0.off_, .bool m0.armed_, .int .i64 m0.left_, .int .u64 m0.fall_.Keep, .int .i64 m0.fall_.Tear, .int .i64 m0.acts_, .int .i64 m0.falls_] 52, own e_disk_sector 55 p0 c0 m0.sure_, mpo (kInt .i64) (fun x : disk_sector => Value.agg #[.string x.s_, .int .i64 x.at_]) p1 m0.wait_] (fun r H' => r = .int .i64 res ∧ H' = [imm I, pt b0 #[.slice p0 m0.sure_.length c0, .map (some p1), .bool m0.off_, .bool m0.armed_, .int .i64 m0.left_, .int .u64 m0.fall_.Keep, .int .i64 m0.fall_.Tear, .int .i64 m0.acts_, .int .i64 m0.falls_] 52, own e_disk_sector 55 p0 c0 m0.sure_, mpo (kInt .i64) (fun x : disk_sector => Value.agg #[.string x.s_, .int .i64 x.at_]) p1 m0.wait_]) := by
  unfold F.disk_Disk_why at hF
  refine tr_of_cw (fn := Tryz.f26) Tryz.func26 rfl (Nat.le_of_ble_eq_true rfl) 26 rfl fun F0 w0 => ?_
  refine cw_keep [0, 1] (L' := [(0, .pointer (some ⟨b0, 0, none⟩)), (1, .int .i64 x1)]) rfl ?_
  refine cw_state (S' := SAT w0 ([imm I, pt b0 #[.slice p0 m0.sure_.length c0, .map (some p1), .bool m0.off_, .bool m0.armed_, .int .i64 m0.left_, .int .u64 m0.fall_.Keep, .int .i64 m0.fall_.Tear, .int .i64 m0.acts_, .int .i64 m0.falls_] 52, own e_disk_sector 55 p0 c0 m0.sure_, mpo (kInt .i64) (fun x : disk_sector => Value.agg #[.string x.s_, .int .i64 x.at_]) p1 m0.wait_] ++ F0)) (fun w hs => hs) ?_
  refine cw_seq ?_
  refine cw_region ?_
  refine ow_vals 1 (j := 1) [0, 1] [(0, .pointer (some ⟨b0, 0, none⟩)), (1, .int .i64 x1)] rfl (by kernel_rfl) ?_
  refine ow_end rfl ?_
  refine ew_then ?_
  refine cw_seq ?_
  refine cw_block ?_
  refine cw_seq ?_
  refine cw_region ?_
  refine ow_vals 1 (j := 1) [0, 1, 6] [(0, .pointer (some ⟨b0, 0, none⟩)), (1, .int .i64 x1), (6, .pointer (some ⟨b0, 0, none⟩))] rfl (by kernel_rfl) ?_
  obtain ⟨r21, h22, hF⟩ := bind_some hF
  refine ow_pw rfl (pw_call (F := [] ++ F0) rfl rfl rfl rfl rfl rfl rfl (by kernel_rfl) (perm_of_pulls [0, 0, 0, 0] rfl) (c_disk_Disk_Size _ m0 p0 c0 p1 b0 r21 h22) ?_)
  rintro _ _ ⟨rfl, rfl⟩
  refine nw_H (H' := [imm I, pt b0 #[.slice p0 m0.sure_.length c0, .map (some p1), .bool m0.off_, .bool m0.armed_, .int .i64 m0.left_, .int .u64 m0.fall_.Keep, .int .i64 m0.fall_.Tear, .int .i64 m0.acts_, .int .i64 m0.falls_] 52, own e_disk_sector 55 p0 c0 m0.sure_, mpo (kInt .i64) (fun x : disk_sector => Value.agg #[.string x.s_, .int .i64 x.at_]) p1 m0.wait_] ++ F0) rfl (nw_ow ?_)
  refine ow_vals 2 (j := 4) [0, 1, 5] [(0, .pointer (some ⟨b0, 0, none⟩)), (1, .int .i64 x1), (5, .bool (r21 == 0))] rfl (by kernel_rfl) ?_
  refine ow_end rfl ?_
  refine ew_then ?_
  rcases if_some hF with ⟨h23, hF⟩ | ⟨h23, hF⟩
  · refine cw_cond_t rfl rfl h23 ?_
    refine cw_seq ?_
    refine cw_region ?_
    refine ow_vals 1 (j := 1) [4] [(4, .int .i64 9)] rfl (by kernel_rfl) ?_
    refine ow_end rfl ?_
    refine ew_then ?_
    refine cw_ret ?_
    refine ew_blk_ret ?_
    refine ew_then_ret ?_
    have hR := Option.some.inj hF
    subst hR
    exact fin1 (H1 := [imm I, pt b0 #[.slice p0 m0.sure_.length c0, .map (some p1), .bool m0.off_, .bool m0.armed_, .int .i64 m0.left_, .int .u64 m0.fall_.Keep, .int .i64 m0.fall_.Tear, .int .i64 m0.acts_, .int .i64 m0.falls_] 52, own e_disk_sector 55 p0 c0 m0.sure_, mpo (kInt .i64) (fun x : disk_sector => Value.agg #[.string x.s_, .int .i64 x.at_]) p1 m0.wait_]) (fun w hs => sat_to [0, 0, 0, 0] 0 rfl hs) rfl (rr_tmp rfl) ⟨rfl, rfl⟩
  refine cw_cond_f rfl rfl h23 ?_
  refine cw_seq ?_
  refine cw_region ?_
  refine ow_vals 3 (j := 3) [0, 1, 12] [(0, .pointer (some ⟨b0, 0, none⟩)), (1, .int .i64 x1), (12, .pointer (some ⟨b0, 2, none⟩))] rfl (by kernel_rfl) ?_
  refine ow_pw rfl (pw_quiet (v := .bool m0.off_) rfl rfl rfl rfl (q_load 1 rfl rfl rfl (by kernel_rfl)) (nw_ow ?_))
  refine ow_vals 1 (j := 5) [0, 1, 9] [(0, .pointer (some ⟨b0, 0, none⟩)), (1, .int .i64 x1), (9, .bool m0.off_)] rfl (by kernel_rfl) ?_
  refine ow_end rfl ?_
  refine ew_then ?_
  rcases if_some hF with ⟨h24, hF⟩ | ⟨h24, hF⟩
  · refine cw_cond_t rfl rfl h24 ?_
    refine cw_seq ?_
    refine cw_region ?_
    refine ow_vals 1 (j := 1) [4] [(4, .int .i64 8)] rfl (by kernel_rfl) ?_
    refine ow_end rfl ?_
    refine ew_then ?_
    refine cw_ret ?_
    refine ew_blk_ret ?_
    refine ew_then_ret ?_
    have hR := Option.some.inj hF
    subst hR
    exact fin1 (H1 := [imm I, pt b0 #[.slice p0 m0.sure_.length c0, .map (some p1), .bool m0.off_, .bool m0.armed_, .int .i64 m0.left_, .int .u64 m0.fall_.Keep, .int .i64 m0.fall_.Tear, .int .i64 m0.acts_, .int .i64 m0.falls_] 52, own e_disk_sector 55 p0 c0 m0.sure_, mpo (kInt .i64) (fun x : disk_sector => Value.agg #[.string x.s_, .int .i64 x.at_]) p1 m0.wait_]) (fun w hs => sat_to [0, 0, 0, 0] 0 rfl hs) rfl (rr_tmp rfl) ⟨rfl, rfl⟩
  refine cw_cond_f rfl rfl h24 ?_
  refine cw_seq ?_
  refine cw_region ?_
  refine ow_vals 3 (j := 3) [0, 1, 17] [(0, .pointer (some ⟨b0, 0, none⟩)), (1, .int .i64 x1), (17, .bool (decide (x1 < 0)))] rfl (by kernel_rfl) ?_
  rcases if_some hF with ⟨h25, hF⟩ | ⟨h25, hF⟩
  · refine ow_slots (L' := [(0, .pointer (some ⟨b0, 0, none⟩)), (1, .int .i64 x1), (17, .bool true)]) (by rw [h25]) ?_
    refine ow_vals 9 (j := 12) [14] [(14, .bool true)] rfl (by kernel_rfl) ?_
    refine ow_end rfl ?_
    refine ew_then ?_
    refine cw_cond_t rfl rfl rfl ?_
    refine cw_seq ?_
    refine cw_region ?_
    refine ow_vals 1 (j := 1) [4] [(4, .int .i64 5)] rfl (by kernel_rfl) ?_
    refine ow_end rfl ?_
    refine ew_then ?_
    refine cw_ret ?_
    refine ew_blk_ret ?_
    refine ew_then_ret ?_
    have hR := Option.some.inj hF
    subst hR
    exact fin1 (H1 := [imm I, pt b0 #[.slice p0 m0.sure_.length c0, .map (some p1), .bool m0.off_, .bool m0.armed_, .int .i64 m0.left_, .int .u64 m0.fall_.Keep, .int .i64 m0.fall_.Tear, .int .i64 m0.acts_, .int .i64 m0.falls_] 52, own e_disk_sector 55 p0 c0 m0.sure_, mpo (kInt .i64) (fun x : disk_sector => Value.agg #[.string x.s_, .int .i64 x.at_]) p1 m0.wait_]) (fun w hs => sat_to [0, 0, 0, 0] 0 rfl hs) rfl (rr_tmp rfl) ⟨rfl, rfl⟩
  refine ow_slots (L' := [(0, .pointer (some ⟨b0, 0, none⟩)), (1, .int .i64 x1), (17, .bool false)]) (by rw [h25]) ?_
  refine ow_vals 4 (j := 7) [17, 18, 21] [(17, .bool false), (18, .int .i64 x1), (21, .pointer (some ⟨b0, 0, none⟩))] rfl (by kernel_rfl) ?_
  refine ow_pw rfl (pw_quiet (v := .slice p0 m0.sure_.length c0) rfl rfl rfl rfl (q_load 1 rfl rfl rfl (by kernel_rfl)) (nw_ow ?_))
  refine ow_vals 4 (j := 12) [14] [(14, .bool (decide (x1 ≥ (m0.sure_.length : Int))))] rfl (by kernel_rfl) ?_
  refine ow_end rfl ?_
  refine ew_then ?_
  rcases if_some hF with ⟨h26, hF⟩ | ⟨h26, hF⟩
  · refine cw_cond_t rfl rfl h26 ?_
    refine cw_seq ?_
    refine cw_region ?_
    refine ow_vals 1 (j := 1) [4] [(4, .int .i64 5)] rfl (by kernel_rfl) ?_
    refine ow_end rfl ?_
    refine ew_then ?_
    refine cw_ret ?_
    refine ew_blk_ret ?_
    refine ew_then_ret ?_
    have hR := Option.some.inj hF
    subst hR
    exact fin1 (H1 := [imm I, pt b0 #[.slice p0 m0.sure_.length c0, .map (some p1), .bool m0.off_, .bool m0.armed_, .int .i64 m0.left_, .int .u64 m0.fall_.Keep, .int .i64 m0.fall_.Tear, .int .i64 m0.acts_, .int .i64 m0.falls_] 52, own e_disk_sector 55 p0 c0 m0.sure_, mpo (kInt .i64) (fun x : disk_sector => Value.agg #[.string x.s_, .int .i64 x.at_]) p1 m0.wait_]) (fun w hs => sat_to [0, 0, 0, 0] 0 rfl hs) rfl (rr_tmp rfl) ⟨rfl, rfl⟩
  refine cw_cond_f rfl rfl h26 ?_
  refine cw_skip ?_
  refine ew_blk ?_
  refine ew_then ?_
  refine cw_seq ?_
  refine cw_region ?_
  refine ow_vals 1 (j := 1) [4] [(4, .int .i64 0)] rfl (by kernel_rfl) ?_
  refine ow_end rfl ?_
  refine ew_then ?_
  refine cw_ret ?_
  have hR := Option.some.inj hF
  subst hR
  exact fin1 (H1 := [imm I, pt b0 #[.slice p0 m0.sure_.length c0, .map (some p1), .bool m0.off_, .bool m0.armed_, .int .i64 m0.left_, .int .u64 m0.fall_.Keep, .int .i64 m0.fall_.Tear, .int .i64 m0.acts_, .int .i64 m0.falls_] 52, own e_disk_sector 55 p0 c0 m0.sure_, mpo (kInt .i64) (fun x : disk_sector => Value.agg #[.string x.s_, .int .i64 x.at_]) p1 m0.wait_]) (fun w hs => sat_to [0, 0, 0, 0] 0 rfl hs) rfl (rr_tmp rfl) ⟨rfl, rfl⟩


def F.disk_Disk_Read (x1 : Int) (m0 : disk_Disk) : Option (ByteArray × Int) :=
  Option.bind (F.disk_Disk_why x1 m0) (fun (r21 : Int) => if r21 != 0 then (some (((ByteArray.mk #[]), r21))) else (if mhas m0.wait_ x1 then (some (((mgetD m0.wait_ x1 (⟨(ByteArray.mk #[]), 0⟩ : disk_sector)).s_, 0))) else (Option.bind (at_ m0.sure_ x1) (fun (y27 : disk_sector) => some ((y27.s_, 0))))))
set_option maxRecDepth 100000 in
set_option maxHeartbeats 4000000 in
theorem c_disk_Disk_Read (I : Hl) (x1 : Int) (m0 : disk_Disk) (p0 : Option Addr) (c0 : Nat) (p1 : Nat) (b0 : Nat) (res : ByteArray × Int) (hF : F.disk_Disk_Read x1 m0 = some res) : Tr Tryz.prog 58 [.pointer (some ⟨b0, 0, none⟩), .int .i64 x1] [imm I, pt b0 #[.slice p0 m0.sure_.length c0, .map (some p1), .bool m0.off_, .bool m0.armed_, .int .i64 m0.left_, .int .u64 m0.fall_.Keep, .int .i64 m0.fall_.Tear, .int .i64 m0.acts_, .int .i64 m0.falls_] 52, own e_disk_sector 55 p0 c0 m0.sure_, mpo (kInt .i64) (fun x : disk_sector => Value.agg #[.string x.s_, .int .i64 x.at_]) p1 m0.wait_] (fun r H' => r = .tuple #[.string res.1, .int .i64 res.2] ∧ H' = [imm I, pt b0 #[.slice p0 m0.sure_.length c0, .map (some p1), .bool m0.off_, .bool m0.armed_, .int .i64 m0.left_, .int .u64 m0.fall_.Keep, .int .i64 m0.fall_.Tear, .int .i64 m0.acts_, .int .i64 m0.falls_] 52, own e_disk_sector 55 p0 c0 m0.sure_, mpo (kInt .i64) (fun x : disk_sector => Value.agg #[.string x.s_, .int .i64 x.at_]) p1 m0.wait_]) := by
  unfold F.disk_Disk_Read at hF
  refine tr_of_cw (fn := Tryz.f58) Tryz.func58 rfl (Nat.le_of_ble_eq_true rfl) 35 rfl fun F0 w0 => ?_
  refine cw_keep [0, 1] (L' := [(0, .pointer (some ⟨b0, 0, none⟩)), (1, .int .i64 x1)]) rfl ?_
  refine cw_state (S' := SAT w0 ([imm I, pt b0 #[.slice p0 m0.sure_.length c0, .map (some p1), .bool m0.off_, .bool m0.armed_, .int .i64 m0.left_, .int .u64 m0.fall_.Keep, .int .i64 m0.fall_.Tear, .int .i64 m0.acts_, .int .i64 m0.falls_] 52, own e_disk_sector 55 p0 c0 m0.sure_, mpo (kInt .i64) (fun x : disk_sector => Value.agg #[.string x.s_, .int .i64 x.at_]) p1 m0.wait_] ++ F0)) (fun w hs => hs) ?_
  refine cw_seq ?_
  refine cw_region ?_
  refine ow_vals 2 (j := 2) [0, 1] [(0, .pointer (some ⟨b0, 0, none⟩)), (1, .int .i64 x1)] rfl (by kernel_rfl) ?_
  refine ow_end rfl ?_
  refine ew_then ?_
  refine cw_seq ?_
  refine cw_seq ?_
  refine cw_region ?_
  refine ow_vals 2 (j := 2) [0, 1, 9, 10] [(0, .pointer (some ⟨b0, 0, none⟩)), (1, .int .i64 x1), (9, .pointer (some ⟨b0, 0, none⟩)), (10, .int .i64 x1)] rfl (by kernel_rfl) ?_
  obtain ⟨r21, h22, hF⟩ := bind_some hF
  refine ow_pw rfl (pw_call (F := [] ++ F0) rfl rfl rfl rfl rfl rfl rfl (by kernel_rfl) (perm_of_pulls [0, 0, 0, 0] rfl) (c_disk_Disk_why _ x1 m0 p0 c0 p1 b0 r21 h22) ?_)
  rintro _ _ ⟨rfl, rfl⟩
  refine nw_H (H' := [imm I, pt b0 #[.slice p0 m0.sure_.length c0, .map (some p1), .bool m0.off_, .bool m0.armed_, .int .i64 m0.left_, .int .u64 m0.fall_.Keep, .int .i64 m0.fall_.Tear, .int .i64 m0.acts_, .int .i64 m0.falls_] 52, own e_disk_sector 55 p0 c0 m0.sure_, mpo (kInt .i64) (fun x : disk_sector => Value.agg #[.string x.s_, .int .i64 x.at_]) p1 m0.wait_] ++ F0) rfl (nw_ow ?_)
  refine ow_vals 1 (j := 4) [0, 1, 6] [(0, .pointer (some ⟨b0, 0, none⟩)), (1, .int .i64 x1), (6, .int .i64 r21)] rfl (by kernel_rfl) ?_
  refine ow_end rfl ?_
  refine ew_then ?_
  refine cw_seq ?_
  refine cw_region ?_
  refine ow_vals 2 (j := 2) [0, 1, 6, 13] [(0, .pointer (some ⟨b0, 0, none⟩)), (1, .int .i64 x1), (6, .int .i64 r21), (13, .bool (r21 != 0))] rfl (by kernel_rfl) ?_
  refine ow_end rfl ?_
  refine ew_then ?_
  rcases if_some hF with ⟨h23, hF⟩ | ⟨h23, hF⟩
  · refine cw_cond_t rfl rfl h23 ?_
    refine cw_seq ?_
    refine cw_region ?_
    refine ow_vals 3 (j := 3) [4, 5] [(4, .string (ByteArray.mk #[])), (5, .int .i64 r21)] rfl (by kernel_rfl) ?_
    refine ow_end rfl ?_
    refine ew_then ?_
    refine cw_ret ?_
    refine ew_then_ret ?_
    have hR := Option.some.inj hF
    subst hR
    exact fin2 (H1 := [imm I, pt b0 #[.slice p0 m0.sure_.length c0, .map (some p1), .bool m0.off_, .bool m0.armed_, .int .i64 m0.left_, .int .u64 m0.fall_.Keep, .int .i64 m0.fall_.Tear, .int .i64 m0.acts_, .int .i64 m0.falls_] 52, own e_disk_sector 55 p0 c0 m0.sure_, mpo (kInt .i64) (fun x : disk_sector => Value.agg #[.string x.s_, .int .i64 x.at_]) p1 m0.wait_]) (fun w hs => sat_to [0, 0, 0, 0] 0 rfl hs) rfl (rr_tmp rfl) (rr_tmp rfl) ⟨rfl, rfl⟩
  refine cw_cond_f rfl rfl h23 ?_
  refine cw_skip ?_
  refine ew_then ?_
  refine cw_seq ?_
  refine cw_seq ?_
  refine cw_region ?_
  refine ow_vals 3 (j := 3) [0, 1, 18] [(0, .pointer (some ⟨b0, 0, none⟩)), (1, .int .i64 x1), (18, .pointer (some ⟨b0, 1, none⟩))] rfl (by kernel_rfl) ?_
  refine ow_pw rfl (pw_quiet (v := .map (some p1)) rfl rfl rfl rfl (q_load 1 rfl rfl rfl (by kernel_rfl)) (nw_ow ?_))
  refine ow_vals 1 (j := 5) [0, 1, 19, 20] [(0, .pointer (some ⟨b0, 0, none⟩)), (1, .int .i64 x1), (19, .map (some p1)), (20, .int .i64 x1)] rfl (by kernel_rfl) ?_
  refine ow_pw rfl (pw_quiet (v := .tuple #[.agg #[.string ((mgetD m0.wait_ x1 (⟨(ByteArray.mk #[]), 0⟩ : disk_sector)).s_), .int .i64 ((mgetD m0.wait_ x1 (⟨(ByteArray.mk #[]), 0⟩ : disk_sector)).at_)], .bool (mhas m0.wait_ x1)]) rfl rfl rfl rfl (q_lookup2 (kf := (kInt .i64)) (vf := (fun x : disk_sector => Value.agg #[.string x.s_, .int .i64 x.at_])) (key := x1) 3 (⟨(ByteArray.mk #[]), 0⟩ : disk_sector) (mkey_int (by kernel_rfl)) rfl rfl rfl rfl rfl (by kernel_rfl)) (nw_ow ?_))
  refine ow_vals 3 (j := 9) [0, 1, 22, 23] [(0, .pointer (some ⟨b0, 0, none⟩)), (1, .int .i64 x1), (22, .agg #[.string ((mgetD m0.wait_ x1 (⟨(ByteArray.mk #[]), 0⟩ : disk_sector)).s_), .int .i64 ((mgetD m0.wait_ x1 (⟨(ByteArray.mk #[]), 0⟩ : disk_sector)).at_)]), (23, .bool (mhas m0.wait_ x1))] rfl (by kernel_rfl) ?_
  refine ow_pw rfl (pw_alloc (cs := #[.string (ByteArray.mk #[]), .int .i64 0]) rfl rfl rfl rfl rfl (by kernel_rfl) fun b24 => nw_ow ?_)
  refine ow_pw rfl (pw_store 0 #[.string ((mgetD m0.wait_ x1 (⟨(ByteArray.mk #[]), 0⟩ : disk_sector)).s_), .int .i64 ((mgetD m0.wait_ x1 (⟨(ByteArray.mk #[]), 0⟩ : disk_sector)).at_)] rfl rfl rfl rfl rfl rfl rfl (by kernel_rfl) (nw_H (H' := [pt b24 #[.string ((mgetD m0.wait_ x1 (⟨(ByteArray.mk #[]), 0⟩ : disk_sector)).s_), .int .i64 ((mgetD m0.wait_ x1 (⟨(ByteArray.mk #[]), 0⟩ : disk_sector)).at_)] 55, imm I, pt b0 #[.slice p0 m0.sure_.length c0, .map (some p1), .bool m0.off_, .bool m0.armed_, .int .i64 m0.left_, .int .u64 m0.fall_.Keep, .int .i64 m0.fall_.Tear, .int .i64 m0.acts_, .int .i64 m0.falls_] 52, own e_disk_sector 55 p0 c0 m0.sure_, mpo (kInt .i64) (fun x : disk_sector => Value.agg #[.string x.s_, .int .i64 x.at_]) p1 m0.wait_] ++ F0) rfl (nw_ow ?_)))
  refine ow_vals 1 (j := 12) [0, 1, 7, 8] [(0, .pointer (some ⟨b0, 0, none⟩)), (1, .int .i64 x1), (7, .pointer (some ⟨b24, 0, none⟩)), (8, .bool (mhas m0.wait_ x1))] rfl (by kernel_rfl) ?_
  refine ow_end rfl ?_
  refine ew_then ?_
  refine cw_seq ?_
  refine cw_region ?_
  refine ow_vals 1 (j := 1) [0, 1, 7, 24] [(0, .pointer (some ⟨b0, 0, none⟩)), (1, .int .i64 x1), (7, .pointer (some ⟨b24, 0, none⟩)), (24, .bool (mhas m0.wait_ x1))] rfl (by kernel_rfl) ?_
  refine ow_end rfl ?_
  refine ew_then ?_
  rcases if_some hF with ⟨h26, hF⟩ | ⟨h26, hF⟩
  · refine cw_cond_t rfl rfl h26 ?_
    refine cw_seq ?_
    refine cw_region ?_
    refine ow_vals 1 (j := 1) [25] [(25, .pointer (some ⟨b24, 0, none⟩))] rfl (by kernel_rfl) ?_
    refine ow_pw rfl (pw_quiet (v := .string ((mgetD m0.wait_ x1 (⟨(ByteArray.mk #[]), 0⟩ : disk_sector)).s_)) rfl rfl rfl rfl (q_load 0 rfl rfl rfl (by kernel_rfl)) (nw_ow ?_))
    refine ow_vals 2 (j := 4) [4, 5] [(4, .string ((mgetD m0.wait_ x1 (⟨(ByteArray.mk #[]), 0⟩ : disk_sector)).s_)), (5, .int .i64 0)] rfl (by kernel_rfl) ?_
    refine ow_end rfl ?_
    refine ew_then ?_
    refine cw_ret ?_
    refine ew_then_ret ?_
    have hR := Option.some.inj hF
    subst hR
    exact fin2 (H1 := [imm I, pt b0 #[.slice p0 m0.sure_.length c0, .map (some p1), .bool m0.off_, .bool m0.armed_, .int .i64 m0.left_, .int .u64 m0.fall_.Keep, .int .i64 m0.fall_.Tear, .int .i64 m0.acts_, .int .i64 m0.falls_] 52, own e_disk_sector 55 p0 c0 m0.sure_, mpo (kInt .i64) (fun x : disk_sector => Value.agg #[.string x.s_, .int .i64 x.at_]) p1 m0.wait_]) (fun w hs => sat_to [0, 0, 0, 0, 0] 1 rfl hs) rfl (rr_tmp rfl) (rr_tmp rfl) ⟨rfl, rfl⟩
  refine cw_cond_f rfl rfl h26 ?_
  refine cw_skip ?_
  refine ew_then ?_
  refine cw_seq ?_
  refine cw_region ?_
  refine ow_vals 3 (j := 3) [1, 29] [(1, .int .i64 x1), (29, .pointer (some ⟨b0, 0, none⟩))] rfl (by kernel_rfl) ?_
  refine ow_pw rfl (pw_quiet (v := .slice p0 m0.sure_.length c0) rfl rfl rfl rfl (q_load 2 rfl rfl rfl (by kernel_rfl)) (nw_ow ?_))
  refine ow_vals 1 (j := 5) [30, 31] [(30, .slice p0 m0.sure_.length c0), (31, .int .i64 x1)] rfl (by kernel_rfl) ?_
  obtain ⟨y27, h28, hF⟩ := bind_some hF
  refine ow_pw rfl (pw_quiet (v := .pointer (some ((base p0).add (x1.toNat * 2)))) rfl rfl rfl rfl (q_index_own 3 2 rfl rfl (by kernel_rfl) rfl rfl (at_some h28).1 (at_lt h28)) (nw_ow ?_))
  refine ow_vals 1 (j := 7) [33] [(33, .pointer (some (((base p0).add (x1.toNat * 2)).add 0)))] rfl (by kernel_rfl) ?_
  refine ow_pw rfl (pw_quiet (v := .string y27.s_) rfl rfl rfl rfl (q_load_own 3 2 rfl rfl rfl rfl (at_some h28).2 (by kernel_rfl)) (nw_ow ?_))
  refine ow_vals 2 (j := 10) [4, 5] [(4, .string y27.s_), (5, .int .i64 0)] rfl (by kernel_rfl) ?_
  refine ow_end rfl ?_
  refine ew_then ?_
  refine cw_ret ?_
  have hR := Option.some.inj hF
  subst hR
  exact fin2 (H1 := [imm I, pt b0 #[.slice p0 m0.sure_.length c0, .map (some p1), .bool m0.off_, .bool m0.armed_, .int .i64 m0.left_, .int .u64 m0.fall_.Keep, .int .i64 m0.fall_.Tear, .int .i64 m0.acts_, .int .i64 m0.falls_] 52, own e_disk_sector 55 p0 c0 m0.sure_, mpo (kInt .i64) (fun x : disk_sector => Value.agg #[.string x.s_, .int .i64 x.at_]) p1 m0.wait_]) (fun w hs => sat_to [0, 0, 0, 0, 0] 1 rfl hs) rfl (rr_tmp rfl) (rr_tmp rfl) ⟨rfl, rfl⟩


def F.guard_Number.l1 (x0 : ByteArray) (x27 : Int) (x28 : Int) : Option ((Int × Int) ⊕ (Int)) :=
  if decide (x28 < ((sbytes x0).length : Int)) then (Option.bind (at_ (sbytes x0) x28) (fun (y30 : Int) => some (.inl (ior .i64 (IntKind.i64.wrap (x27 * 2 ^ 8)) (IntKind.i64.wrap (y30)), IntKind.i64.wrap (x28 + 1))))) else (some (.inr (x27)))
def F.guard_Number.r2 (x32 : Int) : Option (Int) :=
  some (x32)
def F.guard_Number (x0 : ByteArray) : Option Int :=
  Option.bind (chk (x0.size ≤ maxLen) (iter (fun x => F.guard_Number.l1 x0 x.1 x.2) FUEL (0, 0))) (fun x => F.guard_Number.r2 x)
set_option maxRecDepth 100000 in
set_option maxHeartbeats 4000000 in
theorem c_guard_Number (I : Hl) (x0 : ByteArray) (res : Int) (hF : F.guard_Number x0 = some res) : Tr Tryz.prog 59 [.string x0] [imm I] (fun r H' => r = .int .i64 res ∧ H' = [imm I]) := by
  unfold F.guard_Number at hF
  refine tr_of_cw (fn := Tryz.f59) Tryz.func59 rfl (Nat.le_of_ble_eq_true rfl) 20 rfl fun F0 w0 => ?_
  refine cw_keep [0] (L' := [(0, .string x0)]) rfl ?_
  refine cw_state (S' := SAT w0 ([imm I] ++ F0)) (fun w hs => hs) ?_
  refine cw_seq ?_
  refine cw_region ?_
  refine ow_vals 1 (j := 1) [0] [(0, .string x0)] rfl (by kernel_rfl) ?_
  refine ow_end rfl ?_
  refine ew_then ?_
  refine cw_seq ?_
  refine cw_region ?_
  refine ow_vals 1 (j := 1) [0, 3] [(0, .string x0), (3, .int .i64 0)] rfl (by kernel_rfl) ?_
  refine ow_end rfl ?_
  refine ew_then ?_
  obtain ⟨v21, hF, hK21⟩ := bind_some hF
  refine cw_mid (fun a w => ∃ (x32 : Int), x32 = v21 ∧ Fr 20 [(3, .int .i64 x32)] a ∧ SAT w0 ([imm I] ++ F0) w) ?_ ?_
  · refine cw_seq ?_
    refine cw_region ?_
    refine ow_vals 1 (j := 1) [3, 6] [(3, .int .i64 0), (6, .string x0)] rfl (by kernel_rfl) ?_
    obtain ⟨h22, hF⟩ := chk_some hF
    refine ow_pw rfl (pw_str_bytes (E := 5) rfl rfl rfl rfl rfl (by kernel_rfl) (by kernel_rfl) (by kernel_rfl) rfl h22 fun p23 c24 => nw_ow ?_)
    refine ow_vals 2 (j := 4) [3, 7, 8, 9] [(3, .int .i64 0), (7, .slice p23 (sbytes x0).length c24), (8, .int .i64 ((sbytes x0).length : Int)), (9, .int .i64 0)] rfl (by kernel_rfl) ?_
    refine ow_end rfl ?_
    refine ew_then ?_
    refine cw_block ?_
    refine fun a w hf hs => wp_rounds (fun k a w => ∃ (x27 : Int), ∃ (x28 : Int), iter (fun x => F.guard_Number.l1 x0 x.1 x.2) k (x27, x28) = some v21 ∧ Fr 20 [(3, .int .i64 x27), (7, .slice p23 (sbytes x0).length c24), (8, .int .i64 ((sbytes x0).length : Int)), (9, .int .i64 x28)] a ∧ SAT w0 ([imm I, own (eInt .u8) 5 p23 c24 (sbytes x0)] ++ F0) w) ?_ FUEL a w ⟨0, 0, hF, hf.keep [3, 7, 8, 9], sat_to [1, 0] 0 rfl hs⟩
    clear hf hs
    clear a w hF
    rintro k a w ⟨x27, x28, hF2, hf, hs⟩
    obtain ⟨k, r26, rfl, hF, hL26⟩ := iter_some hF2
    clear hF2
    revert a w
    show CW _ _ _ 20 [(3, .int .i64 x27), (7, .slice p23 (sbytes x0).length c24), (8, .int .i64 ((sbytes x0).length : Int)), (9, .int .i64 x28)] (SAT w0 ([imm I, own (eInt .u8) 5 p23 c24 (sbytes x0)] ++ F0))
    try dsimp only at hF
    unfold F.guard_Number.l1 at hF
    refine cw_seq ?_
    refine cw_region ?_
    refine ow_vals 1 (j := 1) [3, 7, 8, 9, 10] [(3, .int .i64 x27), (7, .slice p23 (sbytes x0).length c24), (8, .int .i64 ((sbytes x0).length : Int)), (9, .int .i64 x28), (10, .bool (decide (x28 < ((sbytes x0).length : Int))))] rfl (by kernel_rfl) ?_
    refine ow_end rfl ?_
    refine ew_then ?_
    refine cw_seq ?_
    rcases if_some hF with ⟨h29, hF⟩ | ⟨h29, hF⟩
    · refine cw_cond_t rfl rfl h29 ?_
      refine cw_skip ?_
      refine ew_then ?_
      refine cw_seq ?_
      refine cw_block ?_
      refine cw_seq ?_
      refine cw_region ?_
      obtain ⟨y30, h31, hF⟩ := bind_some hF
      refine ow_pw rfl (pw_quiet (v := .pointer (some ((base p23).add (x28.toNat * 1)))) rfl rfl rfl rfl (q_index_own 1 1 rfl rfl (by kernel_rfl) rfl rfl (at_some h31).1 (at_lt h31)) (nw_ow ?_))
      refine ow_pw rfl (pw_quiet (v := .int .u8 y30) rfl rfl rfl rfl (q_load_own0 1 1 rfl rfl rfl rfl (at_some h31).2 (by kernel_rfl)) (nw_ow ?_))
      refine ow_vals 1 (j := 3) [3, 5, 7, 8, 9] [(3, .int .i64 x27), (5, .int .u8 y30), (7, .slice p23 (sbytes x0).length c24), (8, .int .i64 ((sbytes x0).length : Int)), (9, .int .i64 x28)] rfl (by kernel_rfl) ?_
      refine ow_end rfl ?_
      refine ew_then ?_
      refine cw_region ?_
      refine ow_vals 6 (j := 6) [3, 7, 8, 9] [(3, .int .i64 (ior .i64 (IntKind.i64.wrap (x27 * 2 ^ 8)) (IntKind.i64.wrap (y30)))), (7, .slice p23 (sbytes x0).length c24), (8, .int .i64 ((sbytes x0).length : Int)), (9, .int .i64 x28)] rfl (by kernel_rfl) ?_
      refine ow_end rfl ?_
      refine ew_blk ?_
      refine ew_then ?_
      refine cw_region ?_
      refine ow_vals 2 (j := 2) [3, 7, 8, 9] [(3, .int .i64 (ior .i64 (IntKind.i64.wrap (x27 * 2 ^ 8)) (IntKind.i64.wrap (y30)))), (7, .slice p23 (sbytes x0).length c24), (8, .int .i64 ((sbytes x0).length : Int)), (9, .int .i64 (IntKind.i64.wrap (x28 + 1)))] rfl (by kernel_rfl) ?_
      refine ow_end rfl ?_
      have hR := Option.some.inj hF
      subst hR
      have hR := hL26
      try dsimp only at hR
      exact fun a w hf hs => ⟨k, Nat.lt_succ_self k, ior .i64 (IntKind.i64.wrap (x27 * 2 ^ 8)) (IntKind.i64.wrap (y30)), IntKind.i64.wrap (x28 + 1), hR, hf.keep [3, 7, 8, 9], sat_to [0, 0] 0 rfl hs⟩
    refine cw_cond_f rfl rfl h29 ?_
    refine cw_exit ?_
    refine ew_then_exit ?_
    refine ew_then_exit ?_
    refine ew_blk_exit ?_
    have hR := Option.some.inj hF
    subst hR
    have hR := hL26
    try dsimp only at hR
    exact fun a w hf hs => ⟨x27, hR, hf.keep [3], sat_to [1, 0] 1 rfl hs⟩
  rintro a w ⟨x32, hv, hf, hs⟩
  subst hv
  replace hF := hK21
  clear hK21
  try dsimp only at hF
  revert a w
  show CW _ _ _ 20 [(3, .int .i64 x32)] (SAT w0 ([imm I] ++ F0))
  unfold F.guard_Number.r2 at hF
  refine cw_seq ?_
  refine cw_region ?_
  refine ow_vals 2 (j := 2) [2] [(2, .int .i64 x32)] rfl (by kernel_rfl) ?_
  refine ow_end rfl ?_
  refine ew_then ?_
  refine cw_ret ?_
  have hR := Option.some.inj hF
  subst hR
  exact fin1 (H1 := [imm I]) (fun w hs => sat_to [0] 0 rfl hs) rfl (rr_tmp rfl) ⟨rfl, rfl⟩


def F.strings_Trim (x0 : ByteArray) (x1 : ByteArray) : Option ByteArray :=
  chk (trimOk x0 x1) (some (trimB x0 x1))
theorem c_strings_Trim (I : Hl) (x0 : ByteArray) (x1 : ByteArray) (res : ByteArray) (hF : F.strings_Trim x0 x1 = some res) : Tr Tryz.prog 60 [.string x0, .string x1] [imm I] (fun r H' => r = .string res ∧ H' = [imm I]) := by
  unfold F.strings_Trim at hF
  obtain ⟨h, hF⟩ := chk_some hF
  obtain rfl := Option.some.inj hF
  exact tr_trim h fun c hc w => Tryz.strings_Trim_one x0 c hc w h.2.2


def F.guard_Read.r1 (r21 : ByteArray × Int) (r30 : Int) : Option (ByteArray × Int × Int) :=
  chk (0 ≤ (9 : Int) ∧ (9 : Int) ≤ (IntKind.i64.wrap (9 + (IntKind.i64.wrap (bt r21.1 8)))) ∧ (IntKind.i64.wrap (9 + (IntKind.i64.wrap (bt r21.1 8)))) ≤ (r21.1.size : Int)) (some ((r21.1.extract (9 : Int).toNat (IntKind.i64.wrap (9 + (IntKind.i64.wrap (bt r21.1 8)))).toNat, r30, 0)))
def F.guard_Read (x1 : Int) (m0 : disk_Disk) : Option (ByteArray × Int × Int) :=
  Option.bind (F.disk_Disk_Read x1 m0) (fun (r21 : ByteArray × Int) => if r21.2 != 0 then (some (((ByteArray.mk #[]), 0, r21.2))) else (Option.bind (F.strings_Repeat (ByteArray.mk #[0]) 64) (fun (r24 : ByteArray) => if seqB r21.1 r24 then (some (((ByteArray.mk #[]), 0, 7))) else (chk (0 ≤ (0 : Int) ∧ (0 : Int) ≤ (8 : Int) ∧ (8 : Int) ≤ (r21.1.size : Int)) (chk (0 ≤ (56 : Int) ∧ (56 : Int) ≤ (r21.1.size : Int) ∧ (r21.1.size : Int) ≤ (r21.1.size : Int)) (chk (0 ≤ (8 : Int) ∧ 8 < (r21.1.size : Int)) (Option.bind (F.guard_Number (r21.1.extract (0 : Int).toNat (8 : Int).toNat)) (fun (r30 : Int) => thru (if !(seqB (r21.1.extract (0 : Int).toNat (8 : Int).toNat) (r21.1.extract (56 : Int).toNat (r21.1.size : Int).toNat)) then (some (.inr (((ByteArray.mk #[]), 0, 17)))) else (if decide (r30 < 4294967296) then (some (.inr (((ByteArray.mk #[]), 0, 17)))) else (if decide ((IntKind.i64.wrap (bt r21.1 8)) > 47) then (some (.inr (((ByteArray.mk #[]), 0, 17)))) else (chk (0 ≤ (IntKind.i64.wrap (9 + (IntKind.i64.wrap (bt r21.1 8)))) ∧ (IntKind.i64.wrap (9 + (IntKind.i64.wrap (bt r21.1 8)))) ≤ (56 : Int) ∧ (56 : Int) ≤ (r21.1.size : Int)) (Option.bind (F.strings_Trim (r21.1.extract (IntKind.i64.wrap (9 + (IntKind.i64.wrap (bt r21.1 8)))).toNat (56 : Int).toNat) (ByteArray.mk #[0])) (fun (r37 : ByteArray) => if !(seqB r37 (ByteArray.mk #[])) then (some (.inr (((ByteArray.mk #[]), 0, 17)))) else (some (.inl ())))))))) (fun x => F.guard_Read.r1 r21 r30)))))))))
set_option maxRecDepth 100000 in
set_option maxHeartbeats 4000000 in
theorem c_guard_Read (I : Hl) (x1 : Int) (m0 : disk_Disk) (p0 : Option Addr) (c0 : Nat) (p1 : Nat) (b0 : Nat) (res : ByteArray × Int × Int) (hF : F.guard_Read x1 m0 = some res) : Tr Tryz.prog 48 [.pointer (some ⟨b0, 0, none⟩), .int .i64 x1] [imm I, pt b0 #[.slice p0 m0.sure_.length c0, .map (some p1), .bool m0.off_, .bool m0.armed_, .int .i64 m0.left_, .int .u64 m0.fall_.Keep, .int .i64 m0.fall_.Tear, .int .i64 m0.acts_, .int .i64 m0.falls_] 52, own e_disk_sector 55 p0 c0 m0.sure_, mpo (kInt .i64) (fun x : disk_sector => Value.agg #[.string x.s_, .int .i64 x.at_]) p1 m0.wait_] (fun r H' => r = .tuple #[.string res.1, .int .i64 res.2.1, .int .i64 res.2.2] ∧ H' = [imm I, pt b0 #[.slice p0 m0.sure_.length c0, .map (some p1), .bool m0.off_, .bool m0.armed_, .int .i64 m0.left_, .int .u64 m0.fall_.Keep, .int .i64 m0.fall_.Tear, .int .i64 m0.acts_, .int .i64 m0.falls_] 52, own e_disk_sector 55 p0 c0 m0.sure_, mpo (kInt .i64) (fun x : disk_sector => Value.agg #[.string x.s_, .int .i64 x.at_]) p1 m0.wait_]) := by
  unfold F.guard_Read at hF
  refine tr_of_cw (fn := Tryz.f48) Tryz.func48 rfl (Nat.le_of_ble_eq_true rfl) 58 rfl fun F0 w0 => ?_
  refine cw_keep [0, 1] (L' := [(0, .pointer (some ⟨b0, 0, none⟩)), (1, .int .i64 x1)]) rfl ?_
  refine cw_state (S' := SAT w0 ([imm I, pt b0 #[.slice p0 m0.sure_.length c0, .map (some p1), .bool m0.off_, .bool m0.armed_, .int .i64 m0.left_, .int .u64 m0.fall_.Keep, .int .i64 m0.fall_.Tear, .int .i64 m0.acts_, .int .i64 m0.falls_] 52, own e_disk_sector 55 p0 c0 m0.sure_, mpo (kInt .i64) (fun x : disk_sector => Value.agg #[.string x.s_, .int .i64 x.at_]) p1 m0.wait_] ++ F0)) (fun w hs => hs) ?_
  refine cw_seq ?_
  refine cw_region ?_
  refine ow_vals 3 (j := 3) [0, 1] [(0, .pointer (some ⟨b0, 0, none⟩)), (1, .int .i64 x1)] rfl (by kernel_rfl) ?_
  refine ow_end rfl ?_
  refine ew_then ?_
  refine cw_seq ?_
  refine cw_region ?_
  refine ow_vals 2 (j := 2) [14, 15] [(14, .pointer (some ⟨b0, 0, none⟩)), (15, .int .i64 x1)] rfl (by kernel_rfl) ?_
  obtain ⟨r21, h22, hF⟩ := bind_some hF
  refine ow_pw rfl (pw_call (F := [] ++ F0) rfl rfl rfl rfl rfl rfl rfl (by kernel_rfl) (perm_of_pulls [0, 0, 0, 0] rfl) (c_disk_Disk_Read _ x1 m0 p0 c0 p1 b0 r21 h22) ?_)
  rintro _ _ ⟨rfl, rfl⟩
  refine nw_H (H' := [imm I, pt b0 #[.slice p0 m0.sure_.length c0, .map (some p1), .bool m0.off_, .bool m0.armed_, .int .i64 m0.left_, .int .u64 m0.fall_.Keep, .int .i64 m0.fall_.Tear, .int .i64 m0.acts_, .int .i64 m0.falls_] 52, own e_disk_sector 55 p0 c0 m0.sure_, mpo (kInt .i64) (fun x : disk_sector => Value.agg #[.string x.s_, .int .i64 x.at_]) p1 m0.wait_] ++ F0) rfl (nw_ow ?_)
  refine ow_vals 5 (j := 8) [7, 8] [(7, .string r21.1), (8, .int .i64 r21.2)] rfl (by kernel_rfl) ?_
  refine ow_end rfl ?_
  refine ew_then ?_
  refine cw_seq ?_
  refine cw_seq ?_
  refine cw_region ?_
  refine ow_vals 2 (j := 2) [7, 8, 20] [(7, .string r21.1), (8, .int .i64 r21.2), (20, .bool (r21.2 != 0))] rfl (by kernel_rfl) ?_
  refine ow_end rfl ?_
  refine ew_then ?_
  rcases if_some hF with ⟨h23, hF⟩ | ⟨h23, hF⟩
  · refine cw_cond_t rfl rfl h23 ?_
    refine cw_seq ?_
    refine cw_region ?_
    refine ow_vals 4 (j := 4) [4, 5, 6] [(4, .string (ByteArray.mk #[])), (5, .int .i64 0), (6, .int .i64 r21.2)] rfl (by kernel_rfl) ?_
    refine ow_end rfl ?_
    refine ew_then ?_
    refine cw_ret ?_
    refine ew_then_ret ?_
    have hR := Option.some.inj hF
    subst hR
    exact fin3 (H1 := [imm I, pt b0 #[.slice p0 m0.sure_.length c0, .map (some p1), .bool m0.off_, .bool m0.armed_, .int .i64 m0.left_, .int .u64 m0.fall_.Keep, .int .i64 m0.fall_.Tear, .int .i64 m0.acts_, .int .i64 m0.falls_] 52, own e_disk_sector 55 p0 c0 m0.sure_, mpo (kInt .i64) (fun x : disk_sector => Value.agg #[.string x.s_, .int .i64 x.at_]) p1 m0.wait_]) (fun w hs => sat_to [0, 0, 0, 0] 0 rfl hs) rfl (rr_tmp rfl) (rr_tmp rfl) (rr_tmp rfl) ⟨rfl, rfl⟩
  refine cw_cond_f rfl rfl h23 ?_
  refine cw_skip ?_
  refine ew_then ?_
  refine cw_seq ?_
  refine cw_seq ?_
  refine cw_region ?_
  refine ow_vals 1 (j := 1) [7, 22] [(7, .string r21.1), (22, .string r21.1)] rfl (by kernel_rfl) ?_
  obtain ⟨r24, h25, hF⟩ := bind_some hF
  refine ow_pw rfl (pw_call (F := [pt b0 #[.slice p0 m0.sure_.length c0, .map (some p1), .bool m0.off_, .bool m0.armed_, .int .i64 m0.left_, .int .u64 m0.fall_.Keep, .int .i64 m0.fall_.Tear, .int .i64 m0.acts_, .int .i64 m0.falls_] 52, own e_disk_sector 55 p0 c0 m0.sure_, mpo (kInt .i64) (fun x : disk_sector => Value.agg #[.string x.s_, .int .i64 x.at_]) p1 m0.wait_] ++ F0) rfl rfl rfl rfl rfl rfl rfl (by kernel_rfl) (perm_of_pulls [0] rfl) (c_strings_Repeat _ (ByteArray.mk #[0]) 64 r24 h25) ?_)
  rintro _ _ ⟨rfl, rfl⟩
  refine nw_H (H' := [imm I, pt b0 #[.slice p0 m0.sure_.length c0, .map (some p1), .bool m0.off_, .bool m0.armed_, .int .i64 m0.left_, .int .u64 m0.fall_.Keep, .int .i64 m0.fall_.Tear, .int .i64 m0.acts_, .int .i64 m0.falls_] 52, own e_disk_sector 55 p0 c0 m0.sure_, mpo (kInt .i64) (fun x : disk_sector => Value.agg #[.string x.s_, .int .i64 x.at_]) p1 m0.wait_] ++ F0) rfl (nw_ow ?_)
  refine ow_vals 1 (j := 3) [7, 24] [(7, .string r21.1), (24, .bool (seqB r21.1 r24))] rfl (by kernel_rfl) ?_
  refine ow_end rfl ?_
  refine ew_then ?_
  rcases if_some hF with ⟨h26, hF⟩ | ⟨h26, hF⟩
  · refine cw_cond_t rfl rfl h26 ?_
    refine cw_seq ?_
    refine cw_region ?_
    refine ow_vals 3 (j := 3) [4, 5, 6] [(4, .string (ByteArray.mk #[])), (5, .int .i64 0), (6, .int .i64 7)] rfl (by kernel_rfl) ?_
    refine ow_end rfl ?_
    refine ew_then ?_
    refine cw_ret ?_
    refine ew_then_ret ?_
    have hR := Option.some.inj hF
    subst hR
    exact fin3 (H1 := [imm I, pt b0 #[.slice p0 m0.sure_.length c0, .map (some p1), .bool m0.off_, .bool m0.armed_, .int .i64 m0.left_, .int .u64 m0.fall_.Keep, .int .i64 m0.fall_.Tear, .int .i64 m0.acts_, .int .i64 m0.falls_] 52, own e_disk_sector 55 p0 c0 m0.sure_, mpo (kInt .i64) (fun x : disk_sector => Value.agg #[.string x.s_, .int .i64 x.at_]) p1 m0.wait_]) (fun w hs => sat_to [0, 0, 0, 0] 0 rfl hs) rfl (rr_tmp rfl) (rr_tmp rfl) (rr_tmp rfl) ⟨rfl, rfl⟩
  refine cw_cond_f rfl rfl h26 ?_
  refine cw_skip ?_
  refine ew_then ?_
  refine cw_seq ?_
  refine cw_open 6 (SAT w0 ([imm I, pt b0 #[.slice p0 m0.sure_.length c0, .map (some p1), .bool m0.off_, .bool m0.armed_, .int .i64 m0.left_, .int .u64 m0.fall_.Keep, .int .i64 m0.fall_.Tear, .int .i64 m0.acts_, .int .i64 m0.falls_] 52, own e_disk_sector 55 p0 c0 m0.sure_, mpo (kInt .i64) (fun x : disk_sector => Value.agg #[.string x.s_, .int .i64 x.at_]) p1 m0.wait_])) (by kernel_rfl) (f := 6) rfl (fun w hs => sat_drew hs) ?_
  refine aw_vals [0, 2] (f' := 4) (m' := 5) [7, 25, 27] [(7, .string r21.1), (25, .string r21.1), (27, .string r21.1)] (fun _ _ _ _ _ h => calm_fin (P := Tryz.prog) (fn := Tryz.f48) _ _ _ _ _ h) (fun w hs => sat_pulls [0, 0, 0, 0] (G := [] ++ F0) rfl hs) rfl (by kernel_rfl) ?_
  obtain ⟨h27, hF⟩ := chk_some hF
  refine aw_pure 1 (m' := 7) (v := .string (r21.1.extract (0 : Int).toNat (8 : Int).toNat)) rfl rfl rfl rfl (by kernel_rfl) (by kernel_rfl) (fun _ _ _ _ _ h => calm_fin (P := Tryz.prog) (fn := Tryz.f48) _ _ _ _ _ h) (fun w hs => sat_pulls [0, 0, 0, 0] (G := [] ++ F0) rfl hs) (q_slice_str rfl (by kernel_rfl) rfl rfl rfl h27.1 h27.2.1 h27.2.2) ?_
  refine aw_vals [4] (f' := 2) (m' := 23) [7, 9, 27] [(7, .string r21.1), (9, .string (r21.1.extract (0 : Int).toNat (8 : Int).toNat)), (27, .string r21.1)] (fun _ _ _ _ _ h => calm_fin (P := Tryz.prog) (fn := Tryz.f48) _ _ _ _ _ h) (fun w hs => sat_pulls [0, 0, 0, 0] (G := [] ++ F0) rfl hs) rfl (by kernel_rfl) ?_
  obtain ⟨h28, hF⟩ := chk_some hF
  refine aw_pure 3 (m' := 31) (v := .string (r21.1.extract (56 : Int).toNat (r21.1.size : Int).toNat)) rfl rfl rfl rfl (by kernel_rfl) (by kernel_rfl) (fun _ _ _ _ _ h => calm_fin (P := Tryz.prog) (fn := Tryz.f48) _ _ _ _ _ h) (fun w hs => sat_pulls [0, 0, 0, 0] (G := [] ++ F0) rfl hs) (q_slice_str rfl (by kernel_rfl) rfl rfl rfl h28.1 h28.2.1 h28.2.2) ?_
  refine aw_vals [5] (f' := 0) (m' := 63) [7, 9, 10] [(7, .string r21.1), (9, .string (r21.1.extract (0 : Int).toNat (8 : Int).toNat)), (10, .string (r21.1.extract (56 : Int).toNat (r21.1.size : Int).toNat))] (fun _ _ _ _ _ h => calm_fin (P := Tryz.prog) (fn := Tryz.f48) _ _ _ _ _ h) (fun w hs => sat_pulls [0, 0, 0, 0] (G := [] ++ F0) rfl hs) rfl (by kernel_rfl) ?_
  refine aw_keep [7, 9, 10] (L' := [(7, .string r21.1), (9, .string (r21.1.extract (0 : Int).toNat (8 : Int).toNat)), (10, .string (r21.1.extract (56 : Int).toNat (r21.1.size : Int).toNat))]) rfl ?_
  refine aw_end (by kernel_rfl) ?_
  refine ew_then ?_
  refine cw_seq ?_
  refine cw_region ?_
  refine ow_vals 1 (j := 1) [7, 9, 10, 29] [(7, .string r21.1), (9, .string (r21.1.extract (0 : Int).toNat (8 : Int).toNat)), (10, .string (r21.1.extract (56 : Int).toNat (r21.1.size : Int).toNat)), (29, .string r21.1)] rfl (by kernel_rfl) ?_
  obtain ⟨h29, hF⟩ := chk_some hF
  refine ow_pw rfl (pw_quiet (v := .int .u8 (bt r21.1 8)) rfl rfl rfl rfl (q_index_str rfl (by kernel_rfl) rfl rfl h29.1 h29.2) (nw_ow ?_))
  refine ow_vals 2 (j := 4) [7, 9, 10, 11] [(7, .string r21.1), (9, .string (r21.1.extract (0 : Int).toNat (8 : Int).toNat)), (10, .string (r21.1.extract (56 : Int).toNat (r21.1.size : Int).toNat)), (11, .int .i64 (IntKind.i64.wrap (bt r21.1 8)))] rfl (by kernel_rfl) ?_
  refine ow_end rfl ?_
  refine ew_then ?_
  refine cw_seq ?_
  refine cw_region ?_
  refine ow_vals 1 (j := 1) [7, 9, 10, 11, 32] [(7, .string r21.1), (9, .string (r21.1.extract (0 : Int).toNat (8 : Int).toNat)), (10, .string (r21.1.extract (56 : Int).toNat (r21.1.size : Int).toNat)), (11, .int .i64 (IntKind.i64.wrap (bt r21.1 8))), (32, .string (r21.1.extract (0 : Int).toNat (8 : Int).toNat))] rfl (by kernel_rfl) ?_
  obtain ⟨r30, h31, hF⟩ := bind_some hF
  refine ow_pw rfl (pw_call (F := [pt b0 #[.slice p0 m0.sure_.length c0, .map (some p1), .bool m0.off_, .bool m0.armed_, .int .i64 m0.left_, .int .u64 m0.fall_.Keep, .int .i64 m0.fall_.Tear, .int .i64 m0.acts_, .int .i64 m0.falls_] 52, own e_disk_sector 55 p0 c0 m0.sure_, mpo (kInt .i64) (fun x : disk_sector => Value.agg #[.string x.s_, .int .i64 x.at_]) p1 m0.wait_] ++ F0) rfl rfl rfl rfl rfl rfl rfl (by kernel_rfl) (perm_of_pulls [0] rfl) (c_guard_Number _ (r21.1.extract (0 : Int).toNat (8 : Int).toNat) r30 h31) ?_)
  rintro _ _ ⟨rfl, rfl⟩
  refine nw_H (H' := [imm I, pt b0 #[.slice p0 m0.sure_.length c0, .map (some p1), .bool m0.off_, .bool m0.armed_, .int .i64 m0.left_, .int .u64 m0.fall_.Keep, .int .i64 m0.fall_.Tear, .int .i64 m0.acts_, .int .i64 m0.falls_] 52, own e_disk_sector 55 p0 c0 m0.sure_, mpo (kInt .i64) (fun x : disk_sector => Value.agg #[.string x.s_, .int .i64 x.at_]) p1 m0.wait_] ++ F0) rfl (nw_ow ?_)
  refine ow_vals 1 (j := 3) [7, 9, 10, 11, 12] [(7, .string r21.1), (9, .string (r21.1.extract (0 : Int).toNat (8 : Int).toNat)), (10, .string (r21.1.extract (56 : Int).toNat (r21.1.size : Int).toNat)), (11, .int .i64 (IntKind.i64.wrap (bt r21.1 8))), (12, .int .i64 r30)] rfl (by kernel_rfl) ?_
  refine ow_end rfl ?_
  refine ew_then ?_
  obtain ⟨v32, hF, hK32⟩ := thru_some hF
  refine cw_mid (fun a w => .inl () = v32 ∧ Fr 58 [(7, .string r21.1), (11, .int .i64 (IntKind.i64.wrap (bt r21.1 8))), (12, .int .i64 r30)] a ∧ SAT w0 ([imm I, pt b0 #[.slice p0 m0.sure_.length c0, .map (some p1), .bool m0.off_, .bool m0.armed_, .int .i64 m0.left_, .int .u64 m0.fall_.Keep, .int .i64 m0.fall_.Tear, .int .i64 m0.acts_, .int .i64 m0.falls_] 52, own e_disk_sector 55 p0 c0 m0.sure_, mpo (kInt .i64) (fun x : disk_sector => Value.agg #[.string x.s_, .int .i64 x.at_]) p1 m0.wait_] ++ F0) w) ?_ ?_
  · refine cw_seq ?_
    refine cw_region ?_
    refine ow_vals 4 (j := 4) [7, 11, 12, 37] [(7, .string r21.1), (11, .int .i64 (IntKind.i64.wrap (bt r21.1 8))), (12, .int .i64 r30), (37, .bool (!(seqB (r21.1.extract (0 : Int).toNat (8 : Int).toNat) (r21.1.extract (56 : Int).toNat (r21.1.size : Int).toNat))))] rfl (by kernel_rfl) ?_
    rcases if_some hF with ⟨h33, hF⟩ | ⟨h33, hF⟩
    · refine ow_slots (L' := [(7, .string r21.1), (11, .int .i64 (IntKind.i64.wrap (bt r21.1 8))), (12, .int .i64 r30), (37, .bool true)]) (by rw [h33]) ?_
      refine ow_vals 15 (j := 19) [7, 11, 12, 52] [(7, .string r21.1), (11, .int .i64 (IntKind.i64.wrap (bt r21.1 8))), (12, .int .i64 r30), (52, .bool true)] rfl (by kernel_rfl) ?_
      refine ow_end rfl ?_
      refine ew_then ?_
      refine cw_cond_t rfl rfl rfl ?_
      refine cw_seq ?_
      refine cw_region ?_
      refine ow_vals 3 (j := 3) [4, 5, 6] [(4, .string (ByteArray.mk #[])), (5, .int .i64 0), (6, .int .i64 17)] rfl (by kernel_rfl) ?_
      refine ow_end rfl ?_
      refine ew_then ?_
      refine cw_ret ?_
      refine ew_then_ret ?_
      have hR := Option.some.inj hF
      subst hR
      have hR := hK32
      try dsimp only [Thru] at hR
      subst hR
      exact fin3 (H1 := [imm I, pt b0 #[.slice p0 m0.sure_.length c0, .map (some p1), .bool m0.off_, .bool m0.armed_, .int .i64 m0.left_, .int .u64 m0.fall_.Keep, .int .i64 m0.fall_.Tear, .int .i64 m0.acts_, .int .i64 m0.falls_] 52, own e_disk_sector 55 p0 c0 m0.sure_, mpo (kInt .i64) (fun x : disk_sector => Value.agg #[.string x.s_, .int .i64 x.at_]) p1 m0.wait_]) (fun w hs => sat_to [0, 0, 0, 0] 0 rfl hs) rfl (rr_tmp rfl) (rr_tmp rfl) (rr_tmp rfl) ⟨rfl, rfl⟩
    refine ow_slots (L' := [(7, .string r21.1), (11, .int .i64 (IntKind.i64.wrap (bt r21.1 8))), (12, .int .i64 r30), (37, .bool false)]) (by rw [h33]) ?_
    refine ow_vals 4 (j := 8) [7, 11, 12, 41] [(7, .string r21.1), (11, .int .i64 (IntKind.i64.wrap (bt r21.1 8))), (12, .int .i64 r30), (41, .bool (decide (r30 < 4294967296)))] rfl (by kernel_rfl) ?_
    rcases if_some hF with ⟨h34, hF⟩ | ⟨h34, hF⟩
    · refine ow_slots (L' := [(7, .string r21.1), (11, .int .i64 (IntKind.i64.wrap (bt r21.1 8))), (12, .int .i64 r30), (41, .bool true)]) (by rw [h34]) ?_
      refine ow_vals 11 (j := 19) [7, 11, 12, 52] [(7, .string r21.1), (11, .int .i64 (IntKind.i64.wrap (bt r21.1 8))), (12, .int .i64 r30), (52, .bool true)] rfl (by kernel_rfl) ?_
      refine ow_end rfl ?_
      refine ew_then ?_
      refine cw_cond_t rfl rfl rfl ?_
      refine cw_seq ?_
      refine cw_region ?_
      refine ow_vals 3 (j := 3) [4, 5, 6] [(4, .string (ByteArray.mk #[])), (5, .int .i64 0), (6, .int .i64 17)] rfl (by kernel_rfl) ?_
      refine ow_end rfl ?_
      refine ew_then ?_
      refine cw_ret ?_
      refine ew_then_ret ?_
      have hR := Option.some.inj hF
      subst hR
      have hR := hK32
      try dsimp only [Thru] at hR
      subst hR
      exact fin3 (H1 := [imm I, pt b0 #[.slice p0 m0.sure_.length c0, .map (some p1), .bool m0.off_, .bool m0.armed_, .int .i64 m0.left_, .int .u64 m0.fall_.Keep, .int .i64 m0.fall_.Tear, .int .i64 m0.acts_, .int .i64 m0.falls_] 52, own e_disk_sector 55 p0 c0 m0.sure_, mpo (kInt .i64) (fun x : disk_sector => Value.agg #[.string x.s_, .int .i64 x.at_]) p1 m0.wait_]) (fun w hs => sat_to [0, 0, 0, 0] 0 rfl hs) rfl (rr_tmp rfl) (rr_tmp rfl) (rr_tmp rfl) ⟨rfl, rfl⟩
    refine ow_slots (L' := [(7, .string r21.1), (11, .int .i64 (IntKind.i64.wrap (bt r21.1 8))), (12, .int .i64 r30), (41, .bool false)]) (by rw [h34]) ?_
    refine ow_vals 4 (j := 12) [7, 11, 12, 45] [(7, .string r21.1), (11, .int .i64 (IntKind.i64.wrap (bt r21.1 8))), (12, .int .i64 r30), (45, .bool (decide ((IntKind.i64.wrap (bt r21.1 8)) > 47)))] rfl (by kernel_rfl) ?_
    rcases if_some hF with ⟨h35, hF⟩ | ⟨h35, hF⟩
    · refine ow_slots (L' := [(7, .string r21.1), (11, .int .i64 (IntKind.i64.wrap (bt r21.1 8))), (12, .int .i64 r30), (45, .bool true)]) (by rw [h35]) ?_
      refine ow_vals 7 (j := 19) [7, 11, 12, 52] [(7, .string r21.1), (11, .int .i64 (IntKind.i64.wrap (bt r21.1 8))), (12, .int .i64 r30), (52, .bool true)] rfl (by kernel_rfl) ?_
      refine ow_end rfl ?_
      refine ew_then ?_
      refine cw_cond_t rfl rfl rfl ?_
      refine cw_seq ?_
      refine cw_region ?_
      refine ow_vals 3 (j := 3) [4, 5, 6] [(4, .string (ByteArray.mk #[])), (5, .int .i64 0), (6, .int .i64 17)] rfl (by kernel_rfl) ?_
      refine ow_end rfl ?_
      refine ew_then ?_
      refine cw_ret ?_
      refine ew_then_ret ?_
      have hR := Option.some.inj hF
      subst hR
      have hR := hK32
      try dsimp only [Thru] at hR
      subst hR
      exact fin3 (H1 := [imm I, pt b0 #[.slice p0 m0.sure_.length c0, .map (some p1), .bool m0.off_, .bool m0.armed_, .int .i64 m0.left_, .int .u64 m0.fall_.Keep, .int .i64 m0.fall_.Tear, .int .i64 m0.acts_, .int .i64 m0.falls_] 52, own e_disk_sector 55 p0 c0 m0.sure_, mpo (kInt .i64) (fun x : disk_sector => Value.agg #[.string x.s_, .int .i64 x.at_]) p1 m0.wait_]) (fun w hs => sat_to [0, 0, 0, 0] 0 rfl hs) rfl (rr_tmp rfl) (rr_tmp rfl) (rr_tmp rfl) ⟨rfl, rfl⟩
    refine ow_slots (L' := [(7, .string r21.1), (11, .int .i64 (IntKind.i64.wrap (bt r21.1 8))), (12, .int .i64 r30), (45, .bool false)]) (by rw [h35]) ?_
    refine ow_vals 3 (j := 15) [7, 11, 12, 45, 46, 48] [(7, .string r21.1), (11, .int .i64 (IntKind.i64.wrap (bt r21.1 8))), (12, .int .i64 r30), (45, .bool false), (46, .string r21.1), (48, .int .i64 (IntKind.i64.wrap (9 + (IntKind.i64.wrap (bt r21.1 8)))))] rfl (by kernel_rfl) ?_
    obtain ⟨h36, hF⟩ := chk_some hF
    refine ow_pw rfl (pw_quiet (v := .string (r21.1.extract (IntKind.i64.wrap (9 + (IntKind.i64.wrap (bt r21.1 8)))).toNat (56 : Int).toNat)) rfl rfl rfl rfl (q_slice_str rfl (by kernel_rfl) rfl rfl rfl h36.1 h36.2.1 h36.2.2) (nw_ow ?_))
    obtain ⟨r37, h38, hF⟩ := bind_some hF
    refine ow_pw rfl (pw_call (F := [pt b0 #[.slice p0 m0.sure_.length c0, .map (some p1), .bool m0.off_, .bool m0.armed_, .int .i64 m0.left_, .int .u64 m0.fall_.Keep, .int .i64 m0.fall_.Tear, .int .i64 m0.acts_, .int .i64 m0.falls_] 52, own e_disk_sector 55 p0 c0 m0.sure_, mpo (kInt .i64) (fun x : disk_sector => Value.agg #[.string x.s_, .int .i64 x.at_]) p1 m0.wait_] ++ F0) rfl rfl rfl rfl rfl rfl rfl (by kernel_rfl) (perm_of_pulls [0] rfl) (c_strings_Trim _ (r21.1.extract (IntKind.i64.wrap (9 + (IntKind.i64.wrap (bt r21.1 8)))).toNat (56 : Int).toNat) (ByteArray.mk #[0]) r37 h38) ?_)
    rintro _ _ ⟨rfl, rfl⟩
    refine nw_H (H' := [imm I, pt b0 #[.slice p0 m0.sure_.length c0, .map (some p1), .bool m0.off_, .bool m0.armed_, .int .i64 m0.left_, .int .u64 m0.fall_.Keep, .int .i64 m0.fall_.Tear, .int .i64 m0.acts_, .int .i64 m0.falls_] 52, own e_disk_sector 55 p0 c0 m0.sure_, mpo (kInt .i64) (fun x : disk_sector => Value.agg #[.string x.s_, .int .i64 x.at_]) p1 m0.wait_] ++ F0) rfl (nw_ow ?_)
    refine ow_vals 2 (j := 19) [7, 11, 12, 52] [(7, .string r21.1), (11, .int .i64 (IntKind.i64.wrap (bt r21.1 8))), (12, .int .i64 r30), (52, .bool (!(seqB r37 (ByteArray.mk #[]))))] rfl (by kernel_rfl) ?_
    refine ow_end rfl ?_
    refine ew_then ?_
    rcases if_some hF with ⟨h39, hF⟩ | ⟨h39, hF⟩
    · refine cw_cond_t rfl rfl h39 ?_
      refine cw_seq ?_
      refine cw_region ?_
      refine ow_vals 3 (j := 3) [4, 5, 6] [(4, .string (ByteArray.mk #[])), (5, .int .i64 0), (6, .int .i64 17)] rfl (by kernel_rfl) ?_
      refine ow_end rfl ?_
      refine ew_then ?_
      refine cw_ret ?_
      refine ew_then_ret ?_
      have hR := Option.some.inj hF
      subst hR
      have hR := hK32
      try dsimp only [Thru] at hR
      subst hR
      exact fin3 (H1 := [imm I, pt b0 #[.slice p0 m0.sure_.length c0, .map (some p1), .bool m0.off_, .bool m0.armed_, .int .i64 m0.left_, .int .u64 m0.fall_.Keep, .int .i64 m0.fall_.Tear, .int .i64 m0.acts_, .int .i64 m0.falls_] 52, own e_disk_sector 55 p0 c0 m0.sure_, mpo (kInt .i64) (fun x : disk_sector => Value.agg #[.string x.s_, .int .i64 x.at_]) p1 m0.wait_]) (fun w hs => sat_to [0, 0, 0, 0] 0 rfl hs) rfl (rr_tmp rfl) (rr_tmp rfl) (rr_tmp rfl) ⟨rfl, rfl⟩
    refine cw_cond_f rfl rfl h39 ?_
    refine cw_skip ?_
    have hR := Option.some.inj hF
    exact fun a w hf hs => ⟨hR, hf.keep [7, 11, 12], sat_to [0, 0, 0, 0] 0 rfl hs⟩
  rintro a w ⟨hv, hf, hs⟩
  subst hv
  replace hF := hK32
  clear hK32
  try dsimp only [Thru] at hF
  revert a w
  show CW _ _ _ 58 [(7, .string r21.1), (11, .int .i64 (IntKind.i64.wrap (bt r21.1 8))), (12, .int .i64 r30)] (SAT w0 ([imm I, pt b0 #[.slice p0 m0.sure_.length c0, .map (some p1), .bool m0.off_, .bool m0.armed_, .int .i64 m0.left_, .int .u64 m0.fall_.Keep, .int .i64 m0.fall_.Tear, .int .i64 m0.acts_, .int .i64 m0.falls_] 52, own e_disk_sector 55 p0 c0 m0.sure_, mpo (kInt .i64) (fun x : disk_sector => Value.agg #[.string x.s_, .int .i64 x.at_]) p1 m0.wait_] ++ F0))
  unfold F.guard_Read.r1 at hF
  refine cw_seq ?_
  refine cw_region ?_
  refine ow_vals 3 (j := 3) [12, 53, 55] [(12, .int .i64 r30), (53, .string r21.1), (55, .int .i64 (IntKind.i64.wrap (9 + (IntKind.i64.wrap (bt r21.1 8)))))] rfl (by kernel_rfl) ?_
  obtain ⟨h40, hF⟩ := chk_some hF
  refine ow_pw rfl (pw_quiet (v := .string (r21.1.extract (9 : Int).toNat (IntKind.i64.wrap (9 + (IntKind.i64.wrap (bt r21.1 8)))).toNat)) rfl rfl rfl rfl (q_slice_str rfl (by kernel_rfl) rfl rfl rfl h40.1 h40.2.1 h40.2.2) (nw_ow ?_))
  refine ow_vals 4 (j := 8) [4, 5, 6] [(4, .string (r21.1.extract (9 : Int).toNat (IntKind.i64.wrap (9 + (IntKind.i64.wrap (bt r21.1 8)))).toNat)), (5, .int .i64 r30), (6, .int .i64 0)] rfl (by kernel_rfl) ?_
  refine ow_end rfl ?_
  refine ew_then ?_
  refine cw_ret ?_
  have hR := Option.some.inj hF
  subst hR
  exact fin3 (H1 := [imm I, pt b0 #[.slice p0 m0.sure_.length c0, .map (some p1), .bool m0.off_, .bool m0.armed_, .int .i64 m0.left_, .int .u64 m0.fall_.Keep, .int .i64 m0.fall_.Tear, .int .i64 m0.acts_, .int .i64 m0.falls_] 52, own e_disk_sector 55 p0 c0 m0.sure_, mpo (kInt .i64) (fun x : disk_sector => Value.agg #[.string x.s_, .int .i64 x.at_]) p1 m0.wait_]) (fun w hs => sat_to [0, 0, 0, 0] 0 rfl hs) rfl (rr_tmp rfl) (rr_tmp rfl) (rr_tmp rfl) ⟨rfl, rfl⟩


def F.guard_Guard_Get (x1 : Int) (m0 : guard_Guard) (m1 : disk_Disk) : Option (ByteArray × Int × Int) :=
  Option.bind (F.guard_Guard_none m0 m1) (fun (r21 : Unit) => Option.bind (F.guard_Read x1 m1) (fun (r23 : ByteArray × Int × Int) => some ((r23.1, r23.2.1, r23.2.2))))
set_option maxRecDepth 100000 in
set_option maxHeartbeats 4000000 in
theorem c_guard_Guard_Get (I : Hl) (x1 : Int) (m0 : guard_Guard) (m1 : disk_Disk) (b0 : Nat) (p0 : Option Addr) (c0 : Nat) (p1 : Nat) (b1 : Nat) (res : ByteArray × Int × Int) (hF : F.guard_Guard_Get x1 m0 m1 = some res) : Tr Tryz.prog 35 [.pointer (some ⟨b0, 0, none⟩), .int .i64 x1] [imm I, pt b0 #[.pointer (some ⟨b1, 0, none⟩), .int .i64 m0.boot_, .int .i64 m0.n_] 75, pt b1 #[.slice p0 m1.sure_.length c0, .map (some p1), .bool m1.off_, .bool m1.armed_, .int .i64 m1.left_, .int .u64 m1.fall_.Keep, .int .i64 m1.fall_.Tear, .int .i64 m1.acts_, .int .i64 m1.falls_] 52, own e_disk_sector 55 p0 c0 m1.sure_, mpo (kInt .i64) (fun x : disk_sector => Value.agg #[.string x.s_, .int .i64 x.at_]) p1 m1.wait_] (fun r H' => r = .tuple #[.string res.1, .int .i64 res.2.1, .int .i64 res.2.2] ∧ H' = [imm I, pt b0 #[.pointer (some ⟨b1, 0, none⟩), .int .i64 m0.boot_, .int .i64 m0.n_] 75, pt b1 #[.slice p0 m1.sure_.length c0, .map (some p1), .bool m1.off_, .bool m1.armed_, .int .i64 m1.left_, .int .u64 m1.fall_.Keep, .int .i64 m1.fall_.Tear, .int .i64 m1.acts_, .int .i64 m1.falls_] 52, own e_disk_sector 55 p0 c0 m1.sure_, mpo (kInt .i64) (fun x : disk_sector => Value.agg #[.string x.s_, .int .i64 x.at_]) p1 m1.wait_]) := by
  unfold F.guard_Guard_Get at hF
  refine tr_of_cw (fn := Tryz.f35) Tryz.func35 rfl (Nat.le_of_ble_eq_true rfl) 18 rfl fun F0 w0 => ?_
  refine cw_keep [0, 1] (L' := [(0, .pointer (some ⟨b0, 0, none⟩)), (1, .int .i64 x1)]) rfl ?_
  refine cw_state (S' := SAT w0 ([imm I, pt b0 #[.pointer (some ⟨b1, 0, none⟩), .int .i64 m0.boot_, .int .i64 m0.n_] 75, pt b1 #[.slice p0 m1.sure_.length c0, .map (some p1), .bool m1.off_, .bool m1.armed_, .int .i64 m1.left_, .int .u64 m1.fall_.Keep, .int .i64 m1.fall_.Tear, .int .i64 m1.acts_, .int .i64 m1.falls_] 52, own e_disk_sector 55 p0 c0 m1.sure_, mpo (kInt .i64) (fun x : disk_sector => Value.agg #[.string x.s_, .int .i64 x.at_]) p1 m1.wait_] ++ F0)) (fun w hs => hs) ?_
  refine cw_seq ?_
  refine cw_region ?_
  refine ow_vals 3 (j := 3) [0, 1] [(0, .pointer (some ⟨b0, 0, none⟩)), (1, .int .i64 x1)] rfl (by kernel_rfl) ?_
  refine ow_end rfl ?_
  refine ew_then ?_
  refine cw_seq ?_
  refine cw_seq ?_
  refine cw_region ?_
  refine ow_vals 1 (j := 1) [0, 1, 7] [(0, .pointer (some ⟨b0, 0, none⟩)), (1, .int .i64 x1), (7, .pointer (some ⟨b0, 0, none⟩))] rfl (by kernel_rfl) ?_
  obtain ⟨r21, h22, hF⟩ := bind_some hF
  refine ow_pw rfl (pw_call (F := [] ++ F0) rfl rfl rfl rfl rfl rfl rfl (by kernel_rfl) (perm_of_pulls [0, 0, 0, 0, 0] rfl) (c_guard_Guard_none _ m0 m1 b0 p0 c0 p1 b1 r21 h22) ?_)
  rintro _ _ ⟨rfl, rfl⟩
  refine nw_H (H' := [imm I, pt b0 #[.pointer (some ⟨b1, 0, none⟩), .int .i64 m0.boot_, .int .i64 m0.n_] 75, pt b1 #[.slice p0 m1.sure_.length c0, .map (some p1), .bool m1.off_, .bool m1.armed_, .int .i64 m1.left_, .int .u64 m1.fall_.Keep, .int .i64 m1.fall_.Tear, .int .i64 m1.acts_, .int .i64 m1.falls_] 52, own e_disk_sector 55 p0 c0 m1.sure_, mpo (kInt .i64) (fun x : disk_sector => Value.agg #[.string x.s_, .int .i64 x.at_]) p1 m1.wait_] ++ F0) rfl (nw_ow ?_)
  refine ow_end rfl ?_
  refine ew_then ?_
  refine cw_cond_f rfl rfl rfl ?_
  refine cw_skip ?_
  refine ew_then ?_
  refine cw_seq ?_
  refine cw_region ?_
  refine ow_vals 3 (j := 3) [1, 11] [(1, .int .i64 x1), (11, .pointer (some ⟨b0, 0, none⟩))] rfl (by kernel_rfl) ?_
  refine ow_pw rfl (pw_quiet (v := .pointer (some ⟨b1, 0, none⟩)) rfl rfl rfl rfl (q_load 1 rfl rfl rfl (by kernel_rfl)) (nw_ow ?_))
  refine ow_vals 1 (j := 5) [12, 13] [(12, .pointer (some ⟨b1, 0, none⟩)), (13, .int .i64 x1)] rfl (by kernel_rfl) ?_
  obtain ⟨r23, h24, hF⟩ := bind_some hF
  refine ow_pw rfl (pw_call (F := [pt b0 #[.pointer (some ⟨b1, 0, none⟩), .int .i64 m0.boot_, .int .i64 m0.n_] 75] ++ F0) rfl rfl rfl rfl rfl rfl rfl (by kernel_rfl) (perm_of_pulls [0, 1, 1, 1] rfl) (c_guard_Read _ x1 m1 p0 c0 p1 b1 r23 h24) ?_)
  rintro _ _ ⟨rfl, rfl⟩
  refine nw_H (H' := [imm I, pt b1 #[.slice p0 m1.sure_.length c0, .map (some p1), .bool m1.off_, .bool m1.armed_, .int .i64 m1.left_, .int .u64 m1.fall_.Keep, .int .i64 m1.fall_.Tear, .int .i64 m1.acts_, .int .i64 m1.falls_] 52, own e_disk_sector 55 p0 c0 m1.sure_, mpo (kInt .i64) (fun x : disk_sector => Value.agg #[.string x.s_, .int .i64 x.at_]) p1 m1.wait_, pt b0 #[.pointer (some ⟨b1, 0, none⟩), .int .i64 m0.boot_, .int .i64 m0.n_] 75] ++ F0) rfl (nw_ow ?_)
  refine ow_vals 6 (j := 12) [4, 5, 6] [(4, .string r23.1), (5, .int .i64 r23.2.1), (6, .int .i64 r23.2.2)] rfl (by kernel_rfl) ?_
  refine ow_end rfl ?_
  refine ew_then ?_
  refine cw_ret ?_
  have hR := Option.some.inj hF
  subst hR
  exact fin3 (H1 := [imm I, pt b0 #[.pointer (some ⟨b1, 0, none⟩), .int .i64 m0.boot_, .int .i64 m0.n_] 75, pt b1 #[.slice p0 m1.sure_.length c0, .map (some p1), .bool m1.off_, .bool m1.armed_, .int .i64 m1.left_, .int .u64 m1.fall_.Keep, .int .i64 m1.fall_.Tear, .int .i64 m1.acts_, .int .i64 m1.falls_] 52, own e_disk_sector 55 p0 c0 m1.sure_, mpo (kInt .i64) (fun x : disk_sector => Value.agg #[.string x.s_, .int .i64 x.at_]) p1 m1.wait_]) (fun w hs => sat_to [0, 3, 0, 0, 0] 0 rfl hs) rfl (rr_tmp rfl) (rr_tmp rfl) (rr_tmp rfl) ⟨rfl, rfl⟩


def F.guard_Guard_Blank (x1 : Int) (m0 : guard_Guard) (m1 : disk_Disk) : Option Bool :=
  Option.bind (F.guard_Guard_none m0 m1) (fun (r21 : Unit) => Option.bind (F.guard_Guard_Get x1 m0 m1) (fun (r23 : ByteArray × Int × Int) => some ((r23.2.2 == 7))))
set_option maxRecDepth 100000 in
set_option maxHeartbeats 4000000 in
theorem c_guard_Guard_Blank (I : Hl) (x1 : Int) (m0 : guard_Guard) (m1 : disk_Disk) (b0 : Nat) (p0 : Option Addr) (c0 : Nat) (p1 : Nat) (b1 : Nat) (res : Bool) (hF : F.guard_Guard_Blank x1 m0 m1 = some res) : Tr Tryz.prog 40 [.pointer (some ⟨b0, 0, none⟩), .int .i64 x1] [imm I, pt b0 #[.pointer (some ⟨b1, 0, none⟩), .int .i64 m0.boot_, .int .i64 m0.n_] 75, pt b1 #[.slice p0 m1.sure_.length c0, .map (some p1), .bool m1.off_, .bool m1.armed_, .int .i64 m1.left_, .int .u64 m1.fall_.Keep, .int .i64 m1.fall_.Tear, .int .i64 m1.acts_, .int .i64 m1.falls_] 52, own e_disk_sector 55 p0 c0 m1.sure_, mpo (kInt .i64) (fun x : disk_sector => Value.agg #[.string x.s_, .int .i64 x.at_]) p1 m1.wait_] (fun r H' => r = .bool res ∧ H' = [imm I, pt b0 #[.pointer (some ⟨b1, 0, none⟩), .int .i64 m0.boot_, .int .i64 m0.n_] 75, pt b1 #[.slice p0 m1.sure_.length c0, .map (some p1), .bool m1.off_, .bool m1.armed_, .int .i64 m1.left_, .int .u64 m1.fall_.Keep, .int .i64 m1.fall_.Tear, .int .i64 m1.acts_, .int .i64 m1.falls_] 52, own e_disk_sector 55 p0 c0 m1.sure_, mpo (kInt .i64) (fun x : disk_sector => Value.agg #[.string x.s_, .int .i64 x.at_]) p1 m1.wait_]) := by
  unfold F.guard_Guard_Blank at hF
  refine tr_of_cw (fn := Tryz.f40) Tryz.func40 rfl (Nat.le_of_ble_eq_true rfl) 19 rfl fun F0 w0 => ?_
  refine cw_keep [0, 1] (L' := [(0, .pointer (some ⟨b0, 0, none⟩)), (1, .int .i64 x1)]) rfl ?_
  refine cw_state (S' := SAT w0 ([imm I, pt b0 #[.pointer (some ⟨b1, 0, none⟩), .int .i64 m0.boot_, .int .i64 m0.n_] 75, pt b1 #[.slice p0 m1.sure_.length c0, .map (some p1), .bool m1.off_, .bool m1.armed_, .int .i64 m1.left_, .int .u64 m1.fall_.Keep, .int .i64 m1.fall_.Tear, .int .i64 m1.acts_, .int .i64 m1.falls_] 52, own e_disk_sector 55 p0 c0 m1.sure_, mpo (kInt .i64) (fun x : disk_sector => Value.agg #[.string x.s_, .int .i64 x.at_]) p1 m1.wait_] ++ F0)) (fun w hs => hs) ?_
  refine cw_seq ?_
  refine cw_region ?_
  refine ow_vals 1 (j := 1) [0, 1] [(0, .pointer (some ⟨b0, 0, none⟩)), (1, .int .i64 x1)] rfl (by kernel_rfl) ?_
  refine ow_end rfl ?_
  refine ew_then ?_
  refine cw_seq ?_
  refine cw_seq ?_
  refine cw_region ?_
  refine ow_vals 1 (j := 1) [0, 1, 8] [(0, .pointer (some ⟨b0, 0, none⟩)), (1, .int .i64 x1), (8, .pointer (some ⟨b0, 0, none⟩))] rfl (by kernel_rfl) ?_
  obtain ⟨r21, h22, hF⟩ := bind_some hF
  refine ow_pw rfl (pw_call (F := [] ++ F0) rfl rfl rfl rfl rfl rfl rfl (by kernel_rfl) (perm_of_pulls [0, 0, 0, 0, 0] rfl) (c_guard_Guard_none _ m0 m1 b0 p0 c0 p1 b1 r21 h22) ?_)
  rintro _ _ ⟨rfl, rfl⟩
  refine nw_H (H' := [imm I, pt b0 #[.pointer (some ⟨b1, 0, none⟩), .int .i64 m0.boot_, .int .i64 m0.n_] 75, pt b1 #[.slice p0 m1.sure_.length c0, .map (some p1), .bool m1.off_, .bool m1.armed_, .int .i64 m1.left_, .int .u64 m1.fall_.Keep, .int .i64 m1.fall_.Tear, .int .i64 m1.acts_, .int .i64 m1.falls_] 52, own e_disk_sector 55 p0 c0 m1.sure_, mpo (kInt .i64) (fun x : disk_sector => Value.agg #[.string x.s_, .int .i64 x.at_]) p1 m1.wait_] ++ F0) rfl (nw_ow ?_)
  refine ow_end rfl ?_
  refine ew_then ?_
  refine cw_cond_f rfl rfl rfl ?_
  refine cw_skip ?_
  refine ew_then ?_
  refine cw_seq ?_
  refine cw_region ?_
  refine ow_vals 2 (j := 2) [11, 12] [(11, .pointer (some ⟨b0, 0, none⟩)), (12, .int .i64 x1)] rfl (by kernel_rfl) ?_
  obtain ⟨r23, h24, hF⟩ := bind_some hF
  refine ow_pw rfl (pw_call (F := [] ++ F0) rfl rfl rfl rfl rfl rfl rfl (by kernel_rfl) (perm_of_pulls [0, 0, 0, 0, 0] rfl) (c_guard_Guard_Get _ x1 m0 m1 b0 p0 c0 p1 b1 r23 h24) ?_)
  rintro _ _ ⟨rfl, rfl⟩
  refine nw_H (H' := [imm I, pt b0 #[.pointer (some ⟨b1, 0, none⟩), .int .i64 m0.boot_, .int .i64 m0.n_] 75, pt b1 #[.slice p0 m1.sure_.length c0, .map (some p1), .bool m1.off_, .bool m1.armed_, .int .i64 m1.left_, .int .u64 m1.fall_.Keep, .int .i64 m1.fall_.Tear, .int .i64 m1.acts_, .int .i64 m1.falls_] 52, own e_disk_sector 55 p0 c0 m1.sure_, mpo (kInt .i64) (fun x : disk_sector => Value.agg #[.string x.s_, .int .i64 x.at_]) p1 m1.wait_] ++ F0) rfl (nw_ow ?_)
  refine ow_vals 7 (j := 10) [7] [(7, .int .i64 r23.2.2)] rfl (by kernel_rfl) ?_
  refine ow_end rfl ?_
  refine ew_then ?_
  refine cw_seq ?_
  refine cw_region ?_
  refine ow_vals 3 (j := 3) [4] [(4, .bool (r23.2.2 == 7))] rfl (by kernel_rfl) ?_
  refine ow_end rfl ?_
  refine ew_then ?_
  refine cw_ret ?_
  have hR := Option.some.inj hF
  subst hR
  exact fin1 (H1 := [imm I, pt b0 #[.pointer (some ⟨b1, 0, none⟩), .int .i64 m0.boot_, .int .i64 m0.n_] 75, pt b1 #[.slice p0 m1.sure_.length c0, .map (some p1), .bool m1.off_, .bool m1.armed_, .int .i64 m1.left_, .int .u64 m1.fall_.Keep, .int .i64 m1.fall_.Tear, .int .i64 m1.acts_, .int .i64 m1.falls_] 52, own e_disk_sector 55 p0 c0 m1.sure_, mpo (kInt .i64) (fun x : disk_sector => Value.agg #[.string x.s_, .int .i64 x.at_]) p1 m1.wait_]) (fun w hs => sat_to [0, 0, 0, 0, 0] 0 rfl hs) rfl (rr_tmp rfl) ⟨rfl, rfl⟩


def F.keyring_Ring_Free (x1 : Int) (m0 : keyring_Ring) (m1 : guard_Guard) (m2 : disk_Disk) : Option Bool :=
  Option.bind (F.keyring_Ring_why x1 m0 m1 m2) (fun (r21 : Int) => if r21 == 0 then (Option.bind (F.guard_Guard_Blank (IntKind.i64.wrap (m0.base_ + x1)) m1 m2) (fun (r24 : Bool) => some (r24))) else (some (false)))
set_option maxRecDepth 100000 in
set_option maxHeartbeats 4000000 in
theorem c_keyring_Ring_Free (I : Hl) (x1 : Int) (m0 : keyring_Ring) (m1 : guard_Guard) (m2 : disk_Disk) (b0 : Nat) (b1 : Nat) (p0 : Option Addr) (c0 : Nat) (p1 : Nat) (b2 : Nat) (res : Bool) (hF : F.keyring_Ring_Free x1 m0 m1 m2 = some res) : Tr Tryz.prog 28 [.pointer (some ⟨b0, 0, none⟩), .int .i64 x1] [imm I, pt b0 #[.pointer (some ⟨b1, 0, none⟩), .int .i64 m0.base_, .int .i64 m0.slots_, .int .i64 m0.shred_] 78, pt b1 #[.pointer (some ⟨b2, 0, none⟩), .int .i64 m1.boot_, .int .i64 m1.n_] 75, pt b2 #[.slice p0 m2.sure_.length c0, .map (some p1), .bool m2.off_, .bool m2.armed_, .int .i64 m2.left_, .int .u64 m2.fall_.Keep, .int .i64 m2.fall_.Tear, .int .i64 m2.acts_, .int .i64 m2.falls_] 52, own e_disk_sector 55 p0 c0 m2.sure_, mpo (kInt .i64) (fun x : disk_sector => Value.agg #[.string x.s_, .int .i64 x.at_]) p1 m2.wait_] (fun r H' => r = .bool res ∧ H' = [imm I, pt b0 #[.pointer (some ⟨b1, 0, none⟩), .int .i64 m0.base_, .int .i64 m0.slots_, .int .i64 m0.shred_] 78, pt b1 #[.pointer (some ⟨b2, 0, none⟩), .int .i64 m1.boot_, .int .i64 m1.n_] 75, pt b2 #[.slice p0 m2.sure_.length c0, .map (some p1), .bool m2.off_, .bool m2.armed_, .int .i64 m2.left_, .int .u64 m2.fall_.Keep, .int .i64 m2.fall_.Tear, .int .i64 m2.acts_, .int .i64 m2.falls_] 52, own e_disk_sector 55 p0 c0 m2.sure_, mpo (kInt .i64) (fun x : disk_sector => Value.agg #[.string x.s_, .int .i64 x.at_]) p1 m2.wait_]) := by
  unfold F.keyring_Ring_Free at hF
  refine tr_of_cw (fn := Tryz.f28) Tryz.func28 rfl (Nat.le_of_ble_eq_true rfl) 22 rfl fun F0 w0 => ?_
  refine cw_keep [0, 1] (L' := [(0, .pointer (some ⟨b0, 0, none⟩)), (1, .int .i64 x1)]) rfl ?_
  refine cw_state (S' := SAT w0 ([imm I, pt b0 #[.pointer (some ⟨b1, 0, none⟩), .int .i64 m0.base_, .int .i64 m0.slots_, .int .i64 m0.shred_] 78, pt b1 #[.pointer (some ⟨b2, 0, none⟩), .int .i64 m1.boot_, .int .i64 m1.n_] 75, pt b2 #[.slice p0 m2.sure_.length c0, .map (some p1), .bool m2.off_, .bool m2.armed_, .int .i64 m2.left_, .int .u64 m2.fall_.Keep, .int .i64 m2.fall_.Tear, .int .i64 m2.acts_, .int .i64 m2.falls_] 52, own e_disk_sector 55 p0 c0 m2.sure_, mpo (kInt .i64) (fun x : disk_sector => Value.agg #[.string x.s_, .int .i64 x.at_]) p1 m2.wait_] ++ F0)) (fun w hs => hs) ?_
  refine cw_seq ?_
  refine cw_region ?_
  refine ow_vals 1 (j := 1) [0, 1] [(0, .pointer (some ⟨b0, 0, none⟩)), (1, .int .i64 x1)] rfl (by kernel_rfl) ?_
  refine ow_end rfl ?_
  refine ew_then ?_
  refine cw_seq ?_
  refine cw_open 18 (SAT w0 ([imm I, pt b0 #[.pointer (some ⟨b1, 0, none⟩), .int .i64 m0.base_, .int .i64 m0.slots_, .int .i64 m0.shred_] 78, pt b1 #[.pointer (some ⟨b2, 0, none⟩), .int .i64 m1.boot_, .int .i64 m1.n_] 75, pt b2 #[.slice p0 m2.sure_.length c0, .map (some p1), .bool m2.off_, .bool m2.armed_, .int .i64 m2.left_, .int .u64 m2.fall_.Keep, .int .i64 m2.fall_.Tear, .int .i64 m2.acts_, .int .i64 m2.falls_] 52, own e_disk_sector 55 p0 c0 m2.sure_, mpo (kInt .i64) (fun x : disk_sector => Value.agg #[.string x.s_, .int .i64 x.at_]) p1 m2.wait_])) (by kernel_rfl) (f := 18) rfl (fun w hs => sat_drew hs) ?_
  refine aw_vals [0, 1] (f' := 16) (m' := 3) [0, 1, 5, 6] [(0, .pointer (some ⟨b0, 0, none⟩)), (1, .int .i64 x1), (5, .pointer (some ⟨b0, 0, none⟩)), (6, .int .i64 x1)] (fun _ _ _ _ _ h => calm_fin (P := Tryz.prog) (fn := Tryz.f28) _ _ _ _ _ h) (fun w hs => sat_pulls [0, 0, 0, 0, 0, 0] (G := [] ++ F0) rfl hs) rfl (by kernel_rfl) ?_
  obtain ⟨r21, h22, hF⟩ := bind_some hF
  refine aw_only 2 (m' := 7) (by kernel_rfl) (by kernel_rfl) (pw_call (F := [] ++ F0) rfl rfl rfl rfl rfl rfl rfl (by kernel_rfl) (perm_of_pulls [0, 0, 0, 0, 0, 0] rfl) (c_keyring_Ring_why _ x1 m0 m1 m2 b0 b1 p0 c0 p1 b2 r21 h22) ?_)
  rintro _ _ ⟨rfl, rfl⟩
  refine nw_H (H' := [imm I, pt b0 #[.pointer (some ⟨b1, 0, none⟩), .int .i64 m0.base_, .int .i64 m0.slots_, .int .i64 m0.shred_] 78, pt b1 #[.pointer (some ⟨b2, 0, none⟩), .int .i64 m1.boot_, .int .i64 m1.n_] 75, pt b2 #[.slice p0 m2.sure_.length c0, .map (some p1), .bool m2.off_, .bool m2.armed_, .int .i64 m2.left_, .int .u64 m2.fall_.Keep, .int .i64 m2.fall_.Tear, .int .i64 m2.acts_, .int .i64 m2.falls_] 52, own e_disk_sector 55 p0 c0 m2.sure_, mpo (kInt .i64) (fun x : disk_sector => Value.agg #[.string x.s_, .int .i64 x.at_]) p1 m2.wait_] ++ F0) rfl (aw_next (fun w hs => sat_pulls [0, 0, 0, 0, 0, 0] (G := [] ++ F0) rfl hs) ?_)
  refine aw_vals [3, 4] (f' := 13) (m' := 31) [0, 1, 9] [(0, .pointer (some ⟨b0, 0, none⟩)), (1, .int .i64 x1), (9, .bool (r21 == 0))] (fun _ _ _ _ _ h => calm_fin (P := Tryz.prog) (fn := Tryz.f28) _ _ _ _ _ h) (fun w hs => sat_pulls [0, 0, 0, 0, 0, 0] (G := [] ++ F0) rfl hs) rfl (by kernel_rfl) ?_
  rcases if_some hF with ⟨h23, hF⟩ | ⟨h23, hF⟩
  · refine aw_slots (L' := [(0, .pointer (some ⟨b0, 0, none⟩)), (1, .int .i64 x1), (9, .bool true)]) (by rw [h23]) ?_
    refine aw_vals [5, 6, 7, 9, 10, 11, 13] (f' := 6) (m' := 12031) [9, 12, 16, 18] [(9, .bool true), (12, .pointer (some ⟨b0, 0, none⟩)), (16, .pointer (some ⟨b0, 1, none⟩)), (18, .int .i64 x1)] (fun _ _ _ _ _ h => calm_fin (P := Tryz.prog) (fn := Tryz.f28) _ _ _ _ _ h) (fun w hs => sat_pulls [0, 0, 0, 0, 0, 0] (G := [] ++ F0) rfl hs) rfl (by kernel_rfl) ?_
    refine aw_quiet 8 (m' := 12287) (v := .pointer (some ⟨b1, 0, none⟩)) 0 [] rfl rfl rfl rfl (by kernel_rfl) (by kernel_rfl) (by kernel_rfl) (fun _ _ _ _ _ h => calm_fin (P := Tryz.prog) (fn := Tryz.f28) _ _ _ _ _ h) (fun w hs => sat_pulls [0, 0, 0, 0, 0, 0] (G := [] ++ F0) rfl hs) (q_load 1 rfl rfl rfl (by kernel_rfl)) ?_
    refine aw_quiet 12 (m' := 16383) (v := .int .i64 m0.base_) 0 [] rfl rfl rfl rfl (by kernel_rfl) (by kernel_rfl) (by kernel_rfl) (fun _ _ _ _ _ h => calm_fin (P := Tryz.prog) (fn := Tryz.f28) _ _ _ _ _ h) (fun w hs => sat_pulls [0, 0, 0, 0, 0, 0] (G := [] ++ F0) rfl hs) (q_load 1 rfl rfl rfl (by kernel_rfl)) ?_
    refine aw_vals [14] (f' := 3) (m' := 32767) [9, 13, 19] [(9, .bool true), (13, .pointer (some ⟨b1, 0, none⟩)), (19, .int .i64 (IntKind.i64.wrap (m0.base_ + x1)))] (fun _ _ _ _ _ h => calm_fin (P := Tryz.prog) (fn := Tryz.f28) _ _ _ _ _ h) (fun w hs => sat_pulls [0, 0, 0, 0, 0, 0] (G := [] ++ F0) rfl hs) rfl (by kernel_rfl) ?_
    obtain ⟨r24, h25, hF⟩ := bind_some hF
    refine aw_only 15 (m' := 65535) (by kernel_rfl) (by kernel_rfl) (pw_call (F := [pt b0 #[.pointer (some ⟨b1, 0, none⟩), .int .i64 m0.base_, .int .i64 m0.slots_, .int .i64 m0.shred_] 78] ++ F0) rfl rfl rfl rfl rfl rfl rfl (by kernel_rfl) (perm_of_pulls [0, 1, 1, 1, 1] rfl) (c_guard_Guard_Blank _ (IntKind.i64.wrap (m0.base_ + x1)) m1 m2 b1 p0 c0 p1 b2 r24 h25) ?_)
    rintro _ _ ⟨rfl, rfl⟩
    refine nw_H (H' := [imm I, pt b1 #[.pointer (some ⟨b2, 0, none⟩), .int .i64 m1.boot_, .int .i64 m1.n_] 75, pt b2 #[.slice p0 m2.sure_.length c0, .map (some p1), .bool m2.off_, .bool m2.armed_, .int .i64 m2.left_, .int .u64 m2.fall_.Keep, .int .i64 m2.fall_.Tear, .int .i64 m2.acts_, .int .i64 m2.falls_] 52, own e_disk_sector 55 p0 c0 m2.sure_, mpo (kInt .i64) (fun x : disk_sector => Value.agg #[.string x.s_, .int .i64 x.at_]) p1 m2.wait_, pt b0 #[.pointer (some ⟨b1, 0, none⟩), .int .i64 m0.base_, .int .i64 m0.slots_, .int .i64 m0.shred_] 78] ++ F0) rfl (aw_next (fun w hs => sat_pulls [0, 4, 0, 0, 0, 0] (G := [] ++ F0) rfl hs) ?_)
    refine aw_vals [16, 17] (f' := 0) (m' := 262143) [4] [(4, .bool r24)] (fun _ _ _ _ _ h => calm_fin (P := Tryz.prog) (fn := Tryz.f28) _ _ _ _ _ h) (fun w hs => sat_pulls [0, 4, 0, 0, 0, 0] (G := [] ++ F0) rfl hs) rfl (by kernel_rfl) ?_
    refine aw_keep [4] (L' := [(4, .bool r24)]) rfl ?_
    refine aw_end (by kernel_rfl) ?_
    refine ew_then ?_
    refine cw_ret ?_
    have hR := Option.some.inj hF
    subst hR
    exact fin1 (H1 := [imm I, pt b0 #[.pointer (some ⟨b1, 0, none⟩), .int .i64 m0.base_, .int .i64 m0.slots_, .int .i64 m0.shred_] 78, pt b1 #[.pointer (some ⟨b2, 0, none⟩), .int .i64 m1.boot_, .int .i64 m1.n_] 75, pt b2 #[.slice p0 m2.sure_.length c0, .map (some p1), .bool m2.off_, .bool m2.armed_, .int .i64 m2.left_, .int .u64 m2.fall_.Keep, .int .i64 m2.fall_.Tear, .int .i64 m2.acts_, .int .i64 m2.falls_] 52, own e_disk_sector 55 p0 c0 m2.sure_, mpo (kInt .i64) (fun x : disk_sector => Value.agg #[.string x.s_, .int .i64 x.at_]) p1 m2.wait_]) (fun w hs => sat_to [0, 4, 0, 0, 0, 0] 0 rfl hs) rfl (rr_tmp rfl) ⟨rfl, rfl⟩
  refine aw_slots (L' := [(0, .pointer (some ⟨b0, 0, none⟩)), (1, .int .i64 x1), (9, .bool false)]) (by rw [h23]) ?_
  refine aw_vals [5, 6, 7, 8, 9, 10, 11, 12, 13, 14, 15, 16, 17] (f' := 0) (m' := 262143) [4] [(4, .bool false)] (fun _ _ _ _ _ h => calm_fin (P := Tryz.prog) (fn := Tryz.f28) _ _ _ _ _ h) (fun w hs => sat_pulls [0, 0, 0, 0, 0, 0] (G := [] ++ F0) rfl hs) rfl (by kernel_rfl) ?_
  refine aw_keep [4] (L' := [(4, .bool false)]) rfl ?_
  refine aw_end (by kernel_rfl) ?_
  refine ew_then ?_
  refine cw_ret ?_
  have hR := Option.some.inj hF
  subst hR
  exact fin1 (H1 := [imm I, pt b0 #[.pointer (some ⟨b1, 0, none⟩), .int .i64 m0.base_, .int .i64 m0.slots_, .int .i64 m0.shred_] 78, pt b1 #[.pointer (some ⟨b2, 0, none⟩), .int .i64 m1.boot_, .int .i64 m1.n_] 75, pt b2 #[.slice p0 m2.sure_.length c0, .map (some p1), .bool m2.off_, .bool m2.armed_, .int .i64 m2.left_, .int .u64 m2.fall_.Keep, .int .i64 m2.fall_.Tear, .int .i64 m2.acts_, .int .i64 m2.falls_] 52, own e_disk_sector 55 p0 c0 m2.sure_, mpo (kInt .i64) (fun x : disk_sector => Value.agg #[.string x.s_, .int .i64 x.at_]) p1 m2.wait_]) (fun w hs => sat_to [0, 0, 0, 0, 0, 0] 0 rfl hs) rfl (rr_tmp rfl) ⟨rfl, rfl⟩


def F.guard_Eight.l1 (x0 : Int) (l27 : List Int) (x31 : Int) : Option (((List Int) × Int) ⊕ ((List Int))) :=
  if decide (x31 < ((List.replicate (8 : Int).toNat 0 : List Int).length : Int)) then (chk (0 ≤ (IntKind.i64.wrap (56 - (IntKind.i64.wrap (8 * x31))))) (Option.bind (at_ l27 x31) (fun (y34 : Int) => some (.inl (l27.set x31.toNat (IntKind.u8.wrap (x0.fdiv ((2 : Int) ^ (min (IntKind.i64.wrap (56 - (IntKind.i64.wrap (8 * x31)))).toNat 64)))), IntKind.i64.wrap (x31 + 1)))))) else (some (.inr (l27)))
def F.guard_Eight.r2 (l36 : List Int) : Option (ByteArray) :=
  some ((bstr l36))
def F.guard_Eight (x0 : Int) : Option ByteArray :=
  chk (0 ≤ (8 : Int) ∧ room (8 : Int).toNat 1) (Option.bind (iter (fun x => F.guard_Eight.l1 x0 x.1 x.2) FUEL ((List.replicate (8 : Int).toNat 0 : List Int), 0)) (fun x => F.guard_Eight.r2 x))
set_option maxRecDepth 100000 in
set_option maxHeartbeats 4000000 in
theorem c_guard_Eight (I : Hl) (x0 : Int) (res : ByteArray) (hF : F.guard_Eight x0 = some res) : Tr Tryz.prog 49 [.int .i64 x0] [imm I] (fun r H' => r = .string res ∧ H' = [imm I]) := by
  unfold F.guard_Eight at hF
  refine tr_of_cw (fn := Tryz.f49) Tryz.func49 rfl (Nat.le_of_ble_eq_true rfl) 23 rfl fun F0 w0 => ?_
  refine cw_keep [0] (L' := [(0, .int .i64 x0)]) rfl ?_
  refine cw_state (S' := SAT w0 ([imm I] ++ F0)) (fun w hs => hs) ?_
  refine cw_seq ?_
  refine cw_region ?_
  refine ow_vals 1 (j := 1) [0] [(0, .int .i64 x0)] rfl (by kernel_rfl) ?_
  refine ow_end rfl ?_
  refine ew_then ?_
  refine cw_seq ?_
  refine cw_region ?_
  obtain ⟨h21, hF⟩ := chk_some hF
  refine ow_pw rfl (pw_make (E := 5) (eInt .u8) 0 rfl rfl rfl rfl rfl (by kernel_rfl) (by kernel_rfl) rfl rfl rfl h21.1 (room_max h21.1 h21.2) (room_bytes h21.1 h21.2) fun p22 c23 => nw_ow ?_)
  refine ow_vals 1 (j := 2) [0, 3] [(0, .int .i64 x0), (3, .slice p22 (List.replicate (8 : Int).toNat 0 : List Int).length c23)] rfl (by kernel_rfl) ?_
  refine ow_end rfl ?_
  refine ew_then ?_
  obtain ⟨v25, hF, hK25⟩ := bind_some hF
  refine cw_mid (fun a w => ∃ (l36 : List Int), ∃ (p37 : Option Addr), ∃ (c38 : Nat), l36 = v25 ∧ Fr 23 [(3, .slice p37 l36.length c38)] a ∧ SAT w0 ([imm I, own (eInt .u8) 5 p37 c38 l36] ++ F0) w) ?_ ?_
  · refine cw_seq ?_
    refine cw_region ?_
    refine ow_vals 3 (j := 3) [0, 3, 7, 8] [(0, .int .i64 x0), (3, .slice p22 (List.replicate (8 : Int).toNat 0 : List Int).length c23), (7, .int .i64 ((List.replicate (8 : Int).toNat 0 : List Int).length : Int)), (8, .int .i64 0)] rfl (by kernel_rfl) ?_
    refine ow_end rfl ?_
    refine ew_then ?_
    refine cw_block ?_
    refine fun a w hf hs => wp_rounds (fun k a w => ∃ (l27 : List Int), ∃ (x31 : Int), ∃ (p28 : Option Addr), ∃ (c29 : Nat), iter (fun x => F.guard_Eight.l1 x0 x.1 x.2) k (l27, x31) = some v25 ∧ Fr 23 [(0, .int .i64 x0), (3, .slice p28 l27.length c29), (7, .int .i64 ((List.replicate (8 : Int).toNat 0 : List Int).length : Int)), (8, .int .i64 x31)] a ∧ SAT w0 ([imm I, own (eInt .u8) 5 p28 c29 l27] ++ F0) w) ?_ FUEL a w ⟨(List.replicate (8 : Int).toNat 0 : List Int), 0, p22, c23, hF, hf.keep [0, 3, 7, 8], sat_to [1, 0] 0 rfl hs⟩
    clear hf hs
    clear a w hF
    rintro k a w ⟨l27, x31, p28, c29, hF2, hf, hs⟩
    obtain ⟨k, r26, rfl, hF, hL26⟩ := iter_some hF2
    clear hF2
    revert a w
    show CW _ _ _ 23 [(0, .int .i64 x0), (3, .slice p28 l27.length c29), (7, .int .i64 ((List.replicate (8 : Int).toNat 0 : List Int).length : Int)), (8, .int .i64 x31)] (SAT w0 ([imm I, own (eInt .u8) 5 p28 c29 l27] ++ F0))
    try dsimp only at hF
    unfold F.guard_Eight.l1 at hF
    refine cw_seq ?_
    refine cw_region ?_
    refine ow_vals 1 (j := 1) [0, 3, 7, 8, 9] [(0, .int .i64 x0), (3, .slice p28 l27.length c29), (7, .int .i64 ((List.replicate (8 : Int).toNat 0 : List Int).length : Int)), (8, .int .i64 x31), (9, .bool (decide (x31 < ((List.replicate (8 : Int).toNat 0 : List Int).length : Int))))] rfl (by kernel_rfl) ?_
    refine ow_end rfl ?_
    refine ew_then ?_
    refine cw_seq ?_
    rcases if_some hF with ⟨h32, hF⟩ | ⟨h32, hF⟩
    · refine cw_cond_t rfl rfl h32 ?_
      refine cw_skip ?_
      refine ew_then ?_
      refine cw_seq ?_
      refine cw_block ?_
      refine cw_seq ?_
      refine cw_region ?_
      refine ow_vals 2 (j := 2) [0, 3, 4, 7, 8] [(0, .int .i64 x0), (3, .slice p28 l27.length c29), (4, .int .i64 x31), (7, .int .i64 ((List.replicate (8 : Int).toNat 0 : List Int).length : Int)), (8, .int .i64 x31)] rfl (by kernel_rfl) ?_
      refine ow_end rfl ?_
      refine ew_then ?_
      refine cw_region ?_
      refine ow_vals 6 (j := 6) [0, 3, 7, 8, 11, 12, 13, 16] [(0, .int .i64 x0), (3, .slice p28 l27.length c29), (7, .int .i64 ((List.replicate (8 : Int).toNat 0 : List Int).length : Int)), (8, .int .i64 x31), (11, .slice p28 l27.length c29), (12, .int .i64 x31), (13, .int .i64 x0), (16, .int .i64 (IntKind.i64.wrap (56 - (IntKind.i64.wrap (8 * x31)))))] rfl (by kernel_rfl) ?_
      obtain ⟨h33, hF⟩ := chk_some hF
      refine ow_pw rfl (pw_quiet (v := .int .i64 (x0.fdiv ((2 : Int) ^ (min (IntKind.i64.wrap (56 - (IntKind.i64.wrap (8 * x31)))).toNat 64)))) rfl rfl rfl rfl (q_shift_shr rfl rfl rfl h33) (nw_ow ?_))
      refine ow_vals 1 (j := 8) [0, 3, 7, 8, 11, 12, 18] [(0, .int .i64 x0), (3, .slice p28 l27.length c29), (7, .int .i64 ((List.replicate (8 : Int).toNat 0 : List Int).length : Int)), (8, .int .i64 x31), (11, .slice p28 l27.length c29), (12, .int .i64 x31), (18, .int .u8 (IntKind.u8.wrap (x0.fdiv ((2 : Int) ^ (min (IntKind.i64.wrap (56 - (IntKind.i64.wrap (8 * x31)))).toNat 64)))))] rfl (by kernel_rfl) ?_
      obtain ⟨y34, h35, hF⟩ := bind_some hF
      refine ow_pw rfl (pw_quiet (v := .pointer (some ((base p28).add (x31.toNat * 1)))) rfl rfl rfl rfl (q_index_own 1 1 rfl rfl (by kernel_rfl) rfl rfl (at_some h35).1 (at_lt h35)) (nw_ow ?_))
      refine ow_pw rfl (pw_store_own 1 1 (z' := IntKind.u8.wrap (x0.fdiv ((2 : Int) ^ (min (IntKind.i64.wrap (56 - (IntKind.i64.wrap (8 * x31)))).toNat 64)))) (off := 0) rfl rfl rfl rfl rfl rfl rfl rfl (at_some h35).2 (by kernel_rfl) (nw_H (H' := [imm I, own (eInt .u8) 5 p28 c29 (l27.set x31.toNat (IntKind.u8.wrap (x0.fdiv ((2 : Int) ^ (min (IntKind.i64.wrap (56 - (IntKind.i64.wrap (8 * x31)))).toNat 64)))))] ++ F0) (by first | rfl | (simp only [List.length_set]; rfl)) (nw_ow ?_)))
      refine ow_slots (L' := [(19, .pointer (some ((base p28).add (x31.toNat * 1)))), (0, .int .i64 x0), (3, .slice p28 (l27.set x31.toNat (IntKind.u8.wrap (x0.fdiv ((2 : Int) ^ (min (IntKind.i64.wrap (56 - (IntKind.i64.wrap (8 * x31)))).toNat 64))))).length c29), (7, .int .i64 ((List.replicate (8 : Int).toNat 0 : List Int).length : Int)), (8, .int .i64 x31), (11, .slice p28 (l27.set x31.toNat (IntKind.u8.wrap (x0.fdiv ((2 : Int) ^ (min (IntKind.i64.wrap (56 - (IntKind.i64.wrap (8 * x31)))).toNat 64))))).length c29), (12, .int .i64 x31), (18, .int .u8 (IntKind.u8.wrap (x0.fdiv ((2 : Int) ^ (min (IntKind.i64.wrap (56 - (IntKind.i64.wrap (8 * x31)))).toNat 64)))))]) (by first | rfl | (simp only [List.length_set]; rfl)) ?_
      refine ow_end rfl ?_
      refine ew_blk ?_
      refine ew_then ?_
      refine cw_region ?_
      refine ow_vals 2 (j := 2) [0, 3, 7, 8] [(0, .int .i64 x0), (3, .slice p28 (l27.set x31.toNat (IntKind.u8.wrap (x0.fdiv ((2 : Int) ^ (min (IntKind.i64.wrap (56 - (IntKind.i64.wrap (8 * x31)))).toNat 64))))).length c29), (7, .int .i64 ((List.replicate (8 : Int).toNat 0 : List Int).length : Int)), (8, .int .i64 (IntKind.i64.wrap (x31 + 1)))] rfl (by kernel_rfl) ?_
      refine ow_end rfl ?_
      have hR := Option.some.inj hF
      subst hR
      have hR := hL26
      try dsimp only at hR
      exact fun a w hf hs => ⟨k, Nat.lt_succ_self k, l27.set x31.toNat (IntKind.u8.wrap (x0.fdiv ((2 : Int) ^ (min (IntKind.i64.wrap (56 - (IntKind.i64.wrap (8 * x31)))).toNat 64)))), IntKind.i64.wrap (x31 + 1), p28, c29, hR, hf.keep [0, 3, 7, 8], sat_to [0, 0] 0 rfl hs⟩
    refine cw_cond_f rfl rfl h32 ?_
    refine cw_exit ?_
    refine ew_then_exit ?_
    refine ew_then_exit ?_
    refine ew_blk_exit ?_
    have hR := Option.some.inj hF
    subst hR
    have hR := hL26
    try dsimp only at hR
    exact fun a w hf hs => ⟨l27, p28, c29, hR, hf.keep [3], sat_to [0, 0] 0 rfl hs⟩
  rintro a w ⟨l36, p37, c38, hv, hf, hs⟩
  subst hv
  replace hF := hK25
  clear hK25
  try dsimp only at hF
  revert a w
  show CW _ _ _ 23 [(3, .slice p37 l36.length c38)] (SAT w0 ([imm I, own (eInt .u8) 5 p37 c38 l36] ++ F0))
  unfold F.guard_Eight.r2 at hF
  refine cw_seq ?_
  refine cw_region ?_
  refine ow_vals 1 (j := 1) [21] [(21, .slice p37 l36.length c38)] rfl (by kernel_rfl) ?_
  refine ow_pw rfl (pw_quiet (v := .string (bstr l36)) rfl rfl rfl rfl (q_bytes_str_own 1 rfl rfl (by kernel_rfl) (by kernel_rfl) rfl) (nw_ow ?_))
  refine ow_vals 1 (j := 3) [2] [(2, .string (bstr l36))] rfl (by kernel_rfl) ?_
  refine ow_end rfl ?_
  refine ew_then ?_
  refine cw_ret ?_
  have hR := Option.some.inj hF
  subst hR
  exact fin1 (H1 := [imm I]) (fun w hs => sat_to [1, 0] 1 rfl hs) rfl (rr_tmp rfl) ⟨rfl, rfl⟩


def F.disk_Disk_Waiting.l1 (q27 : Int × disk_sector) (l28 : List Int) : Option ((List Int)) :=
  chk (room (l28.length + ([q27.1] : List Int).length) 8) (some ((l28 ++ ([q27.1] : List Int))))
def F.disk_Disk_Waiting.x2 (v27 : List Int) : Option ((List Int)) :=
  some (v27)
theorem ords_F_disk_Disk_Waiting_l1 : ∀ (L : List (Int × disk_sector)) (s v : List Int), mloop (fun q x => F.disk_Disk_Waiting.l1 q x) L s = some v → v = s ++ L.map Prod.fst ∧ (L ≠ [] → room (s.length + L.length) 8)
  | [], s, v, h => ⟨by have := Option.some.inj h; rw [← this]; simp, fun h => absurd rfl h⟩
  | p :: L, s, v, h => by
    obtain ⟨t, h1, h2⟩ := bind_some h
    dsimp only at h1
    unfold F.disk_Disk_Waiting.l1 at h1
    obtain ⟨hc, h1⟩ := chk_some h1
    have h1 := Option.some.inj h1
    subst h1
    obtain ⟨e1, e2⟩ := ords_F_disk_Disk_Waiting_l1 L _ v h2
    refine ⟨by rw [e1]; simp, fun _ => ?_⟩
    by_cases h0 : L = []
    · subst h0; simpa using hc
    · have := e2 h0; simp at this ⊢; rw [Nat.add_comm L.length 1, ← Nat.add_assoc]; exact this
theorem ordw_F_disk_Disk_Waiting_l1 : ∀ (L : List (Int × disk_sector)) (s : List Int), (L ≠ [] → room (s.length + L.length) 8) → mloop (fun q x => F.disk_Disk_Waiting.l1 q x) L s = some (s ++ L.map Prod.fst)
  | [], s, _ => by simp [mloop]
  | p :: L, s, h => by
    have h0 := h (by simp)
    have e : F.disk_Disk_Waiting.l1 p s = some (s ++ [p.1]) := by
      unfold F.disk_Disk_Waiting.l1
      rw [chk_pos (by unfold room at *; simp at *; omega)]
    show (F.disk_Disk_Waiting.l1 p s).bind (mloop (fun q x => F.disk_Disk_Waiting.l1 q x) L) = _
    rw [e, Option.bind_some, ordw_F_disk_Disk_Waiting_l1 L _ (fun _ => by unfold room at *; simp at *; omega)]
    simp
theorem ord_F_disk_Disk_Waiting_l1 (L : List (Int × disk_sector)) (s v : List Int) (_ : (L.map Prod.fst).Nodup) (h : mloop (fun q x => F.disk_Disk_Waiting.l1 q x) L s = some v) : ∀ l, l.Perm L → ∃ w, mloop (fun q x => F.disk_Disk_Waiting.l1 q x) l s = some w ∧ w.Perm v := by
  intro l hl
  obtain ⟨e1, e2⟩ := ords_F_disk_Disk_Waiting_l1 L s v h
  refine ⟨_, ordw_F_disk_Disk_Waiting_l1 l s (fun h0 => by rw [hl.length_eq]; exact e2 (fun h => h0 (by rw [h] at hl; exact hl.eq_nil))), ?_⟩
  rw [e1]
  exact (hl.map Prod.fst).append_left s
def F.disk_Disk_Waiting.r3 (l37 : List Int) : Option ((List Int)) :=
  chk (l37.length < 4611686018427387904) (some ((sortI l37)))
def F.disk_Disk_Waiting (m0 : disk_Disk) : Option (List Int) :=
  Option.bind (F.disk_Disk_Size m0) (fun (r21 : Int) => if r21 == 0 then (some (([] : List Int))) else (Option.bind (chk (m0.wait_.length ≤ 1000000) (Option.bind (mloop (fun q x => F.disk_Disk_Waiting.l1 q x) m0.wait_ ([])) (fun x => F.disk_Disk_Waiting.x2 x))) (fun x => F.disk_Disk_Waiting.r3 x)))
set_option maxRecDepth 100000 in
set_option maxHeartbeats 4000000 in
theorem c_disk_Disk_Waiting (I : Hl) (m0 : disk_Disk) (p0 : Option Addr) (c0 : Nat) (p1 : Nat) (b0 : Nat) (res : (List Int)) (hF : F.disk_Disk_Waiting m0 = some res) : Tr Tryz.prog 52 [.pointer (some ⟨b0, 0, none⟩)] [imm I, pt b0 #[.slice p0 m0.sure_.length c0, .map (some p1), .bool m0.off_, .bool m0.armed_, .int .i64 m0.left_, .int .u64 m0.fall_.Keep, .int .i64 m0.fall_.Tear, .int .i64 m0.acts_, .int .i64 m0.falls_] 52, own e_disk_sector 55 p0 c0 m0.sure_, mpo (kInt .i64) (fun x : disk_sector => Value.agg #[.string x.s_, .int .i64 x.at_]) p1 m0.wait_] (fun r H' => ∃ (pq1 : Option Addr), ∃ (cq2 : Nat), r = .slice pq1 res.length cq2 ∧ H' = [imm I, pt b0 #[.slice p0 m0.sure_.length c0, .map (some p1), .bool m0.off_, .bool m0.armed_, .int .i64 m0.left_, .int .u64 m0.fall_.Keep, .int .i64 m0.fall_.Tear, .int .i64 m0.acts_, .int .i64 m0.falls_] 52, own (eInt .i64) 3 pq1 cq2 res, own e_disk_sector 55 p0 c0 m0.sure_, mpo (kInt .i64) (fun x : disk_sector => Value.agg #[.string x.s_, .int .i64 x.at_]) p1 m0.wait_]) := by
  unfold F.disk_Disk_Waiting at hF
  refine tr_of_cw (fn := Tryz.f52) Tryz.func52 rfl (Nat.le_of_ble_eq_true rfl) 24 rfl fun F0 w0 => ?_
  refine cw_keep [0] (L' := [(0, .pointer (some ⟨b0, 0, none⟩))]) rfl ?_
  refine cw_state (S' := SAT w0 ([imm I, pt b0 #[.slice p0 m0.sure_.length c0, .map (some p1), .bool m0.off_, .bool m0.armed_, .int .i64 m0.left_, .int .u64 m0.fall_.Keep, .int .i64 m0.fall_.Tear, .int .i64 m0.acts_, .int .i64 m0.falls_] 52, own e_disk_sector 55 p0 c0 m0.sure_, mpo (kInt .i64) (fun x : disk_sector => Value.agg #[.string x.s_, .int .i64 x.at_]) p1 m0.wait_] ++ F0)) (fun w hs => hs) ?_
  refine cw_seq ?_
  refine cw_region ?_
  refine ow_vals 1 (j := 1) [0] [(0, .pointer (some ⟨b0, 0, none⟩))] rfl (by kernel_rfl) ?_
  refine ow_end rfl ?_
  refine ew_then ?_
  refine cw_seq ?_
  refine cw_seq ?_
  refine cw_region ?_
  refine ow_vals 1 (j := 1) [0, 5] [(0, .pointer (some ⟨b0, 0, none⟩)), (5, .pointer (some ⟨b0, 0, none⟩))] rfl (by kernel_rfl) ?_
  obtain ⟨r21, h22, hF⟩ := bind_some hF
  refine ow_pw rfl (pw_call (F := [] ++ F0) rfl rfl rfl rfl rfl rfl rfl (by kernel_rfl) (perm_of_pulls [0, 0, 0, 0] rfl) (c_disk_Disk_Size _ m0 p0 c0 p1 b0 r21 h22) ?_)
  rintro _ _ ⟨rfl, rfl⟩
  refine nw_H (H' := [imm I, pt b0 #[.slice p0 m0.sure_.length c0, .map (some p1), .bool m0.off_, .bool m0.armed_, .int .i64 m0.left_, .int .u64 m0.fall_.Keep, .int .i64 m0.fall_.Tear, .int .i64 m0.acts_, .int .i64 m0.falls_] 52, own e_disk_sector 55 p0 c0 m0.sure_, mpo (kInt .i64) (fun x : disk_sector => Value.agg #[.string x.s_, .int .i64 x.at_]) p1 m0.wait_] ++ F0) rfl (nw_ow ?_)
  refine ow_vals 1 (j := 3) [0, 7] [(0, .pointer (some ⟨b0, 0, none⟩)), (7, .bool (r21 == 0))] rfl (by kernel_rfl) ?_
  refine ow_end rfl ?_
  refine ew_then ?_
  rcases if_some hF with ⟨h23, hF⟩ | ⟨h23, hF⟩
  · refine cw_cond_t rfl rfl h23 ?_
    refine cw_seq ?_
    refine cw_region ?_
    refine ow_vals 1 (j := 1) [2] [(2, .slice none 0 0)] rfl (by kernel_rfl) ?_
    refine ow_end rfl ?_
    refine ew_then ?_
    refine cw_ret ?_
    refine ew_then_ret ?_
    have hR := Option.some.inj hF
    subst hR
    exact fin1 (H1 := [imm I, pt b0 #[.slice p0 m0.sure_.length c0, .map (some p1), .bool m0.off_, .bool m0.armed_, .int .i64 m0.left_, .int .u64 m0.fall_.Keep, .int .i64 m0.fall_.Tear, .int .i64 m0.acts_, .int .i64 m0.falls_] 52, own (eInt .i64) 3 none 0 ([] : List Int), own e_disk_sector 55 p0 c0 m0.sure_, mpo (kInt .i64) (fun x : disk_sector => Value.agg #[.string x.s_, .int .i64 x.at_]) p1 m0.wait_]) (fun w hs => sat_to [1, 1, 0, 0, 0] 0 rfl (sat_own_nil (eInt .i64) 3 hs)) rfl (rr_tmp rfl) ⟨none, 0, rfl, rfl⟩
  refine cw_cond_f rfl rfl h23 ?_
  refine cw_skip ?_
  refine ew_then ?_
  refine cw_seq ?_
  refine cw_region ?_
  refine ow_vals 1 (j := 1) [0, 3] [(0, .pointer (some ⟨b0, 0, none⟩)), (3, .slice none 0 0)] rfl (by kernel_rfl) ?_
  refine ow_end rfl ?_
  refine ew_then ?_
  obtain ⟨v24, hF, hK24⟩ := bind_some hF
  refine cw_mid (fun a w => ∃ (l37 : List Int), ∃ (p38 : Option Addr), ∃ (c39 : Nat), ∃ (l41 : List Int), l37 = v24 ∧ l41.Perm l37 ∧ Fr 24 [(3, .slice p38 l41.length c39)] a ∧ SAT w0 ([imm I, pt b0 #[.slice p0 m0.sure_.length c0, .map (some p1), .bool m0.off_, .bool m0.armed_, .int .i64 m0.left_, .int .u64 m0.fall_.Keep, .int .i64 m0.fall_.Tear, .int .i64 m0.acts_, .int .i64 m0.falls_] 52, own (eInt .i64) 3 p38 c39 l41, own e_disk_sector 55 p0 c0 m0.sure_, mpo (kInt .i64) (fun x : disk_sector => Value.agg #[.string x.s_, .int .i64 x.at_]) p1 m0.wait_] ++ F0) w) ?_ ?_
  · refine cw_seq ?_
    refine cw_region ?_
    refine ow_vals 3 (j := 3) [3, 10] [(3, .slice none 0 0), (10, .pointer (some ⟨b0, 1, none⟩))] rfl (by kernel_rfl) ?_
    refine ow_pw rfl (pw_quiet (v := .map (some p1)) rfl rfl rfl rfl (q_load 1 rfl rfl rfl (by kernel_rfl)) (nw_ow ?_))
    refine ow_pw rfl (pw_range 3 rfl rfl rfl rfl rfl rfl rfl rfl fun b25 => nw_H (H' := [imm I, pt b0 #[.slice p0 m0.sure_.length c0, .map (some p1), .bool m0.off_, .bool m0.armed_, .int .i64 m0.left_, .int .u64 m0.fall_.Keep, .int .i64 m0.fall_.Tear, .int .i64 m0.acts_, .int .i64 m0.falls_] 52, own e_disk_sector 55 p0 c0 m0.sure_, mrg (kInt .i64) (fun x : disk_sector => Value.agg #[.string x.s_, .int .i64 x.at_]) p1 b25 m0.wait_ m0.wait_ none] ++ F0) rfl (nw_ow ?_))
    refine ow_end rfl ?_
    refine ew_then ?_
    refine cw_block ?_
    obtain ⟨h26, hF⟩ := chk_some hF
    obtain ⟨v27, hv27, hX27⟩ := bind_some hF
    clear hF
    refine fun a w hf hs => ?_
    have hn27 := mrg_keys (k := 3) rfl hs
    have ho27 := ord_F_disk_Disk_Waiting_l1 m0.wait_ ([]) _ hn27 hv27
    refine wp_rounds (fun k a w => ∃ (l28 : List Int), ∃ (p29 : Option Addr), ∃ (c30 : Nat), ∃ (dn27 : List (Int × disk_sector)), ∃ (lt27 : List (Int × disk_sector)), (dn27 ++ lt27).Perm m0.wait_ ∧ mloop (fun q x => F.disk_Disk_Waiting.l1 q x) dn27 ([]) = some l28 ∧ lt27.length < k ∧ Fr 24 [(3, .slice p29 l28.length c30), (12, .pointer (some ⟨b25, 0, none⟩))] a ∧ SAT w0 ([imm I, pt b0 #[.slice p0 m0.sure_.length c0, .map (some p1), .bool m0.off_, .bool m0.armed_, .int .i64 m0.left_, .int .u64 m0.fall_.Keep, .int .i64 m0.fall_.Tear, .int .i64 m0.acts_, .int .i64 m0.falls_] 52, own (eInt .i64) 3 p29 c30 l28, own e_disk_sector 55 p0 c0 m0.sure_, mrg (kInt .i64) (fun x : disk_sector => Value.agg #[.string x.s_, .int .i64 x.at_]) p1 b25 m0.wait_ lt27 none] ++ F0) w) ?_ FUEL a w ⟨[], none, 0, [], m0.wait_, List.Perm.refl _, rfl, (by rw [FUEL_eq]; omega), hf.keep [3, 12], sat_to [1, 1, 0, 0, 0] 0 rfl (sat_own_nil (eInt .i64) 3 hs)⟩
    clear hf hs
    clear a w
    rintro k a w ⟨l28, p29, c30, dn27, lt27, hP27, hD27, hk27, hf, hs⟩
    revert a w
    show CW _ _ _ 24 [(3, .slice p29 l28.length c30), (12, .pointer (some ⟨b25, 0, none⟩))] (SAT w0 ([imm I, pt b0 #[.slice p0 m0.sure_.length c0, .map (some p1), .bool m0.off_, .bool m0.armed_, .int .i64 m0.left_, .int .u64 m0.fall_.Keep, .int .i64 m0.fall_.Tear, .int .i64 m0.acts_, .int .i64 m0.falls_] 52, own (eInt .i64) 3 p29 c30 l28, own e_disk_sector 55 p0 c0 m0.sure_, mrg (kInt .i64) (fun x : disk_sector => Value.agg #[.string x.s_, .int .i64 x.at_]) p1 b25 m0.wait_ lt27 none] ++ F0))
    refine cw_seq ?_
    refine cw_region ?_
    refine ow_pw rfl (pw_next 4 rfl rfl rfl rfl rfl rfl rfl (fun h027 => nw_ow ?_) (fun q27 lf27 hq27 => nw_H (H' := [imm I, pt b0 #[.slice p0 m0.sure_.length c0, .map (some p1), .bool m0.off_, .bool m0.armed_, .int .i64 m0.left_, .int .u64 m0.fall_.Keep, .int .i64 m0.fall_.Tear, .int .i64 m0.acts_, .int .i64 m0.falls_] 52, own (eInt .i64) 3 p29 c30 l28, own e_disk_sector 55 p0 c0 m0.sure_, mrg (kInt .i64) (fun x : disk_sector => Value.agg #[.string x.s_, .int .i64 x.at_]) p1 b25 m0.wait_ lf27 (some q27)] ++ F0) rfl (nw_ow ?_)))
    · obtain ⟨w27, hv27, hR27⟩ := ho27 dn27 (by rw [h027, List.append_nil] at hP27; exact hP27)
      rw [hD27] at hv27
      obtain rfl := Option.some.inj hv27
      have hF := hX27
      try dsimp only at hF
      unfold F.disk_Disk_Waiting.x2 at hF
      refine ow_state (S' := SAT w0 ([imm I, pt b0 #[.slice p0 m0.sure_.length c0, .map (some p1), .bool m0.off_, .bool m0.armed_, .int .i64 m0.left_, .int .u64 m0.fall_.Keep, .int .i64 m0.fall_.Tear, .int .i64 m0.acts_, .int .i64 m0.falls_] 52, own (eInt .i64) 3 p29 c30 l28, own e_disk_sector 55 p0 c0 m0.sure_, mpo (kInt .i64) (fun x : disk_sector => Value.agg #[.string x.s_, .int .i64 x.at_]) p1 m0.wait_] ++ F0)) (fun w hs => sat_mrg_end (k := 4) rfl hs) ?_
      refine ow_vals 1 (j := 2) [3, 12, 14] [(3, .slice p29 l28.length c30), (12, .pointer (some ⟨b25, 0, none⟩)), (14, .bool false)] rfl (by kernel_rfl) ?_
      refine ow_end rfl ?_
      refine ew_then ?_
      refine cw_seq ?_
      refine cw_cond_f rfl rfl rfl ?_
      refine cw_exit ?_
      refine ew_then_exit ?_
      refine ew_then_exit ?_
      refine ew_blk_exit ?_
      have hR := Option.some.inj hF
      exact fun a w hf hs => ⟨v27, p29, c30, l28, hR, hR27, hf.keep [3], sat_to [0, 0, 0, 0, 0] 0 rfl hs⟩
    obtain ⟨u27, hu27⟩ := mloop_step (fun l' h => (ho27 l' h).imp fun _ h => h.1) hD27 ((hq27.append_left dn27).symm.trans hP27)
    have hF := hu27
    try dsimp only at hF
    unfold F.disk_Disk_Waiting.l1 at hF
    refine ow_vals 1 (j := 2) [3, 12, 14] [(3, .slice p29 l28.length c30), (12, .pointer (some ⟨b25, 0, none⟩)), (14, .bool true)] rfl (by kernel_rfl) ?_
    refine ow_end rfl ?_
    refine ew_then ?_
    refine cw_seq ?_
    refine cw_cond_t rfl rfl rfl ?_
    refine cw_skip ?_
    refine ew_then ?_
    refine cw_block ?_
    refine cw_seq ?_
    refine cw_region ?_
    refine ow_pw rfl (pw_quiet (v := .tuple #[.int .i64 q27.1, .agg #[.string q27.2.s_, .int .i64 q27.2.at_]]) rfl rfl rfl rfl (q_entry (kf := (kInt .i64)) (vf := (fun x : disk_sector => Value.agg #[.string x.s_, .int .i64 x.at_])) (p := q27) 4 rfl rfl rfl) (nw_ow ?_))
    refine ow_vals 2 (j := 3) [3, 4, 12] [(3, .slice p29 l28.length c30), (4, .int .i64 q27.1), (12, .pointer (some ⟨b25, 0, none⟩))] rfl (by kernel_rfl) ?_
    refine ow_end rfl ?_
    refine ew_then ?_
    refine cw_region ?_
    refine ow_vals 2 (j := 2) [12, 17, 18] [(12, .pointer (some ⟨b25, 0, none⟩)), (17, .slice p29 l28.length c30), (18, .int .i64 q27.1)] rfl (by kernel_rfl) ?_
    refine ow_pw rfl (pw_buildSlice (E := 3) (eInt .i64) ([q27.1] : List Int) rfl rfl rfl rfl rfl (by kernel_rfl) rfl (by kernel_rfl) rfl (by decide) rfl fun p32 => nw_ow ?_)
    obtain ⟨h34, hF⟩ := chk_some hF
    refine ow_pw rfl (pw_append 3 (l' := ([q27.1] : List Int)) rfl rfl rfl rfl rfl rfl (by kernel_rfl) (by kernel_rfl) rfl rfl rfl (src_own (E' := 3) 0 rfl (by kernel_rfl) rfl) rfl h34.1 h34.2 fun p35 c36 => nw_H (H' := [own (eInt .i64) 3 p32 1 ([q27.1] : List Int), imm I, pt b0 #[.slice p0 m0.sure_.length c0, .map (some p1), .bool m0.off_, .bool m0.armed_, .int .i64 m0.left_, .int .u64 m0.fall_.Keep, .int .i64 m0.fall_.Tear, .int .i64 m0.acts_, .int .i64 m0.falls_] 52, own (eInt .i64) 3 p35 c36 (l28 ++ ([q27.1] : List Int)), own e_disk_sector 55 p0 c0 m0.sure_, mrg (kInt .i64) (fun x : disk_sector => Value.agg #[.string x.s_, .int .i64 x.at_]) p1 b25 m0.wait_ lf27 (some q27)] ++ F0) rfl (nw_ow ?_))
    refine ow_vals 1 (j := 5) [3, 12] [(3, .slice p35 (l28 ++ ([q27.1] : List Int)).length c36), (12, .pointer (some ⟨b25, 0, none⟩))] rfl (by kernel_rfl) ?_
    refine ow_end rfl ?_
    refine ew_blk ?_
    have hR := Option.some.inj hF
    subst hR
    exact fun a w hf hs => ⟨lt27.length, hk27, l28 ++ ([q27.1] : List Int), p35, c36, dn27 ++ [q27], lf27, (by rw [List.append_assoc]; exact (hq27.append_left dn27).symm.trans hP27), mloop_snoc hD27 hu27, (by rw [hq27.length_eq]; exact Nat.lt_succ_self _), hf.keep [3, 12], sat_to [0, 0, 0, 0, 0, 0] 1 rfl (sat_mrg_none (k := 5) rfl hs)⟩
  rintro a w ⟨l37, p38, c39, l41, hv, h42, hf, hs⟩
  subst hv
  replace hF := hK24
  clear hK24
  try dsimp only at hF
  revert a w
  show CW _ _ _ 24 [(3, .slice p38 l41.length c39)] (SAT w0 ([imm I, pt b0 #[.slice p0 m0.sure_.length c0, .map (some p1), .bool m0.off_, .bool m0.armed_, .int .i64 m0.left_, .int .u64 m0.fall_.Keep, .int .i64 m0.fall_.Tear, .int .i64 m0.acts_, .int .i64 m0.falls_] 52, own (eInt .i64) 3 p38 c39 l41, own e_disk_sector 55 p0 c0 m0.sure_, mpo (kInt .i64) (fun x : disk_sector => Value.agg #[.string x.s_, .int .i64 x.at_]) p1 m0.wait_] ++ F0))
  unfold F.disk_Disk_Waiting.r3 at hF
  refine cw_seq ?_
  refine cw_region ?_
  refine ow_vals 1 (j := 1) [3, 21] [(3, .slice p38 l41.length c39), (21, .slice p38 l41.length c39)] rfl (by kernel_rfl) ?_
  obtain ⟨h43, hF⟩ := chk_some hF
  refine ow_pw rfl (pw_call (F := [imm I, pt b0 #[.slice p0 m0.sure_.length c0, .map (some p1), .bool m0.off_, .bool m0.armed_, .int .i64 m0.left_, .int .u64 m0.fall_.Keep, .int .i64 m0.fall_.Tear, .int .i64 m0.acts_, .int .i64 m0.falls_] 52, own e_disk_sector 55 p0 c0 m0.sure_, mpo (kInt .i64) (fun x : disk_sector => Value.agg #[.string x.s_, .int .i64 x.at_]) p1 m0.wait_] ++ F0) rfl rfl rfl rfl rfl rfl rfl (by kernel_rfl) (perm_of_pulls [2] rfl) (Tryz.tr_sortI 3 p38 c39 l41 (by rw [h42.length_eq]; exact h43)) ?_)
  rintro _ _ ⟨rfl, rfl⟩
  refine nw_H (H' := [own (eInt .i64) 3 p38 c39 (sortI l37), imm I, pt b0 #[.slice p0 m0.sure_.length c0, .map (some p1), .bool m0.off_, .bool m0.armed_, .int .i64 m0.left_, .int .u64 m0.fall_.Keep, .int .i64 m0.fall_.Tear, .int .i64 m0.acts_, .int .i64 m0.falls_] 52, own e_disk_sector 55 p0 c0 m0.sure_, mpo (kInt .i64) (fun x : disk_sector => Value.agg #[.string x.s_, .int .i64 x.at_]) p1 m0.wait_] ++ F0) (by rw [sortI_perm h42]; rfl) (nw_ow ?_)
  refine ow_slots (L' := [(22, .tuple #[]), (3, .slice p38 (sortI l37).length c39), (21, .slice p38 (sortI l37).length c39)]) (by simp only [sortI_len, h42.length_eq]; rfl) ?_
  refine ow_end rfl ?_
  refine ew_then ?_
  refine cw_seq ?_
  refine cw_region ?_
  refine ow_vals 2 (j := 2) [2] [(2, .slice p38 (sortI l37).length c39)] rfl (by kernel_rfl) ?_
  refine ow_end rfl ?_
  refine ew_then ?_
  refine cw_ret ?_
  have hR := Option.some.inj hF
  subst hR
  exact fin1 (H1 := [imm I, pt b0 #[.slice p0 m0.sure_.length c0, .map (some p1), .bool m0.off_, .bool m0.armed_, .int .i64 m0.left_, .int .u64 m0.fall_.Keep, .int .i64 m0.fall_.Tear, .int .i64 m0.acts_, .int .i64 m0.falls_] 52, own (eInt .i64) 3 p38 c39 (sortI l37), own e_disk_sector 55 p0 c0 m0.sure_, mpo (kInt .i64) (fun x : disk_sector => Value.agg #[.string x.s_, .int .i64 x.at_]) p1 m0.wait_]) (fun w hs => sat_to [1, 1, 0, 0, 0] 0 rfl hs) rfl (rr_tmp rfl) ⟨p38, c39, rfl, rfl⟩


def F.disk_Disk_drop.r2 (x1 : disk_Fall) (m0 : disk_Disk) (x28 : Int) (y34 : Int) (l43 : List disk_sector) (x49 : Bool) : Option ((Int × (List disk_sector)) ⊕ ((List disk_sector))) :=
  if x49 then (chk (0 ≤ (0 : Int) ∧ (0 : Int) ≤ (x1.Tear.tmod 64) ∧ (x1.Tear.tmod 64) ≤ (((mgetD m0.wait_ y34 (⟨(ByteArray.mk #[]), 0⟩ : disk_sector)).s_).size : Int)) (Option.bind (at_ l43 y34) (fun (y52 : disk_sector) => chk (0 ≤ (x1.Tear.tmod 64) ∧ (x1.Tear.tmod 64) ≤ (y52.s_.size : Int) ∧ (y52.s_.size : Int) ≤ (y52.s_.size : Int)) (chk ((((mgetD m0.wait_ y34 (⟨(ByteArray.mk #[]), 0⟩ : disk_sector)).s_).extract (0 : Int).toNat (x1.Tear.tmod 64).toNat).size + (y52.s_.extract (x1.Tear.tmod 64).toNat (y52.s_.size : Int).toNat).size ≤ 9223372036854775807) (Option.bind (at_ l43 y34) (fun (y56 : disk_sector) => some (.inl (IntKind.i64.wrap (x28 + 1), l43.set y34.toNat (⟨(((mgetD m0.wait_ y34 (⟨(ByteArray.mk #[]), 0⟩ : disk_sector)).s_).extract (0 : Int).toNat (x1.Tear.tmod 64).toNat) ++ (y52.s_.extract (x1.Tear.tmod 64).toNat (y52.s_.size : Int).toNat), (mgetD m0.wait_ y34 (⟨(ByteArray.mk #[]), 0⟩ : disk_sector)).at_⟩ : disk_sector))))))))) else (some (.inl (IntKind.i64.wrap (x28 + 1), l43)))
def F.disk_Disk_drop.r1 (x1 : disk_Fall) (m0 : disk_Disk) (x28 : Int) (y34 : Int) (l43 : List disk_sector) : Option ((Int × (List disk_sector)) ⊕ ((List disk_sector))) :=
  Option.bind (if decide (x1.Tear ≥ 0) then (some (((IntKind.i64.wrap (x1.Tear.tdiv 64)) == x28))) else (some (false))) (fun x => F.disk_Disk_drop.r2 x1 m0 x28 y34 l43 x)
def F.disk_Disk_drop.l3 (x1 : disk_Fall) (m0 : disk_Disk) (r24 : (List Int)) (x28 : Int) (l29 : List disk_sector) : Option ((Int × (List disk_sector)) ⊕ ((List disk_sector))) :=
  if decide (x28 < (r24.length : Int)) then (Option.bind (at_ r24 x28) (fun (y34 : Int) => Option.bind (chk (0 ≤ (x28.tmod 64)) (if (iand .u64 (x1.Keep.fdiv ((2 : Int) ^ (min (x28.tmod 64).toNat 64))) 1) == 1 then (Option.bind (at_ l29 y34) (fun (y41 : disk_sector) => some ((l29.set y34.toNat (mgetD m0.wait_ y34 (⟨(ByteArray.mk #[]), 0⟩ : disk_sector)))))) else (some (l29)))) (fun x => F.disk_Disk_drop.r1 x1 m0 x28 y34 x))) else (some (.inr (l29)))
def F.disk_Disk_drop.r4 (m0 : disk_Disk) (l58 : List disk_sector) : Option (disk_Disk) :=
  some ((⟨l58, ([] : List (Int × disk_sector)), true, false, m0.left_, m0.fall_, m0.acts_, IntKind.i64.wrap (m0.falls_ + 1)⟩ : disk_Disk))
def F.disk_Disk_drop (x1 : disk_Fall) (m0 : disk_Disk) : Option disk_Disk :=
  Option.bind (Option.bind (F.disk_Disk_Waiting m0) (fun (r24 : (List Int)) => iter (fun x => F.disk_Disk_drop.l3 x1 m0 r24 x.1 x.2) FUEL (0, m0.sure_))) (fun x => F.disk_Disk_drop.r4 m0 x)
set_option maxRecDepth 100000 in
set_option maxHeartbeats 4000000 in
theorem c_disk_Disk_drop (I : Hl) (x1 : disk_Fall) (m0 : disk_Disk) (p0 : Option Addr) (c0 : Nat) (p1 : Nat) (b0 : Nat) (res : disk_Disk) (hF : F.disk_Disk_drop x1 m0 = some res) : Tr Tryz.prog 39 [.pointer (some ⟨b0, 0, none⟩), .agg #[.int .u64 x1.Keep, .int .i64 x1.Tear]] [imm I, pt b0 #[.slice p0 m0.sure_.length c0, .map (some p1), .bool m0.off_, .bool m0.armed_, .int .i64 m0.left_, .int .u64 m0.fall_.Keep, .int .i64 m0.fall_.Tear, .int .i64 m0.acts_, .int .i64 m0.falls_] 52, own e_disk_sector 55 p0 c0 m0.sure_, mpo (kInt .i64) (fun x : disk_sector => Value.agg #[.string x.s_, .int .i64 x.at_]) p1 m0.wait_] (fun r H' => ∃ (pq1 : Option Addr), ∃ (cq2 : Nat), ∃ (bq4 : Nat), r = .tuple #[] ∧ H' = [imm I, pt b0 #[.slice pq1 res.sure_.length cq2, .map (some bq4), .bool res.off_, .bool res.armed_, .int .i64 res.left_, .int .u64 res.fall_.Keep, .int .i64 res.fall_.Tear, .int .i64 res.acts_, .int .i64 res.falls_] 52, own e_disk_sector 55 pq1 cq2 res.sure_, mpo (kInt .i64) (fun x : disk_sector => Value.agg #[.string x.s_, .int .i64 x.at_]) bq4 res.wait_]) := by
  unfold F.disk_Disk_drop at hF
  refine tr_of_cw (fn := Tryz.f39) Tryz.func39 rfl (Nat.le_of_ble_eq_true rfl) 91 rfl fun F0 w0 => ?_
  refine cw_keep [0, 1] (L' := [(0, .pointer (some ⟨b0, 0, none⟩)), (1, .agg #[.int .u64 x1.Keep, .int .i64 x1.Tear])]) rfl ?_
  refine cw_state (S' := SAT w0 ([imm I, pt b0 #[.slice p0 m0.sure_.length c0, .map (some p1), .bool m0.off_, .bool m0.armed_, .int .i64 m0.left_, .int .u64 m0.fall_.Keep, .int .i64 m0.fall_.Tear, .int .i64 m0.acts_, .int .i64 m0.falls_] 52, own e_disk_sector 55 p0 c0 m0.sure_, mpo (kInt .i64) (fun x : disk_sector => Value.agg #[.string x.s_, .int .i64 x.at_]) p1 m0.wait_] ++ F0)) (fun w hs => hs) ?_
  refine cw_seq ?_
  refine cw_region ?_
  refine ow_pw rfl (pw_box (cs := #[.int .u64 x1.Keep, .int .i64 x1.Tear]) rfl rfl rfl rfl rfl rfl fun b21 => nw_ow ?_)
  refine ow_end rfl ?_
  refine ew_then ?_
  obtain ⟨v23, hF, hK23⟩ := bind_some hF
  refine cw_mid (fun a w => ∃ (l58 : List disk_sector), ∃ (p59 : Option Addr), ∃ (c60 : Nat), l58 = v23 ∧ Fr 91 [(0, .pointer (some ⟨b0, 0, none⟩))] a ∧ SAT w0 ([imm I, pt b0 #[.slice p59 l58.length c60, .map (some p1), .bool m0.off_, .bool m0.armed_, .int .i64 m0.left_, .int .u64 m0.fall_.Keep, .int .i64 m0.fall_.Tear, .int .i64 m0.acts_, .int .i64 m0.falls_] 52, pt b21 #[.int .u64 x1.Keep, .int .i64 x1.Tear] 36, own e_disk_sector 55 p59 c60 l58, mpo (kInt .i64) (fun x : disk_sector => Value.agg #[.string x.s_, .int .i64 x.at_]) p1 m0.wait_] ++ F0) w) ?_ ?_
  · refine cw_seq ?_
    refine cw_region ?_
    refine ow_vals 1 (j := 1) [0, 3, 8] [(0, .pointer (some ⟨b0, 0, none⟩)), (3, .pointer (some ⟨b21, 0, none⟩)), (8, .pointer (some ⟨b0, 0, none⟩))] rfl (by kernel_rfl) ?_
    obtain ⟨r24, h25, hF⟩ := bind_some hF
    refine ow_pw rfl (pw_call (F := [pt b21 #[.int .u64 x1.Keep, .int .i64 x1.Tear] 36] ++ F0) rfl rfl rfl rfl rfl rfl rfl (by kernel_rfl) (perm_of_pulls [1, 1, 1, 1] rfl) (c_disk_Disk_Waiting _ m0 p0 c0 p1 b0 r24 h25) ?_)
    rintro _ _ ⟨r24_p1, r24_c2, rfl, rfl⟩
    refine nw_H (H' := [imm I, pt b0 #[.slice p0 m0.sure_.length c0, .map (some p1), .bool m0.off_, .bool m0.armed_, .int .i64 m0.left_, .int .u64 m0.fall_.Keep, .int .i64 m0.fall_.Tear, .int .i64 m0.acts_, .int .i64 m0.falls_] 52, own (eInt .i64) 3 r24_p1 r24_c2 r24, own e_disk_sector 55 p0 c0 m0.sure_, mpo (kInt .i64) (fun x : disk_sector => Value.agg #[.string x.s_, .int .i64 x.at_]) p1 m0.wait_, pt b21 #[.int .u64 x1.Keep, .int .i64 x1.Tear] 36] ++ F0) rfl (nw_ow ?_)
    refine ow_vals 2 (j := 4) [0, 3, 9, 10, 11] [(0, .pointer (some ⟨b0, 0, none⟩)), (3, .pointer (some ⟨b21, 0, none⟩)), (9, .slice r24_p1 r24.length r24_c2), (10, .int .i64 (r24.length : Int)), (11, .int .i64 0)] rfl (by kernel_rfl) ?_
    refine ow_end rfl ?_
    refine ew_then ?_
    refine cw_block ?_
    refine fun a w hf hs => wp_rounds (fun k a w => ∃ (x28 : Int), ∃ (l29 : List disk_sector), ∃ (p30 : Option Addr), ∃ (c31 : Nat), iter (fun x => F.disk_Disk_drop.l3 x1 m0 r24 x.1 x.2) k (x28, l29) = some v23 ∧ Fr 91 [(0, .pointer (some ⟨b0, 0, none⟩)), (3, .pointer (some ⟨b21, 0, none⟩)), (9, .slice r24_p1 r24.length r24_c2), (10, .int .i64 (r24.length : Int)), (11, .int .i64 x28)] a ∧ SAT w0 ([imm I, pt b0 #[.slice p30 l29.length c31, .map (some p1), .bool m0.off_, .bool m0.armed_, .int .i64 m0.left_, .int .u64 m0.fall_.Keep, .int .i64 m0.fall_.Tear, .int .i64 m0.acts_, .int .i64 m0.falls_] 52, pt b21 #[.int .u64 x1.Keep, .int .i64 x1.Tear] 36, own (eInt .i64) 3 r24_p1 r24_c2 r24, own e_disk_sector 55 p30 c31 l29, mpo (kInt .i64) (fun x : disk_sector => Value.agg #[.string x.s_, .int .i64 x.at_]) p1 m0.wait_] ++ F0) w) ?_ FUEL a w ⟨0, m0.sure_, p0, c0, hF, hf.keep [0, 3, 9, 10, 11], sat_to [0, 0, 3, 0, 0, 0] 0 rfl hs⟩
    clear hf hs
    clear a w hF
    rintro k a w ⟨x28, l29, p30, c31, hF2, hf, hs⟩
    obtain ⟨k, r27, rfl, hF, hL27⟩ := iter_some hF2
    clear hF2
    revert a w
    show CW _ _ _ 91 [(0, .pointer (some ⟨b0, 0, none⟩)), (3, .pointer (some ⟨b21, 0, none⟩)), (9, .slice r24_p1 r24.length r24_c2), (10, .int .i64 (r24.length : Int)), (11, .int .i64 x28)] (SAT w0 ([imm I, pt b0 #[.slice p30 l29.length c31, .map (some p1), .bool m0.off_, .bool m0.armed_, .int .i64 m0.left_, .int .u64 m0.fall_.Keep, .int .i64 m0.fall_.Tear, .int .i64 m0.acts_, .int .i64 m0.falls_] 52, pt b21 #[.int .u64 x1.Keep, .int .i64 x1.Tear] 36, own (eInt .i64) 3 r24_p1 r24_c2 r24, own e_disk_sector 55 p30 c31 l29, mpo (kInt .i64) (fun x : disk_sector => Value.agg #[.string x.s_, .int .i64 x.at_]) p1 m0.wait_] ++ F0))
    try dsimp only at hF
    unfold F.disk_Disk_drop.l3 at hF
    refine cw_seq ?_
    refine cw_region ?_
    refine ow_vals 1 (j := 1) [0, 3, 9, 10, 11, 12] [(0, .pointer (some ⟨b0, 0, none⟩)), (3, .pointer (some ⟨b21, 0, none⟩)), (9, .slice r24_p1 r24.length r24_c2), (10, .int .i64 (r24.length : Int)), (11, .int .i64 x28), (12, .bool (decide (x28 < (r24.length : Int))))] rfl (by kernel_rfl) ?_
    refine ow_end rfl ?_
    refine ew_then ?_
    refine cw_seq ?_
    rcases if_some hF with ⟨h33, hF⟩ | ⟨h33, hF⟩
    · refine cw_cond_t rfl rfl h33 ?_
      refine cw_skip ?_
      refine ew_then ?_
      refine cw_seq ?_
      refine cw_block ?_
      refine cw_seq ?_
      refine cw_region ?_
      refine ow_vals 1 (j := 1) [0, 3, 9, 10, 11, 13] [(0, .pointer (some ⟨b0, 0, none⟩)), (3, .pointer (some ⟨b21, 0, none⟩)), (9, .slice r24_p1 r24.length r24_c2), (10, .int .i64 (r24.length : Int)), (11, .int .i64 x28), (13, .int .i64 x28)] rfl (by kernel_rfl) ?_
      obtain ⟨y34, h35, hF⟩ := bind_some hF
      refine ow_pw rfl (pw_quiet (v := .pointer (some ((base r24_p1).add (x28.toNat * 1)))) rfl rfl rfl rfl (q_index_own 3 1 rfl rfl (by kernel_rfl) rfl rfl (at_some h35).1 (at_lt h35)) (nw_ow ?_))
      refine ow_pw rfl (pw_quiet (v := .int .i64 y34) rfl rfl rfl rfl (q_load_own0 3 1 rfl rfl rfl rfl (at_some h35).2 (by kernel_rfl)) (nw_ow ?_))
      refine ow_vals 2 (j := 5) [0, 3, 4, 5, 9, 10, 11] [(0, .pointer (some ⟨b0, 0, none⟩)), (3, .pointer (some ⟨b21, 0, none⟩)), (4, .int .i64 x28), (5, .int .i64 y34), (9, .slice r24_p1 r24.length r24_c2), (10, .int .i64 (r24.length : Int)), (11, .int .i64 x28)] rfl (by kernel_rfl) ?_
      refine ow_end rfl ?_
      refine ew_then ?_
      refine cw_seq ?_
      refine cw_region ?_
      refine ow_vals 3 (j := 3) [0, 3, 4, 5, 9, 10, 11, 18] [(0, .pointer (some ⟨b0, 0, none⟩)), (3, .pointer (some ⟨b21, 0, none⟩)), (4, .int .i64 x28), (5, .int .i64 y34), (9, .slice r24_p1 r24.length r24_c2), (10, .int .i64 (r24.length : Int)), (11, .int .i64 x28), (18, .pointer (some ⟨b0, 1, none⟩))] rfl (by kernel_rfl) ?_
      refine ow_pw rfl (pw_quiet (v := .map (some p1)) rfl rfl rfl rfl (q_load 1 rfl rfl rfl (by kernel_rfl)) (nw_ow ?_))
      refine ow_vals 1 (j := 5) [0, 3, 4, 5, 9, 10, 11, 19, 20] [(0, .pointer (some ⟨b0, 0, none⟩)), (3, .pointer (some ⟨b21, 0, none⟩)), (4, .int .i64 x28), (5, .int .i64 y34), (9, .slice r24_p1 r24.length r24_c2), (10, .int .i64 (r24.length : Int)), (11, .int .i64 x28), (19, .map (some p1)), (20, .int .i64 y34)] rfl (by kernel_rfl) ?_
      refine ow_pw rfl (pw_quiet (v := .agg #[.string ((mgetD m0.wait_ y34 (⟨(ByteArray.mk #[]), 0⟩ : disk_sector)).s_), .int .i64 ((mgetD m0.wait_ y34 (⟨(ByteArray.mk #[]), 0⟩ : disk_sector)).at_)]) rfl rfl rfl rfl (q_lookup1 (kf := (kInt .i64)) (vf := (fun x : disk_sector => Value.agg #[.string x.s_, .int .i64 x.at_])) (key := y34) 5 (⟨(ByteArray.mk #[]), 0⟩ : disk_sector) (mkey_int (by kernel_rfl)) rfl rfl rfl rfl rfl (by kernel_rfl)) (nw_ow ?_))
      refine ow_pw rfl (pw_alloc (cs := #[.string (ByteArray.mk #[]), .int .i64 0]) rfl rfl rfl rfl rfl (by kernel_rfl) fun b36 => nw_ow ?_)
      refine ow_pw rfl (pw_store 0 #[.string ((mgetD m0.wait_ y34 (⟨(ByteArray.mk #[]), 0⟩ : disk_sector)).s_), .int .i64 ((mgetD m0.wait_ y34 (⟨(ByteArray.mk #[]), 0⟩ : disk_sector)).at_)] rfl rfl rfl rfl rfl rfl rfl (by kernel_rfl) (nw_H (H' := [pt b36 #[.string ((mgetD m0.wait_ y34 (⟨(ByteArray.mk #[]), 0⟩ : disk_sector)).s_), .int .i64 ((mgetD m0.wait_ y34 (⟨(ByteArray.mk #[]), 0⟩ : disk_sector)).at_)] 55, imm I, pt b0 #[.slice p30 l29.length c31, .map (some p1), .bool m0.off_, .bool m0.armed_, .int .i64 m0.left_, .int .u64 m0.fall_.Keep, .int .i64 m0.fall_.Tear, .int .i64 m0.acts_, .int .i64 m0.falls_] 52, pt b21 #[.int .u64 x1.Keep, .int .i64 x1.Tear] 36, own (eInt .i64) 3 r24_p1 r24_c2 r24, own e_disk_sector 55 p30 c31 l29, mpo (kInt .i64) (fun x : disk_sector => Value.agg #[.string x.s_, .int .i64 x.at_]) p1 m0.wait_] ++ F0) rfl (nw_ow ?_)))
      refine ow_end rfl ?_
      refine ew_then ?_
      obtain ⟨v38, hF, hK38⟩ := bind_some hF
      refine cw_mid (fun a w => ∃ (l43 : List disk_sector), ∃ (p44 : Option Addr), ∃ (c45 : Nat), l43 = v38 ∧ Fr 91 [(0, .pointer (some ⟨b0, 0, none⟩)), (3, .pointer (some ⟨b21, 0, none⟩)), (4, .int .i64 x28), (5, .int .i64 y34), (6, .pointer (some ⟨b36, 0, none⟩)), (9, .slice r24_p1 r24.length r24_c2), (10, .int .i64 (r24.length : Int)), (11, .int .i64 x28)] a ∧ SAT w0 ([imm I, pt b36 #[.string ((mgetD m0.wait_ y34 (⟨(ByteArray.mk #[]), 0⟩ : disk_sector)).s_), .int .i64 ((mgetD m0.wait_ y34 (⟨(ByteArray.mk #[]), 0⟩ : disk_sector)).at_)] 55, pt b0 #[.slice p44 l43.length c45, .map (some p1), .bool m0.off_, .bool m0.armed_, .int .i64 m0.left_, .int .u64 m0.fall_.Keep, .int .i64 m0.fall_.Tear, .int .i64 m0.acts_, .int .i64 m0.falls_] 52, pt b21 #[.int .u64 x1.Keep, .int .i64 x1.Tear] 36, own (eInt .i64) 3 r24_p1 r24_c2 r24, own e_disk_sector 55 p44 c45 l43, mpo (kInt .i64) (fun x : disk_sector => Value.agg #[.string x.s_, .int .i64 x.at_]) p1 m0.wait_] ++ F0) w) ?_ ?_
      · refine cw_seq ?_
        refine cw_region ?_
        refine ow_vals 1 (j := 1) [0, 3, 4, 5, 6, 9, 10, 11, 22] [(0, .pointer (some ⟨b0, 0, none⟩)), (3, .pointer (some ⟨b21, 0, none⟩)), (4, .int .i64 x28), (5, .int .i64 y34), (6, .pointer (some ⟨b36, 0, none⟩)), (9, .slice r24_p1 r24.length r24_c2), (10, .int .i64 (r24.length : Int)), (11, .int .i64 x28), (22, .pointer (some ⟨b21, 0, none⟩))] rfl (by kernel_rfl) ?_
        refine ow_pw rfl (pw_quiet (v := .int .u64 x1.Keep) rfl rfl rfl rfl (q_load 3 rfl rfl rfl (by kernel_rfl)) (nw_ow ?_))
        refine ow_vals 2 (j := 4) [0, 3, 4, 5, 6, 9, 10, 11, 23, 25] [(0, .pointer (some ⟨b0, 0, none⟩)), (3, .pointer (some ⟨b21, 0, none⟩)), (4, .int .i64 x28), (5, .int .i64 y34), (6, .pointer (some ⟨b36, 0, none⟩)), (9, .slice r24_p1 r24.length r24_c2), (10, .int .i64 (r24.length : Int)), (11, .int .i64 x28), (23, .int .u64 x1.Keep), (25, .int .i64 (x28.tmod 64))] rfl (by kernel_rfl) ?_
        obtain ⟨h39, hF⟩ := chk_some hF
        refine ow_pw rfl (pw_quiet (v := .int .u64 (x1.Keep.fdiv ((2 : Int) ^ (min (x28.tmod 64).toNat 64)))) rfl rfl rfl rfl (q_shift_shr rfl rfl rfl h39) (nw_ow ?_))
        refine ow_vals 2 (j := 7) [0, 3, 4, 5, 6, 9, 10, 11, 28] [(0, .pointer (some ⟨b0, 0, none⟩)), (3, .pointer (some ⟨b21, 0, none⟩)), (4, .int .i64 x28), (5, .int .i64 y34), (6, .pointer (some ⟨b36, 0, none⟩)), (9, .slice r24_p1 r24.length r24_c2), (10, .int .i64 (r24.length : Int)), (11, .int .i64 x28), (28, .bool ((iand .u64 (x1.Keep.fdiv ((2 : Int) ^ (min (x28.tmod 64).toNat 64))) 1) == 1))] rfl (by kernel_rfl) ?_
        refine ow_end rfl ?_
        refine ew_then ?_
        rcases if_some hF with ⟨h40, hF⟩ | ⟨h40, hF⟩
        · refine cw_cond_t rfl rfl h40 ?_
          refine cw_open 7 (SAT w0 ([pt b36 #[.string ((mgetD m0.wait_ y34 (⟨(ByteArray.mk #[]), 0⟩ : disk_sector)).s_), .int .i64 ((mgetD m0.wait_ y34 (⟨(ByteArray.mk #[]), 0⟩ : disk_sector)).at_)] 55, imm I, pt b0 #[.slice p30 l29.length c31, .map (some p1), .bool m0.off_, .bool m0.armed_, .int .i64 m0.left_, .int .u64 m0.fall_.Keep, .int .i64 m0.fall_.Tear, .int .i64 m0.acts_, .int .i64 m0.falls_] 52, pt b21 #[.int .u64 x1.Keep, .int .i64 x1.Tear] 36, own (eInt .i64) 3 r24_p1 r24_c2 r24, own e_disk_sector 55 p30 c31 l29, mpo (kInt .i64) (fun x : disk_sector => Value.agg #[.string x.s_, .int .i64 x.at_]) p1 m0.wait_])) (by kernel_rfl) (f := 8) rfl (fun w hs => sat_drew hs) ?_
          refine aw_vals [0, 1, 2, 4] (f' := 4) (m' := 23) [0, 3, 4, 5, 6, 9, 10, 11, 31, 33] [(0, .pointer (some ⟨b0, 0, none⟩)), (3, .pointer (some ⟨b21, 0, none⟩)), (4, .int .i64 x28), (5, .int .i64 y34), (6, .pointer (some ⟨b36, 0, none⟩)), (9, .slice r24_p1 r24.length r24_c2), (10, .int .i64 (r24.length : Int)), (11, .int .i64 x28), (31, .pointer (some ⟨b0, 0, none⟩)), (33, .int .i64 y34)] (fun _ _ _ _ _ h => calm_fin (P := Tryz.prog) (fn := Tryz.f39) _ _ _ _ _ h) (fun w hs => sat_pulls [0, 0, 0, 0, 0, 0, 0] (G := [] ++ F0) rfl hs) rfl (by kernel_rfl) ?_
          refine aw_quiet 3 (m' := 31) (v := .slice p30 l29.length c31) 3 [] rfl rfl rfl rfl (by kernel_rfl) (by kernel_rfl) (by kernel_rfl) (fun _ _ _ _ _ h => calm_fin (P := Tryz.prog) (fn := Tryz.f39) _ _ _ _ _ h) (fun w hs => sat_pulls [0, 0, 0, 0, 0, 0, 0] (G := [] ++ F0) rfl hs) (q_load 2 rfl rfl rfl (by kernel_rfl)) ?_
          refine aw_quiet 5 (m' := 63) (v := .agg #[.string ((mgetD m0.wait_ y34 (⟨(ByteArray.mk #[]), 0⟩ : disk_sector)).s_), .int .i64 ((mgetD m0.wait_ y34 (⟨(ByteArray.mk #[]), 0⟩ : disk_sector)).at_)]) 5 [] rfl rfl rfl rfl (by kernel_rfl) (by kernel_rfl) (by kernel_rfl) (fun _ _ _ _ _ h => calm_fin (P := Tryz.prog) (fn := Tryz.f39) _ _ _ _ _ h) (fun w hs => sat_pulls [0, 0, 0, 0, 0, 0, 0] (G := [] ++ F0) rfl hs) (q_load 0 rfl rfl rfl (by kernel_rfl)) ?_
          obtain ⟨y41, h42, hF⟩ := bind_some hF
          refine aw_quiet 6 (m' := 127) (v := .pointer (some ((base p30).add (y34.toNat * 2)))) 6 [] rfl rfl rfl rfl (by kernel_rfl) (by kernel_rfl) (by kernel_rfl) (fun _ _ _ _ _ h => calm_fin (P := Tryz.prog) (fn := Tryz.f39) _ _ _ _ _ h) (fun w hs => sat_pulls [0, 0, 0, 0, 0, 0, 0] (G := [] ++ F0) rfl hs) (q_index_own 5 2 rfl rfl (by kernel_rfl) rfl rfl (at_some h42).1 (at_lt h42)) ?_
          refine aw_only 7 (m' := 255) (by kernel_rfl) (by kernel_rfl) (pw_store_own 5 2 (z' := (mgetD m0.wait_ y34 (⟨(ByteArray.mk #[]), 0⟩ : disk_sector))) (off := 0) rfl rfl rfl rfl rfl rfl rfl rfl (at_some h42).2 (by kernel_rfl) (nw_H (H' := [pt b36 #[.string ((mgetD m0.wait_ y34 (⟨(ByteArray.mk #[]), 0⟩ : disk_sector)).s_), .int .i64 ((mgetD m0.wait_ y34 (⟨(ByteArray.mk #[]), 0⟩ : disk_sector)).at_)] 55, imm I, pt b0 #[.slice p30 (l29.set y34.toNat (mgetD m0.wait_ y34 (⟨(ByteArray.mk #[]), 0⟩ : disk_sector))).length c31, .map (some p1), .bool m0.off_, .bool m0.armed_, .int .i64 m0.left_, .int .u64 m0.fall_.Keep, .int .i64 m0.fall_.Tear, .int .i64 m0.acts_, .int .i64 m0.falls_] 52, pt b21 #[.int .u64 x1.Keep, .int .i64 x1.Tear] 36, own (eInt .i64) 3 r24_p1 r24_c2 r24, own e_disk_sector 55 p30 c31 (l29.set y34.toNat (mgetD m0.wait_ y34 (⟨(ByteArray.mk #[]), 0⟩ : disk_sector))), mpo (kInt .i64) (fun x : disk_sector => Value.agg #[.string x.s_, .int .i64 x.at_]) p1 m0.wait_] ++ F0) (by first | rfl | (simp only [List.length_set]; rfl)) (aw_last (by kernel_rfl) ?_)))
          refine aw_slots (L' := [(35, .pointer (some ((base p30).add (y34.toNat * 2)))), (34, .agg #[.string ((mgetD m0.wait_ y34 (⟨(ByteArray.mk #[]), 0⟩ : disk_sector)).s_), .int .i64 ((mgetD m0.wait_ y34 (⟨(ByteArray.mk #[]), 0⟩ : disk_sector)).at_)]), (32, .slice p30 (l29.set y34.toNat (mgetD m0.wait_ y34 (⟨(ByteArray.mk #[]), 0⟩ : disk_sector))).length c31), (0, .pointer (some ⟨b0, 0, none⟩)), (3, .pointer (some ⟨b21, 0, none⟩)), (4, .int .i64 x28), (5, .int .i64 y34), (6, .pointer (some ⟨b36, 0, none⟩)), (9, .slice r24_p1 r24.length r24_c2), (10, .int .i64 (r24.length : Int)), (11, .int .i64 x28), (31, .pointer (some ⟨b0, 0, none⟩)), (33, .int .i64 y34)]) (by first | rfl | (simp only [List.length_set]; rfl)) ?_
          refine aw_keep [0, 3, 4, 5, 6, 9, 10, 11] (L' := [(0, .pointer (some ⟨b0, 0, none⟩)), (3, .pointer (some ⟨b21, 0, none⟩)), (4, .int .i64 x28), (5, .int .i64 y34), (6, .pointer (some ⟨b36, 0, none⟩)), (9, .slice r24_p1 r24.length r24_c2), (10, .int .i64 (r24.length : Int)), (11, .int .i64 x28)]) rfl ?_
          refine aw_end (by kernel_rfl) ?_
          have hR := Option.some.inj hF
          exact fun a w hf hs => ⟨l29.set y34.toNat (mgetD m0.wait_ y34 (⟨(ByteArray.mk #[]), 0⟩ : disk_sector)), p30, c31, hR, hf.keep [0, 3, 4, 5, 6, 9, 10, 11], sat_to [1, 0, 0, 0, 0, 0, 0] 0 rfl hs⟩
        refine cw_cond_f rfl rfl h40 ?_
        refine cw_skip ?_
        have hR := Option.some.inj hF
        exact fun a w hf hs => ⟨l29, p30, c31, hR, hf.keep [0, 3, 4, 5, 6, 9, 10, 11], sat_to [1, 0, 0, 0, 0, 0, 0] 0 rfl hs⟩
      rintro a w ⟨l43, p44, c45, hv, hf, hs⟩
      subst hv
      replace hF := hK38
      clear hK38
      try dsimp only at hF
      revert a w
      show CW _ _ _ 91 [(0, .pointer (some ⟨b0, 0, none⟩)), (3, .pointer (some ⟨b21, 0, none⟩)), (4, .int .i64 x28), (5, .int .i64 y34), (6, .pointer (some ⟨b36, 0, none⟩)), (9, .slice r24_p1 r24.length r24_c2), (10, .int .i64 (r24.length : Int)), (11, .int .i64 x28)] (SAT w0 ([imm I, pt b36 #[.string ((mgetD m0.wait_ y34 (⟨(ByteArray.mk #[]), 0⟩ : disk_sector)).s_), .int .i64 ((mgetD m0.wait_ y34 (⟨(ByteArray.mk #[]), 0⟩ : disk_sector)).at_)] 55, pt b0 #[.slice p44 l43.length c45, .map (some p1), .bool m0.off_, .bool m0.armed_, .int .i64 m0.left_, .int .u64 m0.fall_.Keep, .int .i64 m0.fall_.Tear, .int .i64 m0.acts_, .int .i64 m0.falls_] 52, pt b21 #[.int .u64 x1.Keep, .int .i64 x1.Tear] 36, own (eInt .i64) 3 r24_p1 r24_c2 r24, own e_disk_sector 55 p44 c45 l43, mpo (kInt .i64) (fun x : disk_sector => Value.agg #[.string x.s_, .int .i64 x.at_]) p1 m0.wait_] ++ F0))
      unfold F.disk_Disk_drop.r1 at hF
      obtain ⟨v47, hF, hK47⟩ := bind_some hF
      refine cw_mid (fun a w => ∃ (x49 : Bool), x49 = v47 ∧ Fr 91 [(0, .pointer (some ⟨b0, 0, none⟩)), (3, .pointer (some ⟨b21, 0, none⟩)), (5, .int .i64 y34), (6, .pointer (some ⟨b36, 0, none⟩)), (9, .slice r24_p1 r24.length r24_c2), (10, .int .i64 (r24.length : Int)), (11, .int .i64 x28), (45, .bool x49)] a ∧ SAT w0 ([imm I, pt b36 #[.string ((mgetD m0.wait_ y34 (⟨(ByteArray.mk #[]), 0⟩ : disk_sector)).s_), .int .i64 ((mgetD m0.wait_ y34 (⟨(ByteArray.mk #[]), 0⟩ : disk_sector)).at_)] 55, pt b0 #[.slice p44 l43.length c45, .map (some p1), .bool m0.off_, .bool m0.armed_, .int .i64 m0.left_, .int .u64 m0.fall_.Keep, .int .i64 m0.fall_.Tear, .int .i64 m0.acts_, .int .i64 m0.falls_] 52, pt b21 #[.int .u64 x1.Keep, .int .i64 x1.Tear] 36, own (eInt .i64) 3 r24_p1 r24_c2 r24, own e_disk_sector 55 p44 c45 l43, mpo (kInt .i64) (fun x : disk_sector => Value.agg #[.string x.s_, .int .i64 x.at_]) p1 m0.wait_] ++ F0) w) ?_ ?_
      · refine cw_region ?_
        refine ow_vals 1 (j := 1) [0, 3, 4, 5, 6, 9, 10, 11, 36] [(0, .pointer (some ⟨b0, 0, none⟩)), (3, .pointer (some ⟨b21, 0, none⟩)), (4, .int .i64 x28), (5, .int .i64 y34), (6, .pointer (some ⟨b36, 0, none⟩)), (9, .slice r24_p1 r24.length r24_c2), (10, .int .i64 (r24.length : Int)), (11, .int .i64 x28), (36, .pointer (some ⟨b21, 1, none⟩))] rfl (by kernel_rfl) ?_
        refine ow_pw rfl (pw_quiet (v := .int .i64 x1.Tear) rfl rfl rfl rfl (q_load 3 rfl rfl rfl (by kernel_rfl)) (nw_ow ?_))
        refine ow_vals 2 (j := 4) [0, 3, 4, 5, 6, 9, 10, 11, 39] [(0, .pointer (some ⟨b0, 0, none⟩)), (3, .pointer (some ⟨b21, 0, none⟩)), (4, .int .i64 x28), (5, .int .i64 y34), (6, .pointer (some ⟨b36, 0, none⟩)), (9, .slice r24_p1 r24.length r24_c2), (10, .int .i64 (r24.length : Int)), (11, .int .i64 x28), (39, .bool (decide (x1.Tear ≥ 0)))] rfl (by kernel_rfl) ?_
        rcases if_some hF with ⟨h48, hF⟩ | ⟨h48, hF⟩
        · refine ow_slots (L' := [(0, .pointer (some ⟨b0, 0, none⟩)), (3, .pointer (some ⟨b21, 0, none⟩)), (4, .int .i64 x28), (5, .int .i64 y34), (6, .pointer (some ⟨b36, 0, none⟩)), (9, .slice r24_p1 r24.length r24_c2), (10, .int .i64 (r24.length : Int)), (11, .int .i64 x28), (39, .bool true)]) (by rw [h48]) ?_
          refine ow_vals 1 (j := 5) [0, 3, 4, 5, 6, 9, 10, 11, 39, 40] [(0, .pointer (some ⟨b0, 0, none⟩)), (3, .pointer (some ⟨b21, 0, none⟩)), (4, .int .i64 x28), (5, .int .i64 y34), (6, .pointer (some ⟨b36, 0, none⟩)), (9, .slice r24_p1 r24.length r24_c2), (10, .int .i64 (r24.length : Int)), (11, .int .i64 x28), (39, .bool true), (40, .pointer (some ⟨b21, 1, none⟩))] rfl (by kernel_rfl) ?_
          refine ow_pw rfl (pw_quiet (v := .int .i64 x1.Tear) rfl rfl rfl rfl (q_load 3 rfl rfl rfl (by kernel_rfl)) (nw_ow ?_))
          refine ow_vals 4 (j := 10) [0, 3, 5, 6, 9, 10, 11, 45] [(0, .pointer (some ⟨b0, 0, none⟩)), (3, .pointer (some ⟨b21, 0, none⟩)), (5, .int .i64 y34), (6, .pointer (some ⟨b36, 0, none⟩)), (9, .slice r24_p1 r24.length r24_c2), (10, .int .i64 (r24.length : Int)), (11, .int .i64 x28), (45, .bool ((IntKind.i64.wrap (x1.Tear.tdiv 64)) == x28))] rfl (by kernel_rfl) ?_
          refine ow_end rfl ?_
          have hR := Option.some.inj hF
          exact fun a w hf hs => ⟨(IntKind.i64.wrap (x1.Tear.tdiv 64)) == x28, hR, hf.keep [0, 3, 5, 6, 9, 10, 11, 45], sat_to [0, 0, 0, 0, 0, 0, 0] 0 rfl hs⟩
        refine ow_slots (L' := [(0, .pointer (some ⟨b0, 0, none⟩)), (3, .pointer (some ⟨b21, 0, none⟩)), (4, .int .i64 x28), (5, .int .i64 y34), (6, .pointer (some ⟨b36, 0, none⟩)), (9, .slice r24_p1 r24.length r24_c2), (10, .int .i64 (r24.length : Int)), (11, .int .i64 x28), (39, .bool false)]) (by rw [h48]) ?_
        refine ow_vals 6 (j := 10) [0, 3, 5, 6, 9, 10, 11, 45] [(0, .pointer (some ⟨b0, 0, none⟩)), (3, .pointer (some ⟨b21, 0, none⟩)), (5, .int .i64 y34), (6, .pointer (some ⟨b36, 0, none⟩)), (9, .slice r24_p1 r24.length r24_c2), (10, .int .i64 (r24.length : Int)), (11, .int .i64 x28), (45, .bool false)] rfl (by kernel_rfl) ?_
        refine ow_end rfl ?_
        have hR := Option.some.inj hF
        exact fun a w hf hs => ⟨false, hR, hf.keep [0, 3, 5, 6, 9, 10, 11, 45], sat_to [0, 0, 0, 0, 0, 0, 0] 0 rfl hs⟩
      rintro a w ⟨x49, hv, hf, hs⟩
      subst hv
      replace hF := hK47
      clear hK47
      try dsimp only at hF
      revert a w
      show CW _ _ _ 91 [(0, .pointer (some ⟨b0, 0, none⟩)), (3, .pointer (some ⟨b21, 0, none⟩)), (5, .int .i64 y34), (6, .pointer (some ⟨b36, 0, none⟩)), (9, .slice r24_p1 r24.length r24_c2), (10, .int .i64 (r24.length : Int)), (11, .int .i64 x28), (45, .bool x49)] (SAT w0 ([imm I, pt b36 #[.string ((mgetD m0.wait_ y34 (⟨(ByteArray.mk #[]), 0⟩ : disk_sector)).s_), .int .i64 ((mgetD m0.wait_ y34 (⟨(ByteArray.mk #[]), 0⟩ : disk_sector)).at_)] 55, pt b0 #[.slice p44 l43.length c45, .map (some p1), .bool m0.off_, .bool m0.armed_, .int .i64 m0.left_, .int .u64 m0.fall_.Keep, .int .i64 m0.fall_.Tear, .int .i64 m0.acts_, .int .i64 m0.falls_] 52, pt b21 #[.int .u64 x1.Keep, .int .i64 x1.Tear] 36, own (eInt .i64) 3 r24_p1 r24_c2 r24, own e_disk_sector 55 p44 c45 l43, mpo (kInt .i64) (fun x : disk_sector => Value.agg #[.string x.s_, .int .i64 x.at_]) p1 m0.wait_] ++ F0))
      unfold F.disk_Disk_drop.r2 at hF
      rcases if_some hF with ⟨h50, hF⟩ | ⟨h50, hF⟩
      · refine cw_cond_t rfl rfl h50 ?_
        refine cw_seq ?_
        refine cw_region ?_
        refine ow_vals 1 (j := 1) [0, 3, 5, 6, 9, 10, 11, 46] [(0, .pointer (some ⟨b0, 0, none⟩)), (3, .pointer (some ⟨b21, 0, none⟩)), (5, .int .i64 y34), (6, .pointer (some ⟨b36, 0, none⟩)), (9, .slice r24_p1 r24.length r24_c2), (10, .int .i64 (r24.length : Int)), (11, .int .i64 x28), (46, .pointer (some ⟨b21, 1, none⟩))] rfl (by kernel_rfl) ?_
        refine ow_pw rfl (pw_quiet (v := .int .i64 x1.Tear) rfl rfl rfl rfl (q_load 3 rfl rfl rfl (by kernel_rfl)) (nw_ow ?_))
        refine ow_vals 2 (j := 4) [0, 3, 5, 6, 7, 9, 10, 11] [(0, .pointer (some ⟨b0, 0, none⟩)), (3, .pointer (some ⟨b21, 0, none⟩)), (5, .int .i64 y34), (6, .pointer (some ⟨b36, 0, none⟩)), (7, .int .i64 (x1.Tear.tmod 64)), (9, .slice r24_p1 r24.length r24_c2), (10, .int .i64 (r24.length : Int)), (11, .int .i64 x28)] rfl (by kernel_rfl) ?_
        refine ow_end rfl ?_
        refine ew_then ?_
        refine cw_open 24 (SAT w0 ([imm I, pt b36 #[.string ((mgetD m0.wait_ y34 (⟨(ByteArray.mk #[]), 0⟩ : disk_sector)).s_), .int .i64 ((mgetD m0.wait_ y34 (⟨(ByteArray.mk #[]), 0⟩ : disk_sector)).at_)] 55, pt b0 #[.slice p44 l43.length c45, .map (some p1), .bool m0.off_, .bool m0.armed_, .int .i64 m0.left_, .int .u64 m0.fall_.Keep, .int .i64 m0.fall_.Tear, .int .i64 m0.acts_, .int .i64 m0.falls_] 52, pt b21 #[.int .u64 x1.Keep, .int .i64 x1.Tear] 36, own (eInt .i64) 3 r24_p1 r24_c2 r24, own e_disk_sector 55 p44 c45 l43, mpo (kInt .i64) (fun x : disk_sector => Value.agg #[.string x.s_, .int .i64 x.at_]) p1 m0.wait_])) (by kernel_rfl) (f := 25) rfl (fun w hs => sat_drew hs) ?_
        refine aw_vals [0, 1, 2, 4, 5, 7, 9, 10, 11, 13, 17, 20] (f' := 13) (m' := 1191607) [0, 3, 9, 10, 11, 51, 53, 54, 56, 60, 62, 66, 69] [(0, .pointer (some ⟨b0, 0, none⟩)), (3, .pointer (some ⟨b21, 0, none⟩)), (9, .slice r24_p1 r24.length r24_c2), (10, .int .i64 (r24.length : Int)), (11, .int .i64 x28), (51, .pointer (some ⟨b0, 0, none⟩)), (53, .int .i64 y34), (54, .pointer (some ⟨b36, 0, none⟩)), (56, .int .i64 (x1.Tear.tmod 64)), (60, .pointer (some ⟨b0, 0, none⟩)), (62, .int .i64 y34), (66, .int .i64 (x1.Tear.tmod 64)), (69, .pointer (some ⟨b36, 1, none⟩))] (fun _ _ _ _ _ h => calm_fin (P := Tryz.prog) (fn := Tryz.f39) _ _ _ _ _ h) (fun w hs => sat_pulls [0, 0, 0, 0, 0, 0, 0] (G := [] ++ F0) rfl hs) rfl (by kernel_rfl) ?_
        refine aw_quiet 3 (m' := 1191615) (v := .slice p44 l43.length c45) 3 [] rfl rfl rfl rfl (by kernel_rfl) (by kernel_rfl) (by kernel_rfl) (fun _ _ _ _ _ h => calm_fin (P := Tryz.prog) (fn := Tryz.f39) _ _ _ _ _ h) (fun w hs => sat_pulls [0, 0, 0, 0, 0, 0, 0] (G := [] ++ F0) rfl hs) (q_load 2 rfl rfl rfl (by kernel_rfl)) ?_
        refine aw_quiet 6 (m' := 1191679) (v := .string ((mgetD m0.wait_ y34 (⟨(ByteArray.mk #[]), 0⟩ : disk_sector)).s_)) 6 [] rfl rfl rfl rfl (by kernel_rfl) (by kernel_rfl) (by kernel_rfl) (fun _ _ _ _ _ h => calm_fin (P := Tryz.prog) (fn := Tryz.f39) _ _ _ _ _ h) (fun w hs => sat_pulls [0, 0, 0, 0, 0, 0, 0] (G := [] ++ F0) rfl hs) (q_load 1 rfl rfl rfl (by kernel_rfl)) ?_
        obtain ⟨h51, hF⟩ := chk_some hF
        refine aw_pure 8 (m' := 1191935) (v := .string (((mgetD m0.wait_ y34 (⟨(ByteArray.mk #[]), 0⟩ : disk_sector)).s_).extract (0 : Int).toNat (x1.Tear.tmod 64).toNat)) rfl rfl rfl rfl (by kernel_rfl) (by kernel_rfl) (fun _ _ _ _ _ h => calm_fin (P := Tryz.prog) (fn := Tryz.f39) _ _ _ _ _ h) (fun w hs => sat_pulls [0, 0, 0, 0, 0, 0, 0] (G := [] ++ F0) rfl hs) (q_slice_str rfl (by kernel_rfl) rfl rfl rfl h51.1 h51.2.1 h51.2.2) ?_
        refine aw_quiet 12 (m' := 1196031) (v := .slice p44 l43.length c45) 12 [] rfl rfl rfl rfl (by kernel_rfl) (by kernel_rfl) (by kernel_rfl) (fun _ _ _ _ _ h => calm_fin (P := Tryz.prog) (fn := Tryz.f39) _ _ _ _ _ h) (fun w hs => sat_pulls [0, 0, 0, 0, 0, 0, 0] (G := [] ++ F0) rfl hs) (q_load 2 rfl rfl rfl (by kernel_rfl)) ?_
        obtain ⟨y52, h53, hF⟩ := bind_some hF
        refine aw_quiet 14 (m' := 1212415) (v := .pointer (some ((base p44).add (y34.toNat * 2)))) 14 [] rfl rfl rfl rfl (by kernel_rfl) (by kernel_rfl) (by kernel_rfl) (fun _ _ _ _ _ h => calm_fin (P := Tryz.prog) (fn := Tryz.f39) _ _ _ _ _ h) (fun w hs => sat_pulls [0, 0, 0, 0, 0, 0, 0] (G := [] ++ F0) rfl hs) (q_index_own 5 2 rfl rfl (by kernel_rfl) rfl rfl (at_some h53).1 (at_lt h53)) ?_
        refine aw_vals [15] (f' := 7) (m' := 1245183) [0, 3, 9, 10, 11, 52, 53, 57, 64, 66, 69] [(0, .pointer (some ⟨b0, 0, none⟩)), (3, .pointer (some ⟨b21, 0, none⟩)), (9, .slice r24_p1 r24.length r24_c2), (10, .int .i64 (r24.length : Int)), (11, .int .i64 x28), (52, .slice p44 l43.length c45), (53, .int .i64 y34), (57, .string (((mgetD m0.wait_ y34 (⟨(ByteArray.mk #[]), 0⟩ : disk_sector)).s_).extract (0 : Int).toNat (x1.Tear.tmod 64).toNat)), (64, .pointer (some (((base p44).add (y34.toNat * 2)).add 0))), (66, .int .i64 (x1.Tear.tmod 64)), (69, .pointer (some ⟨b36, 1, none⟩))] (fun _ _ _ _ _ h => calm_fin (P := Tryz.prog) (fn := Tryz.f39) _ _ _ _ _ h) (fun w hs => sat_pulls [0, 0, 0, 0, 0, 0, 0] (G := [] ++ F0) rfl hs) rfl (by kernel_rfl) ?_
        refine aw_quiet 16 (m' := 1310719) (v := .string y52.s_) 16 [] rfl rfl rfl rfl (by kernel_rfl) (by kernel_rfl) (by kernel_rfl) (fun _ _ _ _ _ h => calm_fin (P := Tryz.prog) (fn := Tryz.f39) _ _ _ _ _ h) (fun w hs => sat_pulls [0, 0, 0, 0, 0, 0, 0] (G := [] ++ F0) rfl hs) (q_load_own 5 2 rfl rfl rfl rfl (at_some h53).2 (by kernel_rfl)) ?_
        obtain ⟨h54, hF⟩ := chk_some hF
        refine aw_pure 18 (m' := 1572863) (v := .string (y52.s_.extract (x1.Tear.tmod 64).toNat (y52.s_.size : Int).toNat)) rfl rfl rfl rfl (by kernel_rfl) (by kernel_rfl) (fun _ _ _ _ _ h => calm_fin (P := Tryz.prog) (fn := Tryz.f39) _ _ _ _ _ h) (fun w hs => sat_pulls [0, 0, 0, 0, 0, 0, 0] (G := [] ++ F0) rfl hs) (q_slice_str rfl (by kernel_rfl) rfl rfl rfl h54.1 h54.2.1 h54.2.2) ?_
        obtain ⟨h55, hF⟩ := chk_some hF
        refine aw_pure 19 (m' := 2097151) (v := .string ((((mgetD m0.wait_ y34 (⟨(ByteArray.mk #[]), 0⟩ : disk_sector)).s_).extract (0 : Int).toNat (x1.Tear.tmod 64).toNat) ++ (y52.s_.extract (x1.Tear.tmod 64).toNat (y52.s_.size : Int).toNat))) rfl rfl rfl rfl (by kernel_rfl) (by kernel_rfl) (fun _ _ _ _ _ h => calm_fin (P := Tryz.prog) (fn := Tryz.f39) _ _ _ _ _ h) (fun w hs => sat_pulls [0, 0, 0, 0, 0, 0, 0] (G := [] ++ F0) rfl hs) (q_concat rfl rfl rfl h55) ?_
        refine aw_quiet 21 (m' := 4194303) (v := .int .i64 ((mgetD m0.wait_ y34 (⟨(ByteArray.mk #[]), 0⟩ : disk_sector)).at_)) 21 [] rfl rfl rfl rfl (by kernel_rfl) (by kernel_rfl) (by kernel_rfl) (fun _ _ _ _ _ h => calm_fin (P := Tryz.prog) (fn := Tryz.f39) _ _ _ _ _ h) (fun w hs => sat_pulls [0, 0, 0, 0, 0, 0, 0] (G := [] ++ F0) rfl hs) (q_load 1 rfl rfl rfl (by kernel_rfl)) ?_
        refine aw_vals [22] (f' := 2) (m' := 8388607) [0, 3, 9, 10, 11, 52, 53, 71] [(0, .pointer (some ⟨b0, 0, none⟩)), (3, .pointer (some ⟨b21, 0, none⟩)), (9, .slice r24_p1 r24.length r24_c2), (10, .int .i64 (r24.length : Int)), (11, .int .i64 x28), (52, .slice p44 l43.length c45), (53, .int .i64 y34), (71, .agg #[.string ((((mgetD m0.wait_ y34 (⟨(ByteArray.mk #[]), 0⟩ : disk_sector)).s_).extract (0 : Int).toNat (x1.Tear.tmod 64).toNat) ++ (y52.s_.extract (x1.Tear.tmod 64).toNat (y52.s_.size : Int).toNat)), .int .i64 ((mgetD m0.wait_ y34 (⟨(ByteArray.mk #[]), 0⟩ : disk_sector)).at_)])] (fun _ _ _ _ _ h => calm_fin (P := Tryz.prog) (fn := Tryz.f39) _ _ _ _ _ h) (fun w hs => sat_pulls [0, 0, 0, 0, 0, 0, 0] (G := [] ++ F0) rfl hs) rfl (by kernel_rfl) ?_
        obtain ⟨y56, h57, hF⟩ := bind_some hF
        refine aw_quiet 23 (m' := 16777215) (v := .pointer (some ((base p44).add (y34.toNat * 2)))) 23 [] rfl rfl rfl rfl (by kernel_rfl) (by kernel_rfl) (by kernel_rfl) (fun _ _ _ _ _ h => calm_fin (P := Tryz.prog) (fn := Tryz.f39) _ _ _ _ _ h) (fun w hs => sat_pulls [0, 0, 0, 0, 0, 0, 0] (G := [] ++ F0) rfl hs) (q_index_own 5 2 rfl rfl (by kernel_rfl) rfl rfl (at_some h57).1 (at_lt h57)) ?_
        refine aw_only 24 (m' := 33554431) (by kernel_rfl) (by kernel_rfl) (pw_store_own 5 2 (z' := (⟨(((mgetD m0.wait_ y34 (⟨(ByteArray.mk #[]), 0⟩ : disk_sector)).s_).extract (0 : Int).toNat (x1.Tear.tmod 64).toNat) ++ (y52.s_.extract (x1.Tear.tmod 64).toNat (y52.s_.size : Int).toNat), (mgetD m0.wait_ y34 (⟨(ByteArray.mk #[]), 0⟩ : disk_sector)).at_⟩ : disk_sector)) (off := 0) rfl rfl rfl rfl rfl rfl rfl rfl (at_some h57).2 (by kernel_rfl) (nw_H (H' := [imm I, pt b36 #[.string ((mgetD m0.wait_ y34 (⟨(ByteArray.mk #[]), 0⟩ : disk_sector)).s_), .int .i64 ((mgetD m0.wait_ y34 (⟨(ByteArray.mk #[]), 0⟩ : disk_sector)).at_)] 55, pt b0 #[.slice p44 (l43.set y34.toNat (⟨(((mgetD m0.wait_ y34 (⟨(ByteArray.mk #[]), 0⟩ : disk_sector)).s_).extract (0 : Int).toNat (x1.Tear.tmod 64).toNat) ++ (y52.s_.extract (x1.Tear.tmod 64).toNat (y52.s_.size : Int).toNat), (mgetD m0.wait_ y34 (⟨(ByteArray.mk #[]), 0⟩ : disk_sector)).at_⟩ : disk_sector)).length c45, .map (some p1), .bool m0.off_, .bool m0.armed_, .int .i64 m0.left_, .int .u64 m0.fall_.Keep, .int .i64 m0.fall_.Tear, .int .i64 m0.acts_, .int .i64 m0.falls_] 52, pt b21 #[.int .u64 x1.Keep, .int .i64 x1.Tear] 36, own (eInt .i64) 3 r24_p1 r24_c2 r24, own e_disk_sector 55 p44 c45 (l43.set y34.toNat (⟨(((mgetD m0.wait_ y34 (⟨(ByteArray.mk #[]), 0⟩ : disk_sector)).s_).extract (0 : Int).toNat (x1.Tear.tmod 64).toNat) ++ (y52.s_.extract (x1.Tear.tmod 64).toNat (y52.s_.size : Int).toNat), (mgetD m0.wait_ y34 (⟨(ByteArray.mk #[]), 0⟩ : disk_sector)).at_⟩ : disk_sector)), mpo (kInt .i64) (fun x : disk_sector => Value.agg #[.string x.s_, .int .i64 x.at_]) p1 m0.wait_] ++ F0) (by first | rfl | (simp only [List.length_set]; rfl)) (aw_last (by kernel_rfl) ?_)))
        refine aw_slots (L' := [(72, .pointer (some ((base p44).add (y34.toNat * 2)))), (0, .pointer (some ⟨b0, 0, none⟩)), (3, .pointer (some ⟨b21, 0, none⟩)), (9, .slice r24_p1 r24.length r24_c2), (10, .int .i64 (r24.length : Int)), (11, .int .i64 x28), (52, .slice p44 (l43.set y34.toNat (⟨(((mgetD m0.wait_ y34 (⟨(ByteArray.mk #[]), 0⟩ : disk_sector)).s_).extract (0 : Int).toNat (x1.Tear.tmod 64).toNat) ++ (y52.s_.extract (x1.Tear.tmod 64).toNat (y52.s_.size : Int).toNat), (mgetD m0.wait_ y34 (⟨(ByteArray.mk #[]), 0⟩ : disk_sector)).at_⟩ : disk_sector)).length c45), (53, .int .i64 y34), (71, .agg #[.string ((((mgetD m0.wait_ y34 (⟨(ByteArray.mk #[]), 0⟩ : disk_sector)).s_).extract (0 : Int).toNat (x1.Tear.tmod 64).toNat) ++ (y52.s_.extract (x1.Tear.tmod 64).toNat (y52.s_.size : Int).toNat)), .int .i64 ((mgetD m0.wait_ y34 (⟨(ByteArray.mk #[]), 0⟩ : disk_sector)).at_)])]) (by first | rfl | (simp only [List.length_set]; rfl)) ?_
        refine aw_keep [0, 3, 9, 10, 11] (L' := [(0, .pointer (some ⟨b0, 0, none⟩)), (3, .pointer (some ⟨b21, 0, none⟩)), (9, .slice r24_p1 r24.length r24_c2), (10, .int .i64 (r24.length : Int)), (11, .int .i64 x28)]) rfl ?_
        refine aw_end (by kernel_rfl) ?_
        refine ew_blk ?_
        refine ew_then ?_
        refine cw_region ?_
        refine ow_vals 2 (j := 2) [0, 3, 9, 10, 11] [(0, .pointer (some ⟨b0, 0, none⟩)), (3, .pointer (some ⟨b21, 0, none⟩)), (9, .slice r24_p1 r24.length r24_c2), (10, .int .i64 (r24.length : Int)), (11, .int .i64 (IntKind.i64.wrap (x28 + 1)))] rfl (by kernel_rfl) ?_
        refine ow_end rfl ?_
        have hR := Option.some.inj hF
        subst hR
        have hR := hL27
        try dsimp only at hR
        exact fun a w hf hs => ⟨k, Nat.lt_succ_self k, IntKind.i64.wrap (x28 + 1), l43.set y34.toNat (⟨(((mgetD m0.wait_ y34 (⟨(ByteArray.mk #[]), 0⟩ : disk_sector)).s_).extract (0 : Int).toNat (x1.Tear.tmod 64).toNat) ++ (y52.s_.extract (x1.Tear.tmod 64).toNat (y52.s_.size : Int).toNat), (mgetD m0.wait_ y34 (⟨(ByteArray.mk #[]), 0⟩ : disk_sector)).at_⟩ : disk_sector), p44, c45, hR, hf.keep [0, 3, 9, 10, 11], sat_to [1, 0, 0, 0, 0, 0, 0] 1 rfl hs⟩
      refine cw_cond_f rfl rfl h50 ?_
      refine cw_skip ?_
      refine ew_blk ?_
      refine ew_then ?_
      refine cw_region ?_
      refine ow_vals 2 (j := 2) [0, 3, 9, 10, 11] [(0, .pointer (some ⟨b0, 0, none⟩)), (3, .pointer (some ⟨b21, 0, none⟩)), (9, .slice r24_p1 r24.length r24_c2), (10, .int .i64 (r24.length : Int)), (11, .int .i64 (IntKind.i64.wrap (x28 + 1)))] rfl (by kernel_rfl) ?_
      refine ow_end rfl ?_
      have hR := Option.some.inj hF
      subst hR
      have hR := hL27
      try dsimp only at hR
      exact fun a w hf hs => ⟨k, Nat.lt_succ_self k, IntKind.i64.wrap (x28 + 1), l43, p44, c45, hR, hf.keep [0, 3, 9, 10, 11], sat_to [1, 0, 0, 0, 0, 0, 0] 1 rfl hs⟩
    refine cw_cond_f rfl rfl h33 ?_
    refine cw_exit ?_
    refine ew_then_exit ?_
    refine ew_then_exit ?_
    refine ew_blk_exit ?_
    have hR := Option.some.inj hF
    subst hR
    have hR := hL27
    try dsimp only at hR
    exact fun a w hf hs => ⟨l29, p30, c31, hR, hf.keep [0], sat_to [3, 0, 0, 0, 0, 0] 1 rfl hs⟩
  rintro a w ⟨l58, p59, c60, hv, hf, hs⟩
  subst hv
  replace hF := hK23
  clear hK23
  try dsimp only at hF
  revert a w
  show CW _ _ _ 91 [(0, .pointer (some ⟨b0, 0, none⟩))] (SAT w0 ([imm I, pt b0 #[.slice p59 l58.length c60, .map (some p1), .bool m0.off_, .bool m0.armed_, .int .i64 m0.left_, .int .u64 m0.fall_.Keep, .int .i64 m0.fall_.Tear, .int .i64 m0.acts_, .int .i64 m0.falls_] 52, pt b21 #[.int .u64 x1.Keep, .int .i64 x1.Tear] 36, own e_disk_sector 55 p59 c60 l58, mpo (kInt .i64) (fun x : disk_sector => Value.agg #[.string x.s_, .int .i64 x.at_]) p1 m0.wait_] ++ F0))
  unfold F.disk_Disk_drop.r4 at hF
  refine cw_seq ?_
  refine cw_region ?_
  refine ow_vals 3 (j := 3) [0, 76] [(0, .pointer (some ⟨b0, 0, none⟩)), (76, .pointer (some ⟨b0, 1, none⟩))] rfl (by kernel_rfl) ?_
  refine ow_pw rfl (pw_quiet (v := .map (some p1)) rfl rfl rfl rfl (q_load 1 rfl rfl rfl (by kernel_rfl)) (nw_ow ?_))
  refine ow_pw rfl (pw_mapClear 4 rfl rfl rfl rfl rfl rfl rfl rfl (nw_H (H' := [imm I, pt b0 #[.slice p59 l58.length c60, .map (some p1), .bool m0.off_, .bool m0.armed_, .int .i64 m0.left_, .int .u64 m0.fall_.Keep, .int .i64 m0.fall_.Tear, .int .i64 m0.acts_, .int .i64 m0.falls_] 52, pt b21 #[.int .u64 x1.Keep, .int .i64 x1.Tear] 36, own e_disk_sector 55 p59 c60 l58, mpo (kInt .i64) (fun x : disk_sector => Value.agg #[.string x.s_, .int .i64 x.at_]) p1 ([] : List (Int × disk_sector))] ++ F0) rfl (nw_ow ?_)))
  refine ow_end rfl ?_
  refine ew_then ?_
  refine cw_seq ?_
  refine cw_region ?_
  refine ow_vals 4 (j := 4) [0, 79, 81] [(0, .pointer (some ⟨b0, 0, none⟩)), (79, .pointer (some ⟨b0, 0, none⟩)), (81, .pointer (some ⟨b0, 2, none⟩))] rfl (by kernel_rfl) ?_
  refine ow_pw rfl (pw_store 1 #[.slice p59 l58.length c60, .map (some p1), .bool true, .bool m0.armed_, .int .i64 m0.left_, .int .u64 m0.fall_.Keep, .int .i64 m0.fall_.Tear, .int .i64 m0.acts_, .int .i64 m0.falls_] rfl rfl rfl rfl rfl rfl rfl (by kernel_rfl) (nw_H (H' := [imm I, pt b0 #[.slice p59 l58.length c60, .map (some p1), .bool true, .bool m0.armed_, .int .i64 m0.left_, .int .u64 m0.fall_.Keep, .int .i64 m0.fall_.Tear, .int .i64 m0.acts_, .int .i64 m0.falls_] 52, pt b21 #[.int .u64 x1.Keep, .int .i64 x1.Tear] 36, own e_disk_sector 55 p59 c60 l58, mpo (kInt .i64) (fun x : disk_sector => Value.agg #[.string x.s_, .int .i64 x.at_]) p1 ([] : List (Int × disk_sector))] ++ F0) rfl (nw_ow ?_)))
  refine ow_vals 2 (j := 7) [0, 83] [(0, .pointer (some ⟨b0, 0, none⟩)), (83, .pointer (some ⟨b0, 3, none⟩))] rfl (by kernel_rfl) ?_
  refine ow_pw rfl (pw_store 1 #[.slice p59 l58.length c60, .map (some p1), .bool true, .bool false, .int .i64 m0.left_, .int .u64 m0.fall_.Keep, .int .i64 m0.fall_.Tear, .int .i64 m0.acts_, .int .i64 m0.falls_] rfl rfl rfl rfl rfl rfl rfl (by kernel_rfl) (nw_H (H' := [imm I, pt b0 #[.slice p59 l58.length c60, .map (some p1), .bool true, .bool false, .int .i64 m0.left_, .int .u64 m0.fall_.Keep, .int .i64 m0.fall_.Tear, .int .i64 m0.acts_, .int .i64 m0.falls_] 52, pt b21 #[.int .u64 x1.Keep, .int .i64 x1.Tear] 36, own e_disk_sector 55 p59 c60 l58, mpo (kInt .i64) (fun x : disk_sector => Value.agg #[.string x.s_, .int .i64 x.at_]) p1 ([] : List (Int × disk_sector))] ++ F0) rfl (nw_ow ?_)))
  refine ow_end rfl ?_
  refine ew_then ?_
  refine cw_region ?_
  refine ow_vals 3 (j := 3) [84, 86] [(84, .pointer (some ⟨b0, 0, none⟩)), (86, .pointer (some ⟨b0, 8, none⟩))] rfl (by kernel_rfl) ?_
  refine ow_pw rfl (pw_quiet (v := .int .i64 m0.falls_) rfl rfl rfl rfl (q_load 1 rfl rfl rfl (by kernel_rfl)) (nw_ow ?_))
  refine ow_vals 3 (j := 7) [88, 90] [(88, .int .i64 (IntKind.i64.wrap (m0.falls_ + 1))), (90, .pointer (some ⟨b0, 8, none⟩))] rfl (by kernel_rfl) ?_
  refine ow_pw rfl (pw_store 1 #[.slice p59 l58.length c60, .map (some p1), .bool true, .bool false, .int .i64 m0.left_, .int .u64 m0.fall_.Keep, .int .i64 m0.fall_.Tear, .int .i64 m0.acts_, .int .i64 (IntKind.i64.wrap (m0.falls_ + 1))] rfl rfl rfl rfl rfl rfl rfl (by kernel_rfl) (nw_H (H' := [imm I, pt b0 #[.slice p59 l58.length c60, .map (some p1), .bool true, .bool false, .int .i64 m0.left_, .int .u64 m0.fall_.Keep, .int .i64 m0.fall_.Tear, .int .i64 m0.acts_, .int .i64 (IntKind.i64.wrap (m0.falls_ + 1))] 52, pt b21 #[.int .u64 x1.Keep, .int .i64 x1.Tear] 36, own e_disk_sector 55 p59 c60 l58, mpo (kInt .i64) (fun x : disk_sector => Value.agg #[.string x.s_, .int .i64 x.at_]) p1 ([] : List (Int × disk_sector))] ++ F0) rfl (nw_ow ?_)))
  refine ow_end rfl ?_
  have hR := Option.some.inj hF
  subst hR
  exact fin0n (H1 := [imm I, pt b0 #[.slice p59 ((⟨l58, ([] : List (Int × disk_sector)), true, false, m0.left_, m0.fall_, m0.acts_, IntKind.i64.wrap (m0.falls_ + 1)⟩ : disk_Disk).sure_).length c60, .map (some p1), .bool ((⟨l58, ([] : List (Int × disk_sector)), true, false, m0.left_, m0.fall_, m0.acts_, IntKind.i64.wrap (m0.falls_ + 1)⟩ : disk_Disk).off_), .bool ((⟨l58, ([] : List (Int × disk_sector)), true, false, m0.left_, m0.fall_, m0.acts_, IntKind.i64.wrap (m0.falls_ + 1)⟩ : disk_Disk).armed_), .int .i64 ((⟨l58, ([] : List (Int × disk_sector)), true, false, m0.left_, m0.fall_, m0.acts_, IntKind.i64.wrap (m0.falls_ + 1)⟩ : disk_Disk).left_), .int .u64 (((⟨l58, ([] : List (Int × disk_sector)), true, false, m0.left_, m0.fall_, m0.acts_, IntKind.i64.wrap (m0.falls_ + 1)⟩ : disk_Disk).fall_).Keep), .int .i64 (((⟨l58, ([] : List (Int × disk_sector)), true, false, m0.left_, m0.fall_, m0.acts_, IntKind.i64.wrap (m0.falls_ + 1)⟩ : disk_Disk).fall_).Tear), .int .i64 ((⟨l58, ([] : List (Int × disk_sector)), true, false, m0.left_, m0.fall_, m0.acts_, IntKind.i64.wrap (m0.falls_ + 1)⟩ : disk_Disk).acts_), .int .i64 ((⟨l58, ([] : List (Int × disk_sector)), true, false, m0.left_, m0.fall_, m0.acts_, IntKind.i64.wrap (m0.falls_ + 1)⟩ : disk_Disk).falls_)] 52, own e_disk_sector 55 p59 c60 ((⟨l58, ([] : List (Int × disk_sector)), true, false, m0.left_, m0.fall_, m0.acts_, IntKind.i64.wrap (m0.falls_ + 1)⟩ : disk_Disk).sure_), mpo (kInt .i64) (fun x : disk_sector => Value.agg #[.string x.s_, .int .i64 x.at_]) p1 ((⟨l58, ([] : List (Int × disk_sector)), true, false, m0.left_, m0.fall_, m0.acts_, IntKind.i64.wrap (m0.falls_ + 1)⟩ : disk_Disk).wait_)]) (fun w hs => sat_to [2, 0, 0, 0, 0] 1 rfl hs) rfl  ⟨p59, c60, p1, rfl, rfl⟩


def F.disk_Disk_act.r1 (m0 : disk_Disk) (x24 : Bool) : Option ((Unit) ⊕ (Int × disk_Disk)) :=
  if x24 then (Option.bind (F.disk_Disk_drop m0.fall_ m0) (fun (r26 : disk_Disk) => some (.inr ((8, r26))))) else (some (.inl ()))
def F.disk_Disk_act.r2 (m0 : disk_Disk) : Option (Int × disk_Disk) :=
  some ((0, (⟨m0.sure_, m0.wait_, m0.off_, m0.armed_, IntKind.i64.wrap (m0.left_ - 1), m0.fall_, IntKind.i64.wrap (m0.acts_ + 1), m0.falls_⟩ : disk_Disk)))
def F.disk_Disk_act (m0 : disk_Disk) : Option (Int × disk_Disk) :=
  thru (Option.bind (if m0.armed_ then (some ((m0.left_ == 0))) else (some (false))) (fun x => F.disk_Disk_act.r1 m0 x)) (fun x => F.disk_Disk_act.r2 m0)
set_option maxRecDepth 100000 in
set_option maxHeartbeats 4000000 in
theorem c_disk_Disk_act (I : Hl) (m0 : disk_Disk) (p0 : Option Addr) (c0 : Nat) (p1 : Nat) (b0 : Nat) (res : Int × disk_Disk) (hF : F.disk_Disk_act m0 = some res) : Tr Tryz.prog 61 [.pointer (some ⟨b0, 0, none⟩)] [imm I, pt b0 #[.slice p0 m0.sure_.length c0, .map (some p1), .bool m0.off_, .bool m0.armed_, .int .i64 m0.left_, .int .u64 m0.fall_.Keep, .int .i64 m0.fall_.Tear, .int .i64 m0.acts_, .int .i64 m0.falls_] 52, own e_disk_sector 55 p0 c0 m0.sure_, mpo (kInt .i64) (fun x : disk_sector => Value.agg #[.string x.s_, .int .i64 x.at_]) p1 m0.wait_] (fun r H' => ∃ (pq1 : Option Addr), ∃ (cq2 : Nat), ∃ (bq4 : Nat), r = .int .i64 res.1 ∧ H' = [imm I, pt b0 #[.slice pq1 res.2.sure_.length cq2, .map (some bq4), .bool res.2.off_, .bool res.2.armed_, .int .i64 res.2.left_, .int .u64 res.2.fall_.Keep, .int .i64 res.2.fall_.Tear, .int .i64 res.2.acts_, .int .i64 res.2.falls_] 52, own e_disk_sector 55 pq1 cq2 res.2.sure_, mpo (kInt .i64) (fun x : disk_sector => Value.agg #[.string x.s_, .int .i64 x.at_]) bq4 res.2.wait_]) := by
  unfold F.disk_Disk_act at hF
  refine tr_of_cw (fn := Tryz.f61) Tryz.func61 rfl (Nat.le_of_ble_eq_true rfl) 34 rfl fun F0 w0 => ?_
  refine cw_keep [0] (L' := [(0, .pointer (some ⟨b0, 0, none⟩))]) rfl ?_
  refine cw_state (S' := SAT w0 ([imm I, pt b0 #[.slice p0 m0.sure_.length c0, .map (some p1), .bool m0.off_, .bool m0.armed_, .int .i64 m0.left_, .int .u64 m0.fall_.Keep, .int .i64 m0.fall_.Tear, .int .i64 m0.acts_, .int .i64 m0.falls_] 52, own e_disk_sector 55 p0 c0 m0.sure_, mpo (kInt .i64) (fun x : disk_sector => Value.agg #[.string x.s_, .int .i64 x.at_]) p1 m0.wait_] ++ F0)) (fun w hs => hs) ?_
  refine cw_seq ?_
  refine cw_region ?_
  refine ow_vals 1 (j := 1) [0] [(0, .pointer (some ⟨b0, 0, none⟩))] rfl (by kernel_rfl) ?_
  refine ow_end rfl ?_
  refine ew_then ?_
  obtain ⟨v21, hF, hK21⟩ := thru_some hF
  refine cw_mid (fun a w => .inl () = v21 ∧ Fr 34 [(0, .pointer (some ⟨b0, 0, none⟩))] a ∧ SAT w0 ([imm I, pt b0 #[.slice p0 m0.sure_.length c0, .map (some p1), .bool m0.off_, .bool m0.armed_, .int .i64 m0.left_, .int .u64 m0.fall_.Keep, .int .i64 m0.fall_.Tear, .int .i64 m0.acts_, .int .i64 m0.falls_] 52, own e_disk_sector 55 p0 c0 m0.sure_, mpo (kInt .i64) (fun x : disk_sector => Value.agg #[.string x.s_, .int .i64 x.at_]) p1 m0.wait_] ++ F0) w) ?_ ?_
  · obtain ⟨v22, hF, hK22⟩ := bind_some hF
    refine cw_mid (fun a w => ∃ (x24 : Bool), x24 = v22 ∧ Fr 34 [(0, .pointer (some ⟨b0, 0, none⟩)), (13, .bool x24)] a ∧ SAT w0 ([imm I, pt b0 #[.slice p0 m0.sure_.length c0, .map (some p1), .bool m0.off_, .bool m0.armed_, .int .i64 m0.left_, .int .u64 m0.fall_.Keep, .int .i64 m0.fall_.Tear, .int .i64 m0.acts_, .int .i64 m0.falls_] 52, own e_disk_sector 55 p0 c0 m0.sure_, mpo (kInt .i64) (fun x : disk_sector => Value.agg #[.string x.s_, .int .i64 x.at_]) p1 m0.wait_] ++ F0) w) ?_ ?_
    · refine cw_region ?_
      refine ow_vals 3 (j := 3) [0, 5] [(0, .pointer (some ⟨b0, 0, none⟩)), (5, .pointer (some ⟨b0, 3, none⟩))] rfl (by kernel_rfl) ?_
      refine ow_pw rfl (pw_quiet (v := .bool m0.armed_) rfl rfl rfl rfl (q_load 1 rfl rfl rfl (by kernel_rfl)) (nw_ow ?_))
      refine ow_vals 1 (j := 5) [0, 7] [(0, .pointer (some ⟨b0, 0, none⟩)), (7, .bool m0.armed_)] rfl (by kernel_rfl) ?_
      rcases if_some hF with ⟨h23, hF⟩ | ⟨h23, hF⟩
      · refine ow_slots (L' := [(0, .pointer (some ⟨b0, 0, none⟩)), (7, .bool true)]) (by rw [h23]) ?_
        refine ow_vals 3 (j := 8) [0, 7, 10] [(0, .pointer (some ⟨b0, 0, none⟩)), (7, .bool true), (10, .pointer (some ⟨b0, 4, none⟩))] rfl (by kernel_rfl) ?_
        refine ow_pw rfl (pw_quiet (v := .int .i64 m0.left_) rfl rfl rfl rfl (q_load 1 rfl rfl rfl (by kernel_rfl)) (nw_ow ?_))
        refine ow_vals 2 (j := 11) [0, 13] [(0, .pointer (some ⟨b0, 0, none⟩)), (13, .bool (m0.left_ == 0))] rfl (by kernel_rfl) ?_
        refine ow_end rfl ?_
        have hR := Option.some.inj hF
        exact fun a w hf hs => ⟨m0.left_ == 0, hR, hf.keep [0, 13], sat_to [0, 0, 0, 0] 0 rfl hs⟩
      refine ow_slots (L' := [(0, .pointer (some ⟨b0, 0, none⟩)), (7, .bool false)]) (by rw [h23]) ?_
      refine ow_vals 6 (j := 11) [0, 13] [(0, .pointer (some ⟨b0, 0, none⟩)), (13, .bool false)] rfl (by kernel_rfl) ?_
      refine ow_end rfl ?_
      have hR := Option.some.inj hF
      exact fun a w hf hs => ⟨false, hR, hf.keep [0, 13], sat_to [0, 0, 0, 0] 0 rfl hs⟩
    rintro a w ⟨x24, hv, hf, hs⟩
    subst hv
    replace hF := hK22
    clear hK22
    try dsimp only at hF
    revert a w
    show CW _ _ _ 34 [(0, .pointer (some ⟨b0, 0, none⟩)), (13, .bool x24)] (SAT w0 ([imm I, pt b0 #[.slice p0 m0.sure_.length c0, .map (some p1), .bool m0.off_, .bool m0.armed_, .int .i64 m0.left_, .int .u64 m0.fall_.Keep, .int .i64 m0.fall_.Tear, .int .i64 m0.acts_, .int .i64 m0.falls_] 52, own e_disk_sector 55 p0 c0 m0.sure_, mpo (kInt .i64) (fun x : disk_sector => Value.agg #[.string x.s_, .int .i64 x.at_]) p1 m0.wait_] ++ F0))
    unfold F.disk_Disk_act.r1 at hF
    rcases if_some hF with ⟨h25, hF⟩ | ⟨h25, hF⟩
    · refine cw_cond_t rfl rfl h25 ?_
      refine cw_seq ?_
      refine cw_region ?_
      refine ow_vals 4 (j := 4) [14, 17] [(14, .pointer (some ⟨b0, 0, none⟩)), (17, .pointer (some ⟨b0, 5, none⟩))] rfl (by kernel_rfl) ?_
      refine ow_pw rfl (pw_quiet (v := .agg #[.int .u64 m0.fall_.Keep, .int .i64 m0.fall_.Tear]) rfl rfl rfl rfl (q_load 1 rfl rfl rfl (by kernel_rfl)) (nw_ow ?_))
      obtain ⟨r26, h27, hF⟩ := bind_some hF
      refine ow_pw rfl (pw_call (F := [] ++ F0) rfl rfl rfl rfl rfl rfl rfl (by kernel_rfl) (perm_of_pulls [0, 0, 0, 0] rfl) (c_disk_Disk_drop _ m0.fall_ m0 p0 c0 p1 b0 r26 h27) ?_)
      rintro _ _ ⟨r26_p1, r26_c2, r26_b4, rfl, rfl⟩
      refine nw_H (H' := [imm I, pt b0 #[.slice r26_p1 r26.sure_.length r26_c2, .map (some r26_b4), .bool r26.off_, .bool r26.armed_, .int .i64 r26.left_, .int .u64 r26.fall_.Keep, .int .i64 r26.fall_.Tear, .int .i64 r26.acts_, .int .i64 r26.falls_] 52, own e_disk_sector 55 r26_p1 r26_c2 r26.sure_, mpo (kInt .i64) (fun x : disk_sector => Value.agg #[.string x.s_, .int .i64 x.at_]) r26_b4 r26.wait_] ++ F0) rfl (nw_ow ?_)
      refine ow_end rfl ?_
      refine ew_then ?_
      refine cw_seq ?_
      refine cw_region ?_
      refine ow_vals 1 (j := 1) [2] [(2, .int .i64 8)] rfl (by kernel_rfl) ?_
      refine ow_end rfl ?_
      refine ew_then ?_
      refine cw_ret ?_
      refine ew_then_ret ?_
      have hR := Option.some.inj hF
      subst hR
      have hR := hK21
      try dsimp only [Thru] at hR
      subst hR
      exact fin1 (H1 := [imm I, pt b0 #[.slice r26_p1 r26.sure_.length r26_c2, .map (some r26_b4), .bool r26.off_, .bool r26.armed_, .int .i64 r26.left_, .int .u64 r26.fall_.Keep, .int .i64 r26.fall_.Tear, .int .i64 r26.acts_, .int .i64 r26.falls_] 52, own e_disk_sector 55 r26_p1 r26_c2 r26.sure_, mpo (kInt .i64) (fun x : disk_sector => Value.agg #[.string x.s_, .int .i64 x.at_]) r26_b4 r26.wait_]) (fun w hs => sat_to [0, 0, 0, 0] 0 rfl hs) rfl (rr_tmp rfl) ⟨r26_p1, r26_c2, r26_b4, rfl, rfl⟩
    refine cw_cond_f rfl rfl h25 ?_
    refine cw_skip ?_
    have hR := Option.some.inj hF
    exact fun a w hf hs => ⟨hR, hf.keep [0], sat_to [0, 0, 0, 0] 0 rfl hs⟩
  rintro a w ⟨hv, hf, hs⟩
  subst hv
  replace hF := hK21
  clear hK21
  try dsimp only [Thru] at hF
  revert a w
  show CW _ _ _ 34 [(0, .pointer (some ⟨b0, 0, none⟩))] (SAT w0 ([imm I, pt b0 #[.slice p0 m0.sure_.length c0, .map (some p1), .bool m0.off_, .bool m0.armed_, .int .i64 m0.left_, .int .u64 m0.fall_.Keep, .int .i64 m0.fall_.Tear, .int .i64 m0.acts_, .int .i64 m0.falls_] 52, own e_disk_sector 55 p0 c0 m0.sure_, mpo (kInt .i64) (fun x : disk_sector => Value.agg #[.string x.s_, .int .i64 x.at_]) p1 m0.wait_] ++ F0))
  unfold F.disk_Disk_act.r2 at hF
  refine cw_seq ?_
  refine cw_region ?_
  refine ow_vals 3 (j := 3) [0, 20, 22] [(0, .pointer (some ⟨b0, 0, none⟩)), (20, .pointer (some ⟨b0, 0, none⟩)), (22, .pointer (some ⟨b0, 4, none⟩))] rfl (by kernel_rfl) ?_
  refine ow_pw rfl (pw_quiet (v := .int .i64 m0.left_) rfl rfl rfl rfl (q_load 1 rfl rfl rfl (by kernel_rfl)) (nw_ow ?_))
  refine ow_vals 3 (j := 7) [0, 24, 26] [(0, .pointer (some ⟨b0, 0, none⟩)), (24, .int .i64 (IntKind.i64.wrap (m0.left_ - 1))), (26, .pointer (some ⟨b0, 4, none⟩))] rfl (by kernel_rfl) ?_
  refine ow_pw rfl (pw_store 1 #[.slice p0 m0.sure_.length c0, .map (some p1), .bool m0.off_, .bool m0.armed_, .int .i64 (IntKind.i64.wrap (m0.left_ - 1)), .int .u64 m0.fall_.Keep, .int .i64 m0.fall_.Tear, .int .i64 m0.acts_, .int .i64 m0.falls_] rfl rfl rfl rfl rfl rfl rfl (by kernel_rfl) (nw_H (H' := [imm I, pt b0 #[.slice p0 m0.sure_.length c0, .map (some p1), .bool m0.off_, .bool m0.armed_, .int .i64 (IntKind.i64.wrap (m0.left_ - 1)), .int .u64 m0.fall_.Keep, .int .i64 m0.fall_.Tear, .int .i64 m0.acts_, .int .i64 m0.falls_] 52, own e_disk_sector 55 p0 c0 m0.sure_, mpo (kInt .i64) (fun x : disk_sector => Value.agg #[.string x.s_, .int .i64 x.at_]) p1 m0.wait_] ++ F0) rfl (nw_ow ?_)))
  refine ow_end rfl ?_
  refine ew_then ?_
  refine cw_seq ?_
  refine cw_region ?_
  refine ow_vals 3 (j := 3) [27, 29] [(27, .pointer (some ⟨b0, 0, none⟩)), (29, .pointer (some ⟨b0, 7, none⟩))] rfl (by kernel_rfl) ?_
  refine ow_pw rfl (pw_quiet (v := .int .i64 m0.acts_) rfl rfl rfl rfl (q_load 1 rfl rfl rfl (by kernel_rfl)) (nw_ow ?_))
  refine ow_vals 3 (j := 7) [31, 33] [(31, .int .i64 (IntKind.i64.wrap (m0.acts_ + 1))), (33, .pointer (some ⟨b0, 7, none⟩))] rfl (by kernel_rfl) ?_
  refine ow_pw rfl (pw_store 1 #[.slice p0 m0.sure_.length c0, .map (some p1), .bool m0.off_, .bool m0.armed_, .int .i64 (IntKind.i64.wrap (m0.left_ - 1)), .int .u64 m0.fall_.Keep, .int .i64 m0.fall_.Tear, .int .i64 (IntKind.i64.wrap (m0.acts_ + 1)), .int .i64 m0.falls_] rfl rfl rfl rfl rfl rfl rfl (by kernel_rfl) (nw_H (H' := [imm I, pt b0 #[.slice p0 m0.sure_.length c0, .map (some p1), .bool m0.off_, .bool m0.armed_, .int .i64 (IntKind.i64.wrap (m0.left_ - 1)), .int .u64 m0.fall_.Keep, .int .i64 m0.fall_.Tear, .int .i64 (IntKind.i64.wrap (m0.acts_ + 1)), .int .i64 m0.falls_] 52, own e_disk_sector 55 p0 c0 m0.sure_, mpo (kInt .i64) (fun x : disk_sector => Value.agg #[.string x.s_, .int .i64 x.at_]) p1 m0.wait_] ++ F0) rfl (nw_ow ?_)))
  refine ow_end rfl ?_
  refine ew_then ?_
  refine cw_seq ?_
  refine cw_region ?_
  refine ow_vals 1 (j := 1) [2] [(2, .int .i64 0)] rfl (by kernel_rfl) ?_
  refine ow_end rfl ?_
  refine ew_then ?_
  refine cw_ret ?_
  have hR := Option.some.inj hF
  subst hR
  exact fin1 (H1 := [imm I, pt b0 #[.slice p0 ((⟨m0.sure_, m0.wait_, m0.off_, m0.armed_, IntKind.i64.wrap (m0.left_ - 1), m0.fall_, IntKind.i64.wrap (m0.acts_ + 1), m0.falls_⟩ : disk_Disk).sure_).length c0, .map (some p1), .bool ((⟨m0.sure_, m0.wait_, m0.off_, m0.armed_, IntKind.i64.wrap (m0.left_ - 1), m0.fall_, IntKind.i64.wrap (m0.acts_ + 1), m0.falls_⟩ : disk_Disk).off_), .bool ((⟨m0.sure_, m0.wait_, m0.off_, m0.armed_, IntKind.i64.wrap (m0.left_ - 1), m0.fall_, IntKind.i64.wrap (m0.acts_ + 1), m0.falls_⟩ : disk_Disk).armed_), .int .i64 ((⟨m0.sure_, m0.wait_, m0.off_, m0.armed_, IntKind.i64.wrap (m0.left_ - 1), m0.fall_, IntKind.i64.wrap (m0.acts_ + 1), m0.falls_⟩ : disk_Disk).left_), .int .u64 (((⟨m0.sure_, m0.wait_, m0.off_, m0.armed_, IntKind.i64.wrap (m0.left_ - 1), m0.fall_, IntKind.i64.wrap (m0.acts_ + 1), m0.falls_⟩ : disk_Disk).fall_).Keep), .int .i64 (((⟨m0.sure_, m0.wait_, m0.off_, m0.armed_, IntKind.i64.wrap (m0.left_ - 1), m0.fall_, IntKind.i64.wrap (m0.acts_ + 1), m0.falls_⟩ : disk_Disk).fall_).Tear), .int .i64 ((⟨m0.sure_, m0.wait_, m0.off_, m0.armed_, IntKind.i64.wrap (m0.left_ - 1), m0.fall_, IntKind.i64.wrap (m0.acts_ + 1), m0.falls_⟩ : disk_Disk).acts_), .int .i64 ((⟨m0.sure_, m0.wait_, m0.off_, m0.armed_, IntKind.i64.wrap (m0.left_ - 1), m0.fall_, IntKind.i64.wrap (m0.acts_ + 1), m0.falls_⟩ : disk_Disk).falls_)] 52, own e_disk_sector 55 p0 c0 ((⟨m0.sure_, m0.wait_, m0.off_, m0.armed_, IntKind.i64.wrap (m0.left_ - 1), m0.fall_, IntKind.i64.wrap (m0.acts_ + 1), m0.falls_⟩ : disk_Disk).sure_), mpo (kInt .i64) (fun x : disk_sector => Value.agg #[.string x.s_, .int .i64 x.at_]) p1 ((⟨m0.sure_, m0.wait_, m0.off_, m0.armed_, IntKind.i64.wrap (m0.left_ - 1), m0.fall_, IntKind.i64.wrap (m0.acts_ + 1), m0.falls_⟩ : disk_Disk).wait_)]) (fun w hs => sat_to [0, 0, 0, 0] 0 rfl hs) rfl (rr_tmp rfl) ⟨p0, c0, p1, rfl, rfl⟩


def F.disk_Disk_Write (x1 : Int) (x2 : ByteArray) (m0 : disk_Disk) : Option (Int × disk_Disk) :=
  Option.bind (F.disk_Disk_why x1 m0) (fun (r21 : Int) => if r21 != 0 then (some ((r21, m0))) else (if (x2.size : Int) != 64 then (some ((1, m0))) else (Option.bind (F.disk_Disk_act m0) (fun (r25 : Int × disk_Disk) => if r25.1 != 0 then (some ((r25.1, r25.2))) else (some ((0, (⟨r25.2.sure_, mset r25.2.wait_ x1 (⟨x2, r25.2.acts_⟩ : disk_sector), r25.2.off_, r25.2.armed_, r25.2.left_, r25.2.fall_, r25.2.acts_, r25.2.falls_⟩ : disk_Disk))))))))
set_option maxRecDepth 100000 in
set_option maxHeartbeats 4000000 in
theorem c_disk_Disk_Write (I : Hl) (x1 : Int) (x2 : ByteArray) (m0 : disk_Disk) (p0 : Option Addr) (c0 : Nat) (p1 : Nat) (b0 : Nat) (res : Int × disk_Disk) (hF : F.disk_Disk_Write x1 x2 m0 = some res) : Tr Tryz.prog 50 [.pointer (some ⟨b0, 0, none⟩), .int .i64 x1, .string x2] [imm I, pt b0 #[.slice p0 m0.sure_.length c0, .map (some p1), .bool m0.off_, .bool m0.armed_, .int .i64 m0.left_, .int .u64 m0.fall_.Keep, .int .i64 m0.fall_.Tear, .int .i64 m0.acts_, .int .i64 m0.falls_] 52, own e_disk_sector 55 p0 c0 m0.sure_, mpo (kInt .i64) (fun x : disk_sector => Value.agg #[.string x.s_, .int .i64 x.at_]) p1 m0.wait_] (fun r H' => ∃ (pq1 : Option Addr), ∃ (cq2 : Nat), ∃ (bq4 : Nat), r = .int .i64 res.1 ∧ H' = [imm I, pt b0 #[.slice pq1 res.2.sure_.length cq2, .map (some bq4), .bool res.2.off_, .bool res.2.armed_, .int .i64 res.2.left_, .int .u64 res.2.fall_.Keep, .int .i64 res.2.fall_.Tear, .int .i64 res.2.acts_, .int .i64 res.2.falls_] 52, own e_disk_sector 55 pq1 cq2 res.2.sure_, mpo (kInt .i64) (fun x : disk_sector => Value.agg #[.string x.s_, .int .i64 x.at_]) bq4 res.2.wait_]) := by
  unfold F.disk_Disk_Write at hF
  refine tr_of_cw (fn := Tryz.f50) Tryz.func50 rfl (Nat.le_of_ble_eq_true rfl) 34 rfl fun F0 w0 => ?_
  refine cw_keep [0, 1, 2] (L' := [(0, .pointer (some ⟨b0, 0, none⟩)), (1, .int .i64 x1), (2, .string x2)]) rfl ?_
  refine cw_state (S' := SAT w0 ([imm I, pt b0 #[.slice p0 m0.sure_.length c0, .map (some p1), .bool m0.off_, .bool m0.armed_, .int .i64 m0.left_, .int .u64 m0.fall_.Keep, .int .i64 m0.fall_.Tear, .int .i64 m0.acts_, .int .i64 m0.falls_] 52, own e_disk_sector 55 p0 c0 m0.sure_, mpo (kInt .i64) (fun x : disk_sector => Value.agg #[.string x.s_, .int .i64 x.at_]) p1 m0.wait_] ++ F0)) (fun w hs => hs) ?_
  refine cw_seq ?_
  refine cw_region ?_
  refine ow_vals 1 (j := 1) [0, 1, 2] [(0, .pointer (some ⟨b0, 0, none⟩)), (1, .int .i64 x1), (2, .string x2)] rfl (by kernel_rfl) ?_
  refine ow_end rfl ?_
  refine ew_then ?_
  refine cw_seq ?_
  refine cw_seq ?_
  refine cw_region ?_
  refine ow_vals 2 (j := 2) [0, 1, 2, 9, 10] [(0, .pointer (some ⟨b0, 0, none⟩)), (1, .int .i64 x1), (2, .string x2), (9, .pointer (some ⟨b0, 0, none⟩)), (10, .int .i64 x1)] rfl (by kernel_rfl) ?_
  obtain ⟨r21, h22, hF⟩ := bind_some hF
  refine ow_pw rfl (pw_call (F := [] ++ F0) rfl rfl rfl rfl rfl rfl rfl (by kernel_rfl) (perm_of_pulls [0, 0, 0, 0] rfl) (c_disk_Disk_why _ x1 m0 p0 c0 p1 b0 r21 h22) ?_)
  rintro _ _ ⟨rfl, rfl⟩
  refine nw_H (H' := [imm I, pt b0 #[.slice p0 m0.sure_.length c0, .map (some p1), .bool m0.off_, .bool m0.armed_, .int .i64 m0.left_, .int .u64 m0.fall_.Keep, .int .i64 m0.fall_.Tear, .int .i64 m0.acts_, .int .i64 m0.falls_] 52, own e_disk_sector 55 p0 c0 m0.sure_, mpo (kInt .i64) (fun x : disk_sector => Value.agg #[.string x.s_, .int .i64 x.at_]) p1 m0.wait_] ++ F0) rfl (nw_ow ?_)
  refine ow_vals 1 (j := 4) [0, 1, 2, 7] [(0, .pointer (some ⟨b0, 0, none⟩)), (1, .int .i64 x1), (2, .string x2), (7, .int .i64 r21)] rfl (by kernel_rfl) ?_
  refine ow_end rfl ?_
  refine ew_then ?_
  refine cw_seq ?_
  refine cw_region ?_
  refine ow_vals 2 (j := 2) [0, 1, 2, 7, 13] [(0, .pointer (some ⟨b0, 0, none⟩)), (1, .int .i64 x1), (2, .string x2), (7, .int .i64 r21), (13, .bool (r21 != 0))] rfl (by kernel_rfl) ?_
  refine ow_end rfl ?_
  refine ew_then ?_
  rcases if_some hF with ⟨h23, hF⟩ | ⟨h23, hF⟩
  · refine cw_cond_t rfl rfl h23 ?_
    refine cw_seq ?_
    refine cw_region ?_
    refine ow_vals 2 (j := 2) [6] [(6, .int .i64 r21)] rfl (by kernel_rfl) ?_
    refine ow_end rfl ?_
    refine ew_then ?_
    refine cw_ret ?_
    refine ew_then_ret ?_
    have hR := Option.some.inj hF
    subst hR
    exact fin1 (H1 := [imm I, pt b0 #[.slice p0 m0.sure_.length c0, .map (some p1), .bool m0.off_, .bool m0.armed_, .int .i64 m0.left_, .int .u64 m0.fall_.Keep, .int .i64 m0.fall_.Tear, .int .i64 m0.acts_, .int .i64 m0.falls_] 52, own e_disk_sector 55 p0 c0 m0.sure_, mpo (kInt .i64) (fun x : disk_sector => Value.agg #[.string x.s_, .int .i64 x.at_]) p1 m0.wait_]) (fun w hs => sat_to [0, 0, 0, 0] 0 rfl hs) rfl (rr_tmp rfl) ⟨p0, c0, p1, rfl, rfl⟩
  refine cw_cond_f rfl rfl h23 ?_
  refine cw_skip ?_
  refine ew_then ?_
  refine cw_seq ?_
  refine cw_seq ?_
  refine cw_region ?_
  refine ow_vals 3 (j := 3) [0, 1, 2, 17] [(0, .pointer (some ⟨b0, 0, none⟩)), (1, .int .i64 x1), (2, .string x2), (17, .bool ((x2.size : Int) != 64))] rfl (by kernel_rfl) ?_
  refine ow_end rfl ?_
  refine ew_then ?_
  rcases if_some hF with ⟨h24, hF⟩ | ⟨h24, hF⟩
  · refine cw_cond_t rfl rfl h24 ?_
    refine cw_seq ?_
    refine cw_region ?_
    refine ow_vals 1 (j := 1) [6] [(6, .int .i64 1)] rfl (by kernel_rfl) ?_
    refine ow_end rfl ?_
    refine ew_then ?_
    refine cw_ret ?_
    refine ew_then_ret ?_
    have hR := Option.some.inj hF
    subst hR
    exact fin1 (H1 := [imm I, pt b0 #[.slice p0 m0.sure_.length c0, .map (some p1), .bool m0.off_, .bool m0.armed_, .int .i64 m0.left_, .int .u64 m0.fall_.Keep, .int .i64 m0.fall_.Tear, .int .i64 m0.acts_, .int .i64 m0.falls_] 52, own e_disk_sector 55 p0 c0 m0.sure_, mpo (kInt .i64) (fun x : disk_sector => Value.agg #[.string x.s_, .int .i64 x.at_]) p1 m0.wait_]) (fun w hs => sat_to [0, 0, 0, 0] 0 rfl hs) rfl (rr_tmp rfl) ⟨p0, c0, p1, rfl, rfl⟩
  refine cw_cond_f rfl rfl h24 ?_
  refine cw_skip ?_
  refine ew_then ?_
  refine cw_seq ?_
  refine cw_seq ?_
  refine cw_region ?_
  refine ow_vals 1 (j := 1) [0, 1, 2, 18] [(0, .pointer (some ⟨b0, 0, none⟩)), (1, .int .i64 x1), (2, .string x2), (18, .pointer (some ⟨b0, 0, none⟩))] rfl (by kernel_rfl) ?_
  obtain ⟨r25, h26, hF⟩ := bind_some hF
  refine ow_pw rfl (pw_call (F := [] ++ F0) rfl rfl rfl rfl rfl rfl rfl (by kernel_rfl) (perm_of_pulls [0, 0, 0, 0] rfl) (c_disk_Disk_act _ m0 p0 c0 p1 b0 r25 h26) ?_)
  rintro _ _ ⟨r25_p1, r25_c2, r25_b4, rfl, rfl⟩
  refine nw_H (H' := [imm I, pt b0 #[.slice r25_p1 r25.2.sure_.length r25_c2, .map (some r25_b4), .bool r25.2.off_, .bool r25.2.armed_, .int .i64 r25.2.left_, .int .u64 r25.2.fall_.Keep, .int .i64 r25.2.fall_.Tear, .int .i64 r25.2.acts_, .int .i64 r25.2.falls_] 52, own e_disk_sector 55 r25_p1 r25_c2 r25.2.sure_, mpo (kInt .i64) (fun x : disk_sector => Value.agg #[.string x.s_, .int .i64 x.at_]) r25_b4 r25.2.wait_] ++ F0) rfl (nw_ow ?_)
  refine ow_vals 1 (j := 3) [0, 1, 2, 8] [(0, .pointer (some ⟨b0, 0, none⟩)), (1, .int .i64 x1), (2, .string x2), (8, .int .i64 r25.1)] rfl (by kernel_rfl) ?_
  refine ow_end rfl ?_
  refine ew_then ?_
  refine cw_seq ?_
  refine cw_region ?_
  refine ow_vals 2 (j := 2) [0, 1, 2, 8, 21] [(0, .pointer (some ⟨b0, 0, none⟩)), (1, .int .i64 x1), (2, .string x2), (8, .int .i64 r25.1), (21, .bool (r25.1 != 0))] rfl (by kernel_rfl) ?_
  refine ow_end rfl ?_
  refine ew_then ?_
  rcases if_some hF with ⟨h29, hF⟩ | ⟨h29, hF⟩
  · refine cw_cond_t rfl rfl h29 ?_
    refine cw_seq ?_
    refine cw_region ?_
    refine ow_vals 2 (j := 2) [6] [(6, .int .i64 r25.1)] rfl (by kernel_rfl) ?_
    refine ow_end rfl ?_
    refine ew_then ?_
    refine cw_ret ?_
    refine ew_then_ret ?_
    have hR := Option.some.inj hF
    subst hR
    exact fin1 (H1 := [imm I, pt b0 #[.slice r25_p1 r25.2.sure_.length r25_c2, .map (some r25_b4), .bool r25.2.off_, .bool r25.2.armed_, .int .i64 r25.2.left_, .int .u64 r25.2.fall_.Keep, .int .i64 r25.2.fall_.Tear, .int .i64 r25.2.acts_, .int .i64 r25.2.falls_] 52, own e_disk_sector 55 r25_p1 r25_c2 r25.2.sure_, mpo (kInt .i64) (fun x : disk_sector => Value.agg #[.string x.s_, .int .i64 x.at_]) r25_b4 r25.2.wait_]) (fun w hs => sat_to [0, 0, 0, 0] 0 rfl hs) rfl (rr_tmp rfl) ⟨r25_p1, r25_c2, r25_b4, rfl, rfl⟩
  refine cw_cond_f rfl rfl h29 ?_
  refine cw_skip ?_
  refine ew_then ?_
  refine cw_seq ?_
  refine cw_open 11 (SAT w0 ([imm I, pt b0 #[.slice r25_p1 r25.2.sure_.length r25_c2, .map (some r25_b4), .bool r25.2.off_, .bool r25.2.armed_, .int .i64 r25.2.left_, .int .u64 r25.2.fall_.Keep, .int .i64 r25.2.fall_.Tear, .int .i64 r25.2.acts_, .int .i64 r25.2.falls_] 52, own e_disk_sector 55 r25_p1 r25_c2 r25.2.sure_, mpo (kInt .i64) (fun x : disk_sector => Value.agg #[.string x.s_, .int .i64 x.at_]) r25_b4 r25.2.wait_])) (by kernel_rfl) (f := 12) rfl (fun w hs => sat_drew hs) ?_
  refine aw_vals [0, 1, 2, 4, 5, 6, 7, 8] (f' := 4) (m' := 503) [25, 27, 28, 31] [(25, .pointer (some ⟨b0, 1, none⟩)), (27, .int .i64 x1), (28, .string x2), (31, .pointer (some ⟨b0, 7, none⟩))] (fun _ _ _ _ _ h => calm_fin (P := Tryz.prog) (fn := Tryz.f50) _ _ _ _ _ h) (fun w hs => sat_pulls [0, 0, 0, 0] (G := [] ++ F0) rfl hs) rfl (by kernel_rfl) ?_
  refine aw_quiet 3 (m' := 511) (v := .map (some r25_b4)) 3 [] rfl rfl rfl rfl (by kernel_rfl) (by kernel_rfl) (by kernel_rfl) (fun _ _ _ _ _ h => calm_fin (P := Tryz.prog) (fn := Tryz.f50) _ _ _ _ _ h) (fun w hs => sat_pulls [0, 0, 0, 0] (G := [] ++ F0) rfl hs) (q_load 1 rfl rfl rfl (by kernel_rfl)) ?_
  refine aw_quiet 9 (m' := 1023) (v := .int .i64 r25.2.acts_) 9 [] rfl rfl rfl rfl (by kernel_rfl) (by kernel_rfl) (by kernel_rfl) (fun _ _ _ _ _ h => calm_fin (P := Tryz.prog) (fn := Tryz.f50) _ _ _ _ _ h) (fun w hs => sat_pulls [0, 0, 0, 0] (G := [] ++ F0) rfl hs) (q_load 1 rfl rfl rfl (by kernel_rfl)) ?_
  refine aw_vals [10] (f' := 1) (m' := 2047) [26, 27, 33] [(26, .map (some r25_b4)), (27, .int .i64 x1), (33, .agg #[.string x2, .int .i64 r25.2.acts_])] (fun _ _ _ _ _ h => calm_fin (P := Tryz.prog) (fn := Tryz.f50) _ _ _ _ _ h) (fun w hs => sat_pulls [0, 0, 0, 0] (G := [] ++ F0) rfl hs) rfl (by kernel_rfl) ?_
  refine aw_only 11 (m' := 4095) (by kernel_rfl) (by kernel_rfl) (pw_mapSet 3 (key := x1) (v := (⟨x2, r25.2.acts_⟩ : disk_sector)) (mkey_int (by kernel_rfl)) rfl rfl rfl rfl rfl rfl rfl rfl rfl rfl (nw_H (H' := [imm I, pt b0 #[.slice r25_p1 r25.2.sure_.length r25_c2, .map (some r25_b4), .bool r25.2.off_, .bool r25.2.armed_, .int .i64 r25.2.left_, .int .u64 r25.2.fall_.Keep, .int .i64 r25.2.fall_.Tear, .int .i64 r25.2.acts_, .int .i64 r25.2.falls_] 52, own e_disk_sector 55 r25_p1 r25_c2 r25.2.sure_, mpo (kInt .i64) (fun x : disk_sector => Value.agg #[.string x.s_, .int .i64 x.at_]) r25_b4 (mset r25.2.wait_ x1 (⟨x2, r25.2.acts_⟩ : disk_sector))] ++ F0) rfl (aw_last (by kernel_rfl) ?_)))
  refine aw_keep [] (L' := []) rfl ?_
  refine aw_end (by kernel_rfl) ?_
  refine ew_then ?_
  refine cw_seq ?_
  refine cw_region ?_
  refine ow_vals 1 (j := 1) [6] [(6, .int .i64 0)] rfl (by kernel_rfl) ?_
  refine ow_end rfl ?_
  refine ew_then ?_
  refine cw_ret ?_
  have hR := Option.some.inj hF
  subst hR
  exact fin1 (H1 := [imm I, pt b0 #[.slice r25_p1 ((⟨r25.2.sure_, mset r25.2.wait_ x1 (⟨x2, r25.2.acts_⟩ : disk_sector), r25.2.off_, r25.2.armed_, r25.2.left_, r25.2.fall_, r25.2.acts_, r25.2.falls_⟩ : disk_Disk).sure_).length r25_c2, .map (some r25_b4), .bool ((⟨r25.2.sure_, mset r25.2.wait_ x1 (⟨x2, r25.2.acts_⟩ : disk_sector), r25.2.off_, r25.2.armed_, r25.2.left_, r25.2.fall_, r25.2.acts_, r25.2.falls_⟩ : disk_Disk).off_), .bool ((⟨r25.2.sure_, mset r25.2.wait_ x1 (⟨x2, r25.2.acts_⟩ : disk_sector), r25.2.off_, r25.2.armed_, r25.2.left_, r25.2.fall_, r25.2.acts_, r25.2.falls_⟩ : disk_Disk).armed_), .int .i64 ((⟨r25.2.sure_, mset r25.2.wait_ x1 (⟨x2, r25.2.acts_⟩ : disk_sector), r25.2.off_, r25.2.armed_, r25.2.left_, r25.2.fall_, r25.2.acts_, r25.2.falls_⟩ : disk_Disk).left_), .int .u64 (((⟨r25.2.sure_, mset r25.2.wait_ x1 (⟨x2, r25.2.acts_⟩ : disk_sector), r25.2.off_, r25.2.armed_, r25.2.left_, r25.2.fall_, r25.2.acts_, r25.2.falls_⟩ : disk_Disk).fall_).Keep), .int .i64 (((⟨r25.2.sure_, mset r25.2.wait_ x1 (⟨x2, r25.2.acts_⟩ : disk_sector), r25.2.off_, r25.2.armed_, r25.2.left_, r25.2.fall_, r25.2.acts_, r25.2.falls_⟩ : disk_Disk).fall_).Tear), .int .i64 ((⟨r25.2.sure_, mset r25.2.wait_ x1 (⟨x2, r25.2.acts_⟩ : disk_sector), r25.2.off_, r25.2.armed_, r25.2.left_, r25.2.fall_, r25.2.acts_, r25.2.falls_⟩ : disk_Disk).acts_), .int .i64 ((⟨r25.2.sure_, mset r25.2.wait_ x1 (⟨x2, r25.2.acts_⟩ : disk_sector), r25.2.off_, r25.2.armed_, r25.2.left_, r25.2.fall_, r25.2.acts_, r25.2.falls_⟩ : disk_Disk).falls_)] 52, own e_disk_sector 55 r25_p1 r25_c2 ((⟨r25.2.sure_, mset r25.2.wait_ x1 (⟨x2, r25.2.acts_⟩ : disk_sector), r25.2.off_, r25.2.armed_, r25.2.left_, r25.2.fall_, r25.2.acts_, r25.2.falls_⟩ : disk_Disk).sure_), mpo (kInt .i64) (fun x : disk_sector => Value.agg #[.string x.s_, .int .i64 x.at_]) r25_b4 ((⟨r25.2.sure_, mset r25.2.wait_ x1 (⟨x2, r25.2.acts_⟩ : disk_sector), r25.2.off_, r25.2.armed_, r25.2.left_, r25.2.fall_, r25.2.acts_, r25.2.falls_⟩ : disk_Disk).wait_)]) (fun w hs => sat_to [0, 0, 0, 0] 0 rfl hs) rfl (rr_tmp rfl) ⟨r25_p1, r25_c2, r25_b4, rfl, rfl⟩

end Go.Proofs.YtilpkebkhibpeaaGreatDoor
