/- What the functions compute, and that the code computes it: printed by a program of this claim (wip/tools), for the group Apart. -/
import Derived.Test.YtoamnhmdhficiaaGBatch
namespace Go.Proofs.Ytoamnhmdhficiaa
set_option linter.all false
open Go Go.RowKit Go.Fw
set_option linter.unusedVariables false

def F.batch_climber_node_1 (m0 : batch_climber) : Option (ByteArray × batch_climber) :=
  if (m0.nodes_.length : Int) == 0 then (some (((ByteArray.mk #[]), (⟨m0.leaf_, m0.nodes_, true⟩ : batch_climber)))) else (Option.bind (at_ m0.nodes_ 0) (fun (y22 : ByteArray) => chk (0 ≤ (1 : Int) ∧ (1 : Int) ≤ (m0.nodes_.length : Int) ∧ (m0.nodes_.length : Int) ≤ (m0.nodes_.length : Int)) (some ((y22, (⟨m0.leaf_, (m0.nodes_.drop (1 : Int).toNat).take ((m0.nodes_.length : Int).toNat - (1 : Int).toNat), m0.bad_⟩ : batch_climber))))))
set_option maxRecDepth 100000 in
set_option maxHeartbeats 4000000 in
theorem c_batch_climber_node_1 (I : Hl) (m0 : batch_climber) (p0 : Option Addr) (c0 : Nat) (p1 : Option Addr) (c1 : Nat) (b0 : Nat) (res : ByteArray × batch_climber) (hF : F.batch_climber_node_1 m0 = some res) (hr0 : ro I eStr p0 c0 m0.leaf_) (hr1 : ro I eStr p1 c1 m0.nodes_) : Tr Try.prog 48 [.pointer (some ⟨b0, 0, none⟩)] [imm I, pt b0 #[.pointer none, .slice p0 m0.leaf_.length c0, .slice p1 m0.nodes_.length c1, .bool m0.bad_] 63] (fun r H' => ∃ (p1 : Option Addr), ∃ (c2 : Nat), ∃ (p4 : Option Addr), ∃ (c5 : Nat), r = .string res.1 ∧ H' = [imm I, pt b0 #[.pointer none, .slice p1 res.2.leaf_.length c2, .slice p4 res.2.nodes_.length c5, .bool res.2.bad_] 63] ∧ ro I eStr p1 c2 res.2.leaf_ ∧ ro I eStr p4 c5 res.2.nodes_) := by
  unfold F.batch_climber_node_1 at hF
  refine tr_of_cw (fn := Try.f48) Try.func48 rfl (Nat.le_of_ble_eq_true rfl) 28 rfl fun F0 w0 => ?_
  refine cw_keep [0] (L' := [(0, .pointer (some ⟨b0, 0, none⟩))]) rfl ?_
  refine cw_state (S' := SAT w0 ([imm I, pt b0 #[.pointer none, .slice p0 m0.leaf_.length c0, .slice p1 m0.nodes_.length c1, .bool m0.bad_] 63] ++ F0)) (fun w hs => hs) ?_
  refine cw_seq ?_
  refine cw_region ?_
  refine ow_vals 1 (j := 1) [0] [(0, .pointer (some ⟨b0, 0, none⟩))] rfl (by kernel_rfl) ?_
  refine ow_end rfl ?_
  refine ew_then ?_
  refine cw_seq ?_
  refine cw_seq ?_
  refine cw_region ?_
  refine ow_vals 3 (j := 3) [0, 6] [(0, .pointer (some ⟨b0, 0, none⟩)), (6, .pointer (some ⟨b0, 2, none⟩))] rfl (by kernel_rfl) ?_
  refine ow_pw rfl (pw_quiet (v := .slice p1 m0.nodes_.length c1) rfl rfl rfl rfl (q_load 1 rfl rfl rfl (by kernel_rfl)) (nw_ow ?_))
  refine ow_vals 2 (j := 6) [0, 9] [(0, .pointer (some ⟨b0, 0, none⟩)), (9, .bool ((m0.nodes_.length : Int) == 0))] rfl (by kernel_rfl) ?_
  refine ow_end rfl ?_
  refine ew_then ?_
  rcases if_some hF with ⟨h21, hF⟩ | ⟨h21, hF⟩
  · refine cw_cond_t rfl rfl h21 ?_
    refine cw_seq ?_
    refine cw_region ?_
    refine ow_vals 3 (j := 3) [12] [(12, .pointer (some ⟨b0, 3, none⟩))] rfl (by kernel_rfl) ?_
    refine ow_pw rfl (pw_store 1 #[.pointer none, .slice p0 m0.leaf_.length c0, .slice p1 m0.nodes_.length c1, .bool true] rfl rfl rfl rfl rfl rfl rfl (by kernel_rfl) (nw_H (H' := [imm I, pt b0 #[.pointer none, .slice p0 m0.leaf_.length c0, .slice p1 m0.nodes_.length c1, .bool true] 63] ++ F0) rfl (nw_ow ?_)))
    refine ow_end rfl ?_
    refine ew_then ?_
    refine cw_seq ?_
    refine cw_region ?_
    refine ow_vals 1 (j := 1) [2] [(2, .string (ByteArray.mk #[]))] rfl (by kernel_rfl) ?_
    refine ow_end rfl ?_
    refine ew_then ?_
    refine cw_ret ?_
    refine ew_then_ret ?_
    have hR := Option.some.inj hF
    subst hR
    exact fin1 (H1 := [imm I, pt b0 #[.pointer none, .slice p0 ((⟨m0.leaf_, m0.nodes_, true⟩ : batch_climber).leaf_).length c0, .slice p1 ((⟨m0.leaf_, m0.nodes_, true⟩ : batch_climber).nodes_).length c1, .bool ((⟨m0.leaf_, m0.nodes_, true⟩ : batch_climber).bad_)] 63]) (fun w hs => sat_to [0, 0] 0 rfl hs) rfl (rr_tmp rfl) ⟨p0, c0, p1, c1, rfl, rfl, hr0, hr1⟩
  · refine cw_cond_f rfl rfl h21 ?_
    refine cw_skip ?_
    refine ew_then ?_
    refine cw_seq ?_
    refine cw_region ?_
    refine ow_vals 3 (j := 3) [0, 15] [(0, .pointer (some ⟨b0, 0, none⟩)), (15, .pointer (some ⟨b0, 2, none⟩))] rfl (by kernel_rfl) ?_
    refine ow_pw rfl (pw_quiet (v := .slice p1 m0.nodes_.length c1) rfl rfl rfl rfl (q_load 1 rfl rfl rfl (by kernel_rfl)) (nw_ow ?_))
    obtain ⟨y22, h23, hF⟩ := bind_some hF
    refine ow_pw rfl (pw_index_ro (E := 9) 1 hr1 rfl rfl rfl rfl rfl (by kernel_rfl) rfl rfl rfl h23 fun q24 h25 => nw_ow ?_)
    refine ow_pw rfl (pw_quiet (v := .string y22) rfl rfl rfl rfl (q_load_el0 0 rfl h25 rfl rfl (by kernel_rfl)) (nw_ow ?_))
    refine ow_vals 1 (j := 7) [0, 3] [(0, .pointer (some ⟨b0, 0, none⟩)), (3, .string y22)] rfl (by kernel_rfl) ?_
    refine ow_end rfl ?_
    refine ew_then ?_
    refine cw_seq ?_
    refine cw_region ?_
    refine ow_vals 4 (j := 4) [3, 19, 22] [(3, .string y22), (19, .pointer (some ⟨b0, 0, none⟩)), (22, .pointer (some ⟨b0, 2, none⟩))] rfl (by kernel_rfl) ?_
    refine ow_pw rfl (pw_quiet (v := .slice p1 m0.nodes_.length c1) rfl rfl rfl rfl (q_load 1 rfl rfl rfl (by kernel_rfl)) (nw_ow ?_))
    obtain ⟨h26, hF⟩ := chk_some hF
    refine ow_pw rfl (pw_slice_ro (E := 9) 1 hr1 rfl rfl rfl rfl rfl (by kernel_rfl) rfl rfl rfl rfl h26 fun p27 c28 h29 => nw_ow ?_)
    refine ow_vals 2 (j := 8) [3, 24, 26] [(3, .string y22), (24, .slice p27 ((m0.nodes_.drop (1 : Int).toNat).take ((m0.nodes_.length : Int).toNat - (1 : Int).toNat)).length c28), (26, .pointer (some ⟨b0, 2, none⟩))] rfl (by kernel_rfl) ?_
    refine ow_pw rfl (pw_store 1 #[.pointer none, .slice p0 m0.leaf_.length c0, .slice p27 ((m0.nodes_.drop (1 : Int).toNat).take ((m0.nodes_.length : Int).toNat - (1 : Int).toNat)).length c28, .bool m0.bad_] rfl rfl rfl rfl rfl rfl rfl (by kernel_rfl) (nw_H (H' := [imm I, pt b0 #[.pointer none, .slice p0 m0.leaf_.length c0, .slice p27 ((m0.nodes_.drop (1 : Int).toNat).take ((m0.nodes_.length : Int).toNat - (1 : Int).toNat)).length c28, .bool m0.bad_] 63] ++ F0) rfl (nw_ow ?_)))
    refine ow_end rfl ?_
    refine ew_then ?_
    refine cw_seq ?_
    refine cw_region ?_
    refine ow_vals 2 (j := 2) [2] [(2, .string y22)] rfl (by kernel_rfl) ?_
    refine ow_end rfl ?_
    refine ew_then ?_
    refine cw_ret ?_
    have hR := Option.some.inj hF
    subst hR
    exact fin1 (H1 := [imm I, pt b0 #[.pointer none, .slice p0 ((⟨m0.leaf_, (m0.nodes_.drop (1 : Int).toNat).take ((m0.nodes_.length : Int).toNat - (1 : Int).toNat), m0.bad_⟩ : batch_climber).leaf_).length c0, .slice p27 ((⟨m0.leaf_, (m0.nodes_.drop (1 : Int).toNat).take ((m0.nodes_.length : Int).toNat - (1 : Int).toNat), m0.bad_⟩ : batch_climber).nodes_).length c28, .bool ((⟨m0.leaf_, (m0.nodes_.drop (1 : Int).toNat).take ((m0.nodes_.length : Int).toNat - (1 : Int).toNat), m0.bad_⟩ : batch_climber).bad_)] 63]) (fun w hs => sat_to [0, 0] 0 rfl hs) rfl (rr_tmp rfl) ⟨p0, c0, p27, c28, rfl, rfl, hr0, h29⟩


def F.mill_Mill_none_1 : Option Bool :=
  some (true)
set_option maxRecDepth 100000 in
set_option maxHeartbeats 4000000 in
theorem c_mill_Mill_none_1 (I : Hl) (res : Bool) (hF : F.mill_Mill_none_1 = some res) : Tr Try.prog 39 [.pointer none] [imm I] (fun r H' => r = .bool res ∧ H' = [imm I]) := by
  unfold F.mill_Mill_none_1 at hF
  refine tr_of_cw (fn := Try.f39) Try.func39 rfl (Nat.le_of_ble_eq_true rfl) 12 rfl fun F0 w0 => ?_
  refine cw_keep [0] (L' := [(0, .pointer none)]) rfl ?_
  refine cw_state (S' := SAT w0 ([imm I] ++ F0)) (fun w hs => hs) ?_
  refine cw_seq ?_
  refine cw_region ?_
  refine ow_vals 1 (j := 1) [0] [(0, .pointer none)] rfl (by kernel_rfl) ?_
  refine ow_end rfl ?_
  refine ew_then ?_
  refine cw_seq ?_
  refine cw_region ?_
  refine ow_vals 10 (j := 10) [2] [(2, .bool true)] rfl (by kernel_rfl) ?_
  refine ow_end rfl ?_
  refine ew_then ?_
  refine cw_ret ?_
  have hR := Option.some.inj hF
  subst hR
  exact fin1 (H1 := [imm I]) (fun w hs => sat_to [0] 0 rfl hs) rfl (rr_tmp rfl) ⟨rfl, rfl⟩


def F.mill_Mill_Sum_1 (x1 : ByteArray) : Option ByteArray :=
  Option.bind (F.mill_Mill_none_1) (fun (r21 : Bool) => if r21 then (some ((ByteArray.mk #[]))) else (none))
set_option maxRecDepth 100000 in
set_option maxHeartbeats 4000000 in
theorem c_mill_Mill_Sum_1 (I : Hl) (x1 : ByteArray) (res : ByteArray) (hF : F.mill_Mill_Sum_1 x1 = some res) : Tr Try.prog 51 [.pointer none, .string x1] [imm I] (fun r H' => r = .string res ∧ H' = [imm I]) := by
  unfold F.mill_Mill_Sum_1 at hF
  refine tr_of_cw (fn := Try.f51) Try.func51 rfl (Nat.le_of_ble_eq_true rfl) 28 rfl fun F0 w0 => ?_
  refine cw_keep [0, 1] (L' := [(0, .pointer none), (1, .string x1)]) rfl ?_
  refine cw_state (S' := SAT w0 ([imm I] ++ F0)) (fun w hs => hs) ?_
  refine cw_seq ?_
  refine cw_region ?_
  refine ow_vals 1 (j := 1) [0, 1] [(0, .pointer none), (1, .string x1)] rfl (by kernel_rfl) ?_
  refine ow_end rfl ?_
  refine ew_then ?_
  refine cw_seq ?_
  refine cw_seq ?_
  refine cw_region ?_
  refine ow_vals 1 (j := 1) [0, 1, 7] [(0, .pointer none), (1, .string x1), (7, .pointer none)] rfl (by kernel_rfl) ?_
  obtain ⟨r21, h22, hF⟩ := bind_some hF
  refine ow_pw rfl (pw_call (F := [] ++ F0) rfl rfl rfl rfl rfl rfl rfl (by kernel_rfl) (perm_of_pulls [0] rfl) (c_mill_Mill_none_1 _ r21 h22) ?_)
  rintro _ _ ⟨rfl, rfl⟩
  refine nw_H (H' := [imm I] ++ F0) rfl (nw_ow ?_)
  refine ow_end rfl ?_
  refine ew_then ?_
  rcases if_some hF with ⟨h23, hF⟩ | ⟨h23, hF⟩
  · refine cw_cond_t rfl rfl h23 ?_
    refine cw_seq ?_
    refine cw_region ?_
    refine ow_vals 1 (j := 1) [4] [(4, .string (ByteArray.mk #[]))] rfl (by kernel_rfl) ?_
    refine ow_end rfl ?_
    refine ew_then ?_
    refine cw_ret ?_
    refine ew_then_ret ?_
    have hR := Option.some.inj hF
    subst hR
    exact fin1 (H1 := [imm I]) (fun w hs => sat_to [0] 0 rfl hs) rfl (rr_tmp rfl) ⟨rfl, rfl⟩
  · refine cw_cond_f rfl rfl h23 ?_
    refine cw_skip ?_
    refine ew_then ?_
    refine cw_seq ?_
    refine cw_open 12 (SAT w0 ([imm I])) (by kernel_rfl) (f := 12) rfl (fun w hs => sat_drew hs) ?_
    refine aw_vals [0] (f' := 11) (m' := 1) [0, 1, 10] [(0, .pointer none), (1, .string x1), (10, .pointer none)] (fun _ _ _ _ _ h => calm_fin (P := Try.prog) (fn := Try.f51) _ _ _ _ _ h) (fun w hs => sat_pulls [0] (G := [] ++ F0) rfl hs) rfl (by kernel_rfl) ?_
    cases hF


def F.pledge_Node_1 (x1 : ByteArray) (x2 : ByteArray) : Option ByteArray :=
  chk ((ByteArray.mk #[1]).size + x1.size ≤ 9223372036854775807) (chk (((ByteArray.mk #[1]) ++ x1).size + x2.size ≤ 9223372036854775807) (Option.bind (F.mill_Mill_Sum_1 (((ByteArray.mk #[1]) ++ x1) ++ x2)) (fun (r23 : ByteArray) => some (r23))))
set_option maxRecDepth 100000 in
set_option maxHeartbeats 4000000 in
theorem c_pledge_Node_1 (I : Hl) (x1 : ByteArray) (x2 : ByteArray) (res : ByteArray) (hF : F.pledge_Node_1 x1 x2 = some res) : Tr Try.prog 31 [.pointer none, .string x1, .string x2] [imm I] (fun r H' => r = .string res ∧ H' = [imm I]) := by
  unfold F.pledge_Node_1 at hF
  refine tr_of_cw (fn := Try.f31) Try.func31 rfl (Nat.le_of_ble_eq_true rfl) 13 rfl fun F0 w0 => ?_
  refine cw_keep [0, 1, 2] (L' := [(0, .pointer none), (1, .string x1), (2, .string x2)]) rfl ?_
  refine cw_state (S' := SAT w0 ([imm I] ++ F0)) (fun w hs => hs) ?_
  refine cw_seq ?_
  refine cw_region ?_
  refine ow_vals 1 (j := 1) [0, 1, 2] [(0, .pointer none), (1, .string x1), (2, .string x2)] rfl (by kernel_rfl) ?_
  refine ow_end rfl ?_
  refine ew_then ?_
  refine cw_seq ?_
  refine cw_region ?_
  refine ow_vals 2 (j := 2) [2, 7, 8] [(2, .string x2), (7, .pointer none), (8, .string x1)] rfl (by kernel_rfl) ?_
  obtain ⟨h21, hF⟩ := chk_some hF
  refine ow_pw rfl (pw_quiet (v := .string ((ByteArray.mk #[1]) ++ x1)) rfl rfl rfl rfl (q_concat rfl rfl rfl h21) (nw_ow ?_))
  refine ow_vals 1 (j := 4) [7, 9, 10] [(7, .pointer none), (9, .string ((ByteArray.mk #[1]) ++ x1)), (10, .string x2)] rfl (by kernel_rfl) ?_
  obtain ⟨h22, hF⟩ := chk_some hF
  refine ow_pw rfl (pw_quiet (v := .string (((ByteArray.mk #[1]) ++ x1) ++ x2)) rfl rfl rfl rfl (q_concat rfl rfl rfl h22) (nw_ow ?_))
  obtain ⟨r23, h24, hF⟩ := bind_some hF
  refine ow_pw rfl (pw_call (F := [] ++ F0) rfl rfl rfl rfl rfl rfl rfl (by kernel_rfl) (perm_of_pulls [0] rfl) (c_mill_Mill_Sum_1 _ (((ByteArray.mk #[1]) ++ x1) ++ x2) r23 h24) ?_)
  rintro _ _ ⟨rfl, rfl⟩
  refine nw_H (H' := [imm I] ++ F0) rfl (nw_ow ?_)
  refine ow_vals 1 (j := 7) [6] [(6, .string r23)] rfl (by kernel_rfl) ?_
  refine ow_end rfl ?_
  refine ew_then ?_
  refine cw_ret ?_
  have hR := Option.some.inj hF
  subst hR
  exact fin1 (H1 := [imm I]) (fun w hs => sat_to [0] 0 rfl hs) rfl (rr_tmp rfl) ⟨rfl, rfl⟩


def F.batch_climber_root_1 : Nat → Int → Int → (List Int) → batch_climber → Option (ByteArray × batch_climber)
  | 0, _, _, _, _ => none
  | k + 1, x1, x2, x3, m0 => if m0.bad_ then (some (((ByteArray.mk #[]), m0))) else (if (x3.length : Int) == 0 then (Option.bind (F.batch_climber_node_1 m0) (fun (r23 : ByteArray × batch_climber) => some ((r23.1, r23.2)))) else (if x2 == 1 then (Option.bind (at_ m0.leaf_ 0) (fun (y26 : ByteArray) => chk (0 ≤ (1 : Int) ∧ (1 : Int) ≤ (m0.leaf_.length : Int) ∧ (m0.leaf_.length : Int) ≤ (m0.leaf_.length : Int)) (some ((y26, (⟨(m0.leaf_.drop (1 : Int).toNat).take ((m0.leaf_.length : Int).toNat - (1 : Int).toNat), m0.nodes_, m0.bad_⟩ : batch_climber)))))) else (Option.bind (F.batch_split x2) (fun (r34 : Int) => Option.bind (F.batch_part x3 (IntKind.i64.wrap (x1 + r34))) (fun (r36 : (List Int) × (List Int)) => Option.bind ((F.batch_climber_root_1 k) x1 r34 r36.1 m0) (fun (r38 : ByteArray × batch_climber) => Option.bind ((F.batch_climber_root_1 k) (IntKind.i64.wrap (x1 + r34)) (IntKind.i64.wrap (x2 - r34)) r36.2 r38.2) (fun (r40 : ByteArray × batch_climber) => if r40.2.bad_ then (some (((ByteArray.mk #[]), r40.2))) else (Option.bind (F.pledge_Node_1 r38.1 r40.1) (fun (r43 : ByteArray) => some ((r43, r40.2)))))))))))
set_option maxRecDepth 100000 in
set_option maxHeartbeats 4000000 in
theorem c_batch_climber_root_1 (k : Nat) : ∀ (I : Hl) (x1 : Int) (x2 : Int) (x3 : List Int) (m0 : batch_climber) (p0 : Option Addr) (c0 : Nat) (p1 : Option Addr) (c1 : Nat) (p2 : Option Addr) (c2 : Nat) (b0 : Nat) (res : ByteArray × batch_climber) (hF : F.batch_climber_root_1 k x1 x2 x3 m0 = some res) (hr0 : ro I (eInt .i64) p0 c0 x3) (hr1 : ro I eStr p1 c1 m0.leaf_) (hr2 : ro I eStr p2 c2 m0.nodes_), Tr Try.prog 28 [.pointer (some ⟨b0, 0, none⟩), .int .i64 x1, .int .i64 x2, .slice p0 x3.length c0] [imm I, pt b0 #[.pointer none, .slice p1 m0.leaf_.length c1, .slice p2 m0.nodes_.length c2, .bool m0.bad_] 63] (fun r H' => ∃ (p1 : Option Addr), ∃ (c2 : Nat), ∃ (p4 : Option Addr), ∃ (c5 : Nat), r = .string res.1 ∧ H' = [imm I, pt b0 #[.pointer none, .slice p1 res.2.leaf_.length c2, .slice p4 res.2.nodes_.length c5, .bool res.2.bad_] 63] ∧ ro I eStr p1 c2 res.2.leaf_ ∧ ro I eStr p4 c5 res.2.nodes_) := by
  induction k with
  | zero => intro I x1 x2 x3 m0 p0 c0 p1 c1 p2 c2 b0 res hF hr0 hr1 hr2; cases hF
  | succ k ih =>
    intro I x1 x2 x3 m0 p0 c0 p1 c1 p2 c2 b0 res hF hr0 hr1 hr2
    rw [F.batch_climber_root_1] at hF
    refine tr_of_cw (fn := Try.f28) Try.func28 rfl (Nat.le_of_ble_eq_true rfl) 79 rfl fun F0 w0 => ?_
    refine cw_keep [0, 1, 2, 3] (L' := [(0, .pointer (some ⟨b0, 0, none⟩)), (1, .int .i64 x1), (2, .int .i64 x2), (3, .slice p0 x3.length c0)]) rfl ?_
    refine cw_state (S' := SAT w0 ([imm I, pt b0 #[.pointer none, .slice p1 m0.leaf_.length c1, .slice p2 m0.nodes_.length c2, .bool m0.bad_] 63] ++ F0)) (fun w hs => hs) ?_
    refine cw_seq ?_
    refine cw_region ?_
    refine ow_vals 1 (j := 1) [0, 1, 2, 3] [(0, .pointer (some ⟨b0, 0, none⟩)), (1, .int .i64 x1), (2, .int .i64 x2), (3, .slice p0 x3.length c0)] rfl (by kernel_rfl) ?_
    refine ow_end rfl ?_
    refine ew_then ?_
    refine cw_seq ?_
    refine cw_block ?_
    refine cw_seq ?_
    refine cw_region ?_
    refine ow_vals 3 (j := 3) [0, 1, 2, 3, 18] [(0, .pointer (some ⟨b0, 0, none⟩)), (1, .int .i64 x1), (2, .int .i64 x2), (3, .slice p0 x3.length c0), (18, .pointer (some ⟨b0, 3, none⟩))] rfl (by kernel_rfl) ?_
    refine ow_pw rfl (pw_quiet (v := .bool m0.bad_) rfl rfl rfl rfl (q_load 1 rfl rfl rfl (by kernel_rfl)) (nw_ow ?_))
    refine ow_vals 1 (j := 5) [0, 1, 2, 3, 15] [(0, .pointer (some ⟨b0, 0, none⟩)), (1, .int .i64 x1), (2, .int .i64 x2), (3, .slice p0 x3.length c0), (15, .bool m0.bad_)] rfl (by kernel_rfl) ?_
    refine ow_end rfl ?_
    refine ew_then ?_
    rcases if_some hF with ⟨h21, hF⟩ | ⟨h21, hF⟩
    · refine cw_cond_t rfl rfl h21 ?_
      refine cw_seq ?_
      refine cw_region ?_
      refine ow_vals 1 (j := 1) [8] [(8, .string (ByteArray.mk #[]))] rfl (by kernel_rfl) ?_
      refine ow_end rfl ?_
      refine ew_then ?_
      refine cw_ret ?_
      refine ew_blk_ret ?_
      refine ew_then_ret ?_
      have hR := Option.some.inj hF
      subst hR
      exact fin1 (H1 := [imm I, pt b0 #[.pointer none, .slice p1 m0.leaf_.length c1, .slice p2 m0.nodes_.length c2, .bool m0.bad_] 63]) (fun w hs => sat_to [0, 0] 0 rfl hs) rfl (rr_tmp rfl) ⟨p1, c1, p2, c2, rfl, rfl, hr1, hr2⟩
    · refine cw_cond_f rfl rfl h21 ?_
      refine cw_seq ?_
      refine cw_region ?_
      refine ow_vals 4 (j := 4) [0, 1, 2, 3, 20] [(0, .pointer (some ⟨b0, 0, none⟩)), (1, .int .i64 x1), (2, .int .i64 x2), (3, .slice p0 x3.length c0), (20, .bool ((x3.length : Int) == 0))] rfl (by kernel_rfl) ?_
      refine ow_end rfl ?_
      refine ew_then ?_
      rcases if_some hF with ⟨h22, hF⟩ | ⟨h22, hF⟩
      · refine cw_cond_t rfl rfl h22 ?_
        refine cw_seq ?_
        refine cw_region ?_
        refine ow_vals 1 (j := 1) [24] [(24, .pointer (some ⟨b0, 0, none⟩))] rfl (by kernel_rfl) ?_
        obtain ⟨r23, h24, hF⟩ := bind_some hF
        refine ow_pw rfl (pw_call (F := [] ++ F0) rfl rfl rfl rfl rfl rfl rfl (by kernel_rfl) (perm_of_pulls [0, 0] rfl) (c_batch_climber_node_1 _ m0 p1 c1 p2 c2 b0 r23 h24 hr1 hr2) ?_)
        rintro _ _ ⟨r23_p1, r23_c2, r23_p4, r23_c5, rfl, rfl, r23_h3, r23_h6⟩
        refine nw_H (H' := [imm I, pt b0 #[.pointer none, .slice r23_p1 r23.2.leaf_.length r23_c2, .slice r23_p4 r23.2.nodes_.length r23_c5, .bool r23.2.bad_] 63] ++ F0) rfl (nw_ow ?_)
        refine ow_vals 1 (j := 3) [8] [(8, .string r23.1)] rfl (by kernel_rfl) ?_
        refine ow_end rfl ?_
        refine ew_then ?_
        refine cw_ret ?_
        refine ew_blk_ret ?_
        refine ew_then_ret ?_
        have hR := Option.some.inj hF
        subst hR
        exact fin1 (H1 := [imm I, pt b0 #[.pointer none, .slice r23_p1 r23.2.leaf_.length r23_c2, .slice r23_p4 r23.2.nodes_.length r23_c5, .bool r23.2.bad_] 63]) (fun w hs => sat_to [0, 0] 0 rfl hs) rfl (rr_tmp rfl) ⟨r23_p1, r23_c2, r23_p4, r23_c5, rfl, rfl, r23_h3, r23_h6⟩
      · refine cw_cond_f rfl rfl h22 ?_
        refine cw_seq ?_
        refine cw_region ?_
        refine ow_vals 3 (j := 3) [0, 1, 2, 3, 26] [(0, .pointer (some ⟨b0, 0, none⟩)), (1, .int .i64 x1), (2, .int .i64 x2), (3, .slice p0 x3.length c0), (26, .bool (x2 == 1))] rfl (by kernel_rfl) ?_
        refine ow_end rfl ?_
        refine ew_then ?_
        rcases if_some hF with ⟨h25, hF⟩ | ⟨h25, hF⟩
        · refine cw_cond_t rfl rfl h25 ?_
          refine cw_seq ?_
          refine cw_region ?_
          refine ow_vals 3 (j := 3) [0, 31] [(0, .pointer (some ⟨b0, 0, none⟩)), (31, .pointer (some ⟨b0, 1, none⟩))] rfl (by kernel_rfl) ?_
          refine ow_pw rfl (pw_quiet (v := .slice p1 m0.leaf_.length c1) rfl rfl rfl rfl (q_load 1 rfl rfl rfl (by kernel_rfl)) (nw_ow ?_))
          obtain ⟨y26, h27, hF⟩ := bind_some hF
          refine ow_pw rfl (pw_index_ro (E := 9) 1 hr1 rfl rfl rfl rfl rfl (by kernel_rfl) rfl rfl rfl h27 fun q28 h29 => nw_ow ?_)
          refine ow_pw rfl (pw_quiet (v := .string y26) rfl rfl rfl rfl (q_load_el0 0 rfl h29 rfl rfl (by kernel_rfl)) (nw_ow ?_))
          refine ow_vals 1 (j := 7) [0, 9] [(0, .pointer (some ⟨b0, 0, none⟩)), (9, .string y26)] rfl (by kernel_rfl) ?_
          refine ow_end rfl ?_
          refine ew_then ?_
          refine cw_seq ?_
          refine cw_region ?_
          refine ow_vals 4 (j := 4) [9, 35, 38] [(9, .string y26), (35, .pointer (some ⟨b0, 0, none⟩)), (38, .pointer (some ⟨b0, 1, none⟩))] rfl (by kernel_rfl) ?_
          refine ow_pw rfl (pw_quiet (v := .slice p1 m0.leaf_.length c1) rfl rfl rfl rfl (q_load 1 rfl rfl rfl (by kernel_rfl)) (nw_ow ?_))
          obtain ⟨h30, hF⟩ := chk_some hF
          refine ow_pw rfl (pw_slice_ro (E := 9) 1 hr1 rfl rfl rfl rfl rfl (by kernel_rfl) rfl rfl rfl rfl h30 fun p31 c32 h33 => nw_ow ?_)
          refine ow_vals 2 (j := 8) [9, 40, 42] [(9, .string y26), (40, .slice p31 ((m0.leaf_.drop (1 : Int).toNat).take ((m0.leaf_.length : Int).toNat - (1 : Int).toNat)).length c32), (42, .pointer (some ⟨b0, 1, none⟩))] rfl (by kernel_rfl) ?_
          refine ow_pw rfl (pw_store 1 #[.pointer none, .slice p31 ((m0.leaf_.drop (1 : Int).toNat).take ((m0.leaf_.length : Int).toNat - (1 : Int).toNat)).length c32, .slice p2 m0.nodes_.length c2, .bool m0.bad_] rfl rfl rfl rfl rfl rfl rfl (by kernel_rfl) (nw_H (H' := [imm I, pt b0 #[.pointer none, .slice p31 ((m0.leaf_.drop (1 : Int).toNat).take ((m0.leaf_.length : Int).toNat - (1 : Int).toNat)).length c32, .slice p2 m0.nodes_.length c2, .bool m0.bad_] 63] ++ F0) rfl (nw_ow ?_)))
          refine ow_end rfl ?_
          refine ew_then ?_
          refine cw_seq ?_
          refine cw_region ?_
          refine ow_vals 2 (j := 2) [8] [(8, .string y26)] rfl (by kernel_rfl) ?_
          refine ow_end rfl ?_
          refine ew_then ?_
          refine cw_ret ?_
          refine ew_blk_ret ?_
          refine ew_then_ret ?_
          have hR := Option.some.inj hF
          subst hR
          exact fin1 (H1 := [imm I, pt b0 #[.pointer none, .slice p31 ((⟨(m0.leaf_.drop (1 : Int).toNat).take ((m0.leaf_.length : Int).toNat - (1 : Int).toNat), m0.nodes_, m0.bad_⟩ : batch_climber).leaf_).length c32, .slice p2 ((⟨(m0.leaf_.drop (1 : Int).toNat).take ((m0.leaf_.length : Int).toNat - (1 : Int).toNat), m0.nodes_, m0.bad_⟩ : batch_climber).nodes_).length c2, .bool ((⟨(m0.leaf_.drop (1 : Int).toNat).take ((m0.leaf_.length : Int).toNat - (1 : Int).toNat), m0.nodes_, m0.bad_⟩ : batch_climber).bad_)] 63]) (fun w hs => sat_to [0, 0] 0 rfl hs) rfl (rr_tmp rfl) ⟨p31, c32, p2, c2, rfl, rfl, h33, hr2⟩
        · refine cw_cond_f rfl rfl h25 ?_
          refine cw_skip ?_
          refine ew_blk ?_
          refine ew_then ?_
          refine cw_seq ?_
          refine cw_region ?_
          refine ow_vals 1 (j := 1) [0, 1, 2, 3, 44] [(0, .pointer (some ⟨b0, 0, none⟩)), (1, .int .i64 x1), (2, .int .i64 x2), (3, .slice p0 x3.length c0), (44, .int .i64 x2)] rfl (by kernel_rfl) ?_
          obtain ⟨r34, h35, hF⟩ := bind_some hF
          refine ow_pw rfl (pw_call (F := [pt b0 #[.pointer none, .slice p1 m0.leaf_.length c1, .slice p2 m0.nodes_.length c2, .bool m0.bad_] 63] ++ F0) rfl rfl rfl rfl rfl rfl rfl (by kernel_rfl) (perm_of_pulls [0] rfl) (c_batch_split _ x2 r34 h35) ?_)
          rintro _ _ ⟨rfl, rfl⟩
          refine nw_H (H' := [imm I, pt b0 #[.pointer none, .slice p1 m0.leaf_.length c1, .slice p2 m0.nodes_.length c2, .bool m0.bad_] 63] ++ F0) rfl (nw_ow ?_)
          refine ow_vals 1 (j := 3) [0, 1, 2, 3, 10] [(0, .pointer (some ⟨b0, 0, none⟩)), (1, .int .i64 x1), (2, .int .i64 x2), (3, .slice p0 x3.length c0), (10, .int .i64 r34)] rfl (by kernel_rfl) ?_
          refine ow_end rfl ?_
          refine ew_then ?_
          refine cw_seq ?_
          refine cw_region ?_
          refine ow_vals 4 (j := 4) [0, 1, 2, 10, 47, 50] [(0, .pointer (some ⟨b0, 0, none⟩)), (1, .int .i64 x1), (2, .int .i64 x2), (10, .int .i64 r34), (47, .slice p0 x3.length c0), (50, .int .i64 (IntKind.i64.wrap (x1 + r34)))] rfl (by kernel_rfl) ?_
          obtain ⟨r36, h37, hF⟩ := bind_some hF
          refine ow_pw rfl (pw_call (F := [pt b0 #[.pointer none, .slice p1 m0.leaf_.length c1, .slice p2 m0.nodes_.length c2, .bool m0.bad_] 63] ++ F0) rfl rfl rfl rfl rfl rfl rfl (by kernel_rfl) (perm_of_pulls [0] rfl) (c_batch_part _ x3 (IntKind.i64.wrap (x1 + r34)) p0 c0 r36 h37 hr0) ?_)
          rintro _ _ ⟨r36_p1, r36_c2, r36_p4, r36_c5, rfl, rfl, r36_h3, r36_h6⟩
          refine nw_H (H' := [imm I, pt b0 #[.pointer none, .slice p1 m0.leaf_.length c1, .slice p2 m0.nodes_.length c2, .bool m0.bad_] 63] ++ F0) rfl (nw_ow ?_)
          refine ow_vals 5 (j := 10) [0, 1, 2, 10, 11, 12] [(0, .pointer (some ⟨b0, 0, none⟩)), (1, .int .i64 x1), (2, .int .i64 x2), (10, .int .i64 r34), (11, .slice r36_p1 r36.1.length r36_c2), (12, .slice r36_p4 r36.2.length r36_c5)] rfl (by kernel_rfl) ?_
          refine ow_end rfl ?_
          refine ew_then ?_
          refine cw_seq ?_
          refine cw_region ?_
          refine ow_vals 4 (j := 4) [0, 1, 2, 10, 12, 54, 55, 56, 57] [(0, .pointer (some ⟨b0, 0, none⟩)), (1, .int .i64 x1), (2, .int .i64 x2), (10, .int .i64 r34), (12, .slice r36_p4 r36.2.length r36_c5), (54, .pointer (some ⟨b0, 0, none⟩)), (55, .int .i64 x1), (56, .int .i64 r34), (57, .slice r36_p1 r36.1.length r36_c2)] rfl (by kernel_rfl) ?_
          obtain ⟨r38, h39, hF⟩ := bind_some hF
          refine ow_pw rfl (pw_call (F := [] ++ F0) rfl rfl rfl rfl rfl rfl rfl (by kernel_rfl) (perm_of_pulls [0, 0] rfl) (ih _ x1 r34 r36.1 m0 r36_p1 r36_c2 p1 c1 p2 c2 b0 r38 h39 r36_h3 hr1 hr2) ?_)
          rintro _ _ ⟨r38_p1, r38_c2, r38_p4, r38_c5, rfl, rfl, r38_h3, r38_h6⟩
          refine nw_H (H' := [imm I, pt b0 #[.pointer none, .slice r38_p1 r38.2.leaf_.length r38_c2, .slice r38_p4 r38.2.nodes_.length r38_c5, .bool r38.2.bad_] 63] ++ F0) rfl (nw_ow ?_)
          refine ow_vals 1 (j := 6) [0, 1, 2, 10, 12, 13] [(0, .pointer (some ⟨b0, 0, none⟩)), (1, .int .i64 x1), (2, .int .i64 x2), (10, .int .i64 r34), (12, .slice r36_p4 r36.2.length r36_c5), (13, .string r38.1)] rfl (by kernel_rfl) ?_
          refine ow_end rfl ?_
          refine ew_then ?_
          refine cw_seq ?_
          refine cw_region ?_
          refine ow_vals 8 (j := 8) [0, 13, 59, 62, 65, 66] [(0, .pointer (some ⟨b0, 0, none⟩)), (13, .string r38.1), (59, .pointer (some ⟨b0, 0, none⟩)), (62, .int .i64 (IntKind.i64.wrap (x1 + r34))), (65, .int .i64 (IntKind.i64.wrap (x2 - r34))), (66, .slice r36_p4 r36.2.length r36_c5)] rfl (by kernel_rfl) ?_
          obtain ⟨r40, h41, hF⟩ := bind_some hF
          refine ow_pw rfl (pw_call (F := [] ++ F0) rfl rfl rfl rfl rfl rfl rfl (by kernel_rfl) (perm_of_pulls [0, 0] rfl) (ih _ (IntKind.i64.wrap (x1 + r34)) (IntKind.i64.wrap (x2 - r34)) r36.2 r38.2 r36_p4 r36_c5 r38_p1 r38_c2 r38_p4 r38_c5 b0 r40 h41 r36_h6 r38_h3 r38_h6) ?_)
          rintro _ _ ⟨r40_p1, r40_c2, r40_p4, r40_c5, rfl, rfl, r40_h3, r40_h6⟩
          refine nw_H (H' := [imm I, pt b0 #[.pointer none, .slice r40_p1 r40.2.leaf_.length r40_c2, .slice r40_p4 r40.2.nodes_.length r40_c5, .bool r40.2.bad_] 63] ++ F0) rfl (nw_ow ?_)
          refine ow_vals 1 (j := 10) [0, 13, 14] [(0, .pointer (some ⟨b0, 0, none⟩)), (13, .string r38.1), (14, .string r40.1)] rfl (by kernel_rfl) ?_
          refine ow_end rfl ?_
          refine ew_then ?_
          refine cw_seq ?_
          refine cw_seq ?_
          refine cw_region ?_
          refine ow_vals 3 (j := 3) [0, 13, 14, 70] [(0, .pointer (some ⟨b0, 0, none⟩)), (13, .string r38.1), (14, .string r40.1), (70, .pointer (some ⟨b0, 3, none⟩))] rfl (by kernel_rfl) ?_
          refine ow_pw rfl (pw_quiet (v := .bool r40.2.bad_) rfl rfl rfl rfl (q_load 1 rfl rfl rfl (by kernel_rfl)) (nw_ow ?_))
          refine ow_end rfl ?_
          refine ew_then ?_
          rcases if_some hF with ⟨h42, hF⟩ | ⟨h42, hF⟩
          · refine cw_cond_t rfl rfl h42 ?_
            refine cw_seq ?_
            refine cw_region ?_
            refine ow_vals 1 (j := 1) [8] [(8, .string (ByteArray.mk #[]))] rfl (by kernel_rfl) ?_
            refine ow_end rfl ?_
            refine ew_then ?_
            refine cw_ret ?_
            refine ew_then_ret ?_
            have hR := Option.some.inj hF
            subst hR
            exact fin1 (H1 := [imm I, pt b0 #[.pointer none, .slice r40_p1 r40.2.leaf_.length r40_c2, .slice r40_p4 r40.2.nodes_.length r40_c5, .bool r40.2.bad_] 63]) (fun w hs => sat_to [0, 0] 0 rfl hs) rfl (rr_tmp rfl) ⟨r40_p1, r40_c2, r40_p4, r40_c5, rfl, rfl, r40_h3, r40_h6⟩
          · refine cw_cond_f rfl rfl h42 ?_
            refine cw_skip ?_
            refine ew_then ?_
            refine cw_seq ?_
            refine cw_region ?_
            refine ow_vals 3 (j := 3) [13, 14, 74] [(13, .string r38.1), (14, .string r40.1), (74, .pointer (some ⟨b0, 0, none⟩))] rfl (by kernel_rfl) ?_
            refine ow_pw rfl (pw_quiet (v := .pointer none) rfl rfl rfl rfl (q_load 1 rfl rfl rfl (by kernel_rfl)) (nw_ow ?_))
            refine ow_vals 2 (j := 6) [75, 76, 77] [(75, .pointer none), (76, .string r38.1), (77, .string r40.1)] rfl (by kernel_rfl) ?_
            obtain ⟨r43, h44, hF⟩ := bind_some hF
            refine ow_pw rfl (pw_call (F := [pt b0 #[.pointer none, .slice r40_p1 r40.2.leaf_.length r40_c2, .slice r40_p4 r40.2.nodes_.length r40_c5, .bool r40.2.bad_] 63] ++ F0) rfl rfl rfl rfl rfl rfl rfl (by kernel_rfl) (perm_of_pulls [0] rfl) (c_pledge_Node_1 _ r38.1 r40.1 r43 h44) ?_)
            rintro _ _ ⟨rfl, rfl⟩
            refine nw_H (H' := [imm I, pt b0 #[.pointer none, .slice r40_p1 r40.2.leaf_.length r40_c2, .slice r40_p4 r40.2.nodes_.length r40_c5, .bool r40.2.bad_] 63] ++ F0) rfl (nw_ow ?_)
            refine ow_vals 1 (j := 8) [8] [(8, .string r43)] rfl (by kernel_rfl) ?_
            refine ow_end rfl ?_
            refine ew_then ?_
            refine cw_ret ?_
            have hR := Option.some.inj hF
            subst hR
            exact fin1 (H1 := [imm I, pt b0 #[.pointer none, .slice r40_p1 r40.2.leaf_.length r40_c2, .slice r40_p4 r40.2.nodes_.length r40_c5, .bool r40.2.bad_] 63]) (fun w hs => sat_to [0, 0] 0 rfl hs) rfl (rr_tmp rfl) ⟨r40_p1, r40_c2, r40_p4, r40_c5, rfl, rfl, r40_h3, r40_h6⟩


def F.batch_Root_1 (x1 : batch_Proof) : Option (ByteArray × Int) :=
  Option.bind (F.batch_Right x1) (fun (r23 : Bool) => if !r23 then (some (((ByteArray.mk #[]), 4))) else (Option.bind (F.batch_climber_root_1 FUEL 0 x1.Size x1.Picks (⟨x1.Leaf, x1.Nodes, false⟩ : batch_climber)) (fun (r28 : ByteArray × batch_climber) => if r28.2.bad_ then (some (((ByteArray.mk #[]), 20))) else (if decide ((r28.2.nodes_.length : Int) > 0) then (some (((ByteArray.mk #[]), 20))) else (some ((r28.1, 0)))))))
set_option maxRecDepth 100000 in
set_option maxHeartbeats 4000000 in
theorem c_batch_Root_1 (I : Hl) (x1 : batch_Proof) (p0 : Option Addr) (c0 : Nat) (p1 : Option Addr) (c1 : Nat) (p2 : Option Addr) (c2 : Nat) (res : ByteArray × Int) (hF : F.batch_Root_1 x1 = some res) (hr0 : ro I (eInt .i64) p0 c0 x1.Picks) (hr1 : ro I eStr p1 c1 x1.Leaf) (hr2 : ro I eStr p2 c2 x1.Nodes) : Tr Try.prog 10 [.pointer none, .agg #[.int .i64 x1.Size, .slice p0 x1.Picks.length c0, .slice p1 x1.Leaf.length c1, .slice p2 x1.Nodes.length c2]] [imm I] (fun r H' => r = .tuple #[.string res.1, .int .i64 res.2] ∧ H' = [imm I]) := by
  unfold F.batch_Root_1 at hF
  refine tr_of_cw (fn := Try.f10) Try.func10 rfl (Nat.le_of_ble_eq_true rfl) 37 rfl fun F0 w0 => ?_
  refine cw_keep [0, 1] (L' := [(0, .pointer none), (1, .agg #[.int .i64 x1.Size, .slice p0 x1.Picks.length c0, .slice p1 x1.Leaf.length c1, .slice p2 x1.Nodes.length c2])]) rfl ?_
  refine cw_state (S' := SAT w0 ([imm I] ++ F0)) (fun w hs => hs) ?_
  refine cw_seq ?_
  refine cw_region ?_
  refine ow_pw rfl (pw_box (cs := #[.int .i64 x1.Size, .slice p0 x1.Picks.length c0, .slice p1 x1.Leaf.length c1, .slice p2 x1.Nodes.length c2]) rfl rfl rfl rfl rfl rfl fun b21 => nw_ow ?_)
  refine ow_vals 2 (j := 3) [0, 3] [(0, .pointer none), (3, .pointer (some ⟨b21, 0, none⟩))] rfl (by kernel_rfl) ?_
  refine ow_end rfl ?_
  refine ew_then ?_
  refine cw_seq ?_
  refine cw_seq ?_
  refine cw_region ?_
  refine ow_pw rfl (pw_quiet (v := .agg #[.int .i64 x1.Size, .slice p0 x1.Picks.length c0, .slice p1 x1.Leaf.length c1, .slice p2 x1.Nodes.length c2]) rfl rfl rfl rfl (q_load 0 rfl rfl rfl (by kernel_rfl)) (nw_ow ?_))
  obtain ⟨r23, h24, hF⟩ := bind_some hF
  refine ow_pw rfl (pw_call (F := [pt b21 #[.int .i64 x1.Size, .slice p0 x1.Picks.length c0, .slice p1 x1.Leaf.length c1, .slice p2 x1.Nodes.length c2] 25] ++ F0) rfl rfl rfl rfl rfl rfl rfl (by kernel_rfl) (perm_of_pulls [1] rfl) (c_batch_Right _ x1 p0 c0 p1 c1 p2 c2 r23 h24 hr0 hr1 hr2) ?_)
  rintro _ _ ⟨rfl, rfl⟩
  refine nw_H (H' := [imm I, pt b21 #[.int .i64 x1.Size, .slice p0 x1.Picks.length c0, .slice p1 x1.Leaf.length c1, .slice p2 x1.Nodes.length c2] 25] ++ F0) rfl (nw_ow ?_)
  refine ow_vals 1 (j := 3) [0, 3, 10] [(0, .pointer none), (3, .pointer (some ⟨b21, 0, none⟩)), (10, .bool (!r23))] rfl (by kernel_rfl) ?_
  refine ow_end rfl ?_
  refine ew_then ?_
  rcases if_some hF with ⟨h25, hF⟩ | ⟨h25, hF⟩
  · refine cw_cond_t rfl rfl h25 ?_
    refine cw_seq ?_
    refine cw_region ?_
    refine ow_vals 2 (j := 2) [4, 5] [(4, .string (ByteArray.mk #[])), (5, .int .i64 4)] rfl (by kernel_rfl) ?_
    refine ow_end rfl ?_
    refine ew_then ?_
    refine cw_ret ?_
    refine ew_then_ret ?_
    have hR := Option.some.inj hF
    subst hR
    exact fin2 (H1 := [imm I]) (fun w hs => sat_to [1, 0] 1 rfl hs) rfl (rr_tmp rfl) (rr_tmp rfl) ⟨rfl, rfl⟩
  · refine cw_cond_f rfl rfl h25 ?_
    refine cw_skip ?_
    refine ew_then ?_
    refine cw_seq ?_
    refine cw_region ?_
    refine ow_vals 2 (j := 2) [3, 11, 12] [(3, .pointer (some ⟨b21, 0, none⟩)), (11, .pointer none), (12, .pointer (some ⟨b21, 2, none⟩))] rfl (by kernel_rfl) ?_
    refine ow_pw rfl (pw_quiet (v := .slice p1 x1.Leaf.length c1) rfl rfl rfl rfl (q_load 1 rfl rfl rfl (by kernel_rfl)) (nw_ow ?_))
    refine ow_vals 1 (j := 4) [3, 11, 13, 14] [(3, .pointer (some ⟨b21, 0, none⟩)), (11, .pointer none), (13, .slice p1 x1.Leaf.length c1), (14, .pointer (some ⟨b21, 3, none⟩))] rfl (by kernel_rfl) ?_
    refine ow_pw rfl (pw_quiet (v := .slice p2 x1.Nodes.length c2) rfl rfl rfl rfl (q_load 1 rfl rfl rfl (by kernel_rfl)) (nw_ow ?_))
    refine ow_vals 1 (j := 6) [3, 16] [(3, .pointer (some ⟨b21, 0, none⟩)), (16, .agg #[.pointer none, .slice p1 x1.Leaf.length c1, .slice p2 x1.Nodes.length c2, .bool false])] rfl (by kernel_rfl) ?_
    refine ow_pw rfl (pw_box (cs := #[.pointer none, .slice p1 x1.Leaf.length c1, .slice p2 x1.Nodes.length c2, .bool false]) rfl rfl rfl rfl rfl rfl fun b26 => nw_ow ?_)
    refine ow_vals 1 (j := 8) [3, 6] [(3, .pointer (some ⟨b21, 0, none⟩)), (6, .pointer (some ⟨b26, 0, none⟩))] rfl (by kernel_rfl) ?_
    refine ow_end rfl ?_
    refine ew_then ?_
    refine cw_seq ?_
    refine cw_region ?_
    refine ow_vals 2 (j := 2) [3, 6, 18, 19] [(3, .pointer (some ⟨b21, 0, none⟩)), (6, .pointer (some ⟨b26, 0, none⟩)), (18, .pointer (some ⟨b26, 0, none⟩)), (19, .pointer (some ⟨b21, 0, none⟩))] rfl (by kernel_rfl) ?_
    refine ow_pw rfl (pw_quiet (v := .int .i64 x1.Size) rfl rfl rfl rfl (q_load 2 rfl rfl rfl (by kernel_rfl)) (nw_ow ?_))
    refine ow_vals 1 (j := 4) [6, 18, 20, 21] [(6, .pointer (some ⟨b26, 0, none⟩)), (18, .pointer (some ⟨b26, 0, none⟩)), (20, .int .i64 x1.Size), (21, .pointer (some ⟨b21, 1, none⟩))] rfl (by kernel_rfl) ?_
    refine ow_pw rfl (pw_quiet (v := .slice p0 x1.Picks.length c0) rfl rfl rfl rfl (q_load 2 rfl rfl rfl (by kernel_rfl)) (nw_ow ?_))
    obtain ⟨r28, h29, hF⟩ := bind_some hF
    refine ow_pw rfl (pw_call (F := [pt b21 #[.int .i64 x1.Size, .slice p0 x1.Picks.length c0, .slice p1 x1.Leaf.length c1, .slice p2 x1.Nodes.length c2] 25] ++ F0) rfl rfl rfl rfl rfl rfl rfl (by kernel_rfl) (perm_of_pulls [1, 0] rfl) (c_batch_climber_root_1 FUEL _ 0 x1.Size x1.Picks (⟨x1.Leaf, x1.Nodes, false⟩ : batch_climber) p0 c0 p1 c1 p2 c2 b26 r28 h29 hr0 hr1 hr2) ?_)
    rintro _ _ ⟨r28_p1, r28_c2, r28_p4, r28_c5, rfl, rfl, r28_h3, r28_h6⟩
    refine nw_H (H' := [imm I, pt b26 #[.pointer none, .slice r28_p1 r28.2.leaf_.length r28_c2, .slice r28_p4 r28.2.nodes_.length r28_c5, .bool r28.2.bad_] 63, pt b21 #[.int .i64 x1.Size, .slice p0 x1.Picks.length c0, .slice p1 x1.Leaf.length c1, .slice p2 x1.Nodes.length c2] 25] ++ F0) rfl (nw_ow ?_)
    refine ow_vals 1 (j := 7) [6, 7] [(6, .pointer (some ⟨b26, 0, none⟩)), (7, .string r28.1)] rfl (by kernel_rfl) ?_
    refine ow_end rfl ?_
    refine ew_then ?_
    refine cw_seq ?_
    refine cw_seq ?_
    refine cw_region ?_
    refine ow_vals 3 (j := 3) [6, 7, 26] [(6, .pointer (some ⟨b26, 0, none⟩)), (7, .string r28.1), (26, .pointer (some ⟨b26, 3, none⟩))] rfl (by kernel_rfl) ?_
    refine ow_pw rfl (pw_quiet (v := .bool r28.2.bad_) rfl rfl rfl rfl (q_load 1 rfl rfl rfl (by kernel_rfl)) (nw_ow ?_))
    refine ow_vals 1 (j := 5) [6, 7, 28] [(6, .pointer (some ⟨b26, 0, none⟩)), (7, .string r28.1), (28, .bool r28.2.bad_)] rfl (by kernel_rfl) ?_
    rcases if_some hF with ⟨h30, hF⟩ | ⟨h30, hF⟩
    · refine ow_slots (L' := [(6, .pointer (some ⟨b26, 0, none⟩)), (7, .string r28.1), (28, .bool true)]) (by rw [h30]) ?_
      refine ow_vals 7 (j := 12) [7, 35] [(7, .string r28.1), (35, .bool true)] rfl (by kernel_rfl) ?_
      refine ow_end rfl ?_
      refine ew_then ?_
      refine cw_cond_t rfl rfl rfl ?_
      refine cw_seq ?_
      refine cw_region ?_
      refine ow_vals 2 (j := 2) [4, 5] [(4, .string (ByteArray.mk #[])), (5, .int .i64 20)] rfl (by kernel_rfl) ?_
      refine ow_end rfl ?_
      refine ew_then ?_
      refine cw_ret ?_
      refine ew_then_ret ?_
      have hR := Option.some.inj hF
      subst hR
      exact fin2 (H1 := [imm I]) (fun w hs => sat_to [1, 1, 0] 2 rfl hs) rfl (rr_tmp rfl) (rr_tmp rfl) ⟨rfl, rfl⟩
    · refine ow_slots (L' := [(6, .pointer (some ⟨b26, 0, none⟩)), (7, .string r28.1), (28, .bool false)]) (by rw [h30]) ?_
      refine ow_vals 3 (j := 8) [7, 28, 31] [(7, .string r28.1), (28, .bool false), (31, .pointer (some ⟨b26, 2, none⟩))] rfl (by kernel_rfl) ?_
      refine ow_pw rfl (pw_quiet (v := .slice r28_p4 r28.2.nodes_.length r28_c5) rfl rfl rfl rfl (q_load 1 rfl rfl rfl (by kernel_rfl)) (nw_ow ?_))
      refine ow_vals 3 (j := 12) [7, 35] [(7, .string r28.1), (35, .bool (decide ((r28.2.nodes_.length : Int) > 0)))] rfl (by kernel_rfl) ?_
      refine ow_end rfl ?_
      refine ew_then ?_
      rcases if_some hF with ⟨h31, hF⟩ | ⟨h31, hF⟩
      · refine cw_cond_t rfl rfl h31 ?_
        refine cw_seq ?_
        refine cw_region ?_
        refine ow_vals 2 (j := 2) [4, 5] [(4, .string (ByteArray.mk #[])), (5, .int .i64 20)] rfl (by kernel_rfl) ?_
        refine ow_end rfl ?_
        refine ew_then ?_
        refine cw_ret ?_
        refine ew_then_ret ?_
        have hR := Option.some.inj hF
        subst hR
        exact fin2 (H1 := [imm I]) (fun w hs => sat_to [1, 1, 0] 2 rfl hs) rfl (rr_tmp rfl) (rr_tmp rfl) ⟨rfl, rfl⟩
      · refine cw_cond_f rfl rfl h31 ?_
        refine cw_skip ?_
        refine ew_then ?_
        refine cw_seq ?_
        refine cw_region ?_
        refine ow_vals 3 (j := 3) [4, 5] [(4, .string r28.1), (5, .int .i64 0)] rfl (by kernel_rfl) ?_
        refine ow_end rfl ?_
        refine ew_then ?_
        refine cw_ret ?_
        have hR := Option.some.inj hF
        subst hR
        exact fin2 (H1 := [imm I]) (fun w hs => sat_to [1, 1, 0] 2 rfl hs) rfl (rr_tmp rfl) (rr_tmp rfl) ⟨rfl, rfl⟩


def F.mill_Mill_Twins_1 : Option (ByteArray × ByteArray × Bool) :=
  Option.bind (F.mill_Mill_none_1) (fun (r21 : Bool) => if r21 then (some (((ByteArray.mk #[]), (ByteArray.mk #[]), false))) else (none))
set_option maxRecDepth 100000 in
set_option maxHeartbeats 4000000 in
theorem c_mill_Mill_Twins_1 (I : Hl) (res : ByteArray × ByteArray × Bool) (hF : F.mill_Mill_Twins_1 = some res) : Tr Try.prog 24 [.pointer none] [imm I] (fun r H' => r = .tuple #[.string res.1, .string res.2.1, .bool res.2.2] ∧ H' = [imm I]) := by
  unfold F.mill_Mill_Twins_1 at hF
  refine tr_of_cw (fn := Try.f24) Try.func24 rfl (Nat.le_of_ble_eq_true rfl) 21 rfl fun F0 w0 => ?_
  refine cw_keep [0] (L' := [(0, .pointer none)]) rfl ?_
  refine cw_state (S' := SAT w0 ([imm I] ++ F0)) (fun w hs => hs) ?_
  refine cw_seq ?_
  refine cw_region ?_
  refine ow_vals 3 (j := 3) [0] [(0, .pointer none)] rfl (by kernel_rfl) ?_
  refine ow_end rfl ?_
  refine ew_then ?_
  refine cw_seq ?_
  refine cw_seq ?_
  refine cw_region ?_
  refine ow_vals 1 (j := 1) [0, 5] [(0, .pointer none), (5, .pointer none)] rfl (by kernel_rfl) ?_
  obtain ⟨r21, h22, hF⟩ := bind_some hF
  refine ow_pw rfl (pw_call (F := [] ++ F0) rfl rfl rfl rfl rfl rfl rfl (by kernel_rfl) (perm_of_pulls [0] rfl) (c_mill_Mill_none_1 _ r21 h22) ?_)
  rintro _ _ ⟨rfl, rfl⟩
  refine nw_H (H' := [imm I] ++ F0) rfl (nw_ow ?_)
  refine ow_end rfl ?_
  refine ew_then ?_
  rcases if_some hF with ⟨h23, hF⟩ | ⟨h23, hF⟩
  · refine cw_cond_t rfl rfl h23 ?_
    refine cw_seq ?_
    refine cw_region ?_
    refine ow_vals 3 (j := 3) [2, 3, 4] [(2, .string (ByteArray.mk #[])), (3, .string (ByteArray.mk #[])), (4, .bool false)] rfl (by kernel_rfl) ?_
    refine ow_end rfl ?_
    refine ew_then ?_
    refine cw_ret ?_
    refine ew_then_ret ?_
    have hR := Option.some.inj hF
    subst hR
    exact fin3 (H1 := [imm I]) (fun w hs => sat_to [0] 0 rfl hs) rfl (rr_tmp rfl) (rr_tmp rfl) (rr_tmp rfl) ⟨rfl, rfl⟩
  · refine cw_cond_f rfl rfl h23 ?_
    refine cw_skip ?_
    refine ew_then ?_
    refine cw_seq ?_
    refine cw_open 17 (SAT w0 ([imm I])) (by kernel_rfl) (f := 17) rfl (fun w hs => sat_drew hs) ?_
    refine aw_vals [0] (f' := 16) (m' := 1) [0, 7] [(0, .pointer none), (7, .pointer none)] (fun _ _ _ _ _ h => calm_fin (P := Try.prog) (fn := Try.f24) _ _ _ _ _ h) (fun w hs => sat_pulls [0] (G := [] ++ F0) rfl hs) rfl (by kernel_rfl) ?_
    cases hF


def F.law30_BatchApart.r4 (r43 : batch_Proof) (r45 : batch_Proof) (x67 : Int) (x73 : Bool) (x74 : Int) : Option ((Bool × Int) ⊕ (Bool)) :=
  if x73 then (some (.inl (true, IntKind.i64.wrap (x74 + 1)))) else (Option.bind (at_ r43.Picks x67) (fun (y79 : Int) => Option.bind (at_ r45.Picks x74) (fun (y83 : Int) => if y79 == y83 then (Option.bind (at_ r43.Leaf x67) (fun (y88 : ByteArray) => Option.bind (at_ r45.Leaf x74) (fun (y92 : ByteArray) => some (.inl (!(seqB y88 y92), IntKind.i64.wrap (x74 + 1)))))) else (some (.inl (false, IntKind.i64.wrap (x74 + 1)))))))
def F.law30_BatchApart.l5 (r43 : batch_Proof) (r45 : batch_Proof) (x67 : Int) (x73 : Bool) (x74 : Int) : Option ((Bool × Int) ⊕ (Bool)) :=
  thru (if decide (x74 < (r45.Picks.length : Int)) then (if decide (x74 < (r45.Leaf.length : Int)) then (some (.inl ())) else (some (.inr (.inr (x73))))) else (some (.inr (.inr (x73))))) (fun x => F.law30_BatchApart.r4 r43 r45 x67 x73 x74)
def F.law30_BatchApart.r6 (x67 : Int) (x96 : Bool) : Option ((Bool × Int) ⊕ (Bool)) :=
  some (.inl (x96, IntKind.i64.wrap (x67 + 1)))
def F.law30_BatchApart.r3 (r43 : batch_Proof) (r45 : batch_Proof) (x66 : Bool) (x67 : Int) : Option ((Bool × Int) ⊕ (Bool)) :=
  Option.bind (iter (fun x => F.law30_BatchApart.l5 r43 r45 x67 x.1 x.2) FUEL (x66, 0)) (fun x => F.law30_BatchApart.r6 x67 x)
def F.law30_BatchApart.l7 (r43 : batch_Proof) (r45 : batch_Proof) (x66 : Bool) (x67 : Int) : Option ((Bool × Int) ⊕ (Bool)) :=
  thru (if decide (x67 < (r43.Picks.length : Int)) then (if decide (x67 < (r43.Leaf.length : Int)) then (some (.inl ())) else (some (.inr (.inr (x66))))) else (some (.inr (.inr (x66))))) (fun x => F.law30_BatchApart.r3 r43 r45 x66 x67)
def F.law30_BatchApart.r8 (x97 : Bool) : Option (Bool) :=
  Option.bind (F.mill_Mill_Twins_1) (fun (r98 : ByteArray × ByteArray × Bool) => if !x97 then (Option.bind (F.law30_awake) (fun (r101 : Bool) => some (r101))) else (if r98.2.2 then (if !(seqB r98.1 r98.2.1) then (Option.bind (F.law30_awake) (fun (r105 : Bool) => some (r105))) else (some (false))) else (some (false))))
def F.law30_BatchApart.r2 (r43 : batch_Proof) (r45 : batch_Proof) : Option (Bool) :=
  Option.bind (iter (fun x => F.law30_BatchApart.l7 r43 r45 x.1 x.2) FUEL (false, 0)) (fun x => F.law30_BatchApart.r8 x)
def F.law30_BatchApart.r11 (r110 : batch_Proof) (r112 : batch_Proof) (x138 : Int) (x144 : Bool) (x145 : Int) : Option ((Bool × Int) ⊕ (Bool)) :=
  if x144 then (some (.inl (true, IntKind.i64.wrap (x145 + 1)))) else (Option.bind (at_ r110.Picks x138) (fun (y150 : Int) => Option.bind (at_ r112.Picks x145) (fun (y154 : Int) => if y150 == y154 then (Option.bind (at_ r110.Leaf x138) (fun (y159 : ByteArray) => Option.bind (at_ r112.Leaf x145) (fun (y163 : ByteArray) => some (.inl (!(seqB y159 y163), IntKind.i64.wrap (x145 + 1)))))) else (some (.inl (false, IntKind.i64.wrap (x145 + 1)))))))
def F.law30_BatchApart.l12 (r110 : batch_Proof) (r112 : batch_Proof) (x138 : Int) (x144 : Bool) (x145 : Int) : Option ((Bool × Int) ⊕ (Bool)) :=
  thru (if decide (x145 < (r112.Picks.length : Int)) then (if decide (x145 < (r112.Leaf.length : Int)) then (some (.inl ())) else (some (.inr (.inr (x144))))) else (some (.inr (.inr (x144))))) (fun x => F.law30_BatchApart.r11 r110 r112 x138 x144 x145)
def F.law30_BatchApart.r13 (x138 : Int) (x167 : Bool) : Option ((Bool × Int) ⊕ (Bool)) :=
  some (.inl (x167, IntKind.i64.wrap (x138 + 1)))
def F.law30_BatchApart.r10 (r110 : batch_Proof) (r112 : batch_Proof) (x137 : Bool) (x138 : Int) : Option ((Bool × Int) ⊕ (Bool)) :=
  Option.bind (iter (fun x => F.law30_BatchApart.l12 r110 r112 x138 x.1 x.2) FUEL (x137, 0)) (fun x => F.law30_BatchApart.r13 x138 x)
def F.law30_BatchApart.l14 (r110 : batch_Proof) (r112 : batch_Proof) (x137 : Bool) (x138 : Int) : Option ((Bool × Int) ⊕ (Bool)) :=
  thru (if decide (x138 < (r110.Picks.length : Int)) then (if decide (x138 < (r110.Leaf.length : Int)) then (some (.inl ())) else (some (.inr (.inr (x137))))) else (some (.inr (.inr (x137))))) (fun x => F.law30_BatchApart.r10 r110 r112 x137 x138)
def F.law30_BatchApart.r15 (r118 : ByteArray × Int × mill_Mill) (x168 : Bool) : Option (Bool) :=
  Option.bind (F.mill_Mill_Twins r118.2.2) (fun (r169 : ByteArray × ByteArray × Bool) => if !x168 then (Option.bind (F.law30_awake) (fun (r172 : Bool) => some (r172))) else (if r169.2.2 then (if !(seqB r169.1 r169.2.1) then (Option.bind (F.law30_awake) (fun (r176 : Bool) => some (r176))) else (some (false))) else (some (false))))
def F.law30_BatchApart.r9 (r110 : batch_Proof) (r112 : batch_Proof) (r118 : ByteArray × Int × mill_Mill) : Option (Bool) :=
  Option.bind (iter (fun x => F.law30_BatchApart.l14 r110 r112 x.1 x.2) FUEL (false, 0)) (fun x => F.law30_BatchApart.r15 r118 x)
def F.law30_BatchApart.r1 (x1 : batch_Proof) (x2 : batch_Proof) (l31 : List mill_Entry) : Option (Bool) :=
  Option.bind (F.mill_With l31) (fun (r35 : (Option mill_Mill) × Int) => optC r35.1 (if r35.2 != 0 then (Option.bind (F.law30_awake) (fun (r41 : Bool) => some (r41))) else (Option.bind (F.law30_few x1) (fun (r43 : batch_Proof) => Option.bind (F.law30_few x2) (fun (r45 : batch_Proof) => Option.bind (F.batch_Root_1 r43) (fun (r47 : ByteArray × Int) => Option.bind (F.batch_Root_1 r45) (fun (r49 : ByteArray × Int) => thru (if r47.2 != 0 then (Option.bind (F.law30_awake) (fun (r53 : Bool) => some (.inr (r53)))) else (if r49.2 != 0 then (Option.bind (F.law30_awake) (fun (r56 : Bool) => some (.inr (r56)))) else (if !(seqB r47.1 r49.1) then (Option.bind (F.law30_awake) (fun (r59 : Bool) => some (.inr (r59)))) else (if r43.Size != r45.Size then (Option.bind (F.law30_awake) (fun (r62 : Bool) => some (.inr (r62)))) else (some (.inl ())))))) (fun x => F.law30_BatchApart.r2 r43 r45))))))) (fun (r35_s1 : mill_Mill) => if r35.2 != 0 then (Option.bind (F.law30_awake) (fun (r108 : Bool) => some (r108))) else (Option.bind (F.law30_few x1) (fun (r110 : batch_Proof) => Option.bind (F.law30_few x2) (fun (r112 : batch_Proof) => Option.bind (F.batch_Root r110 r35_s1) (fun (r114 : ByteArray × Int × mill_Mill) => Option.bind (F.batch_Root r112 r114.2.2) (fun (r118 : ByteArray × Int × mill_Mill) => thru (if r114.2.1 != 0 then (Option.bind (F.law30_awake) (fun (r124 : Bool) => some (.inr (r124)))) else (if r118.2.1 != 0 then (Option.bind (F.law30_awake) (fun (r127 : Bool) => some (.inr (r127)))) else (if !(seqB r114.1 r118.1) then (Option.bind (F.law30_awake) (fun (r130 : Bool) => some (.inr (r130)))) else (if r110.Size != r112.Size then (Option.bind (F.law30_awake) (fun (r133 : Bool) => some (.inr (r133)))) else (some (.inl ())))))) (fun x => F.law30_BatchApart.r9 r110 r112 r118))))))))
def F.law30_BatchApart (x0 : List mill_Entry) (x1 : batch_Proof) (x2 : batch_Proof) : Option Bool :=
  Option.bind (if decide ((x0.length : Int) > 10) then (chk (0 ≤ (0 : Int) ∧ (0 : Int) ≤ (10 : Int) ∧ (10 : Int) ≤ (x0.length : Int)) (some (((x0.drop (0 : Int).toNat).take ((10 : Int).toNat - (0 : Int).toNat))))) else (some (x0))) (fun x => F.law30_BatchApart.r1 x1 x2 x)
set_option maxRecDepth 100000 in
set_option maxHeartbeats 4000000 in
theorem c_law30_BatchApart (I : Hl) (x0 : List mill_Entry) (x1 : batch_Proof) (x2 : batch_Proof) (p0 : Option Addr) (c0 : Nat) (p1 : Option Addr) (c1 : Nat) (p2 : Option Addr) (c2 : Nat) (p3 : Option Addr) (c3 : Nat) (p4 : Option Addr) (c4 : Nat) (p5 : Option Addr) (c5 : Nat) (p6 : Option Addr) (c6 : Nat) (res : Bool) (hF : F.law30_BatchApart x0 x1 x2 = some res) (hr0 : ro I e_mill_Entry p0 c0 x0) (hr1 : ro I (eInt .i64) p1 c1 x1.Picks) (hr2 : ro I eStr p2 c2 x1.Leaf) (hr3 : ro I eStr p3 c3 x1.Nodes) (hr4 : ro I (eInt .i64) p4 c4 x2.Picks) (hr5 : ro I eStr p5 c5 x2.Leaf) (hr6 : ro I eStr p6 c6 x2.Nodes) : Tr Try.prog 5 [.slice p0 x0.length c0, .agg #[.int .i64 x1.Size, .slice p1 x1.Picks.length c1, .slice p2 x1.Leaf.length c2, .slice p3 x1.Nodes.length c3], .agg #[.int .i64 x2.Size, .slice p4 x2.Picks.length c4, .slice p5 x2.Leaf.length c5, .slice p6 x2.Nodes.length c6]] [imm I] (fun r H' => ∃ (J : Hl), r = .bool res ∧ H' = [imm J] ∧ Hl.sub I J) := by
  unfold F.law30_BatchApart at hF
  refine tr_of_cw (fn := Try.f5) Try.func5 rfl (Nat.le_of_ble_eq_true rfl) 141 rfl fun F0 w0 => ?_
  refine cw_keep [0, 1, 2] (L' := [(0, .slice p0 x0.length c0), (1, .agg #[.int .i64 x1.Size, .slice p1 x1.Picks.length c1, .slice p2 x1.Leaf.length c2, .slice p3 x1.Nodes.length c3]), (2, .agg #[.int .i64 x2.Size, .slice p4 x2.Picks.length c4, .slice p5 x2.Leaf.length c5, .slice p6 x2.Nodes.length c6])]) rfl ?_
  refine cw_state (S' := SAT w0 ([imm I] ++ F0)) (fun w hs => hs) ?_
  refine cw_seq ?_
  refine cw_region ?_
  refine ow_pw rfl (pw_box (cs := #[.int .i64 x1.Size, .slice p1 x1.Picks.length c1, .slice p2 x1.Leaf.length c2, .slice p3 x1.Nodes.length c3]) rfl rfl rfl rfl rfl rfl fun b21 => nw_ow ?_)
  refine ow_pw rfl (pw_box (cs := #[.int .i64 x2.Size, .slice p4 x2.Picks.length c4, .slice p5 x2.Leaf.length c5, .slice p6 x2.Nodes.length c6]) rfl rfl rfl rfl rfl rfl fun b23 => nw_ow ?_)
  refine ow_vals 1 (j := 3) [0, 4, 5] [(0, .slice p0 x0.length c0), (4, .pointer (some ⟨b21, 0, none⟩)), (5, .pointer (some ⟨b23, 0, none⟩))] rfl (by kernel_rfl) ?_
  refine ow_end rfl ?_
  refine ew_then ?_
  obtain ⟨v25, hF, hK25⟩ := bind_some hF
  refine cw_mid (fun a w => ∃ (l31 : List mill_Entry), ∃ (p32 : Option Addr), ∃ (c33 : Nat), l31 = v25 ∧ ro I e_mill_Entry p32 c33 l31 ∧ Fr 141 [(0, .slice p32 l31.length c33), (4, .pointer (some ⟨b21, 0, none⟩)), (5, .pointer (some ⟨b23, 0, none⟩))] a ∧ SAT w0 ([imm I, pt b23 #[.int .i64 x2.Size, .slice p4 x2.Picks.length c4, .slice p5 x2.Leaf.length c5, .slice p6 x2.Nodes.length c6] 25, pt b21 #[.int .i64 x1.Size, .slice p1 x1.Picks.length c1, .slice p2 x1.Leaf.length c2, .slice p3 x1.Nodes.length c3] 25] ++ F0) w) ?_ ?_
  · refine cw_seq ?_
    refine cw_region ?_
    refine ow_vals 3 (j := 3) [0, 4, 5, 21] [(0, .slice p0 x0.length c0), (4, .pointer (some ⟨b21, 0, none⟩)), (5, .pointer (some ⟨b23, 0, none⟩)), (21, .bool (decide ((x0.length : Int) > 10)))] rfl (by kernel_rfl) ?_
    refine ow_end rfl ?_
    refine ew_then ?_
    rcases if_some hF with ⟨h26, hF⟩ | ⟨h26, hF⟩
    · refine cw_cond_t rfl rfl h26 ?_
      refine cw_region ?_
      refine ow_vals 1 (j := 1) [4, 5, 22] [(4, .pointer (some ⟨b21, 0, none⟩)), (5, .pointer (some ⟨b23, 0, none⟩)), (22, .slice p0 x0.length c0)] rfl (by kernel_rfl) ?_
      obtain ⟨h27, hF⟩ := chk_some hF
      refine ow_pw rfl (pw_slice_ro (E := 72) 4 hr0 rfl rfl rfl rfl rfl (by kernel_rfl) rfl rfl rfl rfl h27 fun p28 c29 h30 => nw_ow ?_)
      refine ow_vals 1 (j := 3) [0, 4, 5] [(0, .slice p28 ((x0.drop (0 : Int).toNat).take ((10 : Int).toNat - (0 : Int).toNat)).length c29), (4, .pointer (some ⟨b21, 0, none⟩)), (5, .pointer (some ⟨b23, 0, none⟩))] rfl (by kernel_rfl) ?_
      refine ow_end rfl ?_
      have hR := Option.some.inj hF
      exact fun a w hf hs => ⟨(x0.drop (0 : Int).toNat).take ((10 : Int).toNat - (0 : Int).toNat), p28, c29, hR, h30, hf.keep [0, 4, 5], sat_to [2, 0, 0] 0 rfl hs⟩
    · refine cw_cond_f rfl rfl h26 ?_
      refine cw_skip ?_
      have hR := Option.some.inj hF
      exact fun a w hf hs => ⟨x0, p0, c0, hR, hr0, hf.keep [0, 4, 5], sat_to [2, 0, 0] 0 rfl hs⟩
  · rintro a w ⟨l31, p32, c33, hv, h34, hf, hs⟩
    subst hv
    replace hF := hK25
    clear hK25
    try dsimp only at hF
    revert a w
    show CW _ _ _ 141 [(0, .slice p32 l31.length c33), (4, .pointer (some ⟨b21, 0, none⟩)), (5, .pointer (some ⟨b23, 0, none⟩))] (SAT w0 ([imm I, pt b23 #[.int .i64 x2.Size, .slice p4 x2.Picks.length c4, .slice p5 x2.Leaf.length c5, .slice p6 x2.Nodes.length c6] 25, pt b21 #[.int .i64 x1.Size, .slice p1 x1.Picks.length c1, .slice p2 x1.Leaf.length c2, .slice p3 x1.Nodes.length c3] 25] ++ F0))
    unfold F.law30_BatchApart.r1 at hF
    refine cw_seq ?_
    refine cw_region ?_
    refine ow_vals 1 (j := 1) [4, 5, 25] [(4, .pointer (some ⟨b21, 0, none⟩)), (5, .pointer (some ⟨b23, 0, none⟩)), (25, .slice p32 l31.length c33)] rfl (by kernel_rfl) ?_
    obtain ⟨r35, h36, hF⟩ := bind_some hF
    refine ow_pw rfl (pw_call (F := [pt b23 #[.int .i64 x2.Size, .slice p4 x2.Picks.length c4, .slice p5 x2.Leaf.length c5, .slice p6 x2.Nodes.length c6] 25, pt b21 #[.int .i64 x1.Size, .slice p1 x1.Picks.length c1, .slice p2 x1.Leaf.length c2, .slice p3 x1.Nodes.length c3] 25] ++ F0) rfl rfl rfl rfl rfl rfl rfl (by kernel_rfl) (perm_of_pulls [0] rfl) (c_mill_With _ l31 p32 c33 r35 h36 h34) ?_)
    rintro _ _ (⟨hO, rfl, rfl⟩ | ⟨r35_s1, r35_b2, r35_b4, r35_b6, hO, rfl, rfl⟩)
    · rw [hO] at hF
      try dsimp only [optC] at hF
      refine nw_H (H' := [imm I, pt b23 #[.int .i64 x2.Size, .slice p4 x2.Picks.length c4, .slice p5 x2.Leaf.length c5, .slice p6 x2.Nodes.length c6] 25, pt b21 #[.int .i64 x1.Size, .slice p1 x1.Picks.length c1, .slice p2 x1.Leaf.length c2, .slice p3 x1.Nodes.length c3] 25] ++ F0) rfl (nw_ow ?_)
      refine ow_vals 5 (j := 7) [4, 5, 7, 8] [(4, .pointer (some ⟨b21, 0, none⟩)), (5, .pointer (some ⟨b23, 0, none⟩)), (7, .pointer none), (8, .int .i64 r35.2)] rfl (by kernel_rfl) ?_
      refine ow_end rfl ?_
      refine ew_then ?_
      refine cw_seq ?_
      refine cw_seq ?_
      refine cw_region ?_
      refine ow_vals 2 (j := 2) [4, 5, 7, 30] [(4, .pointer (some ⟨b21, 0, none⟩)), (5, .pointer (some ⟨b23, 0, none⟩)), (7, .pointer none), (30, .bool (r35.2 != 0))] rfl (by kernel_rfl) ?_
      refine ow_end rfl ?_
      refine ew_then ?_
      rcases if_some hF with ⟨h40, hF⟩ | ⟨h40, hF⟩
      · refine cw_cond_t rfl rfl h40 ?_
        refine cw_seq ?_
        refine cw_region ?_
        obtain ⟨r41, h42, hF⟩ := bind_some hF
        refine ow_pw rfl (pw_call (F := [pt b23 #[.int .i64 x2.Size, .slice p4 x2.Picks.length c4, .slice p5 x2.Leaf.length c5, .slice p6 x2.Nodes.length c6] 25, pt b21 #[.int .i64 x1.Size, .slice p1 x1.Picks.length c1, .slice p2 x1.Leaf.length c2, .slice p3 x1.Nodes.length c3] 25] ++ F0) rfl rfl rfl rfl rfl rfl rfl (by kernel_rfl) (perm_of_pulls [0] rfl) (c_law30_awake _ r41 h42) ?_)
        rintro _ _ ⟨r41_J, rfl, rfl, r41_hJ⟩
        refine nw_H (H' := [imm r41_J, pt b23 #[.int .i64 x2.Size, .slice p4 x2.Picks.length c4, .slice p5 x2.Leaf.length c5, .slice p6 x2.Nodes.length c6] 25, pt b21 #[.int .i64 x1.Size, .slice p1 x1.Picks.length c1, .slice p2 x1.Leaf.length c2, .slice p3 x1.Nodes.length c3] 25] ++ F0) rfl (nw_ow ?_)
        have hr4 := ro.sub r41_hJ hr4
        have hr5 := ro.sub r41_hJ hr5
        have hr6 := ro.sub r41_hJ hr6
        have hr1 := ro.sub r41_hJ hr1
        have hr2 := ro.sub r41_hJ hr2
        have hr3 := ro.sub r41_hJ hr3
        refine ow_vals 1 (j := 2) [6] [(6, .bool r41)] rfl (by kernel_rfl) ?_
        refine ow_end rfl ?_
        refine ew_then ?_
        refine cw_ret ?_
        refine ew_then_ret ?_
        have hR := Option.some.inj hF
        subst hR
        exact fin1 (H1 := [imm r41_J]) (fun w hs => sat_to [1, 1, 0] 2 rfl hs) rfl (rr_tmp rfl) ⟨r41_J, rfl, rfl, r41_hJ⟩
      · refine cw_cond_f rfl rfl h40 ?_
        refine cw_skip ?_
        refine ew_then ?_
        refine cw_seq ?_
        refine cw_region ?_
        refine ow_pw rfl (pw_quiet (v := .agg #[.int .i64 x1.Size, .slice p1 x1.Picks.length c1, .slice p2 x1.Leaf.length c2, .slice p3 x1.Nodes.length c3]) rfl rfl rfl rfl (q_load 2 rfl rfl rfl (by kernel_rfl)) (nw_ow ?_))
        obtain ⟨r43, h44, hF⟩ := bind_some hF
        refine ow_pw rfl (pw_call (F := [pt b23 #[.int .i64 x2.Size, .slice p4 x2.Picks.length c4, .slice p5 x2.Leaf.length c5, .slice p6 x2.Nodes.length c6] 25, pt b21 #[.int .i64 x1.Size, .slice p1 x1.Picks.length c1, .slice p2 x1.Leaf.length c2, .slice p3 x1.Nodes.length c3] 25] ++ F0) rfl rfl rfl rfl rfl rfl rfl (by kernel_rfl) (perm_of_pulls [0] rfl) (c_law30_few _ x1 p1 c1 p2 c2 p3 c3 r43 h44 hr1 hr2 hr3) ?_)
        rintro _ _ ⟨r43_p1, r43_c2, r43_p4, r43_c5, r43_p7, r43_c8, rfl, rfl, r43_h3, r43_h6, r43_h9⟩
        refine nw_H (H' := [imm I, pt b23 #[.int .i64 x2.Size, .slice p4 x2.Picks.length c4, .slice p5 x2.Leaf.length c5, .slice p6 x2.Nodes.length c6] 25, pt b21 #[.int .i64 x1.Size, .slice p1 x1.Picks.length c1, .slice p2 x1.Leaf.length c2, .slice p3 x1.Nodes.length c3] 25] ++ F0) rfl (nw_ow ?_)
        refine ow_pw rfl (pw_store 2 #[.int .i64 r43.Size, .slice r43_p1 r43.Picks.length r43_c2, .slice r43_p4 r43.Leaf.length r43_c5, .slice r43_p7 r43.Nodes.length r43_c8] rfl rfl rfl rfl rfl rfl rfl (by kernel_rfl) (nw_H (H' := [imm I, pt b23 #[.int .i64 x2.Size, .slice p4 x2.Picks.length c4, .slice p5 x2.Leaf.length c5, .slice p6 x2.Nodes.length c6] 25, pt b21 #[.int .i64 r43.Size, .slice r43_p1 r43.Picks.length r43_c2, .slice r43_p4 r43.Leaf.length r43_c5, .slice r43_p7 r43.Nodes.length r43_c8] 25] ++ F0) rfl (nw_ow ?_)))
        refine ow_end rfl ?_
        refine ew_then ?_
        refine cw_seq ?_
        refine cw_region ?_
        refine ow_pw rfl (pw_quiet (v := .agg #[.int .i64 x2.Size, .slice p4 x2.Picks.length c4, .slice p5 x2.Leaf.length c5, .slice p6 x2.Nodes.length c6]) rfl rfl rfl rfl (q_load 1 rfl rfl rfl (by kernel_rfl)) (nw_ow ?_))
        obtain ⟨r45, h46, hF⟩ := bind_some hF
        refine ow_pw rfl (pw_call (F := [pt b23 #[.int .i64 x2.Size, .slice p4 x2.Picks.length c4, .slice p5 x2.Leaf.length c5, .slice p6 x2.Nodes.length c6] 25, pt b21 #[.int .i64 r43.Size, .slice r43_p1 r43.Picks.length r43_c2, .slice r43_p4 r43.Leaf.length r43_c5, .slice r43_p7 r43.Nodes.length r43_c8] 25] ++ F0) rfl rfl rfl rfl rfl rfl rfl (by kernel_rfl) (perm_of_pulls [0] rfl) (c_law30_few _ x2 p4 c4 p5 c5 p6 c6 r45 h46 hr4 hr5 hr6) ?_)
        rintro _ _ ⟨r45_p1, r45_c2, r45_p4, r45_c5, r45_p7, r45_c8, rfl, rfl, r45_h3, r45_h6, r45_h9⟩
        refine nw_H (H' := [imm I, pt b23 #[.int .i64 x2.Size, .slice p4 x2.Picks.length c4, .slice p5 x2.Leaf.length c5, .slice p6 x2.Nodes.length c6] 25, pt b21 #[.int .i64 r43.Size, .slice r43_p1 r43.Picks.length r43_c2, .slice r43_p4 r43.Leaf.length r43_c5, .slice r43_p7 r43.Nodes.length r43_c8] 25] ++ F0) rfl (nw_ow ?_)
        refine ow_pw rfl (pw_store 1 #[.int .i64 r45.Size, .slice r45_p1 r45.Picks.length r45_c2, .slice r45_p4 r45.Leaf.length r45_c5, .slice r45_p7 r45.Nodes.length r45_c8] rfl rfl rfl rfl rfl rfl rfl (by kernel_rfl) (nw_H (H' := [imm I, pt b23 #[.int .i64 r45.Size, .slice r45_p1 r45.Picks.length r45_c2, .slice r45_p4 r45.Leaf.length r45_c5, .slice r45_p7 r45.Nodes.length r45_c8] 25, pt b21 #[.int .i64 r43.Size, .slice r43_p1 r43.Picks.length r43_c2, .slice r43_p4 r43.Leaf.length r43_c5, .slice r43_p7 r43.Nodes.length r43_c8] 25] ++ F0) rfl (nw_ow ?_)))
        refine ow_end rfl ?_
        refine ew_then ?_
        refine cw_seq ?_
        refine cw_region ?_
        refine ow_vals 1 (j := 1) [4, 5, 7, 37] [(4, .pointer (some ⟨b21, 0, none⟩)), (5, .pointer (some ⟨b23, 0, none⟩)), (7, .pointer none), (37, .pointer none)] rfl (by kernel_rfl) ?_
        refine ow_pw rfl (pw_quiet (v := .agg #[.int .i64 r43.Size, .slice r43_p1 r43.Picks.length r43_c2, .slice r43_p4 r43.Leaf.length r43_c5, .slice r43_p7 r43.Nodes.length r43_c8]) rfl rfl rfl rfl (q_load 2 rfl rfl rfl (by kernel_rfl)) (nw_ow ?_))
        obtain ⟨r47, h48, hF⟩ := bind_some hF
        refine ow_pw rfl (pw_call (F := [pt b23 #[.int .i64 r45.Size, .slice r45_p1 r45.Picks.length r45_c2, .slice r45_p4 r45.Leaf.length r45_c5, .slice r45_p7 r45.Nodes.length r45_c8] 25, pt b21 #[.int .i64 r43.Size, .slice r43_p1 r43.Picks.length r43_c2, .slice r43_p4 r43.Leaf.length r43_c5, .slice r43_p7 r43.Nodes.length r43_c8] 25] ++ F0) rfl rfl rfl rfl rfl rfl rfl (by kernel_rfl) (perm_of_pulls [0] rfl) (c_batch_Root_1 _ r43 r43_p1 r43_c2 r43_p4 r43_c5 r43_p7 r43_c8 r47 h48 r43_h3 r43_h6 r43_h9) ?_)
        rintro _ _ ⟨rfl, rfl⟩
        refine nw_H (H' := [imm I, pt b23 #[.int .i64 r45.Size, .slice r45_p1 r45.Picks.length r45_c2, .slice r45_p4 r45.Leaf.length r45_c5, .slice r45_p7 r45.Nodes.length r45_c8] 25, pt b21 #[.int .i64 r43.Size, .slice r43_p1 r43.Picks.length r43_c2, .slice r43_p4 r43.Leaf.length r43_c5, .slice r43_p7 r43.Nodes.length r43_c8] 25] ++ F0) rfl (nw_ow ?_)
        refine ow_vals 5 (j := 8) [4, 5, 7, 9, 10] [(4, .pointer (some ⟨b21, 0, none⟩)), (5, .pointer (some ⟨b23, 0, none⟩)), (7, .pointer none), (9, .string r47.1), (10, .int .i64 r47.2)] rfl (by kernel_rfl) ?_
        refine ow_end rfl ?_
        refine ew_then ?_
        refine cw_seq ?_
        refine cw_region ?_
        refine ow_vals 1 (j := 1) [4, 5, 7, 9, 10, 43] [(4, .pointer (some ⟨b21, 0, none⟩)), (5, .pointer (some ⟨b23, 0, none⟩)), (7, .pointer none), (9, .string r47.1), (10, .int .i64 r47.2), (43, .pointer none)] rfl (by kernel_rfl) ?_
        refine ow_pw rfl (pw_quiet (v := .agg #[.int .i64 r45.Size, .slice r45_p1 r45.Picks.length r45_c2, .slice r45_p4 r45.Leaf.length r45_c5, .slice r45_p7 r45.Nodes.length r45_c8]) rfl rfl rfl rfl (q_load 1 rfl rfl rfl (by kernel_rfl)) (nw_ow ?_))
        obtain ⟨r49, h50, hF⟩ := bind_some hF
        refine ow_pw rfl (pw_call (F := [pt b23 #[.int .i64 r45.Size, .slice r45_p1 r45.Picks.length r45_c2, .slice r45_p4 r45.Leaf.length r45_c5, .slice r45_p7 r45.Nodes.length r45_c8] 25, pt b21 #[.int .i64 r43.Size, .slice r43_p1 r43.Picks.length r43_c2, .slice r43_p4 r43.Leaf.length r43_c5, .slice r43_p7 r43.Nodes.length r43_c8] 25] ++ F0) rfl rfl rfl rfl rfl rfl rfl (by kernel_rfl) (perm_of_pulls [0] rfl) (c_batch_Root_1 _ r45 r45_p1 r45_c2 r45_p4 r45_c5 r45_p7 r45_c8 r49 h50 r45_h3 r45_h6 r45_h9) ?_)
        rintro _ _ ⟨rfl, rfl⟩
        refine nw_H (H' := [imm I, pt b23 #[.int .i64 r45.Size, .slice r45_p1 r45.Picks.length r45_c2, .slice r45_p4 r45.Leaf.length r45_c5, .slice r45_p7 r45.Nodes.length r45_c8] 25, pt b21 #[.int .i64 r43.Size, .slice r43_p1 r43.Picks.length r43_c2, .slice r43_p4 r43.Leaf.length r43_c5, .slice r43_p7 r43.Nodes.length r43_c8] 25] ++ F0) rfl (nw_ow ?_)
        refine ow_vals 5 (j := 8) [4, 5, 7, 9, 10, 11, 12] [(4, .pointer (some ⟨b21, 0, none⟩)), (5, .pointer (some ⟨b23, 0, none⟩)), (7, .pointer none), (9, .string r47.1), (10, .int .i64 r47.2), (11, .string r49.1), (12, .int .i64 r49.2)] rfl (by kernel_rfl) ?_
        refine ow_end rfl ?_
        refine ew_then ?_
        obtain ⟨v51, hF, hK51⟩ := thru_some hF
        refine cw_mid (fun a w => .inl () = v51 ∧ Fr 141 [(4, .pointer (some ⟨b21, 0, none⟩)), (5, .pointer (some ⟨b23, 0, none⟩)), (7, .pointer none)] a ∧ SAT w0 ([imm I, pt b23 #[.int .i64 r45.Size, .slice r45_p1 r45.Picks.length r45_c2, .slice r45_p4 r45.Leaf.length r45_c5, .slice r45_p7 r45.Nodes.length r45_c8] 25, pt b21 #[.int .i64 r43.Size, .slice r43_p1 r43.Picks.length r43_c2, .slice r43_p4 r43.Leaf.length r43_c5, .slice r43_p7 r43.Nodes.length r43_c8] 25] ++ F0) w) ?_ ?_
        · refine cw_seq ?_
          refine cw_region ?_
          refine ow_vals 3 (j := 3) [4, 5, 7, 9, 11, 12, 50] [(4, .pointer (some ⟨b21, 0, none⟩)), (5, .pointer (some ⟨b23, 0, none⟩)), (7, .pointer none), (9, .string r47.1), (11, .string r49.1), (12, .int .i64 r49.2), (50, .bool (r47.2 != 0))] rfl (by kernel_rfl) ?_
          rcases if_some hF with ⟨h52, hF⟩ | ⟨h52, hF⟩
          · refine ow_slots (L' := [(4, .pointer (some ⟨b21, 0, none⟩)), (5, .pointer (some ⟨b23, 0, none⟩)), (7, .pointer none), (9, .string r47.1), (11, .string r49.1), (12, .int .i64 r49.2), (50, .bool true)]) (by rw [h52]) ?_
            refine ow_vals 15 (j := 18) [4, 5, 7, 65] [(4, .pointer (some ⟨b21, 0, none⟩)), (5, .pointer (some ⟨b23, 0, none⟩)), (7, .pointer none), (65, .bool true)] rfl (by kernel_rfl) ?_
            refine ow_end rfl ?_
            refine ew_then ?_
            refine cw_cond_t rfl rfl rfl ?_
            refine cw_seq ?_
            refine cw_region ?_
            obtain ⟨r53, h54, hF⟩ := bind_some hF
            refine ow_pw rfl (pw_call (F := [pt b23 #[.int .i64 r45.Size, .slice r45_p1 r45.Picks.length r45_c2, .slice r45_p4 r45.Leaf.length r45_c5, .slice r45_p7 r45.Nodes.length r45_c8] 25, pt b21 #[.int .i64 r43.Size, .slice r43_p1 r43.Picks.length r43_c2, .slice r43_p4 r43.Leaf.length r43_c5, .slice r43_p7 r43.Nodes.length r43_c8] 25] ++ F0) rfl rfl rfl rfl rfl rfl rfl (by kernel_rfl) (perm_of_pulls [0] rfl) (c_law30_awake _ r53 h54) ?_)
            rintro _ _ ⟨r53_J, rfl, rfl, r53_hJ⟩
            refine nw_H (H' := [imm r53_J, pt b23 #[.int .i64 r45.Size, .slice r45_p1 r45.Picks.length r45_c2, .slice r45_p4 r45.Leaf.length r45_c5, .slice r45_p7 r45.Nodes.length r45_c8] 25, pt b21 #[.int .i64 r43.Size, .slice r43_p1 r43.Picks.length r43_c2, .slice r43_p4 r43.Leaf.length r43_c5, .slice r43_p7 r43.Nodes.length r43_c8] 25] ++ F0) rfl (nw_ow ?_)
            have r45_h3 := ro.sub r53_hJ r45_h3
            have r45_h6 := ro.sub r53_hJ r45_h6
            have r45_h9 := ro.sub r53_hJ r45_h9
            have r43_h3 := ro.sub r53_hJ r43_h3
            have r43_h6 := ro.sub r53_hJ r43_h6
            have r43_h9 := ro.sub r53_hJ r43_h9
            refine ow_vals 1 (j := 2) [6] [(6, .bool r53)] rfl (by kernel_rfl) ?_
            refine ow_end rfl ?_
            refine ew_then ?_
            refine cw_ret ?_
            refine ew_then_ret ?_
            have hR := Option.some.inj hF
            subst hR
            have hR := hK51
            try dsimp only [Thru] at hR
            subst hR
            exact fin1 (H1 := [imm r53_J]) (fun w hs => sat_to [1, 1, 0] 2 rfl hs) rfl (rr_tmp rfl) ⟨r53_J, rfl, rfl, r53_hJ⟩
          · refine ow_slots (L' := [(4, .pointer (some ⟨b21, 0, none⟩)), (5, .pointer (some ⟨b23, 0, none⟩)), (7, .pointer none), (9, .string r47.1), (11, .string r49.1), (12, .int .i64 r49.2), (50, .bool false)]) (by rw [h52]) ?_
            refine ow_vals 4 (j := 7) [4, 5, 7, 9, 11, 54] [(4, .pointer (some ⟨b21, 0, none⟩)), (5, .pointer (some ⟨b23, 0, none⟩)), (7, .pointer none), (9, .string r47.1), (11, .string r49.1), (54, .bool (r49.2 != 0))] rfl (by kernel_rfl) ?_
            rcases if_some hF with ⟨h55, hF⟩ | ⟨h55, hF⟩
            · refine ow_slots (L' := [(4, .pointer (some ⟨b21, 0, none⟩)), (5, .pointer (some ⟨b23, 0, none⟩)), (7, .pointer none), (9, .string r47.1), (11, .string r49.1), (54, .bool true)]) (by rw [h55]) ?_
              refine ow_vals 11 (j := 18) [4, 5, 7, 65] [(4, .pointer (some ⟨b21, 0, none⟩)), (5, .pointer (some ⟨b23, 0, none⟩)), (7, .pointer none), (65, .bool true)] rfl (by kernel_rfl) ?_
              refine ow_end rfl ?_
              refine ew_then ?_
              refine cw_cond_t rfl rfl rfl ?_
              refine cw_seq ?_
              refine cw_region ?_
              obtain ⟨r56, h57, hF⟩ := bind_some hF
              refine ow_pw rfl (pw_call (F := [pt b23 #[.int .i64 r45.Size, .slice r45_p1 r45.Picks.length r45_c2, .slice r45_p4 r45.Leaf.length r45_c5, .slice r45_p7 r45.Nodes.length r45_c8] 25, pt b21 #[.int .i64 r43.Size, .slice r43_p1 r43.Picks.length r43_c2, .slice r43_p4 r43.Leaf.length r43_c5, .slice r43_p7 r43.Nodes.length r43_c8] 25] ++ F0) rfl rfl rfl rfl rfl rfl rfl (by kernel_rfl) (perm_of_pulls [0] rfl) (c_law30_awake _ r56 h57) ?_)
              rintro _ _ ⟨r56_J, rfl, rfl, r56_hJ⟩
              refine nw_H (H' := [imm r56_J, pt b23 #[.int .i64 r45.Size, .slice r45_p1 r45.Picks.length r45_c2, .slice r45_p4 r45.Leaf.length r45_c5, .slice r45_p7 r45.Nodes.length r45_c8] 25, pt b21 #[.int .i64 r43.Size, .slice r43_p1 r43.Picks.length r43_c2, .slice r43_p4 r43.Leaf.length r43_c5, .slice r43_p7 r43.Nodes.length r43_c8] 25] ++ F0) rfl (nw_ow ?_)
              have r45_h3 := ro.sub r56_hJ r45_h3
              have r45_h6 := ro.sub r56_hJ r45_h6
              have r45_h9 := ro.sub r56_hJ r45_h9
              have r43_h3 := ro.sub r56_hJ r43_h3
              have r43_h6 := ro.sub r56_hJ r43_h6
              have r43_h9 := ro.sub r56_hJ r43_h9
              refine ow_vals 1 (j := 2) [6] [(6, .bool r56)] rfl (by kernel_rfl) ?_
              refine ow_end rfl ?_
              refine ew_then ?_
              refine cw_ret ?_
              refine ew_then_ret ?_
              have hR := Option.some.inj hF
              subst hR
              have hR := hK51
              try dsimp only [Thru] at hR
              subst hR
              exact fin1 (H1 := [imm r56_J]) (fun w hs => sat_to [1, 1, 0] 2 rfl hs) rfl (rr_tmp rfl) ⟨r56_J, rfl, rfl, r56_hJ⟩
            · refine ow_slots (L' := [(4, .pointer (some ⟨b21, 0, none⟩)), (5, .pointer (some ⟨b23, 0, none⟩)), (7, .pointer none), (9, .string r47.1), (11, .string r49.1), (54, .bool false)]) (by rw [h55]) ?_
              refine ow_vals 5 (j := 12) [4, 5, 7, 59] [(4, .pointer (some ⟨b21, 0, none⟩)), (5, .pointer (some ⟨b23, 0, none⟩)), (7, .pointer none), (59, .bool (!(seqB r47.1 r49.1)))] rfl (by kernel_rfl) ?_
              rcases if_some hF with ⟨h58, hF⟩ | ⟨h58, hF⟩
              · refine ow_slots (L' := [(4, .pointer (some ⟨b21, 0, none⟩)), (5, .pointer (some ⟨b23, 0, none⟩)), (7, .pointer none), (59, .bool true)]) (by rw [h58]) ?_
                refine ow_vals 6 (j := 18) [4, 5, 7, 65] [(4, .pointer (some ⟨b21, 0, none⟩)), (5, .pointer (some ⟨b23, 0, none⟩)), (7, .pointer none), (65, .bool true)] rfl (by kernel_rfl) ?_
                refine ow_end rfl ?_
                refine ew_then ?_
                refine cw_cond_t rfl rfl rfl ?_
                refine cw_seq ?_
                refine cw_region ?_
                obtain ⟨r59, h60, hF⟩ := bind_some hF
                refine ow_pw rfl (pw_call (F := [pt b23 #[.int .i64 r45.Size, .slice r45_p1 r45.Picks.length r45_c2, .slice r45_p4 r45.Leaf.length r45_c5, .slice r45_p7 r45.Nodes.length r45_c8] 25, pt b21 #[.int .i64 r43.Size, .slice r43_p1 r43.Picks.length r43_c2, .slice r43_p4 r43.Leaf.length r43_c5, .slice r43_p7 r43.Nodes.length r43_c8] 25] ++ F0) rfl rfl rfl rfl rfl rfl rfl (by kernel_rfl) (perm_of_pulls [0] rfl) (c_law30_awake _ r59 h60) ?_)
                rintro _ _ ⟨r59_J, rfl, rfl, r59_hJ⟩
                refine nw_H (H' := [imm r59_J, pt b23 #[.int .i64 r45.Size, .slice r45_p1 r45.Picks.length r45_c2, .slice r45_p4 r45.Leaf.length r45_c5, .slice r45_p7 r45.Nodes.length r45_c8] 25, pt b21 #[.int .i64 r43.Size, .slice r43_p1 r43.Picks.length r43_c2, .slice r43_p4 r43.Leaf.length r43_c5, .slice r43_p7 r43.Nodes.length r43_c8] 25] ++ F0) rfl (nw_ow ?_)
                have r45_h3 := ro.sub r59_hJ r45_h3
                have r45_h6 := ro.sub r59_hJ r45_h6
                have r45_h9 := ro.sub r59_hJ r45_h9
                have r43_h3 := ro.sub r59_hJ r43_h3
                have r43_h6 := ro.sub r59_hJ r43_h6
                have r43_h9 := ro.sub r59_hJ r43_h9
                refine ow_vals 1 (j := 2) [6] [(6, .bool r59)] rfl (by kernel_rfl) ?_
                refine ow_end rfl ?_
                refine ew_then ?_
                refine cw_ret ?_
                refine ew_then_ret ?_
                have hR := Option.some.inj hF
                subst hR
                have hR := hK51
                try dsimp only [Thru] at hR
                subst hR
                exact fin1 (H1 := [imm r59_J]) (fun w hs => sat_to [1, 1, 0] 2 rfl hs) rfl (rr_tmp rfl) ⟨r59_J, rfl, rfl, r59_hJ⟩
              · refine ow_slots (L' := [(4, .pointer (some ⟨b21, 0, none⟩)), (5, .pointer (some ⟨b23, 0, none⟩)), (7, .pointer none), (59, .bool false)]) (by rw [h58]) ?_
                refine ow_vals 1 (j := 13) [4, 5, 7, 59, 60] [(4, .pointer (some ⟨b21, 0, none⟩)), (5, .pointer (some ⟨b23, 0, none⟩)), (7, .pointer none), (59, .bool false), (60, .pointer (some ⟨b21, 0, none⟩))] rfl (by kernel_rfl) ?_
                refine ow_pw rfl (pw_quiet (v := .int .i64 r43.Size) rfl rfl rfl rfl (q_load 2 rfl rfl rfl (by kernel_rfl)) (nw_ow ?_))
                refine ow_vals 1 (j := 15) [4, 5, 7, 59, 61, 62] [(4, .pointer (some ⟨b21, 0, none⟩)), (5, .pointer (some ⟨b23, 0, none⟩)), (7, .pointer none), (59, .bool false), (61, .int .i64 r43.Size), (62, .pointer (some ⟨b23, 0, none⟩))] rfl (by kernel_rfl) ?_
                refine ow_pw rfl (pw_quiet (v := .int .i64 r45.Size) rfl rfl rfl rfl (q_load 1 rfl rfl rfl (by kernel_rfl)) (nw_ow ?_))
                refine ow_vals 2 (j := 18) [4, 5, 7, 65] [(4, .pointer (some ⟨b21, 0, none⟩)), (5, .pointer (some ⟨b23, 0, none⟩)), (7, .pointer none), (65, .bool (r43.Size != r45.Size))] rfl (by kernel_rfl) ?_
                refine ow_end rfl ?_
                refine ew_then ?_
                rcases if_some hF with ⟨h61, hF⟩ | ⟨h61, hF⟩
                · refine cw_cond_t rfl rfl h61 ?_
                  refine cw_seq ?_
                  refine cw_region ?_
                  obtain ⟨r62, h63, hF⟩ := bind_some hF
                  refine ow_pw rfl (pw_call (F := [pt b23 #[.int .i64 r45.Size, .slice r45_p1 r45.Picks.length r45_c2, .slice r45_p4 r45.Leaf.length r45_c5, .slice r45_p7 r45.Nodes.length r45_c8] 25, pt b21 #[.int .i64 r43.Size, .slice r43_p1 r43.Picks.length r43_c2, .slice r43_p4 r43.Leaf.length r43_c5, .slice r43_p7 r43.Nodes.length r43_c8] 25] ++ F0) rfl rfl rfl rfl rfl rfl rfl (by kernel_rfl) (perm_of_pulls [0] rfl) (c_law30_awake _ r62 h63) ?_)
                  rintro _ _ ⟨r62_J, rfl, rfl, r62_hJ⟩
                  refine nw_H (H' := [imm r62_J, pt b23 #[.int .i64 r45.Size, .slice r45_p1 r45.Picks.length r45_c2, .slice r45_p4 r45.Leaf.length r45_c5, .slice r45_p7 r45.Nodes.length r45_c8] 25, pt b21 #[.int .i64 r43.Size, .slice r43_p1 r43.Picks.length r43_c2, .slice r43_p4 r43.Leaf.length r43_c5, .slice r43_p7 r43.Nodes.length r43_c8] 25] ++ F0) rfl (nw_ow ?_)
                  have r45_h3 := ro.sub r62_hJ r45_h3
                  have r45_h6 := ro.sub r62_hJ r45_h6
                  have r45_h9 := ro.sub r62_hJ r45_h9
                  have r43_h3 := ro.sub r62_hJ r43_h3
                  have r43_h6 := ro.sub r62_hJ r43_h6
                  have r43_h9 := ro.sub r62_hJ r43_h9
                  refine ow_vals 1 (j := 2) [6] [(6, .bool r62)] rfl (by kernel_rfl) ?_
                  refine ow_end rfl ?_
                  refine ew_then ?_
                  refine cw_ret ?_
                  refine ew_then_ret ?_
                  have hR := Option.some.inj hF
                  subst hR
                  have hR := hK51
                  try dsimp only [Thru] at hR
                  subst hR
                  exact fin1 (H1 := [imm r62_J]) (fun w hs => sat_to [1, 1, 0] 2 rfl hs) rfl (rr_tmp rfl) ⟨r62_J, rfl, rfl, r62_hJ⟩
                · refine cw_cond_f rfl rfl h61 ?_
                  refine cw_skip ?_
                  have hR := Option.some.inj hF
                  exact fun a w hf hs => ⟨hR, hf.keep [4, 5, 7], sat_to [0, 0, 0] 0 rfl hs⟩
        · rintro a w ⟨hv, hf, hs⟩
          subst hv
          replace hF := hK51
          clear hK51
          try dsimp only [Thru] at hF
          revert a w
          show CW _ _ _ 141 [(4, .pointer (some ⟨b21, 0, none⟩)), (5, .pointer (some ⟨b23, 0, none⟩)), (7, .pointer none)] (SAT w0 ([imm I, pt b23 #[.int .i64 r45.Size, .slice r45_p1 r45.Picks.length r45_c2, .slice r45_p4 r45.Leaf.length r45_c5, .slice r45_p7 r45.Nodes.length r45_c8] 25, pt b21 #[.int .i64 r43.Size, .slice r43_p1 r43.Picks.length r43_c2, .slice r43_p4 r43.Leaf.length r43_c5, .slice r43_p7 r43.Nodes.length r43_c8] 25] ++ F0))
          unfold F.law30_BatchApart.r2 at hF
          refine cw_seq ?_
          refine cw_region ?_
          refine ow_vals 1 (j := 1) [4, 5, 7, 13] [(4, .pointer (some ⟨b21, 0, none⟩)), (5, .pointer (some ⟨b23, 0, none⟩)), (7, .pointer none), (13, .bool false)] rfl (by kernel_rfl) ?_
          refine ow_end rfl ?_
          refine ew_then ?_
          obtain ⟨v64, hF, hK64⟩ := bind_some hF
          refine cw_mid (fun a w => ∃ (x97 : Bool), x97 = v64 ∧ Fr 141 [(7, .pointer none), (13, .bool x97)] a ∧ SAT w0 ([imm I, pt b23 #[.int .i64 r45.Size, .slice r45_p1 r45.Picks.length r45_c2, .slice r45_p4 r45.Leaf.length r45_c5, .slice r45_p7 r45.Nodes.length r45_c8] 25, pt b21 #[.int .i64 r43.Size, .slice r43_p1 r43.Picks.length r43_c2, .slice r43_p4 r43.Leaf.length r43_c5, .slice r43_p7 r43.Nodes.length r43_c8] 25] ++ F0) w) ?_ ?_
          · refine cw_seq ?_
            refine cw_region ?_
            refine ow_vals 1 (j := 1) [4, 5, 7, 13, 14] [(4, .pointer (some ⟨b21, 0, none⟩)), (5, .pointer (some ⟨b23, 0, none⟩)), (7, .pointer none), (13, .bool false), (14, .int .i64 0)] rfl (by kernel_rfl) ?_
            refine ow_end rfl ?_
            refine ew_then ?_
            refine cw_block ?_
            refine fun a w hf hs => wp_rounds (fun k a w => ∃ (x66 : Bool), ∃ (x67 : Int), iter (fun x => F.law30_BatchApart.l7 r43 r45 x.1 x.2) k (x66, x67) = some v64 ∧ Fr 141 [(4, .pointer (some ⟨b21, 0, none⟩)), (5, .pointer (some ⟨b23, 0, none⟩)), (7, .pointer none), (13, .bool x66), (14, .int .i64 x67)] a ∧ SAT w0 ([imm I, pt b23 #[.int .i64 r45.Size, .slice r45_p1 r45.Picks.length r45_c2, .slice r45_p4 r45.Leaf.length r45_c5, .slice r45_p7 r45.Nodes.length r45_c8] 25, pt b21 #[.int .i64 r43.Size, .slice r43_p1 r43.Picks.length r43_c2, .slice r43_p4 r43.Leaf.length r43_c5, .slice r43_p7 r43.Nodes.length r43_c8] 25] ++ F0) w) ?_ FUEL a w ⟨false, 0, hF, hf.keep [4, 5, 7, 13, 14], sat_to [0, 0, 0] 0 rfl hs⟩
            clear hf hs
            clear a w hF
            rintro k a w ⟨x66, x67, hF2, hf, hs⟩
            obtain ⟨k, r65, rfl, hF, hL65⟩ := iter_some hF2
            clear hF2
            revert a w
            show CW _ _ _ 141 [(4, .pointer (some ⟨b21, 0, none⟩)), (5, .pointer (some ⟨b23, 0, none⟩)), (7, .pointer none), (13, .bool x66), (14, .int .i64 x67)] (SAT w0 ([imm I, pt b23 #[.int .i64 r45.Size, .slice r45_p1 r45.Picks.length r45_c2, .slice r45_p4 r45.Leaf.length r45_c5, .slice r45_p7 r45.Nodes.length r45_c8] 25, pt b21 #[.int .i64 r43.Size, .slice r43_p1 r43.Picks.length r43_c2, .slice r43_p4 r43.Leaf.length r43_c5, .slice r43_p7 r43.Nodes.length r43_c8] 25] ++ F0))
            try dsimp only at hF
            unfold F.law30_BatchApart.l7 at hF
            obtain ⟨v68, hF, hK68⟩ := thru_some hF
            refine cw_mid (fun a w => .inl () = v68 ∧ Fr 141 [(4, .pointer (some ⟨b21, 0, none⟩)), (5, .pointer (some ⟨b23, 0, none⟩)), (7, .pointer none), (13, .bool x66), (14, .int .i64 x67)] a ∧ SAT w0 ([imm I, pt b23 #[.int .i64 r45.Size, .slice r45_p1 r45.Picks.length r45_c2, .slice r45_p4 r45.Leaf.length r45_c5, .slice r45_p7 r45.Nodes.length r45_c8] 25, pt b21 #[.int .i64 r43.Size, .slice r43_p1 r43.Picks.length r43_c2, .slice r43_p4 r43.Leaf.length r43_c5, .slice r43_p7 r43.Nodes.length r43_c8] 25] ++ F0) w) ?_ ?_
            · refine cw_seq ?_
              refine cw_region ?_
              refine ow_vals 2 (j := 2) [4, 5, 7, 13, 14, 67, 68] [(4, .pointer (some ⟨b21, 0, none⟩)), (5, .pointer (some ⟨b23, 0, none⟩)), (7, .pointer none), (13, .bool x66), (14, .int .i64 x67), (67, .int .i64 x67), (68, .pointer (some ⟨b21, 1, none⟩))] rfl (by kernel_rfl) ?_
              refine ow_pw rfl (pw_quiet (v := .slice r43_p1 r43.Picks.length r43_c2) rfl rfl rfl rfl (q_load 2 rfl rfl rfl (by kernel_rfl)) (nw_ow ?_))
              refine ow_vals 3 (j := 6) [4, 5, 7, 13, 14, 72] [(4, .pointer (some ⟨b21, 0, none⟩)), (5, .pointer (some ⟨b23, 0, none⟩)), (7, .pointer none), (13, .bool x66), (14, .int .i64 x67), (72, .bool (decide (x67 < (r43.Picks.length : Int))))] rfl (by kernel_rfl) ?_
              rcases if_some hF with ⟨h69, hF⟩ | ⟨h69, hF⟩
              · refine ow_slots (L' := [(4, .pointer (some ⟨b21, 0, none⟩)), (5, .pointer (some ⟨b23, 0, none⟩)), (7, .pointer none), (13, .bool x66), (14, .int .i64 x67), (72, .bool true)]) (by rw [h69]) ?_
                refine ow_vals 2 (j := 8) [4, 5, 7, 13, 14, 72, 73, 74] [(4, .pointer (some ⟨b21, 0, none⟩)), (5, .pointer (some ⟨b23, 0, none⟩)), (7, .pointer none), (13, .bool x66), (14, .int .i64 x67), (72, .bool true), (73, .int .i64 x67), (74, .pointer (some ⟨b21, 2, none⟩))] rfl (by kernel_rfl) ?_
                refine ow_pw rfl (pw_quiet (v := .slice r43_p4 r43.Leaf.length r43_c5) rfl rfl rfl rfl (q_load 2 rfl rfl rfl (by kernel_rfl)) (nw_ow ?_))
                refine ow_vals 3 (j := 12) [4, 5, 7, 13, 14, 78] [(4, .pointer (some ⟨b21, 0, none⟩)), (5, .pointer (some ⟨b23, 0, none⟩)), (7, .pointer none), (13, .bool x66), (14, .int .i64 x67), (78, .bool (decide (x67 < (r43.Leaf.length : Int))))] rfl (by kernel_rfl) ?_
                refine ow_end rfl ?_
                refine ew_then ?_
                rcases if_some hF with ⟨h70, hF⟩ | ⟨h70, hF⟩
                · refine cw_cond_t rfl rfl h70 ?_
                  refine cw_skip ?_
                  have hR := Option.some.inj hF
                  exact fun a w hf hs => ⟨hR, hf.keep [4, 5, 7, 13, 14], sat_to [0, 0, 0] 0 rfl hs⟩
                · refine cw_cond_f rfl rfl h70 ?_
                  refine cw_exit ?_
                  refine ew_then_exit ?_
                  refine ew_then_exit ?_
                  refine ew_blk_exit ?_
                  have hR := Option.some.inj hF
                  subst hR
                  have hR := hK68
                  try dsimp only [Thru] at hR
                  subst hR
                  have hR := hL65
                  try dsimp only at hR
                  exact fun a w hf hs => ⟨x66, hR, hf.keep [7, 13], sat_to [0, 0, 0] 0 rfl hs⟩
              · refine ow_slots (L' := [(4, .pointer (some ⟨b21, 0, none⟩)), (5, .pointer (some ⟨b23, 0, none⟩)), (7, .pointer none), (13, .bool x66), (14, .int .i64 x67), (72, .bool false)]) (by rw [h69]) ?_
                refine ow_vals 6 (j := 12) [4, 5, 7, 13, 14, 78] [(4, .pointer (some ⟨b21, 0, none⟩)), (5, .pointer (some ⟨b23, 0, none⟩)), (7, .pointer none), (13, .bool x66), (14, .int .i64 x67), (78, .bool false)] rfl (by kernel_rfl) ?_
                refine ow_end rfl ?_
                refine ew_then ?_
                refine cw_cond_f rfl rfl rfl ?_
                refine cw_exit ?_
                refine ew_then_exit ?_
                refine ew_then_exit ?_
                refine ew_blk_exit ?_
                have hR := Option.some.inj hF
                subst hR
                have hR := hK68
                try dsimp only [Thru] at hR
                subst hR
                have hR := hL65
                try dsimp only at hR
                exact fun a w hf hs => ⟨x66, hR, hf.keep [7, 13], sat_to [0, 0, 0] 0 rfl hs⟩
            · rintro a w ⟨hv, hf, hs⟩
              subst hv
              replace hF := hK68
              clear hK68
              try dsimp only [Thru] at hF
              revert a w
              show CW _ _ _ 141 [(4, .pointer (some ⟨b21, 0, none⟩)), (5, .pointer (some ⟨b23, 0, none⟩)), (7, .pointer none), (13, .bool x66), (14, .int .i64 x67)] (SAT w0 ([imm I, pt b23 #[.int .i64 r45.Size, .slice r45_p1 r45.Picks.length r45_c2, .slice r45_p4 r45.Leaf.length r45_c5, .slice r45_p7 r45.Nodes.length r45_c8] 25, pt b21 #[.int .i64 r43.Size, .slice r43_p1 r43.Picks.length r43_c2, .slice r43_p4 r43.Leaf.length r43_c5, .slice r43_p7 r43.Nodes.length r43_c8] 25] ++ F0))
              unfold F.law30_BatchApart.r3 at hF
              obtain ⟨v71, hF, hK71⟩ := bind_some hF
              refine cw_mid (fun a w => ∃ (x96 : Bool), x96 = v71 ∧ Fr 141 [(4, .pointer (some ⟨b21, 0, none⟩)), (5, .pointer (some ⟨b23, 0, none⟩)), (7, .pointer none), (13, .bool x96), (14, .int .i64 x67)] a ∧ SAT w0 ([imm I, pt b23 #[.int .i64 r45.Size, .slice r45_p1 r45.Picks.length r45_c2, .slice r45_p4 r45.Leaf.length r45_c5, .slice r45_p7 r45.Nodes.length r45_c8] 25, pt b21 #[.int .i64 r43.Size, .slice r43_p1 r43.Picks.length r43_c2, .slice r43_p4 r43.Leaf.length r43_c5, .slice r43_p7 r43.Nodes.length r43_c8] 25] ++ F0) w) ?_ ?_
              · refine cw_block ?_
                refine cw_seq ?_
                refine cw_region ?_
                refine ow_vals 1 (j := 1) [4, 5, 7, 13, 14, 15] [(4, .pointer (some ⟨b21, 0, none⟩)), (5, .pointer (some ⟨b23, 0, none⟩)), (7, .pointer none), (13, .bool x66), (14, .int .i64 x67), (15, .int .i64 0)] rfl (by kernel_rfl) ?_
                refine ow_end rfl ?_
                refine ew_then ?_
                refine cw_block ?_
                refine fun a w hf hs => wp_rounds (fun k a w => ∃ (x73 : Bool), ∃ (x74 : Int), iter (fun x => F.law30_BatchApart.l5 r43 r45 x67 x.1 x.2) k (x73, x74) = some v71 ∧ Fr 141 [(4, .pointer (some ⟨b21, 0, none⟩)), (5, .pointer (some ⟨b23, 0, none⟩)), (7, .pointer none), (13, .bool x73), (14, .int .i64 x67), (15, .int .i64 x74)] a ∧ SAT w0 ([imm I, pt b23 #[.int .i64 r45.Size, .slice r45_p1 r45.Picks.length r45_c2, .slice r45_p4 r45.Leaf.length r45_c5, .slice r45_p7 r45.Nodes.length r45_c8] 25, pt b21 #[.int .i64 r43.Size, .slice r43_p1 r43.Picks.length r43_c2, .slice r43_p4 r43.Leaf.length r43_c5, .slice r43_p7 r43.Nodes.length r43_c8] 25] ++ F0) w) ?_ FUEL a w ⟨x66, 0, hF, hf.keep [4, 5, 7, 13, 14, 15], sat_to [0, 0, 0] 0 rfl hs⟩
                clear hf hs
                clear a w hF
                rintro k a w ⟨x73, x74, hF2, hf, hs⟩
                obtain ⟨k, r72, rfl, hF, hL72⟩ := iter_some hF2
                clear hF2
                revert a w
                show CW _ _ _ 141 [(4, .pointer (some ⟨b21, 0, none⟩)), (5, .pointer (some ⟨b23, 0, none⟩)), (7, .pointer none), (13, .bool x73), (14, .int .i64 x67), (15, .int .i64 x74)] (SAT w0 ([imm I, pt b23 #[.int .i64 r45.Size, .slice r45_p1 r45.Picks.length r45_c2, .slice r45_p4 r45.Leaf.length r45_c5, .slice r45_p7 r45.Nodes.length r45_c8] 25, pt b21 #[.int .i64 r43.Size, .slice r43_p1 r43.Picks.length r43_c2, .slice r43_p4 r43.Leaf.length r43_c5, .slice r43_p7 r43.Nodes.length r43_c8] 25] ++ F0))
                try dsimp only at hF
                unfold F.law30_BatchApart.l5 at hF
                obtain ⟨v75, hF, hK75⟩ := thru_some hF
                refine cw_mid (fun a w => .inl () = v75 ∧ Fr 141 [(4, .pointer (some ⟨b21, 0, none⟩)), (5, .pointer (some ⟨b23, 0, none⟩)), (7, .pointer none), (13, .bool x73), (14, .int .i64 x67), (15, .int .i64 x74)] a ∧ SAT w0 ([imm I, pt b23 #[.int .i64 r45.Size, .slice r45_p1 r45.Picks.length r45_c2, .slice r45_p4 r45.Leaf.length r45_c5, .slice r45_p7 r45.Nodes.length r45_c8] 25, pt b21 #[.int .i64 r43.Size, .slice r43_p1 r43.Picks.length r43_c2, .slice r43_p4 r43.Leaf.length r43_c5, .slice r43_p7 r43.Nodes.length r43_c8] 25] ++ F0) w) ?_ ?_
                · refine cw_seq ?_
                  refine cw_region ?_
                  refine ow_vals 2 (j := 2) [4, 5, 7, 13, 14, 15, 81, 82] [(4, .pointer (some ⟨b21, 0, none⟩)), (5, .pointer (some ⟨b23, 0, none⟩)), (7, .pointer none), (13, .bool x73), (14, .int .i64 x67), (15, .int .i64 x74), (81, .int .i64 x74), (82, .pointer (some ⟨b23, 1, none⟩))] rfl (by kernel_rfl) ?_
                  refine ow_pw rfl (pw_quiet (v := .slice r45_p1 r45.Picks.length r45_c2) rfl rfl rfl rfl (q_load 1 rfl rfl rfl (by kernel_rfl)) (nw_ow ?_))
                  refine ow_vals 3 (j := 6) [4, 5, 7, 13, 14, 15, 86] [(4, .pointer (some ⟨b21, 0, none⟩)), (5, .pointer (some ⟨b23, 0, none⟩)), (7, .pointer none), (13, .bool x73), (14, .int .i64 x67), (15, .int .i64 x74), (86, .bool (decide (x74 < (r45.Picks.length : Int))))] rfl (by kernel_rfl) ?_
                  rcases if_some hF with ⟨h76, hF⟩ | ⟨h76, hF⟩
                  · refine ow_slots (L' := [(4, .pointer (some ⟨b21, 0, none⟩)), (5, .pointer (some ⟨b23, 0, none⟩)), (7, .pointer none), (13, .bool x73), (14, .int .i64 x67), (15, .int .i64 x74), (86, .bool true)]) (by rw [h76]) ?_
                    refine ow_vals 2 (j := 8) [4, 5, 7, 13, 14, 15, 86, 87, 88] [(4, .pointer (some ⟨b21, 0, none⟩)), (5, .pointer (some ⟨b23, 0, none⟩)), (7, .pointer none), (13, .bool x73), (14, .int .i64 x67), (15, .int .i64 x74), (86, .bool true), (87, .int .i64 x74), (88, .pointer (some ⟨b23, 2, none⟩))] rfl (by kernel_rfl) ?_
                    refine ow_pw rfl (pw_quiet (v := .slice r45_p4 r45.Leaf.length r45_c5) rfl rfl rfl rfl (q_load 1 rfl rfl rfl (by kernel_rfl)) (nw_ow ?_))
                    refine ow_vals 3 (j := 12) [4, 5, 7, 13, 14, 15, 92] [(4, .pointer (some ⟨b21, 0, none⟩)), (5, .pointer (some ⟨b23, 0, none⟩)), (7, .pointer none), (13, .bool x73), (14, .int .i64 x67), (15, .int .i64 x74), (92, .bool (decide (x74 < (r45.Leaf.length : Int))))] rfl (by kernel_rfl) ?_
                    refine ow_end rfl ?_
                    refine ew_then ?_
                    rcases if_some hF with ⟨h77, hF⟩ | ⟨h77, hF⟩
                    · refine cw_cond_t rfl rfl h77 ?_
                      refine cw_skip ?_
                      have hR := Option.some.inj hF
                      exact fun a w hf hs => ⟨hR, hf.keep [4, 5, 7, 13, 14, 15], sat_to [0, 0, 0] 0 rfl hs⟩
                    · refine cw_cond_f rfl rfl h77 ?_
                      refine cw_exit ?_
                      refine ew_then_exit ?_
                      refine ew_then_exit ?_
                      refine ew_blk_exit ?_
                      refine ew_blk ?_
                      have hR := Option.some.inj hF
                      subst hR
                      have hR := hK75
                      try dsimp only [Thru] at hR
                      subst hR
                      have hR := hL72
                      try dsimp only at hR
                      exact fun a w hf hs => ⟨x73, hR, hf.keep [4, 5, 7, 13, 14], sat_to [0, 0, 0] 0 rfl hs⟩
                  · refine ow_slots (L' := [(4, .pointer (some ⟨b21, 0, none⟩)), (5, .pointer (some ⟨b23, 0, none⟩)), (7, .pointer none), (13, .bool x73), (14, .int .i64 x67), (15, .int .i64 x74), (86, .bool false)]) (by rw [h76]) ?_
                    refine ow_vals 6 (j := 12) [4, 5, 7, 13, 14, 15, 92] [(4, .pointer (some ⟨b21, 0, none⟩)), (5, .pointer (some ⟨b23, 0, none⟩)), (7, .pointer none), (13, .bool x73), (14, .int .i64 x67), (15, .int .i64 x74), (92, .bool false)] rfl (by kernel_rfl) ?_
                    refine ow_end rfl ?_
                    refine ew_then ?_
                    refine cw_cond_f rfl rfl rfl ?_
                    refine cw_exit ?_
                    refine ew_then_exit ?_
                    refine ew_then_exit ?_
                    refine ew_blk_exit ?_
                    refine ew_blk ?_
                    have hR := Option.some.inj hF
                    subst hR
                    have hR := hK75
                    try dsimp only [Thru] at hR
                    subst hR
                    have hR := hL72
                    try dsimp only at hR
                    exact fun a w hf hs => ⟨x73, hR, hf.keep [4, 5, 7, 13, 14], sat_to [0, 0, 0] 0 rfl hs⟩
                · rintro a w ⟨hv, hf, hs⟩
                  subst hv
                  replace hF := hK75
                  clear hK75
                  try dsimp only [Thru] at hF
                  revert a w
                  show CW _ _ _ 141 [(4, .pointer (some ⟨b21, 0, none⟩)), (5, .pointer (some ⟨b23, 0, none⟩)), (7, .pointer none), (13, .bool x73), (14, .int .i64 x67), (15, .int .i64 x74)] (SAT w0 ([imm I, pt b23 #[.int .i64 r45.Size, .slice r45_p1 r45.Picks.length r45_c2, .slice r45_p4 r45.Leaf.length r45_c5, .slice r45_p7 r45.Nodes.length r45_c8] 25, pt b21 #[.int .i64 r43.Size, .slice r43_p1 r43.Picks.length r43_c2, .slice r43_p4 r43.Leaf.length r43_c5, .slice r43_p7 r43.Nodes.length r43_c8] 25] ++ F0))
                  unfold F.law30_BatchApart.r4 at hF
                  refine cw_seq ?_
                  refine cw_block ?_
                  refine cw_open 28 (SAT w0 ([imm I, pt b23 #[.int .i64 r45.Size, .slice r45_p1 r45.Picks.length r45_c2, .slice r45_p4 r45.Leaf.length r45_c5, .slice r45_p7 r45.Nodes.length r45_c8] 25, pt b21 #[.int .i64 r43.Size, .slice r43_p1 r43.Picks.length r43_c2, .slice r43_p4 r43.Leaf.length r43_c5, .slice r43_p7 r43.Nodes.length r43_c8] 25])) (by kernel_rfl) (f := 28) rfl (fun w hs => sat_drew hs) ?_
                  refine aw_vals [0, 1] (f' := 26) (m' := 3) [4, 5, 7, 13, 14, 15, 96] [(4, .pointer (some ⟨b21, 0, none⟩)), (5, .pointer (some ⟨b23, 0, none⟩)), (7, .pointer none), (13, .bool x73), (14, .int .i64 x67), (15, .int .i64 x74), (96, .bool x73)] (fun _ _ _ _ _ h => calm_fin (P := Try.prog) (fn := Try.f5) _ _ _ _ _ h) (fun w hs => sat_pulls [0, 0, 0] (G := [] ++ F0) rfl hs) rfl (by kernel_rfl) ?_
                  rcases if_some hF with ⟨h78, hF⟩ | ⟨h78, hF⟩
                  · refine aw_slots (L' := [(4, .pointer (some ⟨b21, 0, none⟩)), (5, .pointer (some ⟨b23, 0, none⟩)), (7, .pointer none), (13, .bool true), (14, .int .i64 x67), (15, .int .i64 x74), (96, .bool true)]) (by rw [h78]) ?_
                    refine aw_vals [2, 3, 4, 5, 6, 7, 8, 9, 10, 11, 12, 13, 14, 15, 16, 17, 18, 19, 20, 21, 22, 23, 24, 25, 26, 27] (f' := 0) (m' := 268435455) [4, 5, 7, 13, 14, 15] [(4, .pointer (some ⟨b21, 0, none⟩)), (5, .pointer (some ⟨b23, 0, none⟩)), (7, .pointer none), (13, .bool true), (14, .int .i64 x67), (15, .int .i64 x74)] (fun _ _ _ _ _ h => calm_fin (P := Try.prog) (fn := Try.f5) _ _ _ _ _ h) (fun w hs => sat_pulls [0, 0, 0] (G := [] ++ F0) rfl hs) rfl (by kernel_rfl) ?_
                    refine aw_keep [4, 5, 7, 13, 14, 15] (L' := [(4, .pointer (some ⟨b21, 0, none⟩)), (5, .pointer (some ⟨b23, 0, none⟩)), (7, .pointer none), (13, .bool true), (14, .int .i64 x67), (15, .int .i64 x74)]) rfl ?_
                    refine aw_end (by kernel_rfl) ?_
                    refine ew_blk ?_
                    refine ew_then ?_
                    refine cw_region ?_
                    refine ow_vals 3 (j := 3) [4, 5, 7, 13, 14, 15] [(4, .pointer (some ⟨b21, 0, none⟩)), (5, .pointer (some ⟨b23, 0, none⟩)), (7, .pointer none), (13, .bool true), (14, .int .i64 x67), (15, .int .i64 (IntKind.i64.wrap (x74 + 1)))] rfl (by kernel_rfl) ?_
                    refine ow_end rfl ?_
                    have hR := Option.some.inj hF
                    subst hR
                    have hR := hL72
                    try dsimp only at hR
                    exact fun a w hf hs => ⟨k, Nat.lt_succ_self k, true, IntKind.i64.wrap (x74 + 1), hR, hf.keep [4, 5, 7, 13, 14, 15], sat_to [0, 0, 0] 0 rfl hs⟩
                  · refine aw_slots (L' := [(4, .pointer (some ⟨b21, 0, none⟩)), (5, .pointer (some ⟨b23, 0, none⟩)), (7, .pointer none), (13, .bool false), (14, .int .i64 x67), (15, .int .i64 x74), (96, .bool false)]) (by rw [h78]) ?_
                    refine aw_vals [2, 4, 7, 9] (f' := 22) (m' := 663) [4, 5, 7, 13, 14, 15, 96, 97, 99, 102, 104] [(4, .pointer (some ⟨b21, 0, none⟩)), (5, .pointer (some ⟨b23, 0, none⟩)), (7, .pointer none), (13, .bool false), (14, .int .i64 x67), (15, .int .i64 x74), (96, .bool false), (97, .pointer (some ⟨b21, 1, none⟩)), (99, .int .i64 x67), (102, .pointer (some ⟨b23, 1, none⟩)), (104, .int .i64 x74)] (fun _ _ _ _ _ h => calm_fin (P := Try.prog) (fn := Try.f5) _ _ _ _ _ h) (fun w hs => sat_pulls [0, 0, 0] (G := [] ++ F0) rfl hs) rfl (by kernel_rfl) ?_
                    refine aw_quiet 3 (m' := 671) (v := .slice r43_p1 r43.Picks.length r43_c2) 0 [] rfl rfl rfl rfl (by kernel_rfl) (by kernel_rfl) (by kernel_rfl) (fun _ _ _ _ _ h => calm_fin (P := Try.prog) (fn := Try.f5) _ _ _ _ _ h) (fun w hs => sat_pulls [0, 0, 0] (G := [] ++ F0) rfl hs) (q_load 2 rfl rfl rfl (by kernel_rfl)) ?_
                    obtain ⟨y79, h80, hF⟩ := bind_some hF
                    refine aw_index_ro (E := 3) 5 (m' := 703) 1 r43_h3 rfl rfl rfl rfl rfl (by kernel_rfl) (by kernel_rfl) (fun _ _ _ _ _ h => calm_fin (P := Try.prog) (fn := Try.f5) _ _ _ _ _ h) (fun w hs => sat_pulls [0, 0, 0] (G := [] ++ F0) rfl hs) (by kernel_rfl) rfl rfl rfl h80 fun q81 h82 => ?_
                    refine aw_quiet 6 (m' := 767) (v := .int .i64 y79) 0 [] rfl rfl rfl rfl (by kernel_rfl) (by kernel_rfl) (by kernel_rfl) (fun _ _ _ _ _ h => calm_fin (P := Try.prog) (fn := Try.f5) _ _ _ _ _ h) (fun w hs => sat_pulls [0, 0, 0] (G := [] ++ F0) rfl hs) (q_load_el0 0 rfl h82 rfl rfl (by kernel_rfl)) ?_
                    refine aw_quiet 8 (m' := 1023) (v := .slice r45_p1 r45.Picks.length r45_c2) 0 [] rfl rfl rfl rfl (by kernel_rfl) (by kernel_rfl) (by kernel_rfl) (fun _ _ _ _ _ h => calm_fin (P := Try.prog) (fn := Try.f5) _ _ _ _ _ h) (fun w hs => sat_pulls [0, 0, 0] (G := [] ++ F0) rfl hs) (q_load 1 rfl rfl rfl (by kernel_rfl)) ?_
                    obtain ⟨y83, h84, hF⟩ := bind_some hF
                    refine aw_index_ro (E := 3) 10 (m' := 2047) 1 r45_h3 rfl rfl rfl rfl rfl (by kernel_rfl) (by kernel_rfl) (fun _ _ _ _ _ h => calm_fin (P := Try.prog) (fn := Try.f5) _ _ _ _ _ h) (fun w hs => sat_pulls [0, 0, 0] (G := [] ++ F0) rfl hs) (by kernel_rfl) rfl rfl rfl h84 fun q85 h86 => ?_
                    refine aw_quiet 11 (m' := 4095) (v := .int .i64 y83) 0 [] rfl rfl rfl rfl (by kernel_rfl) (by kernel_rfl) (by kernel_rfl) (fun _ _ _ _ _ h => calm_fin (P := Try.prog) (fn := Try.f5) _ _ _ _ _ h) (fun w hs => sat_pulls [0, 0, 0] (G := [] ++ F0) rfl hs) (q_load_el0 0 rfl h86 rfl rfl (by kernel_rfl)) ?_
                    refine aw_vals [12, 13] (f' := 14) (m' := 16383) [4, 5, 7, 13, 14, 15, 96, 108] [(4, .pointer (some ⟨b21, 0, none⟩)), (5, .pointer (some ⟨b23, 0, none⟩)), (7, .pointer none), (13, .bool false), (14, .int .i64 x67), (15, .int .i64 x74), (96, .bool false), (108, .bool (y79 == y83))] (fun _ _ _ _ _ h => calm_fin (P := Try.prog) (fn := Try.f5) _ _ _ _ _ h) (fun w hs => sat_pulls [0, 0, 0] (G := [] ++ F0) rfl hs) rfl (by kernel_rfl) ?_
                    rcases if_some hF with ⟨h87, hF⟩ | ⟨h87, hF⟩
                    · refine aw_slots (L' := [(4, .pointer (some ⟨b21, 0, none⟩)), (5, .pointer (some ⟨b23, 0, none⟩)), (7, .pointer none), (13, .bool false), (14, .int .i64 x67), (15, .int .i64 x74), (96, .bool false), (108, .bool true)]) (by rw [h87]) ?_
                      refine aw_vals [14, 16, 19, 21] (f' := 10) (m' := 2719743) [4, 5, 7, 13, 14, 15, 96, 108, 109, 111, 114, 116] [(4, .pointer (some ⟨b21, 0, none⟩)), (5, .pointer (some ⟨b23, 0, none⟩)), (7, .pointer none), (13, .bool false), (14, .int .i64 x67), (15, .int .i64 x74), (96, .bool false), (108, .bool true), (109, .pointer (some ⟨b21, 2, none⟩)), (111, .int .i64 x67), (114, .pointer (some ⟨b23, 2, none⟩)), (116, .int .i64 x74)] (fun _ _ _ _ _ h => calm_fin (P := Try.prog) (fn := Try.f5) _ _ _ _ _ h) (fun w hs => sat_pulls [0, 0, 0] (G := [] ++ F0) rfl hs) rfl (by kernel_rfl) ?_
                      refine aw_quiet 15 (m' := 2752511) (v := .slice r43_p4 r43.Leaf.length r43_c5) 0 [] rfl rfl rfl rfl (by kernel_rfl) (by kernel_rfl) (by kernel_rfl) (fun _ _ _ _ _ h => calm_fin (P := Try.prog) (fn := Try.f5) _ _ _ _ _ h) (fun w hs => sat_pulls [0, 0, 0] (G := [] ++ F0) rfl hs) (q_load 2 rfl rfl rfl (by kernel_rfl)) ?_
                      obtain ⟨y88, h89, hF⟩ := bind_some hF
                      refine aw_index_ro (E := 9) 17 (m' := 2883583) 1 r43_h6 rfl rfl rfl rfl rfl (by kernel_rfl) (by kernel_rfl) (fun _ _ _ _ _ h => calm_fin (P := Try.prog) (fn := Try.f5) _ _ _ _ _ h) (fun w hs => sat_pulls [0, 0, 0] (G := [] ++ F0) rfl hs) (by kernel_rfl) rfl rfl rfl h89 fun q90 h91 => ?_
                      refine aw_quiet 18 (m' := 3145727) (v := .string y88) 0 [] rfl rfl rfl rfl (by kernel_rfl) (by kernel_rfl) (by kernel_rfl) (fun _ _ _ _ _ h => calm_fin (P := Try.prog) (fn := Try.f5) _ _ _ _ _ h) (fun w hs => sat_pulls [0, 0, 0] (G := [] ++ F0) rfl hs) (q_load_el0 0 rfl h91 rfl rfl (by kernel_rfl)) ?_
                      refine aw_quiet 20 (m' := 4194303) (v := .slice r45_p4 r45.Leaf.length r45_c5) 0 [] rfl rfl rfl rfl (by kernel_rfl) (by kernel_rfl) (by kernel_rfl) (fun _ _ _ _ _ h => calm_fin (P := Try.prog) (fn := Try.f5) _ _ _ _ _ h) (fun w hs => sat_pulls [0, 0, 0] (G := [] ++ F0) rfl hs) (q_load 1 rfl rfl rfl (by kernel_rfl)) ?_
                      obtain ⟨y92, h93, hF⟩ := bind_some hF
                      refine aw_index_ro (E := 9) 22 (m' := 8388607) 1 r45_h6 rfl rfl rfl rfl rfl (by kernel_rfl) (by kernel_rfl) (fun _ _ _ _ _ h => calm_fin (P := Try.prog) (fn := Try.f5) _ _ _ _ _ h) (fun w hs => sat_pulls [0, 0, 0] (G := [] ++ F0) rfl hs) (by kernel_rfl) rfl rfl rfl h93 fun q94 h95 => ?_
                      refine aw_quiet 23 (m' := 16777215) (v := .string y92) 0 [] rfl rfl rfl rfl (by kernel_rfl) (by kernel_rfl) (by kernel_rfl) (fun _ _ _ _ _ h => calm_fin (P := Try.prog) (fn := Try.f5) _ _ _ _ _ h) (fun w hs => sat_pulls [0, 0, 0] (G := [] ++ F0) rfl hs) (q_load_el0 0 rfl h95 rfl rfl (by kernel_rfl)) ?_
                      refine aw_vals [24, 25, 26, 27] (f' := 0) (m' := 268435455) [4, 5, 7, 13, 14, 15] [(4, .pointer (some ⟨b21, 0, none⟩)), (5, .pointer (some ⟨b23, 0, none⟩)), (7, .pointer none), (13, .bool (!(seqB y88 y92))), (14, .int .i64 x67), (15, .int .i64 x74)] (fun _ _ _ _ _ h => calm_fin (P := Try.prog) (fn := Try.f5) _ _ _ _ _ h) (fun w hs => sat_pulls [0, 0, 0] (G := [] ++ F0) rfl hs) rfl (by kernel_rfl) ?_
                      refine aw_keep [4, 5, 7, 13, 14, 15] (L' := [(4, .pointer (some ⟨b21, 0, none⟩)), (5, .pointer (some ⟨b23, 0, none⟩)), (7, .pointer none), (13, .bool (!(seqB y88 y92))), (14, .int .i64 x67), (15, .int .i64 x74)]) rfl ?_
                      refine aw_end (by kernel_rfl) ?_
                      refine ew_blk ?_
                      refine ew_then ?_
                      refine cw_region ?_
                      refine ow_vals 3 (j := 3) [4, 5, 7, 13, 14, 15] [(4, .pointer (some ⟨b21, 0, none⟩)), (5, .pointer (some ⟨b23, 0, none⟩)), (7, .pointer none), (13, .bool (!(seqB y88 y92))), (14, .int .i64 x67), (15, .int .i64 (IntKind.i64.wrap (x74 + 1)))] rfl (by kernel_rfl) ?_
                      refine ow_end rfl ?_
                      have hR := Option.some.inj hF
                      subst hR
                      have hR := hL72
                      try dsimp only at hR
                      exact fun a w hf hs => ⟨k, Nat.lt_succ_self k, !(seqB y88 y92), IntKind.i64.wrap (x74 + 1), hR, hf.keep [4, 5, 7, 13, 14, 15], sat_to [0, 0, 0] 0 rfl hs⟩
                    · refine aw_slots (L' := [(4, .pointer (some ⟨b21, 0, none⟩)), (5, .pointer (some ⟨b23, 0, none⟩)), (7, .pointer none), (13, .bool false), (14, .int .i64 x67), (15, .int .i64 x74), (96, .bool false), (108, .bool false)]) (by rw [h87]) ?_
                      refine aw_vals [14, 15, 16, 17, 18, 19, 20, 21, 22, 23, 24, 25, 26, 27] (f' := 0) (m' := 268435455) [4, 5, 7, 13, 14, 15] [(4, .pointer (some ⟨b21, 0, none⟩)), (5, .pointer (some ⟨b23, 0, none⟩)), (7, .pointer none), (13, .bool false), (14, .int .i64 x67), (15, .int .i64 x74)] (fun _ _ _ _ _ h => calm_fin (P := Try.prog) (fn := Try.f5) _ _ _ _ _ h) (fun w hs => sat_pulls [0, 0, 0] (G := [] ++ F0) rfl hs) rfl (by kernel_rfl) ?_
                      refine aw_keep [4, 5, 7, 13, 14, 15] (L' := [(4, .pointer (some ⟨b21, 0, none⟩)), (5, .pointer (some ⟨b23, 0, none⟩)), (7, .pointer none), (13, .bool false), (14, .int .i64 x67), (15, .int .i64 x74)]) rfl ?_
                      refine aw_end (by kernel_rfl) ?_
                      refine ew_blk ?_
                      refine ew_then ?_
                      refine cw_region ?_
                      refine ow_vals 3 (j := 3) [4, 5, 7, 13, 14, 15] [(4, .pointer (some ⟨b21, 0, none⟩)), (5, .pointer (some ⟨b23, 0, none⟩)), (7, .pointer none), (13, .bool false), (14, .int .i64 x67), (15, .int .i64 (IntKind.i64.wrap (x74 + 1)))] rfl (by kernel_rfl) ?_
                      refine ow_end rfl ?_
                      have hR := Option.some.inj hF
                      subst hR
                      have hR := hL72
                      try dsimp only at hR
                      exact fun a w hf hs => ⟨k, Nat.lt_succ_self k, false, IntKind.i64.wrap (x74 + 1), hR, hf.keep [4, 5, 7, 13, 14, 15], sat_to [0, 0, 0] 0 rfl hs⟩
              · rintro a w ⟨x96, hv, hf, hs⟩
                subst hv
                replace hF := hK71
                clear hK71
                try dsimp only at hF
                revert a w
                show CW _ _ _ 141 [(4, .pointer (some ⟨b21, 0, none⟩)), (5, .pointer (some ⟨b23, 0, none⟩)), (7, .pointer none), (13, .bool x96), (14, .int .i64 x67)] (SAT w0 ([imm I, pt b23 #[.int .i64 r45.Size, .slice r45_p1 r45.Picks.length r45_c2, .slice r45_p4 r45.Leaf.length r45_c5, .slice r45_p7 r45.Nodes.length r45_c8] 25, pt b21 #[.int .i64 r43.Size, .slice r43_p1 r43.Picks.length r43_c2, .slice r43_p4 r43.Leaf.length r43_c5, .slice r43_p7 r43.Nodes.length r43_c8] 25] ++ F0))
                unfold F.law30_BatchApart.r6 at hF
                refine cw_region ?_
                refine ow_vals 3 (j := 3) [4, 5, 7, 13, 14] [(4, .pointer (some ⟨b21, 0, none⟩)), (5, .pointer (some ⟨b23, 0, none⟩)), (7, .pointer none), (13, .bool x96), (14, .int .i64 (IntKind.i64.wrap (x67 + 1)))] rfl (by kernel_rfl) ?_
                refine ow_end rfl ?_
                have hR := Option.some.inj hF
                subst hR
                have hR := hL65
                try dsimp only at hR
                exact fun a w hf hs => ⟨k, Nat.lt_succ_self k, x96, IntKind.i64.wrap (x67 + 1), hR, hf.keep [4, 5, 7, 13, 14], sat_to [0, 0, 0] 0 rfl hs⟩
          · rintro a w ⟨x97, hv, hf, hs⟩
            subst hv
            replace hF := hK64
            clear hK64
            try dsimp only at hF
            revert a w
            show CW _ _ _ 141 [(7, .pointer none), (13, .bool x97)] (SAT w0 ([imm I, pt b23 #[.int .i64 r45.Size, .slice r45_p1 r45.Picks.length r45_c2, .slice r45_p4 r45.Leaf.length r45_c5, .slice r45_p7 r45.Nodes.length r45_c8] 25, pt b21 #[.int .i64 r43.Size, .slice r43_p1 r43.Picks.length r43_c2, .slice r43_p4 r43.Leaf.length r43_c5, .slice r43_p7 r43.Nodes.length r43_c8] 25] ++ F0))
            unfold F.law30_BatchApart.r8 at hF
            refine cw_seq ?_
            refine cw_region ?_
            refine ow_vals 1 (j := 1) [13, 123] [(13, .bool x97), (123, .pointer none)] rfl (by kernel_rfl) ?_
            obtain ⟨r98, h99, hF⟩ := bind_some hF
            refine ow_pw rfl (pw_call (F := [pt b23 #[.int .i64 r45.Size, .slice r45_p1 r45.Picks.length r45_c2, .slice r45_p4 r45.Leaf.length r45_c5, .slice r45_p7 r45.Nodes.length r45_c8] 25, pt b21 #[.int .i64 r43.Size, .slice r43_p1 r43.Picks.length r43_c2, .slice r43_p4 r43.Leaf.length r43_c5, .slice r43_p7 r43.Nodes.length r43_c8] 25] ++ F0) rfl rfl rfl rfl rfl rfl rfl (by kernel_rfl) (perm_of_pulls [0] rfl) (c_mill_Mill_Twins_1 _ r98 h99) ?_)
            rintro _ _ ⟨rfl, rfl⟩
            refine nw_H (H' := [imm I, pt b23 #[.int .i64 r45.Size, .slice r45_p1 r45.Picks.length r45_c2, .slice r45_p4 r45.Leaf.length r45_c5, .slice r45_p7 r45.Nodes.length r45_c8] 25, pt b21 #[.int .i64 r43.Size, .slice r43_p1 r43.Picks.length r43_c2, .slice r43_p4 r43.Leaf.length r43_c5, .slice r43_p7 r43.Nodes.length r43_c8] 25] ++ F0) rfl (nw_ow ?_)
            refine ow_vals 7 (j := 9) [13, 16, 17, 18] [(13, .bool x97), (16, .string r98.1), (17, .string r98.2.1), (18, .bool r98.2.2)] rfl (by kernel_rfl) ?_
            refine ow_end rfl ?_
            refine ew_then ?_
            refine cw_seq ?_
            refine cw_region ?_
            refine ow_vals 3 (j := 3) [16, 17, 18, 130] [(16, .string r98.1), (17, .string r98.2.1), (18, .bool r98.2.2), (130, .bool (!x97))] rfl (by kernel_rfl) ?_
            rcases if_some hF with ⟨h100, hF⟩ | ⟨h100, hF⟩
            · refine ow_slots (L' := [(16, .string r98.1), (17, .string r98.2.1), (18, .bool r98.2.2), (130, .bool true)]) (by rw [h100]) ?_
              refine ow_vals 8 (j := 11) [138] [(138, .bool true)] rfl (by kernel_rfl) ?_
              obtain ⟨r101, h102, hF⟩ := bind_some hF
              refine ow_pw rfl (pw_call (F := [pt b23 #[.int .i64 r45.Size, .slice r45_p1 r45.Picks.length r45_c2, .slice r45_p4 r45.Leaf.length r45_c5, .slice r45_p7 r45.Nodes.length r45_c8] 25, pt b21 #[.int .i64 r43.Size, .slice r43_p1 r43.Picks.length r43_c2, .slice r43_p4 r43.Leaf.length r43_c5, .slice r43_p7 r43.Nodes.length r43_c8] 25] ++ F0) rfl rfl rfl rfl rfl rfl rfl (by kernel_rfl) (perm_of_pulls [0] rfl) (c_law30_awake _ r101 h102) ?_)
              rintro _ _ ⟨r101_J, rfl, rfl, r101_hJ⟩
              refine nw_H (H' := [imm r101_J, pt b23 #[.int .i64 r45.Size, .slice r45_p1 r45.Picks.length r45_c2, .slice r45_p4 r45.Leaf.length r45_c5, .slice r45_p7 r45.Nodes.length r45_c8] 25, pt b21 #[.int .i64 r43.Size, .slice r43_p1 r43.Picks.length r43_c2, .slice r43_p4 r43.Leaf.length r43_c5, .slice r43_p7 r43.Nodes.length r43_c8] 25] ++ F0) rfl (nw_ow ?_)
              have r45_h3 := ro.sub r101_hJ r45_h3
              have r45_h6 := ro.sub r101_hJ r45_h6
              have r45_h9 := ro.sub r101_hJ r45_h9
              have r43_h3 := ro.sub r101_hJ r43_h3
              have r43_h6 := ro.sub r101_hJ r43_h6
              have r43_h9 := ro.sub r101_hJ r43_h9
              refine ow_vals 2 (j := 14) [6] [(6, .bool r101)] rfl (by kernel_rfl) ?_
              refine ow_end rfl ?_
              refine ew_then ?_
              refine cw_ret ?_
              have hR := Option.some.inj hF
              subst hR
              exact fin1 (H1 := [imm r101_J]) (fun w hs => sat_to [1, 1, 0] 2 rfl hs) rfl (rr_tmp rfl) ⟨r101_J, rfl, rfl, r101_hJ⟩
            · refine ow_slots (L' := [(16, .string r98.1), (17, .string r98.2.1), (18, .bool r98.2.2), (130, .bool false)]) (by rw [h100]) ?_
              refine ow_vals 2 (j := 5) [16, 17, 130, 132] [(16, .string r98.1), (17, .string r98.2.1), (130, .bool false), (132, .bool r98.2.2)] rfl (by kernel_rfl) ?_
              rcases if_some hF with ⟨h103, hF⟩ | ⟨h103, hF⟩
              · refine ow_slots (L' := [(16, .string r98.1), (17, .string r98.2.1), (130, .bool false), (132, .bool true)]) (by rw [h103]) ?_
                refine ow_vals 6 (j := 11) [138] [(138, .bool (!(seqB r98.1 r98.2.1)))] rfl (by kernel_rfl) ?_
                rcases if_some hF with ⟨h104, hF⟩ | ⟨h104, hF⟩
                · refine ow_slots (L' := [(138, .bool true)]) (by rw [h104]) ?_
                  obtain ⟨r105, h106, hF⟩ := bind_some hF
                  refine ow_pw rfl (pw_call (F := [pt b23 #[.int .i64 r45.Size, .slice r45_p1 r45.Picks.length r45_c2, .slice r45_p4 r45.Leaf.length r45_c5, .slice r45_p7 r45.Nodes.length r45_c8] 25, pt b21 #[.int .i64 r43.Size, .slice r43_p1 r43.Picks.length r43_c2, .slice r43_p4 r43.Leaf.length r43_c5, .slice r43_p7 r43.Nodes.length r43_c8] 25] ++ F0) rfl rfl rfl rfl rfl rfl rfl (by kernel_rfl) (perm_of_pulls [0] rfl) (c_law30_awake _ r105 h106) ?_)
                  rintro _ _ ⟨r105_J, rfl, rfl, r105_hJ⟩
                  refine nw_H (H' := [imm r105_J, pt b23 #[.int .i64 r45.Size, .slice r45_p1 r45.Picks.length r45_c2, .slice r45_p4 r45.Leaf.length r45_c5, .slice r45_p7 r45.Nodes.length r45_c8] 25, pt b21 #[.int .i64 r43.Size, .slice r43_p1 r43.Picks.length r43_c2, .slice r43_p4 r43.Leaf.length r43_c5, .slice r43_p7 r43.Nodes.length r43_c8] 25] ++ F0) rfl (nw_ow ?_)
                  have r45_h3 := ro.sub r105_hJ r45_h3
                  have r45_h6 := ro.sub r105_hJ r45_h6
                  have r45_h9 := ro.sub r105_hJ r45_h9
                  have r43_h3 := ro.sub r105_hJ r43_h3
                  have r43_h6 := ro.sub r105_hJ r43_h6
                  have r43_h9 := ro.sub r105_hJ r43_h9
                  refine ow_vals 2 (j := 14) [6] [(6, .bool r105)] rfl (by kernel_rfl) ?_
                  refine ow_end rfl ?_
                  refine ew_then ?_
                  refine cw_ret ?_
                  have hR := Option.some.inj hF
                  subst hR
                  exact fin1 (H1 := [imm r105_J]) (fun w hs => sat_to [1, 1, 0] 2 rfl hs) rfl (rr_tmp rfl) ⟨r105_J, rfl, rfl, r105_hJ⟩
                · refine ow_slots (L' := [(138, .bool false)]) (by rw [h104]) ?_
                  refine ow_vals 3 (j := 14) [6] [(6, .bool false)] rfl (by kernel_rfl) ?_
                  refine ow_end rfl ?_
                  refine ew_then ?_
                  refine cw_ret ?_
                  have hR := Option.some.inj hF
                  subst hR
                  exact fin1 (H1 := [imm I]) (fun w hs => sat_to [1, 1, 0] 2 rfl hs) rfl (rr_tmp rfl) ⟨I, rfl, rfl, Hl.sub_refl _⟩
              · refine ow_slots (L' := [(16, .string r98.1), (17, .string r98.2.1), (130, .bool false), (132, .bool false)]) (by rw [h103]) ?_
                refine ow_vals 9 (j := 14) [6] [(6, .bool false)] rfl (by kernel_rfl) ?_
                refine ow_end rfl ?_
                refine ew_then ?_
                refine cw_ret ?_
                have hR := Option.some.inj hF
                subst hR
                exact fin1 (H1 := [imm I]) (fun w hs => sat_to [1, 1, 0] 2 rfl hs) rfl (rr_tmp rfl) ⟨I, rfl, rfl, Hl.sub_refl _⟩
    · rw [hO] at hF
      try dsimp only [optC] at hF
      refine nw_H (H' := [imm I, pt r35_b2 #[.map (some r35_b4), .map (some r35_b6), .string r35_s1.twins_.e0, .string r35_s1.twins_.e1, .bool r35_s1.found_, .bool r35_s1.full_, .int .i64 r35_s1.sums_] 60, mpo kStr kStr r35_b4 r35_s1.table_, mpo kStr kStr r35_b6 r35_s1.notes_, pt b23 #[.int .i64 x2.Size, .slice p4 x2.Picks.length c4, .slice p5 x2.Leaf.length c5, .slice p6 x2.Nodes.length c6] 25, pt b21 #[.int .i64 x1.Size, .slice p1 x1.Picks.length c1, .slice p2 x1.Leaf.length c2, .slice p3 x1.Nodes.length c3] 25] ++ F0) rfl (nw_ow ?_)
      refine ow_vals 5 (j := 7) [4, 5, 7, 8] [(4, .pointer (some ⟨b21, 0, none⟩)), (5, .pointer (some ⟨b23, 0, none⟩)), (7, .pointer (some ⟨r35_b2, 0, none⟩)), (8, .int .i64 r35.2)] rfl (by kernel_rfl) ?_
      refine ow_end rfl ?_
      refine ew_then ?_
      refine cw_seq ?_
      refine cw_seq ?_
      refine cw_region ?_
      refine ow_vals 2 (j := 2) [4, 5, 7, 30] [(4, .pointer (some ⟨b21, 0, none⟩)), (5, .pointer (some ⟨b23, 0, none⟩)), (7, .pointer (some ⟨r35_b2, 0, none⟩)), (30, .bool (r35.2 != 0))] rfl (by kernel_rfl) ?_
      refine ow_end rfl ?_
      refine ew_then ?_
      rcases if_some hF with ⟨h107, hF⟩ | ⟨h107, hF⟩
      · refine cw_cond_t rfl rfl h107 ?_
        refine cw_seq ?_
        refine cw_region ?_
        obtain ⟨r108, h109, hF⟩ := bind_some hF
        refine ow_pw rfl (pw_call (F := [pt r35_b2 #[.map (some r35_b4), .map (some r35_b6), .string r35_s1.twins_.e0, .string r35_s1.twins_.e1, .bool r35_s1.found_, .bool r35_s1.full_, .int .i64 r35_s1.sums_] 60, mpo kStr kStr r35_b4 r35_s1.table_, mpo kStr kStr r35_b6 r35_s1.notes_, pt b23 #[.int .i64 x2.Size, .slice p4 x2.Picks.length c4, .slice p5 x2.Leaf.length c5, .slice p6 x2.Nodes.length c6] 25, pt b21 #[.int .i64 x1.Size, .slice p1 x1.Picks.length c1, .slice p2 x1.Leaf.length c2, .slice p3 x1.Nodes.length c3] 25] ++ F0) rfl rfl rfl rfl rfl rfl rfl (by kernel_rfl) (perm_of_pulls [0] rfl) (c_law30_awake _ r108 h109) ?_)
        rintro _ _ ⟨r108_J, rfl, rfl, r108_hJ⟩
        refine nw_H (H' := [imm r108_J, pt r35_b2 #[.map (some r35_b4), .map (some r35_b6), .string r35_s1.twins_.e0, .string r35_s1.twins_.e1, .bool r35_s1.found_, .bool r35_s1.full_, .int .i64 r35_s1.sums_] 60, mpo kStr kStr r35_b4 r35_s1.table_, mpo kStr kStr r35_b6 r35_s1.notes_, pt b23 #[.int .i64 x2.Size, .slice p4 x2.Picks.length c4, .slice p5 x2.Leaf.length c5, .slice p6 x2.Nodes.length c6] 25, pt b21 #[.int .i64 x1.Size, .slice p1 x1.Picks.length c1, .slice p2 x1.Leaf.length c2, .slice p3 x1.Nodes.length c3] 25] ++ F0) rfl (nw_ow ?_)
        have hr4 := ro.sub r108_hJ hr4
        have hr5 := ro.sub r108_hJ hr5
        have hr6 := ro.sub r108_hJ hr6
        have hr1 := ro.sub r108_hJ hr1
        have hr2 := ro.sub r108_hJ hr2
        have hr3 := ro.sub r108_hJ hr3
        refine ow_vals 1 (j := 2) [6] [(6, .bool r108)] rfl (by kernel_rfl) ?_
        refine ow_end rfl ?_
        refine ew_then ?_
        refine cw_ret ?_
        refine ew_then_ret ?_
        have hR := Option.some.inj hF
        subst hR
        exact fin1 (H1 := [imm r108_J]) (fun w hs => sat_to [1, 1, 1, 1, 1, 0] 5 rfl hs) rfl (rr_tmp rfl) ⟨r108_J, rfl, rfl, r108_hJ⟩
      · refine cw_cond_f rfl rfl h107 ?_
        refine cw_skip ?_
        refine ew_then ?_
        refine cw_seq ?_
        refine cw_region ?_
        refine ow_pw rfl (pw_quiet (v := .agg #[.int .i64 x1.Size, .slice p1 x1.Picks.length c1, .slice p2 x1.Leaf.length c2, .slice p3 x1.Nodes.length c3]) rfl rfl rfl rfl (q_load 5 rfl rfl rfl (by kernel_rfl)) (nw_ow ?_))
        obtain ⟨r110, h111, hF⟩ := bind_some hF
        refine ow_pw rfl (pw_call (F := [pt r35_b2 #[.map (some r35_b4), .map (some r35_b6), .string r35_s1.twins_.e0, .string r35_s1.twins_.e1, .bool r35_s1.found_, .bool r35_s1.full_, .int .i64 r35_s1.sums_] 60, mpo kStr kStr r35_b4 r35_s1.table_, mpo kStr kStr r35_b6 r35_s1.notes_, pt b23 #[.int .i64 x2.Size, .slice p4 x2.Picks.length c4, .slice p5 x2.Leaf.length c5, .slice p6 x2.Nodes.length c6] 25, pt b21 #[.int .i64 x1.Size, .slice p1 x1.Picks.length c1, .slice p2 x1.Leaf.length c2, .slice p3 x1.Nodes.length c3] 25] ++ F0) rfl rfl rfl rfl rfl rfl rfl (by kernel_rfl) (perm_of_pulls [0] rfl) (c_law30_few _ x1 p1 c1 p2 c2 p3 c3 r110 h111 hr1 hr2 hr3) ?_)
        rintro _ _ ⟨r110_p1, r110_c2, r110_p4, r110_c5, r110_p7, r110_c8, rfl, rfl, r110_h3, r110_h6, r110_h9⟩
        refine nw_H (H' := [imm I, pt r35_b2 #[.map (some r35_b4), .map (some r35_b6), .string r35_s1.twins_.e0, .string r35_s1.twins_.e1, .bool r35_s1.found_, .bool r35_s1.full_, .int .i64 r35_s1.sums_] 60, mpo kStr kStr r35_b4 r35_s1.table_, mpo kStr kStr r35_b6 r35_s1.notes_, pt b23 #[.int .i64 x2.Size, .slice p4 x2.Picks.length c4, .slice p5 x2.Leaf.length c5, .slice p6 x2.Nodes.length c6] 25, pt b21 #[.int .i64 x1.Size, .slice p1 x1.Picks.length c1, .slice p2 x1.Leaf.length c2, .slice p3 x1.Nodes.length c3] 25] ++ F0) rfl (nw_ow ?_)
        refine ow_pw rfl (pw_store 5 #[.int .i64 r110.Size, .slice r110_p1 r110.Picks.length r110_c2, .slice r110_p4 r110.Leaf.length r110_c5, .slice r110_p7 r110.Nodes.length r110_c8] rfl rfl rfl rfl rfl rfl rfl (by kernel_rfl) (nw_H (H' := [imm I, pt r35_b2 #[.map (some r35_b4), .map (some r35_b6), .string r35_s1.twins_.e0, .string r35_s1.twins_.e1, .bool r35_s1.found_, .bool r35_s1.full_, .int .i64 r35_s1.sums_] 60, mpo kStr kStr r35_b4 r35_s1.table_, mpo kStr kStr r35_b6 r35_s1.notes_, pt b23 #[.int .i64 x2.Size, .slice p4 x2.Picks.length c4, .slice p5 x2.Leaf.length c5, .slice p6 x2.Nodes.length c6] 25, pt b21 #[.int .i64 r110.Size, .slice r110_p1 r110.Picks.length r110_c2, .slice r110_p4 r110.Leaf.length r110_c5, .slice r110_p7 r110.Nodes.length r110_c8] 25] ++ F0) rfl (nw_ow ?_)))
        refine ow_end rfl ?_
        refine ew_then ?_
        refine cw_seq ?_
        refine cw_region ?_
        refine ow_pw rfl (pw_quiet (v := .agg #[.int .i64 x2.Size, .slice p4 x2.Picks.length c4, .slice p5 x2.Leaf.length c5, .slice p6 x2.Nodes.length c6]) rfl rfl rfl rfl (q_load 4 rfl rfl rfl (by kernel_rfl)) (nw_ow ?_))
        obtain ⟨r112, h113, hF⟩ := bind_some hF
        refine ow_pw rfl (pw_call (F := [pt r35_b2 #[.map (some r35_b4), .map (some r35_b6), .string r35_s1.twins_.e0, .string r35_s1.twins_.e1, .bool r35_s1.found_, .bool r35_s1.full_, .int .i64 r35_s1.sums_] 60, mpo kStr kStr r35_b4 r35_s1.table_, mpo kStr kStr r35_b6 r35_s1.notes_, pt b23 #[.int .i64 x2.Size, .slice p4 x2.Picks.length c4, .slice p5 x2.Leaf.length c5, .slice p6 x2.Nodes.length c6] 25, pt b21 #[.int .i64 r110.Size, .slice r110_p1 r110.Picks.length r110_c2, .slice r110_p4 r110.Leaf.length r110_c5, .slice r110_p7 r110.Nodes.length r110_c8] 25] ++ F0) rfl rfl rfl rfl rfl rfl rfl (by kernel_rfl) (perm_of_pulls [0] rfl) (c_law30_few _ x2 p4 c4 p5 c5 p6 c6 r112 h113 hr4 hr5 hr6) ?_)
        rintro _ _ ⟨r112_p1, r112_c2, r112_p4, r112_c5, r112_p7, r112_c8, rfl, rfl, r112_h3, r112_h6, r112_h9⟩
        refine nw_H (H' := [imm I, pt r35_b2 #[.map (some r35_b4), .map (some r35_b6), .string r35_s1.twins_.e0, .string r35_s1.twins_.e1, .bool r35_s1.found_, .bool r35_s1.full_, .int .i64 r35_s1.sums_] 60, mpo kStr kStr r35_b4 r35_s1.table_, mpo kStr kStr r35_b6 r35_s1.notes_, pt b23 #[.int .i64 x2.Size, .slice p4 x2.Picks.length c4, .slice p5 x2.Leaf.length c5, .slice p6 x2.Nodes.length c6] 25, pt b21 #[.int .i64 r110.Size, .slice r110_p1 r110.Picks.length r110_c2, .slice r110_p4 r110.Leaf.length r110_c5, .slice r110_p7 r110.Nodes.length r110_c8] 25] ++ F0) rfl (nw_ow ?_)
        refine ow_pw rfl (pw_store 4 #[.int .i64 r112.Size, .slice r112_p1 r112.Picks.length r112_c2, .slice r112_p4 r112.Leaf.length r112_c5, .slice r112_p7 r112.Nodes.length r112_c8] rfl rfl rfl rfl rfl rfl rfl (by kernel_rfl) (nw_H (H' := [imm I, pt r35_b2 #[.map (some r35_b4), .map (some r35_b6), .string r35_s1.twins_.e0, .string r35_s1.twins_.e1, .bool r35_s1.found_, .bool r35_s1.full_, .int .i64 r35_s1.sums_] 60, mpo kStr kStr r35_b4 r35_s1.table_, mpo kStr kStr r35_b6 r35_s1.notes_, pt b23 #[.int .i64 r112.Size, .slice r112_p1 r112.Picks.length r112_c2, .slice r112_p4 r112.Leaf.length r112_c5, .slice r112_p7 r112.Nodes.length r112_c8] 25, pt b21 #[.int .i64 r110.Size, .slice r110_p1 r110.Picks.length r110_c2, .slice r110_p4 r110.Leaf.length r110_c5, .slice r110_p7 r110.Nodes.length r110_c8] 25] ++ F0) rfl (nw_ow ?_)))
        refine ow_end rfl ?_
        refine ew_then ?_
        refine cw_seq ?_
        refine cw_region ?_
        refine ow_vals 1 (j := 1) [4, 5, 7, 37] [(4, .pointer (some ⟨b21, 0, none⟩)), (5, .pointer (some ⟨b23, 0, none⟩)), (7, .pointer (some ⟨r35_b2, 0, none⟩)), (37, .pointer (some ⟨r35_b2, 0, none⟩))] rfl (by kernel_rfl) ?_
        refine ow_pw rfl (pw_quiet (v := .agg #[.int .i64 r110.Size, .slice r110_p1 r110.Picks.length r110_c2, .slice r110_p4 r110.Leaf.length r110_c5, .slice r110_p7 r110.Nodes.length r110_c8]) rfl rfl rfl rfl (q_load 5 rfl rfl rfl (by kernel_rfl)) (nw_ow ?_))
        obtain ⟨r114, h115, hF⟩ := bind_some hF
        refine ow_pw rfl (pw_call (F := [pt b23 #[.int .i64 r112.Size, .slice r112_p1 r112.Picks.length r112_c2, .slice r112_p4 r112.Leaf.length r112_c5, .slice r112_p7 r112.Nodes.length r112_c8] 25, pt b21 #[.int .i64 r110.Size, .slice r110_p1 r110.Picks.length r110_c2, .slice r110_p4 r110.Leaf.length r110_c5, .slice r110_p7 r110.Nodes.length r110_c8] 25] ++ F0) rfl rfl rfl rfl rfl rfl rfl (by kernel_rfl) (perm_of_pulls [0, 0, 0, 0] rfl) (c_batch_Root _ r110 r35_s1 r110_p1 r110_c2 r110_p4 r110_c5 r110_p7 r110_c8 r35_b4 r35_b6 r35_b2 r114 h115 r110_h3 r110_h6 r110_h9) ?_)
        rintro _ _ ⟨r114_b1, r114_b3, rfl, rfl⟩
        refine nw_H (H' := [imm I, pt r35_b2 #[.map (some r114_b1), .map (some r114_b3), .string r114.2.2.twins_.e0, .string r114.2.2.twins_.e1, .bool r114.2.2.found_, .bool r114.2.2.full_, .int .i64 r114.2.2.sums_] 60, mpo kStr kStr r114_b1 r114.2.2.table_, mpo kStr kStr r114_b3 r114.2.2.notes_, pt b23 #[.int .i64 r112.Size, .slice r112_p1 r112.Picks.length r112_c2, .slice r112_p4 r112.Leaf.length r112_c5, .slice r112_p7 r112.Nodes.length r112_c8] 25, pt b21 #[.int .i64 r110.Size, .slice r110_p1 r110.Picks.length r110_c2, .slice r110_p4 r110.Leaf.length r110_c5, .slice r110_p7 r110.Nodes.length r110_c8] 25] ++ F0) rfl (nw_ow ?_)
        refine ow_vals 5 (j := 8) [4, 5, 7, 9, 10] [(4, .pointer (some ⟨b21, 0, none⟩)), (5, .pointer (some ⟨b23, 0, none⟩)), (7, .pointer (some ⟨r35_b2, 0, none⟩)), (9, .string r114.1), (10, .int .i64 r114.2.1)] rfl (by kernel_rfl) ?_
        refine ow_end rfl ?_
        refine ew_then ?_
        refine cw_seq ?_
        refine cw_region ?_
        refine ow_vals 1 (j := 1) [4, 5, 7, 9, 10, 43] [(4, .pointer (some ⟨b21, 0, none⟩)), (5, .pointer (some ⟨b23, 0, none⟩)), (7, .pointer (some ⟨r35_b2, 0, none⟩)), (9, .string r114.1), (10, .int .i64 r114.2.1), (43, .pointer (some ⟨r35_b2, 0, none⟩))] rfl (by kernel_rfl) ?_
        refine ow_pw rfl (pw_quiet (v := .agg #[.int .i64 r112.Size, .slice r112_p1 r112.Picks.length r112_c2, .slice r112_p4 r112.Leaf.length r112_c5, .slice r112_p7 r112.Nodes.length r112_c8]) rfl rfl rfl rfl (q_load 4 rfl rfl rfl (by kernel_rfl)) (nw_ow ?_))
        obtain ⟨r118, h119, hF⟩ := bind_some hF
        refine ow_pw rfl (pw_call (F := [pt b23 #[.int .i64 r112.Size, .slice r112_p1 r112.Picks.length r112_c2, .slice r112_p4 r112.Leaf.length r112_c5, .slice r112_p7 r112.Nodes.length r112_c8] 25, pt b21 #[.int .i64 r110.Size, .slice r110_p1 r110.Picks.length r110_c2, .slice r110_p4 r110.Leaf.length r110_c5, .slice r110_p7 r110.Nodes.length r110_c8] 25] ++ F0) rfl rfl rfl rfl rfl rfl rfl (by kernel_rfl) (perm_of_pulls [0, 0, 0, 0] rfl) (c_batch_Root _ r112 r114.2.2 r112_p1 r112_c2 r112_p4 r112_c5 r112_p7 r112_c8 r114_b1 r114_b3 r35_b2 r118 h119 r112_h3 r112_h6 r112_h9) ?_)
        rintro _ _ ⟨r118_b1, r118_b3, rfl, rfl⟩
        refine nw_H (H' := [imm I, pt r35_b2 #[.map (some r118_b1), .map (some r118_b3), .string r118.2.2.twins_.e0, .string r118.2.2.twins_.e1, .bool r118.2.2.found_, .bool r118.2.2.full_, .int .i64 r118.2.2.sums_] 60, mpo kStr kStr r118_b1 r118.2.2.table_, mpo kStr kStr r118_b3 r118.2.2.notes_, pt b23 #[.int .i64 r112.Size, .slice r112_p1 r112.Picks.length r112_c2, .slice r112_p4 r112.Leaf.length r112_c5, .slice r112_p7 r112.Nodes.length r112_c8] 25, pt b21 #[.int .i64 r110.Size, .slice r110_p1 r110.Picks.length r110_c2, .slice r110_p4 r110.Leaf.length r110_c5, .slice r110_p7 r110.Nodes.length r110_c8] 25] ++ F0) rfl (nw_ow ?_)
        refine ow_vals 5 (j := 8) [4, 5, 7, 9, 10, 11, 12] [(4, .pointer (some ⟨b21, 0, none⟩)), (5, .pointer (some ⟨b23, 0, none⟩)), (7, .pointer (some ⟨r35_b2, 0, none⟩)), (9, .string r114.1), (10, .int .i64 r114.2.1), (11, .string r118.1), (12, .int .i64 r118.2.1)] rfl (by kernel_rfl) ?_
        refine ow_end rfl ?_
        refine ew_then ?_
        obtain ⟨v122, hF, hK122⟩ := thru_some hF
        refine cw_mid (fun a w => .inl () = v122 ∧ Fr 141 [(4, .pointer (some ⟨b21, 0, none⟩)), (5, .pointer (some ⟨b23, 0, none⟩)), (7, .pointer (some ⟨r35_b2, 0, none⟩))] a ∧ SAT w0 ([imm I, pt r35_b2 #[.map (some r118_b1), .map (some r118_b3), .string r118.2.2.twins_.e0, .string r118.2.2.twins_.e1, .bool r118.2.2.found_, .bool r118.2.2.full_, .int .i64 r118.2.2.sums_] 60, pt b23 #[.int .i64 r112.Size, .slice r112_p1 r112.Picks.length r112_c2, .slice r112_p4 r112.Leaf.length r112_c5, .slice r112_p7 r112.Nodes.length r112_c8] 25, pt b21 #[.int .i64 r110.Size, .slice r110_p1 r110.Picks.length r110_c2, .slice r110_p4 r110.Leaf.length r110_c5, .slice r110_p7 r110.Nodes.length r110_c8] 25, mpo kStr kStr r118_b1 r118.2.2.table_, mpo kStr kStr r118_b3 r118.2.2.notes_] ++ F0) w) ?_ ?_
        · refine cw_seq ?_
          refine cw_region ?_
          refine ow_vals 3 (j := 3) [4, 5, 7, 9, 11, 12, 50] [(4, .pointer (some ⟨b21, 0, none⟩)), (5, .pointer (some ⟨b23, 0, none⟩)), (7, .pointer (some ⟨r35_b2, 0, none⟩)), (9, .string r114.1), (11, .string r118.1), (12, .int .i64 r118.2.1), (50, .bool (r114.2.1 != 0))] rfl (by kernel_rfl) ?_
          rcases if_some hF with ⟨h123, hF⟩ | ⟨h123, hF⟩
          · refine ow_slots (L' := [(4, .pointer (some ⟨b21, 0, none⟩)), (5, .pointer (some ⟨b23, 0, none⟩)), (7, .pointer (some ⟨r35_b2, 0, none⟩)), (9, .string r114.1), (11, .string r118.1), (12, .int .i64 r118.2.1), (50, .bool true)]) (by rw [h123]) ?_
            refine ow_vals 15 (j := 18) [4, 5, 7, 65] [(4, .pointer (some ⟨b21, 0, none⟩)), (5, .pointer (some ⟨b23, 0, none⟩)), (7, .pointer (some ⟨r35_b2, 0, none⟩)), (65, .bool true)] rfl (by kernel_rfl) ?_
            refine ow_end rfl ?_
            refine ew_then ?_
            refine cw_cond_t rfl rfl rfl ?_
            refine cw_seq ?_
            refine cw_region ?_
            obtain ⟨r124, h125, hF⟩ := bind_some hF
            refine ow_pw rfl (pw_call (F := [pt r35_b2 #[.map (some r118_b1), .map (some r118_b3), .string r118.2.2.twins_.e0, .string r118.2.2.twins_.e1, .bool r118.2.2.found_, .bool r118.2.2.full_, .int .i64 r118.2.2.sums_] 60, mpo kStr kStr r118_b1 r118.2.2.table_, mpo kStr kStr r118_b3 r118.2.2.notes_, pt b23 #[.int .i64 r112.Size, .slice r112_p1 r112.Picks.length r112_c2, .slice r112_p4 r112.Leaf.length r112_c5, .slice r112_p7 r112.Nodes.length r112_c8] 25, pt b21 #[.int .i64 r110.Size, .slice r110_p1 r110.Picks.length r110_c2, .slice r110_p4 r110.Leaf.length r110_c5, .slice r110_p7 r110.Nodes.length r110_c8] 25] ++ F0) rfl rfl rfl rfl rfl rfl rfl (by kernel_rfl) (perm_of_pulls [0] rfl) (c_law30_awake _ r124 h125) ?_)
            rintro _ _ ⟨r124_J, rfl, rfl, r124_hJ⟩
            refine nw_H (H' := [imm r124_J, pt r35_b2 #[.map (some r118_b1), .map (some r118_b3), .string r118.2.2.twins_.e0, .string r118.2.2.twins_.e1, .bool r118.2.2.found_, .bool r118.2.2.full_, .int .i64 r118.2.2.sums_] 60, mpo kStr kStr r118_b1 r118.2.2.table_, mpo kStr kStr r118_b3 r118.2.2.notes_, pt b23 #[.int .i64 r112.Size, .slice r112_p1 r112.Picks.length r112_c2, .slice r112_p4 r112.Leaf.length r112_c5, .slice r112_p7 r112.Nodes.length r112_c8] 25, pt b21 #[.int .i64 r110.Size, .slice r110_p1 r110.Picks.length r110_c2, .slice r110_p4 r110.Leaf.length r110_c5, .slice r110_p7 r110.Nodes.length r110_c8] 25] ++ F0) rfl (nw_ow ?_)
            have r112_h3 := ro.sub r124_hJ r112_h3
            have r112_h6 := ro.sub r124_hJ r112_h6
            have r112_h9 := ro.sub r124_hJ r112_h9
            have r110_h3 := ro.sub r124_hJ r110_h3
            have r110_h6 := ro.sub r124_hJ r110_h6
            have r110_h9 := ro.sub r124_hJ r110_h9
            refine ow_vals 1 (j := 2) [6] [(6, .bool r124)] rfl (by kernel_rfl) ?_
            refine ow_end rfl ?_
            refine ew_then ?_
            refine cw_ret ?_
            refine ew_then_ret ?_
            have hR := Option.some.inj hF
            subst hR
            have hR := hK122
            try dsimp only [Thru] at hR
            subst hR
            exact fin1 (H1 := [imm r124_J]) (fun w hs => sat_to [1, 1, 1, 1, 1, 0] 5 rfl hs) rfl (rr_tmp rfl) ⟨r124_J, rfl, rfl, r124_hJ⟩
          · refine ow_slots (L' := [(4, .pointer (some ⟨b21, 0, none⟩)), (5, .pointer (some ⟨b23, 0, none⟩)), (7, .pointer (some ⟨r35_b2, 0, none⟩)), (9, .string r114.1), (11, .string r118.1), (12, .int .i64 r118.2.1), (50, .bool false)]) (by rw [h123]) ?_
            refine ow_vals 4 (j := 7) [4, 5, 7, 9, 11, 54] [(4, .pointer (some ⟨b21, 0, none⟩)), (5, .pointer (some ⟨b23, 0, none⟩)), (7, .pointer (some ⟨r35_b2, 0, none⟩)), (9, .string r114.1), (11, .string r118.1), (54, .bool (r118.2.1 != 0))] rfl (by kernel_rfl) ?_
            rcases if_some hF with ⟨h126, hF⟩ | ⟨h126, hF⟩
            · refine ow_slots (L' := [(4, .pointer (some ⟨b21, 0, none⟩)), (5, .pointer (some ⟨b23, 0, none⟩)), (7, .pointer (some ⟨r35_b2, 0, none⟩)), (9, .string r114.1), (11, .string r118.1), (54, .bool true)]) (by rw [h126]) ?_
              refine ow_vals 11 (j := 18) [4, 5, 7, 65] [(4, .pointer (some ⟨b21, 0, none⟩)), (5, .pointer (some ⟨b23, 0, none⟩)), (7, .pointer (some ⟨r35_b2, 0, none⟩)), (65, .bool true)] rfl (by kernel_rfl) ?_
              refine ow_end rfl ?_
              refine ew_then ?_
              refine cw_cond_t rfl rfl rfl ?_
              refine cw_seq ?_
              refine cw_region ?_
              obtain ⟨r127, h128, hF⟩ := bind_some hF
              refine ow_pw rfl (pw_call (F := [pt r35_b2 #[.map (some r118_b1), .map (some r118_b3), .string r118.2.2.twins_.e0, .string r118.2.2.twins_.e1, .bool r118.2.2.found_, .bool r118.2.2.full_, .int .i64 r118.2.2.sums_] 60, mpo kStr kStr r118_b1 r118.2.2.table_, mpo kStr kStr r118_b3 r118.2.2.notes_, pt b23 #[.int .i64 r112.Size, .slice r112_p1 r112.Picks.length r112_c2, .slice r112_p4 r112.Leaf.length r112_c5, .slice r112_p7 r112.Nodes.length r112_c8] 25, pt b21 #[.int .i64 r110.Size, .slice r110_p1 r110.Picks.length r110_c2, .slice r110_p4 r110.Leaf.length r110_c5, .slice r110_p7 r110.Nodes.length r110_c8] 25] ++ F0) rfl rfl rfl rfl rfl rfl rfl (by kernel_rfl) (perm_of_pulls [0] rfl) (c_law30_awake _ r127 h128) ?_)
              rintro _ _ ⟨r127_J, rfl, rfl, r127_hJ⟩
              refine nw_H (H' := [imm r127_J, pt r35_b2 #[.map (some r118_b1), .map (some r118_b3), .string r118.2.2.twins_.e0, .string r118.2.2.twins_.e1, .bool r118.2.2.found_, .bool r118.2.2.full_, .int .i64 r118.2.2.sums_] 60, mpo kStr kStr r118_b1 r118.2.2.table_, mpo kStr kStr r118_b3 r118.2.2.notes_, pt b23 #[.int .i64 r112.Size, .slice r112_p1 r112.Picks.length r112_c2, .slice r112_p4 r112.Leaf.length r112_c5, .slice r112_p7 r112.Nodes.length r112_c8] 25, pt b21 #[.int .i64 r110.Size, .slice r110_p1 r110.Picks.length r110_c2, .slice r110_p4 r110.Leaf.length r110_c5, .slice r110_p7 r110.Nodes.length r110_c8] 25] ++ F0) rfl (nw_ow ?_)
              have r112_h3 := ro.sub r127_hJ r112_h3
              have r112_h6 := ro.sub r127_hJ r112_h6
              have r112_h9 := ro.sub r127_hJ r112_h9
              have r110_h3 := ro.sub r127_hJ r110_h3
              have r110_h6 := ro.sub r127_hJ r110_h6
              have r110_h9 := ro.sub r127_hJ r110_h9
              refine ow_vals 1 (j := 2) [6] [(6, .bool r127)] rfl (by kernel_rfl) ?_
              refine ow_end rfl ?_
              refine ew_then ?_
              refine cw_ret ?_
              refine ew_then_ret ?_
              have hR := Option.some.inj hF
              subst hR
              have hR := hK122
              try dsimp only [Thru] at hR
              subst hR
              exact fin1 (H1 := [imm r127_J]) (fun w hs => sat_to [1, 1, 1, 1, 1, 0] 5 rfl hs) rfl (rr_tmp rfl) ⟨r127_J, rfl, rfl, r127_hJ⟩
            · refine ow_slots (L' := [(4, .pointer (some ⟨b21, 0, none⟩)), (5, .pointer (some ⟨b23, 0, none⟩)), (7, .pointer (some ⟨r35_b2, 0, none⟩)), (9, .string r114.1), (11, .string r118.1), (54, .bool false)]) (by rw [h126]) ?_
              refine ow_vals 5 (j := 12) [4, 5, 7, 59] [(4, .pointer (some ⟨b21, 0, none⟩)), (5, .pointer (some ⟨b23, 0, none⟩)), (7, .pointer (some ⟨r35_b2, 0, none⟩)), (59, .bool (!(seqB r114.1 r118.1)))] rfl (by kernel_rfl) ?_
              rcases if_some hF with ⟨h129, hF⟩ | ⟨h129, hF⟩
              · refine ow_slots (L' := [(4, .pointer (some ⟨b21, 0, none⟩)), (5, .pointer (some ⟨b23, 0, none⟩)), (7, .pointer (some ⟨r35_b2, 0, none⟩)), (59, .bool true)]) (by rw [h129]) ?_
                refine ow_vals 6 (j := 18) [4, 5, 7, 65] [(4, .pointer (some ⟨b21, 0, none⟩)), (5, .pointer (some ⟨b23, 0, none⟩)), (7, .pointer (some ⟨r35_b2, 0, none⟩)), (65, .bool true)] rfl (by kernel_rfl) ?_
                refine ow_end rfl ?_
                refine ew_then ?_
                refine cw_cond_t rfl rfl rfl ?_
                refine cw_seq ?_
                refine cw_region ?_
                obtain ⟨r130, h131, hF⟩ := bind_some hF
                refine ow_pw rfl (pw_call (F := [pt r35_b2 #[.map (some r118_b1), .map (some r118_b3), .string r118.2.2.twins_.e0, .string r118.2.2.twins_.e1, .bool r118.2.2.found_, .bool r118.2.2.full_, .int .i64 r118.2.2.sums_] 60, mpo kStr kStr r118_b1 r118.2.2.table_, mpo kStr kStr r118_b3 r118.2.2.notes_, pt b23 #[.int .i64 r112.Size, .slice r112_p1 r112.Picks.length r112_c2, .slice r112_p4 r112.Leaf.length r112_c5, .slice r112_p7 r112.Nodes.length r112_c8] 25, pt b21 #[.int .i64 r110.Size, .slice r110_p1 r110.Picks.length r110_c2, .slice r110_p4 r110.Leaf.length r110_c5, .slice r110_p7 r110.Nodes.length r110_c8] 25] ++ F0) rfl rfl rfl rfl rfl rfl rfl (by kernel_rfl) (perm_of_pulls [0] rfl) (c_law30_awake _ r130 h131) ?_)
                rintro _ _ ⟨r130_J, rfl, rfl, r130_hJ⟩
                refine nw_H (H' := [imm r130_J, pt r35_b2 #[.map (some r118_b1), .map (some r118_b3), .string r118.2.2.twins_.e0, .string r118.2.2.twins_.e1, .bool r118.2.2.found_, .bool r118.2.2.full_, .int .i64 r118.2.2.sums_] 60, mpo kStr kStr r118_b1 r118.2.2.table_, mpo kStr kStr r118_b3 r118.2.2.notes_, pt b23 #[.int .i64 r112.Size, .slice r112_p1 r112.Picks.length r112_c2, .slice r112_p4 r112.Leaf.length r112_c5, .slice r112_p7 r112.Nodes.length r112_c8] 25, pt b21 #[.int .i64 r110.Size, .slice r110_p1 r110.Picks.length r110_c2, .slice r110_p4 r110.Leaf.length r110_c5, .slice r110_p7 r110.Nodes.length r110_c8] 25] ++ F0) rfl (nw_ow ?_)
                have r112_h3 := ro.sub r130_hJ r112_h3
                have r112_h6 := ro.sub r130_hJ r112_h6
                have r112_h9 := ro.sub r130_hJ r112_h9
                have r110_h3 := ro.sub r130_hJ r110_h3
                have r110_h6 := ro.sub r130_hJ r110_h6
                have r110_h9 := ro.sub r130_hJ r110_h9
                refine ow_vals 1 (j := 2) [6] [(6, .bool r130)] rfl (by kernel_rfl) ?_
                refine ow_end rfl ?_
                refine ew_then ?_
                refine cw_ret ?_
                refine ew_then_ret ?_
                have hR := Option.some.inj hF
                subst hR
                have hR := hK122
                try dsimp only [Thru] at hR
                subst hR
                exact fin1 (H1 := [imm r130_J]) (fun w hs => sat_to [1, 1, 1, 1, 1, 0] 5 rfl hs) rfl (rr_tmp rfl) ⟨r130_J, rfl, rfl, r130_hJ⟩
              · refine ow_slots (L' := [(4, .pointer (some ⟨b21, 0, none⟩)), (5, .pointer (some ⟨b23, 0, none⟩)), (7, .pointer (some ⟨r35_b2, 0, none⟩)), (59, .bool false)]) (by rw [h129]) ?_
                refine ow_vals 1 (j := 13) [4, 5, 7, 59, 60] [(4, .pointer (some ⟨b21, 0, none⟩)), (5, .pointer (some ⟨b23, 0, none⟩)), (7, .pointer (some ⟨r35_b2, 0, none⟩)), (59, .bool false), (60, .pointer (some ⟨b21, 0, none⟩))] rfl (by kernel_rfl) ?_
                refine ow_pw rfl (pw_quiet (v := .int .i64 r110.Size) rfl rfl rfl rfl (q_load 5 rfl rfl rfl (by kernel_rfl)) (nw_ow ?_))
                refine ow_vals 1 (j := 15) [4, 5, 7, 59, 61, 62] [(4, .pointer (some ⟨b21, 0, none⟩)), (5, .pointer (some ⟨b23, 0, none⟩)), (7, .pointer (some ⟨r35_b2, 0, none⟩)), (59, .bool false), (61, .int .i64 r110.Size), (62, .pointer (some ⟨b23, 0, none⟩))] rfl (by kernel_rfl) ?_
                refine ow_pw rfl (pw_quiet (v := .int .i64 r112.Size) rfl rfl rfl rfl (q_load 4 rfl rfl rfl (by kernel_rfl)) (nw_ow ?_))
                refine ow_vals 2 (j := 18) [4, 5, 7, 65] [(4, .pointer (some ⟨b21, 0, none⟩)), (5, .pointer (some ⟨b23, 0, none⟩)), (7, .pointer (some ⟨r35_b2, 0, none⟩)), (65, .bool (r110.Size != r112.Size))] rfl (by kernel_rfl) ?_
                refine ow_end rfl ?_
                refine ew_then ?_
                rcases if_some hF with ⟨h132, hF⟩ | ⟨h132, hF⟩
                · refine cw_cond_t rfl rfl h132 ?_
                  refine cw_seq ?_
                  refine cw_region ?_
                  obtain ⟨r133, h134, hF⟩ := bind_some hF
                  refine ow_pw rfl (pw_call (F := [pt r35_b2 #[.map (some r118_b1), .map (some r118_b3), .string r118.2.2.twins_.e0, .string r118.2.2.twins_.e1, .bool r118.2.2.found_, .bool r118.2.2.full_, .int .i64 r118.2.2.sums_] 60, mpo kStr kStr r118_b1 r118.2.2.table_, mpo kStr kStr r118_b3 r118.2.2.notes_, pt b23 #[.int .i64 r112.Size, .slice r112_p1 r112.Picks.length r112_c2, .slice r112_p4 r112.Leaf.length r112_c5, .slice r112_p7 r112.Nodes.length r112_c8] 25, pt b21 #[.int .i64 r110.Size, .slice r110_p1 r110.Picks.length r110_c2, .slice r110_p4 r110.Leaf.length r110_c5, .slice r110_p7 r110.Nodes.length r110_c8] 25] ++ F0) rfl rfl rfl rfl rfl rfl rfl (by kernel_rfl) (perm_of_pulls [0] rfl) (c_law30_awake _ r133 h134) ?_)
                  rintro _ _ ⟨r133_J, rfl, rfl, r133_hJ⟩
                  refine nw_H (H' := [imm r133_J, pt r35_b2 #[.map (some r118_b1), .map (some r118_b3), .string r118.2.2.twins_.e0, .string r118.2.2.twins_.e1, .bool r118.2.2.found_, .bool r118.2.2.full_, .int .i64 r118.2.2.sums_] 60, mpo kStr kStr r118_b1 r118.2.2.table_, mpo kStr kStr r118_b3 r118.2.2.notes_, pt b23 #[.int .i64 r112.Size, .slice r112_p1 r112.Picks.length r112_c2, .slice r112_p4 r112.Leaf.length r112_c5, .slice r112_p7 r112.Nodes.length r112_c8] 25, pt b21 #[.int .i64 r110.Size, .slice r110_p1 r110.Picks.length r110_c2, .slice r110_p4 r110.Leaf.length r110_c5, .slice r110_p7 r110.Nodes.length r110_c8] 25] ++ F0) rfl (nw_ow ?_)
                  have r112_h3 := ro.sub r133_hJ r112_h3
                  have r112_h6 := ro.sub r133_hJ r112_h6
                  have r112_h9 := ro.sub r133_hJ r112_h9
                  have r110_h3 := ro.sub r133_hJ r110_h3
                  have r110_h6 := ro.sub r133_hJ r110_h6
                  have r110_h9 := ro.sub r133_hJ r110_h9
                  refine ow_vals 1 (j := 2) [6] [(6, .bool r133)] rfl (by kernel_rfl) ?_
                  refine ow_end rfl ?_
                  refine ew_then ?_
                  refine cw_ret ?_
                  refine ew_then_ret ?_
                  have hR := Option.some.inj hF
                  subst hR
                  have hR := hK122
                  try dsimp only [Thru] at hR
                  subst hR
                  exact fin1 (H1 := [imm r133_J]) (fun w hs => sat_to [1, 1, 1, 1, 1, 0] 5 rfl hs) rfl (rr_tmp rfl) ⟨r133_J, rfl, rfl, r133_hJ⟩
                · refine cw_cond_f rfl rfl h132 ?_
                  refine cw_skip ?_
                  have hR := Option.some.inj hF
                  exact fun a w hf hs => ⟨hR, hf.keep [4, 5, 7], sat_to [0, 0, 2, 2, 0, 0] 0 rfl hs⟩
        · rintro a w ⟨hv, hf, hs⟩
          subst hv
          replace hF := hK122
          clear hK122
          try dsimp only [Thru] at hF
          revert a w
          show CW _ _ _ 141 [(4, .pointer (some ⟨b21, 0, none⟩)), (5, .pointer (some ⟨b23, 0, none⟩)), (7, .pointer (some ⟨r35_b2, 0, none⟩))] (SAT w0 ([imm I, pt r35_b2 #[.map (some r118_b1), .map (some r118_b3), .string r118.2.2.twins_.e0, .string r118.2.2.twins_.e1, .bool r118.2.2.found_, .bool r118.2.2.full_, .int .i64 r118.2.2.sums_] 60, pt b23 #[.int .i64 r112.Size, .slice r112_p1 r112.Picks.length r112_c2, .slice r112_p4 r112.Leaf.length r112_c5, .slice r112_p7 r112.Nodes.length r112_c8] 25, pt b21 #[.int .i64 r110.Size, .slice r110_p1 r110.Picks.length r110_c2, .slice r110_p4 r110.Leaf.length r110_c5, .slice r110_p7 r110.Nodes.length r110_c8] 25, mpo kStr kStr r118_b1 r118.2.2.table_, mpo kStr kStr r118_b3 r118.2.2.notes_] ++ F0))
          unfold F.law30_BatchApart.r9 at hF
          refine cw_seq ?_
          refine cw_region ?_
          refine ow_vals 1 (j := 1) [4, 5, 7, 13] [(4, .pointer (some ⟨b21, 0, none⟩)), (5, .pointer (some ⟨b23, 0, none⟩)), (7, .pointer (some ⟨r35_b2, 0, none⟩)), (13, .bool false)] rfl (by kernel_rfl) ?_
          refine ow_end rfl ?_
          refine ew_then ?_
          obtain ⟨v135, hF, hK135⟩ := bind_some hF
          refine cw_mid (fun a w => ∃ (x168 : Bool), x168 = v135 ∧ Fr 141 [(7, .pointer (some ⟨r35_b2, 0, none⟩)), (13, .bool x168)] a ∧ SAT w0 ([imm I, pt r35_b2 #[.map (some r118_b1), .map (some r118_b3), .string r118.2.2.twins_.e0, .string r118.2.2.twins_.e1, .bool r118.2.2.found_, .bool r118.2.2.full_, .int .i64 r118.2.2.sums_] 60, pt b23 #[.int .i64 r112.Size, .slice r112_p1 r112.Picks.length r112_c2, .slice r112_p4 r112.Leaf.length r112_c5, .slice r112_p7 r112.Nodes.length r112_c8] 25, pt b21 #[.int .i64 r110.Size, .slice r110_p1 r110.Picks.length r110_c2, .slice r110_p4 r110.Leaf.length r110_c5, .slice r110_p7 r110.Nodes.length r110_c8] 25, mpo kStr kStr r118_b1 r118.2.2.table_, mpo kStr kStr r118_b3 r118.2.2.notes_] ++ F0) w) ?_ ?_
          · refine cw_seq ?_
            refine cw_region ?_
            refine ow_vals 1 (j := 1) [4, 5, 7, 13, 14] [(4, .pointer (some ⟨b21, 0, none⟩)), (5, .pointer (some ⟨b23, 0, none⟩)), (7, .pointer (some ⟨r35_b2, 0, none⟩)), (13, .bool false), (14, .int .i64 0)] rfl (by kernel_rfl) ?_
            refine ow_end rfl ?_
            refine ew_then ?_
            refine cw_block ?_
            refine fun a w hf hs => wp_rounds (fun k a w => ∃ (x137 : Bool), ∃ (x138 : Int), iter (fun x => F.law30_BatchApart.l14 r110 r112 x.1 x.2) k (x137, x138) = some v135 ∧ Fr 141 [(4, .pointer (some ⟨b21, 0, none⟩)), (5, .pointer (some ⟨b23, 0, none⟩)), (7, .pointer (some ⟨r35_b2, 0, none⟩)), (13, .bool x137), (14, .int .i64 x138)] a ∧ SAT w0 ([imm I, pt r35_b2 #[.map (some r118_b1), .map (some r118_b3), .string r118.2.2.twins_.e0, .string r118.2.2.twins_.e1, .bool r118.2.2.found_, .bool r118.2.2.full_, .int .i64 r118.2.2.sums_] 60, pt b23 #[.int .i64 r112.Size, .slice r112_p1 r112.Picks.length r112_c2, .slice r112_p4 r112.Leaf.length r112_c5, .slice r112_p7 r112.Nodes.length r112_c8] 25, pt b21 #[.int .i64 r110.Size, .slice r110_p1 r110.Picks.length r110_c2, .slice r110_p4 r110.Leaf.length r110_c5, .slice r110_p7 r110.Nodes.length r110_c8] 25, mpo kStr kStr r118_b1 r118.2.2.table_, mpo kStr kStr r118_b3 r118.2.2.notes_] ++ F0) w) ?_ FUEL a w ⟨false, 0, hF, hf.keep [4, 5, 7, 13, 14], sat_to [0, 0, 0, 0, 0, 0] 0 rfl hs⟩
            clear hf hs
            clear a w hF
            rintro k a w ⟨x137, x138, hF2, hf, hs⟩
            obtain ⟨k, r136, rfl, hF, hL136⟩ := iter_some hF2
            clear hF2
            revert a w
            show CW _ _ _ 141 [(4, .pointer (some ⟨b21, 0, none⟩)), (5, .pointer (some ⟨b23, 0, none⟩)), (7, .pointer (some ⟨r35_b2, 0, none⟩)), (13, .bool x137), (14, .int .i64 x138)] (SAT w0 ([imm I, pt r35_b2 #[.map (some r118_b1), .map (some r118_b3), .string r118.2.2.twins_.e0, .string r118.2.2.twins_.e1, .bool r118.2.2.found_, .bool r118.2.2.full_, .int .i64 r118.2.2.sums_] 60, pt b23 #[.int .i64 r112.Size, .slice r112_p1 r112.Picks.length r112_c2, .slice r112_p4 r112.Leaf.length r112_c5, .slice r112_p7 r112.Nodes.length r112_c8] 25, pt b21 #[.int .i64 r110.Size, .slice r110_p1 r110.Picks.length r110_c2, .slice r110_p4 r110.Leaf.length r110_c5, .slice r110_p7 r110.Nodes.length r110_c8] 25, mpo kStr kStr r118_b1 r118.2.2.table_, mpo kStr kStr r118_b3 r118.2.2.notes_] ++ F0))
            try dsimp only at hF
            unfold F.law30_BatchApart.l14 at hF
            obtain ⟨v139, hF, hK139⟩ := thru_some hF
            refine cw_mid (fun a w => .inl () = v139 ∧ Fr 141 [(4, .pointer (some ⟨b21, 0, none⟩)), (5, .pointer (some ⟨b23, 0, none⟩)), (7, .pointer (some ⟨r35_b2, 0, none⟩)), (13, .bool x137), (14, .int .i64 x138)] a ∧ SAT w0 ([imm I, pt r35_b2 #[.map (some r118_b1), .map (some r118_b3), .string r118.2.2.twins_.e0, .string r118.2.2.twins_.e1, .bool r118.2.2.found_, .bool r118.2.2.full_, .int .i64 r118.2.2.sums_] 60, pt b23 #[.int .i64 r112.Size, .slice r112_p1 r112.Picks.length r112_c2, .slice r112_p4 r112.Leaf.length r112_c5, .slice r112_p7 r112.Nodes.length r112_c8] 25, pt b21 #[.int .i64 r110.Size, .slice r110_p1 r110.Picks.length r110_c2, .slice r110_p4 r110.Leaf.length r110_c5, .slice r110_p7 r110.Nodes.length r110_c8] 25, mpo kStr kStr r118_b1 r118.2.2.table_, mpo kStr kStr r118_b3 r118.2.2.notes_] ++ F0) w) ?_ ?_
            · refine cw_seq ?_
              refine cw_region ?_
              refine ow_vals 2 (j := 2) [4, 5, 7, 13, 14, 67, 68] [(4, .pointer (some ⟨b21, 0, none⟩)), (5, .pointer (some ⟨b23, 0, none⟩)), (7, .pointer (some ⟨r35_b2, 0, none⟩)), (13, .bool x137), (14, .int .i64 x138), (67, .int .i64 x138), (68, .pointer (some ⟨b21, 1, none⟩))] rfl (by kernel_rfl) ?_
              refine ow_pw rfl (pw_quiet (v := .slice r110_p1 r110.Picks.length r110_c2) rfl rfl rfl rfl (q_load 3 rfl rfl rfl (by kernel_rfl)) (nw_ow ?_))
              refine ow_vals 3 (j := 6) [4, 5, 7, 13, 14, 72] [(4, .pointer (some ⟨b21, 0, none⟩)), (5, .pointer (some ⟨b23, 0, none⟩)), (7, .pointer (some ⟨r35_b2, 0, none⟩)), (13, .bool x137), (14, .int .i64 x138), (72, .bool (decide (x138 < (r110.Picks.length : Int))))] rfl (by kernel_rfl) ?_
              rcases if_some hF with ⟨h140, hF⟩ | ⟨h140, hF⟩
              · refine ow_slots (L' := [(4, .pointer (some ⟨b21, 0, none⟩)), (5, .pointer (some ⟨b23, 0, none⟩)), (7, .pointer (some ⟨r35_b2, 0, none⟩)), (13, .bool x137), (14, .int .i64 x138), (72, .bool true)]) (by rw [h140]) ?_
                refine ow_vals 2 (j := 8) [4, 5, 7, 13, 14, 72, 73, 74] [(4, .pointer (some ⟨b21, 0, none⟩)), (5, .pointer (some ⟨b23, 0, none⟩)), (7, .pointer (some ⟨r35_b2, 0, none⟩)), (13, .bool x137), (14, .int .i64 x138), (72, .bool true), (73, .int .i64 x138), (74, .pointer (some ⟨b21, 2, none⟩))] rfl (by kernel_rfl) ?_
                refine ow_pw rfl (pw_quiet (v := .slice r110_p4 r110.Leaf.length r110_c5) rfl rfl rfl rfl (q_load 3 rfl rfl rfl (by kernel_rfl)) (nw_ow ?_))
                refine ow_vals 3 (j := 12) [4, 5, 7, 13, 14, 78] [(4, .pointer (some ⟨b21, 0, none⟩)), (5, .pointer (some ⟨b23, 0, none⟩)), (7, .pointer (some ⟨r35_b2, 0, none⟩)), (13, .bool x137), (14, .int .i64 x138), (78, .bool (decide (x138 < (r110.Leaf.length : Int))))] rfl (by kernel_rfl) ?_
                refine ow_end rfl ?_
                refine ew_then ?_
                rcases if_some hF with ⟨h141, hF⟩ | ⟨h141, hF⟩
                · refine cw_cond_t rfl rfl h141 ?_
                  refine cw_skip ?_
                  have hR := Option.some.inj hF
                  exact fun a w hf hs => ⟨hR, hf.keep [4, 5, 7, 13, 14], sat_to [0, 0, 0, 0, 0, 0] 0 rfl hs⟩
                · refine cw_cond_f rfl rfl h141 ?_
                  refine cw_exit ?_
                  refine ew_then_exit ?_
                  refine ew_then_exit ?_
                  refine ew_blk_exit ?_
                  have hR := Option.some.inj hF
                  subst hR
                  have hR := hK139
                  try dsimp only [Thru] at hR
                  subst hR
                  have hR := hL136
                  try dsimp only at hR
                  exact fun a w hf hs => ⟨x137, hR, hf.keep [7, 13], sat_to [0, 0, 0, 0, 0, 0] 0 rfl hs⟩
              · refine ow_slots (L' := [(4, .pointer (some ⟨b21, 0, none⟩)), (5, .pointer (some ⟨b23, 0, none⟩)), (7, .pointer (some ⟨r35_b2, 0, none⟩)), (13, .bool x137), (14, .int .i64 x138), (72, .bool false)]) (by rw [h140]) ?_
                refine ow_vals 6 (j := 12) [4, 5, 7, 13, 14, 78] [(4, .pointer (some ⟨b21, 0, none⟩)), (5, .pointer (some ⟨b23, 0, none⟩)), (7, .pointer (some ⟨r35_b2, 0, none⟩)), (13, .bool x137), (14, .int .i64 x138), (78, .bool false)] rfl (by kernel_rfl) ?_
                refine ow_end rfl ?_
                refine ew_then ?_
                refine cw_cond_f rfl rfl rfl ?_
                refine cw_exit ?_
                refine ew_then_exit ?_
                refine ew_then_exit ?_
                refine ew_blk_exit ?_
                have hR := Option.some.inj hF
                subst hR
                have hR := hK139
                try dsimp only [Thru] at hR
                subst hR
                have hR := hL136
                try dsimp only at hR
                exact fun a w hf hs => ⟨x137, hR, hf.keep [7, 13], sat_to [0, 0, 0, 0, 0, 0] 0 rfl hs⟩
            · rintro a w ⟨hv, hf, hs⟩
              subst hv
              replace hF := hK139
              clear hK139
              try dsimp only [Thru] at hF
              revert a w
              show CW _ _ _ 141 [(4, .pointer (some ⟨b21, 0, none⟩)), (5, .pointer (some ⟨b23, 0, none⟩)), (7, .pointer (some ⟨r35_b2, 0, none⟩)), (13, .bool x137), (14, .int .i64 x138)] (SAT w0 ([imm I, pt r35_b2 #[.map (some r118_b1), .map (some r118_b3), .string r118.2.2.twins_.e0, .string r118.2.2.twins_.e1, .bool r118.2.2.found_, .bool r118.2.2.full_, .int .i64 r118.2.2.sums_] 60, pt b23 #[.int .i64 r112.Size, .slice r112_p1 r112.Picks.length r112_c2, .slice r112_p4 r112.Leaf.length r112_c5, .slice r112_p7 r112.Nodes.length r112_c8] 25, pt b21 #[.int .i64 r110.Size, .slice r110_p1 r110.Picks.length r110_c2, .slice r110_p4 r110.Leaf.length r110_c5, .slice r110_p7 r110.Nodes.length r110_c8] 25, mpo kStr kStr r118_b1 r118.2.2.table_, mpo kStr kStr r118_b3 r118.2.2.notes_] ++ F0))
              unfold F.law30_BatchApart.r10 at hF
              obtain ⟨v142, hF, hK142⟩ := bind_some hF
              refine cw_mid (fun a w => ∃ (x167 : Bool), x167 = v142 ∧ Fr 141 [(4, .pointer (some ⟨b21, 0, none⟩)), (5, .pointer (some ⟨b23, 0, none⟩)), (7, .pointer (some ⟨r35_b2, 0, none⟩)), (13, .bool x167), (14, .int .i64 x138)] a ∧ SAT w0 ([imm I, pt r35_b2 #[.map (some r118_b1), .map (some r118_b3), .string r118.2.2.twins_.e0, .string r118.2.2.twins_.e1, .bool r118.2.2.found_, .bool r118.2.2.full_, .int .i64 r118.2.2.sums_] 60, pt b23 #[.int .i64 r112.Size, .slice r112_p1 r112.Picks.length r112_c2, .slice r112_p4 r112.Leaf.length r112_c5, .slice r112_p7 r112.Nodes.length r112_c8] 25, pt b21 #[.int .i64 r110.Size, .slice r110_p1 r110.Picks.length r110_c2, .slice r110_p4 r110.Leaf.length r110_c5, .slice r110_p7 r110.Nodes.length r110_c8] 25, mpo kStr kStr r118_b1 r118.2.2.table_, mpo kStr kStr r118_b3 r118.2.2.notes_] ++ F0) w) ?_ ?_
              · refine cw_block ?_
                refine cw_seq ?_
                refine cw_region ?_
                refine ow_vals 1 (j := 1) [4, 5, 7, 13, 14, 15] [(4, .pointer (some ⟨b21, 0, none⟩)), (5, .pointer (some ⟨b23, 0, none⟩)), (7, .pointer (some ⟨r35_b2, 0, none⟩)), (13, .bool x137), (14, .int .i64 x138), (15, .int .i64 0)] rfl (by kernel_rfl) ?_
                refine ow_end rfl ?_
                refine ew_then ?_
                refine cw_block ?_
                refine fun a w hf hs => wp_rounds (fun k a w => ∃ (x144 : Bool), ∃ (x145 : Int), iter (fun x => F.law30_BatchApart.l12 r110 r112 x138 x.1 x.2) k (x144, x145) = some v142 ∧ Fr 141 [(4, .pointer (some ⟨b21, 0, none⟩)), (5, .pointer (some ⟨b23, 0, none⟩)), (7, .pointer (some ⟨r35_b2, 0, none⟩)), (13, .bool x144), (14, .int .i64 x138), (15, .int .i64 x145)] a ∧ SAT w0 ([imm I, pt r35_b2 #[.map (some r118_b1), .map (some r118_b3), .string r118.2.2.twins_.e0, .string r118.2.2.twins_.e1, .bool r118.2.2.found_, .bool r118.2.2.full_, .int .i64 r118.2.2.sums_] 60, pt b23 #[.int .i64 r112.Size, .slice r112_p1 r112.Picks.length r112_c2, .slice r112_p4 r112.Leaf.length r112_c5, .slice r112_p7 r112.Nodes.length r112_c8] 25, pt b21 #[.int .i64 r110.Size, .slice r110_p1 r110.Picks.length r110_c2, .slice r110_p4 r110.Leaf.length r110_c5, .slice r110_p7 r110.Nodes.length r110_c8] 25, mpo kStr kStr r118_b1 r118.2.2.table_, mpo kStr kStr r118_b3 r118.2.2.notes_] ++ F0) w) ?_ FUEL a w ⟨x137, 0, hF, hf.keep [4, 5, 7, 13, 14, 15], sat_to [0, 0, 0, 0, 0, 0] 0 rfl hs⟩
                clear hf hs
                clear a w hF
                rintro k a w ⟨x144, x145, hF2, hf, hs⟩
                obtain ⟨k, r143, rfl, hF, hL143⟩ := iter_some hF2
                clear hF2
                revert a w
                show CW _ _ _ 141 [(4, .pointer (some ⟨b21, 0, none⟩)), (5, .pointer (some ⟨b23, 0, none⟩)), (7, .pointer (some ⟨r35_b2, 0, none⟩)), (13, .bool x144), (14, .int .i64 x138), (15, .int .i64 x145)] (SAT w0 ([imm I, pt r35_b2 #[.map (some r118_b1), .map (some r118_b3), .string r118.2.2.twins_.e0, .string r118.2.2.twins_.e1, .bool r118.2.2.found_, .bool r118.2.2.full_, .int .i64 r118.2.2.sums_] 60, pt b23 #[.int .i64 r112.Size, .slice r112_p1 r112.Picks.length r112_c2, .slice r112_p4 r112.Leaf.length r112_c5, .slice r112_p7 r112.Nodes.length r112_c8] 25, pt b21 #[.int .i64 r110.Size, .slice r110_p1 r110.Picks.length r110_c2, .slice r110_p4 r110.Leaf.length r110_c5, .slice r110_p7 r110.Nodes.length r110_c8] 25, mpo kStr kStr r118_b1 r118.2.2.table_, mpo kStr kStr r118_b3 r118.2.2.notes_] ++ F0))
                try dsimp only at hF
                unfold F.law30_BatchApart.l12 at hF
                obtain ⟨v146, hF, hK146⟩ := thru_some hF
                refine cw_mid (fun a w => .inl () = v146 ∧ Fr 141 [(4, .pointer (some ⟨b21, 0, none⟩)), (5, .pointer (some ⟨b23, 0, none⟩)), (7, .pointer (some ⟨r35_b2, 0, none⟩)), (13, .bool x144), (14, .int .i64 x138), (15, .int .i64 x145)] a ∧ SAT w0 ([imm I, pt r35_b2 #[.map (some r118_b1), .map (some r118_b3), .string r118.2.2.twins_.e0, .string r118.2.2.twins_.e1, .bool r118.2.2.found_, .bool r118.2.2.full_, .int .i64 r118.2.2.sums_] 60, pt b23 #[.int .i64 r112.Size, .slice r112_p1 r112.Picks.length r112_c2, .slice r112_p4 r112.Leaf.length r112_c5, .slice r112_p7 r112.Nodes.length r112_c8] 25, pt b21 #[.int .i64 r110.Size, .slice r110_p1 r110.Picks.length r110_c2, .slice r110_p4 r110.Leaf.length r110_c5, .slice r110_p7 r110.Nodes.length r110_c8] 25, mpo kStr kStr r118_b1 r118.2.2.table_, mpo kStr kStr r118_b3 r118.2.2.notes_] ++ F0) w) ?_ ?_
                · refine cw_seq ?_
                  refine cw_region ?_
                  refine ow_vals 2 (j := 2) [4, 5, 7, 13, 14, 15, 81, 82] [(4, .pointer (some ⟨b21, 0, none⟩)), (5, .pointer (some ⟨b23, 0, none⟩)), (7, .pointer (some ⟨r35_b2, 0, none⟩)), (13, .bool x144), (14, .int .i64 x138), (15, .int .i64 x145), (81, .int .i64 x145), (82, .pointer (some ⟨b23, 1, none⟩))] rfl (by kernel_rfl) ?_
                  refine ow_pw rfl (pw_quiet (v := .slice r112_p1 r112.Picks.length r112_c2) rfl rfl rfl rfl (q_load 2 rfl rfl rfl (by kernel_rfl)) (nw_ow ?_))
                  refine ow_vals 3 (j := 6) [4, 5, 7, 13, 14, 15, 86] [(4, .pointer (some ⟨b21, 0, none⟩)), (5, .pointer (some ⟨b23, 0, none⟩)), (7, .pointer (some ⟨r35_b2, 0, none⟩)), (13, .bool x144), (14, .int .i64 x138), (15, .int .i64 x145), (86, .bool (decide (x145 < (r112.Picks.length : Int))))] rfl (by kernel_rfl) ?_
                  rcases if_some hF with ⟨h147, hF⟩ | ⟨h147, hF⟩
                  · refine ow_slots (L' := [(4, .pointer (some ⟨b21, 0, none⟩)), (5, .pointer (some ⟨b23, 0, none⟩)), (7, .pointer (some ⟨r35_b2, 0, none⟩)), (13, .bool x144), (14, .int .i64 x138), (15, .int .i64 x145), (86, .bool true)]) (by rw [h147]) ?_
                    refine ow_vals 2 (j := 8) [4, 5, 7, 13, 14, 15, 86, 87, 88] [(4, .pointer (some ⟨b21, 0, none⟩)), (5, .pointer (some ⟨b23, 0, none⟩)), (7, .pointer (some ⟨r35_b2, 0, none⟩)), (13, .bool x144), (14, .int .i64 x138), (15, .int .i64 x145), (86, .bool true), (87, .int .i64 x145), (88, .pointer (some ⟨b23, 2, none⟩))] rfl (by kernel_rfl) ?_
                    refine ow_pw rfl (pw_quiet (v := .slice r112_p4 r112.Leaf.length r112_c5) rfl rfl rfl rfl (q_load 2 rfl rfl rfl (by kernel_rfl)) (nw_ow ?_))
                    refine ow_vals 3 (j := 12) [4, 5, 7, 13, 14, 15, 92] [(4, .pointer (some ⟨b21, 0, none⟩)), (5, .pointer (some ⟨b23, 0, none⟩)), (7, .pointer (some ⟨r35_b2, 0, none⟩)), (13, .bool x144), (14, .int .i64 x138), (15, .int .i64 x145), (92, .bool (decide (x145 < (r112.Leaf.length : Int))))] rfl (by kernel_rfl) ?_
                    refine ow_end rfl ?_
                    refine ew_then ?_
                    rcases if_some hF with ⟨h148, hF⟩ | ⟨h148, hF⟩
                    · refine cw_cond_t rfl rfl h148 ?_
                      refine cw_skip ?_
                      have hR := Option.some.inj hF
                      exact fun a w hf hs => ⟨hR, hf.keep [4, 5, 7, 13, 14, 15], sat_to [0, 0, 0, 0, 0, 0] 0 rfl hs⟩
                    · refine cw_cond_f rfl rfl h148 ?_
                      refine cw_exit ?_
                      refine ew_then_exit ?_
                      refine ew_then_exit ?_
                      refine ew_blk_exit ?_
                      refine ew_blk ?_
                      have hR := Option.some.inj hF
                      subst hR
                      have hR := hK146
                      try dsimp only [Thru] at hR
                      subst hR
                      have hR := hL143
                      try dsimp only at hR
                      exact fun a w hf hs => ⟨x144, hR, hf.keep [4, 5, 7, 13, 14], sat_to [0, 0, 0, 0, 0, 0] 0 rfl hs⟩
                  · refine ow_slots (L' := [(4, .pointer (some ⟨b21, 0, none⟩)), (5, .pointer (some ⟨b23, 0, none⟩)), (7, .pointer (some ⟨r35_b2, 0, none⟩)), (13, .bool x144), (14, .int .i64 x138), (15, .int .i64 x145), (86, .bool false)]) (by rw [h147]) ?_
                    refine ow_vals 6 (j := 12) [4, 5, 7, 13, 14, 15, 92] [(4, .pointer (some ⟨b21, 0, none⟩)), (5, .pointer (some ⟨b23, 0, none⟩)), (7, .pointer (some ⟨r35_b2, 0, none⟩)), (13, .bool x144), (14, .int .i64 x138), (15, .int .i64 x145), (92, .bool false)] rfl (by kernel_rfl) ?_
                    refine ow_end rfl ?_
                    refine ew_then ?_
                    refine cw_cond_f rfl rfl rfl ?_
                    refine cw_exit ?_
                    refine ew_then_exit ?_
                    refine ew_then_exit ?_
                    refine ew_blk_exit ?_
                    refine ew_blk ?_
                    have hR := Option.some.inj hF
                    subst hR
                    have hR := hK146
                    try dsimp only [Thru] at hR
                    subst hR
                    have hR := hL143
                    try dsimp only at hR
                    exact fun a w hf hs => ⟨x144, hR, hf.keep [4, 5, 7, 13, 14], sat_to [0, 0, 0, 0, 0, 0] 0 rfl hs⟩
                · rintro a w ⟨hv, hf, hs⟩
                  subst hv
                  replace hF := hK146
                  clear hK146
                  try dsimp only [Thru] at hF
                  revert a w
                  show CW _ _ _ 141 [(4, .pointer (some ⟨b21, 0, none⟩)), (5, .pointer (some ⟨b23, 0, none⟩)), (7, .pointer (some ⟨r35_b2, 0, none⟩)), (13, .bool x144), (14, .int .i64 x138), (15, .int .i64 x145)] (SAT w0 ([imm I, pt r35_b2 #[.map (some r118_b1), .map (some r118_b3), .string r118.2.2.twins_.e0, .string r118.2.2.twins_.e1, .bool r118.2.2.found_, .bool r118.2.2.full_, .int .i64 r118.2.2.sums_] 60, pt b23 #[.int .i64 r112.Size, .slice r112_p1 r112.Picks.length r112_c2, .slice r112_p4 r112.Leaf.length r112_c5, .slice r112_p7 r112.Nodes.length r112_c8] 25, pt b21 #[.int .i64 r110.Size, .slice r110_p1 r110.Picks.length r110_c2, .slice r110_p4 r110.Leaf.length r110_c5, .slice r110_p7 r110.Nodes.length r110_c8] 25, mpo kStr kStr r118_b1 r118.2.2.table_, mpo kStr kStr r118_b3 r118.2.2.notes_] ++ F0))
                  unfold F.law30_BatchApart.r11 at hF
                  refine cw_seq ?_
                  refine cw_block ?_
                  refine cw_open 28 (SAT w0 ([imm I, pt r35_b2 #[.map (some r118_b1), .map (some r118_b3), .string r118.2.2.twins_.e0, .string r118.2.2.twins_.e1, .bool r118.2.2.found_, .bool r118.2.2.full_, .int .i64 r118.2.2.sums_] 60, pt b23 #[.int .i64 r112.Size, .slice r112_p1 r112.Picks.length r112_c2, .slice r112_p4 r112.Leaf.length r112_c5, .slice r112_p7 r112.Nodes.length r112_c8] 25, pt b21 #[.int .i64 r110.Size, .slice r110_p1 r110.Picks.length r110_c2, .slice r110_p4 r110.Leaf.length r110_c5, .slice r110_p7 r110.Nodes.length r110_c8] 25, mpo kStr kStr r118_b1 r118.2.2.table_, mpo kStr kStr r118_b3 r118.2.2.notes_])) (by kernel_rfl) (f := 28) rfl (fun w hs => sat_drew hs) ?_
                  refine aw_vals [0, 1] (f' := 26) (m' := 3) [4, 5, 7, 13, 14, 15, 96] [(4, .pointer (some ⟨b21, 0, none⟩)), (5, .pointer (some ⟨b23, 0, none⟩)), (7, .pointer (some ⟨r35_b2, 0, none⟩)), (13, .bool x144), (14, .int .i64 x138), (15, .int .i64 x145), (96, .bool x144)] (fun _ _ _ _ _ h => calm_fin (P := Try.prog) (fn := Try.f5) _ _ _ _ _ h) (fun w hs => sat_pulls [0, 0, 0, 0, 0, 0] (G := [] ++ F0) rfl hs) rfl (by kernel_rfl) ?_
                  rcases if_some hF with ⟨h149, hF⟩ | ⟨h149, hF⟩
                  · refine aw_slots (L' := [(4, .pointer (some ⟨b21, 0, none⟩)), (5, .pointer (some ⟨b23, 0, none⟩)), (7, .pointer (some ⟨r35_b2, 0, none⟩)), (13, .bool true), (14, .int .i64 x138), (15, .int .i64 x145), (96, .bool true)]) (by rw [h149]) ?_
                    refine aw_vals [2, 3, 4, 5, 6, 7, 8, 9, 10, 11, 12, 13, 14, 15, 16, 17, 18, 19, 20, 21, 22, 23, 24, 25, 26, 27] (f' := 0) (m' := 268435455) [4, 5, 7, 13, 14, 15] [(4, .pointer (some ⟨b21, 0, none⟩)), (5, .pointer (some ⟨b23, 0, none⟩)), (7, .pointer (some ⟨r35_b2, 0, none⟩)), (13, .bool true), (14, .int .i64 x138), (15, .int .i64 x145)] (fun _ _ _ _ _ h => calm_fin (P := Try.prog) (fn := Try.f5) _ _ _ _ _ h) (fun w hs => sat_pulls [0, 0, 0, 0, 0, 0] (G := [] ++ F0) rfl hs) rfl (by kernel_rfl) ?_
                    refine aw_keep [4, 5, 7, 13, 14, 15] (L' := [(4, .pointer (some ⟨b21, 0, none⟩)), (5, .pointer (some ⟨b23, 0, none⟩)), (7, .pointer (some ⟨r35_b2, 0, none⟩)), (13, .bool true), (14, .int .i64 x138), (15, .int .i64 x145)]) rfl ?_
                    refine aw_end (by kernel_rfl) ?_
                    refine ew_blk ?_
                    refine ew_then ?_
                    refine cw_region ?_
                    refine ow_vals 3 (j := 3) [4, 5, 7, 13, 14, 15] [(4, .pointer (some ⟨b21, 0, none⟩)), (5, .pointer (some ⟨b23, 0, none⟩)), (7, .pointer (some ⟨r35_b2, 0, none⟩)), (13, .bool true), (14, .int .i64 x138), (15, .int .i64 (IntKind.i64.wrap (x145 + 1)))] rfl (by kernel_rfl) ?_
                    refine ow_end rfl ?_
                    have hR := Option.some.inj hF
                    subst hR
                    have hR := hL143
                    try dsimp only at hR
                    exact fun a w hf hs => ⟨k, Nat.lt_succ_self k, true, IntKind.i64.wrap (x145 + 1), hR, hf.keep [4, 5, 7, 13, 14, 15], sat_to [0, 0, 0, 0, 0, 0] 0 rfl hs⟩
                  · refine aw_slots (L' := [(4, .pointer (some ⟨b21, 0, none⟩)), (5, .pointer (some ⟨b23, 0, none⟩)), (7, .pointer (some ⟨r35_b2, 0, none⟩)), (13, .bool false), (14, .int .i64 x138), (15, .int .i64 x145), (96, .bool false)]) (by rw [h149]) ?_
                    refine aw_vals [2, 4, 7, 9] (f' := 22) (m' := 663) [4, 5, 7, 13, 14, 15, 96, 97, 99, 102, 104] [(4, .pointer (some ⟨b21, 0, none⟩)), (5, .pointer (some ⟨b23, 0, none⟩)), (7, .pointer (some ⟨r35_b2, 0, none⟩)), (13, .bool false), (14, .int .i64 x138), (15, .int .i64 x145), (96, .bool false), (97, .pointer (some ⟨b21, 1, none⟩)), (99, .int .i64 x138), (102, .pointer (some ⟨b23, 1, none⟩)), (104, .int .i64 x145)] (fun _ _ _ _ _ h => calm_fin (P := Try.prog) (fn := Try.f5) _ _ _ _ _ h) (fun w hs => sat_pulls [0, 0, 0, 0, 0, 0] (G := [] ++ F0) rfl hs) rfl (by kernel_rfl) ?_
                    refine aw_quiet 3 (m' := 671) (v := .slice r110_p1 r110.Picks.length r110_c2) 0 [] rfl rfl rfl rfl (by kernel_rfl) (by kernel_rfl) (by kernel_rfl) (fun _ _ _ _ _ h => calm_fin (P := Try.prog) (fn := Try.f5) _ _ _ _ _ h) (fun w hs => sat_pulls [0, 0, 0, 0, 0, 0] (G := [] ++ F0) rfl hs) (q_load 3 rfl rfl rfl (by kernel_rfl)) ?_
                    obtain ⟨y150, h151, hF⟩ := bind_some hF
                    refine aw_index_ro (E := 3) 5 (m' := 703) 1 r110_h3 rfl rfl rfl rfl rfl (by kernel_rfl) (by kernel_rfl) (fun _ _ _ _ _ h => calm_fin (P := Try.prog) (fn := Try.f5) _ _ _ _ _ h) (fun w hs => sat_pulls [0, 0, 0, 0, 0, 0] (G := [] ++ F0) rfl hs) (by kernel_rfl) rfl rfl rfl h151 fun q152 h153 => ?_
                    refine aw_quiet 6 (m' := 767) (v := .int .i64 y150) 0 [] rfl rfl rfl rfl (by kernel_rfl) (by kernel_rfl) (by kernel_rfl) (fun _ _ _ _ _ h => calm_fin (P := Try.prog) (fn := Try.f5) _ _ _ _ _ h) (fun w hs => sat_pulls [0, 0, 0, 0, 0, 0] (G := [] ++ F0) rfl hs) (q_load_el0 0 rfl h153 rfl rfl (by kernel_rfl)) ?_
                    refine aw_quiet 8 (m' := 1023) (v := .slice r112_p1 r112.Picks.length r112_c2) 0 [] rfl rfl rfl rfl (by kernel_rfl) (by kernel_rfl) (by kernel_rfl) (fun _ _ _ _ _ h => calm_fin (P := Try.prog) (fn := Try.f5) _ _ _ _ _ h) (fun w hs => sat_pulls [0, 0, 0, 0, 0, 0] (G := [] ++ F0) rfl hs) (q_load 2 rfl rfl rfl (by kernel_rfl)) ?_
                    obtain ⟨y154, h155, hF⟩ := bind_some hF
                    refine aw_index_ro (E := 3) 10 (m' := 2047) 1 r112_h3 rfl rfl rfl rfl rfl (by kernel_rfl) (by kernel_rfl) (fun _ _ _ _ _ h => calm_fin (P := Try.prog) (fn := Try.f5) _ _ _ _ _ h) (fun w hs => sat_pulls [0, 0, 0, 0, 0, 0] (G := [] ++ F0) rfl hs) (by kernel_rfl) rfl rfl rfl h155 fun q156 h157 => ?_
                    refine aw_quiet 11 (m' := 4095) (v := .int .i64 y154) 0 [] rfl rfl rfl rfl (by kernel_rfl) (by kernel_rfl) (by kernel_rfl) (fun _ _ _ _ _ h => calm_fin (P := Try.prog) (fn := Try.f5) _ _ _ _ _ h) (fun w hs => sat_pulls [0, 0, 0, 0, 0, 0] (G := [] ++ F0) rfl hs) (q_load_el0 0 rfl h157 rfl rfl (by kernel_rfl)) ?_
                    refine aw_vals [12, 13] (f' := 14) (m' := 16383) [4, 5, 7, 13, 14, 15, 96, 108] [(4, .pointer (some ⟨b21, 0, none⟩)), (5, .pointer (some ⟨b23, 0, none⟩)), (7, .pointer (some ⟨r35_b2, 0, none⟩)), (13, .bool false), (14, .int .i64 x138), (15, .int .i64 x145), (96, .bool false), (108, .bool (y150 == y154))] (fun _ _ _ _ _ h => calm_fin (P := Try.prog) (fn := Try.f5) _ _ _ _ _ h) (fun w hs => sat_pulls [0, 0, 0, 0, 0, 0] (G := [] ++ F0) rfl hs) rfl (by kernel_rfl) ?_
                    rcases if_some hF with ⟨h158, hF⟩ | ⟨h158, hF⟩
                    · refine aw_slots (L' := [(4, .pointer (some ⟨b21, 0, none⟩)), (5, .pointer (some ⟨b23, 0, none⟩)), (7, .pointer (some ⟨r35_b2, 0, none⟩)), (13, .bool false), (14, .int .i64 x138), (15, .int .i64 x145), (96, .bool false), (108, .bool true)]) (by rw [h158]) ?_
                      refine aw_vals [14, 16, 19, 21] (f' := 10) (m' := 2719743) [4, 5, 7, 13, 14, 15, 96, 108, 109, 111, 114, 116] [(4, .pointer (some ⟨b21, 0, none⟩)), (5, .pointer (some ⟨b23, 0, none⟩)), (7, .pointer (some ⟨r35_b2, 0, none⟩)), (13, .bool false), (14, .int .i64 x138), (15, .int .i64 x145), (96, .bool false), (108, .bool true), (109, .pointer (some ⟨b21, 2, none⟩)), (111, .int .i64 x138), (114, .pointer (some ⟨b23, 2, none⟩)), (116, .int .i64 x145)] (fun _ _ _ _ _ h => calm_fin (P := Try.prog) (fn := Try.f5) _ _ _ _ _ h) (fun w hs => sat_pulls [0, 0, 0, 0, 0, 0] (G := [] ++ F0) rfl hs) rfl (by kernel_rfl) ?_
                      refine aw_quiet 15 (m' := 2752511) (v := .slice r110_p4 r110.Leaf.length r110_c5) 0 [] rfl rfl rfl rfl (by kernel_rfl) (by kernel_rfl) (by kernel_rfl) (fun _ _ _ _ _ h => calm_fin (P := Try.prog) (fn := Try.f5) _ _ _ _ _ h) (fun w hs => sat_pulls [0, 0, 0, 0, 0, 0] (G := [] ++ F0) rfl hs) (q_load 3 rfl rfl rfl (by kernel_rfl)) ?_
                      obtain ⟨y159, h160, hF⟩ := bind_some hF
                      refine aw_index_ro (E := 9) 17 (m' := 2883583) 1 r110_h6 rfl rfl rfl rfl rfl (by kernel_rfl) (by kernel_rfl) (fun _ _ _ _ _ h => calm_fin (P := Try.prog) (fn := Try.f5) _ _ _ _ _ h) (fun w hs => sat_pulls [0, 0, 0, 0, 0, 0] (G := [] ++ F0) rfl hs) (by kernel_rfl) rfl rfl rfl h160 fun q161 h162 => ?_
                      refine aw_quiet 18 (m' := 3145727) (v := .string y159) 0 [] rfl rfl rfl rfl (by kernel_rfl) (by kernel_rfl) (by kernel_rfl) (fun _ _ _ _ _ h => calm_fin (P := Try.prog) (fn := Try.f5) _ _ _ _ _ h) (fun w hs => sat_pulls [0, 0, 0, 0, 0, 0] (G := [] ++ F0) rfl hs) (q_load_el0 0 rfl h162 rfl rfl (by kernel_rfl)) ?_
                      refine aw_quiet 20 (m' := 4194303) (v := .slice r112_p4 r112.Leaf.length r112_c5) 0 [] rfl rfl rfl rfl (by kernel_rfl) (by kernel_rfl) (by kernel_rfl) (fun _ _ _ _ _ h => calm_fin (P := Try.prog) (fn := Try.f5) _ _ _ _ _ h) (fun w hs => sat_pulls [0, 0, 0, 0, 0, 0] (G := [] ++ F0) rfl hs) (q_load 2 rfl rfl rfl (by kernel_rfl)) ?_
                      obtain ⟨y163, h164, hF⟩ := bind_some hF
                      refine aw_index_ro (E := 9) 22 (m' := 8388607) 1 r112_h6 rfl rfl rfl rfl rfl (by kernel_rfl) (by kernel_rfl) (fun _ _ _ _ _ h => calm_fin (P := Try.prog) (fn := Try.f5) _ _ _ _ _ h) (fun w hs => sat_pulls [0, 0, 0, 0, 0, 0] (G := [] ++ F0) rfl hs) (by kernel_rfl) rfl rfl rfl h164 fun q165 h166 => ?_
                      refine aw_quiet 23 (m' := 16777215) (v := .string y163) 0 [] rfl rfl rfl rfl (by kernel_rfl) (by kernel_rfl) (by kernel_rfl) (fun _ _ _ _ _ h => calm_fin (P := Try.prog) (fn := Try.f5) _ _ _ _ _ h) (fun w hs => sat_pulls [0, 0, 0, 0, 0, 0] (G := [] ++ F0) rfl hs) (q_load_el0 0 rfl h166 rfl rfl (by kernel_rfl)) ?_
                      refine aw_vals [24, 25, 26, 27] (f' := 0) (m' := 268435455) [4, 5, 7, 13, 14, 15] [(4, .pointer (some ⟨b21, 0, none⟩)), (5, .pointer (some ⟨b23, 0, none⟩)), (7, .pointer (some ⟨r35_b2, 0, none⟩)), (13, .bool (!(seqB y159 y163))), (14, .int .i64 x138), (15, .int .i64 x145)] (fun _ _ _ _ _ h => calm_fin (P := Try.prog) (fn := Try.f5) _ _ _ _ _ h) (fun w hs => sat_pulls [0, 0, 0, 0, 0, 0] (G := [] ++ F0) rfl hs) rfl (by kernel_rfl) ?_
                      refine aw_keep [4, 5, 7, 13, 14, 15] (L' := [(4, .pointer (some ⟨b21, 0, none⟩)), (5, .pointer (some ⟨b23, 0, none⟩)), (7, .pointer (some ⟨r35_b2, 0, none⟩)), (13, .bool (!(seqB y159 y163))), (14, .int .i64 x138), (15, .int .i64 x145)]) rfl ?_
                      refine aw_end (by kernel_rfl) ?_
                      refine ew_blk ?_
                      refine ew_then ?_
                      refine cw_region ?_
                      refine ow_vals 3 (j := 3) [4, 5, 7, 13, 14, 15] [(4, .pointer (some ⟨b21, 0, none⟩)), (5, .pointer (some ⟨b23, 0, none⟩)), (7, .pointer (some ⟨r35_b2, 0, none⟩)), (13, .bool (!(seqB y159 y163))), (14, .int .i64 x138), (15, .int .i64 (IntKind.i64.wrap (x145 + 1)))] rfl (by kernel_rfl) ?_
                      refine ow_end rfl ?_
                      have hR := Option.some.inj hF
                      subst hR
                      have hR := hL143
                      try dsimp only at hR
                      exact fun a w hf hs => ⟨k, Nat.lt_succ_self k, !(seqB y159 y163), IntKind.i64.wrap (x145 + 1), hR, hf.keep [4, 5, 7, 13, 14, 15], sat_to [0, 0, 0, 0, 0, 0] 0 rfl hs⟩
                    · refine aw_slots (L' := [(4, .pointer (some ⟨b21, 0, none⟩)), (5, .pointer (some ⟨b23, 0, none⟩)), (7, .pointer (some ⟨r35_b2, 0, none⟩)), (13, .bool false), (14, .int .i64 x138), (15, .int .i64 x145), (96, .bool false), (108, .bool false)]) (by rw [h158]) ?_
                      refine aw_vals [14, 15, 16, 17, 18, 19, 20, 21, 22, 23, 24, 25, 26, 27] (f' := 0) (m' := 268435455) [4, 5, 7, 13, 14, 15] [(4, .pointer (some ⟨b21, 0, none⟩)), (5, .pointer (some ⟨b23, 0, none⟩)), (7, .pointer (some ⟨r35_b2, 0, none⟩)), (13, .bool false), (14, .int .i64 x138), (15, .int .i64 x145)] (fun _ _ _ _ _ h => calm_fin (P := Try.prog) (fn := Try.f5) _ _ _ _ _ h) (fun w hs => sat_pulls [0, 0, 0, 0, 0, 0] (G := [] ++ F0) rfl hs) rfl (by kernel_rfl) ?_
                      refine aw_keep [4, 5, 7, 13, 14, 15] (L' := [(4, .pointer (some ⟨b21, 0, none⟩)), (5, .pointer (some ⟨b23, 0, none⟩)), (7, .pointer (some ⟨r35_b2, 0, none⟩)), (13, .bool false), (14, .int .i64 x138), (15, .int .i64 x145)]) rfl ?_
                      refine aw_end (by kernel_rfl) ?_
                      refine ew_blk ?_
                      refine ew_then ?_
                      refine cw_region ?_
                      refine ow_vals 3 (j := 3) [4, 5, 7, 13, 14, 15] [(4, .pointer (some ⟨b21, 0, none⟩)), (5, .pointer (some ⟨b23, 0, none⟩)), (7, .pointer (some ⟨r35_b2, 0, none⟩)), (13, .bool false), (14, .int .i64 x138), (15, .int .i64 (IntKind.i64.wrap (x145 + 1)))] rfl (by kernel_rfl) ?_
                      refine ow_end rfl ?_
                      have hR := Option.some.inj hF
                      subst hR
                      have hR := hL143
                      try dsimp only at hR
                      exact fun a w hf hs => ⟨k, Nat.lt_succ_self k, false, IntKind.i64.wrap (x145 + 1), hR, hf.keep [4, 5, 7, 13, 14, 15], sat_to [0, 0, 0, 0, 0, 0] 0 rfl hs⟩
              · rintro a w ⟨x167, hv, hf, hs⟩
                subst hv
                replace hF := hK142
                clear hK142
                try dsimp only at hF
                revert a w
                show CW _ _ _ 141 [(4, .pointer (some ⟨b21, 0, none⟩)), (5, .pointer (some ⟨b23, 0, none⟩)), (7, .pointer (some ⟨r35_b2, 0, none⟩)), (13, .bool x167), (14, .int .i64 x138)] (SAT w0 ([imm I, pt r35_b2 #[.map (some r118_b1), .map (some r118_b3), .string r118.2.2.twins_.e0, .string r118.2.2.twins_.e1, .bool r118.2.2.found_, .bool r118.2.2.full_, .int .i64 r118.2.2.sums_] 60, pt b23 #[.int .i64 r112.Size, .slice r112_p1 r112.Picks.length r112_c2, .slice r112_p4 r112.Leaf.length r112_c5, .slice r112_p7 r112.Nodes.length r112_c8] 25, pt b21 #[.int .i64 r110.Size, .slice r110_p1 r110.Picks.length r110_c2, .slice r110_p4 r110.Leaf.length r110_c5, .slice r110_p7 r110.Nodes.length r110_c8] 25, mpo kStr kStr r118_b1 r118.2.2.table_, mpo kStr kStr r118_b3 r118.2.2.notes_] ++ F0))
                unfold F.law30_BatchApart.r13 at hF
                refine cw_region ?_
                refine ow_vals 3 (j := 3) [4, 5, 7, 13, 14] [(4, .pointer (some ⟨b21, 0, none⟩)), (5, .pointer (some ⟨b23, 0, none⟩)), (7, .pointer (some ⟨r35_b2, 0, none⟩)), (13, .bool x167), (14, .int .i64 (IntKind.i64.wrap (x138 + 1)))] rfl (by kernel_rfl) ?_
                refine ow_end rfl ?_
                have hR := Option.some.inj hF
                subst hR
                have hR := hL136
                try dsimp only at hR
                exact fun a w hf hs => ⟨k, Nat.lt_succ_self k, x167, IntKind.i64.wrap (x138 + 1), hR, hf.keep [4, 5, 7, 13, 14], sat_to [0, 0, 0, 0, 0, 0] 0 rfl hs⟩
          · rintro a w ⟨x168, hv, hf, hs⟩
            subst hv
            replace hF := hK135
            clear hK135
            try dsimp only at hF
            revert a w
            show CW _ _ _ 141 [(7, .pointer (some ⟨r35_b2, 0, none⟩)), (13, .bool x168)] (SAT w0 ([imm I, pt r35_b2 #[.map (some r118_b1), .map (some r118_b3), .string r118.2.2.twins_.e0, .string r118.2.2.twins_.e1, .bool r118.2.2.found_, .bool r118.2.2.full_, .int .i64 r118.2.2.sums_] 60, pt b23 #[.int .i64 r112.Size, .slice r112_p1 r112.Picks.length r112_c2, .slice r112_p4 r112.Leaf.length r112_c5, .slice r112_p7 r112.Nodes.length r112_c8] 25, pt b21 #[.int .i64 r110.Size, .slice r110_p1 r110.Picks.length r110_c2, .slice r110_p4 r110.Leaf.length r110_c5, .slice r110_p7 r110.Nodes.length r110_c8] 25, mpo kStr kStr r118_b1 r118.2.2.table_, mpo kStr kStr r118_b3 r118.2.2.notes_] ++ F0))
            unfold F.law30_BatchApart.r15 at hF
            refine cw_seq ?_
            refine cw_region ?_
            refine ow_vals 1 (j := 1) [13, 123] [(13, .bool x168), (123, .pointer (some ⟨r35_b2, 0, none⟩))] rfl (by kernel_rfl) ?_
            obtain ⟨r169, h170, hF⟩ := bind_some hF
            refine ow_pw rfl (pw_call (F := [pt b23 #[.int .i64 r112.Size, .slice r112_p1 r112.Picks.length r112_c2, .slice r112_p4 r112.Leaf.length r112_c5, .slice r112_p7 r112.Nodes.length r112_c8] 25, pt b21 #[.int .i64 r110.Size, .slice r110_p1 r110.Picks.length r110_c2, .slice r110_p4 r110.Leaf.length r110_c5, .slice r110_p7 r110.Nodes.length r110_c8] 25] ++ F0) rfl rfl rfl rfl rfl rfl rfl (by kernel_rfl) (perm_of_pulls [0, 0, 2, 2] rfl) (c_mill_Mill_Twins _ r118.2.2 r118_b1 r118_b3 r35_b2 r169 h170) ?_)
            rintro _ _ ⟨rfl, rfl⟩
            refine nw_H (H' := [imm I, pt r35_b2 #[.map (some r118_b1), .map (some r118_b3), .string r118.2.2.twins_.e0, .string r118.2.2.twins_.e1, .bool r118.2.2.found_, .bool r118.2.2.full_, .int .i64 r118.2.2.sums_] 60, mpo kStr kStr r118_b1 r118.2.2.table_, mpo kStr kStr r118_b3 r118.2.2.notes_, pt b23 #[.int .i64 r112.Size, .slice r112_p1 r112.Picks.length r112_c2, .slice r112_p4 r112.Leaf.length r112_c5, .slice r112_p7 r112.Nodes.length r112_c8] 25, pt b21 #[.int .i64 r110.Size, .slice r110_p1 r110.Picks.length r110_c2, .slice r110_p4 r110.Leaf.length r110_c5, .slice r110_p7 r110.Nodes.length r110_c8] 25] ++ F0) rfl (nw_ow ?_)
            refine ow_vals 7 (j := 9) [13, 16, 17, 18] [(13, .bool x168), (16, .string r169.1), (17, .string r169.2.1), (18, .bool r169.2.2)] rfl (by kernel_rfl) ?_
            refine ow_end rfl ?_
            refine ew_then ?_
            refine cw_seq ?_
            refine cw_region ?_
            refine ow_vals 3 (j := 3) [16, 17, 18, 130] [(16, .string r169.1), (17, .string r169.2.1), (18, .bool r169.2.2), (130, .bool (!x168))] rfl (by kernel_rfl) ?_
            rcases if_some hF with ⟨h171, hF⟩ | ⟨h171, hF⟩
            · refine ow_slots (L' := [(16, .string r169.1), (17, .string r169.2.1), (18, .bool r169.2.2), (130, .bool true)]) (by rw [h171]) ?_
              refine ow_vals 8 (j := 11) [138] [(138, .bool true)] rfl (by kernel_rfl) ?_
              obtain ⟨r172, h173, hF⟩ := bind_some hF
              refine ow_pw rfl (pw_call (F := [pt r35_b2 #[.map (some r118_b1), .map (some r118_b3), .string r118.2.2.twins_.e0, .string r118.2.2.twins_.e1, .bool r118.2.2.found_, .bool r118.2.2.full_, .int .i64 r118.2.2.sums_] 60, mpo kStr kStr r118_b1 r118.2.2.table_, mpo kStr kStr r118_b3 r118.2.2.notes_, pt b23 #[.int .i64 r112.Size, .slice r112_p1 r112.Picks.length r112_c2, .slice r112_p4 r112.Leaf.length r112_c5, .slice r112_p7 r112.Nodes.length r112_c8] 25, pt b21 #[.int .i64 r110.Size, .slice r110_p1 r110.Picks.length r110_c2, .slice r110_p4 r110.Leaf.length r110_c5, .slice r110_p7 r110.Nodes.length r110_c8] 25] ++ F0) rfl rfl rfl rfl rfl rfl rfl (by kernel_rfl) (perm_of_pulls [0] rfl) (c_law30_awake _ r172 h173) ?_)
              rintro _ _ ⟨r172_J, rfl, rfl, r172_hJ⟩
              refine nw_H (H' := [imm r172_J, pt r35_b2 #[.map (some r118_b1), .map (some r118_b3), .string r118.2.2.twins_.e0, .string r118.2.2.twins_.e1, .bool r118.2.2.found_, .bool r118.2.2.full_, .int .i64 r118.2.2.sums_] 60, mpo kStr kStr r118_b1 r118.2.2.table_, mpo kStr kStr r118_b3 r118.2.2.notes_, pt b23 #[.int .i64 r112.Size, .slice r112_p1 r112.Picks.length r112_c2, .slice r112_p4 r112.Leaf.length r112_c5, .slice r112_p7 r112.Nodes.length r112_c8] 25, pt b21 #[.int .i64 r110.Size, .slice r110_p1 r110.Picks.length r110_c2, .slice r110_p4 r110.Leaf.length r110_c5, .slice r110_p7 r110.Nodes.length r110_c8] 25] ++ F0) rfl (nw_ow ?_)
              have r112_h3 := ro.sub r172_hJ r112_h3
              have r112_h6 := ro.sub r172_hJ r112_h6
              have r112_h9 := ro.sub r172_hJ r112_h9
              have r110_h3 := ro.sub r172_hJ r110_h3
              have r110_h6 := ro.sub r172_hJ r110_h6
              have r110_h9 := ro.sub r172_hJ r110_h9
              refine ow_vals 2 (j := 14) [6] [(6, .bool r172)] rfl (by kernel_rfl) ?_
              refine ow_end rfl ?_
              refine ew_then ?_
              refine cw_ret ?_
              have hR := Option.some.inj hF
              subst hR
              exact fin1 (H1 := [imm r172_J]) (fun w hs => sat_to [1, 1, 1, 1, 1, 0] 5 rfl hs) rfl (rr_tmp rfl) ⟨r172_J, rfl, rfl, r172_hJ⟩
            · refine ow_slots (L' := [(16, .string r169.1), (17, .string r169.2.1), (18, .bool r169.2.2), (130, .bool false)]) (by rw [h171]) ?_
              refine ow_vals 2 (j := 5) [16, 17, 130, 132] [(16, .string r169.1), (17, .string r169.2.1), (130, .bool false), (132, .bool r169.2.2)] rfl (by kernel_rfl) ?_
              rcases if_some hF with ⟨h174, hF⟩ | ⟨h174, hF⟩
              · refine ow_slots (L' := [(16, .string r169.1), (17, .string r169.2.1), (130, .bool false), (132, .bool true)]) (by rw [h174]) ?_
                refine ow_vals 6 (j := 11) [138] [(138, .bool (!(seqB r169.1 r169.2.1)))] rfl (by kernel_rfl) ?_
                rcases if_some hF with ⟨h175, hF⟩ | ⟨h175, hF⟩
                · refine ow_slots (L' := [(138, .bool true)]) (by rw [h175]) ?_
                  obtain ⟨r176, h177, hF⟩ := bind_some hF
                  refine ow_pw rfl (pw_call (F := [pt r35_b2 #[.map (some r118_b1), .map (some r118_b3), .string r118.2.2.twins_.e0, .string r118.2.2.twins_.e1, .bool r118.2.2.found_, .bool r118.2.2.full_, .int .i64 r118.2.2.sums_] 60, mpo kStr kStr r118_b1 r118.2.2.table_, mpo kStr kStr r118_b3 r118.2.2.notes_, pt b23 #[.int .i64 r112.Size, .slice r112_p1 r112.Picks.length r112_c2, .slice r112_p4 r112.Leaf.length r112_c5, .slice r112_p7 r112.Nodes.length r112_c8] 25, pt b21 #[.int .i64 r110.Size, .slice r110_p1 r110.Picks.length r110_c2, .slice r110_p4 r110.Leaf.length r110_c5, .slice r110_p7 r110.Nodes.length r110_c8] 25] ++ F0) rfl rfl rfl rfl rfl rfl rfl (by kernel_rfl) (perm_of_pulls [0] rfl) (c_law30_awake _ r176 h177) ?_)
                  rintro _ _ ⟨r176_J, rfl, rfl, r176_hJ⟩
                  refine nw_H (H' := [imm r176_J, pt r35_b2 #[.map (some r118_b1), .map (some r118_b3), .string r118.2.2.twins_.e0, .string r118.2.2.twins_.e1, .bool r118.2.2.found_, .bool r118.2.2.full_, .int .i64 r118.2.2.sums_] 60, mpo kStr kStr r118_b1 r118.2.2.table_, mpo kStr kStr r118_b3 r118.2.2.notes_, pt b23 #[.int .i64 r112.Size, .slice r112_p1 r112.Picks.length r112_c2, .slice r112_p4 r112.Leaf.length r112_c5, .slice r112_p7 r112.Nodes.length r112_c8] 25, pt b21 #[.int .i64 r110.Size, .slice r110_p1 r110.Picks.length r110_c2, .slice r110_p4 r110.Leaf.length r110_c5, .slice r110_p7 r110.Nodes.length r110_c8] 25] ++ F0) rfl (nw_ow ?_)
                  have r112_h3 := ro.sub r176_hJ r112_h3
                  have r112_h6 := ro.sub r176_hJ r112_h6
                  have r112_h9 := ro.sub r176_hJ r112_h9
                  have r110_h3 := ro.sub r176_hJ r110_h3
                  have r110_h6 := ro.sub r176_hJ r110_h6
                  have r110_h9 := ro.sub r176_hJ r110_h9
                  refine ow_vals 2 (j := 14) [6] [(6, .bool r176)] rfl (by kernel_rfl) ?_
                  refine ow_end rfl ?_
                  refine ew_then ?_
                  refine cw_ret ?_
                  have hR := Option.some.inj hF
                  subst hR
                  exact fin1 (H1 := [imm r176_J]) (fun w hs => sat_to [1, 1, 1, 1, 1, 0] 5 rfl hs) rfl (rr_tmp rfl) ⟨r176_J, rfl, rfl, r176_hJ⟩
                · refine ow_slots (L' := [(138, .bool false)]) (by rw [h175]) ?_
                  refine ow_vals 3 (j := 14) [6] [(6, .bool false)] rfl (by kernel_rfl) ?_
                  refine ow_end rfl ?_
                  refine ew_then ?_
                  refine cw_ret ?_
                  have hR := Option.some.inj hF
                  subst hR
                  exact fin1 (H1 := [imm I]) (fun w hs => sat_to [1, 1, 1, 1, 1, 0] 5 rfl hs) rfl (rr_tmp rfl) ⟨I, rfl, rfl, Hl.sub_refl _⟩
              · refine ow_slots (L' := [(16, .string r169.1), (17, .string r169.2.1), (130, .bool false), (132, .bool false)]) (by rw [h174]) ?_
                refine ow_vals 9 (j := 14) [6] [(6, .bool false)] rfl (by kernel_rfl) ?_
                refine ow_end rfl ?_
                refine ew_then ?_
                refine cw_ret ?_
                have hR := Option.some.inj hF
                subst hR
                exact fin1 (H1 := [imm I]) (fun w hs => sat_to [1, 1, 1, 1, 1, 0] 5 rfl hs) rfl (rr_tmp rfl) ⟨I, rfl, rfl, Hl.sub_refl _⟩

end Go.Proofs.Ytoamnhmdhficiaa
