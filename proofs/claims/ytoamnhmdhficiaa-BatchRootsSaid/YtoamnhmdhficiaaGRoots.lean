/- What the functions compute, and that the code computes it: printed by a program of this claim (wip/tools), for the group Roots. -/
import Derived.Test.YtoamnhmdhficiaaGBatch
namespace Go.Proofs.Ytoamnhmdhficiaa
set_option linter.all false
open Go Go.RowKit Go.Fw
set_option linter.unusedVariables false

structure law30_plain where
  leaf_ : List ByteArray
  nodes_ : List ByteArray

def F.law30_many : Nat → Int → Int → (List Int) → Option Int
  | 0, _, _, _ => none
  | k + 1, x0, x1, x2 => Option.bind (F.law30_some x2 x0 x1) (fun (r21 : Bool) => if !r21 then (some (1)) else (if x1 == 1 then (some (0)) else (Option.bind (F.law30_below x1) (fun (r25 : Int) => Option.bind ((F.law30_many k) x0 r25 x2) (fun (r27 : Int) => Option.bind ((F.law30_many k) (IntKind.i64.wrap (x0 + r25)) (IntKind.i64.wrap (x1 - r25)) x2) (fun (r29 : Int) => some ((IntKind.i64.wrap (r27 + r29)))))))))
set_option maxRecDepth 100000 in
set_option maxHeartbeats 4000000 in
theorem c_law30_many (k : Nat) : ∀ (I : Hl) (x0 : Int) (x1 : Int) (x2 : List Int) (p0 : Option Addr) (c0 : Nat) (res : Int) (hF : F.law30_many k x0 x1 x2 = some res) (hr0 : ro I (eInt .i64) p0 c0 x2), Tr Try.prog 14 [.int .i64 x0, .int .i64 x1, .slice p0 x2.length c0] [imm I] (fun r H' => r = .int .i64 res ∧ H' = [imm I]) := by
  induction k with
  | zero => intro I x0 x1 x2 p0 c0 res hF hr0; cases hF
  | succ k ih =>
    intro I x0 x1 x2 p0 c0 res hF hr0
    rw [F.law30_many] at hF
    refine tr_of_cw (fn := Try.f14) Try.func14 rfl (Nat.le_of_ble_eq_true rfl) 30 rfl fun F0 w0 => ?_
    refine cw_keep [0, 1, 2] (L' := [(0, .int .i64 x0), (1, .int .i64 x1), (2, .slice p0 x2.length c0)]) rfl ?_
    refine cw_state (S' := SAT w0 ([imm I] ++ F0)) (fun w hs => hs) ?_
    refine cw_seq ?_
    refine cw_region ?_
    refine ow_vals 1 (j := 1) [0, 1, 2] [(0, .int .i64 x0), (1, .int .i64 x1), (2, .slice p0 x2.length c0)] rfl (by kernel_rfl) ?_
    refine ow_end rfl ?_
    refine ew_then ?_
    refine cw_seq ?_
    refine cw_seq ?_
    refine cw_region ?_
    refine ow_vals 3 (j := 3) [0, 1, 2, 8, 9, 10] [(0, .int .i64 x0), (1, .int .i64 x1), (2, .slice p0 x2.length c0), (8, .slice p0 x2.length c0), (9, .int .i64 x0), (10, .int .i64 x1)] rfl (by kernel_rfl) ?_
    obtain ⟨r21, h22, hF⟩ := bind_some hF
    refine ow_pw rfl (pw_call (F := [] ++ F0) rfl rfl rfl rfl rfl rfl rfl (by kernel_rfl) (perm_of_pulls [0] rfl) (c_law30_some _ x2 x0 x1 p0 c0 r21 h22 hr0) ?_)
    rintro _ _ ⟨rfl, rfl⟩
    refine nw_H (H' := [imm I] ++ F0) rfl (nw_ow ?_)
    refine ow_vals 1 (j := 5) [0, 1, 2, 12] [(0, .int .i64 x0), (1, .int .i64 x1), (2, .slice p0 x2.length c0), (12, .bool (!r21))] rfl (by kernel_rfl) ?_
    refine ow_end rfl ?_
    refine ew_then ?_
    rcases if_some hF with ⟨h23, hF⟩ | ⟨h23, hF⟩
    · refine cw_cond_t rfl rfl h23 ?_
      refine cw_seq ?_
      refine cw_region ?_
      refine ow_vals 1 (j := 1) [6] [(6, .int .i64 1)] rfl (by kernel_rfl) ?_
      refine ow_end rfl ?_
      refine ew_then ?_
      refine cw_ret ?_
      refine ew_then_ret ?_
      have hR := Option.some.inj hF
      subst hR
      exact fin1 (H1 := [imm I]) (fun w hs => sat_to [0] 0 rfl hs) rfl (rr_tmp rfl) ⟨rfl, rfl⟩
    · refine cw_cond_f rfl rfl h23 ?_
      refine cw_skip ?_
      refine ew_then ?_
      refine cw_seq ?_
      refine cw_seq ?_
      refine cw_region ?_
      refine ow_vals 2 (j := 2) [0, 1, 2, 14] [(0, .int .i64 x0), (1, .int .i64 x1), (2, .slice p0 x2.length c0), (14, .bool (x1 == 1))] rfl (by kernel_rfl) ?_
      refine ow_end rfl ?_
      refine ew_then ?_
      rcases if_some hF with ⟨h24, hF⟩ | ⟨h24, hF⟩
      · refine cw_cond_t rfl rfl h24 ?_
        refine cw_seq ?_
        refine cw_region ?_
        refine ow_vals 1 (j := 1) [6] [(6, .int .i64 0)] rfl (by kernel_rfl) ?_
        refine ow_end rfl ?_
        refine ew_then ?_
        refine cw_ret ?_
        refine ew_then_ret ?_
        have hR := Option.some.inj hF
        subst hR
        exact fin1 (H1 := [imm I]) (fun w hs => sat_to [0] 0 rfl hs) rfl (rr_tmp rfl) ⟨rfl, rfl⟩
      · refine cw_cond_f rfl rfl h24 ?_
        refine cw_skip ?_
        refine ew_then ?_
        refine cw_seq ?_
        refine cw_region ?_
        refine ow_vals 1 (j := 1) [0, 1, 2, 15] [(0, .int .i64 x0), (1, .int .i64 x1), (2, .slice p0 x2.length c0), (15, .int .i64 x1)] rfl (by kernel_rfl) ?_
        obtain ⟨r25, h26, hF⟩ := bind_some hF
        refine ow_pw rfl (pw_call (F := [] ++ F0) rfl rfl rfl rfl rfl rfl rfl (by kernel_rfl) (perm_of_pulls [0] rfl) (c_law30_below _ x1 r25 h26) ?_)
        rintro _ _ ⟨rfl, rfl⟩
        refine nw_H (H' := [imm I] ++ F0) rfl (nw_ow ?_)
        refine ow_vals 1 (j := 3) [0, 1, 2, 7] [(0, .int .i64 x0), (1, .int .i64 x1), (2, .slice p0 x2.length c0), (7, .int .i64 r25)] rfl (by kernel_rfl) ?_
        refine ow_end rfl ?_
        refine ew_then ?_
        refine cw_seq ?_
        refine cw_region ?_
        refine ow_vals 3 (j := 3) [0, 1, 2, 7, 17, 18, 19] [(0, .int .i64 x0), (1, .int .i64 x1), (2, .slice p0 x2.length c0), (7, .int .i64 r25), (17, .int .i64 x0), (18, .int .i64 r25), (19, .slice p0 x2.length c0)] rfl (by kernel_rfl) ?_
        obtain ⟨r27, h28, hF⟩ := bind_some hF
        refine ow_pw rfl (pw_call (F := [] ++ F0) rfl rfl rfl rfl rfl rfl rfl (by kernel_rfl) (perm_of_pulls [0] rfl) (ih _ x0 r25 x2 p0 c0 r27 h28 hr0) ?_)
        rintro _ _ ⟨rfl, rfl⟩
        refine nw_H (H' := [imm I] ++ F0) rfl (nw_ow ?_)
        refine ow_vals 7 (j := 11) [20, 23, 26, 27] [(20, .int .i64 r27), (23, .int .i64 (IntKind.i64.wrap (x0 + r25))), (26, .int .i64 (IntKind.i64.wrap (x1 - r25))), (27, .slice p0 x2.length c0)] rfl (by kernel_rfl) ?_
        obtain ⟨r29, h30, hF⟩ := bind_some hF
        refine ow_pw rfl (pw_call (F := [] ++ F0) rfl rfl rfl rfl rfl rfl rfl (by kernel_rfl) (perm_of_pulls [0] rfl) (ih _ (IntKind.i64.wrap (x0 + r25)) (IntKind.i64.wrap (x1 - r25)) x2 p0 c0 r29 h30 hr0) ?_)
        rintro _ _ ⟨rfl, rfl⟩
        refine nw_H (H' := [imm I] ++ F0) rfl (nw_ow ?_)
        refine ow_vals 2 (j := 14) [6] [(6, .int .i64 (IntKind.i64.wrap (r27 + r29)))] rfl (by kernel_rfl) ?_
        refine ow_end rfl ?_
        refine ew_then ?_
        refine cw_ret ?_
        have hR := Option.some.inj hF
        subst hR
        exact fin1 (H1 := [imm I]) (fun w hs => sat_to [0] 0 rfl hs) rfl (rr_tmp rfl) ⟨rfl, rfl⟩


def F.law30_plain_build : Nat → Int → Int → (List Int) → law30_plain → mill_Mill → Option (ByteArray × law30_plain × mill_Mill)
  | 0, _, _, _, _, _ => none
  | k + 1, x2, x3, x4, m0, m1 => Option.bind (F.law30_some x4 x2 x3) (fun (r21 : Bool) => if !r21 then (Option.bind (at_ m0.nodes_ 0) (fun (y24 : ByteArray) => chk (0 ≤ (1 : Int) ∧ (1 : Int) ≤ (m0.nodes_.length : Int) ∧ (m0.nodes_.length : Int) ≤ (m0.nodes_.length : Int)) (some ((y24, (⟨m0.leaf_, (m0.nodes_.drop (1 : Int).toNat).take ((m0.nodes_.length : Int).toNat - (1 : Int).toNat)⟩ : law30_plain), m1))))) else (if x3 == 1 then (Option.bind (at_ m0.leaf_ 0) (fun (y33 : ByteArray) => chk (0 ≤ (1 : Int) ∧ (1 : Int) ≤ (m0.leaf_.length : Int) ∧ (m0.leaf_.length : Int) ≤ (m0.leaf_.length : Int)) (some ((y33, (⟨(m0.leaf_.drop (1 : Int).toNat).take ((m0.leaf_.length : Int).toNat - (1 : Int).toNat), m0.nodes_⟩ : law30_plain), m1))))) else (Option.bind (F.law30_below x3) (fun (r41 : Int) => Option.bind ((F.law30_plain_build k) x2 r41 x4 m0 m1) (fun (r43 : ByteArray × law30_plain × mill_Mill) => Option.bind ((F.law30_plain_build k) (IntKind.i64.wrap (x2 + r41)) (IntKind.i64.wrap (x3 - r41)) x4 r43.2.1 r43.2.2) (fun (r47 : ByteArray × law30_plain × mill_Mill) => Option.bind (F.pledge_Node r43.1 r47.1 r47.2.2) (fun (r51 : ByteArray × mill_Mill) => some ((r51.1, r47.2.1, r51.2)))))))))
set_option maxRecDepth 100000 in
set_option maxHeartbeats 4000000 in
theorem c_law30_plain_build (k : Nat) : ∀ (I : Hl) (x2 : Int) (x3 : Int) (x4 : List Int) (m0 : law30_plain) (m1 : mill_Mill) (p0 : Option Addr) (c0 : Nat) (p1 : Option Addr) (c1 : Nat) (p2 : Option Addr) (c2 : Nat) (b0 : Nat) (p3 : Nat) (p4 : Nat) (b1 : Nat) (res : ByteArray × law30_plain × mill_Mill) (hF : F.law30_plain_build k x2 x3 x4 m0 m1 = some res) (hr0 : ro I (eInt .i64) p0 c0 x4) (hr1 : ro I eStr p1 c1 m0.leaf_) (hr2 : ro I eStr p2 c2 m0.nodes_), Tr Try.prog 15 [.pointer (some ⟨b0, 0, none⟩), .pointer (some ⟨b1, 0, none⟩), .int .i64 x2, .int .i64 x3, .slice p0 x4.length c0] [imm I, pt b0 #[.slice p1 m0.leaf_.length c1, .slice p2 m0.nodes_.length c2] 37, pt b1 #[.map (some p3), .map (some p4), .string m1.twins_.e0, .string m1.twins_.e1, .bool m1.found_, .bool m1.full_, .int .i64 m1.sums_] 60, mpo kStr kStr p3 m1.table_, mpo kStr kStr p4 m1.notes_] (fun r H' => ∃ (p1 : Option Addr), ∃ (c2 : Nat), ∃ (p4 : Option Addr), ∃ (c5 : Nat), ∃ (b7 : Nat), ∃ (b9 : Nat), r = .string res.1 ∧ H' = [imm I, pt b0 #[.slice p1 res.2.1.leaf_.length c2, .slice p4 res.2.1.nodes_.length c5] 37, pt b1 #[.map (some b7), .map (some b9), .string res.2.2.twins_.e0, .string res.2.2.twins_.e1, .bool res.2.2.found_, .bool res.2.2.full_, .int .i64 res.2.2.sums_] 60, mpo kStr kStr b7 res.2.2.table_, mpo kStr kStr b9 res.2.2.notes_] ∧ ro I eStr p1 c2 res.2.1.leaf_ ∧ ro I eStr p4 c5 res.2.1.nodes_) := by
  induction k with
  | zero => intro I x2 x3 x4 m0 m1 p0 c0 p1 c1 p2 c2 b0 p3 p4 b1 res hF hr0 hr1 hr2; cases hF
  | succ k ih =>
    intro I x2 x3 x4 m0 m1 p0 c0 p1 c1 p2 c2 b0 p3 p4 b1 res hF hr0 hr1 hr2
    rw [F.law30_plain_build] at hF
    refine tr_of_cw (fn := Try.f15) Try.func15 rfl (Nat.le_of_ble_eq_true rfl) 75 rfl fun F0 w0 => ?_
    refine cw_keep [0, 1, 2, 3, 4] (L' := [(0, .pointer (some ⟨b0, 0, none⟩)), (1, .pointer (some ⟨b1, 0, none⟩)), (2, .int .i64 x2), (3, .int .i64 x3), (4, .slice p0 x4.length c0)]) rfl ?_
    refine cw_state (S' := SAT w0 ([imm I, pt b0 #[.slice p1 m0.leaf_.length c1, .slice p2 m0.nodes_.length c2] 37, pt b1 #[.map (some p3), .map (some p4), .string m1.twins_.e0, .string m1.twins_.e1, .bool m1.found_, .bool m1.full_, .int .i64 m1.sums_] 60, mpo kStr kStr p3 m1.table_, mpo kStr kStr p4 m1.notes_] ++ F0)) (fun w hs => hs) ?_
    refine cw_seq ?_
    refine cw_region ?_
    refine ow_vals 1 (j := 1) [0, 1, 2, 3, 4] [(0, .pointer (some ⟨b0, 0, none⟩)), (1, .pointer (some ⟨b1, 0, none⟩)), (2, .int .i64 x2), (3, .int .i64 x3), (4, .slice p0 x4.length c0)] rfl (by kernel_rfl) ?_
    refine ow_end rfl ?_
    refine ew_then ?_
    refine cw_seq ?_
    refine cw_seq ?_
    refine cw_region ?_
    refine ow_vals 3 (j := 3) [0, 1, 2, 3, 4, 16, 17, 18] [(0, .pointer (some ⟨b0, 0, none⟩)), (1, .pointer (some ⟨b1, 0, none⟩)), (2, .int .i64 x2), (3, .int .i64 x3), (4, .slice p0 x4.length c0), (16, .slice p0 x4.length c0), (17, .int .i64 x2), (18, .int .i64 x3)] rfl (by kernel_rfl) ?_
    obtain ⟨r21, h22, hF⟩ := bind_some hF
    refine ow_pw rfl (pw_call (F := [pt b0 #[.slice p1 m0.leaf_.length c1, .slice p2 m0.nodes_.length c2] 37, pt b1 #[.map (some p3), .map (some p4), .string m1.twins_.e0, .string m1.twins_.e1, .bool m1.found_, .bool m1.full_, .int .i64 m1.sums_] 60, mpo kStr kStr p3 m1.table_, mpo kStr kStr p4 m1.notes_] ++ F0) rfl rfl rfl rfl rfl rfl rfl (by kernel_rfl) (perm_of_pulls [0] rfl) (c_law30_some _ x4 x2 x3 p0 c0 r21 h22 hr0) ?_)
    rintro _ _ ⟨rfl, rfl⟩
    refine nw_H (H' := [imm I, pt b0 #[.slice p1 m0.leaf_.length c1, .slice p2 m0.nodes_.length c2] 37, pt b1 #[.map (some p3), .map (some p4), .string m1.twins_.e0, .string m1.twins_.e1, .bool m1.found_, .bool m1.full_, .int .i64 m1.sums_] 60, mpo kStr kStr p3 m1.table_, mpo kStr kStr p4 m1.notes_] ++ F0) rfl (nw_ow ?_)
    refine ow_vals 1 (j := 5) [0, 1, 2, 3, 4, 20] [(0, .pointer (some ⟨b0, 0, none⟩)), (1, .pointer (some ⟨b1, 0, none⟩)), (2, .int .i64 x2), (3, .int .i64 x3), (4, .slice p0 x4.length c0), (20, .bool (!r21))] rfl (by kernel_rfl) ?_
    refine ow_end rfl ?_
    refine ew_then ?_
    rcases if_some hF with ⟨h23, hF⟩ | ⟨h23, hF⟩
    · refine cw_cond_t rfl rfl h23 ?_
      refine cw_seq ?_
      refine cw_region ?_
      refine ow_vals 3 (j := 3) [0, 23] [(0, .pointer (some ⟨b0, 0, none⟩)), (23, .pointer (some ⟨b0, 1, none⟩))] rfl (by kernel_rfl) ?_
      refine ow_pw rfl (pw_quiet (v := .slice p2 m0.nodes_.length c2) rfl rfl rfl rfl (q_load 1 rfl rfl rfl (by kernel_rfl)) (nw_ow ?_))
      obtain ⟨y24, h25, hF⟩ := bind_some hF
      refine ow_pw rfl (pw_index_ro (E := 9) 1 hr2 rfl rfl rfl rfl rfl (by kernel_rfl) rfl rfl rfl h25 fun q26 h27 => nw_ow ?_)
      refine ow_pw rfl (pw_quiet (v := .string y24) rfl rfl rfl rfl (q_load_el0 0 rfl h27 rfl rfl (by kernel_rfl)) (nw_ow ?_))
      refine ow_vals 1 (j := 7) [0, 11] [(0, .pointer (some ⟨b0, 0, none⟩)), (11, .string y24)] rfl (by kernel_rfl) ?_
      refine ow_end rfl ?_
      refine ew_then ?_
      refine cw_seq ?_
      refine cw_region ?_
      refine ow_vals 4 (j := 4) [11, 27, 30] [(11, .string y24), (27, .pointer (some ⟨b0, 0, none⟩)), (30, .pointer (some ⟨b0, 1, none⟩))] rfl (by kernel_rfl) ?_
      refine ow_pw rfl (pw_quiet (v := .slice p2 m0.nodes_.length c2) rfl rfl rfl rfl (q_load 1 rfl rfl rfl (by kernel_rfl)) (nw_ow ?_))
      obtain ⟨h28, hF⟩ := chk_some hF
      refine ow_pw rfl (pw_slice_ro (E := 9) 1 hr2 rfl rfl rfl rfl rfl (by kernel_rfl) rfl rfl rfl rfl h28 fun p29 c30 h31 => nw_ow ?_)
      refine ow_vals 2 (j := 8) [11, 32, 34] [(11, .string y24), (32, .slice p29 ((m0.nodes_.drop (1 : Int).toNat).take ((m0.nodes_.length : Int).toNat - (1 : Int).toNat)).length c30), (34, .pointer (some ⟨b0, 1, none⟩))] rfl (by kernel_rfl) ?_
      refine ow_pw rfl (pw_store 1 #[.slice p1 m0.leaf_.length c1, .slice p29 ((m0.nodes_.drop (1 : Int).toNat).take ((m0.nodes_.length : Int).toNat - (1 : Int).toNat)).length c30] rfl rfl rfl rfl rfl rfl rfl (by kernel_rfl) (nw_H (H' := [imm I, pt b0 #[.slice p1 m0.leaf_.length c1, .slice p29 ((m0.nodes_.drop (1 : Int).toNat).take ((m0.nodes_.length : Int).toNat - (1 : Int).toNat)).length c30] 37, pt b1 #[.map (some p3), .map (some p4), .string m1.twins_.e0, .string m1.twins_.e1, .bool m1.found_, .bool m1.full_, .int .i64 m1.sums_] 60, mpo kStr kStr p3 m1.table_, mpo kStr kStr p4 m1.notes_] ++ F0) rfl (nw_ow ?_)))
      refine ow_end rfl ?_
      refine ew_then ?_
      refine cw_seq ?_
      refine cw_region ?_
      refine ow_vals 2 (j := 2) [10] [(10, .string y24)] rfl (by kernel_rfl) ?_
      refine ow_end rfl ?_
      refine ew_then ?_
      refine cw_ret ?_
      refine ew_then_ret ?_
      have hR := Option.some.inj hF
      subst hR
      exact fin1 (H1 := [imm I, pt b0 #[.slice p1 ((⟨m0.leaf_, (m0.nodes_.drop (1 : Int).toNat).take ((m0.nodes_.length : Int).toNat - (1 : Int).toNat)⟩ : law30_plain).leaf_).length c1, .slice p29 ((⟨m0.leaf_, (m0.nodes_.drop (1 : Int).toNat).take ((m0.nodes_.length : Int).toNat - (1 : Int).toNat)⟩ : law30_plain).nodes_).length c30] 37, pt b1 #[.map (some p3), .map (some p4), .string m1.twins_.e0, .string m1.twins_.e1, .bool m1.found_, .bool m1.full_, .int .i64 m1.sums_] 60, mpo kStr kStr p3 m1.table_, mpo kStr kStr p4 m1.notes_]) (fun w hs => sat_to [0, 0, 0, 0, 0] 0 rfl hs) rfl (rr_tmp rfl) ⟨p1, c1, p29, c30, p3, p4, rfl, rfl, hr1, h31⟩
    · refine cw_cond_f rfl rfl h23 ?_
      refine cw_skip ?_
      refine ew_then ?_
      refine cw_seq ?_
      refine cw_seq ?_
      refine cw_region ?_
      refine ow_vals 2 (j := 2) [0, 1, 2, 3, 4, 37] [(0, .pointer (some ⟨b0, 0, none⟩)), (1, .pointer (some ⟨b1, 0, none⟩)), (2, .int .i64 x2), (3, .int .i64 x3), (4, .slice p0 x4.length c0), (37, .bool (x3 == 1))] rfl (by kernel_rfl) ?_
      refine ow_end rfl ?_
      refine ew_then ?_
      rcases if_some hF with ⟨h32, hF⟩ | ⟨h32, hF⟩
      · refine cw_cond_t rfl rfl h32 ?_
        refine cw_seq ?_
        refine cw_region ?_
        refine ow_vals 3 (j := 3) [0, 40] [(0, .pointer (some ⟨b0, 0, none⟩)), (40, .pointer (some ⟨b0, 0, none⟩))] rfl (by kernel_rfl) ?_
        refine ow_pw rfl (pw_quiet (v := .slice p1 m0.leaf_.length c1) rfl rfl rfl rfl (q_load 1 rfl rfl rfl (by kernel_rfl)) (nw_ow ?_))
        obtain ⟨y33, h34, hF⟩ := bind_some hF
        refine ow_pw rfl (pw_index_ro (E := 9) 1 hr1 rfl rfl rfl rfl rfl (by kernel_rfl) rfl rfl rfl h34 fun q35 h36 => nw_ow ?_)
        refine ow_pw rfl (pw_quiet (v := .string y33) rfl rfl rfl rfl (q_load_el0 0 rfl h36 rfl rfl (by kernel_rfl)) (nw_ow ?_))
        refine ow_vals 1 (j := 7) [0, 12] [(0, .pointer (some ⟨b0, 0, none⟩)), (12, .string y33)] rfl (by kernel_rfl) ?_
        refine ow_end rfl ?_
        refine ew_then ?_
        refine cw_seq ?_
        refine cw_region ?_
        refine ow_vals 4 (j := 4) [12, 44, 47] [(12, .string y33), (44, .pointer (some ⟨b0, 0, none⟩)), (47, .pointer (some ⟨b0, 0, none⟩))] rfl (by kernel_rfl) ?_
        refine ow_pw rfl (pw_quiet (v := .slice p1 m0.leaf_.length c1) rfl rfl rfl rfl (q_load 1 rfl rfl rfl (by kernel_rfl)) (nw_ow ?_))
        obtain ⟨h37, hF⟩ := chk_some hF
        refine ow_pw rfl (pw_slice_ro (E := 9) 1 hr1 rfl rfl rfl rfl rfl (by kernel_rfl) rfl rfl rfl rfl h37 fun p38 c39 h40 => nw_ow ?_)
        refine ow_vals 2 (j := 8) [12, 49, 51] [(12, .string y33), (49, .slice p38 ((m0.leaf_.drop (1 : Int).toNat).take ((m0.leaf_.length : Int).toNat - (1 : Int).toNat)).length c39), (51, .pointer (some ⟨b0, 0, none⟩))] rfl (by kernel_rfl) ?_
        refine ow_pw rfl (pw_store 1 #[.slice p38 ((m0.leaf_.drop (1 : Int).toNat).take ((m0.leaf_.length : Int).toNat - (1 : Int).toNat)).length c39, .slice p2 m0.nodes_.length c2] rfl rfl rfl rfl rfl rfl rfl (by kernel_rfl) (nw_H (H' := [imm I, pt b0 #[.slice p38 ((m0.leaf_.drop (1 : Int).toNat).take ((m0.leaf_.length : Int).toNat - (1 : Int).toNat)).length c39, .slice p2 m0.nodes_.length c2] 37, pt b1 #[.map (some p3), .map (some p4), .string m1.twins_.e0, .string m1.twins_.e1, .bool m1.found_, .bool m1.full_, .int .i64 m1.sums_] 60, mpo kStr kStr p3 m1.table_, mpo kStr kStr p4 m1.notes_] ++ F0) rfl (nw_ow ?_)))
        refine ow_end rfl ?_
        refine ew_then ?_
        refine cw_seq ?_
        refine cw_region ?_
        refine ow_vals 2 (j := 2) [10] [(10, .string y33)] rfl (by kernel_rfl) ?_
        refine ow_end rfl ?_
        refine ew_then ?_
        refine cw_ret ?_
        refine ew_then_ret ?_
        have hR := Option.some.inj hF
        subst hR
        exact fin1 (H1 := [imm I, pt b0 #[.slice p38 ((⟨(m0.leaf_.drop (1 : Int).toNat).take ((m0.leaf_.length : Int).toNat - (1 : Int).toNat), m0.nodes_⟩ : law30_plain).leaf_).length c39, .slice p2 ((⟨(m0.leaf_.drop (1 : Int).toNat).take ((m0.leaf_.length : Int).toNat - (1 : Int).toNat), m0.nodes_⟩ : law30_plain).nodes_).length c2] 37, pt b1 #[.map (some p3), .map (some p4), .string m1.twins_.e0, .string m1.twins_.e1, .bool m1.found_, .bool m1.full_, .int .i64 m1.sums_] 60, mpo kStr kStr p3 m1.table_, mpo kStr kStr p4 m1.notes_]) (fun w hs => sat_to [0, 0, 0, 0, 0] 0 rfl hs) rfl (rr_tmp rfl) ⟨p38, c39, p2, c2, p3, p4, rfl, rfl, h40, hr2⟩
      · refine cw_cond_f rfl rfl h32 ?_
        refine cw_skip ?_
        refine ew_then ?_
        refine cw_seq ?_
        refine cw_region ?_
        refine ow_vals 1 (j := 1) [0, 1, 2, 3, 4, 53] [(0, .pointer (some ⟨b0, 0, none⟩)), (1, .pointer (some ⟨b1, 0, none⟩)), (2, .int .i64 x2), (3, .int .i64 x3), (4, .slice p0 x4.length c0), (53, .int .i64 x3)] rfl (by kernel_rfl) ?_
        obtain ⟨r41, h42, hF⟩ := bind_some hF
        refine ow_pw rfl (pw_call (F := [pt b0 #[.slice p1 m0.leaf_.length c1, .slice p2 m0.nodes_.length c2] 37, pt b1 #[.map (some p3), .map (some p4), .string m1.twins_.e0, .string m1.twins_.e1, .bool m1.found_, .bool m1.full_, .int .i64 m1.sums_] 60, mpo kStr kStr p3 m1.table_, mpo kStr kStr p4 m1.notes_] ++ F0) rfl rfl rfl rfl rfl rfl rfl (by kernel_rfl) (perm_of_pulls [0] rfl) (c_law30_below _ x3 r41 h42) ?_)
        rintro _ _ ⟨rfl, rfl⟩
        refine nw_H (H' := [imm I, pt b0 #[.slice p1 m0.leaf_.length c1, .slice p2 m0.nodes_.length c2] 37, pt b1 #[.map (some p3), .map (some p4), .string m1.twins_.e0, .string m1.twins_.e1, .bool m1.found_, .bool m1.full_, .int .i64 m1.sums_] 60, mpo kStr kStr p3 m1.table_, mpo kStr kStr p4 m1.notes_] ++ F0) rfl (nw_ow ?_)
        refine ow_vals 1 (j := 3) [0, 1, 2, 3, 4, 13] [(0, .pointer (some ⟨b0, 0, none⟩)), (1, .pointer (some ⟨b1, 0, none⟩)), (2, .int .i64 x2), (3, .int .i64 x3), (4, .slice p0 x4.length c0), (13, .int .i64 r41)] rfl (by kernel_rfl) ?_
        refine ow_end rfl ?_
        refine ew_then ?_
        refine cw_seq ?_
        refine cw_region ?_
        refine ow_vals 5 (j := 5) [0, 1, 2, 3, 4, 13, 55, 56, 57, 58, 59] [(0, .pointer (some ⟨b0, 0, none⟩)), (1, .pointer (some ⟨b1, 0, none⟩)), (2, .int .i64 x2), (3, .int .i64 x3), (4, .slice p0 x4.length c0), (13, .int .i64 r41), (55, .pointer (some ⟨b0, 0, none⟩)), (56, .pointer (some ⟨b1, 0, none⟩)), (57, .int .i64 x2), (58, .int .i64 r41), (59, .slice p0 x4.length c0)] rfl (by kernel_rfl) ?_
        obtain ⟨r43, h44, hF⟩ := bind_some hF
        refine ow_pw rfl (pw_call (F := [] ++ F0) rfl rfl rfl rfl rfl rfl rfl (by kernel_rfl) (perm_of_pulls [0, 0, 0, 0, 0] rfl) (ih _ x2 r41 x4 m0 m1 p0 c0 p1 c1 p2 c2 b0 p3 p4 b1 r43 h44 hr0 hr1 hr2) ?_)
        rintro _ _ ⟨r43_p1, r43_c2, r43_p4, r43_c5, r43_b7, r43_b9, rfl, rfl, r43_h3, r43_h6⟩
        refine nw_H (H' := [imm I, pt b0 #[.slice r43_p1 r43.2.1.leaf_.length r43_c2, .slice r43_p4 r43.2.1.nodes_.length r43_c5] 37, pt b1 #[.map (some r43_b7), .map (some r43_b9), .string r43.2.2.twins_.e0, .string r43.2.2.twins_.e1, .bool r43.2.2.found_, .bool r43.2.2.full_, .int .i64 r43.2.2.sums_] 60, mpo kStr kStr r43_b7 r43.2.2.table_, mpo kStr kStr r43_b9 r43.2.2.notes_] ++ F0) rfl (nw_ow ?_)
        refine ow_vals 1 (j := 7) [0, 1, 2, 3, 4, 13, 14] [(0, .pointer (some ⟨b0, 0, none⟩)), (1, .pointer (some ⟨b1, 0, none⟩)), (2, .int .i64 x2), (3, .int .i64 x3), (4, .slice p0 x4.length c0), (13, .int .i64 r41), (14, .string r43.1)] rfl (by kernel_rfl) ?_
        refine ow_end rfl ?_
        refine ew_then ?_
        refine cw_seq ?_
        refine cw_region ?_
        refine ow_vals 9 (j := 9) [1, 14, 61, 62, 65, 68, 69] [(1, .pointer (some ⟨b1, 0, none⟩)), (14, .string r43.1), (61, .pointer (some ⟨b0, 0, none⟩)), (62, .pointer (some ⟨b1, 0, none⟩)), (65, .int .i64 (IntKind.i64.wrap (x2 + r41))), (68, .int .i64 (IntKind.i64.wrap (x3 - r41))), (69, .slice p0 x4.length c0)] rfl (by kernel_rfl) ?_
        obtain ⟨r47, h48, hF⟩ := bind_some hF
        refine ow_pw rfl (pw_call (F := [] ++ F0) rfl rfl rfl rfl rfl rfl rfl (by kernel_rfl) (perm_of_pulls [0, 0, 0, 0, 0] rfl) (ih _ (IntKind.i64.wrap (x2 + r41)) (IntKind.i64.wrap (x3 - r41)) x4 r43.2.1 r43.2.2 p0 c0 r43_p1 r43_c2 r43_p4 r43_c5 b0 r43_b7 r43_b9 b1 r47 h48 hr0 r43_h3 r43_h6) ?_)
        rintro _ _ ⟨r47_p1, r47_c2, r47_p4, r47_c5, r47_b7, r47_b9, rfl, rfl, r47_h3, r47_h6⟩
        refine nw_H (H' := [imm I, pt b0 #[.slice r47_p1 r47.2.1.leaf_.length r47_c2, .slice r47_p4 r47.2.1.nodes_.length r47_c5] 37, pt b1 #[.map (some r47_b7), .map (some r47_b9), .string r47.2.2.twins_.e0, .string r47.2.2.twins_.e1, .bool r47.2.2.found_, .bool r47.2.2.full_, .int .i64 r47.2.2.sums_] 60, mpo kStr kStr r47_b7 r47.2.2.table_, mpo kStr kStr r47_b9 r47.2.2.notes_] ++ F0) rfl (nw_ow ?_)
        refine ow_vals 1 (j := 11) [1, 14, 15] [(1, .pointer (some ⟨b1, 0, none⟩)), (14, .string r43.1), (15, .string r47.1)] rfl (by kernel_rfl) ?_
        refine ow_end rfl ?_
        refine ew_then ?_
        refine cw_seq ?_
        refine cw_region ?_
        refine ow_vals 3 (j := 3) [71, 72, 73] [(71, .pointer (some ⟨b1, 0, none⟩)), (72, .string r43.1), (73, .string r47.1)] rfl (by kernel_rfl) ?_
        obtain ⟨r51, h52, hF⟩ := bind_some hF
        refine ow_pw rfl (pw_call (F := [pt b0 #[.slice r47_p1 r47.2.1.leaf_.length r47_c2, .slice r47_p4 r47.2.1.nodes_.length r47_c5] 37] ++ F0) rfl rfl rfl rfl rfl rfl rfl (by kernel_rfl) (perm_of_pulls [0, 1, 1, 1] rfl) (c_pledge_Node _ r43.1 r47.1 r47.2.2 r47_b7 r47_b9 b1 r51 h52) ?_)
        rintro _ _ ⟨r51_b1, r51_b3, rfl, rfl⟩
        refine nw_H (H' := [imm I, pt b1 #[.map (some r51_b1), .map (some r51_b3), .string r51.2.twins_.e0, .string r51.2.twins_.e1, .bool r51.2.found_, .bool r51.2.full_, .int .i64 r51.2.sums_] 60, mpo kStr kStr r51_b1 r51.2.table_, mpo kStr kStr r51_b3 r51.2.notes_, pt b0 #[.slice r47_p1 r47.2.1.leaf_.length r47_c2, .slice r47_p4 r47.2.1.nodes_.length r47_c5] 37] ++ F0) rfl (nw_ow ?_)
        refine ow_vals 1 (j := 5) [10] [(10, .string r51.1)] rfl (by kernel_rfl) ?_
        refine ow_end rfl ?_
        refine ew_then ?_
        refine cw_ret ?_
        have hR := Option.some.inj hF
        subst hR
        exact fin1 (H1 := [imm I, pt b0 #[.slice r47_p1 r47.2.1.leaf_.length r47_c2, .slice r47_p4 r47.2.1.nodes_.length r47_c5] 37, pt b1 #[.map (some r51_b1), .map (some r51_b3), .string r51.2.twins_.e0, .string r51.2.twins_.e1, .bool r51.2.found_, .bool r51.2.full_, .int .i64 r51.2.sums_] 60, mpo kStr kStr r51_b1 r51.2.table_, mpo kStr kStr r51_b3 r51.2.notes_]) (fun w hs => sat_to [0, 3, 0, 0, 0] 0 rfl hs) rfl (rr_tmp rfl) ⟨r47_p1, r47_c2, r47_p4, r47_c5, r51_b1, r51_b3, rfl, rfl, r47_h3, r47_h6⟩


def F.law30_BatchRoots.r2 (r23 : batch_Proof) (r30 : ByteArray × Int × mill_Mill) : Option (Bool) :=
  if r30.2.1 == 0 then (Option.bind (F.law30_plain_build FUEL 0 r23.Size r23.Picks (⟨r23.Leaf, r23.Nodes⟩ : law30_plain) r30.2.2) (fun (r58 : ByteArray × law30_plain × mill_Mill) => if seqB r30.1 r58.1 then (Option.bind (F.law30_awake) (fun (r63 : Bool) => some (r63))) else (some (false)))) else (some (false))
def F.law30_BatchRoots.r1 (r23 : batch_Proof) (r30 : ByteArray × Int × mill_Mill) : Option (Bool) :=
  thru (Option.bind (F.law30_many FUEL 0 r23.Size r23.Picks) (fun (r48 : Int) => if (r23.Nodes.length : Int) != r48 then (if seqB r30.1 (ByteArray.mk #[]) then (if r30.2.1 == 20 then (Option.bind (F.law30_awake) (fun (r53 : Bool) => some (.inr (r53)))) else (some (.inr (false)))) else (some (.inr (false)))) else (some (.inl ())))) (fun x => F.law30_BatchRoots.r2 r23 r30)
def F.law30_BatchRoots (x0 : batch_Proof) : Option Bool :=
  Option.bind (F.law30_few x0) (fun (r23 : batch_Proof) => Option.bind (F.mill_New) (fun (r25 : mill_Mill) => Option.bind (F.batch_Root r23 r25) (fun (r30 : ByteArray × Int × mill_Mill) => Option.bind (F.batch_Right r23) (fun (r34 : Bool) => Option.bind (F.law30_right r23) (fun (r36 : Bool) => if !(r34 == r36) then (some (false)) else (thru (Option.bind (F.law30_right r23) (fun (r40 : Bool) => if !r40 then (if seqB r30.1 (ByteArray.mk #[]) then (if r30.2.1 == 4 then (Option.bind (F.law30_awake) (fun (r45 : Bool) => some (.inr (r45)))) else (some (.inr (false)))) else (some (.inr (false)))) else (some (.inl ())))) (fun x => F.law30_BatchRoots.r1 r23 r30)))))))
set_option maxRecDepth 100000 in
set_option maxHeartbeats 4000000 in
theorem c_law30_BatchRoots (I : Hl) (x0 : batch_Proof) (p0 : Option Addr) (c0 : Nat) (p1 : Option Addr) (c1 : Nat) (p2 : Option Addr) (c2 : Nat) (res : Bool) (hF : F.law30_BatchRoots x0 = some res) (hr0 : ro I (eInt .i64) p0 c0 x0.Picks) (hr1 : ro I eStr p1 c1 x0.Leaf) (hr2 : ro I eStr p2 c2 x0.Nodes) : Tr Try.prog 3 [.agg #[.int .i64 x0.Size, .slice p0 x0.Picks.length c0, .slice p1 x0.Leaf.length c1, .slice p2 x0.Nodes.length c2]] [imm I] (fun r H' => ∃ (J : Hl), r = .bool res ∧ H' = [imm J] ∧ Hl.sub I J) := by
  unfold F.law30_BatchRoots at hF
  refine tr_of_cw (fn := Try.f3) Try.func3 rfl (Nat.le_of_ble_eq_true rfl) 73 rfl fun F0 w0 => ?_
  refine cw_keep [0] (L' := [(0, .agg #[.int .i64 x0.Size, .slice p0 x0.Picks.length c0, .slice p1 x0.Leaf.length c1, .slice p2 x0.Nodes.length c2])]) rfl ?_
  refine cw_state (S' := SAT w0 ([imm I] ++ F0)) (fun w hs => hs) ?_
  refine cw_seq ?_
  refine cw_region ?_
  refine ow_pw rfl (pw_box (cs := #[.int .i64 x0.Size, .slice p0 x0.Picks.length c0, .slice p1 x0.Leaf.length c1, .slice p2 x0.Nodes.length c2]) rfl rfl rfl rfl rfl rfl fun b21 => nw_ow ?_)
  refine ow_vals 1 (j := 2) [1] [(1, .pointer (some ⟨b21, 0, none⟩))] rfl (by kernel_rfl) ?_
  refine ow_end rfl ?_
  refine ew_then ?_
  refine cw_seq ?_
  refine cw_region ?_
  refine ow_pw rfl (pw_quiet (v := .agg #[.int .i64 x0.Size, .slice p0 x0.Picks.length c0, .slice p1 x0.Leaf.length c1, .slice p2 x0.Nodes.length c2]) rfl rfl rfl rfl (q_load 0 rfl rfl rfl (by kernel_rfl)) (nw_ow ?_))
  obtain ⟨r23, h24, hF⟩ := bind_some hF
  refine ow_pw rfl (pw_call (F := [pt b21 #[.int .i64 x0.Size, .slice p0 x0.Picks.length c0, .slice p1 x0.Leaf.length c1, .slice p2 x0.Nodes.length c2] 25] ++ F0) rfl rfl rfl rfl rfl rfl rfl (by kernel_rfl) (perm_of_pulls [1] rfl) (c_law30_few _ x0 p0 c0 p1 c1 p2 c2 r23 h24 hr0 hr1 hr2) ?_)
  rintro _ _ ⟨r23_p1, r23_c2, r23_p4, r23_c5, r23_p7, r23_c8, rfl, rfl, r23_h3, r23_h6, r23_h9⟩
  refine nw_H (H' := [imm I, pt b21 #[.int .i64 x0.Size, .slice p0 x0.Picks.length c0, .slice p1 x0.Leaf.length c1, .slice p2 x0.Nodes.length c2] 25] ++ F0) rfl (nw_ow ?_)
  refine ow_pw rfl (pw_store 1 #[.int .i64 r23.Size, .slice r23_p1 r23.Picks.length r23_c2, .slice r23_p4 r23.Leaf.length r23_c5, .slice r23_p7 r23.Nodes.length r23_c8] rfl rfl rfl rfl rfl rfl rfl (by kernel_rfl) (nw_H (H' := [imm I, pt b21 #[.int .i64 r23.Size, .slice r23_p1 r23.Picks.length r23_c2, .slice r23_p4 r23.Leaf.length r23_c5, .slice r23_p7 r23.Nodes.length r23_c8] 25] ++ F0) rfl (nw_ow ?_)))
  refine ow_end rfl ?_
  refine ew_then ?_
  refine cw_seq ?_
  refine cw_region ?_
  obtain ⟨r25, h26, hF⟩ := bind_some hF
  refine ow_pw rfl (pw_call (F := [pt b21 #[.int .i64 r23.Size, .slice r23_p1 r23.Picks.length r23_c2, .slice r23_p4 r23.Leaf.length r23_c5, .slice r23_p7 r23.Nodes.length r23_c8] 25] ++ F0) rfl rfl rfl rfl rfl rfl rfl (by kernel_rfl) (perm_of_pulls [0] rfl) (c_mill_New _ r25 h26) ?_)
  rintro _ _ ⟨r25_b1, r25_b3, r25_b5, rfl, rfl⟩
  refine nw_H (H' := [imm I, pt r25_b1 #[.map (some r25_b3), .map (some r25_b5), .string r25.twins_.e0, .string r25.twins_.e1, .bool r25.found_, .bool r25.full_, .int .i64 r25.sums_] 60, mpo kStr kStr r25_b3 r25.table_, mpo kStr kStr r25_b5 r25.notes_, pt b21 #[.int .i64 r23.Size, .slice r23_p1 r23.Picks.length r23_c2, .slice r23_p4 r23.Leaf.length r23_c5, .slice r23_p7 r23.Nodes.length r23_c8] 25] ++ F0) rfl (nw_ow ?_)
  refine ow_vals 1 (j := 2) [1, 3] [(1, .pointer (some ⟨b21, 0, none⟩)), (3, .pointer (some ⟨r25_b1, 0, none⟩))] rfl (by kernel_rfl) ?_
  refine ow_end rfl ?_
  refine ew_then ?_
  refine cw_seq ?_
  refine cw_region ?_
  refine ow_vals 1 (j := 1) [1, 3, 11] [(1, .pointer (some ⟨b21, 0, none⟩)), (3, .pointer (some ⟨r25_b1, 0, none⟩)), (11, .pointer (some ⟨r25_b1, 0, none⟩))] rfl (by kernel_rfl) ?_
  refine ow_pw rfl (pw_quiet (v := .agg #[.int .i64 r23.Size, .slice r23_p1 r23.Picks.length r23_c2, .slice r23_p4 r23.Leaf.length r23_c5, .slice r23_p7 r23.Nodes.length r23_c8]) rfl rfl rfl rfl (q_load 4 rfl rfl rfl (by kernel_rfl)) (nw_ow ?_))
  obtain ⟨r30, h31, hF⟩ := bind_some hF
  refine ow_pw rfl (pw_call (F := [pt b21 #[.int .i64 r23.Size, .slice r23_p1 r23.Picks.length r23_c2, .slice r23_p4 r23.Leaf.length r23_c5, .slice r23_p7 r23.Nodes.length r23_c8] 25] ++ F0) rfl rfl rfl rfl rfl rfl rfl (by kernel_rfl) (perm_of_pulls [0, 0, 0, 0] rfl) (c_batch_Root _ r23 r25 r23_p1 r23_c2 r23_p4 r23_c5 r23_p7 r23_c8 r25_b3 r25_b5 r25_b1 r30 h31 r23_h3 r23_h6 r23_h9) ?_)
  rintro _ _ ⟨r30_b1, r30_b3, rfl, rfl⟩
  refine nw_H (H' := [imm I, pt r25_b1 #[.map (some r30_b1), .map (some r30_b3), .string r30.2.2.twins_.e0, .string r30.2.2.twins_.e1, .bool r30.2.2.found_, .bool r30.2.2.full_, .int .i64 r30.2.2.sums_] 60, mpo kStr kStr r30_b1 r30.2.2.table_, mpo kStr kStr r30_b3 r30.2.2.notes_, pt b21 #[.int .i64 r23.Size, .slice r23_p1 r23.Picks.length r23_c2, .slice r23_p4 r23.Leaf.length r23_c5, .slice r23_p7 r23.Nodes.length r23_c8] 25] ++ F0) rfl (nw_ow ?_)
  refine ow_vals 5 (j := 8) [1, 3, 4, 5] [(1, .pointer (some ⟨b21, 0, none⟩)), (3, .pointer (some ⟨r25_b1, 0, none⟩)), (4, .string r30.1), (5, .int .i64 r30.2.1)] rfl (by kernel_rfl) ?_
  refine ow_end rfl ?_
  refine ew_then ?_
  refine cw_seq ?_
  refine cw_seq ?_
  refine cw_open 5 (SAT w0 ([imm I, pt r25_b1 #[.map (some r30_b1), .map (some r30_b3), .string r30.2.2.twins_.e0, .string r30.2.2.twins_.e1, .bool r30.2.2.found_, .bool r30.2.2.full_, .int .i64 r30.2.2.sums_] 60, mpo kStr kStr r30_b1 r30.2.2.table_, mpo kStr kStr r30_b3 r30.2.2.notes_, pt b21 #[.int .i64 r23.Size, .slice r23_p1 r23.Picks.length r23_c2, .slice r23_p4 r23.Leaf.length r23_c5, .slice r23_p7 r23.Nodes.length r23_c8] 25])) (by kernel_rfl) (f := 5) rfl (fun w hs => sat_drew hs) ?_
  refine aw_quiet 0 (m' := 1) (v := .agg #[.int .i64 r23.Size, .slice r23_p1 r23.Picks.length r23_c2, .slice r23_p4 r23.Leaf.length r23_c5, .slice r23_p7 r23.Nodes.length r23_c8]) 0 [] rfl rfl rfl rfl (by kernel_rfl) (by kernel_rfl) (by kernel_rfl) (fun _ _ _ _ _ h => calm_fin (P := Try.prog) (fn := Try.f3) _ _ _ _ _ h) (fun w hs => sat_pulls [0, 0, 0, 0, 0] (G := [] ++ F0) rfl hs) (q_load 4 rfl rfl rfl (by kernel_rfl)) ?_
  refine aw_quiet 2 (m' := 5) (v := .agg #[.int .i64 r23.Size, .slice r23_p1 r23.Picks.length r23_c2, .slice r23_p4 r23.Leaf.length r23_c5, .slice r23_p7 r23.Nodes.length r23_c8]) 0 [] rfl rfl rfl rfl (by kernel_rfl) (by kernel_rfl) (by kernel_rfl) (fun _ _ _ _ _ h => calm_fin (P := Try.prog) (fn := Try.f3) _ _ _ _ _ h) (fun w hs => sat_pulls [0, 0, 0, 0, 0] (G := [] ++ F0) rfl hs) (q_load 4 rfl rfl rfl (by kernel_rfl)) ?_
  obtain ⟨r34, h35, hF⟩ := bind_some hF
  refine aw_only 1 (m' := 7) (by kernel_rfl) (by kernel_rfl) (pw_call (F := [pt r25_b1 #[.map (some r30_b1), .map (some r30_b3), .string r30.2.2.twins_.e0, .string r30.2.2.twins_.e1, .bool r30.2.2.found_, .bool r30.2.2.full_, .int .i64 r30.2.2.sums_] 60, mpo kStr kStr r30_b1 r30.2.2.table_, mpo kStr kStr r30_b3 r30.2.2.notes_, pt b21 #[.int .i64 r23.Size, .slice r23_p1 r23.Picks.length r23_c2, .slice r23_p4 r23.Leaf.length r23_c5, .slice r23_p7 r23.Nodes.length r23_c8] 25] ++ F0) rfl rfl rfl rfl rfl rfl rfl (by kernel_rfl) (perm_of_pulls [0] rfl) (c_batch_Right _ r23 r23_p1 r23_c2 r23_p4 r23_c5 r23_p7 r23_c8 r34 h35 r23_h3 r23_h6 r23_h9) ?_)
  rintro _ _ ⟨rfl, rfl⟩
  refine nw_H (H' := [imm I, pt r25_b1 #[.map (some r30_b1), .map (some r30_b3), .string r30.2.2.twins_.e0, .string r30.2.2.twins_.e1, .bool r30.2.2.found_, .bool r30.2.2.full_, .int .i64 r30.2.2.sums_] 60, mpo kStr kStr r30_b1 r30.2.2.table_, mpo kStr kStr r30_b3 r30.2.2.notes_, pt b21 #[.int .i64 r23.Size, .slice r23_p1 r23.Picks.length r23_c2, .slice r23_p4 r23.Leaf.length r23_c5, .slice r23_p7 r23.Nodes.length r23_c8] 25] ++ F0) rfl (aw_next (fun w hs => sat_pulls [0, 0, 0, 0, 0] (G := [] ++ F0) rfl hs) ?_)
  obtain ⟨r36, h37, hF⟩ := bind_some hF
  refine aw_only 3 (m' := 15) (by kernel_rfl) (by kernel_rfl) (pw_call (F := [pt r25_b1 #[.map (some r30_b1), .map (some r30_b3), .string r30.2.2.twins_.e0, .string r30.2.2.twins_.e1, .bool r30.2.2.found_, .bool r30.2.2.full_, .int .i64 r30.2.2.sums_] 60, mpo kStr kStr r30_b1 r30.2.2.table_, mpo kStr kStr r30_b3 r30.2.2.notes_, pt b21 #[.int .i64 r23.Size, .slice r23_p1 r23.Picks.length r23_c2, .slice r23_p4 r23.Leaf.length r23_c5, .slice r23_p7 r23.Nodes.length r23_c8] 25] ++ F0) rfl rfl rfl rfl rfl rfl rfl (by kernel_rfl) (perm_of_pulls [0] rfl) (c_law30_right _ r23 r23_p1 r23_c2 r23_p4 r23_c5 r23_p7 r23_c8 r36 h37 r23_h3 r23_h6 r23_h9) ?_)
  rintro _ _ ⟨rfl, rfl⟩
  refine nw_H (H' := [imm I, pt r25_b1 #[.map (some r30_b1), .map (some r30_b3), .string r30.2.2.twins_.e0, .string r30.2.2.twins_.e1, .bool r30.2.2.found_, .bool r30.2.2.full_, .int .i64 r30.2.2.sums_] 60, mpo kStr kStr r30_b1 r30.2.2.table_, mpo kStr kStr r30_b3 r30.2.2.notes_, pt b21 #[.int .i64 r23.Size, .slice r23_p1 r23.Picks.length r23_c2, .slice r23_p4 r23.Leaf.length r23_c5, .slice r23_p7 r23.Nodes.length r23_c8] 25] ++ F0) rfl (aw_next (fun w hs => sat_pulls [0, 0, 0, 0, 0] (G := [] ++ F0) rfl hs) ?_)
  refine aw_vals [4] (f' := 0) (m' := 31) [1, 3, 4, 5, 20] [(1, .pointer (some ⟨b21, 0, none⟩)), (3, .pointer (some ⟨r25_b1, 0, none⟩)), (4, .string r30.1), (5, .int .i64 r30.2.1), (20, .bool (!(r34 == r36)))] (fun _ _ _ _ _ h => calm_fin (P := Try.prog) (fn := Try.f3) _ _ _ _ _ h) (fun w hs => sat_pulls [0, 0, 0, 0, 0] (G := [] ++ F0) rfl hs) rfl (by kernel_rfl) ?_
  refine aw_keep [1, 3, 4, 5, 20] (L' := [(1, .pointer (some ⟨b21, 0, none⟩)), (3, .pointer (some ⟨r25_b1, 0, none⟩)), (4, .string r30.1), (5, .int .i64 r30.2.1), (20, .bool (!(r34 == r36)))]) rfl ?_
  refine aw_end (by kernel_rfl) ?_
  refine ew_then ?_
  rcases if_some hF with ⟨h38, hF⟩ | ⟨h38, hF⟩
  · refine cw_cond_t rfl rfl h38 ?_
    refine cw_seq ?_
    refine cw_region ?_
    refine ow_vals 1 (j := 1) [2] [(2, .bool false)] rfl (by kernel_rfl) ?_
    refine ow_end rfl ?_
    refine ew_then ?_
    refine cw_ret ?_
    refine ew_then_ret ?_
    have hR := Option.some.inj hF
    subst hR
    exact fin1 (H1 := [imm I]) (fun w hs => sat_to [1, 1, 1, 1, 0] 4 rfl hs) rfl (rr_tmp rfl) ⟨I, rfl, rfl, Hl.sub_refl _⟩
  · refine cw_cond_f rfl rfl h38 ?_
    refine cw_skip ?_
    refine ew_then ?_
    obtain ⟨v39, hF, hK39⟩ := thru_some hF
    refine cw_mid (fun a w => .inl () = v39 ∧ Fr 73 [(1, .pointer (some ⟨b21, 0, none⟩)), (3, .pointer (some ⟨r25_b1, 0, none⟩)), (4, .string r30.1), (5, .int .i64 r30.2.1)] a ∧ SAT w0 ([imm I, pt r25_b1 #[.map (some r30_b1), .map (some r30_b3), .string r30.2.2.twins_.e0, .string r30.2.2.twins_.e1, .bool r30.2.2.found_, .bool r30.2.2.full_, .int .i64 r30.2.2.sums_] 60, pt b21 #[.int .i64 r23.Size, .slice r23_p1 r23.Picks.length r23_c2, .slice r23_p4 r23.Leaf.length r23_c5, .slice r23_p7 r23.Nodes.length r23_c8] 25, mpo kStr kStr r30_b1 r30.2.2.table_, mpo kStr kStr r30_b3 r30.2.2.notes_] ++ F0) w) ?_ ?_
    · refine cw_seq ?_
      refine cw_region ?_
      refine ow_pw rfl (pw_quiet (v := .agg #[.int .i64 r23.Size, .slice r23_p1 r23.Picks.length r23_c2, .slice r23_p4 r23.Leaf.length r23_c5, .slice r23_p7 r23.Nodes.length r23_c8]) rfl rfl rfl rfl (q_load 4 rfl rfl rfl (by kernel_rfl)) (nw_ow ?_))
      obtain ⟨r40, h41, hF⟩ := bind_some hF
      refine ow_pw rfl (pw_call (F := [pt r25_b1 #[.map (some r30_b1), .map (some r30_b3), .string r30.2.2.twins_.e0, .string r30.2.2.twins_.e1, .bool r30.2.2.found_, .bool r30.2.2.full_, .int .i64 r30.2.2.sums_] 60, mpo kStr kStr r30_b1 r30.2.2.table_, mpo kStr kStr r30_b3 r30.2.2.notes_, pt b21 #[.int .i64 r23.Size, .slice r23_p1 r23.Picks.length r23_c2, .slice r23_p4 r23.Leaf.length r23_c5, .slice r23_p7 r23.Nodes.length r23_c8] 25] ++ F0) rfl rfl rfl rfl rfl rfl rfl (by kernel_rfl) (perm_of_pulls [0] rfl) (c_law30_right _ r23 r23_p1 r23_c2 r23_p4 r23_c5 r23_p7 r23_c8 r40 h41 r23_h3 r23_h6 r23_h9) ?_)
      rintro _ _ ⟨rfl, rfl⟩
      refine nw_H (H' := [imm I, pt r25_b1 #[.map (some r30_b1), .map (some r30_b3), .string r30.2.2.twins_.e0, .string r30.2.2.twins_.e1, .bool r30.2.2.found_, .bool r30.2.2.full_, .int .i64 r30.2.2.sums_] 60, mpo kStr kStr r30_b1 r30.2.2.table_, mpo kStr kStr r30_b3 r30.2.2.notes_, pt b21 #[.int .i64 r23.Size, .slice r23_p1 r23.Picks.length r23_c2, .slice r23_p4 r23.Leaf.length r23_c5, .slice r23_p7 r23.Nodes.length r23_c8] 25] ++ F0) rfl (nw_ow ?_)
      refine ow_vals 1 (j := 3) [1, 3, 4, 5, 23] [(1, .pointer (some ⟨b21, 0, none⟩)), (3, .pointer (some ⟨r25_b1, 0, none⟩)), (4, .string r30.1), (5, .int .i64 r30.2.1), (23, .bool (!r40))] rfl (by kernel_rfl) ?_
      refine ow_end rfl ?_
      refine ew_then ?_
      rcases if_some hF with ⟨h42, hF⟩ | ⟨h42, hF⟩
      · refine cw_cond_t rfl rfl h42 ?_
        refine cw_seq ?_
        refine cw_region ?_
        refine ow_vals 3 (j := 3) [5, 26] [(5, .int .i64 r30.2.1), (26, .bool (seqB r30.1 (ByteArray.mk #[])))] rfl (by kernel_rfl) ?_
        rcases if_some hF with ⟨h43, hF⟩ | ⟨h43, hF⟩
        · refine ow_slots (L' := [(5, .int .i64 r30.2.1), (26, .bool true)]) (by rw [h43]) ?_
          refine ow_vals 4 (j := 7) [30] [(30, .bool (r30.2.1 == 4))] rfl (by kernel_rfl) ?_
          rcases if_some hF with ⟨h44, hF⟩ | ⟨h44, hF⟩
          · refine ow_slots (L' := [(30, .bool true)]) (by rw [h44]) ?_
            obtain ⟨r45, h46, hF⟩ := bind_some hF
            refine ow_pw rfl (pw_call (F := [pt r25_b1 #[.map (some r30_b1), .map (some r30_b3), .string r30.2.2.twins_.e0, .string r30.2.2.twins_.e1, .bool r30.2.2.found_, .bool r30.2.2.full_, .int .i64 r30.2.2.sums_] 60, mpo kStr kStr r30_b1 r30.2.2.table_, mpo kStr kStr r30_b3 r30.2.2.notes_, pt b21 #[.int .i64 r23.Size, .slice r23_p1 r23.Picks.length r23_c2, .slice r23_p4 r23.Leaf.length r23_c5, .slice r23_p7 r23.Nodes.length r23_c8] 25] ++ F0) rfl rfl rfl rfl rfl rfl rfl (by kernel_rfl) (perm_of_pulls [0] rfl) (c_law30_awake _ r45 h46) ?_)
            rintro _ _ ⟨r45_J, rfl, rfl, r45_hJ⟩
            refine nw_H (H' := [imm r45_J, pt r25_b1 #[.map (some r30_b1), .map (some r30_b3), .string r30.2.2.twins_.e0, .string r30.2.2.twins_.e1, .bool r30.2.2.found_, .bool r30.2.2.full_, .int .i64 r30.2.2.sums_] 60, mpo kStr kStr r30_b1 r30.2.2.table_, mpo kStr kStr r30_b3 r30.2.2.notes_, pt b21 #[.int .i64 r23.Size, .slice r23_p1 r23.Picks.length r23_c2, .slice r23_p4 r23.Leaf.length r23_c5, .slice r23_p7 r23.Nodes.length r23_c8] 25] ++ F0) rfl (nw_ow ?_)
            have r23_h3 := ro.sub r45_hJ r23_h3
            have r23_h6 := ro.sub r45_hJ r23_h6
            have r23_h9 := ro.sub r45_hJ r23_h9
            refine ow_vals 2 (j := 10) [2] [(2, .bool r45)] rfl (by kernel_rfl) ?_
            refine ow_end rfl ?_
            refine ew_then ?_
            refine cw_ret ?_
            refine ew_then_ret ?_
            have hR := Option.some.inj hF
            subst hR
            have hR := hK39
            try dsimp only [Thru] at hR
            subst hR
            exact fin1 (H1 := [imm r45_J]) (fun w hs => sat_to [1, 1, 1, 1, 0] 4 rfl hs) rfl (rr_tmp rfl) ⟨r45_J, rfl, rfl, r45_hJ⟩
          · refine ow_slots (L' := [(30, .bool false)]) (by rw [h44]) ?_
            refine ow_vals 3 (j := 10) [2] [(2, .bool false)] rfl (by kernel_rfl) ?_
            refine ow_end rfl ?_
            refine ew_then ?_
            refine cw_ret ?_
            refine ew_then_ret ?_
            have hR := Option.some.inj hF
            subst hR
            have hR := hK39
            try dsimp only [Thru] at hR
            subst hR
            exact fin1 (H1 := [imm I]) (fun w hs => sat_to [1, 1, 1, 1, 0] 4 rfl hs) rfl (rr_tmp rfl) ⟨I, rfl, rfl, Hl.sub_refl _⟩
        · refine ow_slots (L' := [(5, .int .i64 r30.2.1), (26, .bool false)]) (by rw [h43]) ?_
          refine ow_vals 7 (j := 10) [2] [(2, .bool false)] rfl (by kernel_rfl) ?_
          refine ow_end rfl ?_
          refine ew_then ?_
          refine cw_ret ?_
          refine ew_then_ret ?_
          have hR := Option.some.inj hF
          subst hR
          have hR := hK39
          try dsimp only [Thru] at hR
          subst hR
          exact fin1 (H1 := [imm I]) (fun w hs => sat_to [1, 1, 1, 1, 0] 4 rfl hs) rfl (rr_tmp rfl) ⟨I, rfl, rfl, Hl.sub_refl _⟩
      · refine cw_cond_f rfl rfl h42 ?_
        refine cw_skip ?_
        have hR := Option.some.inj hF
        exact fun a w hf hs => ⟨hR, hf.keep [1, 3, 4, 5], sat_to [0, 0, 2, 0, 0] 0 rfl hs⟩
    · rintro a w ⟨hv, hf, hs⟩
      subst hv
      replace hF := hK39
      clear hK39
      try dsimp only [Thru] at hF
      revert a w
      show CW _ _ _ 73 [(1, .pointer (some ⟨b21, 0, none⟩)), (3, .pointer (some ⟨r25_b1, 0, none⟩)), (4, .string r30.1), (5, .int .i64 r30.2.1)] (SAT w0 ([imm I, pt r25_b1 #[.map (some r30_b1), .map (some r30_b3), .string r30.2.2.twins_.e0, .string r30.2.2.twins_.e1, .bool r30.2.2.found_, .bool r30.2.2.full_, .int .i64 r30.2.2.sums_] 60, pt b21 #[.int .i64 r23.Size, .slice r23_p1 r23.Picks.length r23_c2, .slice r23_p4 r23.Leaf.length r23_c5, .slice r23_p7 r23.Nodes.length r23_c8] 25, mpo kStr kStr r30_b1 r30.2.2.table_, mpo kStr kStr r30_b3 r30.2.2.notes_] ++ F0))
      unfold F.law30_BatchRoots.r1 at hF
      obtain ⟨v47, hF, hK47⟩ := thru_some hF
      refine cw_mid (fun a w => .inl () = v47 ∧ Fr 73 [(1, .pointer (some ⟨b21, 0, none⟩)), (3, .pointer (some ⟨r25_b1, 0, none⟩)), (4, .string r30.1), (5, .int .i64 r30.2.1)] a ∧ SAT w0 ([imm I, pt r25_b1 #[.map (some r30_b1), .map (some r30_b3), .string r30.2.2.twins_.e0, .string r30.2.2.twins_.e1, .bool r30.2.2.found_, .bool r30.2.2.full_, .int .i64 r30.2.2.sums_] 60, pt b21 #[.int .i64 r23.Size, .slice r23_p1 r23.Picks.length r23_c2, .slice r23_p4 r23.Leaf.length r23_c5, .slice r23_p7 r23.Nodes.length r23_c8] 25, mpo kStr kStr r30_b1 r30.2.2.table_, mpo kStr kStr r30_b3 r30.2.2.notes_] ++ F0) w) ?_ ?_
      · refine cw_seq ?_
        refine cw_open 9 (SAT w0 ([imm I, pt r25_b1 #[.map (some r30_b1), .map (some r30_b3), .string r30.2.2.twins_.e0, .string r30.2.2.twins_.e1, .bool r30.2.2.found_, .bool r30.2.2.full_, .int .i64 r30.2.2.sums_] 60, pt b21 #[.int .i64 r23.Size, .slice r23_p1 r23.Picks.length r23_c2, .slice r23_p4 r23.Leaf.length r23_c5, .slice r23_p7 r23.Nodes.length r23_c8] 25, mpo kStr kStr r30_b1 r30.2.2.table_, mpo kStr kStr r30_b3 r30.2.2.notes_])) (by kernel_rfl) (f := 9) rfl (fun w hs => sat_drew hs) ?_
        refine aw_vals [0, 3, 5] (f' := 6) (m' := 41) [1, 3, 4, 5, 33, 36, 38] [(1, .pointer (some ⟨b21, 0, none⟩)), (3, .pointer (some ⟨r25_b1, 0, none⟩)), (4, .string r30.1), (5, .int .i64 r30.2.1), (33, .pointer (some ⟨b21, 3, none⟩)), (36, .pointer (some ⟨b21, 0, none⟩)), (38, .pointer (some ⟨b21, 1, none⟩))] (fun _ _ _ _ _ h => calm_fin (P := Try.prog) (fn := Try.f3) _ _ _ _ _ h) (fun w hs => sat_pulls [0, 0, 0, 0, 0] (G := [] ++ F0) rfl hs) rfl (by kernel_rfl) ?_
        refine aw_quiet 1 (m' := 43) (v := .slice r23_p7 r23.Nodes.length r23_c8) 0 [] rfl rfl rfl rfl (by kernel_rfl) (by kernel_rfl) (by kernel_rfl) (fun _ _ _ _ _ h => calm_fin (P := Try.prog) (fn := Try.f3) _ _ _ _ _ h) (fun w hs => sat_pulls [0, 0, 0, 0, 0] (G := [] ++ F0) rfl hs) (q_load 2 rfl rfl rfl (by kernel_rfl)) ?_
        refine aw_vals [2] (f' := 4) (m' := 47) [1, 3, 4, 5, 35, 36, 38] [(1, .pointer (some ⟨b21, 0, none⟩)), (3, .pointer (some ⟨r25_b1, 0, none⟩)), (4, .string r30.1), (5, .int .i64 r30.2.1), (35, .int .i64 (r23.Nodes.length : Int)), (36, .pointer (some ⟨b21, 0, none⟩)), (38, .pointer (some ⟨b21, 1, none⟩))] (fun _ _ _ _ _ h => calm_fin (P := Try.prog) (fn := Try.f3) _ _ _ _ _ h) (fun w hs => sat_pulls [0, 0, 0, 0, 0] (G := [] ++ F0) rfl hs) rfl (by kernel_rfl) ?_
        refine aw_quiet 4 (m' := 63) (v := .int .i64 r23.Size) 0 [] rfl rfl rfl rfl (by kernel_rfl) (by kernel_rfl) (by kernel_rfl) (fun _ _ _ _ _ h => calm_fin (P := Try.prog) (fn := Try.f3) _ _ _ _ _ h) (fun w hs => sat_pulls [0, 0, 0, 0, 0] (G := [] ++ F0) rfl hs) (q_load 2 rfl rfl rfl (by kernel_rfl)) ?_
        refine aw_quiet 6 (m' := 127) (v := .slice r23_p1 r23.Picks.length r23_c2) 0 [] rfl rfl rfl rfl (by kernel_rfl) (by kernel_rfl) (by kernel_rfl) (fun _ _ _ _ _ h => calm_fin (P := Try.prog) (fn := Try.f3) _ _ _ _ _ h) (fun w hs => sat_pulls [0, 0, 0, 0, 0] (G := [] ++ F0) rfl hs) (q_load 2 rfl rfl rfl (by kernel_rfl)) ?_
        obtain ⟨r48, h49, hF⟩ := bind_some hF
        refine aw_only 7 (m' := 255) (by kernel_rfl) (by kernel_rfl) (pw_call (F := [pt r25_b1 #[.map (some r30_b1), .map (some r30_b3), .string r30.2.2.twins_.e0, .string r30.2.2.twins_.e1, .bool r30.2.2.found_, .bool r30.2.2.full_, .int .i64 r30.2.2.sums_] 60, pt b21 #[.int .i64 r23.Size, .slice r23_p1 r23.Picks.length r23_c2, .slice r23_p4 r23.Leaf.length r23_c5, .slice r23_p7 r23.Nodes.length r23_c8] 25, mpo kStr kStr r30_b1 r30.2.2.table_, mpo kStr kStr r30_b3 r30.2.2.notes_] ++ F0) rfl rfl rfl rfl rfl rfl rfl (by kernel_rfl) (perm_of_pulls [0] rfl) (c_law30_many FUEL _ 0 r23.Size r23.Picks r23_p1 r23_c2 r48 h49 r23_h3) ?_)
        rintro _ _ ⟨rfl, rfl⟩
        refine nw_H (H' := [imm I, pt r25_b1 #[.map (some r30_b1), .map (some r30_b3), .string r30.2.2.twins_.e0, .string r30.2.2.twins_.e1, .bool r30.2.2.found_, .bool r30.2.2.full_, .int .i64 r30.2.2.sums_] 60, pt b21 #[.int .i64 r23.Size, .slice r23_p1 r23.Picks.length r23_c2, .slice r23_p4 r23.Leaf.length r23_c5, .slice r23_p7 r23.Nodes.length r23_c8] 25, mpo kStr kStr r30_b1 r30.2.2.table_, mpo kStr kStr r30_b3 r30.2.2.notes_] ++ F0) rfl (aw_next (fun w hs => sat_pulls [0, 0, 0, 0, 0] (G := [] ++ F0) rfl hs) ?_)
        refine aw_vals [8] (f' := 0) (m' := 511) [1, 3, 4, 5, 41] [(1, .pointer (some ⟨b21, 0, none⟩)), (3, .pointer (some ⟨r25_b1, 0, none⟩)), (4, .string r30.1), (5, .int .i64 r30.2.1), (41, .bool ((r23.Nodes.length : Int) != r48))] (fun _ _ _ _ _ h => calm_fin (P := Try.prog) (fn := Try.f3) _ _ _ _ _ h) (fun w hs => sat_pulls [0, 0, 0, 0, 0] (G := [] ++ F0) rfl hs) rfl (by kernel_rfl) ?_
        refine aw_keep [1, 3, 4, 5, 41] (L' := [(1, .pointer (some ⟨b21, 0, none⟩)), (3, .pointer (some ⟨r25_b1, 0, none⟩)), (4, .string r30.1), (5, .int .i64 r30.2.1), (41, .bool ((r23.Nodes.length : Int) != r48))]) rfl ?_
        refine aw_end (by kernel_rfl) ?_
        refine ew_then ?_
        rcases if_some hF with ⟨h50, hF⟩ | ⟨h50, hF⟩
        · refine cw_cond_t rfl rfl h50 ?_
          refine cw_seq ?_
          refine cw_region ?_
          refine ow_vals 3 (j := 3) [5, 44] [(5, .int .i64 r30.2.1), (44, .bool (seqB r30.1 (ByteArray.mk #[])))] rfl (by kernel_rfl) ?_
          rcases if_some hF with ⟨h51, hF⟩ | ⟨h51, hF⟩
          · refine ow_slots (L' := [(5, .int .i64 r30.2.1), (44, .bool true)]) (by rw [h51]) ?_
            refine ow_vals 4 (j := 7) [48] [(48, .bool (r30.2.1 == 20))] rfl (by kernel_rfl) ?_
            rcases if_some hF with ⟨h52, hF⟩ | ⟨h52, hF⟩
            · refine ow_slots (L' := [(48, .bool true)]) (by rw [h52]) ?_
              obtain ⟨r53, h54, hF⟩ := bind_some hF
              refine ow_pw rfl (pw_call (F := [pt r25_b1 #[.map (some r30_b1), .map (some r30_b3), .string r30.2.2.twins_.e0, .string r30.2.2.twins_.e1, .bool r30.2.2.found_, .bool r30.2.2.full_, .int .i64 r30.2.2.sums_] 60, pt b21 #[.int .i64 r23.Size, .slice r23_p1 r23.Picks.length r23_c2, .slice r23_p4 r23.Leaf.length r23_c5, .slice r23_p7 r23.Nodes.length r23_c8] 25, mpo kStr kStr r30_b1 r30.2.2.table_, mpo kStr kStr r30_b3 r30.2.2.notes_] ++ F0) rfl rfl rfl rfl rfl rfl rfl (by kernel_rfl) (perm_of_pulls [0] rfl) (c_law30_awake _ r53 h54) ?_)
              rintro _ _ ⟨r53_J, rfl, rfl, r53_hJ⟩
              refine nw_H (H' := [imm r53_J, pt r25_b1 #[.map (some r30_b1), .map (some r30_b3), .string r30.2.2.twins_.e0, .string r30.2.2.twins_.e1, .bool r30.2.2.found_, .bool r30.2.2.full_, .int .i64 r30.2.2.sums_] 60, pt b21 #[.int .i64 r23.Size, .slice r23_p1 r23.Picks.length r23_c2, .slice r23_p4 r23.Leaf.length r23_c5, .slice r23_p7 r23.Nodes.length r23_c8] 25, mpo kStr kStr r30_b1 r30.2.2.table_, mpo kStr kStr r30_b3 r30.2.2.notes_] ++ F0) rfl (nw_ow ?_)
              have r23_h3 := ro.sub r53_hJ r23_h3
              have r23_h6 := ro.sub r53_hJ r23_h6
              have r23_h9 := ro.sub r53_hJ r23_h9
              refine ow_vals 2 (j := 10) [2] [(2, .bool r53)] rfl (by kernel_rfl) ?_
              refine ow_end rfl ?_
              refine ew_then ?_
              refine cw_ret ?_
              refine ew_then_ret ?_
              have hR := Option.some.inj hF
              subst hR
              have hR := hK47
              try dsimp only [Thru] at hR
              subst hR
              exact fin1 (H1 := [imm r53_J]) (fun w hs => sat_to [1, 1, 1, 1, 0] 4 rfl hs) rfl (rr_tmp rfl) ⟨r53_J, rfl, rfl, r53_hJ⟩
            · refine ow_slots (L' := [(48, .bool false)]) (by rw [h52]) ?_
              refine ow_vals 3 (j := 10) [2] [(2, .bool false)] rfl (by kernel_rfl) ?_
              refine ow_end rfl ?_
              refine ew_then ?_
              refine cw_ret ?_
              refine ew_then_ret ?_
              have hR := Option.some.inj hF
              subst hR
              have hR := hK47
              try dsimp only [Thru] at hR
              subst hR
              exact fin1 (H1 := [imm I]) (fun w hs => sat_to [1, 1, 1, 1, 0] 4 rfl hs) rfl (rr_tmp rfl) ⟨I, rfl, rfl, Hl.sub_refl _⟩
          · refine ow_slots (L' := [(5, .int .i64 r30.2.1), (44, .bool false)]) (by rw [h51]) ?_
            refine ow_vals 7 (j := 10) [2] [(2, .bool false)] rfl (by kernel_rfl) ?_
            refine ow_end rfl ?_
            refine ew_then ?_
            refine cw_ret ?_
            refine ew_then_ret ?_
            have hR := Option.some.inj hF
            subst hR
            have hR := hK47
            try dsimp only [Thru] at hR
            subst hR
            exact fin1 (H1 := [imm I]) (fun w hs => sat_to [1, 1, 1, 1, 0] 4 rfl hs) rfl (rr_tmp rfl) ⟨I, rfl, rfl, Hl.sub_refl _⟩
        · refine cw_cond_f rfl rfl h50 ?_
          refine cw_skip ?_
          have hR := Option.some.inj hF
          exact fun a w hf hs => ⟨hR, hf.keep [1, 3, 4, 5], sat_to [0, 0, 0, 0, 0] 0 rfl hs⟩
      · rintro a w ⟨hv, hf, hs⟩
        subst hv
        replace hF := hK47
        clear hK47
        try dsimp only [Thru] at hF
        revert a w
        show CW _ _ _ 73 [(1, .pointer (some ⟨b21, 0, none⟩)), (3, .pointer (some ⟨r25_b1, 0, none⟩)), (4, .string r30.1), (5, .int .i64 r30.2.1)] (SAT w0 ([imm I, pt r25_b1 #[.map (some r30_b1), .map (some r30_b3), .string r30.2.2.twins_.e0, .string r30.2.2.twins_.e1, .bool r30.2.2.found_, .bool r30.2.2.full_, .int .i64 r30.2.2.sums_] 60, pt b21 #[.int .i64 r23.Size, .slice r23_p1 r23.Picks.length r23_c2, .slice r23_p4 r23.Leaf.length r23_c5, .slice r23_p7 r23.Nodes.length r23_c8] 25, mpo kStr kStr r30_b1 r30.2.2.table_, mpo kStr kStr r30_b3 r30.2.2.notes_] ++ F0))
        unfold F.law30_BatchRoots.r2 at hF
        refine cw_seq ?_
        refine cw_region ?_
        refine ow_vals 1 (j := 1) [1, 3, 4, 5, 51] [(1, .pointer (some ⟨b21, 0, none⟩)), (3, .pointer (some ⟨r25_b1, 0, none⟩)), (4, .string r30.1), (5, .int .i64 r30.2.1), (51, .pointer (some ⟨b21, 2, none⟩))] rfl (by kernel_rfl) ?_
        refine ow_pw rfl (pw_quiet (v := .slice r23_p4 r23.Leaf.length r23_c5) rfl rfl rfl rfl (q_load 2 rfl rfl rfl (by kernel_rfl)) (nw_ow ?_))
        refine ow_vals 1 (j := 3) [1, 3, 4, 5, 52, 53] [(1, .pointer (some ⟨b21, 0, none⟩)), (3, .pointer (some ⟨r25_b1, 0, none⟩)), (4, .string r30.1), (5, .int .i64 r30.2.1), (52, .slice r23_p4 r23.Leaf.length r23_c5), (53, .pointer (some ⟨b21, 3, none⟩))] rfl (by kernel_rfl) ?_
        refine ow_pw rfl (pw_quiet (v := .slice r23_p7 r23.Nodes.length r23_c8) rfl rfl rfl rfl (q_load 2 rfl rfl rfl (by kernel_rfl)) (nw_ow ?_))
        refine ow_vals 1 (j := 5) [1, 3, 4, 5, 55] [(1, .pointer (some ⟨b21, 0, none⟩)), (3, .pointer (some ⟨r25_b1, 0, none⟩)), (4, .string r30.1), (5, .int .i64 r30.2.1), (55, .agg #[.slice r23_p4 r23.Leaf.length r23_c5, .slice r23_p7 r23.Nodes.length r23_c8])] rfl (by kernel_rfl) ?_
        refine ow_pw rfl (pw_box (cs := #[.slice r23_p4 r23.Leaf.length r23_c5, .slice r23_p7 r23.Nodes.length r23_c8]) rfl rfl rfl rfl rfl rfl fun b55 => nw_ow ?_)
        refine ow_vals 1 (j := 7) [1, 3, 4, 5, 6] [(1, .pointer (some ⟨b21, 0, none⟩)), (3, .pointer (some ⟨r25_b1, 0, none⟩)), (4, .string r30.1), (5, .int .i64 r30.2.1), (6, .pointer (some ⟨b55, 0, none⟩))] rfl (by kernel_rfl) ?_
        refine ow_end rfl ?_
        refine ew_then ?_
        refine cw_seq ?_
        refine cw_region ?_
        refine ow_vals 3 (j := 3) [1, 3, 4, 6, 59] [(1, .pointer (some ⟨b21, 0, none⟩)), (3, .pointer (some ⟨r25_b1, 0, none⟩)), (4, .string r30.1), (6, .pointer (some ⟨b55, 0, none⟩)), (59, .bool (r30.2.1 == 0))] rfl (by kernel_rfl) ?_
        rcases if_some hF with ⟨h57, hF⟩ | ⟨h57, hF⟩
        · refine ow_slots (L' := [(1, .pointer (some ⟨b21, 0, none⟩)), (3, .pointer (some ⟨r25_b1, 0, none⟩)), (4, .string r30.1), (6, .pointer (some ⟨b55, 0, none⟩)), (59, .bool true)]) (by rw [h57]) ?_
          refine ow_vals 4 (j := 7) [1, 59, 60, 61, 62, 63] [(1, .pointer (some ⟨b21, 0, none⟩)), (59, .bool true), (60, .string r30.1), (61, .pointer (some ⟨b55, 0, none⟩)), (62, .pointer (some ⟨r25_b1, 0, none⟩)), (63, .pointer (some ⟨b21, 0, none⟩))] rfl (by kernel_rfl) ?_
          refine ow_pw rfl (pw_quiet (v := .int .i64 r23.Size) rfl rfl rfl rfl (q_load 3 rfl rfl rfl (by kernel_rfl)) (nw_ow ?_))
          refine ow_vals 1 (j := 9) [59, 60, 61, 62, 64, 65] [(59, .bool true), (60, .string r30.1), (61, .pointer (some ⟨b55, 0, none⟩)), (62, .pointer (some ⟨r25_b1, 0, none⟩)), (64, .int .i64 r23.Size), (65, .pointer (some ⟨b21, 1, none⟩))] rfl (by kernel_rfl) ?_
          refine ow_pw rfl (pw_quiet (v := .slice r23_p1 r23.Picks.length r23_c2) rfl rfl rfl rfl (q_load 3 rfl rfl rfl (by kernel_rfl)) (nw_ow ?_))
          obtain ⟨r58, h59, hF⟩ := bind_some hF
          refine ow_pw rfl (pw_call (F := [pt b21 #[.int .i64 r23.Size, .slice r23_p1 r23.Picks.length r23_c2, .slice r23_p4 r23.Leaf.length r23_c5, .slice r23_p7 r23.Nodes.length r23_c8] 25] ++ F0) rfl rfl rfl rfl rfl rfl rfl (by kernel_rfl) (perm_of_pulls [1, 0, 0, 1, 1] rfl) (c_law30_plain_build FUEL _ 0 r23.Size r23.Picks (⟨r23.Leaf, r23.Nodes⟩ : law30_plain) r30.2.2 r23_p1 r23_c2 r23_p4 r23_c5 r23_p7 r23_c8 b55 r30_b1 r30_b3 r25_b1 r58 h59 r23_h3 r23_h6 r23_h9) ?_)
          rintro _ _ ⟨r58_p1, r58_c2, r58_p4, r58_c5, r58_b7, r58_b9, rfl, rfl, r58_h3, r58_h6⟩
          refine nw_H (H' := [imm I, pt b55 #[.slice r58_p1 r58.2.1.leaf_.length r58_c2, .slice r58_p4 r58.2.1.nodes_.length r58_c5] 37, pt r25_b1 #[.map (some r58_b7), .map (some r58_b9), .string r58.2.2.twins_.e0, .string r58.2.2.twins_.e1, .bool r58.2.2.found_, .bool r58.2.2.full_, .int .i64 r58.2.2.sums_] 60, mpo kStr kStr r58_b7 r58.2.2.table_, mpo kStr kStr r58_b9 r58.2.2.notes_, pt b21 #[.int .i64 r23.Size, .slice r23_p1 r23.Picks.length r23_c2, .slice r23_p4 r23.Leaf.length r23_c5, .slice r23_p7 r23.Nodes.length r23_c8] 25] ++ F0) rfl (nw_ow ?_)
          refine ow_vals 3 (j := 14) [70] [(70, .bool (seqB r30.1 r58.1))] rfl (by kernel_rfl) ?_
          rcases if_some hF with ⟨h62, hF⟩ | ⟨h62, hF⟩
          · refine ow_slots (L' := [(70, .bool true)]) (by rw [h62]) ?_
            obtain ⟨r63, h64, hF⟩ := bind_some hF
            refine ow_pw rfl (pw_call (F := [pt b55 #[.slice r58_p1 r58.2.1.leaf_.length r58_c2, .slice r58_p4 r58.2.1.nodes_.length r58_c5] 37, pt r25_b1 #[.map (some r58_b7), .map (some r58_b9), .string r58.2.2.twins_.e0, .string r58.2.2.twins_.e1, .bool r58.2.2.found_, .bool r58.2.2.full_, .int .i64 r58.2.2.sums_] 60, mpo kStr kStr r58_b7 r58.2.2.table_, mpo kStr kStr r58_b9 r58.2.2.notes_, pt b21 #[.int .i64 r23.Size, .slice r23_p1 r23.Picks.length r23_c2, .slice r23_p4 r23.Leaf.length r23_c5, .slice r23_p7 r23.Nodes.length r23_c8] 25] ++ F0) rfl rfl rfl rfl rfl rfl rfl (by kernel_rfl) (perm_of_pulls [0] rfl) (c_law30_awake _ r63 h64) ?_)
            rintro _ _ ⟨r63_J, rfl, rfl, r63_hJ⟩
            refine nw_H (H' := [imm r63_J, pt b55 #[.slice r58_p1 r58.2.1.leaf_.length r58_c2, .slice r58_p4 r58.2.1.nodes_.length r58_c5] 37, pt r25_b1 #[.map (some r58_b7), .map (some r58_b9), .string r58.2.2.twins_.e0, .string r58.2.2.twins_.e1, .bool r58.2.2.found_, .bool r58.2.2.full_, .int .i64 r58.2.2.sums_] 60, mpo kStr kStr r58_b7 r58.2.2.table_, mpo kStr kStr r58_b9 r58.2.2.notes_, pt b21 #[.int .i64 r23.Size, .slice r23_p1 r23.Picks.length r23_c2, .slice r23_p4 r23.Leaf.length r23_c5, .slice r23_p7 r23.Nodes.length r23_c8] 25] ++ F0) rfl (nw_ow ?_)
            have r23_h3 := ro.sub r63_hJ r23_h3
            have r23_h6 := ro.sub r63_hJ r23_h6
            have r23_h9 := ro.sub r63_hJ r23_h9
            have r58_h3 := ro.sub r63_hJ r58_h3
            have r58_h6 := ro.sub r63_hJ r58_h6
            refine ow_vals 2 (j := 17) [2] [(2, .bool r63)] rfl (by kernel_rfl) ?_
            refine ow_end rfl ?_
            refine ew_then ?_
            refine cw_ret ?_
            have hR := Option.some.inj hF
            subst hR
            exact fin1 (H1 := [imm r63_J]) (fun w hs => sat_to [1, 1, 1, 1, 1, 0] 5 rfl hs) rfl (rr_tmp rfl) ⟨r63_J, rfl, rfl, r63_hJ⟩
          · refine ow_slots (L' := [(70, .bool false)]) (by rw [h62]) ?_
            refine ow_vals 3 (j := 17) [2] [(2, .bool false)] rfl (by kernel_rfl) ?_
            refine ow_end rfl ?_
            refine ew_then ?_
            refine cw_ret ?_
            have hR := Option.some.inj hF
            subst hR
            exact fin1 (H1 := [imm I]) (fun w hs => sat_to [1, 1, 1, 1, 1, 0] 5 rfl hs) rfl (rr_tmp rfl) ⟨I, rfl, rfl, Hl.sub_refl _⟩
        · refine ow_slots (L' := [(1, .pointer (some ⟨b21, 0, none⟩)), (3, .pointer (some ⟨r25_b1, 0, none⟩)), (4, .string r30.1), (6, .pointer (some ⟨b55, 0, none⟩)), (59, .bool false)]) (by rw [h57]) ?_
          refine ow_vals 14 (j := 17) [2] [(2, .bool false)] rfl (by kernel_rfl) ?_
          refine ow_end rfl ?_
          refine ew_then ?_
          refine cw_ret ?_
          have hR := Option.some.inj hF
          subst hR
          exact fin1 (H1 := [imm I]) (fun w hs => sat_to [0, 1, 1, 1, 1, 0] 5 rfl hs) rfl (rr_tmp rfl) ⟨I, rfl, rfl, Hl.sub_refl _⟩

end Go.Proofs.Ytoamnhmdhficiaa
