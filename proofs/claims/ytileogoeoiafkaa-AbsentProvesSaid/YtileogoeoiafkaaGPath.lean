/- What the functions compute, and that the code computes it: printed by a program of this claim (wip/tools), for the group Path. -/
import Derived.Test.YtileogoeoiafkaaGTid
namespace Go.Proofs.Ytileogoeoiafkaa
set_option linter.all false
open Go Go.RowKit Go.Fw
set_option linter.unusedVariables false

def F.law07_Path : Nat → (List ByteArray) → Int → mill_Mill → Option ((List ByteArray) × mill_Mill)
  | 0, _, _, _ => none
  | k + 1, x1, x2, m0 => if decide ((x1.length : Int) < 2) then (some ((([] : List ByteArray), m0))) else (Option.bind (F.law07_below (x1.length : Int)) (fun (r22 : Int) => if decide (x2 < r22) then (chk (0 ≤ (0 : Int) ∧ (0 : Int) ≤ r22 ∧ r22 ≤ (x1.length : Int)) (Option.bind ((F.law07_Path k) ((x1.drop (0 : Int).toNat).take (r22.toNat - (0 : Int).toNat)) x2 m0) (fun (r29 : (List ByteArray) × mill_Mill) => chk (0 ≤ r22 ∧ r22 ≤ (x1.length : Int) ∧ (x1.length : Int) ≤ (x1.length : Int)) (Option.bind (F.law07_Root FUEL ((x1.drop r22.toNat).take ((x1.length : Int).toNat - r22.toNat)) r29.2) (fun (r38 : ByteArray × mill_Mill) => chk (room (r29.1.length + ([r38.1] : List ByteArray).length) 16) (some ((r29.1 ++ ([r38.1] : List ByteArray), r38.2)))))))) else (chk (0 ≤ r22 ∧ r22 ≤ (x1.length : Int) ∧ (x1.length : Int) ≤ (x1.length : Int)) (Option.bind ((F.law07_Path k) ((x1.drop r22.toNat).take ((x1.length : Int).toNat - r22.toNat)) (IntKind.i64.wrap (x2 - r22)) m0) (fun (r51 : (List ByteArray) × mill_Mill) => chk (0 ≤ (0 : Int) ∧ (0 : Int) ≤ r22 ∧ r22 ≤ (x1.length : Int)) (Option.bind (F.law07_Root FUEL ((x1.drop (0 : Int).toNat).take (r22.toNat - (0 : Int).toNat)) r51.2) (fun (r60 : ByteArray × mill_Mill) => chk (room (r51.1.length + ([r60.1] : List ByteArray).length) 16) (some ((r51.1 ++ ([r60.1] : List ByteArray), r60.2))))))))))
set_option maxRecDepth 100000 in
set_option maxHeartbeats 4000000 in
theorem c_law07_Path (k : Nat) : ∀ (I : Hl) (x1 : List ByteArray) (x2 : Int) (m0 : mill_Mill) (p0 : Option Addr) (c0 : Nat) (p1 : Nat) (p2 : Nat) (b0 : Nat) (res : (List ByteArray) × mill_Mill) (hF : F.law07_Path k x1 x2 m0 = some res) (hr0 : ro I eStr p0 c0 x1), Tr Try.prog 20 [.pointer (some ⟨b0, 0, none⟩), .slice p0 x1.length c0, .int .i64 x2] [imm I, pt b0 #[.map (some p1), .map (some p2), .string m0.twins_.e0, .string m0.twins_.e1, .bool m0.found_, .bool m0.full_, .int .i64 m0.sums_] 64, mpo kStr kStr p1 m0.table_, mpo kStr kStr p2 m0.notes_] (fun r H' => ∃ (pq1 : Option Addr), ∃ (cq2 : Nat), ∃ (bq4 : Nat), ∃ (bq6 : Nat), r = .slice pq1 res.1.length cq2 ∧ H' = [imm I, pt b0 #[.map (some bq4), .map (some bq6), .string res.2.twins_.e0, .string res.2.twins_.e1, .bool res.2.found_, .bool res.2.full_, .int .i64 res.2.sums_] 64, own eStr 9 pq1 cq2 res.1, mpo kStr kStr bq4 res.2.table_, mpo kStr kStr bq6 res.2.notes_]) := by
  induction k with
  | zero => intro I x1 x2 m0 p0 c0 p1 p2 b0 res hF hr0; cases hF
  | succ k ih =>
    intro I x1 x2 m0 p0 c0 p1 p2 b0 res hF hr0
    rw [F.law07_Path] at hF
    refine tr_of_cw (fn := Try.f20) Try.func20 rfl (Nat.le_of_ble_eq_true rfl) 49 rfl fun F0 w0 => ?_
    refine cw_keep [0, 1, 2] (L' := [(0, .pointer (some ⟨b0, 0, none⟩)), (1, .slice p0 x1.length c0), (2, .int .i64 x2)]) rfl ?_
    refine cw_state (S' := SAT w0 ([imm I, pt b0 #[.map (some p1), .map (some p2), .string m0.twins_.e0, .string m0.twins_.e1, .bool m0.found_, .bool m0.full_, .int .i64 m0.sums_] 64, mpo kStr kStr p1 m0.table_, mpo kStr kStr p2 m0.notes_] ++ F0)) (fun w hs => hs) ?_
    refine cw_seq ?_
    refine cw_region ?_
    refine ow_vals 1 (j := 1) [0, 1, 2] [(0, .pointer (some ⟨b0, 0, none⟩)), (1, .slice p0 x1.length c0), (2, .int .i64 x2)] rfl (by kernel_rfl) ?_
    refine ow_end rfl ?_
    refine ew_then ?_
    refine cw_seq ?_
    refine cw_seq ?_
    refine cw_region ?_
    refine ow_vals 3 (j := 3) [0, 1, 2, 12] [(0, .pointer (some ⟨b0, 0, none⟩)), (1, .slice p0 x1.length c0), (2, .int .i64 x2), (12, .bool (decide ((x1.length : Int) < 2)))] rfl (by kernel_rfl) ?_
    refine ow_end rfl ?_
    refine ew_then ?_
    rcases if_some hF with ⟨h21, hF⟩ | ⟨h21, hF⟩
    · refine cw_cond_t rfl rfl h21 ?_
      refine cw_seq ?_
      refine cw_region ?_
      refine ow_vals 1 (j := 1) [6] [(6, .slice none 0 0)] rfl (by kernel_rfl) ?_
      refine ow_end rfl ?_
      refine ew_then ?_
      refine cw_ret ?_
      refine ew_then_ret ?_
      have hR := Option.some.inj hF
      subst hR
      exact fin1 (H1 := [imm I, pt b0 #[.map (some p1), .map (some p2), .string m0.twins_.e0, .string m0.twins_.e1, .bool m0.found_, .bool m0.full_, .int .i64 m0.sums_] 64, own eStr 9 none 0 ([] : List ByteArray), mpo kStr kStr p1 m0.table_, mpo kStr kStr p2 m0.notes_]) (fun w hs => sat_to [1, 1, 0, 0, 0] 0 rfl (sat_own_nil eStr 9 hs)) rfl (rr_tmp rfl) ⟨none, 0, p1, p2, rfl, rfl⟩
    refine cw_cond_f rfl rfl h21 ?_
    refine cw_skip ?_
    refine ew_then ?_
    refine cw_seq ?_
    refine cw_region ?_
    refine ow_vals 2 (j := 2) [0, 1, 2, 14] [(0, .pointer (some ⟨b0, 0, none⟩)), (1, .slice p0 x1.length c0), (2, .int .i64 x2), (14, .int .i64 (x1.length : Int))] rfl (by kernel_rfl) ?_
    obtain ⟨r22, h23, hF⟩ := bind_some hF
    refine ow_pw rfl (pw_call (F := [pt b0 #[.map (some p1), .map (some p2), .string m0.twins_.e0, .string m0.twins_.e1, .bool m0.found_, .bool m0.full_, .int .i64 m0.sums_] 64, mpo kStr kStr p1 m0.table_, mpo kStr kStr p2 m0.notes_] ++ F0) rfl rfl rfl rfl rfl rfl rfl (by kernel_rfl) (perm_of_pulls [0] rfl) (c_law07_below _ (x1.length : Int) r22 h23) ?_)
    rintro _ _ ⟨rfl, rfl⟩
    refine nw_H (H' := [imm I, pt b0 #[.map (some p1), .map (some p2), .string m0.twins_.e0, .string m0.twins_.e1, .bool m0.found_, .bool m0.full_, .int .i64 m0.sums_] 64, mpo kStr kStr p1 m0.table_, mpo kStr kStr p2 m0.notes_] ++ F0) rfl (nw_ow ?_)
    refine ow_vals 1 (j := 4) [0, 1, 2, 7] [(0, .pointer (some ⟨b0, 0, none⟩)), (1, .slice p0 x1.length c0), (2, .int .i64 x2), (7, .int .i64 r22)] rfl (by kernel_rfl) ?_
    refine ow_end rfl ?_
    refine ew_then ?_
    refine cw_seq ?_
    refine cw_seq ?_
    refine cw_region ?_
    refine ow_vals 3 (j := 3) [0, 1, 2, 7, 18] [(0, .pointer (some ⟨b0, 0, none⟩)), (1, .slice p0 x1.length c0), (2, .int .i64 x2), (7, .int .i64 r22), (18, .bool (decide (x2 < r22)))] rfl (by kernel_rfl) ?_
    refine ow_end rfl ?_
    refine ew_then ?_
    rcases if_some hF with ⟨h24, hF⟩ | ⟨h24, hF⟩
    · refine cw_cond_t rfl rfl h24 ?_
      refine cw_seq ?_
      refine cw_region ?_
      refine ow_vals 3 (j := 3) [0, 1, 2, 7, 19, 20, 21] [(0, .pointer (some ⟨b0, 0, none⟩)), (1, .slice p0 x1.length c0), (2, .int .i64 x2), (7, .int .i64 r22), (19, .pointer (some ⟨b0, 0, none⟩)), (20, .slice p0 x1.length c0), (21, .int .i64 r22)] rfl (by kernel_rfl) ?_
      obtain ⟨h25, hF⟩ := chk_some hF
      refine ow_pw rfl (pw_slice_ro (E := 9) 1 hr0 rfl rfl rfl rfl rfl (by kernel_rfl) rfl rfl rfl rfl h25 fun p26 c27 h28 => nw_ow ?_)
      refine ow_vals 1 (j := 5) [0, 1, 7, 19, 22, 23] [(0, .pointer (some ⟨b0, 0, none⟩)), (1, .slice p0 x1.length c0), (7, .int .i64 r22), (19, .pointer (some ⟨b0, 0, none⟩)), (22, .slice p26 ((x1.drop (0 : Int).toNat).take (r22.toNat - (0 : Int).toNat)).length c27), (23, .int .i64 x2)] rfl (by kernel_rfl) ?_
      obtain ⟨r29, h30, hF⟩ := bind_some hF
      refine ow_pw rfl (pw_call (F := [] ++ F0) rfl rfl rfl rfl rfl rfl rfl (by kernel_rfl) (perm_of_pulls [0, 0, 0, 0] rfl) (ih _ ((x1.drop (0 : Int).toNat).take (r22.toNat - (0 : Int).toNat)) x2 m0 p26 c27 p1 p2 b0 r29 h30 h28) ?_)
      rintro _ _ ⟨r29_p1, r29_c2, r29_b4, r29_b6, rfl, rfl⟩
      refine nw_H (H' := [imm I, pt b0 #[.map (some r29_b4), .map (some r29_b6), .string r29.2.twins_.e0, .string r29.2.twins_.e1, .bool r29.2.found_, .bool r29.2.full_, .int .i64 r29.2.sums_] 64, own eStr 9 r29_p1 r29_c2 r29.1, mpo kStr kStr r29_b4 r29.2.table_, mpo kStr kStr r29_b6 r29.2.notes_] ++ F0) rfl (nw_ow ?_)
      refine ow_vals 1 (j := 7) [0, 1, 7, 8] [(0, .pointer (some ⟨b0, 0, none⟩)), (1, .slice p0 x1.length c0), (7, .int .i64 r22), (8, .slice r29_p1 r29.1.length r29_c2)] rfl (by kernel_rfl) ?_
      refine ow_end rfl ?_
      refine ew_then ?_
      refine cw_seq ?_
      refine cw_region ?_
      refine ow_vals 4 (j := 4) [25, 26, 27, 28] [(25, .slice r29_p1 r29.1.length r29_c2), (26, .pointer (some ⟨b0, 0, none⟩)), (27, .slice p0 x1.length c0), (28, .int .i64 r22)] rfl (by kernel_rfl) ?_
      obtain ⟨h34, hF⟩ := chk_some hF
      refine ow_pw rfl (pw_slice_ro (E := 9) 1 hr0 rfl rfl rfl rfl rfl (by kernel_rfl) rfl rfl rfl rfl h34 fun p35 c36 h37 => nw_ow ?_)
      obtain ⟨r38, h39, hF⟩ := bind_some hF
      refine ow_pw rfl (pw_call (F := [own eStr 9 r29_p1 r29_c2 r29.1] ++ F0) rfl rfl rfl rfl rfl rfl rfl (by kernel_rfl) (perm_of_pulls [0, 0, 1, 1] rfl) (c_law07_Root FUEL _ ((x1.drop r22.toNat).take ((x1.length : Int).toNat - r22.toNat)) r29.2 p35 c36 r29_b4 r29_b6 b0 r38 h39 h37) ?_)
      rintro _ _ ⟨r38_b1, r38_b3, rfl, rfl⟩
      refine nw_H (H' := [imm I, pt b0 #[.map (some r38_b1), .map (some r38_b3), .string r38.2.twins_.e0, .string r38.2.twins_.e1, .bool r38.2.found_, .bool r38.2.full_, .int .i64 r38.2.sums_] 64, mpo kStr kStr r38_b1 r38.2.table_, mpo kStr kStr r38_b3 r38.2.notes_, own eStr 9 r29_p1 r29_c2 r29.1] ++ F0) rfl (nw_ow ?_)
      refine ow_pw rfl (pw_buildSlice (E := 9) eStr ([r38.1] : List ByteArray) rfl rfl rfl rfl rfl (by kernel_rfl) rfl (by kernel_rfl) rfl (by decide) rfl fun p42 => nw_ow ?_)
      obtain ⟨h44, hF⟩ := chk_some hF
      refine ow_pw rfl (pw_append 5 (l' := ([r38.1] : List ByteArray)) rfl rfl rfl rfl rfl rfl (by kernel_rfl) (by kernel_rfl) rfl rfl rfl (src_own (E' := 9) 0 rfl (by kernel_rfl) rfl) rfl h44.1 h44.2 fun p45 c46 => nw_H (H' := [own eStr 9 p42 1 ([r38.1] : List ByteArray), imm I, pt b0 #[.map (some r38_b1), .map (some r38_b3), .string r38.2.twins_.e0, .string r38.2.twins_.e1, .bool r38.2.found_, .bool r38.2.full_, .int .i64 r38.2.sums_] 64, mpo kStr kStr r38_b1 r38.2.table_, mpo kStr kStr r38_b3 r38.2.notes_, own eStr 9 p45 c46 (r29.1 ++ ([r38.1] : List ByteArray))] ++ F0) rfl (nw_ow ?_))
      refine ow_vals 1 (j := 9) [6] [(6, .slice p45 (r29.1 ++ ([r38.1] : List ByteArray)).length c46)] rfl (by kernel_rfl) ?_
      refine ow_end rfl ?_
      refine ew_then ?_
      refine cw_ret ?_
      refine ew_then_ret ?_
      have hR := Option.some.inj hF
      subst hR
      exact fin1 (H1 := [imm I, pt b0 #[.map (some r38_b1), .map (some r38_b3), .string r38.2.twins_.e0, .string r38.2.twins_.e1, .bool r38.2.found_, .bool r38.2.full_, .int .i64 r38.2.sums_] 64, own eStr 9 p45 c46 (r29.1 ++ ([r38.1] : List ByteArray)), mpo kStr kStr r38_b1 r38.2.table_, mpo kStr kStr r38_b3 r38.2.notes_]) (fun w hs => sat_to [0, 0, 0, 2, 0, 0] 1 rfl hs) rfl (rr_tmp rfl) ⟨p45, c46, r38_b1, r38_b3, rfl, rfl⟩
    refine cw_cond_f rfl rfl h24 ?_
    refine cw_skip ?_
    refine ew_then ?_
    refine cw_seq ?_
    refine cw_region ?_
    refine ow_vals 3 (j := 3) [0, 1, 2, 7, 33, 34, 35] [(0, .pointer (some ⟨b0, 0, none⟩)), (1, .slice p0 x1.length c0), (2, .int .i64 x2), (7, .int .i64 r22), (33, .pointer (some ⟨b0, 0, none⟩)), (34, .slice p0 x1.length c0), (35, .int .i64 r22)] rfl (by kernel_rfl) ?_
    obtain ⟨h47, hF⟩ := chk_some hF
    refine ow_pw rfl (pw_slice_ro (E := 9) 1 hr0 rfl rfl rfl rfl rfl (by kernel_rfl) rfl rfl rfl rfl h47 fun p48 c49 h50 => nw_ow ?_)
    refine ow_vals 3 (j := 7) [0, 1, 7, 33, 36, 39] [(0, .pointer (some ⟨b0, 0, none⟩)), (1, .slice p0 x1.length c0), (7, .int .i64 r22), (33, .pointer (some ⟨b0, 0, none⟩)), (36, .slice p48 ((x1.drop r22.toNat).take ((x1.length : Int).toNat - r22.toNat)).length c49), (39, .int .i64 (IntKind.i64.wrap (x2 - r22)))] rfl (by kernel_rfl) ?_
    obtain ⟨r51, h52, hF⟩ := bind_some hF
    refine ow_pw rfl (pw_call (F := [] ++ F0) rfl rfl rfl rfl rfl rfl rfl (by kernel_rfl) (perm_of_pulls [0, 0, 0, 0] rfl) (ih _ ((x1.drop r22.toNat).take ((x1.length : Int).toNat - r22.toNat)) (IntKind.i64.wrap (x2 - r22)) m0 p48 c49 p1 p2 b0 r51 h52 h50) ?_)
    rintro _ _ ⟨r51_p1, r51_c2, r51_b4, r51_b6, rfl, rfl⟩
    refine nw_H (H' := [imm I, pt b0 #[.map (some r51_b4), .map (some r51_b6), .string r51.2.twins_.e0, .string r51.2.twins_.e1, .bool r51.2.found_, .bool r51.2.full_, .int .i64 r51.2.sums_] 64, own eStr 9 r51_p1 r51_c2 r51.1, mpo kStr kStr r51_b4 r51.2.table_, mpo kStr kStr r51_b6 r51.2.notes_] ++ F0) rfl (nw_ow ?_)
    refine ow_vals 1 (j := 9) [0, 1, 7, 9] [(0, .pointer (some ⟨b0, 0, none⟩)), (1, .slice p0 x1.length c0), (7, .int .i64 r22), (9, .slice r51_p1 r51.1.length r51_c2)] rfl (by kernel_rfl) ?_
    refine ow_end rfl ?_
    refine ew_then ?_
    refine cw_seq ?_
    refine cw_region ?_
    refine ow_vals 4 (j := 4) [41, 42, 43, 44] [(41, .slice r51_p1 r51.1.length r51_c2), (42, .pointer (some ⟨b0, 0, none⟩)), (43, .slice p0 x1.length c0), (44, .int .i64 r22)] rfl (by kernel_rfl) ?_
    obtain ⟨h56, hF⟩ := chk_some hF
    refine ow_pw rfl (pw_slice_ro (E := 9) 1 hr0 rfl rfl rfl rfl rfl (by kernel_rfl) rfl rfl rfl rfl h56 fun p57 c58 h59 => nw_ow ?_)
    obtain ⟨r60, h61, hF⟩ := bind_some hF
    refine ow_pw rfl (pw_call (F := [own eStr 9 r51_p1 r51_c2 r51.1] ++ F0) rfl rfl rfl rfl rfl rfl rfl (by kernel_rfl) (perm_of_pulls [0, 0, 1, 1] rfl) (c_law07_Root FUEL _ ((x1.drop (0 : Int).toNat).take (r22.toNat - (0 : Int).toNat)) r51.2 p57 c58 r51_b4 r51_b6 b0 r60 h61 h59) ?_)
    rintro _ _ ⟨r60_b1, r60_b3, rfl, rfl⟩
    refine nw_H (H' := [imm I, pt b0 #[.map (some r60_b1), .map (some r60_b3), .string r60.2.twins_.e0, .string r60.2.twins_.e1, .bool r60.2.found_, .bool r60.2.full_, .int .i64 r60.2.sums_] 64, mpo kStr kStr r60_b1 r60.2.table_, mpo kStr kStr r60_b3 r60.2.notes_, own eStr 9 r51_p1 r51_c2 r51.1] ++ F0) rfl (nw_ow ?_)
    refine ow_pw rfl (pw_buildSlice (E := 9) eStr ([r60.1] : List ByteArray) rfl rfl rfl rfl rfl (by kernel_rfl) rfl (by kernel_rfl) rfl (by decide) rfl fun p64 => nw_ow ?_)
    obtain ⟨h66, hF⟩ := chk_some hF
    refine ow_pw rfl (pw_append 5 (l' := ([r60.1] : List ByteArray)) rfl rfl rfl rfl rfl rfl (by kernel_rfl) (by kernel_rfl) rfl rfl rfl (src_own (E' := 9) 0 rfl (by kernel_rfl) rfl) rfl h66.1 h66.2 fun p67 c68 => nw_H (H' := [own eStr 9 p64 1 ([r60.1] : List ByteArray), imm I, pt b0 #[.map (some r60_b1), .map (some r60_b3), .string r60.2.twins_.e0, .string r60.2.twins_.e1, .bool r60.2.found_, .bool r60.2.full_, .int .i64 r60.2.sums_] 64, mpo kStr kStr r60_b1 r60.2.table_, mpo kStr kStr r60_b3 r60.2.notes_, own eStr 9 p67 c68 (r51.1 ++ ([r60.1] : List ByteArray))] ++ F0) rfl (nw_ow ?_))
    refine ow_vals 1 (j := 9) [6] [(6, .slice p67 (r51.1 ++ ([r60.1] : List ByteArray)).length c68)] rfl (by kernel_rfl) ?_
    refine ow_end rfl ?_
    refine ew_then ?_
    refine cw_ret ?_
    have hR := Option.some.inj hF
    subst hR
    exact fin1 (H1 := [imm I, pt b0 #[.map (some r60_b1), .map (some r60_b3), .string r60.2.twins_.e0, .string r60.2.twins_.e1, .bool r60.2.found_, .bool r60.2.full_, .int .i64 r60.2.sums_] 64, own eStr 9 p67 c68 (r51.1 ++ ([r60.1] : List ByteArray)), mpo kStr kStr r60_b1 r60.2.table_, mpo kStr kStr r60_b3 r60.2.notes_]) (fun w hs => sat_to [0, 0, 0, 2, 0, 0] 1 rfl hs) rfl (rr_tmp rfl) ⟨p67, c68, r60_b1, r60_b3, rfl, rfl⟩

end Go.Proofs.Ytileogoeoiafkaa
