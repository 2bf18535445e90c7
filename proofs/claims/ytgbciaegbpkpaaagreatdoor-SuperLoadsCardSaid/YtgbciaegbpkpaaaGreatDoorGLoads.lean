/- What the functions compute, and that the code computes it: printed by a program of this claim (wip/tools), for the group Loads. -/
import Derived.Test.YtgbciaegbpkpaaaGreatDoorGSuperb
namespace Go.Proofs.YtgbciaegbpkpaaaGreatDoor
set_option linter.all false
open Go Go.RowKit Go.Fw
set_option linter.unusedVariables false

def F.law11_isSuper (x0 : ByteArray) (x1 : Int) : Option Bool :=
  Option.bind (F.octet_Read x0) (fun (r21 : octet_Reader) => Option.bind (F.octet_Reader_Text 100 r21) (fun (r24 : ByteArray × octet_Reader) => Option.bind (F.octet_Reader_Num 2147483647 r24.2) (fun (r26 : Int × octet_Reader) => Option.bind (F.octet_Reader_Num 2147483647 r26.2) (fun (r30 : Int × octet_Reader) => Option.bind (F.octet_Reader_Num 1 r30.2) (fun (r32 : Int × octet_Reader) => Option.bind (F.octet_Reader_Num 2147483647 r32.2) (fun (r34 : Int × octet_Reader) => Option.bind (F.octet_Reader_End r34.2) (fun (r36 : Int × octet_Reader) => if r36.1 == 0 then (Option.bind (F.law11_right (⟨r26.1, r30.1, r32.1, r34.1⟩ : super_Super)) (fun (r39 : Bool) => if r39 then (if r26.1 == x1 then (Option.bind (F.law11_bytes (⟨r26.1, r30.1, r32.1, r34.1⟩ : super_Super)) (fun (r43 : ByteArray) => some ((seqB r43 x0)))) else (some (false))) else (some (false)))) else (some (false)))))))))
set_option maxRecDepth 100000 in
set_option maxHeartbeats 4000000 in
theorem c_law11_isSuper (I : Hl) (x0 : ByteArray) (x1 : Int) (res : Bool) (hF : F.law11_isSuper x0 x1 = some res) : Tr Tryz.prog 19 [.string x0, .int .i64 x1] [imm I] (fun r H' => r = .bool res ∧ H' = [imm I]) := by
  unfold F.law11_isSuper at hF
  refine tr_of_cw (fn := Tryz.f19) Tryz.func19 rfl (Nat.le_of_ble_eq_true rfl) 42 rfl fun F0 w0 => ?_
  refine cw_keep [0, 1] (L' := [(0, .string x0), (1, .int .i64 x1)]) rfl ?_
  refine cw_state (S' := SAT w0 ([imm I] ++ F0)) (fun w hs => hs) ?_
  refine cw_seq ?_
  refine cw_region ?_
  refine ow_vals 1 (j := 1) [0, 1] [(0, .string x0), (1, .int .i64 x1)] rfl (by kernel_rfl) ?_
  refine ow_end rfl ?_
  refine ew_then ?_
  refine cw_seq ?_
  refine cw_region ?_
  refine ow_vals 1 (j := 1) [0, 1, 7] [(0, .string x0), (1, .int .i64 x1), (7, .string x0)] rfl (by kernel_rfl) ?_
  obtain ⟨r21, h22, hF⟩ := bind_some hF
  refine ow_pw rfl (pw_call (F := [] ++ F0) rfl rfl rfl rfl rfl rfl rfl (by kernel_rfl) (perm_of_pulls [0] rfl) (c_octet_Read _ x0 r21 h22) ?_)
  rintro _ _ ⟨r21_b1, rfl, rfl⟩
  refine nw_H (H' := [imm I, pt r21_b1 #[.string r21.s_, .int .i64 r21.at_, .int .i64 r21.e_] 81] ++ F0) rfl (nw_ow ?_)
  refine ow_vals 1 (j := 3) [0, 1, 5] [(0, .string x0), (1, .int .i64 x1), (5, .pointer (some ⟨r21_b1, 0, none⟩))] rfl (by kernel_rfl) ?_
  refine ow_end rfl ?_
  refine ew_then ?_
  refine cw_seq ?_
  refine cw_region ?_
  refine ow_vals 1 (j := 1) [0, 1, 5, 9] [(0, .string x0), (1, .int .i64 x1), (5, .pointer (some ⟨r21_b1, 0, none⟩)), (9, .pointer (some ⟨r21_b1, 0, none⟩))] rfl (by kernel_rfl) ?_
  obtain ⟨r24, h25, hF⟩ := bind_some hF
  refine ow_pw rfl (pw_call (F := [] ++ F0) rfl rfl rfl rfl rfl rfl rfl (by kernel_rfl) (perm_of_pulls [0, 0] rfl) (c_octet_Reader_Text _ 100 r21 r21_b1 r24 h25) ?_)
  rintro _ _ ⟨rfl, rfl⟩
  refine nw_H (H' := [imm I, pt r21_b1 #[.string r24.2.s_, .int .i64 r24.2.at_, .int .i64 r24.2.e_] 81] ++ F0) rfl (nw_ow ?_)
  refine ow_end rfl ?_
  refine ew_then ?_
  refine cw_seq ?_
  refine cw_region ?_
  refine ow_vals 1 (j := 1) [0, 1, 5, 11] [(0, .string x0), (1, .int .i64 x1), (5, .pointer (some ⟨r21_b1, 0, none⟩)), (11, .pointer (some ⟨r21_b1, 0, none⟩))] rfl (by kernel_rfl) ?_
  obtain ⟨r26, h27, hF⟩ := bind_some hF
  refine ow_pw rfl (pw_call (F := [] ++ F0) rfl rfl rfl rfl rfl rfl rfl (by kernel_rfl) (perm_of_pulls [0, 0] rfl) (c_octet_Reader_Num _ 2147483647 r24.2 r21_b1 r26 h27) ?_)
  rintro _ _ ⟨rfl, rfl⟩
  refine nw_H (H' := [imm I, pt r21_b1 #[.string r26.2.s_, .int .i64 r26.2.at_, .int .i64 r26.2.e_] 81] ++ F0) rfl (nw_ow ?_)
  refine ow_vals 1 (j := 3) [0, 1, 5, 13] [(0, .string x0), (1, .int .i64 x1), (5, .pointer (some ⟨r21_b1, 0, none⟩)), (13, .agg #[.int .i64 r26.1, .int .i64 0, .int .i64 0, .int .i64 0])] rfl (by kernel_rfl) ?_
  refine ow_pw rfl (pw_alloc (cs := #[.int .i64 0, .int .i64 0, .int .i64 0, .int .i64 0]) rfl rfl rfl rfl rfl (by kernel_rfl) fun b28 => nw_ow ?_)
  refine ow_pw rfl (pw_store 0 #[.int .i64 r26.1, .int .i64 0, .int .i64 0, .int .i64 0] rfl rfl rfl rfl rfl rfl rfl (by kernel_rfl) (nw_H (H' := [pt b28 #[.int .i64 r26.1, .int .i64 0, .int .i64 0, .int .i64 0] 23, imm I, pt r21_b1 #[.string r26.2.s_, .int .i64 r26.2.at_, .int .i64 r26.2.e_] 81] ++ F0) rfl (nw_ow ?_)))
  refine ow_end rfl ?_
  refine ew_then ?_
  refine cw_seq ?_
  refine cw_region ?_
  refine ow_vals 1 (j := 1) [0, 1, 5, 6, 14] [(0, .string x0), (1, .int .i64 x1), (5, .pointer (some ⟨r21_b1, 0, none⟩)), (6, .pointer (some ⟨b28, 0, none⟩)), (14, .pointer (some ⟨r21_b1, 0, none⟩))] rfl (by kernel_rfl) ?_
  obtain ⟨r30, h31, hF⟩ := bind_some hF
  refine ow_pw rfl (pw_call (F := [pt b28 #[.int .i64 r26.1, .int .i64 0, .int .i64 0, .int .i64 0] 23] ++ F0) rfl rfl rfl rfl rfl rfl rfl (by kernel_rfl) (perm_of_pulls [1, 1] rfl) (c_octet_Reader_Num _ 2147483647 r26.2 r21_b1 r30 h31) ?_)
  rintro _ _ ⟨rfl, rfl⟩
  refine nw_H (H' := [imm I, pt r21_b1 #[.string r30.2.s_, .int .i64 r30.2.at_, .int .i64 r30.2.e_] 81, pt b28 #[.int .i64 r26.1, .int .i64 0, .int .i64 0, .int .i64 0] 23] ++ F0) rfl (nw_ow ?_)
  refine ow_vals 1 (j := 3) [0, 1, 5, 6, 15, 16] [(0, .string x0), (1, .int .i64 x1), (5, .pointer (some ⟨r21_b1, 0, none⟩)), (6, .pointer (some ⟨b28, 0, none⟩)), (15, .int .i64 r30.1), (16, .pointer (some ⟨b28, 1, none⟩))] rfl (by kernel_rfl) ?_
  refine ow_pw rfl (pw_store 2 #[.int .i64 r26.1, .int .i64 r30.1, .int .i64 0, .int .i64 0] rfl rfl rfl rfl rfl rfl rfl (by kernel_rfl) (nw_H (H' := [imm I, pt r21_b1 #[.string r30.2.s_, .int .i64 r30.2.at_, .int .i64 r30.2.e_] 81, pt b28 #[.int .i64 r26.1, .int .i64 r30.1, .int .i64 0, .int .i64 0] 23] ++ F0) rfl (nw_ow ?_)))
  refine ow_end rfl ?_
  refine ew_then ?_
  refine cw_seq ?_
  refine cw_region ?_
  refine ow_vals 1 (j := 1) [0, 1, 5, 6, 17] [(0, .string x0), (1, .int .i64 x1), (5, .pointer (some ⟨r21_b1, 0, none⟩)), (6, .pointer (some ⟨b28, 0, none⟩)), (17, .pointer (some ⟨r21_b1, 0, none⟩))] rfl (by kernel_rfl) ?_
  obtain ⟨r32, h33, hF⟩ := bind_some hF
  refine ow_pw rfl (pw_call (F := [pt b28 #[.int .i64 r26.1, .int .i64 r30.1, .int .i64 0, .int .i64 0] 23] ++ F0) rfl rfl rfl rfl rfl rfl rfl (by kernel_rfl) (perm_of_pulls [0, 0] rfl) (c_octet_Reader_Num _ 1 r30.2 r21_b1 r32 h33) ?_)
  rintro _ _ ⟨rfl, rfl⟩
  refine nw_H (H' := [imm I, pt r21_b1 #[.string r32.2.s_, .int .i64 r32.2.at_, .int .i64 r32.2.e_] 81, pt b28 #[.int .i64 r26.1, .int .i64 r30.1, .int .i64 0, .int .i64 0] 23] ++ F0) rfl (nw_ow ?_)
  refine ow_vals 1 (j := 3) [0, 1, 5, 6, 18, 19] [(0, .string x0), (1, .int .i64 x1), (5, .pointer (some ⟨r21_b1, 0, none⟩)), (6, .pointer (some ⟨b28, 0, none⟩)), (18, .int .i64 r32.1), (19, .pointer (some ⟨b28, 2, none⟩))] rfl (by kernel_rfl) ?_
  refine ow_pw rfl (pw_store 2 #[.int .i64 r26.1, .int .i64 r30.1, .int .i64 r32.1, .int .i64 0] rfl rfl rfl rfl rfl rfl rfl (by kernel_rfl) (nw_H (H' := [imm I, pt r21_b1 #[.string r32.2.s_, .int .i64 r32.2.at_, .int .i64 r32.2.e_] 81, pt b28 #[.int .i64 r26.1, .int .i64 r30.1, .int .i64 r32.1, .int .i64 0] 23] ++ F0) rfl (nw_ow ?_)))
  refine ow_end rfl ?_
  refine ew_then ?_
  refine cw_seq ?_
  refine cw_region ?_
  refine ow_vals 1 (j := 1) [0, 1, 5, 6, 20] [(0, .string x0), (1, .int .i64 x1), (5, .pointer (some ⟨r21_b1, 0, none⟩)), (6, .pointer (some ⟨b28, 0, none⟩)), (20, .pointer (some ⟨r21_b1, 0, none⟩))] rfl (by kernel_rfl) ?_
  obtain ⟨r34, h35, hF⟩ := bind_some hF
  refine ow_pw rfl (pw_call (F := [pt b28 #[.int .i64 r26.1, .int .i64 r30.1, .int .i64 r32.1, .int .i64 0] 23] ++ F0) rfl rfl rfl rfl rfl rfl rfl (by kernel_rfl) (perm_of_pulls [0, 0] rfl) (c_octet_Reader_Num _ 2147483647 r32.2 r21_b1 r34 h35) ?_)
  rintro _ _ ⟨rfl, rfl⟩
  refine nw_H (H' := [imm I, pt r21_b1 #[.string r34.2.s_, .int .i64 r34.2.at_, .int .i64 r34.2.e_] 81, pt b28 #[.int .i64 r26.1, .int .i64 r30.1, .int .i64 r32.1, .int .i64 0] 23] ++ F0) rfl (nw_ow ?_)
  refine ow_vals 1 (j := 3) [0, 1, 5, 6, 21, 22] [(0, .string x0), (1, .int .i64 x1), (5, .pointer (some ⟨r21_b1, 0, none⟩)), (6, .pointer (some ⟨b28, 0, none⟩)), (21, .int .i64 r34.1), (22, .pointer (some ⟨b28, 3, none⟩))] rfl (by kernel_rfl) ?_
  refine ow_pw rfl (pw_store 2 #[.int .i64 r26.1, .int .i64 r30.1, .int .i64 r32.1, .int .i64 r34.1] rfl rfl rfl rfl rfl rfl rfl (by kernel_rfl) (nw_H (H' := [imm I, pt r21_b1 #[.string r34.2.s_, .int .i64 r34.2.at_, .int .i64 r34.2.e_] 81, pt b28 #[.int .i64 r26.1, .int .i64 r30.1, .int .i64 r32.1, .int .i64 r34.1] 23] ++ F0) rfl (nw_ow ?_)))
  refine ow_end rfl ?_
  refine ew_then ?_
  refine cw_seq ?_
  refine cw_region ?_
  refine ow_vals 1 (j := 1) [0, 1, 6, 23] [(0, .string x0), (1, .int .i64 x1), (6, .pointer (some ⟨b28, 0, none⟩)), (23, .pointer (some ⟨r21_b1, 0, none⟩))] rfl (by kernel_rfl) ?_
  obtain ⟨r36, h37, hF⟩ := bind_some hF
  refine ow_pw rfl (pw_call (F := [pt b28 #[.int .i64 r26.1, .int .i64 r30.1, .int .i64 r32.1, .int .i64 r34.1] 23] ++ F0) rfl rfl rfl rfl rfl rfl rfl (by kernel_rfl) (perm_of_pulls [0, 0] rfl) (c_octet_Reader_End _ r34.2 r21_b1 r36 h37) ?_)
  rintro _ _ ⟨rfl, rfl⟩
  refine nw_H (H' := [imm I, pt r21_b1 #[.string r36.2.s_, .int .i64 r36.2.at_, .int .i64 r36.2.e_] 81, pt b28 #[.int .i64 r26.1, .int .i64 r30.1, .int .i64 r32.1, .int .i64 r34.1] 23] ++ F0) rfl (nw_ow ?_)
  refine ow_vals 2 (j := 4) [0, 1, 6, 26] [(0, .string x0), (1, .int .i64 x1), (6, .pointer (some ⟨b28, 0, none⟩)), (26, .bool (r36.1 == 0))] rfl (by kernel_rfl) ?_
  rcases if_some hF with ⟨h38, hF⟩ | ⟨h38, hF⟩
  · refine ow_slots (L' := [(0, .string x0), (1, .int .i64 x1), (6, .pointer (some ⟨b28, 0, none⟩)), (26, .bool true)]) (by rw [h38]) ?_
    refine ow_pw rfl (pw_quiet (v := .agg #[.int .i64 r26.1, .int .i64 r30.1, .int .i64 r32.1, .int .i64 r34.1]) rfl rfl rfl rfl (q_load 2 rfl rfl rfl (by kernel_rfl)) (nw_ow ?_))
    obtain ⟨r39, h40, hF⟩ := bind_some hF
    refine ow_pw rfl (pw_call (F := [pt r21_b1 #[.string r36.2.s_, .int .i64 r36.2.at_, .int .i64 r36.2.e_] 81, pt b28 #[.int .i64 r26.1, .int .i64 r30.1, .int .i64 r32.1, .int .i64 r34.1] 23] ++ F0) rfl rfl rfl rfl rfl rfl rfl (by kernel_rfl) (perm_of_pulls [0] rfl) (c_law11_right _ (⟨r26.1, r30.1, r32.1, r34.1⟩ : super_Super) r39 h40) ?_)
    rintro _ _ ⟨rfl, rfl⟩
    refine nw_H (H' := [imm I, pt r21_b1 #[.string r36.2.s_, .int .i64 r36.2.at_, .int .i64 r36.2.e_] 81, pt b28 #[.int .i64 r26.1, .int .i64 r30.1, .int .i64 r32.1, .int .i64 r34.1] 23] ++ F0) rfl (nw_ow ?_)
    refine ow_vals 2 (j := 8) [0, 1, 6, 30] [(0, .string x0), (1, .int .i64 x1), (6, .pointer (some ⟨b28, 0, none⟩)), (30, .bool r39)] rfl (by kernel_rfl) ?_
    rcases if_some hF with ⟨h41, hF⟩ | ⟨h41, hF⟩
    · refine ow_slots (L' := [(0, .string x0), (1, .int .i64 x1), (6, .pointer (some ⟨b28, 0, none⟩)), (30, .bool true)]) (by rw [h41]) ?_
      refine ow_vals 1 (j := 9) [0, 1, 6, 30, 31] [(0, .string x0), (1, .int .i64 x1), (6, .pointer (some ⟨b28, 0, none⟩)), (30, .bool true), (31, .pointer (some ⟨b28, 0, none⟩))] rfl (by kernel_rfl) ?_
      refine ow_pw rfl (pw_quiet (v := .int .i64 r26.1) rfl rfl rfl rfl (q_load 2 rfl rfl rfl (by kernel_rfl)) (nw_ow ?_))
      refine ow_vals 4 (j := 14) [0, 6, 36] [(0, .string x0), (6, .pointer (some ⟨b28, 0, none⟩)), (36, .bool (r26.1 == x1))] rfl (by kernel_rfl) ?_
      rcases if_some hF with ⟨h42, hF⟩ | ⟨h42, hF⟩
      · refine ow_slots (L' := [(0, .string x0), (6, .pointer (some ⟨b28, 0, none⟩)), (36, .bool true)]) (by rw [h42]) ?_
        refine ow_pw rfl (pw_quiet (v := .agg #[.int .i64 r26.1, .int .i64 r30.1, .int .i64 r32.1, .int .i64 r34.1]) rfl rfl rfl rfl (q_load 2 rfl rfl rfl (by kernel_rfl)) (nw_ow ?_))
        obtain ⟨r43, h44, hF⟩ := bind_some hF
        refine ow_pw rfl (pw_call (F := [pt r21_b1 #[.string r36.2.s_, .int .i64 r36.2.at_, .int .i64 r36.2.e_] 81, pt b28 #[.int .i64 r26.1, .int .i64 r30.1, .int .i64 r32.1, .int .i64 r34.1] 23] ++ F0) rfl rfl rfl rfl rfl rfl rfl (by kernel_rfl) (perm_of_pulls [0] rfl) (c_law11_bytes _ (⟨r26.1, r30.1, r32.1, r34.1⟩ : super_Super) r43 h44) ?_)
        rintro _ _ ⟨rfl, rfl⟩
        refine nw_H (H' := [imm I, pt r21_b1 #[.string r36.2.s_, .int .i64 r36.2.at_, .int .i64 r36.2.e_] 81, pt b28 #[.int .i64 r26.1, .int .i64 r30.1, .int .i64 r32.1, .int .i64 r34.1] 23] ++ F0) rfl (nw_ow ?_)
        refine ow_vals 4 (j := 20) [4] [(4, .bool (seqB r43 x0))] rfl (by kernel_rfl) ?_
        refine ow_end rfl ?_
        refine ew_then ?_
        refine cw_ret ?_
        have hR := Option.some.inj hF
        subst hR
        exact fin1 (H1 := [imm I]) (fun w hs => sat_to [1, 1, 0] 2 rfl hs) rfl (rr_tmp rfl) ⟨rfl, rfl⟩
      refine ow_slots (L' := [(0, .string x0), (6, .pointer (some ⟨b28, 0, none⟩)), (36, .bool false)]) (by rw [h42]) ?_
      refine ow_vals 6 (j := 20) [4] [(4, .bool false)] rfl (by kernel_rfl) ?_
      refine ow_end rfl ?_
      refine ew_then ?_
      refine cw_ret ?_
      have hR := Option.some.inj hF
      subst hR
      exact fin1 (H1 := [imm I]) (fun w hs => sat_to [1, 1, 0] 2 rfl hs) rfl (rr_tmp rfl) ⟨rfl, rfl⟩
    refine ow_slots (L' := [(0, .string x0), (1, .int .i64 x1), (6, .pointer (some ⟨b28, 0, none⟩)), (30, .bool false)]) (by rw [h41]) ?_
    refine ow_vals 12 (j := 20) [4] [(4, .bool false)] rfl (by kernel_rfl) ?_
    refine ow_end rfl ?_
    refine ew_then ?_
    refine cw_ret ?_
    have hR := Option.some.inj hF
    subst hR
    exact fin1 (H1 := [imm I]) (fun w hs => sat_to [1, 1, 0] 2 rfl hs) rfl (rr_tmp rfl) ⟨rfl, rfl⟩
  refine ow_slots (L' := [(0, .string x0), (1, .int .i64 x1), (6, .pointer (some ⟨b28, 0, none⟩)), (26, .bool false)]) (by rw [h38]) ?_
  refine ow_vals 16 (j := 20) [4] [(4, .bool false)] rfl (by kernel_rfl) ?_
  refine ow_end rfl ?_
  refine ew_then ?_
  refine cw_ret ?_
  have hR := Option.some.inj hF
  subst hR
  exact fin1 (H1 := [imm I]) (fun w hs => sat_to [1, 1, 0] 2 rfl hs) rfl (rr_tmp rfl) ⟨rfl, rfl⟩


def F.law11_SuperLoads.r1 : Option (Bool) :=
  some (false)
def F.law11_SuperLoads.r2 (x32 : Bool) : Option ((Unit) ⊕ (Bool)) :=
  if x32 then (Option.bind (F.law11_awake) (fun (r34 : Bool) => some (.inr (r34)))) else (some (.inl ()))
def F.law11_SuperLoads.r6 (r44 : super_Super × Int) (s59 : ByteArray) (x74 : Bool) : Option (Bool) :=
  Option.bind (F.law11_bytes r44.1) (fun (r75 : ByteArray) => if seqB s59 r75 then (if !x74 then (Option.bind (F.law11_awake) (fun (r79 : Bool) => some (r79))) else (some (false))) else (some (false)))
def F.law11_SuperLoads.r5 (r44 : super_Super × Int) (s59 : ByteArray) (s60 : ByteArray) : Option (Bool) :=
  Option.bind (F.octet_Read s60) (fun (r61 : octet_Reader) => Option.bind (F.octet_Reader_Text 100 r61) (fun (r64 : ByteArray × octet_Reader) => Option.bind (F.octet_Reader_Num 2147483647 r64.2) (fun (r66 : Int × octet_Reader) => Option.bind (if seqB r64.1 (ByteArray.mk #[67, 72, 65, 82, 84, 49]) then (if decide (r66.1 > r44.1.Gen) then (if ((IntKind.i64.wrap (r66.1 - r44.1.Gen)).tmod 2) == 1 then (Option.bind (F.law11_isSuper s60 r66.1) (fun (r72 : Bool) => some (r72))) else (some (false))) else (some (false))) else (some (false))) (fun x => F.law11_SuperLoads.r6 r44 s59 x))))
def F.law11_SuperLoads.r4 (x0 : ByteArray) (x1 : ByteArray) (r44 : super_Super × Int) : Option (Bool) :=
  Option.bind (F.law11_right r44.1) (fun (r54 : Bool) => if !r54 then (some (false)) else (Option.bind (if (r44.1.Gen.tmod 2) == 1 then (some ((x1, x0))) else (some ((x0, x1)))) (fun x => F.law11_SuperLoads.r5 r44 x.1 x.2)))
def F.law11_SuperLoads.r3 (x0 : ByteArray) (x1 : ByteArray) (r21_s1 : disk_Disk) (r21_s9 : guard_Guard) : Option (Bool) :=
  Option.bind (F.guard_Guard_Put 0 x0 r21_s9 r21_s1) (fun (r36 : Int × Int × guard_Guard × disk_Disk) => Option.bind (F.guard_Guard_Put 1 x1 r36.2.2.1 r36.2.2.2) (fun (r40 : Int × Int × guard_Guard × disk_Disk) => Option.bind (F.super_Load r40.2.2.2) (fun (r44 : super_Super × Int) => thru (if r44.2 != 0 then (if r44.2 == 7 then (if ((r44.1.Gen == 0) && ((r44.1.Boot == 0) && ((r44.1.Side == 0) && ((r44.1.Seed == 0) && (true))))) then (Option.bind (F.law11_awake) (fun (r52 : Bool) => some (.inr (r52)))) else (some (.inr (false)))) else (some (.inr (false)))) else (some (.inl ()))) (fun x => F.law11_SuperLoads.r4 x0 x1 r44))))
def F.law11_SuperLoads (x0 : ByteArray) (x1 : ByteArray) : Option Bool :=
  Option.bind (F.law11_made) (fun (r21 : (Option disk_Disk) × (Option guard_Guard)) => optC r21.1 (optC r21.2 (Option.bind (some (())) (fun x => F.law11_SuperLoads.r1)) (fun _ => none)) (fun (r21_s1 : disk_Disk) => optC r21.2 (none) (fun (r21_s9 : guard_Guard) => thru (Option.bind (if decide ((x0.size : Int) > 47) then (some (true)) else (some ((decide ((x1.size : Int) > 47))))) (fun x => F.law11_SuperLoads.r2 x)) (fun x => F.law11_SuperLoads.r3 x0 x1 r21_s1 r21_s9))))
set_option maxRecDepth 100000 in
set_option maxHeartbeats 4000000 in
theorem c_law11_SuperLoads (I : Hl) (x0 : ByteArray) (x1 : ByteArray) (res : Bool) (hF : F.law11_SuperLoads x0 x1 = some res) : Tr Tryz.prog 4 [.string x0, .string x1] [imm I] (fun r H' => r = .bool res ∧ H' = [imm I]) := by
  unfold F.law11_SuperLoads at hF
  refine tr_of_cw (fn := Tryz.f4) Tryz.func4 rfl (Nat.le_of_ble_eq_true rfl) 112 rfl fun F0 w0 => ?_
  refine cw_keep [0, 1] (L' := [(0, .string x0), (1, .string x1)]) rfl ?_
  refine cw_state (S' := SAT w0 ([imm I] ++ F0)) (fun w hs => hs) ?_
  refine cw_seq ?_
  refine cw_region ?_
  refine ow_vals 1 (j := 1) [0, 1] [(0, .string x0), (1, .string x1)] rfl (by kernel_rfl) ?_
  refine ow_end rfl ?_
  refine ew_then ?_
  refine cw_seq ?_
  refine cw_region ?_
  obtain ⟨r21, h22, hF⟩ := bind_some hF
  refine ow_pw rfl (pw_call (F := [] ++ F0) rfl rfl rfl rfl rfl rfl rfl (by kernel_rfl) (perm_of_pulls [0] rfl) (c_law11_made _ r21 h22) ?_)
  rintro _ _ (⟨hO, hO1, rfl, rfl⟩ | ⟨r21_s1, r21_b2, r21_p4, r21_c5, r21_b7, r21_s9, r21_b10, hO, hO1, rfl, rfl⟩)
  · rw [hO] at hF
    try dsimp only [optC] at hF
    rw [hO1] at hF
    try dsimp only [optC] at hF
    refine nw_H (H' := [imm I] ++ F0) rfl (nw_ow ?_)
    refine ow_vals 5 (j := 6) [0, 1, 5, 6] [(0, .string x0), (1, .string x1), (5, .pointer none), (6, .pointer none)] rfl (by kernel_rfl) ?_
    refine ow_end rfl ?_
    refine ew_then ?_
    refine cw_seq ?_
    obtain ⟨v28, hF, hK28⟩ := bind_some hF
    refine cw_mid (fun a w => () = v28 ∧ Fr 112 [(0, .string x0), (1, .string x1), (5, .pointer none), (6, .pointer none), (34, .bool true)] a ∧ SAT w0 ([imm I] ++ F0) w) ?_ ?_
    · refine cw_region ?_
      refine ow_vals 16 (j := 16) [0, 1, 5, 6, 34] [(0, .string x0), (1, .string x1), (5, .pointer none), (6, .pointer none), (34, .bool true)] rfl (by kernel_rfl) ?_
      refine ow_end rfl ?_
      have hR := Option.some.inj hF
      exact fun a w hf hs => ⟨hR, hf.keep [0, 1, 5, 6, 34], sat_to [0] 0 rfl hs⟩
    rintro a w ⟨hv, hf, hs⟩
    subst hv
    replace hF := hK28
    clear hK28
    try dsimp only at hF
    revert a w
    show CW _ _ _ 112 [(0, .string x0), (1, .string x1), (5, .pointer none), (6, .pointer none), (34, .bool true)] (SAT w0 ([imm I] ++ F0))
    unfold F.law11_SuperLoads.r1 at hF
    refine cw_cond_t rfl rfl rfl ?_
    refine cw_seq ?_
    refine cw_region ?_
    refine ow_vals 6 (j := 6) [4] [(4, .bool false)] rfl (by kernel_rfl) ?_
    refine ow_end rfl ?_
    refine ew_then ?_
    refine cw_ret ?_
    refine ew_then_ret ?_
    have hR := Option.some.inj hF
    subst hR
    exact fin1 (H1 := [imm I]) (fun w hs => sat_to [0] 0 rfl hs) rfl (rr_tmp rfl) ⟨rfl, rfl⟩
  rw [hO] at hF
  try dsimp only [optC] at hF
  rw [hO1] at hF
  try dsimp only [optC] at hF
  refine nw_H (H' := [imm I, pt r21_b2 #[.slice r21_p4 r21_s1.sure_.length r21_c5, .map (some r21_b7), .bool r21_s1.off_, .bool r21_s1.armed_, .int .i64 r21_s1.left_, .int .u64 r21_s1.fall_.Keep, .int .i64 r21_s1.fall_.Tear, .int .i64 r21_s1.acts_, .int .i64 r21_s1.falls_] 65, pt r21_b10 #[.pointer (some ⟨r21_b2, 0, none⟩), .int .i64 r21_s9.boot_, .int .i64 r21_s9.n_] 76, own e_disk_sector 86 r21_p4 r21_c5 r21_s1.sure_, mpo (kInt .i64) (fun x : disk_sector => Value.agg #[.string x.s_, .int .i64 x.at_]) r21_b7 r21_s1.wait_] ++ F0) rfl (nw_ow ?_)
  refine ow_vals 5 (j := 6) [0, 1, 5, 6] [(0, .string x0), (1, .string x1), (5, .pointer (some ⟨r21_b2, 0, none⟩)), (6, .pointer (some ⟨r21_b10, 0, none⟩))] rfl (by kernel_rfl) ?_
  refine ow_end rfl ?_
  refine ew_then ?_
  obtain ⟨v29, hF, hK29⟩ := thru_some hF
  refine cw_mid (fun a w => .inl () = v29 ∧ Fr 112 [(0, .string x0), (1, .string x1), (5, .pointer (some ⟨r21_b2, 0, none⟩)), (6, .pointer (some ⟨r21_b10, 0, none⟩))] a ∧ SAT w0 ([imm I, pt r21_b2 #[.slice r21_p4 r21_s1.sure_.length r21_c5, .map (some r21_b7), .bool r21_s1.off_, .bool r21_s1.armed_, .int .i64 r21_s1.left_, .int .u64 r21_s1.fall_.Keep, .int .i64 r21_s1.fall_.Tear, .int .i64 r21_s1.acts_, .int .i64 r21_s1.falls_] 65, pt r21_b10 #[.pointer (some ⟨r21_b2, 0, none⟩), .int .i64 r21_s9.boot_, .int .i64 r21_s9.n_] 76, own e_disk_sector 86 r21_p4 r21_c5 r21_s1.sure_, mpo (kInt .i64) (fun x : disk_sector => Value.agg #[.string x.s_, .int .i64 x.at_]) r21_b7 r21_s1.wait_] ++ F0) w) ?_ ?_
  · obtain ⟨v30, hF, hK30⟩ := bind_some hF
    refine cw_mid (fun a w => ∃ (x32 : Bool), x32 = v30 ∧ Fr 112 [(0, .string x0), (1, .string x1), (5, .pointer (some ⟨r21_b2, 0, none⟩)), (6, .pointer (some ⟨r21_b10, 0, none⟩)), (34, .bool x32)] a ∧ SAT w0 ([imm I, pt r21_b2 #[.slice r21_p4 r21_s1.sure_.length r21_c5, .map (some r21_b7), .bool r21_s1.off_, .bool r21_s1.armed_, .int .i64 r21_s1.left_, .int .u64 r21_s1.fall_.Keep, .int .i64 r21_s1.fall_.Tear, .int .i64 r21_s1.acts_, .int .i64 r21_s1.falls_] 65, pt r21_b10 #[.pointer (some ⟨r21_b2, 0, none⟩), .int .i64 r21_s9.boot_, .int .i64 r21_s9.n_] 76, own e_disk_sector 86 r21_p4 r21_c5 r21_s1.sure_, mpo (kInt .i64) (fun x : disk_sector => Value.agg #[.string x.s_, .int .i64 x.at_]) r21_b7 r21_s1.wait_] ++ F0) w) ?_ ?_
    · refine cw_region ?_
      refine ow_vals 12 (j := 12) [0, 1, 5, 6, 30] [(0, .string x0), (1, .string x1), (5, .pointer (some ⟨r21_b2, 0, none⟩)), (6, .pointer (some ⟨r21_b10, 0, none⟩)), (30, .bool (decide ((x0.size : Int) > 47)))] rfl (by kernel_rfl) ?_
      rcases if_some hF with ⟨h31, hF⟩ | ⟨h31, hF⟩
      · refine ow_slots (L' := [(0, .string x0), (1, .string x1), (5, .pointer (some ⟨r21_b2, 0, none⟩)), (6, .pointer (some ⟨r21_b10, 0, none⟩)), (30, .bool true)]) (by rw [h31]) ?_
        refine ow_vals 4 (j := 16) [0, 1, 5, 6, 34] [(0, .string x0), (1, .string x1), (5, .pointer (some ⟨r21_b2, 0, none⟩)), (6, .pointer (some ⟨r21_b10, 0, none⟩)), (34, .bool true)] rfl (by kernel_rfl) ?_
        refine ow_end rfl ?_
        have hR := Option.some.inj hF
        exact fun a w hf hs => ⟨true, hR, hf.keep [0, 1, 5, 6, 34], sat_to [0, 0, 0, 0, 0] 0 rfl hs⟩
      refine ow_slots (L' := [(0, .string x0), (1, .string x1), (5, .pointer (some ⟨r21_b2, 0, none⟩)), (6, .pointer (some ⟨r21_b10, 0, none⟩)), (30, .bool false)]) (by rw [h31]) ?_
      refine ow_vals 4 (j := 16) [0, 1, 5, 6, 34] [(0, .string x0), (1, .string x1), (5, .pointer (some ⟨r21_b2, 0, none⟩)), (6, .pointer (some ⟨r21_b10, 0, none⟩)), (34, .bool (decide ((x1.size : Int) > 47)))] rfl (by kernel_rfl) ?_
      refine ow_end rfl ?_
      have hR := Option.some.inj hF
      exact fun a w hf hs => ⟨decide ((x1.size : Int) > 47), hR, hf.keep [0, 1, 5, 6, 34], sat_to [0, 0, 0, 0, 0] 0 rfl hs⟩
    rintro a w ⟨x32, hv, hf, hs⟩
    subst hv
    replace hF := hK30
    clear hK30
    try dsimp only at hF
    revert a w
    show CW _ _ _ 112 [(0, .string x0), (1, .string x1), (5, .pointer (some ⟨r21_b2, 0, none⟩)), (6, .pointer (some ⟨r21_b10, 0, none⟩)), (34, .bool x32)] (SAT w0 ([imm I, pt r21_b2 #[.slice r21_p4 r21_s1.sure_.length r21_c5, .map (some r21_b7), .bool r21_s1.off_, .bool r21_s1.armed_, .int .i64 r21_s1.left_, .int .u64 r21_s1.fall_.Keep, .int .i64 r21_s1.fall_.Tear, .int .i64 r21_s1.acts_, .int .i64 r21_s1.falls_] 65, pt r21_b10 #[.pointer (some ⟨r21_b2, 0, none⟩), .int .i64 r21_s9.boot_, .int .i64 r21_s9.n_] 76, own e_disk_sector 86 r21_p4 r21_c5 r21_s1.sure_, mpo (kInt .i64) (fun x : disk_sector => Value.agg #[.string x.s_, .int .i64 x.at_]) r21_b7 r21_s1.wait_] ++ F0))
    unfold F.law11_SuperLoads.r2 at hF
    rcases if_some hF with ⟨h33, hF⟩ | ⟨h33, hF⟩
    · refine cw_cond_t rfl rfl h33 ?_
      refine cw_seq ?_
      refine cw_region ?_
      refine ow_vals 3 (j := 3) [37] [(37, .bool true)] rfl (by kernel_rfl) ?_
      obtain ⟨r34, h35, hF⟩ := bind_some hF
      refine ow_pw rfl (pw_call (F := [pt r21_b2 #[.slice r21_p4 r21_s1.sure_.length r21_c5, .map (some r21_b7), .bool r21_s1.off_, .bool r21_s1.armed_, .int .i64 r21_s1.left_, .int .u64 r21_s1.fall_.Keep, .int .i64 r21_s1.fall_.Tear, .int .i64 r21_s1.acts_, .int .i64 r21_s1.falls_] 65, pt r21_b10 #[.pointer (some ⟨r21_b2, 0, none⟩), .int .i64 r21_s9.boot_, .int .i64 r21_s9.n_] 76, own e_disk_sector 86 r21_p4 r21_c5 r21_s1.sure_, mpo (kInt .i64) (fun x : disk_sector => Value.agg #[.string x.s_, .int .i64 x.at_]) r21_b7 r21_s1.wait_] ++ F0) rfl rfl rfl rfl rfl rfl rfl (by kernel_rfl) (perm_of_pulls [0] rfl) (c_law11_awake _ r34 h35) ?_)
      rintro _ _ ⟨rfl, rfl⟩
      refine nw_H (H' := [imm I, pt r21_b2 #[.slice r21_p4 r21_s1.sure_.length r21_c5, .map (some r21_b7), .bool r21_s1.off_, .bool r21_s1.armed_, .int .i64 r21_s1.left_, .int .u64 r21_s1.fall_.Keep, .int .i64 r21_s1.fall_.Tear, .int .i64 r21_s1.acts_, .int .i64 r21_s1.falls_] 65, pt r21_b10 #[.pointer (some ⟨r21_b2, 0, none⟩), .int .i64 r21_s9.boot_, .int .i64 r21_s9.n_] 76, own e_disk_sector 86 r21_p4 r21_c5 r21_s1.sure_, mpo (kInt .i64) (fun x : disk_sector => Value.agg #[.string x.s_, .int .i64 x.at_]) r21_b7 r21_s1.wait_] ++ F0) rfl (nw_ow ?_)
      refine ow_vals 2 (j := 6) [4] [(4, .bool r34)] rfl (by kernel_rfl) ?_
      refine ow_end rfl ?_
      refine ew_then ?_
      refine cw_ret ?_
      refine ew_then_ret ?_
      have hR := Option.some.inj hF
      subst hR
      have hR := hK29
      try dsimp only [Thru] at hR
      subst hR
      exact fin1 (H1 := [imm I]) (fun w hs => sat_to [1, 1, 1, 1, 0] 4 rfl hs) rfl (rr_tmp rfl) ⟨rfl, rfl⟩
    refine cw_cond_f rfl rfl h33 ?_
    refine cw_skip ?_
    have hR := Option.some.inj hF
    exact fun a w hf hs => ⟨hR, hf.keep [0, 1, 5, 6], sat_to [0, 0, 0, 0, 0] 0 rfl hs⟩
  rintro a w ⟨hv, hf, hs⟩
  subst hv
  replace hF := hK29
  clear hK29
  try dsimp only [Thru] at hF
  revert a w
  show CW _ _ _ 112 [(0, .string x0), (1, .string x1), (5, .pointer (some ⟨r21_b2, 0, none⟩)), (6, .pointer (some ⟨r21_b10, 0, none⟩))] (SAT w0 ([imm I, pt r21_b2 #[.slice r21_p4 r21_s1.sure_.length r21_c5, .map (some r21_b7), .bool r21_s1.off_, .bool r21_s1.armed_, .int .i64 r21_s1.left_, .int .u64 r21_s1.fall_.Keep, .int .i64 r21_s1.fall_.Tear, .int .i64 r21_s1.acts_, .int .i64 r21_s1.falls_] 65, pt r21_b10 #[.pointer (some ⟨r21_b2, 0, none⟩), .int .i64 r21_s9.boot_, .int .i64 r21_s9.n_] 76, own e_disk_sector 86 r21_p4 r21_c5 r21_s1.sure_, mpo (kInt .i64) (fun x : disk_sector => Value.agg #[.string x.s_, .int .i64 x.at_]) r21_b7 r21_s1.wait_] ++ F0))
  unfold F.law11_SuperLoads.r3 at hF
  refine cw_seq ?_
  refine cw_region ?_
  refine ow_vals 2 (j := 2) [0, 1, 5, 6, 40, 41] [(0, .string x0), (1, .string x1), (5, .pointer (some ⟨r21_b2, 0, none⟩)), (6, .pointer (some ⟨r21_b10, 0, none⟩)), (40, .pointer (some ⟨r21_b10, 0, none⟩)), (41, .string x0)] rfl (by kernel_rfl) ?_
  obtain ⟨r36, h37, hF⟩ := bind_some hF
  refine ow_pw rfl (pw_call (F := [] ++ F0) rfl rfl rfl rfl rfl rfl rfl (by kernel_rfl) (perm_of_pulls [0, 1, 0, 0, 0] rfl) (c_guard_Guard_Put _ 0 x0 r21_s9 r21_s1 r21_b10 r21_p4 r21_c5 r21_b7 r21_b2 r36 h37) ?_)
  rintro _ _ ⟨r36_p1, r36_c2, r36_b4, rfl, rfl⟩
  refine nw_H (H' := [imm I, pt r21_b10 #[.pointer (some ⟨r21_b2, 0, none⟩), .int .i64 r36.2.2.1.boot_, .int .i64 r36.2.2.1.n_] 76, pt r21_b2 #[.slice r36_p1 r36.2.2.2.sure_.length r36_c2, .map (some r36_b4), .bool r36.2.2.2.off_, .bool r36.2.2.2.armed_, .int .i64 r36.2.2.2.left_, .int .u64 r36.2.2.2.fall_.Keep, .int .i64 r36.2.2.2.fall_.Tear, .int .i64 r36.2.2.2.acts_, .int .i64 r36.2.2.2.falls_] 65, own e_disk_sector 86 r36_p1 r36_c2 r36.2.2.2.sure_, mpo (kInt .i64) (fun x : disk_sector => Value.agg #[.string x.s_, .int .i64 x.at_]) r36_b4 r36.2.2.2.wait_] ++ F0) rfl (nw_ow ?_)
  refine ow_end rfl ?_
  refine ew_then ?_
  refine cw_seq ?_
  refine cw_region ?_
  refine ow_vals 2 (j := 2) [0, 1, 5, 43, 44] [(0, .string x0), (1, .string x1), (5, .pointer (some ⟨r21_b2, 0, none⟩)), (43, .pointer (some ⟨r21_b10, 0, none⟩)), (44, .string x1)] rfl (by kernel_rfl) ?_
  obtain ⟨r40, h41, hF⟩ := bind_some hF
  refine ow_pw rfl (pw_call (F := [] ++ F0) rfl rfl rfl rfl rfl rfl rfl (by kernel_rfl) (perm_of_pulls [0, 0, 0, 0, 0] rfl) (c_guard_Guard_Put _ 1 x1 r36.2.2.1 r36.2.2.2 r21_b10 r36_p1 r36_c2 r36_b4 r21_b2 r40 h41) ?_)
  rintro _ _ ⟨r40_p1, r40_c2, r40_b4, rfl, rfl⟩
  refine nw_H (H' := [imm I, pt r21_b10 #[.pointer (some ⟨r21_b2, 0, none⟩), .int .i64 r40.2.2.1.boot_, .int .i64 r40.2.2.1.n_] 76, pt r21_b2 #[.slice r40_p1 r40.2.2.2.sure_.length r40_c2, .map (some r40_b4), .bool r40.2.2.2.off_, .bool r40.2.2.2.armed_, .int .i64 r40.2.2.2.left_, .int .u64 r40.2.2.2.fall_.Keep, .int .i64 r40.2.2.2.fall_.Tear, .int .i64 r40.2.2.2.acts_, .int .i64 r40.2.2.2.falls_] 65, own e_disk_sector 86 r40_p1 r40_c2 r40.2.2.2.sure_, mpo (kInt .i64) (fun x : disk_sector => Value.agg #[.string x.s_, .int .i64 x.at_]) r40_b4 r40.2.2.2.wait_] ++ F0) rfl (nw_ow ?_)
  refine ow_end rfl ?_
  refine ew_then ?_
  refine cw_seq ?_
  refine cw_region ?_
  refine ow_vals 1 (j := 1) [0, 1, 47] [(0, .string x0), (1, .string x1), (47, .pointer (some ⟨r21_b2, 0, none⟩))] rfl (by kernel_rfl) ?_
  obtain ⟨r44, h45, hF⟩ := bind_some hF
  refine ow_pw rfl (pw_call (F := [pt r21_b10 #[.pointer (some ⟨r21_b2, 0, none⟩), .int .i64 r40.2.2.1.boot_, .int .i64 r40.2.2.1.n_] 76] ++ F0) rfl rfl rfl rfl rfl rfl rfl (by kernel_rfl) (perm_of_pulls [0, 1, 1, 1] rfl) (c_super_Load _ r40.2.2.2 r40_p1 r40_c2 r40_b4 r21_b2 r44 h45) ?_)
  rintro _ _ ⟨rfl, rfl⟩
  refine nw_H (H' := [imm I, pt r21_b2 #[.slice r40_p1 r40.2.2.2.sure_.length r40_c2, .map (some r40_b4), .bool r40.2.2.2.off_, .bool r40.2.2.2.armed_, .int .i64 r40.2.2.2.left_, .int .u64 r40.2.2.2.fall_.Keep, .int .i64 r40.2.2.2.fall_.Tear, .int .i64 r40.2.2.2.acts_, .int .i64 r40.2.2.2.falls_] 65, own e_disk_sector 86 r40_p1 r40_c2 r40.2.2.2.sure_, mpo (kInt .i64) (fun x : disk_sector => Value.agg #[.string x.s_, .int .i64 x.at_]) r40_b4 r40.2.2.2.wait_, pt r21_b10 #[.pointer (some ⟨r21_b2, 0, none⟩), .int .i64 r40.2.2.1.boot_, .int .i64 r40.2.2.1.n_] 76] ++ F0) rfl (nw_ow ?_)
  refine ow_vals 3 (j := 5) [0, 1, 49, 50] [(0, .string x0), (1, .string x1), (49, .agg #[.int .i64 r44.1.Gen, .int .i64 r44.1.Boot, .int .i64 r44.1.Side, .int .i64 r44.1.Seed]), (50, .int .i64 r44.2)] rfl (by kernel_rfl) ?_
  refine ow_pw rfl (pw_alloc (cs := #[.int .i64 0, .int .i64 0, .int .i64 0, .int .i64 0]) rfl rfl rfl rfl rfl (by kernel_rfl) fun b46 => nw_ow ?_)
  refine ow_pw rfl (pw_store 0 #[.int .i64 r44.1.Gen, .int .i64 r44.1.Boot, .int .i64 r44.1.Side, .int .i64 r44.1.Seed] rfl rfl rfl rfl rfl rfl rfl (by kernel_rfl) (nw_H (H' := [pt b46 #[.int .i64 r44.1.Gen, .int .i64 r44.1.Boot, .int .i64 r44.1.Side, .int .i64 r44.1.Seed] 23, imm I, pt r21_b2 #[.slice r40_p1 r40.2.2.2.sure_.length r40_c2, .map (some r40_b4), .bool r40.2.2.2.off_, .bool r40.2.2.2.armed_, .int .i64 r40.2.2.2.left_, .int .u64 r40.2.2.2.fall_.Keep, .int .i64 r40.2.2.2.fall_.Tear, .int .i64 r40.2.2.2.acts_, .int .i64 r40.2.2.2.falls_] 65, own e_disk_sector 86 r40_p1 r40_c2 r40.2.2.2.sure_, mpo (kInt .i64) (fun x : disk_sector => Value.agg #[.string x.s_, .int .i64 x.at_]) r40_b4 r40.2.2.2.wait_, pt r21_b10 #[.pointer (some ⟨r21_b2, 0, none⟩), .int .i64 r40.2.2.1.boot_, .int .i64 r40.2.2.1.n_] 76] ++ F0) rfl (nw_ow ?_)))
  refine ow_vals 1 (j := 8) [0, 1, 7, 8] [(0, .string x0), (1, .string x1), (7, .pointer (some ⟨b46, 0, none⟩)), (8, .int .i64 r44.2)] rfl (by kernel_rfl) ?_
  refine ow_end rfl ?_
  refine ew_then ?_
  obtain ⟨v48, hF, hK48⟩ := thru_some hF
  refine cw_mid (fun a w => .inl () = v48 ∧ Fr 112 [(0, .string x0), (1, .string x1), (7, .pointer (some ⟨b46, 0, none⟩))] a ∧ SAT w0 ([imm I, pt b46 #[.int .i64 r44.1.Gen, .int .i64 r44.1.Boot, .int .i64 r44.1.Side, .int .i64 r44.1.Seed] 23, pt r21_b2 #[.slice r40_p1 r40.2.2.2.sure_.length r40_c2, .map (some r40_b4), .bool r40.2.2.2.off_, .bool r40.2.2.2.armed_, .int .i64 r40.2.2.2.left_, .int .u64 r40.2.2.2.fall_.Keep, .int .i64 r40.2.2.2.fall_.Tear, .int .i64 r40.2.2.2.acts_, .int .i64 r40.2.2.2.falls_] 65, pt r21_b10 #[.pointer (some ⟨r21_b2, 0, none⟩), .int .i64 r40.2.2.1.boot_, .int .i64 r40.2.2.1.n_] 76, own e_disk_sector 86 r40_p1 r40_c2 r40.2.2.2.sure_, mpo (kInt .i64) (fun x : disk_sector => Value.agg #[.string x.s_, .int .i64 x.at_]) r40_b4 r40.2.2.2.wait_] ++ F0) w) ?_ ?_
  · refine cw_seq ?_
    refine cw_region ?_
    refine ow_vals 2 (j := 2) [0, 1, 7, 8, 52] [(0, .string x0), (1, .string x1), (7, .pointer (some ⟨b46, 0, none⟩)), (8, .int .i64 r44.2), (52, .bool (r44.2 != 0))] rfl (by kernel_rfl) ?_
    refine ow_end rfl ?_
    refine ew_then ?_
    rcases if_some hF with ⟨h49, hF⟩ | ⟨h49, hF⟩
    · refine cw_cond_t rfl rfl h49 ?_
      refine cw_seq ?_
      refine cw_region ?_
      refine ow_vals 3 (j := 3) [7, 55] [(7, .pointer (some ⟨b46, 0, none⟩)), (55, .bool (r44.2 == 7))] rfl (by kernel_rfl) ?_
      rcases if_some hF with ⟨h50, hF⟩ | ⟨h50, hF⟩
      · refine ow_slots (L' := [(7, .pointer (some ⟨b46, 0, none⟩)), (55, .bool true)]) (by rw [h50]) ?_
        refine ow_pw rfl (pw_quiet (v := .agg #[.int .i64 r44.1.Gen, .int .i64 r44.1.Boot, .int .i64 r44.1.Side, .int .i64 r44.1.Seed]) rfl rfl rfl rfl (q_load 0 rfl rfl rfl (by kernel_rfl)) (nw_ow ?_))
        refine ow_vals 1 (j := 5) [55, 56, 57] [(55, .bool true), (56, .agg #[.int .i64 r44.1.Gen, .int .i64 r44.1.Boot, .int .i64 r44.1.Side, .int .i64 r44.1.Seed]), (57, .agg #[.int .i64 0, .int .i64 0, .int .i64 0, .int .i64 0])] rfl (by kernel_rfl) ?_
        refine ow_pw rfl (pw_quiet (v := .bool ((r44.1.Gen == 0) && ((r44.1.Boot == 0) && ((r44.1.Side == 0) && ((r44.1.Seed == 0) && (true)))))) rfl rfl rfl rfl (q_eql_struct (b := ((r44.1.Gen == 0) && ((r44.1.Boot == 0) && ((r44.1.Side == 0) && ((r44.1.Seed == 0) && (true)))))) rfl rfl rfl (by kernel_rfl) (by kernel_rfl) (by kernel_rfl) (by kernel_rfl)) (nw_ow ?_))
        refine ow_vals 2 (j := 8) [60] [(60, .bool ((r44.1.Gen == 0) && ((r44.1.Boot == 0) && ((r44.1.Side == 0) && ((r44.1.Seed == 0) && (true))))))] rfl (by kernel_rfl) ?_
        rcases if_some hF with ⟨h51, hF⟩ | ⟨h51, hF⟩
        · refine ow_slots (L' := [(60, .bool true)]) (by rw [h51]) ?_
          obtain ⟨r52, h53, hF⟩ := bind_some hF
          refine ow_pw rfl (pw_call (F := [pt b46 #[.int .i64 r44.1.Gen, .int .i64 r44.1.Boot, .int .i64 r44.1.Side, .int .i64 r44.1.Seed] 23, pt r21_b2 #[.slice r40_p1 r40.2.2.2.sure_.length r40_c2, .map (some r40_b4), .bool r40.2.2.2.off_, .bool r40.2.2.2.armed_, .int .i64 r40.2.2.2.left_, .int .u64 r40.2.2.2.fall_.Keep, .int .i64 r40.2.2.2.fall_.Tear, .int .i64 r40.2.2.2.acts_, .int .i64 r40.2.2.2.falls_] 65, own e_disk_sector 86 r40_p1 r40_c2 r40.2.2.2.sure_, mpo (kInt .i64) (fun x : disk_sector => Value.agg #[.string x.s_, .int .i64 x.at_]) r40_b4 r40.2.2.2.wait_, pt r21_b10 #[.pointer (some ⟨r21_b2, 0, none⟩), .int .i64 r40.2.2.1.boot_, .int .i64 r40.2.2.1.n_] 76] ++ F0) rfl rfl rfl rfl rfl rfl rfl (by kernel_rfl) (perm_of_pulls [1] rfl) (c_law11_awake _ r52 h53) ?_)
          rintro _ _ ⟨rfl, rfl⟩
          refine nw_H (H' := [imm I, pt b46 #[.int .i64 r44.1.Gen, .int .i64 r44.1.Boot, .int .i64 r44.1.Side, .int .i64 r44.1.Seed] 23, pt r21_b2 #[.slice r40_p1 r40.2.2.2.sure_.length r40_c2, .map (some r40_b4), .bool r40.2.2.2.off_, .bool r40.2.2.2.armed_, .int .i64 r40.2.2.2.left_, .int .u64 r40.2.2.2.fall_.Keep, .int .i64 r40.2.2.2.fall_.Tear, .int .i64 r40.2.2.2.acts_, .int .i64 r40.2.2.2.falls_] 65, own e_disk_sector 86 r40_p1 r40_c2 r40.2.2.2.sure_, mpo (kInt .i64) (fun x : disk_sector => Value.agg #[.string x.s_, .int .i64 x.at_]) r40_b4 r40.2.2.2.wait_, pt r21_b10 #[.pointer (some ⟨r21_b2, 0, none⟩), .int .i64 r40.2.2.1.boot_, .int .i64 r40.2.2.1.n_] 76] ++ F0) rfl (nw_ow ?_)
          refine ow_vals 2 (j := 11) [4] [(4, .bool r52)] rfl (by kernel_rfl) ?_
          refine ow_end rfl ?_
          refine ew_then ?_
          refine cw_ret ?_
          refine ew_then_ret ?_
          have hR := Option.some.inj hF
          subst hR
          have hR := hK48
          try dsimp only [Thru] at hR
          subst hR
          exact fin1 (H1 := [imm I]) (fun w hs => sat_to [1, 1, 1, 1, 1, 0] 5 rfl hs) rfl (rr_tmp rfl) ⟨rfl, rfl⟩
        refine ow_slots (L' := [(60, .bool false)]) (by rw [h51]) ?_
        refine ow_vals 3 (j := 11) [4] [(4, .bool false)] rfl (by kernel_rfl) ?_
        refine ow_end rfl ?_
        refine ew_then ?_
        refine cw_ret ?_
        refine ew_then_ret ?_
        have hR := Option.some.inj hF
        subst hR
        have hR := hK48
        try dsimp only [Thru] at hR
        subst hR
        exact fin1 (H1 := [imm I]) (fun w hs => sat_to [0, 1, 1, 1, 1, 0] 5 rfl hs) rfl (rr_tmp rfl) ⟨rfl, rfl⟩
      refine ow_slots (L' := [(7, .pointer (some ⟨b46, 0, none⟩)), (55, .bool false)]) (by rw [h50]) ?_
      refine ow_vals 8 (j := 11) [4] [(4, .bool false)] rfl (by kernel_rfl) ?_
      refine ow_end rfl ?_
      refine ew_then ?_
      refine cw_ret ?_
      refine ew_then_ret ?_
      have hR := Option.some.inj hF
      subst hR
      have hR := hK48
      try dsimp only [Thru] at hR
      subst hR
      exact fin1 (H1 := [imm I]) (fun w hs => sat_to [0, 1, 1, 1, 1, 0] 5 rfl hs) rfl (rr_tmp rfl) ⟨rfl, rfl⟩
    refine cw_cond_f rfl rfl h49 ?_
    refine cw_skip ?_
    have hR := Option.some.inj hF
    exact fun a w hf hs => ⟨hR, hf.keep [0, 1, 7], sat_to [1, 0, 0, 2, 0, 0] 0 rfl hs⟩
  rintro a w ⟨hv, hf, hs⟩
  subst hv
  replace hF := hK48
  clear hK48
  try dsimp only [Thru] at hF
  revert a w
  show CW _ _ _ 112 [(0, .string x0), (1, .string x1), (7, .pointer (some ⟨b46, 0, none⟩))] (SAT w0 ([imm I, pt b46 #[.int .i64 r44.1.Gen, .int .i64 r44.1.Boot, .int .i64 r44.1.Side, .int .i64 r44.1.Seed] 23, pt r21_b2 #[.slice r40_p1 r40.2.2.2.sure_.length r40_c2, .map (some r40_b4), .bool r40.2.2.2.off_, .bool r40.2.2.2.armed_, .int .i64 r40.2.2.2.left_, .int .u64 r40.2.2.2.fall_.Keep, .int .i64 r40.2.2.2.fall_.Tear, .int .i64 r40.2.2.2.acts_, .int .i64 r40.2.2.2.falls_] 65, pt r21_b10 #[.pointer (some ⟨r21_b2, 0, none⟩), .int .i64 r40.2.2.1.boot_, .int .i64 r40.2.2.1.n_] 76, own e_disk_sector 86 r40_p1 r40_c2 r40.2.2.2.sure_, mpo (kInt .i64) (fun x : disk_sector => Value.agg #[.string x.s_, .int .i64 x.at_]) r40_b4 r40.2.2.2.wait_] ++ F0))
  unfold F.law11_SuperLoads.r4 at hF
  refine cw_seq ?_
  refine cw_seq ?_
  refine cw_region ?_
  refine ow_pw rfl (pw_quiet (v := .agg #[.int .i64 r44.1.Gen, .int .i64 r44.1.Boot, .int .i64 r44.1.Side, .int .i64 r44.1.Seed]) rfl rfl rfl rfl (q_load 1 rfl rfl rfl (by kernel_rfl)) (nw_ow ?_))
  obtain ⟨r54, h55, hF⟩ := bind_some hF
  refine ow_pw rfl (pw_call (F := [pt b46 #[.int .i64 r44.1.Gen, .int .i64 r44.1.Boot, .int .i64 r44.1.Side, .int .i64 r44.1.Seed] 23, pt r21_b2 #[.slice r40_p1 r40.2.2.2.sure_.length r40_c2, .map (some r40_b4), .bool r40.2.2.2.off_, .bool r40.2.2.2.armed_, .int .i64 r40.2.2.2.left_, .int .u64 r40.2.2.2.fall_.Keep, .int .i64 r40.2.2.2.fall_.Tear, .int .i64 r40.2.2.2.acts_, .int .i64 r40.2.2.2.falls_] 65, pt r21_b10 #[.pointer (some ⟨r21_b2, 0, none⟩), .int .i64 r40.2.2.1.boot_, .int .i64 r40.2.2.1.n_] 76, own e_disk_sector 86 r40_p1 r40_c2 r40.2.2.2.sure_, mpo (kInt .i64) (fun x : disk_sector => Value.agg #[.string x.s_, .int .i64 x.at_]) r40_b4 r40.2.2.2.wait_] ++ F0) rfl rfl rfl rfl rfl rfl rfl (by kernel_rfl) (perm_of_pulls [0] rfl) (c_law11_right _ r44.1 r54 h55) ?_)
  rintro _ _ ⟨rfl, rfl⟩
  refine nw_H (H' := [imm I, pt b46 #[.int .i64 r44.1.Gen, .int .i64 r44.1.Boot, .int .i64 r44.1.Side, .int .i64 r44.1.Seed] 23, pt r21_b2 #[.slice r40_p1 r40.2.2.2.sure_.length r40_c2, .map (some r40_b4), .bool r40.2.2.2.off_, .bool r40.2.2.2.armed_, .int .i64 r40.2.2.2.left_, .int .u64 r40.2.2.2.fall_.Keep, .int .i64 r40.2.2.2.fall_.Tear, .int .i64 r40.2.2.2.acts_, .int .i64 r40.2.2.2.falls_] 65, pt r21_b10 #[.pointer (some ⟨r21_b2, 0, none⟩), .int .i64 r40.2.2.1.boot_, .int .i64 r40.2.2.1.n_] 76, own e_disk_sector 86 r40_p1 r40_c2 r40.2.2.2.sure_, mpo (kInt .i64) (fun x : disk_sector => Value.agg #[.string x.s_, .int .i64 x.at_]) r40_b4 r40.2.2.2.wait_] ++ F0) rfl (nw_ow ?_)
  refine ow_vals 1 (j := 3) [0, 1, 7, 65] [(0, .string x0), (1, .string x1), (7, .pointer (some ⟨b46, 0, none⟩)), (65, .bool (!r54))] rfl (by kernel_rfl) ?_
  refine ow_end rfl ?_
  refine ew_then ?_
  rcases if_some hF with ⟨h56, hF⟩ | ⟨h56, hF⟩
  · refine cw_cond_t rfl rfl h56 ?_
    refine cw_seq ?_
    refine cw_region ?_
    refine ow_vals 1 (j := 1) [4] [(4, .bool false)] rfl (by kernel_rfl) ?_
    refine ow_end rfl ?_
    refine ew_then ?_
    refine cw_ret ?_
    refine ew_then_ret ?_
    have hR := Option.some.inj hF
    subst hR
    exact fin1 (H1 := [imm I]) (fun w hs => sat_to [1, 1, 1, 1, 1, 0] 5 rfl hs) rfl (rr_tmp rfl) ⟨rfl, rfl⟩
  refine cw_cond_f rfl rfl h56 ?_
  refine cw_skip ?_
  refine ew_then ?_
  refine cw_seq ?_
  refine cw_region ?_
  refine ow_vals 2 (j := 2) [0, 1, 7, 9] [(0, .string x0), (1, .string x1), (7, .pointer (some ⟨b46, 0, none⟩)), (9, .string x0)] rfl (by kernel_rfl) ?_
  refine ow_end rfl ?_
  refine ew_then ?_
  refine cw_seq ?_
  refine cw_region ?_
  refine ow_vals 2 (j := 2) [0, 1, 7, 9, 10] [(0, .string x0), (1, .string x1), (7, .pointer (some ⟨b46, 0, none⟩)), (9, .string x0), (10, .string x1)] rfl (by kernel_rfl) ?_
  refine ow_end rfl ?_
  refine ew_then ?_
  obtain ⟨v57, hF, hK57⟩ := bind_some hF
  refine cw_mid (fun a w => ∃ (s59 : ByteArray), ∃ (s60 : ByteArray), (s59, s60) = v57 ∧ Fr 112 [(7, .pointer (some ⟨b46, 0, none⟩)), (9, .string s59), (10, .string s60)] a ∧ SAT w0 ([imm I, pt b46 #[.int .i64 r44.1.Gen, .int .i64 r44.1.Boot, .int .i64 r44.1.Side, .int .i64 r44.1.Seed] 23, pt r21_b2 #[.slice r40_p1 r40.2.2.2.sure_.length r40_c2, .map (some r40_b4), .bool r40.2.2.2.off_, .bool r40.2.2.2.armed_, .int .i64 r40.2.2.2.left_, .int .u64 r40.2.2.2.fall_.Keep, .int .i64 r40.2.2.2.fall_.Tear, .int .i64 r40.2.2.2.acts_, .int .i64 r40.2.2.2.falls_] 65, pt r21_b10 #[.pointer (some ⟨r21_b2, 0, none⟩), .int .i64 r40.2.2.1.boot_, .int .i64 r40.2.2.1.n_] 76, own e_disk_sector 86 r40_p1 r40_c2 r40.2.2.2.sure_, mpo (kInt .i64) (fun x : disk_sector => Value.agg #[.string x.s_, .int .i64 x.at_]) r40_b4 r40.2.2.2.wait_] ++ F0) w) ?_ ?_
  · refine cw_seq ?_
    refine cw_region ?_
    refine ow_vals 1 (j := 1) [0, 1, 7, 9, 10, 68] [(0, .string x0), (1, .string x1), (7, .pointer (some ⟨b46, 0, none⟩)), (9, .string x0), (10, .string x1), (68, .pointer (some ⟨b46, 0, none⟩))] rfl (by kernel_rfl) ?_
    refine ow_pw rfl (pw_quiet (v := .int .i64 r44.1.Gen) rfl rfl rfl rfl (q_load 1 rfl rfl rfl (by kernel_rfl)) (nw_ow ?_))
    refine ow_vals 2 (j := 4) [0, 1, 7, 9, 10, 71] [(0, .string x0), (1, .string x1), (7, .pointer (some ⟨b46, 0, none⟩)), (9, .string x0), (10, .string x1), (71, .bool ((r44.1.Gen.tmod 2) == 1))] rfl (by kernel_rfl) ?_
    refine ow_end rfl ?_
    refine ew_then ?_
    rcases if_some hF with ⟨h58, hF⟩ | ⟨h58, hF⟩
    · refine cw_cond_t rfl rfl h58 ?_
      refine cw_seq ?_
      refine cw_region ?_
      refine ow_vals 2 (j := 2) [0, 7, 9] [(0, .string x0), (7, .pointer (some ⟨b46, 0, none⟩)), (9, .string x1)] rfl (by kernel_rfl) ?_
      refine ow_end rfl ?_
      refine ew_then ?_
      refine cw_region ?_
      refine ow_vals 2 (j := 2) [7, 9, 10] [(7, .pointer (some ⟨b46, 0, none⟩)), (9, .string x1), (10, .string x0)] rfl (by kernel_rfl) ?_
      refine ow_end rfl ?_
      have hR := Option.some.inj hF
      exact fun a w hf hs => ⟨x1, x0, hR, hf.keep [7, 9, 10], sat_to [0, 0, 0, 0, 0, 0] 0 rfl hs⟩
    refine cw_cond_f rfl rfl h58 ?_
    refine cw_skip ?_
    have hR := Option.some.inj hF
    exact fun a w hf hs => ⟨x0, x1, hR, hf.keep [7, 9, 10], sat_to [0, 0, 0, 0, 0, 0] 0 rfl hs⟩
  rintro a w ⟨s59, s60, hv, hf, hs⟩
  subst hv
  replace hF := hK57
  clear hK57
  try dsimp only at hF
  revert a w
  show CW _ _ _ 112 [(7, .pointer (some ⟨b46, 0, none⟩)), (9, .string s59), (10, .string s60)] (SAT w0 ([imm I, pt b46 #[.int .i64 r44.1.Gen, .int .i64 r44.1.Boot, .int .i64 r44.1.Side, .int .i64 r44.1.Seed] 23, pt r21_b2 #[.slice r40_p1 r40.2.2.2.sure_.length r40_c2, .map (some r40_b4), .bool r40.2.2.2.off_, .bool r40.2.2.2.armed_, .int .i64 r40.2.2.2.left_, .int .u64 r40.2.2.2.fall_.Keep, .int .i64 r40.2.2.2.fall_.Tear, .int .i64 r40.2.2.2.acts_, .int .i64 r40.2.2.2.falls_] 65, pt r21_b10 #[.pointer (some ⟨r21_b2, 0, none⟩), .int .i64 r40.2.2.1.boot_, .int .i64 r40.2.2.1.n_] 76, own e_disk_sector 86 r40_p1 r40_c2 r40.2.2.2.sure_, mpo (kInt .i64) (fun x : disk_sector => Value.agg #[.string x.s_, .int .i64 x.at_]) r40_b4 r40.2.2.2.wait_] ++ F0))
  unfold F.law11_SuperLoads.r5 at hF
  refine cw_seq ?_
  refine cw_region ?_
  refine ow_vals 1 (j := 1) [7, 9, 10, 74] [(7, .pointer (some ⟨b46, 0, none⟩)), (9, .string s59), (10, .string s60), (74, .string s60)] rfl (by kernel_rfl) ?_
  obtain ⟨r61, h62, hF⟩ := bind_some hF
  refine ow_pw rfl (pw_call (F := [pt b46 #[.int .i64 r44.1.Gen, .int .i64 r44.1.Boot, .int .i64 r44.1.Side, .int .i64 r44.1.Seed] 23, pt r21_b2 #[.slice r40_p1 r40.2.2.2.sure_.length r40_c2, .map (some r40_b4), .bool r40.2.2.2.off_, .bool r40.2.2.2.armed_, .int .i64 r40.2.2.2.left_, .int .u64 r40.2.2.2.fall_.Keep, .int .i64 r40.2.2.2.fall_.Tear, .int .i64 r40.2.2.2.acts_, .int .i64 r40.2.2.2.falls_] 65, pt r21_b10 #[.pointer (some ⟨r21_b2, 0, none⟩), .int .i64 r40.2.2.1.boot_, .int .i64 r40.2.2.1.n_] 76, own e_disk_sector 86 r40_p1 r40_c2 r40.2.2.2.sure_, mpo (kInt .i64) (fun x : disk_sector => Value.agg #[.string x.s_, .int .i64 x.at_]) r40_b4 r40.2.2.2.wait_] ++ F0) rfl rfl rfl rfl rfl rfl rfl (by kernel_rfl) (perm_of_pulls [0] rfl) (c_octet_Read _ s60 r61 h62) ?_)
  rintro _ _ ⟨r61_b1, rfl, rfl⟩
  refine nw_H (H' := [imm I, pt r61_b1 #[.string r61.s_, .int .i64 r61.at_, .int .i64 r61.e_] 81, pt b46 #[.int .i64 r44.1.Gen, .int .i64 r44.1.Boot, .int .i64 r44.1.Side, .int .i64 r44.1.Seed] 23, pt r21_b2 #[.slice r40_p1 r40.2.2.2.sure_.length r40_c2, .map (some r40_b4), .bool r40.2.2.2.off_, .bool r40.2.2.2.armed_, .int .i64 r40.2.2.2.left_, .int .u64 r40.2.2.2.fall_.Keep, .int .i64 r40.2.2.2.fall_.Tear, .int .i64 r40.2.2.2.acts_, .int .i64 r40.2.2.2.falls_] 65, pt r21_b10 #[.pointer (some ⟨r21_b2, 0, none⟩), .int .i64 r40.2.2.1.boot_, .int .i64 r40.2.2.1.n_] 76, own e_disk_sector 86 r40_p1 r40_c2 r40.2.2.2.sure_, mpo (kInt .i64) (fun x : disk_sector => Value.agg #[.string x.s_, .int .i64 x.at_]) r40_b4 r40.2.2.2.wait_] ++ F0) rfl (nw_ow ?_)
  refine ow_vals 1 (j := 3) [7, 9, 10, 11] [(7, .pointer (some ⟨b46, 0, none⟩)), (9, .string s59), (10, .string s60), (11, .pointer (some ⟨r61_b1, 0, none⟩))] rfl (by kernel_rfl) ?_
  refine ow_end rfl ?_
  refine ew_then ?_
  refine cw_seq ?_
  refine cw_region ?_
  refine ow_vals 1 (j := 1) [7, 9, 10, 11, 76] [(7, .pointer (some ⟨b46, 0, none⟩)), (9, .string s59), (10, .string s60), (11, .pointer (some ⟨r61_b1, 0, none⟩)), (76, .pointer (some ⟨r61_b1, 0, none⟩))] rfl (by kernel_rfl) ?_
  obtain ⟨r64, h65, hF⟩ := bind_some hF
  refine ow_pw rfl (pw_call (F := [pt b46 #[.int .i64 r44.1.Gen, .int .i64 r44.1.Boot, .int .i64 r44.1.Side, .int .i64 r44.1.Seed] 23, pt r21_b2 #[.slice r40_p1 r40.2.2.2.sure_.length r40_c2, .map (some r40_b4), .bool r40.2.2.2.off_, .bool r40.2.2.2.armed_, .int .i64 r40.2.2.2.left_, .int .u64 r40.2.2.2.fall_.Keep, .int .i64 r40.2.2.2.fall_.Tear, .int .i64 r40.2.2.2.acts_, .int .i64 r40.2.2.2.falls_] 65, pt r21_b10 #[.pointer (some ⟨r21_b2, 0, none⟩), .int .i64 r40.2.2.1.boot_, .int .i64 r40.2.2.1.n_] 76, own e_disk_sector 86 r40_p1 r40_c2 r40.2.2.2.sure_, mpo (kInt .i64) (fun x : disk_sector => Value.agg #[.string x.s_, .int .i64 x.at_]) r40_b4 r40.2.2.2.wait_] ++ F0) rfl rfl rfl rfl rfl rfl rfl (by kernel_rfl) (perm_of_pulls [0, 0] rfl) (c_octet_Reader_Text _ 100 r61 r61_b1 r64 h65) ?_)
  rintro _ _ ⟨rfl, rfl⟩
  refine nw_H (H' := [imm I, pt r61_b1 #[.string r64.2.s_, .int .i64 r64.2.at_, .int .i64 r64.2.e_] 81, pt b46 #[.int .i64 r44.1.Gen, .int .i64 r44.1.Boot, .int .i64 r44.1.Side, .int .i64 r44.1.Seed] 23, pt r21_b2 #[.slice r40_p1 r40.2.2.2.sure_.length r40_c2, .map (some r40_b4), .bool r40.2.2.2.off_, .bool r40.2.2.2.armed_, .int .i64 r40.2.2.2.left_, .int .u64 r40.2.2.2.fall_.Keep, .int .i64 r40.2.2.2.fall_.Tear, .int .i64 r40.2.2.2.acts_, .int .i64 r40.2.2.2.falls_] 65, pt r21_b10 #[.pointer (some ⟨r21_b2, 0, none⟩), .int .i64 r40.2.2.1.boot_, .int .i64 r40.2.2.1.n_] 76, own e_disk_sector 86 r40_p1 r40_c2 r40.2.2.2.sure_, mpo (kInt .i64) (fun x : disk_sector => Value.agg #[.string x.s_, .int .i64 x.at_]) r40_b4 r40.2.2.2.wait_] ++ F0) rfl (nw_ow ?_)
  refine ow_vals 1 (j := 3) [7, 9, 10, 11, 12] [(7, .pointer (some ⟨b46, 0, none⟩)), (9, .string s59), (10, .string s60), (11, .pointer (some ⟨r61_b1, 0, none⟩)), (12, .string r64.1)] rfl (by kernel_rfl) ?_
  refine ow_end rfl ?_
  refine ew_then ?_
  refine cw_seq ?_
  refine cw_region ?_
  refine ow_vals 1 (j := 1) [7, 9, 10, 12, 78] [(7, .pointer (some ⟨b46, 0, none⟩)), (9, .string s59), (10, .string s60), (12, .string r64.1), (78, .pointer (some ⟨r61_b1, 0, none⟩))] rfl (by kernel_rfl) ?_
  obtain ⟨r66, h67, hF⟩ := bind_some hF
  refine ow_pw rfl (pw_call (F := [pt b46 #[.int .i64 r44.1.Gen, .int .i64 r44.1.Boot, .int .i64 r44.1.Side, .int .i64 r44.1.Seed] 23, pt r21_b2 #[.slice r40_p1 r40.2.2.2.sure_.length r40_c2, .map (some r40_b4), .bool r40.2.2.2.off_, .bool r40.2.2.2.armed_, .int .i64 r40.2.2.2.left_, .int .u64 r40.2.2.2.fall_.Keep, .int .i64 r40.2.2.2.fall_.Tear, .int .i64 r40.2.2.2.acts_, .int .i64 r40.2.2.2.falls_] 65, pt r21_b10 #[.pointer (some ⟨r21_b2, 0, none⟩), .int .i64 r40.2.2.1.boot_, .int .i64 r40.2.2.1.n_] 76, own e_disk_sector 86 r40_p1 r40_c2 r40.2.2.2.sure_, mpo (kInt .i64) (fun x : disk_sector => Value.agg #[.string x.s_, .int .i64 x.at_]) r40_b4 r40.2.2.2.wait_] ++ F0) rfl rfl rfl rfl rfl rfl rfl (by kernel_rfl) (perm_of_pulls [0, 0] rfl) (c_octet_Reader_Num _ 2147483647 r64.2 r61_b1 r66 h67) ?_)
  rintro _ _ ⟨rfl, rfl⟩
  refine nw_H (H' := [imm I, pt r61_b1 #[.string r66.2.s_, .int .i64 r66.2.at_, .int .i64 r66.2.e_] 81, pt b46 #[.int .i64 r44.1.Gen, .int .i64 r44.1.Boot, .int .i64 r44.1.Side, .int .i64 r44.1.Seed] 23, pt r21_b2 #[.slice r40_p1 r40.2.2.2.sure_.length r40_c2, .map (some r40_b4), .bool r40.2.2.2.off_, .bool r40.2.2.2.armed_, .int .i64 r40.2.2.2.left_, .int .u64 r40.2.2.2.fall_.Keep, .int .i64 r40.2.2.2.fall_.Tear, .int .i64 r40.2.2.2.acts_, .int .i64 r40.2.2.2.falls_] 65, pt r21_b10 #[.pointer (some ⟨r21_b2, 0, none⟩), .int .i64 r40.2.2.1.boot_, .int .i64 r40.2.2.1.n_] 76, own e_disk_sector 86 r40_p1 r40_c2 r40.2.2.2.sure_, mpo (kInt .i64) (fun x : disk_sector => Value.agg #[.string x.s_, .int .i64 x.at_]) r40_b4 r40.2.2.2.wait_] ++ F0) rfl (nw_ow ?_)
  refine ow_vals 1 (j := 3) [7, 9, 10, 12, 13] [(7, .pointer (some ⟨b46, 0, none⟩)), (9, .string s59), (10, .string s60), (12, .string r64.1), (13, .int .i64 r66.1)] rfl (by kernel_rfl) ?_
  refine ow_end rfl ?_
  refine ew_then ?_
  obtain ⟨v68, hF, hK68⟩ := bind_some hF
  refine cw_mid (fun a w => ∃ (x74 : Bool), x74 = v68 ∧ Fr 112 [(7, .pointer (some ⟨b46, 0, none⟩)), (9, .string s59), (14, .bool x74)] a ∧ SAT w0 ([imm I, pt r61_b1 #[.string r66.2.s_, .int .i64 r66.2.at_, .int .i64 r66.2.e_] 81, pt b46 #[.int .i64 r44.1.Gen, .int .i64 r44.1.Boot, .int .i64 r44.1.Side, .int .i64 r44.1.Seed] 23, pt r21_b2 #[.slice r40_p1 r40.2.2.2.sure_.length r40_c2, .map (some r40_b4), .bool r40.2.2.2.off_, .bool r40.2.2.2.armed_, .int .i64 r40.2.2.2.left_, .int .u64 r40.2.2.2.fall_.Keep, .int .i64 r40.2.2.2.fall_.Tear, .int .i64 r40.2.2.2.acts_, .int .i64 r40.2.2.2.falls_] 65, pt r21_b10 #[.pointer (some ⟨r21_b2, 0, none⟩), .int .i64 r40.2.2.1.boot_, .int .i64 r40.2.2.1.n_] 76, own e_disk_sector 86 r40_p1 r40_c2 r40.2.2.2.sure_, mpo (kInt .i64) (fun x : disk_sector => Value.agg #[.string x.s_, .int .i64 x.at_]) r40_b4 r40.2.2.2.wait_] ++ F0) w) ?_ ?_
  · refine cw_region ?_
    refine ow_vals 3 (j := 3) [7, 9, 10, 13, 82] [(7, .pointer (some ⟨b46, 0, none⟩)), (9, .string s59), (10, .string s60), (13, .int .i64 r66.1), (82, .bool (seqB r64.1 (ByteArray.mk #[67, 72, 65, 82, 84, 49])))] rfl (by kernel_rfl) ?_
    rcases if_some hF with ⟨h69, hF⟩ | ⟨h69, hF⟩
    · refine ow_slots (L' := [(7, .pointer (some ⟨b46, 0, none⟩)), (9, .string s59), (10, .string s60), (13, .int .i64 r66.1), (82, .bool true)]) (by rw [h69]) ?_
      refine ow_vals 2 (j := 5) [7, 9, 10, 13, 82, 83, 84] [(7, .pointer (some ⟨b46, 0, none⟩)), (9, .string s59), (10, .string s60), (13, .int .i64 r66.1), (82, .bool true), (83, .int .i64 r66.1), (84, .pointer (some ⟨b46, 0, none⟩))] rfl (by kernel_rfl) ?_
      refine ow_pw rfl (pw_quiet (v := .int .i64 r44.1.Gen) rfl rfl rfl rfl (q_load 2 rfl rfl rfl (by kernel_rfl)) (nw_ow ?_))
      refine ow_vals 3 (j := 9) [7, 9, 10, 13, 88] [(7, .pointer (some ⟨b46, 0, none⟩)), (9, .string s59), (10, .string s60), (13, .int .i64 r66.1), (88, .bool (decide (r66.1 > r44.1.Gen)))] rfl (by kernel_rfl) ?_
      rcases if_some hF with ⟨h70, hF⟩ | ⟨h70, hF⟩
      · refine ow_slots (L' := [(7, .pointer (some ⟨b46, 0, none⟩)), (9, .string s59), (10, .string s60), (13, .int .i64 r66.1), (88, .bool true)]) (by rw [h70]) ?_
        refine ow_vals 2 (j := 11) [7, 9, 10, 13, 88, 89, 90] [(7, .pointer (some ⟨b46, 0, none⟩)), (9, .string s59), (10, .string s60), (13, .int .i64 r66.1), (88, .bool true), (89, .int .i64 r66.1), (90, .pointer (some ⟨b46, 0, none⟩))] rfl (by kernel_rfl) ?_
        refine ow_pw rfl (pw_quiet (v := .int .i64 r44.1.Gen) rfl rfl rfl rfl (q_load 2 rfl rfl rfl (by kernel_rfl)) (nw_ow ?_))
        refine ow_vals 5 (j := 17) [7, 9, 10, 13, 96] [(7, .pointer (some ⟨b46, 0, none⟩)), (9, .string s59), (10, .string s60), (13, .int .i64 r66.1), (96, .bool (((IntKind.i64.wrap (r66.1 - r44.1.Gen)).tmod 2) == 1))] rfl (by kernel_rfl) ?_
        rcases if_some hF with ⟨h71, hF⟩ | ⟨h71, hF⟩
        · refine ow_slots (L' := [(7, .pointer (some ⟨b46, 0, none⟩)), (9, .string s59), (10, .string s60), (13, .int .i64 r66.1), (96, .bool true)]) (by rw [h71]) ?_
          refine ow_vals 2 (j := 19) [7, 9, 96, 97, 98] [(7, .pointer (some ⟨b46, 0, none⟩)), (9, .string s59), (96, .bool true), (97, .string s60), (98, .int .i64 r66.1)] rfl (by kernel_rfl) ?_
          obtain ⟨r72, h73, hF⟩ := bind_some hF
          refine ow_pw rfl (pw_call (F := [pt r61_b1 #[.string r66.2.s_, .int .i64 r66.2.at_, .int .i64 r66.2.e_] 81, pt b46 #[.int .i64 r44.1.Gen, .int .i64 r44.1.Boot, .int .i64 r44.1.Side, .int .i64 r44.1.Seed] 23, pt r21_b2 #[.slice r40_p1 r40.2.2.2.sure_.length r40_c2, .map (some r40_b4), .bool r40.2.2.2.off_, .bool r40.2.2.2.armed_, .int .i64 r40.2.2.2.left_, .int .u64 r40.2.2.2.fall_.Keep, .int .i64 r40.2.2.2.fall_.Tear, .int .i64 r40.2.2.2.acts_, .int .i64 r40.2.2.2.falls_] 65, pt r21_b10 #[.pointer (some ⟨r21_b2, 0, none⟩), .int .i64 r40.2.2.1.boot_, .int .i64 r40.2.2.1.n_] 76, own e_disk_sector 86 r40_p1 r40_c2 r40.2.2.2.sure_, mpo (kInt .i64) (fun x : disk_sector => Value.agg #[.string x.s_, .int .i64 x.at_]) r40_b4 r40.2.2.2.wait_] ++ F0) rfl rfl rfl rfl rfl rfl rfl (by kernel_rfl) (perm_of_pulls [0] rfl) (c_law11_isSuper _ s60 r66.1 r72 h73) ?_)
          rintro _ _ ⟨rfl, rfl⟩
          refine nw_H (H' := [imm I, pt r61_b1 #[.string r66.2.s_, .int .i64 r66.2.at_, .int .i64 r66.2.e_] 81, pt b46 #[.int .i64 r44.1.Gen, .int .i64 r44.1.Boot, .int .i64 r44.1.Side, .int .i64 r44.1.Seed] 23, pt r21_b2 #[.slice r40_p1 r40.2.2.2.sure_.length r40_c2, .map (some r40_b4), .bool r40.2.2.2.off_, .bool r40.2.2.2.armed_, .int .i64 r40.2.2.2.left_, .int .u64 r40.2.2.2.fall_.Keep, .int .i64 r40.2.2.2.fall_.Tear, .int .i64 r40.2.2.2.acts_, .int .i64 r40.2.2.2.falls_] 65, pt r21_b10 #[.pointer (some ⟨r21_b2, 0, none⟩), .int .i64 r40.2.2.1.boot_, .int .i64 r40.2.2.1.n_] 76, own e_disk_sector 86 r40_p1 r40_c2 r40.2.2.2.sure_, mpo (kInt .i64) (fun x : disk_sector => Value.agg #[.string x.s_, .int .i64 x.at_]) r40_b4 r40.2.2.2.wait_] ++ F0) rfl (nw_ow ?_)
          refine ow_vals 2 (j := 22) [7, 9, 14] [(7, .pointer (some ⟨b46, 0, none⟩)), (9, .string s59), (14, .bool r72)] rfl (by kernel_rfl) ?_
          refine ow_end rfl ?_
          have hR := Option.some.inj hF
          exact fun a w hf hs => ⟨r72, hR, hf.keep [7, 9, 14], sat_to [0, 0, 0, 0, 0, 0, 0] 0 rfl hs⟩
        refine ow_slots (L' := [(7, .pointer (some ⟨b46, 0, none⟩)), (9, .string s59), (10, .string s60), (13, .int .i64 r66.1), (96, .bool false)]) (by rw [h71]) ?_
        refine ow_vals 5 (j := 22) [7, 9, 14] [(7, .pointer (some ⟨b46, 0, none⟩)), (9, .string s59), (14, .bool false)] rfl (by kernel_rfl) ?_
        refine ow_end rfl ?_
        have hR := Option.some.inj hF
        exact fun a w hf hs => ⟨false, hR, hf.keep [7, 9, 14], sat_to [0, 0, 0, 0, 0, 0, 0] 0 rfl hs⟩
      refine ow_slots (L' := [(7, .pointer (some ⟨b46, 0, none⟩)), (9, .string s59), (10, .string s60), (13, .int .i64 r66.1), (88, .bool false)]) (by rw [h70]) ?_
      refine ow_vals 13 (j := 22) [7, 9, 14] [(7, .pointer (some ⟨b46, 0, none⟩)), (9, .string s59), (14, .bool false)] rfl (by kernel_rfl) ?_
      refine ow_end rfl ?_
      have hR := Option.some.inj hF
      exact fun a w hf hs => ⟨false, hR, hf.keep [7, 9, 14], sat_to [0, 0, 0, 0, 0, 0, 0] 0 rfl hs⟩
    refine ow_slots (L' := [(7, .pointer (some ⟨b46, 0, none⟩)), (9, .string s59), (10, .string s60), (13, .int .i64 r66.1), (82, .bool false)]) (by rw [h69]) ?_
    refine ow_vals 19 (j := 22) [7, 9, 14] [(7, .pointer (some ⟨b46, 0, none⟩)), (9, .string s59), (14, .bool false)] rfl (by kernel_rfl) ?_
    refine ow_end rfl ?_
    have hR := Option.some.inj hF
    exact fun a w hf hs => ⟨false, hR, hf.keep [7, 9, 14], sat_to [0, 0, 0, 0, 0, 0, 0] 0 rfl hs⟩
  rintro a w ⟨x74, hv, hf, hs⟩
  subst hv
  replace hF := hK68
  clear hK68
  try dsimp only at hF
  revert a w
  show CW _ _ _ 112 [(7, .pointer (some ⟨b46, 0, none⟩)), (9, .string s59), (14, .bool x74)] (SAT w0 ([imm I, pt r61_b1 #[.string r66.2.s_, .int .i64 r66.2.at_, .int .i64 r66.2.e_] 81, pt b46 #[.int .i64 r44.1.Gen, .int .i64 r44.1.Boot, .int .i64 r44.1.Side, .int .i64 r44.1.Seed] 23, pt r21_b2 #[.slice r40_p1 r40.2.2.2.sure_.length r40_c2, .map (some r40_b4), .bool r40.2.2.2.off_, .bool r40.2.2.2.armed_, .int .i64 r40.2.2.2.left_, .int .u64 r40.2.2.2.fall_.Keep, .int .i64 r40.2.2.2.fall_.Tear, .int .i64 r40.2.2.2.acts_, .int .i64 r40.2.2.2.falls_] 65, pt r21_b10 #[.pointer (some ⟨r21_b2, 0, none⟩), .int .i64 r40.2.2.1.boot_, .int .i64 r40.2.2.1.n_] 76, own e_disk_sector 86 r40_p1 r40_c2 r40.2.2.2.sure_, mpo (kInt .i64) (fun x : disk_sector => Value.agg #[.string x.s_, .int .i64 x.at_]) r40_b4 r40.2.2.2.wait_] ++ F0))
  unfold F.law11_SuperLoads.r6 at hF
  refine cw_seq ?_
  refine cw_region ?_
  refine ow_vals 1 (j := 1) [7, 14, 101] [(7, .pointer (some ⟨b46, 0, none⟩)), (14, .bool x74), (101, .string s59)] rfl (by kernel_rfl) ?_
  refine ow_pw rfl (pw_quiet (v := .agg #[.int .i64 r44.1.Gen, .int .i64 r44.1.Boot, .int .i64 r44.1.Side, .int .i64 r44.1.Seed]) rfl rfl rfl rfl (q_load 2 rfl rfl rfl (by kernel_rfl)) (nw_ow ?_))
  obtain ⟨r75, h76, hF⟩ := bind_some hF
  refine ow_pw rfl (pw_call (F := [pt r61_b1 #[.string r66.2.s_, .int .i64 r66.2.at_, .int .i64 r66.2.e_] 81, pt b46 #[.int .i64 r44.1.Gen, .int .i64 r44.1.Boot, .int .i64 r44.1.Side, .int .i64 r44.1.Seed] 23, pt r21_b2 #[.slice r40_p1 r40.2.2.2.sure_.length r40_c2, .map (some r40_b4), .bool r40.2.2.2.off_, .bool r40.2.2.2.armed_, .int .i64 r40.2.2.2.left_, .int .u64 r40.2.2.2.fall_.Keep, .int .i64 r40.2.2.2.fall_.Tear, .int .i64 r40.2.2.2.acts_, .int .i64 r40.2.2.2.falls_] 65, pt r21_b10 #[.pointer (some ⟨r21_b2, 0, none⟩), .int .i64 r40.2.2.1.boot_, .int .i64 r40.2.2.1.n_] 76, own e_disk_sector 86 r40_p1 r40_c2 r40.2.2.2.sure_, mpo (kInt .i64) (fun x : disk_sector => Value.agg #[.string x.s_, .int .i64 x.at_]) r40_b4 r40.2.2.2.wait_] ++ F0) rfl rfl rfl rfl rfl rfl rfl (by kernel_rfl) (perm_of_pulls [0] rfl) (c_law11_bytes _ r44.1 r75 h76) ?_)
  rintro _ _ ⟨rfl, rfl⟩
  refine nw_H (H' := [imm I, pt r61_b1 #[.string r66.2.s_, .int .i64 r66.2.at_, .int .i64 r66.2.e_] 81, pt b46 #[.int .i64 r44.1.Gen, .int .i64 r44.1.Boot, .int .i64 r44.1.Side, .int .i64 r44.1.Seed] 23, pt r21_b2 #[.slice r40_p1 r40.2.2.2.sure_.length r40_c2, .map (some r40_b4), .bool r40.2.2.2.off_, .bool r40.2.2.2.armed_, .int .i64 r40.2.2.2.left_, .int .u64 r40.2.2.2.fall_.Keep, .int .i64 r40.2.2.2.fall_.Tear, .int .i64 r40.2.2.2.acts_, .int .i64 r40.2.2.2.falls_] 65, pt r21_b10 #[.pointer (some ⟨r21_b2, 0, none⟩), .int .i64 r40.2.2.1.boot_, .int .i64 r40.2.2.1.n_] 76, own e_disk_sector 86 r40_p1 r40_c2 r40.2.2.2.sure_, mpo (kInt .i64) (fun x : disk_sector => Value.agg #[.string x.s_, .int .i64 x.at_]) r40_b4 r40.2.2.2.wait_] ++ F0) rfl (nw_ow ?_)
  refine ow_vals 2 (j := 5) [14, 105] [(14, .bool x74), (105, .bool (seqB s59 r75))] rfl (by kernel_rfl) ?_
  rcases if_some hF with ⟨h77, hF⟩ | ⟨h77, hF⟩
  · refine ow_slots (L' := [(14, .bool x74), (105, .bool true)]) (by rw [h77]) ?_
    refine ow_vals 4 (j := 9) [109] [(109, .bool (!x74))] rfl (by kernel_rfl) ?_
    rcases if_some hF with ⟨h78, hF⟩ | ⟨h78, hF⟩
    · refine ow_slots (L' := [(109, .bool true)]) (by rw [h78]) ?_
      obtain ⟨r79, h80, hF⟩ := bind_some hF
      refine ow_pw rfl (pw_call (F := [pt r61_b1 #[.string r66.2.s_, .int .i64 r66.2.at_, .int .i64 r66.2.e_] 81, pt b46 #[.int .i64 r44.1.Gen, .int .i64 r44.1.Boot, .int .i64 r44.1.Side, .int .i64 r44.1.Seed] 23, pt r21_b2 #[.slice r40_p1 r40.2.2.2.sure_.length r40_c2, .map (some r40_b4), .bool r40.2.2.2.off_, .bool r40.2.2.2.armed_, .int .i64 r40.2.2.2.left_, .int .u64 r40.2.2.2.fall_.Keep, .int .i64 r40.2.2.2.fall_.Tear, .int .i64 r40.2.2.2.acts_, .int .i64 r40.2.2.2.falls_] 65, pt r21_b10 #[.pointer (some ⟨r21_b2, 0, none⟩), .int .i64 r40.2.2.1.boot_, .int .i64 r40.2.2.1.n_] 76, own e_disk_sector 86 r40_p1 r40_c2 r40.2.2.2.sure_, mpo (kInt .i64) (fun x : disk_sector => Value.agg #[.string x.s_, .int .i64 x.at_]) r40_b4 r40.2.2.2.wait_] ++ F0) rfl rfl rfl rfl rfl rfl rfl (by kernel_rfl) (perm_of_pulls [0] rfl) (c_law11_awake _ r79 h80) ?_)
      rintro _ _ ⟨rfl, rfl⟩
      refine nw_H (H' := [imm I, pt r61_b1 #[.string r66.2.s_, .int .i64 r66.2.at_, .int .i64 r66.2.e_] 81, pt b46 #[.int .i64 r44.1.Gen, .int .i64 r44.1.Boot, .int .i64 r44.1.Side, .int .i64 r44.1.Seed] 23, pt r21_b2 #[.slice r40_p1 r40.2.2.2.sure_.length r40_c2, .map (some r40_b4), .bool r40.2.2.2.off_, .bool r40.2.2.2.armed_, .int .i64 r40.2.2.2.left_, .int .u64 r40.2.2.2.fall_.Keep, .int .i64 r40.2.2.2.fall_.Tear, .int .i64 r40.2.2.2.acts_, .int .i64 r40.2.2.2.falls_] 65, pt r21_b10 #[.pointer (some ⟨r21_b2, 0, none⟩), .int .i64 r40.2.2.1.boot_, .int .i64 r40.2.2.1.n_] 76, own e_disk_sector 86 r40_p1 r40_c2 r40.2.2.2.sure_, mpo (kInt .i64) (fun x : disk_sector => Value.agg #[.string x.s_, .int .i64 x.at_]) r40_b4 r40.2.2.2.wait_] ++ F0) rfl (nw_ow ?_)
      refine ow_vals 2 (j := 12) [4] [(4, .bool r79)] rfl (by kernel_rfl) ?_
      refine ow_end rfl ?_
      refine ew_then ?_
      refine cw_ret ?_
      have hR := Option.some.inj hF
      subst hR
      exact fin1 (H1 := [imm I]) (fun w hs => sat_to [1, 1, 1, 1, 1, 1, 0] 6 rfl hs) rfl (rr_tmp rfl) ⟨rfl, rfl⟩
    refine ow_slots (L' := [(109, .bool false)]) (by rw [h78]) ?_
    refine ow_vals 3 (j := 12) [4] [(4, .bool false)] rfl (by kernel_rfl) ?_
    refine ow_end rfl ?_
    refine ew_then ?_
    refine cw_ret ?_
    have hR := Option.some.inj hF
    subst hR
    exact fin1 (H1 := [imm I]) (fun w hs => sat_to [1, 1, 1, 1, 1, 1, 0] 6 rfl hs) rfl (rr_tmp rfl) ⟨rfl, rfl⟩
  refine ow_slots (L' := [(14, .bool x74), (105, .bool false)]) (by rw [h77]) ?_
  refine ow_vals 7 (j := 12) [4] [(4, .bool false)] rfl (by kernel_rfl) ?_
  refine ow_end rfl ?_
  refine ew_then ?_
  refine cw_ret ?_
  have hR := Option.some.inj hF
  subst hR
  exact fin1 (H1 := [imm I]) (fun w hs => sat_to [1, 1, 1, 1, 1, 1, 0] 6 rfl hs) rfl (rr_tmp rfl) ⟨rfl, rfl⟩

end Go.Proofs.YtgbciaegbpkpaaaGreatDoor
