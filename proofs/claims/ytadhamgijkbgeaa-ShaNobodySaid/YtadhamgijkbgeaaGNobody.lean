/- What the functions compute, and that the code computes it: printed by a program of this claim (wip/tools), for the group Nobody. -/
import Derived.Test.YtadhamgijkbgeaaGSha
namespace Go.Proofs.Ytadhamgijkbgeaa
set_option linter.all false
open Go Go.RowKit Go.Fw
set_option linter.unusedVariables false

def F.sha_State_Write_1 (x1 : ByteArray) : Option Unit :=
  some (())
set_option maxRecDepth 100000 in
set_option maxHeartbeats 4000000 in
theorem c_sha_State_Write_1 (I : Hl) (x1 : ByteArray) (res : Unit) (hF : F.sha_State_Write_1 x1 = some res) : Tr Try.prog 12 [.pointer none, .string x1] [imm I] (fun r H' => r = .tuple #[] ∧ H' = [imm I]) := by
  unfold F.sha_State_Write_1 at hF
  refine tr_of_cw (fn := Try.f12) Try.func12 rfl (Nat.le_of_ble_eq_true rfl) 42 rfl fun F0 w0 => ?_
  refine cw_keep [0, 1] (L' := [(0, .pointer none), (1, .string x1)]) rfl ?_
  refine cw_state (S' := SAT w0 ([imm I] ++ F0)) (fun w hs => hs) ?_
  refine cw_seq ?_
  refine cw_seq ?_
  refine cw_region ?_
  refine ow_vals 9 (j := 9) [0, 1, 12] [(0, .pointer none), (1, .string x1), (12, .bool true)] rfl (by kernel_rfl) ?_
  refine ow_end rfl ?_
  refine ew_then ?_
  refine cw_cond_t rfl rfl rfl ?_
  refine cw_ret ?_
  refine ew_then_ret ?_
  have hR := Option.some.inj hF
  subst hR
  exact fin0 (H1 := [imm I]) (fun w hs => sat_to [0] 0 rfl hs) rfl  ⟨rfl, rfl⟩


def F.sha_State_Sum_1 : Option ByteArray :=
  some ((ByteArray.mk #[]))
set_option maxRecDepth 100000 in
set_option maxHeartbeats 4000000 in
theorem c_sha_State_Sum_1 (I : Hl) (res : ByteArray) (hF : F.sha_State_Sum_1 = some res) : Tr Try.prog 13 [.pointer none] [imm I] (fun r H' => r = .string res ∧ H' = [imm I]) := by
  unfold F.sha_State_Sum_1 at hF
  refine tr_of_cw (fn := Try.f13) Try.func13 rfl (Nat.le_of_ble_eq_true rfl) 75 rfl fun F0 w0 => ?_
  refine cw_keep [0] (L' := [(0, .pointer none)]) rfl ?_
  refine cw_state (S' := SAT w0 ([imm I] ++ F0)) (fun w hs => hs) ?_
  refine cw_seq ?_
  refine cw_region ?_
  refine ow_vals 1 (j := 1) [0] [(0, .pointer none)] rfl (by kernel_rfl) ?_
  refine ow_end rfl ?_
  refine ew_then ?_
  refine cw_seq ?_
  refine cw_seq ?_
  refine cw_region ?_
  refine ow_vals 9 (j := 9) [0, 17] [(0, .pointer none), (17, .bool true)] rfl (by kernel_rfl) ?_
  refine ow_end rfl ?_
  refine ew_then ?_
  refine cw_cond_t rfl rfl rfl ?_
  refine cw_seq ?_
  refine cw_region ?_
  refine ow_vals 1 (j := 1) [2] [(2, .string (ByteArray.mk #[]))] rfl (by kernel_rfl) ?_
  refine ow_end rfl ?_
  refine ew_then ?_
  refine cw_ret ?_
  refine ew_then_ret ?_
  have hR := Option.some.inj hF
  subst hR
  exact fin1 (H1 := [imm I]) (fun w hs => sat_to [0] 0 rfl hs) rfl (rr_tmp rfl) ⟨rfl, rfl⟩


def F.sha_State_Len : Option Int :=
  some (0)
set_option maxRecDepth 100000 in
set_option maxHeartbeats 4000000 in
theorem c_sha_State_Len (I : Hl) (res : Int) (hF : F.sha_State_Len = some res) : Tr Try.prog 14 [.pointer none] [imm I] (fun r H' => r = .int .i64 res ∧ H' = [imm I]) := by
  unfold F.sha_State_Len at hF
  refine tr_of_cw (fn := Try.f14) Try.func14 rfl (Nat.le_of_ble_eq_true rfl) 10 rfl fun F0 w0 => ?_
  refine cw_keep [0] (L' := [(0, .pointer none)]) rfl ?_
  refine cw_state (S' := SAT w0 ([imm I] ++ F0)) (fun w hs => hs) ?_
  refine cw_seq ?_
  refine cw_region ?_
  refine ow_vals 1 (j := 1) [0] [(0, .pointer none)] rfl (by kernel_rfl) ?_
  refine ow_end rfl ?_
  refine ew_then ?_
  refine cw_seq ?_
  refine cw_seq ?_
  refine cw_region ?_
  refine ow_vals 2 (j := 2) [0, 4] [(0, .pointer none), (4, .bool true)] rfl (by kernel_rfl) ?_
  refine ow_end rfl ?_
  refine ew_then ?_
  refine cw_cond_t rfl rfl rfl ?_
  refine cw_seq ?_
  refine cw_region ?_
  refine ow_vals 1 (j := 1) [2] [(2, .int .i64 0)] rfl (by kernel_rfl) ?_
  refine ow_end rfl ?_
  refine ew_then ?_
  refine cw_ret ?_
  refine ew_then_ret ?_
  have hR := Option.some.inj hF
  subst hR
  exact fin1 (H1 := [imm I]) (fun w hs => sat_to [0] 0 rfl hs) rfl (rr_tmp rfl) ⟨rfl, rfl⟩


def F.sha_State_Len_1 (m0 : sha_State) : Option Int :=
  some ((IntKind.i64.wrap (m0.n_)))
set_option maxRecDepth 100000 in
set_option maxHeartbeats 4000000 in
theorem c_sha_State_Len_1 (I : Hl) (m0 : sha_State) (b0 : Nat) (res : Int) (hF : F.sha_State_Len_1 m0 = some res) : Tr Try.prog 14 [.pointer (some ⟨b0, 0, none⟩)] [imm I, pt b0 #[.int .u32 m0.h_.e0, .int .u32 m0.h_.e1, .int .u32 m0.h_.e2, .int .u32 m0.h_.e3, .int .u32 m0.h_.e4, .int .u32 m0.h_.e5, .int .u32 m0.h_.e6, .int .u32 m0.h_.e7, .string m0.rest_, .int .u64 m0.n_, .bool m0.on_] 36] (fun r H' => r = .int .i64 res ∧ H' = [imm I, pt b0 #[.int .u32 m0.h_.e0, .int .u32 m0.h_.e1, .int .u32 m0.h_.e2, .int .u32 m0.h_.e3, .int .u32 m0.h_.e4, .int .u32 m0.h_.e5, .int .u32 m0.h_.e6, .int .u32 m0.h_.e7, .string m0.rest_, .int .u64 m0.n_, .bool m0.on_] 36]) := by
  unfold F.sha_State_Len_1 at hF
  refine tr_of_cw (fn := Try.f14) Try.func14 rfl (Nat.le_of_ble_eq_true rfl) 10 rfl fun F0 w0 => ?_
  refine cw_keep [0] (L' := [(0, .pointer (some ⟨b0, 0, none⟩))]) rfl ?_
  refine cw_state (S' := SAT w0 ([imm I, pt b0 #[.int .u32 m0.h_.e0, .int .u32 m0.h_.e1, .int .u32 m0.h_.e2, .int .u32 m0.h_.e3, .int .u32 m0.h_.e4, .int .u32 m0.h_.e5, .int .u32 m0.h_.e6, .int .u32 m0.h_.e7, .string m0.rest_, .int .u64 m0.n_, .bool m0.on_] 36] ++ F0)) (fun w hs => hs) ?_
  refine cw_seq ?_
  refine cw_region ?_
  refine ow_vals 1 (j := 1) [0] [(0, .pointer (some ⟨b0, 0, none⟩))] rfl (by kernel_rfl) ?_
  refine ow_end rfl ?_
  refine ew_then ?_
  refine cw_seq ?_
  refine cw_seq ?_
  refine cw_region ?_
  refine ow_vals 2 (j := 2) [0, 4] [(0, .pointer (some ⟨b0, 0, none⟩)), (4, .bool false)] rfl (by kernel_rfl) ?_
  refine ow_end rfl ?_
  refine ew_then ?_
  refine cw_cond_f rfl rfl rfl ?_
  refine cw_skip ?_
  refine ew_then ?_
  refine cw_seq ?_
  refine cw_region ?_
  refine ow_vals 3 (j := 3) [7] [(7, .pointer (some ⟨b0, 9, none⟩))] rfl (by kernel_rfl) ?_
  refine ow_pw rfl (pw_quiet (v := .int .u64 m0.n_) rfl rfl rfl rfl (q_load 1 rfl rfl rfl (by kernel_rfl)) (nw_ow ?_))
  refine ow_vals 2 (j := 6) [2] [(2, .int .i64 (IntKind.i64.wrap (m0.n_)))] rfl (by kernel_rfl) ?_
  refine ow_end rfl ?_
  refine ew_then ?_
  refine cw_ret ?_
  have hR := Option.some.inj hF
  subst hR
  exact fin1 (H1 := [imm I, pt b0 #[.int .u32 m0.h_.e0, .int .u32 m0.h_.e1, .int .u32 m0.h_.e2, .int .u32 m0.h_.e3, .int .u32 m0.h_.e4, .int .u32 m0.h_.e5, .int .u32 m0.h_.e6, .int .u32 m0.h_.e7, .string m0.rest_, .int .u64 m0.n_, .bool m0.on_] 36]) (fun w hs => sat_to [0, 0] 0 rfl hs) rfl (rr_tmp rfl) ⟨rfl, rfl⟩


def F.law02_ShaNobody (x0 : ByteArray) : Option Bool :=
  Option.bind (F.sha_State_Write_1 x0) (fun (r23 : Unit) => Option.bind (F.sha_State_Write x0 (⟨(⟨0, 0, 0, 0, 0, 0, 0, 0⟩ : A8_Intu32), (ByteArray.mk #[]), 0, false⟩ : sha_State)) (fun (r25 : sha_State) => Option.bind (F.sha_State_Sum_1) (fun (r27 : ByteArray) => if seqB r27 (ByteArray.mk #[]) then (Option.bind (F.sha_State_Sum r25) (fun (r30 : ByteArray) => if seqB r30 (ByteArray.mk #[]) then (Option.bind (F.sha_State_Len) (fun (r33 : Int) => Option.bind (F.sha_State_Len_1 r25) (fun (r35 : Int) => if (IntKind.i64.wrap (r33 + r35)) == 0 then (Option.bind (F.law02_awake) (fun (r38 : Bool) => some (r38))) else (some (false))))) else (some (false)))) else (some (false)))))
set_option maxRecDepth 100000 in
set_option maxHeartbeats 4000000 in
theorem c_law02_ShaNobody (I : Hl) (x0 : ByteArray) (res : Bool) (hF : F.law02_ShaNobody x0 = some res) : Tr Try.prog 6 [.string x0] [imm I] (fun r H' => r = .bool res ∧ H' = [imm I]) := by
  unfold F.law02_ShaNobody at hF
  refine tr_of_cw (fn := Try.f6) Try.func6 rfl (Nat.le_of_ble_eq_true rfl) 27 rfl fun F0 w0 => ?_
  refine cw_keep [0] (L' := [(0, .string x0)]) rfl ?_
  refine cw_state (S' := SAT w0 ([imm I] ++ F0)) (fun w hs => hs) ?_
  refine cw_seq ?_
  refine cw_region ?_
  refine ow_vals 1 (j := 1) [0] [(0, .string x0)] rfl (by kernel_rfl) ?_
  refine ow_end rfl ?_
  refine ew_then ?_
  refine cw_seq ?_
  refine cw_region ?_
  refine ow_vals 1 (j := 1) [0, 3] [(0, .string x0), (3, .pointer none)] rfl (by kernel_rfl) ?_
  refine ow_end rfl ?_
  refine ew_then ?_
  refine cw_seq ?_
  refine cw_region ?_
  refine ow_pw rfl (pw_alloc (cs := #[.int .u32 0, .int .u32 0, .int .u32 0, .int .u32 0, .int .u32 0, .int .u32 0, .int .u32 0, .int .u32 0, .string (ByteArray.mk #[]), .int .u64 0, .bool false]) rfl rfl rfl rfl rfl (by kernel_rfl) fun b21 => nw_ow ?_)
  refine ow_end rfl ?_
  refine ew_then ?_
  refine cw_seq ?_
  refine cw_region ?_
  refine ow_vals 2 (j := 2) [0, 3, 4, 5, 6] [(0, .string x0), (3, .pointer none), (4, .pointer (some ⟨b21, 0, none⟩)), (5, .pointer none), (6, .string x0)] rfl (by kernel_rfl) ?_
  obtain ⟨r23, h24, hF⟩ := bind_some hF
  refine ow_pw rfl (pw_call (F := [pt b21 #[.int .u32 0, .int .u32 0, .int .u32 0, .int .u32 0, .int .u32 0, .int .u32 0, .int .u32 0, .int .u32 0, .string (ByteArray.mk #[]), .int .u64 0, .bool false] 36] ++ F0) rfl rfl rfl rfl rfl rfl rfl (by kernel_rfl) (perm_of_pulls [1] rfl) (c_sha_State_Write_1 _ _ r23 h24) ?_)
  rintro _ _ ⟨rfl, rfl⟩
  refine nw_H (H' := [imm I, pt b21 #[.int .u32 0, .int .u32 0, .int .u32 0, .int .u32 0, .int .u32 0, .int .u32 0, .int .u32 0, .int .u32 0, .string (ByteArray.mk #[]), .int .u64 0, .bool false] 36] ++ F0) rfl (nw_ow ?_)
  refine ow_end rfl ?_
  refine ew_then ?_
  refine cw_seq ?_
  refine cw_region ?_
  refine ow_vals 1 (j := 1) [3, 4, 8] [(3, .pointer none), (4, .pointer (some ⟨b21, 0, none⟩)), (8, .string x0)] rfl (by kernel_rfl) ?_
  obtain ⟨r25, h26, hF⟩ := bind_some hF
  refine ow_pw rfl (pw_call (F := [] ++ F0) rfl rfl rfl rfl rfl rfl rfl (by kernel_rfl) (perm_of_pulls [0, 0] rfl) (c_sha_State_Write _ _ _ b21 r25 h26) ?_)
  rintro _ _ ⟨rfl, rfl⟩
  refine nw_H (H' := [imm I, pt b21 #[.int .u32 r25.h_.e0, .int .u32 r25.h_.e1, .int .u32 r25.h_.e2, .int .u32 r25.h_.e3, .int .u32 r25.h_.e4, .int .u32 r25.h_.e5, .int .u32 r25.h_.e6, .int .u32 r25.h_.e7, .string r25.rest_, .int .u64 r25.n_, .bool r25.on_] 36] ++ F0) rfl (nw_ow ?_)
  refine ow_end rfl ?_
  refine ew_then ?_
  refine cw_seq ?_
  refine cw_region ?_
  refine ow_vals 1 (j := 1) [3, 4, 10] [(3, .pointer none), (4, .pointer (some ⟨b21, 0, none⟩)), (10, .pointer none)] rfl (by kernel_rfl) ?_
  obtain ⟨r27, h28, hF⟩ := bind_some hF
  refine ow_pw rfl (pw_call (F := [pt b21 #[.int .u32 r25.h_.e0, .int .u32 r25.h_.e1, .int .u32 r25.h_.e2, .int .u32 r25.h_.e3, .int .u32 r25.h_.e4, .int .u32 r25.h_.e5, .int .u32 r25.h_.e6, .int .u32 r25.h_.e7, .string r25.rest_, .int .u64 r25.n_, .bool r25.on_] 36] ++ F0) rfl rfl rfl rfl rfl rfl rfl (by kernel_rfl) (perm_of_pulls [0] rfl) (c_sha_State_Sum_1 _ r27 h28) ?_)
  rintro _ _ ⟨rfl, rfl⟩
  refine nw_H (H' := [imm I, pt b21 #[.int .u32 r25.h_.e0, .int .u32 r25.h_.e1, .int .u32 r25.h_.e2, .int .u32 r25.h_.e3, .int .u32 r25.h_.e4, .int .u32 r25.h_.e5, .int .u32 r25.h_.e6, .int .u32 r25.h_.e7, .string r25.rest_, .int .u64 r25.n_, .bool r25.on_] 36] ++ F0) rfl (nw_ow ?_)
  refine ow_vals 2 (j := 4) [3, 4, 13] [(3, .pointer none), (4, .pointer (some ⟨b21, 0, none⟩)), (13, .bool (seqB r27 (ByteArray.mk #[])))] rfl (by kernel_rfl) ?_
  rcases if_some hF with ⟨h29, hF⟩ | ⟨h29, hF⟩
  · refine ow_slots (L' := [(3, .pointer none), (4, .pointer (some ⟨b21, 0, none⟩)), (13, .bool true)]) (by rw [h29]) ?_
    obtain ⟨r30, h31, hF⟩ := bind_some hF
    refine ow_pw rfl (pw_call (F := [] ++ F0) rfl rfl rfl rfl rfl rfl rfl (by kernel_rfl) (perm_of_pulls [0, 0] rfl) (c_sha_State_Sum _ _ b21 r30 h31) ?_)
    rintro _ _ ⟨rfl, rfl⟩
    refine nw_H (H' := [imm I, pt b21 #[.int .u32 r25.h_.e0, .int .u32 r25.h_.e1, .int .u32 r25.h_.e2, .int .u32 r25.h_.e3, .int .u32 r25.h_.e4, .int .u32 r25.h_.e5, .int .u32 r25.h_.e6, .int .u32 r25.h_.e7, .string r25.rest_, .int .u64 r25.n_, .bool r25.on_] 36] ++ F0) rfl (nw_ow ?_)
    refine ow_vals 3 (j := 8) [3, 4, 17] [(3, .pointer none), (4, .pointer (some ⟨b21, 0, none⟩)), (17, .bool (seqB r30 (ByteArray.mk #[])))] rfl (by kernel_rfl) ?_
    rcases if_some hF with ⟨h32, hF⟩ | ⟨h32, hF⟩
    · refine ow_slots (L' := [(3, .pointer none), (4, .pointer (some ⟨b21, 0, none⟩)), (17, .bool true)]) (by rw [h32]) ?_
      refine ow_vals 1 (j := 9) [4, 17, 18] [(4, .pointer (some ⟨b21, 0, none⟩)), (17, .bool true), (18, .pointer none)] rfl (by kernel_rfl) ?_
      obtain ⟨r33, h34, hF⟩ := bind_some hF
      refine ow_pw rfl (pw_call (F := [pt b21 #[.int .u32 r25.h_.e0, .int .u32 r25.h_.e1, .int .u32 r25.h_.e2, .int .u32 r25.h_.e3, .int .u32 r25.h_.e4, .int .u32 r25.h_.e5, .int .u32 r25.h_.e6, .int .u32 r25.h_.e7, .string r25.rest_, .int .u64 r25.n_, .bool r25.on_] 36] ++ F0) rfl rfl rfl rfl rfl rfl rfl (by kernel_rfl) (perm_of_pulls [0] rfl) (c_sha_State_Len _ r33 h34) ?_)
      rintro _ _ ⟨rfl, rfl⟩
      refine nw_H (H' := [imm I, pt b21 #[.int .u32 r25.h_.e0, .int .u32 r25.h_.e1, .int .u32 r25.h_.e2, .int .u32 r25.h_.e3, .int .u32 r25.h_.e4, .int .u32 r25.h_.e5, .int .u32 r25.h_.e6, .int .u32 r25.h_.e7, .string r25.rest_, .int .u64 r25.n_, .bool r25.on_] 36] ++ F0) rfl (nw_ow ?_)
      obtain ⟨r35, h36, hF⟩ := bind_some hF
      refine ow_pw rfl (pw_call (F := [] ++ F0) rfl rfl rfl rfl rfl rfl rfl (by kernel_rfl) (perm_of_pulls [0, 0] rfl) (c_sha_State_Len_1 _ _ b21 r35 h36) ?_)
      rintro _ _ ⟨rfl, rfl⟩
      refine nw_H (H' := [imm I, pt b21 #[.int .u32 r25.h_.e0, .int .u32 r25.h_.e1, .int .u32 r25.h_.e2, .int .u32 r25.h_.e3, .int .u32 r25.h_.e4, .int .u32 r25.h_.e5, .int .u32 r25.h_.e6, .int .u32 r25.h_.e7, .string r25.rest_, .int .u64 r25.n_, .bool r25.on_] 36] ++ F0) rfl (nw_ow ?_)
      refine ow_vals 4 (j := 15) [24] [(24, .bool ((IntKind.i64.wrap (r33 + r35)) == 0))] rfl (by kernel_rfl) ?_
      rcases if_some hF with ⟨h37, hF⟩ | ⟨h37, hF⟩
      · refine ow_slots (L' := [(24, .bool true)]) (by rw [h37]) ?_
        obtain ⟨r38, h39, hF⟩ := bind_some hF
        refine ow_pw rfl (pw_call (F := [pt b21 #[.int .u32 r25.h_.e0, .int .u32 r25.h_.e1, .int .u32 r25.h_.e2, .int .u32 r25.h_.e3, .int .u32 r25.h_.e4, .int .u32 r25.h_.e5, .int .u32 r25.h_.e6, .int .u32 r25.h_.e7, .string r25.rest_, .int .u64 r25.n_, .bool r25.on_] 36] ++ F0) rfl rfl rfl rfl rfl rfl rfl (by kernel_rfl) (perm_of_pulls [0] rfl) (c_law02_awake _ r38 h39) ?_)
        rintro _ _ ⟨rfl, rfl⟩
        refine nw_H (H' := [imm I, pt b21 #[.int .u32 r25.h_.e0, .int .u32 r25.h_.e1, .int .u32 r25.h_.e2, .int .u32 r25.h_.e3, .int .u32 r25.h_.e4, .int .u32 r25.h_.e5, .int .u32 r25.h_.e6, .int .u32 r25.h_.e7, .string r25.rest_, .int .u64 r25.n_, .bool r25.on_] 36] ++ F0) rfl (nw_ow ?_)
        refine ow_vals 2 (j := 18) [2] [(2, .bool r38)] rfl (by kernel_rfl) ?_
        refine ow_end rfl ?_
        refine ew_then ?_
        refine cw_ret ?_
        have hR := Option.some.inj hF
        subst hR
        exact fin1 (H1 := [imm I]) (fun w hs => sat_to [1, 0] 1 rfl hs) rfl (rr_tmp rfl) ⟨rfl, rfl⟩
      · refine ow_slots (L' := [(24, .bool false)]) (by rw [h37]) ?_
        refine ow_vals 3 (j := 18) [2] [(2, .bool false)] rfl (by kernel_rfl) ?_
        refine ow_end rfl ?_
        refine ew_then ?_
        refine cw_ret ?_
        have hR := Option.some.inj hF
        subst hR
        exact fin1 (H1 := [imm I]) (fun w hs => sat_to [1, 0] 1 rfl hs) rfl (rr_tmp rfl) ⟨rfl, rfl⟩
    · refine ow_slots (L' := [(3, .pointer none), (4, .pointer (some ⟨b21, 0, none⟩)), (17, .bool false)]) (by rw [h32]) ?_
      refine ow_vals 10 (j := 18) [2] [(2, .bool false)] rfl (by kernel_rfl) ?_
      refine ow_end rfl ?_
      refine ew_then ?_
      refine cw_ret ?_
      have hR := Option.some.inj hF
      subst hR
      exact fin1 (H1 := [imm I]) (fun w hs => sat_to [1, 0] 1 rfl hs) rfl (rr_tmp rfl) ⟨rfl, rfl⟩
  · refine ow_slots (L' := [(3, .pointer none), (4, .pointer (some ⟨b21, 0, none⟩)), (13, .bool false)]) (by rw [h29]) ?_
    refine ow_vals 14 (j := 18) [2] [(2, .bool false)] rfl (by kernel_rfl) ?_
    refine ow_end rfl ?_
    refine ew_then ?_
    refine cw_ret ?_
    have hR := Option.some.inj hF
    subst hR
    exact fin1 (H1 := [imm I]) (fun w hs => sat_to [1, 0] 1 rfl hs) rfl (rr_tmp rfl) ⟨rfl, rfl⟩

end Go.Proofs.Ytadhamgijkbgeaa
