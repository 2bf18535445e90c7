/- What the functions compute, and that the code computes it: printed by a program of this claim (wip/tools), for the group Parts. -/
import Derived.Test.YtadhamgijkbgeaaGSha
namespace Go.Proofs.Ytadhamgijkbgeaa
set_option linter.all false
open Go Go.RowKit Go.Fw
set_option linter.unusedVariables false

def F.law02_ShaParts.r1 (x0 : List ByteArray) (s26 : ByteArray) (x27 : Int) (x28 : Int) (x29 : Int) (x30 : Int) (x31 : Int) (x32 : Int) (x33 : Int) (x34 : Int) (x35 : Int) (s36 : ByteArray) (x37 : Int) (x38 : Bool) : Option ((ByteArray × Int × Int × Int × Int × Int × Int × Int × Int × Int × ByteArray × Int × Bool) ⊕ ((Int × Int × Int × Int × Int × Int × Int × Int × ByteArray × Int × Bool) ⊕ (Bool))) :=
  Option.bind (at_ x0 x27) (fun (y42 : ByteArray) => Option.bind (F.sha_State_Write y42 (⟨(⟨x28, x29, x30, x31, x32, x33, x34, x35⟩ : A8_Intu32), s36, x37, x38⟩ : sha_State)) (fun (r46 : sha_State) => Option.bind (at_ x0 x27) (fun (y48 : ByteArray) => chk (s26.size + y48.size ≤ 9223372036854775807) (Option.bind (F.sha_State_Sum r46) (fun (r53 : ByteArray) => Option.bind (F.sha_Sum (s26 ++ y48)) (fun (r55 : ByteArray) => if !(seqB r53 r55) then (some (.inr (.inr (false)))) else (Option.bind (F.sha_State_Len r46) (fun (r58 : Int) => if r58 != ((s26 ++ y48).size : Int) then (some (.inr (.inr (false)))) else (some (.inl (s26 ++ y48, IntKind.i64.wrap (x27 + 1), r46.h_.e0, r46.h_.e1, r46.h_.e2, r46.h_.e3, r46.h_.e4, r46.h_.e5, r46.h_.e6, r46.h_.e7, r46.rest_, r46.n_, r46.on_)))))))))))
def F.law02_ShaParts.l2 (x0 : List ByteArray) (s26 : ByteArray) (x27 : Int) (x28 : Int) (x29 : Int) (x30 : Int) (x31 : Int) (x32 : Int) (x33 : Int) (x34 : Int) (x35 : Int) (s36 : ByteArray) (x37 : Int) (x38 : Bool) : Option ((ByteArray × Int × Int × Int × Int × Int × Int × Int × Int × Int × ByteArray × Int × Bool) ⊕ ((Int × Int × Int × Int × Int × Int × Int × Int × ByteArray × Int × Bool) ⊕ (Bool))) :=
  thru (if decide (x27 < (x0.length : Int)) then (if decide (x27 < 20) then (some (.inl ())) else (some (.inr (.inr (.inl (x28, x29, x30, x31, x32, x33, x34, x35, s36, x37, x38)))))) else (some (.inr (.inr (.inl (x28, x29, x30, x31, x32, x33, x34, x35, s36, x37, x38)))))) (fun x => F.law02_ShaParts.r1 x0 s26 x27 x28 x29 x30 x31 x32 x33 x34 x35 s36 x37 x38)
def F.law02_ShaParts.r3 (x61 : Int) (x62 : Int) (x63 : Int) (x64 : Int) (x65 : Int) (x66 : Int) (x67 : Int) (x68 : Int) (s69 : ByteArray) (x70 : Int) (x71 : Bool) : Option (Bool) :=
  Option.bind (F.sha_State_Sum (⟨(⟨x61, x62, x63, x64, x65, x66, x67, x68⟩ : A8_Intu32), s69, x70, x71⟩ : sha_State)) (fun (r72 : ByteArray) => if (r72.size : Int) == 32 then (Option.bind (F.law02_awake) (fun (r75 : Bool) => some (r75))) else (some (false)))
def F.law02_ShaParts (x0 : List ByteArray) : Option Bool :=
  Option.bind (F.sha_New) (fun (r21 : sha_State) => thru (iter (fun x => F.law02_ShaParts.l2 x0 x.1 x.2.1 x.2.2.1 x.2.2.2.1 x.2.2.2.2.1 x.2.2.2.2.2.1 x.2.2.2.2.2.2.1 x.2.2.2.2.2.2.2.1 x.2.2.2.2.2.2.2.2.1 x.2.2.2.2.2.2.2.2.2.1 x.2.2.2.2.2.2.2.2.2.2.1 x.2.2.2.2.2.2.2.2.2.2.2.1 x.2.2.2.2.2.2.2.2.2.2.2.2) FUEL ((ByteArray.mk #[]), 0, r21.h_.e0, r21.h_.e1, r21.h_.e2, r21.h_.e3, r21.h_.e4, r21.h_.e5, r21.h_.e6, r21.h_.e7, r21.rest_, r21.n_, r21.on_)) (fun x => F.law02_ShaParts.r3 x.1 x.2.1 x.2.2.1 x.2.2.2.1 x.2.2.2.2.1 x.2.2.2.2.2.1 x.2.2.2.2.2.2.1 x.2.2.2.2.2.2.2.1 x.2.2.2.2.2.2.2.2.1 x.2.2.2.2.2.2.2.2.2.1 x.2.2.2.2.2.2.2.2.2.2))
set_option maxRecDepth 100000 in
set_option maxHeartbeats 4000000 in
theorem c_law02_ShaParts (I : Hl) (x0 : List ByteArray) (p0 : Option Addr) (c0 : Nat) (res : Bool) (hF : F.law02_ShaParts x0 = some res) (hr0 : ro I eStr p0 c0 x0) : Tr Try.prog 5 [.slice p0 x0.length c0] [imm I] (fun r H' => r = .bool res ∧ H' = [imm I]) := by
  unfold F.law02_ShaParts at hF
  refine tr_of_cw (fn := Try.f5) Try.func5 rfl (Nat.le_of_ble_eq_true rfl) 48 rfl fun F0 w0 => ?_
  refine cw_keep [0] (L' := [(0, .slice p0 x0.length c0)]) rfl ?_
  refine cw_state (S' := SAT w0 ([imm I] ++ F0)) (fun w hs => hs) ?_
  refine cw_seq ?_
  refine cw_region ?_
  refine ow_vals 1 (j := 1) [0] [(0, .slice p0 x0.length c0)] rfl (by kernel_rfl) ?_
  refine ow_end rfl ?_
  refine ew_then ?_
  refine cw_seq ?_
  refine cw_region ?_
  obtain ⟨r21, h22, hF⟩ := bind_some hF
  refine ow_pw rfl (pw_call (F := [] ++ F0) rfl rfl rfl rfl rfl rfl rfl (by kernel_rfl) (perm_of_pulls [0] rfl) (c_sha_New _ r21 h22) ?_)
  rintro _ _ ⟨r21_b1, rfl, rfl⟩
  refine nw_H (H' := [imm I, pt r21_b1 #[.int .u32 r21.h_.e0, .int .u32 r21.h_.e1, .int .u32 r21.h_.e2, .int .u32 r21.h_.e3, .int .u32 r21.h_.e4, .int .u32 r21.h_.e5, .int .u32 r21.h_.e6, .int .u32 r21.h_.e7, .string r21.rest_, .int .u64 r21.n_, .bool r21.on_] 36] ++ F0) rfl (nw_ow ?_)
  refine ow_vals 1 (j := 2) [0, 3] [(0, .slice p0 x0.length c0), (3, .pointer (some ⟨r21_b1, 0, none⟩))] rfl (by kernel_rfl) ?_
  refine ow_end rfl ?_
  refine ew_then ?_
  refine cw_seq ?_
  refine cw_region ?_
  refine ow_vals 1 (j := 1) [0, 3, 4] [(0, .slice p0 x0.length c0), (3, .pointer (some ⟨r21_b1, 0, none⟩)), (4, .string (ByteArray.mk #[]))] rfl (by kernel_rfl) ?_
  refine ow_end rfl ?_
  refine ew_then ?_
  obtain ⟨v24, hF, hK24⟩ := thru_some hF
  refine cw_mid (fun a w => ∃ (x61 : Int), ∃ (x62 : Int), ∃ (x63 : Int), ∃ (x64 : Int), ∃ (x65 : Int), ∃ (x66 : Int), ∃ (x67 : Int), ∃ (x68 : Int), ∃ (s69 : ByteArray), ∃ (x70 : Int), ∃ (x71 : Bool), .inl (x61, x62, x63, x64, x65, x66, x67, x68, s69, x70, x71) = v24 ∧ Fr 48 [(3, .pointer (some ⟨r21_b1, 0, none⟩))] a ∧ SAT w0 ([imm I, pt r21_b1 #[.int .u32 x61, .int .u32 x62, .int .u32 x63, .int .u32 x64, .int .u32 x65, .int .u32 x66, .int .u32 x67, .int .u32 x68, .string s69, .int .u64 x70, .bool x71] 36] ++ F0) w) ?_ ?_
  · refine cw_seq ?_
    refine cw_region ?_
    refine ow_vals 1 (j := 1) [0, 3, 4, 5] [(0, .slice p0 x0.length c0), (3, .pointer (some ⟨r21_b1, 0, none⟩)), (4, .string (ByteArray.mk #[])), (5, .int .i64 0)] rfl (by kernel_rfl) ?_
    refine ow_end rfl ?_
    refine ew_then ?_
    refine cw_block ?_
    refine fun a w hf hs => wp_rounds (fun k a w => ∃ (s26 : ByteArray), ∃ (x27 : Int), ∃ (x28 : Int), ∃ (x29 : Int), ∃ (x30 : Int), ∃ (x31 : Int), ∃ (x32 : Int), ∃ (x33 : Int), ∃ (x34 : Int), ∃ (x35 : Int), ∃ (s36 : ByteArray), ∃ (x37 : Int), ∃ (x38 : Bool), iter (fun x => F.law02_ShaParts.l2 x0 x.1 x.2.1 x.2.2.1 x.2.2.2.1 x.2.2.2.2.1 x.2.2.2.2.2.1 x.2.2.2.2.2.2.1 x.2.2.2.2.2.2.2.1 x.2.2.2.2.2.2.2.2.1 x.2.2.2.2.2.2.2.2.2.1 x.2.2.2.2.2.2.2.2.2.2.1 x.2.2.2.2.2.2.2.2.2.2.2.1 x.2.2.2.2.2.2.2.2.2.2.2.2) k (s26, x27, x28, x29, x30, x31, x32, x33, x34, x35, s36, x37, x38) = some v24 ∧ Fr 48 [(0, .slice p0 x0.length c0), (3, .pointer (some ⟨r21_b1, 0, none⟩)), (4, .string s26), (5, .int .i64 x27)] a ∧ SAT w0 ([imm I, pt r21_b1 #[.int .u32 x28, .int .u32 x29, .int .u32 x30, .int .u32 x31, .int .u32 x32, .int .u32 x33, .int .u32 x34, .int .u32 x35, .string s36, .int .u64 x37, .bool x38] 36] ++ F0) w) ?_ FUEL a w ⟨(ByteArray.mk #[]), 0, r21.h_.e0, r21.h_.e1, r21.h_.e2, r21.h_.e3, r21.h_.e4, r21.h_.e5, r21.h_.e6, r21.h_.e7, r21.rest_, r21.n_, r21.on_, hF, hf.keep [0, 3, 4, 5], sat_to [0, 0] 0 rfl hs⟩
    clear hf hs
    clear a w hF
    rintro k a w ⟨s26, x27, x28, x29, x30, x31, x32, x33, x34, x35, s36, x37, x38, hF2, hf, hs⟩
    obtain ⟨k, r25, rfl, hF, hL25⟩ := iter_some hF2
    clear hF2
    revert a w
    show CW _ _ _ 48 [(0, .slice p0 x0.length c0), (3, .pointer (some ⟨r21_b1, 0, none⟩)), (4, .string s26), (5, .int .i64 x27)] (SAT w0 ([imm I, pt r21_b1 #[.int .u32 x28, .int .u32 x29, .int .u32 x30, .int .u32 x31, .int .u32 x32, .int .u32 x33, .int .u32 x34, .int .u32 x35, .string s36, .int .u64 x37, .bool x38] 36] ++ F0))
    try dsimp only at hF
    unfold F.law02_ShaParts.l2 at hF
    obtain ⟨v39, hF, hK39⟩ := thru_some hF
    refine cw_mid (fun a w => .inl () = v39 ∧ Fr 48 [(0, .slice p0 x0.length c0), (3, .pointer (some ⟨r21_b1, 0, none⟩)), (4, .string s26), (5, .int .i64 x27)] a ∧ SAT w0 ([imm I, pt r21_b1 #[.int .u32 x28, .int .u32 x29, .int .u32 x30, .int .u32 x31, .int .u32 x32, .int .u32 x33, .int .u32 x34, .int .u32 x35, .string s36, .int .u64 x37, .bool x38] 36] ++ F0) w) ?_ ?_
    · refine cw_seq ?_
      refine cw_region ?_
      refine ow_vals 5 (j := 5) [0, 3, 4, 5, 11] [(0, .slice p0 x0.length c0), (3, .pointer (some ⟨r21_b1, 0, none⟩)), (4, .string s26), (5, .int .i64 x27), (11, .bool (decide (x27 < (x0.length : Int))))] rfl (by kernel_rfl) ?_
      rcases if_some hF with ⟨h40, hF⟩ | ⟨h40, hF⟩
      · refine ow_slots (L' := [(0, .slice p0 x0.length c0), (3, .pointer (some ⟨r21_b1, 0, none⟩)), (4, .string s26), (5, .int .i64 x27), (11, .bool true)]) (by rw [h40]) ?_
        refine ow_vals 3 (j := 8) [0, 3, 4, 5, 14] [(0, .slice p0 x0.length c0), (3, .pointer (some ⟨r21_b1, 0, none⟩)), (4, .string s26), (5, .int .i64 x27), (14, .bool (decide (x27 < 20)))] rfl (by kernel_rfl) ?_
        refine ow_end rfl ?_
        refine ew_then ?_
        rcases if_some hF with ⟨h41, hF⟩ | ⟨h41, hF⟩
        · refine cw_cond_t rfl rfl h41 ?_
          refine cw_skip ?_
          have hR := Option.some.inj hF
          exact fun a w hf hs => ⟨hR, hf.keep [0, 3, 4, 5], sat_to [0, 0] 0 rfl hs⟩
        · refine cw_cond_f rfl rfl h41 ?_
          refine cw_exit ?_
          refine ew_then_exit ?_
          refine ew_then_exit ?_
          refine ew_blk_exit ?_
          have hR := Option.some.inj hF
          subst hR
          have hR := hK39
          try dsimp only [Thru] at hR
          subst hR
          have hR := hL25
          try dsimp only at hR
          exact fun a w hf hs => ⟨x28, x29, x30, x31, x32, x33, x34, x35, s36, x37, x38, hR, hf.keep [3], sat_to [0, 0] 0 rfl hs⟩
      · refine ow_slots (L' := [(0, .slice p0 x0.length c0), (3, .pointer (some ⟨r21_b1, 0, none⟩)), (4, .string s26), (5, .int .i64 x27), (11, .bool false)]) (by rw [h40]) ?_
        refine ow_vals 3 (j := 8) [0, 3, 4, 5, 14] [(0, .slice p0 x0.length c0), (3, .pointer (some ⟨r21_b1, 0, none⟩)), (4, .string s26), (5, .int .i64 x27), (14, .bool false)] rfl (by kernel_rfl) ?_
        refine ow_end rfl ?_
        refine ew_then ?_
        refine cw_cond_f rfl rfl rfl ?_
        refine cw_exit ?_
        refine ew_then_exit ?_
        refine ew_then_exit ?_
        refine ew_blk_exit ?_
        have hR := Option.some.inj hF
        subst hR
        have hR := hK39
        try dsimp only [Thru] at hR
        subst hR
        have hR := hL25
        try dsimp only at hR
        exact fun a w hf hs => ⟨x28, x29, x30, x31, x32, x33, x34, x35, s36, x37, x38, hR, hf.keep [3], sat_to [0, 0] 0 rfl hs⟩
    · rintro a w ⟨hv, hf, hs⟩
      subst hv
      replace hF := hK39
      clear hK39
      try dsimp only [Thru] at hF
      revert a w
      show CW _ _ _ 48 [(0, .slice p0 x0.length c0), (3, .pointer (some ⟨r21_b1, 0, none⟩)), (4, .string s26), (5, .int .i64 x27)] (SAT w0 ([imm I, pt r21_b1 #[.int .u32 x28, .int .u32 x29, .int .u32 x30, .int .u32 x31, .int .u32 x32, .int .u32 x33, .int .u32 x34, .int .u32 x35, .string s36, .int .u64 x37, .bool x38] 36] ++ F0))
      unfold F.law02_ShaParts.r1 at hF
      refine cw_seq ?_
      refine cw_block ?_
      refine cw_seq ?_
      refine cw_region ?_
      refine ow_vals 3 (j := 3) [0, 3, 4, 5, 17, 18, 19] [(0, .slice p0 x0.length c0), (3, .pointer (some ⟨r21_b1, 0, none⟩)), (4, .string s26), (5, .int .i64 x27), (17, .pointer (some ⟨r21_b1, 0, none⟩)), (18, .slice p0 x0.length c0), (19, .int .i64 x27)] rfl (by kernel_rfl) ?_
      obtain ⟨y42, h43, hF⟩ := bind_some hF
      refine ow_pw rfl (pw_index_ro (E := 9) 1 hr0 rfl rfl rfl rfl rfl (by kernel_rfl) rfl rfl rfl h43 fun q44 h45 => nw_ow ?_)
      refine ow_pw rfl (pw_quiet (v := .string y42) rfl rfl rfl rfl (q_load_el0 0 rfl h45 rfl rfl (by kernel_rfl)) (nw_ow ?_))
      obtain ⟨r46, h47, hF⟩ := bind_some hF
      refine ow_pw rfl (pw_call (F := [] ++ F0) rfl rfl rfl rfl rfl rfl rfl (by kernel_rfl) (perm_of_pulls [0, 0] rfl) (c_sha_State_Write _ _ _ r21_b1 r46 h47) ?_)
      rintro _ _ ⟨rfl, rfl⟩
      refine nw_H (H' := [imm I, pt r21_b1 #[.int .u32 r46.h_.e0, .int .u32 r46.h_.e1, .int .u32 r46.h_.e2, .int .u32 r46.h_.e3, .int .u32 r46.h_.e4, .int .u32 r46.h_.e5, .int .u32 r46.h_.e6, .int .u32 r46.h_.e7, .string r46.rest_, .int .u64 r46.n_, .bool r46.on_] 36] ++ F0) rfl (nw_ow ?_)
      refine ow_end rfl ?_
      refine ew_then ?_
      refine cw_seq ?_
      refine cw_region ?_
      refine ow_vals 3 (j := 3) [0, 3, 5, 23, 24, 25] [(0, .slice p0 x0.length c0), (3, .pointer (some ⟨r21_b1, 0, none⟩)), (5, .int .i64 x27), (23, .string s26), (24, .slice p0 x0.length c0), (25, .int .i64 x27)] rfl (by kernel_rfl) ?_
      obtain ⟨y48, h49, hF⟩ := bind_some hF
      refine ow_pw rfl (pw_index_ro (E := 9) 1 hr0 rfl rfl rfl rfl rfl (by kernel_rfl) rfl rfl rfl h49 fun q50 h51 => nw_ow ?_)
      refine ow_pw rfl (pw_quiet (v := .string y48) rfl rfl rfl rfl (q_load_el0 0 rfl h51 rfl rfl (by kernel_rfl)) (nw_ow ?_))
      obtain ⟨h52, hF⟩ := chk_some hF
      refine ow_pw rfl (pw_quiet (v := .string (s26 ++ y48)) rfl rfl rfl rfl (q_concat rfl rfl rfl h52) (nw_ow ?_))
      refine ow_vals 1 (j := 7) [0, 3, 4, 5] [(0, .slice p0 x0.length c0), (3, .pointer (some ⟨r21_b1, 0, none⟩)), (4, .string (s26 ++ y48)), (5, .int .i64 x27)] rfl (by kernel_rfl) ?_
      refine ow_end rfl ?_
      refine ew_then ?_
      refine cw_seq ?_
      refine cw_region ?_
      refine ow_vals 1 (j := 1) [0, 3, 4, 5, 29] [(0, .slice p0 x0.length c0), (3, .pointer (some ⟨r21_b1, 0, none⟩)), (4, .string (s26 ++ y48)), (5, .int .i64 x27), (29, .pointer (some ⟨r21_b1, 0, none⟩))] rfl (by kernel_rfl) ?_
      obtain ⟨r53, h54, hF⟩ := bind_some hF
      refine ow_pw rfl (pw_call (F := [] ++ F0) rfl rfl rfl rfl rfl rfl rfl (by kernel_rfl) (perm_of_pulls [0, 0] rfl) (c_sha_State_Sum _ _ r21_b1 r53 h54) ?_)
      rintro _ _ ⟨rfl, rfl⟩
      refine nw_H (H' := [imm I, pt r21_b1 #[.int .u32 r46.h_.e0, .int .u32 r46.h_.e1, .int .u32 r46.h_.e2, .int .u32 r46.h_.e3, .int .u32 r46.h_.e4, .int .u32 r46.h_.e5, .int .u32 r46.h_.e6, .int .u32 r46.h_.e7, .string r46.rest_, .int .u64 r46.n_, .bool r46.on_] 36] ++ F0) rfl (nw_ow ?_)
      refine ow_vals 1 (j := 3) [0, 3, 4, 5, 30, 31] [(0, .slice p0 x0.length c0), (3, .pointer (some ⟨r21_b1, 0, none⟩)), (4, .string (s26 ++ y48)), (5, .int .i64 x27), (30, .string r53), (31, .string (s26 ++ y48))] rfl (by kernel_rfl) ?_
      obtain ⟨r55, h56, hF⟩ := bind_some hF
      refine ow_pw rfl (pw_call (F := [pt r21_b1 #[.int .u32 r46.h_.e0, .int .u32 r46.h_.e1, .int .u32 r46.h_.e2, .int .u32 r46.h_.e3, .int .u32 r46.h_.e4, .int .u32 r46.h_.e5, .int .u32 r46.h_.e6, .int .u32 r46.h_.e7, .string r46.rest_, .int .u64 r46.n_, .bool r46.on_] 36] ++ F0) rfl rfl rfl rfl rfl rfl rfl (by kernel_rfl) (perm_of_pulls [0] rfl) (c_sha_Sum _ _ r55 h56) ?_)
      rintro _ _ ⟨rfl, rfl⟩
      refine nw_H (H' := [imm I, pt r21_b1 #[.int .u32 r46.h_.e0, .int .u32 r46.h_.e1, .int .u32 r46.h_.e2, .int .u32 r46.h_.e3, .int .u32 r46.h_.e4, .int .u32 r46.h_.e5, .int .u32 r46.h_.e6, .int .u32 r46.h_.e7, .string r46.rest_, .int .u64 r46.n_, .bool r46.on_] 36] ++ F0) rfl (nw_ow ?_)
      refine ow_vals 2 (j := 6) [0, 3, 4, 5, 34] [(0, .slice p0 x0.length c0), (3, .pointer (some ⟨r21_b1, 0, none⟩)), (4, .string (s26 ++ y48)), (5, .int .i64 x27), (34, .bool (!(seqB r53 r55)))] rfl (by kernel_rfl) ?_
      rcases if_some hF with ⟨h57, hF⟩ | ⟨h57, hF⟩
      · refine ow_slots (L' := [(0, .slice p0 x0.length c0), (3, .pointer (some ⟨r21_b1, 0, none⟩)), (4, .string (s26 ++ y48)), (5, .int .i64 x27), (34, .bool true)]) (by rw [h57]) ?_
        refine ow_vals 6 (j := 12) [0, 3, 4, 5, 40] [(0, .slice p0 x0.length c0), (3, .pointer (some ⟨r21_b1, 0, none⟩)), (4, .string (s26 ++ y48)), (5, .int .i64 x27), (40, .bool true)] rfl (by kernel_rfl) ?_
        refine ow_end rfl ?_
        refine ew_then ?_
        refine cw_cond_t rfl rfl rfl ?_
        refine cw_seq ?_
        refine cw_region ?_
        refine ow_vals 1 (j := 1) [2] [(2, .bool false)] rfl (by kernel_rfl) ?_
        refine ow_end rfl ?_
        refine ew_then ?_
        refine cw_ret ?_
        refine ew_blk_ret ?_
        refine ew_then_ret ?_
        refine ew_then_ret ?_
        refine ew_blk_ret ?_
        refine ew_then_ret ?_
        have hR := Option.some.inj hF
        subst hR
        have hR := hL25
        try dsimp only at hR
        subst hR
        have hR := hK24
        try dsimp only [Thru] at hR
        subst hR
        exact fin1 (H1 := [imm I]) (fun w hs => sat_to [1, 0] 1 rfl hs) rfl (rr_tmp rfl) ⟨rfl, rfl⟩
      · refine ow_slots (L' := [(0, .slice p0 x0.length c0), (3, .pointer (some ⟨r21_b1, 0, none⟩)), (4, .string (s26 ++ y48)), (5, .int .i64 x27), (34, .bool false)]) (by rw [h57]) ?_
        refine ow_vals 1 (j := 7) [0, 3, 4, 5, 34, 35] [(0, .slice p0 x0.length c0), (3, .pointer (some ⟨r21_b1, 0, none⟩)), (4, .string (s26 ++ y48)), (5, .int .i64 x27), (34, .bool false), (35, .pointer (some ⟨r21_b1, 0, none⟩))] rfl (by kernel_rfl) ?_
        obtain ⟨r58, h59, hF⟩ := bind_some hF
        refine ow_pw rfl (pw_call (F := [] ++ F0) rfl rfl rfl rfl rfl rfl rfl (by kernel_rfl) (perm_of_pulls [0, 0] rfl) (c_sha_State_Len _ _ r21_b1 r58 h59) ?_)
        rintro _ _ ⟨rfl, rfl⟩
        refine nw_H (H' := [imm I, pt r21_b1 #[.int .u32 r46.h_.e0, .int .u32 r46.h_.e1, .int .u32 r46.h_.e2, .int .u32 r46.h_.e3, .int .u32 r46.h_.e4, .int .u32 r46.h_.e5, .int .u32 r46.h_.e6, .int .u32 r46.h_.e7, .string r46.rest_, .int .u64 r46.n_, .bool r46.on_] 36] ++ F0) rfl (nw_ow ?_)
        refine ow_vals 4 (j := 12) [0, 3, 4, 5, 40] [(0, .slice p0 x0.length c0), (3, .pointer (some ⟨r21_b1, 0, none⟩)), (4, .string (s26 ++ y48)), (5, .int .i64 x27), (40, .bool (r58 != ((s26 ++ y48).size : Int)))] rfl (by kernel_rfl) ?_
        refine ow_end rfl ?_
        refine ew_then ?_
        rcases if_some hF with ⟨h60, hF⟩ | ⟨h60, hF⟩
        · refine cw_cond_t rfl rfl h60 ?_
          refine cw_seq ?_
          refine cw_region ?_
          refine ow_vals 1 (j := 1) [2] [(2, .bool false)] rfl (by kernel_rfl) ?_
          refine ow_end rfl ?_
          refine ew_then ?_
          refine cw_ret ?_
          refine ew_blk_ret ?_
          refine ew_then_ret ?_
          refine ew_then_ret ?_
          refine ew_blk_ret ?_
          refine ew_then_ret ?_
          have hR := Option.some.inj hF
          subst hR
          have hR := hL25
          try dsimp only at hR
          subst hR
          have hR := hK24
          try dsimp only [Thru] at hR
          subst hR
          exact fin1 (H1 := [imm I]) (fun w hs => sat_to [1, 0] 1 rfl hs) rfl (rr_tmp rfl) ⟨rfl, rfl⟩
        · refine cw_cond_f rfl rfl h60 ?_
          refine cw_skip ?_
          refine ew_blk ?_
          refine ew_then ?_
          refine cw_region ?_
          refine ow_vals 3 (j := 3) [0, 3, 4, 5] [(0, .slice p0 x0.length c0), (3, .pointer (some ⟨r21_b1, 0, none⟩)), (4, .string (s26 ++ y48)), (5, .int .i64 (IntKind.i64.wrap (x27 + 1)))] rfl (by kernel_rfl) ?_
          refine ow_end rfl ?_
          have hR := Option.some.inj hF
          subst hR
          have hR := hL25
          try dsimp only at hR
          exact fun a w hf hs => ⟨k, Nat.lt_succ_self k, s26 ++ y48, IntKind.i64.wrap (x27 + 1), r46.h_.e0, r46.h_.e1, r46.h_.e2, r46.h_.e3, r46.h_.e4, r46.h_.e5, r46.h_.e6, r46.h_.e7, r46.rest_, r46.n_, r46.on_, hR, hf.keep [0, 3, 4, 5], sat_to [0, 0] 0 rfl hs⟩
  · rintro a w ⟨x61, x62, x63, x64, x65, x66, x67, x68, s69, x70, x71, hv, hf, hs⟩
    subst hv
    replace hF := hK24
    clear hK24
    try dsimp only [Thru] at hF
    revert a w
    show CW _ _ _ 48 [(3, .pointer (some ⟨r21_b1, 0, none⟩))] (SAT w0 ([imm I, pt r21_b1 #[.int .u32 x61, .int .u32 x62, .int .u32 x63, .int .u32 x64, .int .u32 x65, .int .u32 x66, .int .u32 x67, .int .u32 x68, .string s69, .int .u64 x70, .bool x71] 36] ++ F0))
    unfold F.law02_ShaParts.r3 at hF
    refine cw_seq ?_
    refine cw_region ?_
    refine ow_vals 1 (j := 1) [41] [(41, .pointer (some ⟨r21_b1, 0, none⟩))] rfl (by kernel_rfl) ?_
    obtain ⟨r72, h73, hF⟩ := bind_some hF
    refine ow_pw rfl (pw_call (F := [] ++ F0) rfl rfl rfl rfl rfl rfl rfl (by kernel_rfl) (perm_of_pulls [0, 0] rfl) (c_sha_State_Sum _ _ r21_b1 r72 h73) ?_)
    rintro _ _ ⟨rfl, rfl⟩
    refine nw_H (H' := [imm I, pt r21_b1 #[.int .u32 ((⟨(⟨x61, x62, x63, x64, x65, x66, x67, x68⟩ : A8_Intu32), s69, x70, x71⟩ : sha_State).h_.e0), .int .u32 ((⟨(⟨x61, x62, x63, x64, x65, x66, x67, x68⟩ : A8_Intu32), s69, x70, x71⟩ : sha_State).h_.e1), .int .u32 ((⟨(⟨x61, x62, x63, x64, x65, x66, x67, x68⟩ : A8_Intu32), s69, x70, x71⟩ : sha_State).h_.e2), .int .u32 ((⟨(⟨x61, x62, x63, x64, x65, x66, x67, x68⟩ : A8_Intu32), s69, x70, x71⟩ : sha_State).h_.e3), .int .u32 ((⟨(⟨x61, x62, x63, x64, x65, x66, x67, x68⟩ : A8_Intu32), s69, x70, x71⟩ : sha_State).h_.e4), .int .u32 ((⟨(⟨x61, x62, x63, x64, x65, x66, x67, x68⟩ : A8_Intu32), s69, x70, x71⟩ : sha_State).h_.e5), .int .u32 ((⟨(⟨x61, x62, x63, x64, x65, x66, x67, x68⟩ : A8_Intu32), s69, x70, x71⟩ : sha_State).h_.e6), .int .u32 ((⟨(⟨x61, x62, x63, x64, x65, x66, x67, x68⟩ : A8_Intu32), s69, x70, x71⟩ : sha_State).h_.e7), .string ((⟨(⟨x61, x62, x63, x64, x65, x66, x67, x68⟩ : A8_Intu32), s69, x70, x71⟩ : sha_State).rest_), .int .u64 ((⟨(⟨x61, x62, x63, x64, x65, x66, x67, x68⟩ : A8_Intu32), s69, x70, x71⟩ : sha_State).n_), .bool ((⟨(⟨x61, x62, x63, x64, x65, x66, x67, x68⟩ : A8_Intu32), s69, x70, x71⟩ : sha_State).on_)] 36] ++ F0) rfl (nw_ow ?_)
    refine ow_vals 3 (j := 5) [45] [(45, .bool ((r72.size : Int) == 32))] rfl (by kernel_rfl) ?_
    rcases if_some hF with ⟨h74, hF⟩ | ⟨h74, hF⟩
    · refine ow_slots (L' := [(45, .bool true)]) (by rw [h74]) ?_
      obtain ⟨r75, h76, hF⟩ := bind_some hF
      refine ow_pw rfl (pw_call (F := [pt r21_b1 #[.int .u32 ((⟨(⟨x61, x62, x63, x64, x65, x66, x67, x68⟩ : A8_Intu32), s69, x70, x71⟩ : sha_State).h_.e0), .int .u32 ((⟨(⟨x61, x62, x63, x64, x65, x66, x67, x68⟩ : A8_Intu32), s69, x70, x71⟩ : sha_State).h_.e1), .int .u32 ((⟨(⟨x61, x62, x63, x64, x65, x66, x67, x68⟩ : A8_Intu32), s69, x70, x71⟩ : sha_State).h_.e2), .int .u32 ((⟨(⟨x61, x62, x63, x64, x65, x66, x67, x68⟩ : A8_Intu32), s69, x70, x71⟩ : sha_State).h_.e3), .int .u32 ((⟨(⟨x61, x62, x63, x64, x65, x66, x67, x68⟩ : A8_Intu32), s69, x70, x71⟩ : sha_State).h_.e4), .int .u32 ((⟨(⟨x61, x62, x63, x64, x65, x66, x67, x68⟩ : A8_Intu32), s69, x70, x71⟩ : sha_State).h_.e5), .int .u32 ((⟨(⟨x61, x62, x63, x64, x65, x66, x67, x68⟩ : A8_Intu32), s69, x70, x71⟩ : sha_State).h_.e6), .int .u32 ((⟨(⟨x61, x62, x63, x64, x65, x66, x67, x68⟩ : A8_Intu32), s69, x70, x71⟩ : sha_State).h_.e7), .string ((⟨(⟨x61, x62, x63, x64, x65, x66, x67, x68⟩ : A8_Intu32), s69, x70, x71⟩ : sha_State).rest_), .int .u64 ((⟨(⟨x61, x62, x63, x64, x65, x66, x67, x68⟩ : A8_Intu32), s69, x70, x71⟩ : sha_State).n_), .bool ((⟨(⟨x61, x62, x63, x64, x65, x66, x67, x68⟩ : A8_Intu32), s69, x70, x71⟩ : sha_State).on_)] 36] ++ F0) rfl rfl rfl rfl rfl rfl rfl (by kernel_rfl) (perm_of_pulls [0] rfl) (c_law02_awake _ r75 h76) ?_)
      rintro _ _ ⟨rfl, rfl⟩
      refine nw_H (H' := [imm I, pt r21_b1 #[.int .u32 ((⟨(⟨x61, x62, x63, x64, x65, x66, x67, x68⟩ : A8_Intu32), s69, x70, x71⟩ : sha_State).h_.e0), .int .u32 ((⟨(⟨x61, x62, x63, x64, x65, x66, x67, x68⟩ : A8_Intu32), s69, x70, x71⟩ : sha_State).h_.e1), .int .u32 ((⟨(⟨x61, x62, x63, x64, x65, x66, x67, x68⟩ : A8_Intu32), s69, x70, x71⟩ : sha_State).h_.e2), .int .u32 ((⟨(⟨x61, x62, x63, x64, x65, x66, x67, x68⟩ : A8_Intu32), s69, x70, x71⟩ : sha_State).h_.e3), .int .u32 ((⟨(⟨x61, x62, x63, x64, x65, x66, x67, x68⟩ : A8_Intu32), s69, x70, x71⟩ : sha_State).h_.e4), .int .u32 ((⟨(⟨x61, x62, x63, x64, x65, x66, x67, x68⟩ : A8_Intu32), s69, x70, x71⟩ : sha_State).h_.e5), .int .u32 ((⟨(⟨x61, x62, x63, x64, x65, x66, x67, x68⟩ : A8_Intu32), s69, x70, x71⟩ : sha_State).h_.e6), .int .u32 ((⟨(⟨x61, x62, x63, x64, x65, x66, x67, x68⟩ : A8_Intu32), s69, x70, x71⟩ : sha_State).h_.e7), .string ((⟨(⟨x61, x62, x63, x64, x65, x66, x67, x68⟩ : A8_Intu32), s69, x70, x71⟩ : sha_State).rest_), .int .u64 ((⟨(⟨x61, x62, x63, x64, x65, x66, x67, x68⟩ : A8_Intu32), s69, x70, x71⟩ : sha_State).n_), .bool ((⟨(⟨x61, x62, x63, x64, x65, x66, x67, x68⟩ : A8_Intu32), s69, x70, x71⟩ : sha_State).on_)] 36] ++ F0) rfl (nw_ow ?_)
      refine ow_vals 2 (j := 8) [2] [(2, .bool r75)] rfl (by kernel_rfl) ?_
      refine ow_end rfl ?_
      refine ew_then ?_
      refine cw_ret ?_
      have hR := Option.some.inj hF
      subst hR
      exact fin1 (H1 := [imm I]) (fun w hs => sat_to [1, 0] 1 rfl hs) rfl (rr_tmp rfl) ⟨rfl, rfl⟩
    · refine ow_slots (L' := [(45, .bool false)]) (by rw [h74]) ?_
      refine ow_vals 3 (j := 8) [2] [(2, .bool false)] rfl (by kernel_rfl) ?_
      refine ow_end rfl ?_
      refine ew_then ?_
      refine cw_ret ?_
      have hR := Option.some.inj hF
      subst hR
      exact fin1 (H1 := [imm I]) (fun w hs => sat_to [1, 0] 1 rfl hs) rfl (rr_tmp rfl) ⟨rfl, rfl⟩

end Go.Proofs.Ytadhamgijkbgeaa
