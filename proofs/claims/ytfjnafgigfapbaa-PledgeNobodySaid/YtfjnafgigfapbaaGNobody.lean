/- What the functions compute, and that the code computes it: printed by a program of this claim (wip/tools), for the group Nobody. -/
import Derived.Test.YtfjnafgigfapbaaGPledge
namespace Go.Proofs.Ytfjnafgigfapbaa
set_option linter.all false
open Go Go.RowKit Go.Fw
set_option linter.unusedVariables false

def F.mill_Mill_none_1 : Option Bool :=
  some (true)
set_option maxRecDepth 100000 in
set_option maxHeartbeats 4000000 in
theorem c_mill_Mill_none_1 (I : Hl) (res : Bool) (hF : F.mill_Mill_none_1 = some res) : Tr Try.prog 30 [.pointer none] [imm I] (fun r H' => r = .bool res ∧ H' = [imm I]) := by
  unfold F.mill_Mill_none_1 at hF
  refine tr_of_cw (fn := Try.f30) Try.func30 rfl (Nat.le_of_ble_eq_true rfl) 12 rfl fun F0 w0 => ?_
  refine cw_keep [0] (L' := [(0, .pointer none)]) rfl ?_
  refine cw_state (S' := SAT w0 ([imm I] ++ F0)) (fun w hs => hs) ?_
  refine cw_seq ?_
  refine cw_region ?_
  refine ow_vals 1 (j := 1) [0] [(0, .pointer none)] rfl (by kernel_rfl) ?_
  refine ow_end rfl ?_
  refine ew_then ?_
  refine cw_seq ?_
  refine cw_region ?_
  refine ow_vals 10 (j := 10) [2] [(2, .bool true)] rfl (by kernel_rfl) ?_
  refine ow_end rfl ?_
  refine ew_then ?_
  refine cw_ret ?_
  have hR := Option.some.inj hF
  subst hR
  exact fin1 (H1 := [imm I]) (fun w hs => sat_to [0] 0 rfl hs) rfl (rr_tmp rfl) ⟨rfl, rfl⟩


def F.mill_Mill_Tag_1 (x1 : ByteArray) (x2 : ByteArray) : Option ByteArray :=
  Option.bind (F.mill_Mill_none_1) (fun (r21 : Bool) => if r21 then (some ((ByteArray.mk #[]))) else (none))
set_option maxRecDepth 100000 in
set_option maxHeartbeats 4000000 in
theorem c_mill_Mill_Tag_1 (I : Hl) (x1 : ByteArray) (x2 : ByteArray) (res : ByteArray) (hF : F.mill_Mill_Tag_1 x1 x2 = some res) : Tr Try.prog 12 [.pointer none, .string x1, .string x2] [imm I] (fun r H' => r = .string res ∧ H' = [imm I]) := by
  unfold F.mill_Mill_Tag_1 at hF
  refine tr_of_cw (fn := Try.f12) Try.func12 rfl (Nat.le_of_ble_eq_true rfl) 39 rfl fun F0 w0 => ?_
  refine cw_keep [0, 1, 2] (L' := [(0, .pointer none), (1, .string x1), (2, .string x2)]) rfl ?_
  refine cw_state (S' := SAT w0 ([imm I] ++ F0)) (fun w hs => hs) ?_
  refine cw_seq ?_
  refine cw_region ?_
  refine ow_vals 1 (j := 1) [0, 1, 2] [(0, .pointer none), (1, .string x1), (2, .string x2)] rfl (by kernel_rfl) ?_
  refine ow_end rfl ?_
  refine ew_then ?_
  refine cw_seq ?_
  refine cw_seq ?_
  refine cw_region ?_
  refine ow_vals 1 (j := 1) [0, 1, 2, 9] [(0, .pointer none), (1, .string x1), (2, .string x2), (9, .pointer none)] rfl (by kernel_rfl) ?_
  obtain ⟨r21, h22, hF⟩ := bind_some hF
  refine ow_pw rfl (pw_call (F := [] ++ F0) rfl rfl rfl rfl rfl rfl rfl (by kernel_rfl) (perm_of_pulls [0] rfl) (c_mill_Mill_none_1 _ r21 h22) ?_)
  rintro _ _ ⟨rfl, rfl⟩
  refine nw_H (H' := [imm I] ++ F0) rfl (nw_ow ?_)
  refine ow_end rfl ?_
  refine ew_then ?_
  rcases if_some hF with ⟨h23, hF⟩ | ⟨h23, hF⟩
  · refine cw_cond_t rfl rfl h23 ?_
    refine cw_seq ?_
    refine cw_region ?_
    refine ow_vals 1 (j := 1) [6] [(6, .string (ByteArray.mk #[]))] rfl (by kernel_rfl) ?_
    refine ow_end rfl ?_
    refine ew_then ?_
    refine cw_ret ?_
    refine ew_then_ret ?_
    have hR := Option.some.inj hF
    subst hR
    exact fin1 (H1 := [imm I]) (fun w hs => sat_to [0] 0 rfl hs) rfl (rr_tmp rfl) ⟨rfl, rfl⟩
  · refine cw_cond_f rfl rfl h23 ?_
    refine cw_skip ?_
    refine ew_then ?_
    refine cw_seq ?_
    refine cw_seq ?_
    refine cw_region ?_
    refine ow_vals 1 (j := 1) [0, 1, 2, 11] [(0, .pointer none), (1, .string x1), (2, .string x2), (11, .pointer none)] rfl (by kernel_rfl) ?_
    cases hF


def F.mill_Mill_Stream_1.l2 (x1 : ByteArray) (x2 : ByteArray) (x3 : Int) (x30 : Int) (m31 : ByteArray) : Option ((Int × ByteArray) ⊕ (ByteArray)) :=
  Option.bind (F.strings_Builder_Len m31) (fun (r32 : Int) => if decide (r32 < x3) then (chk (x2.size + (bstr ([IntKind.u8.wrap (x30.fdiv (2 ^ 8)), IntKind.u8.wrap (x30)] : List Int)).size ≤ 9223372036854775807) (Option.bind (F.mill_Mill_Tag_1 x1 (x2 ++ (bstr ([IntKind.u8.wrap (x30.fdiv (2 ^ 8)), IntKind.u8.wrap (x30)] : List Int)))) (fun (r38 : ByteArray) => Option.bind (F.strings_Builder_WriteString r38 m31) (fun (r40 : Int × ByteArray) => some (.inl (IntKind.i64.wrap (x30 + 1), r40.2)))))) else (some (.inr (m31))))
def F.mill_Mill_Stream_1.r3 (x3 : Int) (m42 : ByteArray) : Option (ByteArray) :=
  Option.bind (F.strings_Builder_String m42) (fun (r43 : ByteArray) => chk (0 ≤ (0 : Int) ∧ (0 : Int) ≤ x3 ∧ x3 ≤ (r43.size : Int)) (some ((r43.extract (0 : Int).toNat x3.toNat))))
def F.mill_Mill_Stream_1.r1 (x1 : ByteArray) (x2 : ByteArray) (x3 : Int) : Option (ByteArray) :=
  Option.bind (iter (fun x => F.mill_Mill_Stream_1.l2 x1 x2 x3 x.1 x.2) FUEL (0, ByteArray.empty)) (fun x => F.mill_Mill_Stream_1.r3 x3 x)
def F.mill_Mill_Stream_1 (x1 : ByteArray) (x2 : ByteArray) (x3 : Int) : Option ByteArray :=
  thru (Option.bind (F.mill_Mill_none_1) (fun (r22 : Bool) => if r22 then (some (.inr ((ByteArray.mk #[])))) else (if decide (x3 < 1) then (some (.inr ((ByteArray.mk #[])))) else (some (.inl ()))))) (fun x => F.mill_Mill_Stream_1.r1 x1 x2 x3)
set_option maxRecDepth 100000 in
set_option maxHeartbeats 4000000 in
theorem c_mill_Mill_Stream_1 (I : Hl) (x1 : ByteArray) (x2 : ByteArray) (x3 : Int) (res : ByteArray) (hF : F.mill_Mill_Stream_1 x1 x2 x3 = some res) : Tr Try.prog 36 [.pointer none, .string x1, .string x2, .int .i64 x3] [imm I] (fun r H' => r = .string res ∧ H' = [imm I]) := by
  unfold F.mill_Mill_Stream_1 at hF
  refine tr_of_cw (fn := Try.f36) Try.func36 rfl (Nat.le_of_ble_eq_true rfl) 38 rfl fun F0 w0 => ?_
  refine cw_keep [0, 1, 2, 3] (L' := [(0, .pointer none), (1, .string x1), (2, .string x2), (3, .int .i64 x3)]) rfl ?_
  refine cw_state (S' := SAT w0 ([imm I] ++ F0)) (fun w hs => hs) ?_
  refine cw_seq ?_
  refine cw_region ?_
  refine ow_vals 1 (j := 1) [0, 1, 2, 3] [(0, .pointer none), (1, .string x1), (2, .string x2), (3, .int .i64 x3)] rfl (by kernel_rfl) ?_
  refine ow_end rfl ?_
  refine ew_then ?_
  obtain ⟨v21, hF, hK21⟩ := thru_some hF
  refine cw_mid (fun a w => .inl () = v21 ∧ Fr 38 [(0, .pointer none), (1, .string x1), (2, .string x2), (3, .int .i64 x3)] a ∧ SAT w0 ([imm I] ++ F0) w) ?_ ?_
  · refine cw_seq ?_
    refine cw_region ?_
    refine ow_vals 1 (j := 1) [0, 1, 2, 3, 11] [(0, .pointer none), (1, .string x1), (2, .string x2), (3, .int .i64 x3), (11, .pointer none)] rfl (by kernel_rfl) ?_
    obtain ⟨r22, h23, hF⟩ := bind_some hF
    refine ow_pw rfl (pw_call (F := [] ++ F0) rfl rfl rfl rfl rfl rfl rfl (by kernel_rfl) (perm_of_pulls [0] rfl) (c_mill_Mill_none_1 _ r22 h23) ?_)
    rintro _ _ ⟨rfl, rfl⟩
    refine nw_H (H' := [imm I] ++ F0) rfl (nw_ow ?_)
    refine ow_vals 1 (j := 3) [0, 1, 2, 3, 13] [(0, .pointer none), (1, .string x1), (2, .string x2), (3, .int .i64 x3), (13, .bool r22)] rfl (by kernel_rfl) ?_
    rcases if_some hF with ⟨h24, hF⟩ | ⟨h24, hF⟩
    · refine ow_slots (L' := [(0, .pointer none), (1, .string x1), (2, .string x2), (3, .int .i64 x3), (13, .bool true)]) (by rw [h24]) ?_
      refine ow_vals 3 (j := 6) [0, 1, 2, 3, 16] [(0, .pointer none), (1, .string x1), (2, .string x2), (3, .int .i64 x3), (16, .bool true)] rfl (by kernel_rfl) ?_
      refine ow_end rfl ?_
      refine ew_then ?_
      refine cw_cond_t rfl rfl rfl ?_
      refine cw_seq ?_
      refine cw_region ?_
      refine ow_vals 1 (j := 1) [8] [(8, .string (ByteArray.mk #[]))] rfl (by kernel_rfl) ?_
      refine ow_end rfl ?_
      refine ew_then ?_
      refine cw_ret ?_
      refine ew_then_ret ?_
      have hR := Option.some.inj hF
      subst hR
      have hR := hK21
      try dsimp only [Thru] at hR
      subst hR
      exact fin1 (H1 := [imm I]) (fun w hs => sat_to [0] 0 rfl hs) rfl (rr_tmp rfl) ⟨rfl, rfl⟩
    · refine ow_slots (L' := [(0, .pointer none), (1, .string x1), (2, .string x2), (3, .int .i64 x3), (13, .bool false)]) (by rw [h24]) ?_
      refine ow_vals 3 (j := 6) [0, 1, 2, 3, 16] [(0, .pointer none), (1, .string x1), (2, .string x2), (3, .int .i64 x3), (16, .bool (decide (x3 < 1)))] rfl (by kernel_rfl) ?_
      refine ow_end rfl ?_
      refine ew_then ?_
      rcases if_some hF with ⟨h25, hF⟩ | ⟨h25, hF⟩
      · refine cw_cond_t rfl rfl h25 ?_
        refine cw_seq ?_
        refine cw_region ?_
        refine ow_vals 1 (j := 1) [8] [(8, .string (ByteArray.mk #[]))] rfl (by kernel_rfl) ?_
        refine ow_end rfl ?_
        refine ew_then ?_
        refine cw_ret ?_
        refine ew_then_ret ?_
        have hR := Option.some.inj hF
        subst hR
        have hR := hK21
        try dsimp only [Thru] at hR
        subst hR
        exact fin1 (H1 := [imm I]) (fun w hs => sat_to [0] 0 rfl hs) rfl (rr_tmp rfl) ⟨rfl, rfl⟩
      · refine cw_cond_f rfl rfl h25 ?_
        refine cw_skip ?_
        have hR := Option.some.inj hF
        exact fun a w hf hs => ⟨hR, hf.keep [0, 1, 2, 3], sat_to [0] 0 rfl hs⟩
  · rintro a w ⟨hv, hf, hs⟩
    subst hv
    replace hF := hK21
    clear hK21
    try dsimp only [Thru] at hF
    revert a w
    show CW _ _ _ 38 [(0, .pointer none), (1, .string x1), (2, .string x2), (3, .int .i64 x3)] (SAT w0 ([imm I] ++ F0))
    unfold F.mill_Mill_Stream_1.r1 at hF
    refine cw_seq ?_
    refine cw_region ?_
    refine ow_pw rfl (pw_alloc (cs := #[.pointer none, .slice none 0 0]) rfl rfl rfl rfl rfl (by kernel_rfl) fun b26 => nw_state (S' := SAT w0 ([bld 72 5 b26 ByteArray.empty, imm I] ++ F0)) (fun w hs => bld_new hs) (nw_ow ?_))
    refine ow_end rfl ?_
    refine ew_then ?_
    obtain ⟨v28, hF, hK28⟩ := bind_some hF
    refine cw_mid (fun a w => ∃ (m42 : ByteArray), m42 = v28 ∧ Fr 38 [(3, .int .i64 x3), (9, .pointer (some ⟨b26, 0, none⟩))] a ∧ SAT w0 ([imm I, bld 72 5 b26 m42] ++ F0) w) ?_ ?_
    · refine cw_seq ?_
      refine cw_region ?_
      refine ow_vals 1 (j := 1) [0, 1, 2, 3, 9, 10] [(0, .pointer none), (1, .string x1), (2, .string x2), (3, .int .i64 x3), (9, .pointer (some ⟨b26, 0, none⟩)), (10, .int .i64 0)] rfl (by kernel_rfl) ?_
      refine ow_end rfl ?_
      refine ew_then ?_
      refine cw_block ?_
      refine fun a w hf hs => wp_rounds (fun k a w => ∃ (x30 : Int), ∃ (m31 : ByteArray), iter (fun x => F.mill_Mill_Stream_1.l2 x1 x2 x3 x.1 x.2) k (x30, m31) = some v28 ∧ Fr 38 [(0, .pointer none), (1, .string x1), (2, .string x2), (3, .int .i64 x3), (9, .pointer (some ⟨b26, 0, none⟩)), (10, .int .i64 x30)] a ∧ SAT w0 ([imm I, bld 72 5 b26 m31] ++ F0) w) ?_ FUEL a w ⟨0, ByteArray.empty, hF, hf.keep [0, 1, 2, 3, 9, 10], sat_to [1, 0] 0 rfl hs⟩
      clear hf hs
      clear a w hF
      rintro k a w ⟨x30, m31, hF2, hf, hs⟩
      obtain ⟨k, r29, rfl, hF, hL29⟩ := iter_some hF2
      clear hF2
      revert a w
      show CW _ _ _ 38 [(0, .pointer none), (1, .string x1), (2, .string x2), (3, .int .i64 x3), (9, .pointer (some ⟨b26, 0, none⟩)), (10, .int .i64 x30)] (SAT w0 ([imm I, bld 72 5 b26 m31] ++ F0))
      try dsimp only at hF
      unfold F.mill_Mill_Stream_1.l2 at hF
      refine cw_seq ?_
      refine cw_seq ?_
      refine cw_region ?_
      obtain ⟨r32, h33, hF⟩ := bind_some hF
      refine ow_pw rfl (pw_call (F := [] ++ F0) rfl rfl rfl rfl rfl rfl rfl (by kernel_rfl) (perm_of_pulls [0, 0] rfl) (c_strings_Builder_Len _ m31 b26 r32 h33) ?_)
      rintro _ _ ⟨rfl, rfl⟩
      refine nw_H (H' := [imm I, bld 72 5 b26 m31] ++ F0) rfl (nw_ow ?_)
      refine ow_vals 2 (j := 3) [0, 1, 2, 3, 9, 10, 19] [(0, .pointer none), (1, .string x1), (2, .string x2), (3, .int .i64 x3), (9, .pointer (some ⟨b26, 0, none⟩)), (10, .int .i64 x30), (19, .bool (decide (r32 < x3)))] rfl (by kernel_rfl) ?_
      refine ow_end rfl ?_
      refine ew_then ?_
      rcases if_some hF with ⟨h34, hF⟩ | ⟨h34, hF⟩
      · refine cw_cond_t rfl rfl h34 ?_
        refine cw_skip ?_
        refine ew_then ?_
        refine cw_seq ?_
        refine cw_block ?_
        refine cw_region ?_
        refine ow_vals 8 (j := 8) [0, 1, 2, 3, 9, 10, 22, 23, 24, 27, 29] [(0, .pointer none), (1, .string x1), (2, .string x2), (3, .int .i64 x3), (9, .pointer (some ⟨b26, 0, none⟩)), (10, .int .i64 x30), (22, .pointer none), (23, .string x1), (24, .string x2), (27, .int .u8 (IntKind.u8.wrap (x30.fdiv (2 ^ 8)))), (29, .int .u8 (IntKind.u8.wrap (x30)))] rfl (by kernel_rfl) ?_
        refine ow_pw rfl (pw_buildSlice (E := 5) (eInt .u8) ([IntKind.u8.wrap (x30.fdiv (2 ^ 8)), IntKind.u8.wrap (x30)] : List Int) rfl rfl rfl rfl rfl (by kernel_rfl) rfl (by kernel_rfl) rfl (by decide) rfl fun p35 => nw_ow ?_)
        refine ow_pw rfl (pw_quiet (v := .string (bstr ([IntKind.u8.wrap (x30.fdiv (2 ^ 8)), IntKind.u8.wrap (x30)] : List Int))) rfl rfl rfl rfl (q_bytes_str_own 0 rfl rfl (by kernel_rfl) (by kernel_rfl) rfl) (nw_ow ?_))
        obtain ⟨h37, hF⟩ := chk_some hF
        refine ow_pw rfl (pw_quiet (v := .string (x2 ++ (bstr ([IntKind.u8.wrap (x30.fdiv (2 ^ 8)), IntKind.u8.wrap (x30)] : List Int)))) rfl rfl rfl rfl (q_concat rfl rfl rfl h37) (nw_ow ?_))
        obtain ⟨r38, h39, hF⟩ := bind_some hF
        refine ow_pw rfl (pw_call (F := [own (eInt .u8) 5 p35 2 ([IntKind.u8.wrap (x30.fdiv (2 ^ 8)), IntKind.u8.wrap (x30)] : List Int), bld 72 5 b26 m31] ++ F0) rfl rfl rfl rfl rfl rfl rfl (by kernel_rfl) (perm_of_pulls [1] rfl) (c_mill_Mill_Tag_1 _ x1 (x2 ++ (bstr ([IntKind.u8.wrap (x30.fdiv (2 ^ 8)), IntKind.u8.wrap (x30)] : List Int))) r38 h39) ?_)
        rintro _ _ ⟨rfl, rfl⟩
        refine nw_H (H' := [imm I, own (eInt .u8) 5 p35 2 ([IntKind.u8.wrap (x30.fdiv (2 ^ 8)), IntKind.u8.wrap (x30)] : List Int), bld 72 5 b26 m31] ++ F0) rfl (nw_ow ?_)
        obtain ⟨r40, h41, hF⟩ := bind_some hF
        refine ow_pw rfl (pw_call (F := [own (eInt .u8) 5 p35 2 ([IntKind.u8.wrap (x30.fdiv (2 ^ 8)), IntKind.u8.wrap (x30)] : List Int)] ++ F0) rfl rfl rfl rfl rfl rfl rfl (by kernel_rfl) (perm_of_pulls [0, 1] rfl) (c_strings_Builder_WriteString _ r38 m31 b26 r40 h41) ?_)
        rintro _ _ ⟨rfl, rfl⟩
        refine nw_H (H' := [imm I, bld 72 5 b26 r40.2, own (eInt .u8) 5 p35 2 ([IntKind.u8.wrap (x30.fdiv (2 ^ 8)), IntKind.u8.wrap (x30)] : List Int)] ++ F0) rfl (nw_ow ?_)
        refine ow_end rfl ?_
        refine ew_blk ?_
        refine ew_then ?_
        refine cw_region ?_
        refine ow_vals 3 (j := 3) [0, 1, 2, 3, 9, 10] [(0, .pointer none), (1, .string x1), (2, .string x2), (3, .int .i64 x3), (9, .pointer (some ⟨b26, 0, none⟩)), (10, .int .i64 (IntKind.i64.wrap (x30 + 1)))] rfl (by kernel_rfl) ?_
        refine ow_end rfl ?_
        have hR := Option.some.inj hF
        subst hR
        have hR := hL29
        try dsimp only at hR
        exact fun a w hf hs => ⟨k, Nat.lt_succ_self k, IntKind.i64.wrap (x30 + 1), r40.2, hR, hf.keep [0, 1, 2, 3, 9, 10], sat_to [2, 0, 0] 1 rfl hs⟩
      · refine cw_cond_f rfl rfl h34 ?_
        refine cw_exit ?_
        refine ew_then_exit ?_
        refine ew_then_exit ?_
        refine ew_blk_exit ?_
        have hR := Option.some.inj hF
        subst hR
        have hR := hL29
        try dsimp only at hR
        exact fun a w hf hs => ⟨m31, hR, hf.keep [3, 9], sat_to [0, 0] 0 rfl hs⟩
    · rintro a w ⟨m42, hv, hf, hs⟩
      subst hv
      replace hF := hK28
      clear hK28
      try dsimp only at hF
      revert a w
      show CW _ _ _ 38 [(3, .int .i64 x3), (9, .pointer (some ⟨b26, 0, none⟩))] (SAT w0 ([imm I, bld 72 5 b26 m42] ++ F0))
      unfold F.mill_Mill_Stream_1.r3 at hF
      refine cw_seq ?_
      refine cw_region ?_
      obtain ⟨r43, h44, hF⟩ := bind_some hF
      refine ow_pw rfl (pw_call (F := [] ++ F0) rfl rfl rfl rfl rfl rfl rfl (by kernel_rfl) (perm_of_pulls [0, 0] rfl) (c_strings_Builder_String _ m42 b26 r43 h44) ?_)
      rintro _ _ ⟨rfl, rfl⟩
      refine nw_H (H' := [imm I] ++ F0) rfl (nw_ow ?_)
      refine ow_vals 1 (j := 2) [35, 36] [(35, .string r43), (36, .int .i64 x3)] rfl (by kernel_rfl) ?_
      obtain ⟨h45, hF⟩ := chk_some hF
      refine ow_pw rfl (pw_quiet (v := .string (r43.extract (0 : Int).toNat x3.toNat)) rfl rfl rfl rfl (q_slice_str rfl (by kernel_rfl) rfl rfl rfl h45.1 h45.2.1 h45.2.2) (nw_ow ?_))
      refine ow_vals 1 (j := 4) [8] [(8, .string (r43.extract (0 : Int).toNat x3.toNat))] rfl (by kernel_rfl) ?_
      refine ow_end rfl ?_
      refine ew_then ?_
      refine cw_ret ?_
      have hR := Option.some.inj hF
      subst hR
      exact fin1 (H1 := [imm I]) (fun w hs => sat_to [0] 0 rfl hs) rfl (rr_tmp rfl) ⟨rfl, rfl⟩


def F.mill_Mill_Veil_1.l1 (x3 : ByteArray) (r21 : ByteArray) (l30 : List Int) (x34 : Int) : Option (((List Int) × Int) ⊕ ((List Int))) :=
  if decide (x34 < ((sbytes x3).length : Int)) then (Option.bind (at_ l30 x34) (fun (y36 : Int) => chk (0 ≤ x34 ∧ x34 < (r21.size : Int)) (Option.bind (at_ l30 x34) (fun (y39 : Int) => some (.inl (l30.set x34.toNat (ixor .u8 y36 (bt r21 x34)), IntKind.i64.wrap (x34 + 1))))))) else (some (.inr (l30)))
def F.mill_Mill_Veil_1.r2 (l41 : List Int) : Option (ByteArray) :=
  some ((bstr l41))
def F.mill_Mill_Veil_1 (x1 : ByteArray) (x2 : ByteArray) (x3 : ByteArray) : Option ByteArray :=
  Option.bind (F.mill_Mill_Stream_1 x1 x2 (x3.size : Int)) (fun (r21 : ByteArray) => if (r21.size : Int) != (x3.size : Int) then (some ((ByteArray.mk #[]))) else (chk (x3.size ≤ maxLen) (Option.bind (iter (fun x => F.mill_Mill_Veil_1.l1 x3 r21 x.1 x.2) FUEL (sbytes x3, 0)) (fun x => F.mill_Mill_Veil_1.r2 x))))
set_option maxRecDepth 100000 in
set_option maxHeartbeats 4000000 in
theorem c_mill_Mill_Veil_1 (I : Hl) (x1 : ByteArray) (x2 : ByteArray) (x3 : ByteArray) (res : ByteArray) (hF : F.mill_Mill_Veil_1 x1 x2 x3 = some res) : Tr Try.prog 19 [.pointer none, .string x1, .string x2, .string x3] [imm I] (fun r H' => r = .string res ∧ H' = [imm I]) := by
  unfold F.mill_Mill_Veil_1 at hF
  refine tr_of_cw (fn := Try.f19) Try.func19 rfl (Nat.le_of_ble_eq_true rfl) 42 rfl fun F0 w0 => ?_
  refine cw_keep [0, 1, 2, 3] (L' := [(0, .pointer none), (1, .string x1), (2, .string x2), (3, .string x3)]) rfl ?_
  refine cw_state (S' := SAT w0 ([imm I] ++ F0)) (fun w hs => hs) ?_
  refine cw_seq ?_
  refine cw_region ?_
  refine ow_vals 1 (j := 1) [0, 1, 2, 3] [(0, .pointer none), (1, .string x1), (2, .string x2), (3, .string x3)] rfl (by kernel_rfl) ?_
  refine ow_end rfl ?_
  refine ew_then ?_
  refine cw_seq ?_
  refine cw_region ?_
  refine ow_vals 5 (j := 5) [3, 12, 13, 14, 16] [(3, .string x3), (12, .pointer none), (13, .string x1), (14, .string x2), (16, .int .i64 (x3.size : Int))] rfl (by kernel_rfl) ?_
  obtain ⟨r21, h22, hF⟩ := bind_some hF
  refine ow_pw rfl (pw_call (F := [] ++ F0) rfl rfl rfl rfl rfl rfl rfl (by kernel_rfl) (perm_of_pulls [0] rfl) (c_mill_Mill_Stream_1 _ x1 x2 (x3.size : Int) r21 h22) ?_)
  rintro _ _ ⟨rfl, rfl⟩
  refine nw_H (H' := [imm I] ++ F0) rfl (nw_ow ?_)
  refine ow_vals 1 (j := 7) [3, 9] [(3, .string x3), (9, .string r21)] rfl (by kernel_rfl) ?_
  refine ow_end rfl ?_
  refine ew_then ?_
  refine cw_seq ?_
  refine cw_seq ?_
  refine cw_region ?_
  refine ow_vals 5 (j := 5) [3, 9, 22] [(3, .string x3), (9, .string r21), (22, .bool ((r21.size : Int) != (x3.size : Int)))] rfl (by kernel_rfl) ?_
  refine ow_end rfl ?_
  refine ew_then ?_
  rcases if_some hF with ⟨h23, hF⟩ | ⟨h23, hF⟩
  · refine cw_cond_t rfl rfl h23 ?_
    refine cw_seq ?_
    refine cw_region ?_
    refine ow_vals 1 (j := 1) [8] [(8, .string (ByteArray.mk #[]))] rfl (by kernel_rfl) ?_
    refine ow_end rfl ?_
    refine ew_then ?_
    refine cw_ret ?_
    refine ew_then_ret ?_
    have hR := Option.some.inj hF
    subst hR
    exact fin1 (H1 := [imm I]) (fun w hs => sat_to [0] 0 rfl hs) rfl (rr_tmp rfl) ⟨rfl, rfl⟩
  · refine cw_cond_f rfl rfl h23 ?_
    refine cw_skip ?_
    refine ew_then ?_
    refine cw_seq ?_
    refine cw_region ?_
    refine ow_vals 1 (j := 1) [9, 23] [(9, .string r21), (23, .string x3)] rfl (by kernel_rfl) ?_
    obtain ⟨h24, hF⟩ := chk_some hF
    refine ow_pw rfl (pw_str_bytes (E := 5) rfl rfl rfl rfl rfl (by kernel_rfl) (by kernel_rfl) (by kernel_rfl) rfl h24 fun p25 c26 => nw_ow ?_)
    refine ow_vals 1 (j := 3) [9, 10] [(9, .string r21), (10, .slice p25 (sbytes x3).length c26)] rfl (by kernel_rfl) ?_
    refine ow_end rfl ?_
    refine ew_then ?_
    obtain ⟨v28, hF, hK28⟩ := bind_some hF
    refine cw_mid (fun a w => ∃ (l41 : List Int), ∃ (p42 : Option Addr), ∃ (c43 : Nat), l41 = v28 ∧ Fr 42 [(10, .slice p42 l41.length c43)] a ∧ SAT w0 ([imm I, own (eInt .u8) 5 p42 c43 l41] ++ F0) w) ?_ ?_
    · refine cw_seq ?_
      refine cw_region ?_
      refine ow_vals 3 (j := 3) [9, 10, 26, 27] [(9, .string r21), (10, .slice p25 (sbytes x3).length c26), (26, .int .i64 ((sbytes x3).length : Int)), (27, .int .i64 0)] rfl (by kernel_rfl) ?_
      refine ow_end rfl ?_
      refine ew_then ?_
      refine cw_block ?_
      refine fun a w hf hs => wp_rounds (fun k a w => ∃ (l30 : List Int), ∃ (x34 : Int), ∃ (p31 : Option Addr), ∃ (c32 : Nat), iter (fun x => F.mill_Mill_Veil_1.l1 x3 r21 x.1 x.2) k (l30, x34) = some v28 ∧ Fr 42 [(9, .string r21), (10, .slice p31 l30.length c32), (26, .int .i64 ((sbytes x3).length : Int)), (27, .int .i64 x34)] a ∧ SAT w0 ([imm I, own (eInt .u8) 5 p31 c32 l30] ++ F0) w) ?_ FUEL a w ⟨sbytes x3, 0, p25, c26, hF, hf.keep [9, 10, 26, 27], sat_to [1, 0] 0 rfl hs⟩
      clear hf hs
      clear a w hF
      rintro k a w ⟨l30, x34, p31, c32, hF2, hf, hs⟩
      obtain ⟨k, r29, rfl, hF, hL29⟩ := iter_some hF2
      clear hF2
      revert a w
      show CW _ _ _ 42 [(9, .string r21), (10, .slice p31 l30.length c32), (26, .int .i64 ((sbytes x3).length : Int)), (27, .int .i64 x34)] (SAT w0 ([imm I, own (eInt .u8) 5 p31 c32 l30] ++ F0))
      try dsimp only at hF
      unfold F.mill_Mill_Veil_1.l1 at hF
      refine cw_seq ?_
      refine cw_region ?_
      refine ow_vals 1 (j := 1) [9, 10, 26, 27, 28] [(9, .string r21), (10, .slice p31 l30.length c32), (26, .int .i64 ((sbytes x3).length : Int)), (27, .int .i64 x34), (28, .bool (decide (x34 < ((sbytes x3).length : Int))))] rfl (by kernel_rfl) ?_
      refine ow_end rfl ?_
      refine ew_then ?_
      refine cw_seq ?_
      rcases if_some hF with ⟨h35, hF⟩ | ⟨h35, hF⟩
      · refine cw_cond_t rfl rfl h35 ?_
        refine cw_skip ?_
        refine ew_then ?_
        refine cw_seq ?_
        refine cw_block ?_
        refine cw_seq ?_
        refine cw_region ?_
        refine ow_vals 2 (j := 2) [9, 10, 11, 26, 27] [(9, .string r21), (10, .slice p31 l30.length c32), (11, .int .i64 x34), (26, .int .i64 ((sbytes x3).length : Int)), (27, .int .i64 x34)] rfl (by kernel_rfl) ?_
        refine ow_end rfl ?_
        refine ew_then ?_
        refine cw_open 9 (SAT w0 ([imm I, own (eInt .u8) 5 p31 c32 l30])) (by kernel_rfl) (f := 10) rfl (fun w hs => sat_drew hs) ?_
        refine aw_vals [0, 1, 4, 5] (f' := 6) (m' := 51) [9, 10, 26, 27, 30, 31, 34, 35] [(9, .string r21), (10, .slice p31 l30.length c32), (26, .int .i64 ((sbytes x3).length : Int)), (27, .int .i64 x34), (30, .slice p31 l30.length c32), (31, .int .i64 x34), (34, .string r21), (35, .int .i64 x34)] (fun _ _ _ _ _ h => calm_fin (P := Try.prog) (fn := Try.f19) _ _ _ _ _ h) (fun w hs => sat_pulls [0, 0] (G := [] ++ F0) rfl hs) rfl (by kernel_rfl) ?_
        obtain ⟨y36, h37, hF⟩ := bind_some hF
        refine aw_quiet 2 (m' := 55) (v := .pointer (some ((base p31).add (x34.toNat * 1)))) 2 [] rfl rfl rfl rfl (by kernel_rfl) (by kernel_rfl) (by kernel_rfl) (fun _ _ _ _ _ h => calm_fin (P := Try.prog) (fn := Try.f19) _ _ _ _ _ h) (fun w hs => sat_pulls [0, 0] (G := [] ++ F0) rfl hs) (q_index_own 1 1 rfl rfl (by kernel_rfl) rfl rfl (at_some h37).1 (at_lt h37)) ?_
        refine aw_quiet 3 (m' := 63) (v := .int .u8 y36) 3 [] rfl rfl rfl rfl (by kernel_rfl) (by kernel_rfl) (by kernel_rfl) (fun _ _ _ _ _ h => calm_fin (P := Try.prog) (fn := Try.f19) _ _ _ _ _ h) (fun w hs => sat_pulls [0, 0] (G := [] ++ F0) rfl hs) (q_load_own0 1 1 rfl rfl rfl rfl (at_some h37).2 (by kernel_rfl)) ?_
        obtain ⟨h38, hF⟩ := chk_some hF
        refine aw_pure 6 (m' := 127) (v := .int .u8 (bt r21 x34)) rfl rfl rfl rfl (by kernel_rfl) (by kernel_rfl) (fun _ _ _ _ _ h => calm_fin (P := Try.prog) (fn := Try.f19) _ _ _ _ _ h) (fun w hs => sat_pulls [0, 0] (G := [] ++ F0) rfl hs) (q_index_str rfl (by kernel_rfl) rfl rfl h38.1 h38.2) ?_
        refine aw_vals [7] (f' := 2) (m' := 255) [9, 10, 26, 27, 30, 31, 37] [(9, .string r21), (10, .slice p31 l30.length c32), (26, .int .i64 ((sbytes x3).length : Int)), (27, .int .i64 x34), (30, .slice p31 l30.length c32), (31, .int .i64 x34), (37, .int .u8 (ixor .u8 y36 (bt r21 x34)))] (fun _ _ _ _ _ h => calm_fin (P := Try.prog) (fn := Try.f19) _ _ _ _ _ h) (fun w hs => sat_pulls [0, 0] (G := [] ++ F0) rfl hs) rfl (by kernel_rfl) ?_
        obtain ⟨y39, h40, hF⟩ := bind_some hF
        refine aw_quiet 8 (m' := 511) (v := .pointer (some ((base p31).add (x34.toNat * 1)))) 8 [] rfl rfl rfl rfl (by kernel_rfl) (by kernel_rfl) (by kernel_rfl) (fun _ _ _ _ _ h => calm_fin (P := Try.prog) (fn := Try.f19) _ _ _ _ _ h) (fun w hs => sat_pulls [0, 0] (G := [] ++ F0) rfl hs) (q_index_own 1 1 rfl rfl (by kernel_rfl) rfl rfl (at_some h40).1 (at_lt h40)) ?_
        refine aw_only 9 (m' := 1023) (by kernel_rfl) (by kernel_rfl) (pw_store_own 1 1 (z' := ixor .u8 y36 (bt r21 x34)) (off := 0) rfl rfl rfl rfl rfl rfl rfl rfl (at_some h40).2 (by kernel_rfl) (nw_H (H' := [imm I, own (eInt .u8) 5 p31 c32 (l30.set x34.toNat (ixor .u8 y36 (bt r21 x34)))] ++ F0) (by first | rfl | (simp only [List.length_set]; rfl)) (aw_last (by kernel_rfl) ?_)))
        refine aw_slots (L' := [(38, .pointer (some ((base p31).add (x34.toNat * 1)))), (9, .string r21), (10, .slice p31 (l30.set x34.toNat (ixor .u8 y36 (bt r21 x34))).length c32), (26, .int .i64 ((sbytes x3).length : Int)), (27, .int .i64 x34), (30, .slice p31 (l30.set x34.toNat (ixor .u8 y36 (bt r21 x34))).length c32), (31, .int .i64 x34), (37, .int .u8 (ixor .u8 y36 (bt r21 x34)))]) (by first | rfl | (simp only [List.length_set]; rfl)) ?_
        refine aw_keep [9, 10, 26, 27] (L' := [(9, .string r21), (10, .slice p31 (l30.set x34.toNat (ixor .u8 y36 (bt r21 x34))).length c32), (26, .int .i64 ((sbytes x3).length : Int)), (27, .int .i64 x34)]) rfl ?_
        refine aw_end (by kernel_rfl) ?_
        refine ew_blk ?_
        refine ew_then ?_
        refine cw_region ?_
        refine ow_vals 2 (j := 2) [9, 10, 26, 27] [(9, .string r21), (10, .slice p31 (l30.set x34.toNat (ixor .u8 y36 (bt r21 x34))).length c32), (26, .int .i64 ((sbytes x3).length : Int)), (27, .int .i64 (IntKind.i64.wrap (x34 + 1)))] rfl (by kernel_rfl) ?_
        refine ow_end rfl ?_
        have hR := Option.some.inj hF
        subst hR
        have hR := hL29
        try dsimp only at hR
        exact fun a w hf hs => ⟨k, Nat.lt_succ_self k, l30.set x34.toNat (ixor .u8 y36 (bt r21 x34)), IntKind.i64.wrap (x34 + 1), p31, c32, hR, hf.keep [9, 10, 26, 27], sat_to [0, 0] 0 rfl hs⟩
      · refine cw_cond_f rfl rfl h35 ?_
        refine cw_exit ?_
        refine ew_then_exit ?_
        refine ew_then_exit ?_
        refine ew_blk_exit ?_
        have hR := Option.some.inj hF
        subst hR
        have hR := hL29
        try dsimp only at hR
        exact fun a w hf hs => ⟨l30, p31, c32, hR, hf.keep [10], sat_to [0, 0] 0 rfl hs⟩
    · rintro a w ⟨l41, p42, c43, hv, hf, hs⟩
      subst hv
      replace hF := hK28
      clear hK28
      try dsimp only at hF
      revert a w
      show CW _ _ _ 42 [(10, .slice p42 l41.length c43)] (SAT w0 ([imm I, own (eInt .u8) 5 p42 c43 l41] ++ F0))
      unfold F.mill_Mill_Veil_1.r2 at hF
      refine cw_seq ?_
      refine cw_region ?_
      refine ow_vals 1 (j := 1) [40] [(40, .slice p42 l41.length c43)] rfl (by kernel_rfl) ?_
      refine ow_pw rfl (pw_quiet (v := .string (bstr l41)) rfl rfl rfl rfl (q_bytes_str_own 1 rfl rfl (by kernel_rfl) (by kernel_rfl) rfl) (nw_ow ?_))
      refine ow_vals 1 (j := 3) [8] [(8, .string (bstr l41))] rfl (by kernel_rfl) ?_
      refine ow_end rfl ?_
      refine ew_then ?_
      refine cw_ret ?_
      have hR := Option.some.inj hF
      subst hR
      exact fin1 (H1 := [imm I]) (fun w hs => sat_to [1, 0] 1 rfl hs) rfl (rr_tmp rfl) ⟨rfl, rfl⟩


def F.pledge_Open_1 (x1 : ByteArray) (x2 : ByteArray) (x3 : ByteArray) : Option (ByteArray × ByteArray × Bool) :=
  Option.bind (F.pledge_label x2) (fun (r21 : ByteArray) => Option.bind (F.mill_Mill_Veil_1 x1 r21 x3) (fun (r23 : ByteArray) => if decide ((r23.size : Int) < 16) then (some (((ByteArray.mk #[]), (ByteArray.mk #[]), false))) else (chk (0 ≤ (0 : Int) ∧ (0 : Int) ≤ (16 : Int) ∧ (16 : Int) ≤ (r23.size : Int)) (chk (0 ≤ (16 : Int) ∧ (16 : Int) ≤ (r23.size : Int) ∧ (r23.size : Int) ≤ (r23.size : Int)) (some ((r23.extract (0 : Int).toNat (16 : Int).toNat, r23.extract (16 : Int).toNat (r23.size : Int).toNat, true)))))))
set_option maxRecDepth 100000 in
set_option maxHeartbeats 4000000 in
theorem c_pledge_Open_1 (I : Hl) (x1 : ByteArray) (x2 : ByteArray) (x3 : ByteArray) (res : ByteArray × ByteArray × Bool) (hF : F.pledge_Open_1 x1 x2 x3 = some res) : Tr Try.prog 18 [.pointer none, .string x1, .string x2, .string x3] [imm I] (fun r H' => r = .tuple #[.string res.1, .string res.2.1, .bool res.2.2] ∧ H' = [imm I]) := by
  unfold F.pledge_Open_1 at hF
  refine tr_of_cw (fn := Try.f18) Try.func18 rfl (Nat.le_of_ble_eq_true rfl) 25 rfl fun F0 w0 => ?_
  refine cw_keep [0, 1, 2, 3] (L' := [(0, .pointer none), (1, .string x1), (2, .string x2), (3, .string x3)]) rfl ?_
  refine cw_state (S' := SAT w0 ([imm I] ++ F0)) (fun w hs => hs) ?_
  refine cw_seq ?_
  refine cw_region ?_
  refine ow_vals 3 (j := 3) [0, 1, 2, 3] [(0, .pointer none), (1, .string x1), (2, .string x2), (3, .string x3)] rfl (by kernel_rfl) ?_
  refine ow_end rfl ?_
  refine ew_then ?_
  refine cw_seq ?_
  refine cw_region ?_
  refine ow_vals 3 (j := 3) [3, 12, 13, 14] [(3, .string x3), (12, .pointer none), (13, .string x1), (14, .string x2)] rfl (by kernel_rfl) ?_
  obtain ⟨r21, h22, hF⟩ := bind_some hF
  refine ow_pw rfl (pw_call (F := [] ++ F0) rfl rfl rfl rfl rfl rfl rfl (by kernel_rfl) (perm_of_pulls [0] rfl) (c_pledge_label _ x2 r21 h22) ?_)
  rintro _ _ ⟨rfl, rfl⟩
  refine nw_H (H' := [imm I] ++ F0) rfl (nw_ow ?_)
  refine ow_vals 1 (j := 5) [12, 13, 15, 16] [(12, .pointer none), (13, .string x1), (15, .string r21), (16, .string x3)] rfl (by kernel_rfl) ?_
  obtain ⟨r23, h24, hF⟩ := bind_some hF
  refine ow_pw rfl (pw_call (F := [] ++ F0) rfl rfl rfl rfl rfl rfl rfl (by kernel_rfl) (perm_of_pulls [0] rfl) (c_mill_Mill_Veil_1 _ x1 r21 x3 r23 h24) ?_)
  rintro _ _ ⟨rfl, rfl⟩
  refine nw_H (H' := [imm I] ++ F0) rfl (nw_ow ?_)
  refine ow_vals 1 (j := 7) [11] [(11, .string r23)] rfl (by kernel_rfl) ?_
  refine ow_end rfl ?_
  refine ew_then ?_
  refine cw_seq ?_
  refine cw_seq ?_
  refine cw_region ?_
  refine ow_vals 3 (j := 3) [11, 20] [(11, .string r23), (20, .bool (decide ((r23.size : Int) < 16)))] rfl (by kernel_rfl) ?_
  refine ow_end rfl ?_
  refine ew_then ?_
  rcases if_some hF with ⟨h25, hF⟩ | ⟨h25, hF⟩
  · refine cw_cond_t rfl rfl h25 ?_
    refine cw_seq ?_
    refine cw_region ?_
    refine ow_vals 3 (j := 3) [8, 9, 10] [(8, .string (ByteArray.mk #[])), (9, .string (ByteArray.mk #[])), (10, .bool false)] rfl (by kernel_rfl) ?_
    refine ow_end rfl ?_
    refine ew_then ?_
    refine cw_ret ?_
    refine ew_then_ret ?_
    have hR := Option.some.inj hF
    subst hR
    exact fin3 (H1 := [imm I]) (fun w hs => sat_to [0] 0 rfl hs) rfl (rr_tmp rfl) (rr_tmp rfl) (rr_tmp rfl) ⟨rfl, rfl⟩
  · refine cw_cond_f rfl rfl h25 ?_
    refine cw_skip ?_
    refine ew_then ?_
    refine cw_seq ?_
    refine cw_open 7 (SAT w0 ([imm I])) (by kernel_rfl) (f := 7) rfl (fun w hs => sat_drew hs) ?_
    refine aw_vals [0, 2] (f' := 5) (m' := 5) [21, 23] [(21, .string r23), (23, .string r23)] (fun _ _ _ _ _ h => calm_fin (P := Try.prog) (fn := Try.f18) _ _ _ _ _ h) (fun w hs => sat_pulls [0] (G := [] ++ F0) rfl hs) rfl (by kernel_rfl) ?_
    obtain ⟨h26, hF⟩ := chk_some hF
    refine aw_pure 1 (m' := 7) (v := .string (r23.extract (0 : Int).toNat (16 : Int).toNat)) rfl rfl rfl rfl (by kernel_rfl) (by kernel_rfl) (fun _ _ _ _ _ h => calm_fin (P := Try.prog) (fn := Try.f18) _ _ _ _ _ h) (fun w hs => sat_pulls [0] (G := [] ++ F0) rfl hs) (q_slice_str rfl (by kernel_rfl) rfl rfl rfl h26.1 h26.2.1 h26.2.2) ?_
    refine aw_vals [4] (f' := 3) (m' := 23) [8, 23] [(8, .string (r23.extract (0 : Int).toNat (16 : Int).toNat)), (23, .string r23)] (fun _ _ _ _ _ h => calm_fin (P := Try.prog) (fn := Try.f18) _ _ _ _ _ h) (fun w hs => sat_pulls [0] (G := [] ++ F0) rfl hs) rfl (by kernel_rfl) ?_
    obtain ⟨h27, hF⟩ := chk_some hF
    refine aw_pure 3 (m' := 31) (v := .string (r23.extract (16 : Int).toNat (r23.size : Int).toNat)) rfl rfl rfl rfl (by kernel_rfl) (by kernel_rfl) (fun _ _ _ _ _ h => calm_fin (P := Try.prog) (fn := Try.f18) _ _ _ _ _ h) (fun w hs => sat_pulls [0] (G := [] ++ F0) rfl hs) (q_slice_str rfl (by kernel_rfl) rfl rfl rfl h27.1 h27.2.1 h27.2.2) ?_
    refine aw_vals [5, 6] (f' := 0) (m' := 127) [8, 9, 10] [(8, .string (r23.extract (0 : Int).toNat (16 : Int).toNat)), (9, .string (r23.extract (16 : Int).toNat (r23.size : Int).toNat)), (10, .bool true)] (fun _ _ _ _ _ h => calm_fin (P := Try.prog) (fn := Try.f18) _ _ _ _ _ h) (fun w hs => sat_pulls [0] (G := [] ++ F0) rfl hs) rfl (by kernel_rfl) ?_
    refine aw_keep [8, 9, 10] (L' := [(8, .string (r23.extract (0 : Int).toNat (16 : Int).toNat)), (9, .string (r23.extract (16 : Int).toNat (r23.size : Int).toNat)), (10, .bool true)]) rfl ?_
    refine aw_end (by kernel_rfl) ?_
    refine ew_then ?_
    refine cw_ret ?_
    have hR := Option.some.inj hF
    subst hR
    exact fin3 (H1 := [imm I]) (fun w hs => sat_to [0] 0 rfl hs) rfl (rr_tmp rfl) (rr_tmp rfl) (rr_tmp rfl) ⟨rfl, rfl⟩


def F.mill_Mill_Sum_1 (x1 : ByteArray) : Option ByteArray :=
  Option.bind (F.mill_Mill_none_1) (fun (r21 : Bool) => if r21 then (some ((ByteArray.mk #[]))) else (none))
set_option maxRecDepth 100000 in
set_option maxHeartbeats 4000000 in
theorem c_mill_Mill_Sum_1 (I : Hl) (x1 : ByteArray) (res : ByteArray) (hF : F.mill_Mill_Sum_1 x1 = some res) : Tr Try.prog 23 [.pointer none, .string x1] [imm I] (fun r H' => r = .string res ∧ H' = [imm I]) := by
  unfold F.mill_Mill_Sum_1 at hF
  refine tr_of_cw (fn := Try.f23) Try.func23 rfl (Nat.le_of_ble_eq_true rfl) 28 rfl fun F0 w0 => ?_
  refine cw_keep [0, 1] (L' := [(0, .pointer none), (1, .string x1)]) rfl ?_
  refine cw_state (S' := SAT w0 ([imm I] ++ F0)) (fun w hs => hs) ?_
  refine cw_seq ?_
  refine cw_region ?_
  refine ow_vals 1 (j := 1) [0, 1] [(0, .pointer none), (1, .string x1)] rfl (by kernel_rfl) ?_
  refine ow_end rfl ?_
  refine ew_then ?_
  refine cw_seq ?_
  refine cw_seq ?_
  refine cw_region ?_
  refine ow_vals 1 (j := 1) [0, 1, 7] [(0, .pointer none), (1, .string x1), (7, .pointer none)] rfl (by kernel_rfl) ?_
  obtain ⟨r21, h22, hF⟩ := bind_some hF
  refine ow_pw rfl (pw_call (F := [] ++ F0) rfl rfl rfl rfl rfl rfl rfl (by kernel_rfl) (perm_of_pulls [0] rfl) (c_mill_Mill_none_1 _ r21 h22) ?_)
  rintro _ _ ⟨rfl, rfl⟩
  refine nw_H (H' := [imm I] ++ F0) rfl (nw_ow ?_)
  refine ow_end rfl ?_
  refine ew_then ?_
  rcases if_some hF with ⟨h23, hF⟩ | ⟨h23, hF⟩
  · refine cw_cond_t rfl rfl h23 ?_
    refine cw_seq ?_
    refine cw_region ?_
    refine ow_vals 1 (j := 1) [4] [(4, .string (ByteArray.mk #[]))] rfl (by kernel_rfl) ?_
    refine ow_end rfl ?_
    refine ew_then ?_
    refine cw_ret ?_
    refine ew_then_ret ?_
    have hR := Option.some.inj hF
    subst hR
    exact fin1 (H1 := [imm I]) (fun w hs => sat_to [0] 0 rfl hs) rfl (rr_tmp rfl) ⟨rfl, rfl⟩
  · refine cw_cond_f rfl rfl h23 ?_
    refine cw_skip ?_
    refine ew_then ?_
    refine cw_seq ?_
    refine cw_open 12 (SAT w0 ([imm I])) (by kernel_rfl) (f := 12) rfl (fun w hs => sat_drew hs) ?_
    refine aw_vals [0] (f' := 11) (m' := 1) [0, 1, 10] [(0, .pointer none), (1, .string x1), (10, .pointer none)] (fun _ _ _ _ _ h => calm_fin (P := Try.prog) (fn := Try.f23) _ _ _ _ _ h) (fun w hs => sat_pulls [0] (G := [] ++ F0) rfl hs) rfl (by kernel_rfl) ?_
    cases hF


def F.pledge_Of_1 (x1 : ByteArray) (x2 : ByteArray) (x3 : ByteArray) (x4 : ByteArray) : Option ByteArray :=
  Option.bind (F.octet_Text x1) (fun (r21 : ByteArray) => chk ((ByteArray.mk #[2]).size + r21.size ≤ 9223372036854775807) (Option.bind (F.octet_Text x2) (fun (r24 : ByteArray) => chk (((ByteArray.mk #[2]) ++ r21).size + r24.size ≤ 9223372036854775807) (Option.bind (F.octet_Text x3) (fun (r27 : ByteArray) => chk ((((ByteArray.mk #[2]) ++ r21) ++ r24).size + r27.size ≤ 9223372036854775807) (Option.bind (F.octet_Text x4) (fun (r30 : ByteArray) => chk (((((ByteArray.mk #[2]) ++ r21) ++ r24) ++ r27).size + r30.size ≤ 9223372036854775807) (Option.bind (F.mill_Mill_Sum_1 (((((ByteArray.mk #[2]) ++ r21) ++ r24) ++ r27) ++ r30)) (fun (r33 : ByteArray) => some (r33))))))))))
set_option maxRecDepth 100000 in
set_option maxHeartbeats 4000000 in
theorem c_pledge_Of_1 (I : Hl) (x1 : ByteArray) (x2 : ByteArray) (x3 : ByteArray) (x4 : ByteArray) (res : ByteArray) (hF : F.pledge_Of_1 x1 x2 x3 x4 = some res) : Tr Try.prog 22 [.pointer none, .string x1, .string x2, .string x3, .string x4] [imm I] (fun r H' => r = .string res ∧ H' = [imm I]) := by
  unfold F.pledge_Of_1 at hF
  refine tr_of_cw (fn := Try.f22) Try.func22 rfl (Nat.le_of_ble_eq_true rfl) 25 rfl fun F0 w0 => ?_
  refine cw_keep [0, 1, 2, 3, 4] (L' := [(0, .pointer none), (1, .string x1), (2, .string x2), (3, .string x3), (4, .string x4)]) rfl ?_
  refine cw_state (S' := SAT w0 ([imm I] ++ F0)) (fun w hs => hs) ?_
  refine cw_seq ?_
  refine cw_region ?_
  refine ow_vals 1 (j := 1) [0, 1, 2, 3, 4] [(0, .pointer none), (1, .string x1), (2, .string x2), (3, .string x3), (4, .string x4)] rfl (by kernel_rfl) ?_
  refine ow_end rfl ?_
  refine ew_then ?_
  refine cw_seq ?_
  refine cw_region ?_
  refine ow_vals 2 (j := 2) [2, 3, 4, 11, 12] [(2, .string x2), (3, .string x3), (4, .string x4), (11, .pointer none), (12, .string x1)] rfl (by kernel_rfl) ?_
  obtain ⟨r21, h22, hF⟩ := bind_some hF
  refine ow_pw rfl (pw_call (F := [] ++ F0) rfl rfl rfl rfl rfl rfl rfl (by kernel_rfl) (perm_of_pulls [0] rfl) (c_octet_Text _ x1 r21 h22) ?_)
  rintro _ _ ⟨rfl, rfl⟩
  refine nw_H (H' := [imm I] ++ F0) rfl (nw_ow ?_)
  obtain ⟨h23, hF⟩ := chk_some hF
  refine ow_pw rfl (pw_quiet (v := .string ((ByteArray.mk #[2]) ++ r21)) rfl rfl rfl rfl (q_concat rfl rfl rfl h23) (nw_ow ?_))
  refine ow_vals 1 (j := 5) [3, 4, 11, 14, 15] [(3, .string x3), (4, .string x4), (11, .pointer none), (14, .string ((ByteArray.mk #[2]) ++ r21)), (15, .string x2)] rfl (by kernel_rfl) ?_
  obtain ⟨r24, h25, hF⟩ := bind_some hF
  refine ow_pw rfl (pw_call (F := [] ++ F0) rfl rfl rfl rfl rfl rfl rfl (by kernel_rfl) (perm_of_pulls [0] rfl) (c_octet_Text _ x2 r24 h25) ?_)
  rintro _ _ ⟨rfl, rfl⟩
  refine nw_H (H' := [imm I] ++ F0) rfl (nw_ow ?_)
  obtain ⟨h26, hF⟩ := chk_some hF
  refine ow_pw rfl (pw_quiet (v := .string (((ByteArray.mk #[2]) ++ r21) ++ r24)) rfl rfl rfl rfl (q_concat rfl rfl rfl h26) (nw_ow ?_))
  refine ow_vals 1 (j := 8) [4, 11, 17, 18] [(4, .string x4), (11, .pointer none), (17, .string (((ByteArray.mk #[2]) ++ r21) ++ r24)), (18, .string x3)] rfl (by kernel_rfl) ?_
  obtain ⟨r27, h28, hF⟩ := bind_some hF
  refine ow_pw rfl (pw_call (F := [] ++ F0) rfl rfl rfl rfl rfl rfl rfl (by kernel_rfl) (perm_of_pulls [0] rfl) (c_octet_Text _ x3 r27 h28) ?_)
  rintro _ _ ⟨rfl, rfl⟩
  refine nw_H (H' := [imm I] ++ F0) rfl (nw_ow ?_)
  obtain ⟨h29, hF⟩ := chk_some hF
  refine ow_pw rfl (pw_quiet (v := .string ((((ByteArray.mk #[2]) ++ r21) ++ r24) ++ r27)) rfl rfl rfl rfl (q_concat rfl rfl rfl h29) (nw_ow ?_))
  refine ow_vals 1 (j := 11) [11, 20, 21] [(11, .pointer none), (20, .string ((((ByteArray.mk #[2]) ++ r21) ++ r24) ++ r27)), (21, .string x4)] rfl (by kernel_rfl) ?_
  obtain ⟨r30, h31, hF⟩ := bind_some hF
  refine ow_pw rfl (pw_call (F := [] ++ F0) rfl rfl rfl rfl rfl rfl rfl (by kernel_rfl) (perm_of_pulls [0] rfl) (c_octet_Text _ x4 r30 h31) ?_)
  rintro _ _ ⟨rfl, rfl⟩
  refine nw_H (H' := [imm I] ++ F0) rfl (nw_ow ?_)
  obtain ⟨h32, hF⟩ := chk_some hF
  refine ow_pw rfl (pw_quiet (v := .string (((((ByteArray.mk #[2]) ++ r21) ++ r24) ++ r27) ++ r30)) rfl rfl rfl rfl (q_concat rfl rfl rfl h32) (nw_ow ?_))
  obtain ⟨r33, h34, hF⟩ := bind_some hF
  refine ow_pw rfl (pw_call (F := [] ++ F0) rfl rfl rfl rfl rfl rfl rfl (by kernel_rfl) (perm_of_pulls [0] rfl) (c_mill_Mill_Sum_1 _ (((((ByteArray.mk #[2]) ++ r21) ++ r24) ++ r27) ++ r30) r33 h34) ?_)
  rintro _ _ ⟨rfl, rfl⟩
  refine nw_H (H' := [imm I] ++ F0) rfl (nw_ow ?_)
  refine ow_vals 1 (j := 15) [10] [(10, .string r33)] rfl (by kernel_rfl) ?_
  refine ow_end rfl ?_
  refine ew_then ?_
  refine cw_ret ?_
  have hR := Option.some.inj hF
  subst hR
  exact fin1 (H1 := [imm I]) (fun w hs => sat_to [0] 0 rfl hs) rfl (rr_tmp rfl) ⟨rfl, rfl⟩


def F.pledge_Leaf_1 (x1 : ByteArray) : Option ByteArray :=
  chk ((ByteArray.mk #[0]).size + x1.size ≤ 9223372036854775807) (Option.bind (F.mill_Mill_Sum_1 ((ByteArray.mk #[0]) ++ x1)) (fun (r22 : ByteArray) => some (r22)))
set_option maxRecDepth 100000 in
set_option maxHeartbeats 4000000 in
theorem c_pledge_Leaf_1 (I : Hl) (x1 : ByteArray) (res : ByteArray) (hF : F.pledge_Leaf_1 x1 = some res) : Tr Try.prog 25 [.pointer none, .string x1] [imm I] (fun r H' => r = .string res ∧ H' = [imm I]) := by
  unfold F.pledge_Leaf_1 at hF
  refine tr_of_cw (fn := Try.f25) Try.func25 rfl (Nat.le_of_ble_eq_true rfl) 9 rfl fun F0 w0 => ?_
  refine cw_keep [0, 1] (L' := [(0, .pointer none), (1, .string x1)]) rfl ?_
  refine cw_state (S' := SAT w0 ([imm I] ++ F0)) (fun w hs => hs) ?_
  refine cw_seq ?_
  refine cw_region ?_
  refine ow_vals 1 (j := 1) [0, 1] [(0, .pointer none), (1, .string x1)] rfl (by kernel_rfl) ?_
  refine ow_end rfl ?_
  refine ew_then ?_
  refine cw_seq ?_
  refine cw_region ?_
  refine ow_vals 2 (j := 2) [5, 6] [(5, .pointer none), (6, .string x1)] rfl (by kernel_rfl) ?_
  obtain ⟨h21, hF⟩ := chk_some hF
  refine ow_pw rfl (pw_quiet (v := .string ((ByteArray.mk #[0]) ++ x1)) rfl rfl rfl rfl (q_concat rfl rfl rfl h21) (nw_ow ?_))
  obtain ⟨r22, h23, hF⟩ := bind_some hF
  refine ow_pw rfl (pw_call (F := [] ++ F0) rfl rfl rfl rfl rfl rfl rfl (by kernel_rfl) (perm_of_pulls [0] rfl) (c_mill_Mill_Sum_1 _ ((ByteArray.mk #[0]) ++ x1) r22 h23) ?_)
  rintro _ _ ⟨rfl, rfl⟩
  refine nw_H (H' := [imm I] ++ F0) rfl (nw_ow ?_)
  refine ow_vals 1 (j := 5) [4] [(4, .string r22)] rfl (by kernel_rfl) ?_
  refine ow_end rfl ?_
  refine ew_then ?_
  refine cw_ret ?_
  have hR := Option.some.inj hF
  subst hR
  exact fin1 (H1 := [imm I]) (fun w hs => sat_to [0] 0 rfl hs) rfl (rr_tmp rfl) ⟨rfl, rfl⟩


def F.pledge_Node_1 (x1 : ByteArray) (x2 : ByteArray) : Option ByteArray :=
  chk ((ByteArray.mk #[1]).size + x1.size ≤ 9223372036854775807) (chk (((ByteArray.mk #[1]) ++ x1).size + x2.size ≤ 9223372036854775807) (Option.bind (F.mill_Mill_Sum_1 (((ByteArray.mk #[1]) ++ x1) ++ x2)) (fun (r23 : ByteArray) => some (r23))))
set_option maxRecDepth 100000 in
set_option maxHeartbeats 4000000 in
theorem c_pledge_Node_1 (I : Hl) (x1 : ByteArray) (x2 : ByteArray) (res : ByteArray) (hF : F.pledge_Node_1 x1 x2 = some res) : Tr Try.prog 26 [.pointer none, .string x1, .string x2] [imm I] (fun r H' => r = .string res ∧ H' = [imm I]) := by
  unfold F.pledge_Node_1 at hF
  refine tr_of_cw (fn := Try.f26) Try.func26 rfl (Nat.le_of_ble_eq_true rfl) 13 rfl fun F0 w0 => ?_
  refine cw_keep [0, 1, 2] (L' := [(0, .pointer none), (1, .string x1), (2, .string x2)]) rfl ?_
  refine cw_state (S' := SAT w0 ([imm I] ++ F0)) (fun w hs => hs) ?_
  refine cw_seq ?_
  refine cw_region ?_
  refine ow_vals 1 (j := 1) [0, 1, 2] [(0, .pointer none), (1, .string x1), (2, .string x2)] rfl (by kernel_rfl) ?_
  refine ow_end rfl ?_
  refine ew_then ?_
  refine cw_seq ?_
  refine cw_region ?_
  refine ow_vals 2 (j := 2) [2, 7, 8] [(2, .string x2), (7, .pointer none), (8, .string x1)] rfl (by kernel_rfl) ?_
  obtain ⟨h21, hF⟩ := chk_some hF
  refine ow_pw rfl (pw_quiet (v := .string ((ByteArray.mk #[1]) ++ x1)) rfl rfl rfl rfl (q_concat rfl rfl rfl h21) (nw_ow ?_))
  refine ow_vals 1 (j := 4) [7, 9, 10] [(7, .pointer none), (9, .string ((ByteArray.mk #[1]) ++ x1)), (10, .string x2)] rfl (by kernel_rfl) ?_
  obtain ⟨h22, hF⟩ := chk_some hF
  refine ow_pw rfl (pw_quiet (v := .string (((ByteArray.mk #[1]) ++ x1) ++ x2)) rfl rfl rfl rfl (q_concat rfl rfl rfl h22) (nw_ow ?_))
  obtain ⟨r23, h24, hF⟩ := bind_some hF
  refine ow_pw rfl (pw_call (F := [] ++ F0) rfl rfl rfl rfl rfl rfl rfl (by kernel_rfl) (perm_of_pulls [0] rfl) (c_mill_Mill_Sum_1 _ (((ByteArray.mk #[1]) ++ x1) ++ x2) r23 h24) ?_)
  rintro _ _ ⟨rfl, rfl⟩
  refine nw_H (H' := [imm I] ++ F0) rfl (nw_ow ?_)
  refine ow_vals 1 (j := 7) [6] [(6, .string r23)] rfl (by kernel_rfl) ?_
  refine ow_end rfl ?_
  refine ew_then ?_
  refine cw_ret ?_
  have hR := Option.some.inj hF
  subst hR
  exact fin1 (H1 := [imm I]) (fun w hs => sat_to [0] 0 rfl hs) rfl (rr_tmp rfl) ⟨rfl, rfl⟩


def F.pledge_None_1 : Option ByteArray :=
  Option.bind (F.mill_Mill_Sum_1 (ByteArray.mk #[])) (fun (r21 : ByteArray) => some (r21))
set_option maxRecDepth 100000 in
set_option maxHeartbeats 4000000 in
theorem c_pledge_None_1 (I : Hl) (res : ByteArray) (hF : F.pledge_None_1 = some res) : Tr Try.prog 27 [.pointer none] [imm I] (fun r H' => r = .string res ∧ H' = [imm I]) := by
  unfold F.pledge_None_1 at hF
  refine tr_of_cw (fn := Try.f27) Try.func27 rfl (Nat.le_of_ble_eq_true rfl) 5 rfl fun F0 w0 => ?_
  refine cw_keep [0] (L' := [(0, .pointer none)]) rfl ?_
  refine cw_state (S' := SAT w0 ([imm I] ++ F0)) (fun w hs => hs) ?_
  refine cw_seq ?_
  refine cw_region ?_
  refine ow_vals 1 (j := 1) [0] [(0, .pointer none)] rfl (by kernel_rfl) ?_
  refine ow_end rfl ?_
  refine ew_then ?_
  refine cw_seq ?_
  refine cw_region ?_
  refine ow_vals 1 (j := 1) [3] [(3, .pointer none)] rfl (by kernel_rfl) ?_
  obtain ⟨r21, h22, hF⟩ := bind_some hF
  refine ow_pw rfl (pw_call (F := [] ++ F0) rfl rfl rfl rfl rfl rfl rfl (by kernel_rfl) (perm_of_pulls [0] rfl) (c_mill_Mill_Sum_1 _ (ByteArray.mk #[]) r21 h22) ?_)
  rintro _ _ ⟨rfl, rfl⟩
  refine nw_H (H' := [imm I] ++ F0) rfl (nw_ow ?_)
  refine ow_vals 1 (j := 3) [2] [(2, .string r21)] rfl (by kernel_rfl) ?_
  refine ow_end rfl ?_
  refine ew_then ?_
  refine cw_ret ?_
  have hR := Option.some.inj hF
  subst hR
  exact fin1 (H1 := [imm I]) (fun w hs => sat_to [0] 0 rfl hs) rfl (rr_tmp rfl) ⟨rfl, rfl⟩


def F.pledge_Key_1 (x1 : ByteArray) : Option ByteArray :=
  Option.bind (F.mill_Mill_Tag_1 x1 (ByteArray.mk #[107, 101, 121])) (fun (r21 : ByteArray) => some (r21))
set_option maxRecDepth 100000 in
set_option maxHeartbeats 4000000 in
theorem c_pledge_Key_1 (I : Hl) (x1 : ByteArray) (res : ByteArray) (hF : F.pledge_Key_1 x1 = some res) : Tr Try.prog 14 [.pointer none, .string x1] [imm I] (fun r H' => r = .string res ∧ H' = [imm I]) := by
  unfold F.pledge_Key_1 at hF
  refine tr_of_cw (fn := Try.f14) Try.func14 rfl (Nat.le_of_ble_eq_true rfl) 8 rfl fun F0 w0 => ?_
  refine cw_keep [0, 1] (L' := [(0, .pointer none), (1, .string x1)]) rfl ?_
  refine cw_state (S' := SAT w0 ([imm I] ++ F0)) (fun w hs => hs) ?_
  refine cw_seq ?_
  refine cw_region ?_
  refine ow_vals 1 (j := 1) [0, 1] [(0, .pointer none), (1, .string x1)] rfl (by kernel_rfl) ?_
  refine ow_end rfl ?_
  refine ew_then ?_
  refine cw_seq ?_
  refine cw_region ?_
  refine ow_vals 2 (j := 2) [5, 6] [(5, .pointer none), (6, .string x1)] rfl (by kernel_rfl) ?_
  obtain ⟨r21, h22, hF⟩ := bind_some hF
  refine ow_pw rfl (pw_call (F := [] ++ F0) rfl rfl rfl rfl rfl rfl rfl (by kernel_rfl) (perm_of_pulls [0] rfl) (c_mill_Mill_Tag_1 _ x1 (ByteArray.mk #[107, 101, 121]) r21 h22) ?_)
  rintro _ _ ⟨rfl, rfl⟩
  refine nw_H (H' := [imm I] ++ F0) rfl (nw_ow ?_)
  refine ow_vals 1 (j := 4) [4] [(4, .string r21)] rfl (by kernel_rfl) ?_
  refine ow_end rfl ?_
  refine ew_then ?_
  refine cw_ret ?_
  have hR := Option.some.inj hF
  subst hR
  exact fin1 (H1 := [imm I]) (fun w hs => sat_to [0] 0 rfl hs) rfl (rr_tmp rfl) ⟨rfl, rfl⟩


def F.pledge_Salt_1 (x1 : ByteArray) (x2 : ByteArray) : Option ByteArray :=
  Option.bind (F.octet_Text x2) (fun (r21 : ByteArray) => chk ((ByteArray.mk #[115, 97, 108, 116]).size + r21.size ≤ 9223372036854775807) (Option.bind (F.mill_Mill_Tag_1 x1 ((ByteArray.mk #[115, 97, 108, 116]) ++ r21)) (fun (r24 : ByteArray) => chk (0 ≤ (0 : Int) ∧ (0 : Int) ≤ (if 16 < (r24.size : Int) then 16 else (r24.size : Int)) ∧ (if 16 < (r24.size : Int) then 16 else (r24.size : Int)) ≤ (r24.size : Int)) (some ((r24.extract (0 : Int).toNat (if 16 < (r24.size : Int) then 16 else (r24.size : Int)).toNat))))))
set_option maxRecDepth 100000 in
set_option maxHeartbeats 4000000 in
theorem c_pledge_Salt_1 (I : Hl) (x1 : ByteArray) (x2 : ByteArray) (res : ByteArray) (hF : F.pledge_Salt_1 x1 x2 = some res) : Tr Try.prog 15 [.pointer none, .string x1, .string x2] [imm I] (fun r H' => r = .string res ∧ H' = [imm I]) := by
  unfold F.pledge_Salt_1 at hF
  refine tr_of_cw (fn := Try.f15) Try.func15 rfl (Nat.le_of_ble_eq_true rfl) 19 rfl fun F0 w0 => ?_
  refine cw_keep [0, 1, 2] (L' := [(0, .pointer none), (1, .string x1), (2, .string x2)]) rfl ?_
  refine cw_state (S' := SAT w0 ([imm I] ++ F0)) (fun w hs => hs) ?_
  refine cw_seq ?_
  refine cw_region ?_
  refine ow_vals 1 (j := 1) [0, 1, 2] [(0, .pointer none), (1, .string x1), (2, .string x2)] rfl (by kernel_rfl) ?_
  refine ow_end rfl ?_
  refine ew_then ?_
  refine cw_seq ?_
  refine cw_region ?_
  refine ow_vals 3 (j := 3) [8, 9, 10] [(8, .pointer none), (9, .string x1), (10, .string x2)] rfl (by kernel_rfl) ?_
  obtain ⟨r21, h22, hF⟩ := bind_some hF
  refine ow_pw rfl (pw_call (F := [] ++ F0) rfl rfl rfl rfl rfl rfl rfl (by kernel_rfl) (perm_of_pulls [0] rfl) (c_octet_Text _ x2 r21 h22) ?_)
  rintro _ _ ⟨rfl, rfl⟩
  refine nw_H (H' := [imm I] ++ F0) rfl (nw_ow ?_)
  obtain ⟨h23, hF⟩ := chk_some hF
  refine ow_pw rfl (pw_quiet (v := .string ((ByteArray.mk #[115, 97, 108, 116]) ++ r21)) rfl rfl rfl rfl (q_concat rfl rfl rfl h23) (nw_ow ?_))
  obtain ⟨r24, h25, hF⟩ := bind_some hF
  refine ow_pw rfl (pw_call (F := [] ++ F0) rfl rfl rfl rfl rfl rfl rfl (by kernel_rfl) (perm_of_pulls [0] rfl) (c_mill_Mill_Tag_1 _ x1 ((ByteArray.mk #[115, 97, 108, 116]) ++ r21) r24 h25) ?_)
  rintro _ _ ⟨rfl, rfl⟩
  refine nw_H (H' := [imm I] ++ F0) rfl (nw_ow ?_)
  refine ow_vals 1 (j := 7) [7] [(7, .string r24)] rfl (by kernel_rfl) ?_
  refine ow_end rfl ?_
  refine ew_then ?_
  refine cw_seq ?_
  refine cw_region ?_
  refine ow_vals 4 (j := 4) [14, 17] [(14, .string r24), (17, .int .i64 (if 16 < (r24.size : Int) then 16 else (r24.size : Int)))] rfl (by kernel_rfl) ?_
  obtain ⟨h26, hF⟩ := chk_some hF
  refine ow_pw rfl (pw_quiet (v := .string (r24.extract (0 : Int).toNat (if 16 < (r24.size : Int) then 16 else (r24.size : Int)).toNat)) rfl rfl rfl rfl (q_slice_str rfl (by kernel_rfl) rfl rfl rfl h26.1 h26.2.1 h26.2.2) (nw_ow ?_))
  refine ow_vals 1 (j := 6) [6] [(6, .string (r24.extract (0 : Int).toNat (if 16 < (r24.size : Int) then 16 else (r24.size : Int)).toNat))] rfl (by kernel_rfl) ?_
  refine ow_end rfl ?_
  refine ew_then ?_
  refine cw_ret ?_
  have hR := Option.some.inj hF
  subst hR
  exact fin1 (H1 := [imm I]) (fun w hs => sat_to [0] 0 rfl hs) rfl (rr_tmp rfl) ⟨rfl, rfl⟩


def F.pledge_Shut_1 (x1 : ByteArray) (x2 : ByteArray) (x3 : ByteArray) (x4 : ByteArray) : Option ByteArray :=
  Option.bind (F.pledge_label x2) (fun (r21 : ByteArray) => chk (x3.size + x4.size ≤ 9223372036854775807) (Option.bind (F.mill_Mill_Veil_1 x1 r21 (x3 ++ x4)) (fun (r24 : ByteArray) => some (r24))))
set_option maxRecDepth 100000 in
set_option maxHeartbeats 4000000 in
theorem c_pledge_Shut_1 (I : Hl) (x1 : ByteArray) (x2 : ByteArray) (x3 : ByteArray) (x4 : ByteArray) (res : ByteArray) (hF : F.pledge_Shut_1 x1 x2 x3 x4 = some res) : Tr Try.prog 17 [.pointer none, .string x1, .string x2, .string x3, .string x4] [imm I] (fun r H' => r = .string res ∧ H' = [imm I]) := by
  unfold F.pledge_Shut_1 at hF
  refine tr_of_cw (fn := Try.f17) Try.func17 rfl (Nat.le_of_ble_eq_true rfl) 19 rfl fun F0 w0 => ?_
  refine cw_keep [0, 1, 2, 3, 4] (L' := [(0, .pointer none), (1, .string x1), (2, .string x2), (3, .string x3), (4, .string x4)]) rfl ?_
  refine cw_state (S' := SAT w0 ([imm I] ++ F0)) (fun w hs => hs) ?_
  refine cw_seq ?_
  refine cw_region ?_
  refine ow_vals 1 (j := 1) [0, 1, 2, 3, 4] [(0, .pointer none), (1, .string x1), (2, .string x2), (3, .string x3), (4, .string x4)] rfl (by kernel_rfl) ?_
  refine ow_end rfl ?_
  refine ew_then ?_
  refine cw_seq ?_
  refine cw_region ?_
  refine ow_vals 3 (j := 3) [3, 4, 11, 12, 13] [(3, .string x3), (4, .string x4), (11, .pointer none), (12, .string x1), (13, .string x2)] rfl (by kernel_rfl) ?_
  obtain ⟨r21, h22, hF⟩ := bind_some hF
  refine ow_pw rfl (pw_call (F := [] ++ F0) rfl rfl rfl rfl rfl rfl rfl (by kernel_rfl) (perm_of_pulls [0] rfl) (c_pledge_label _ x2 r21 h22) ?_)
  rintro _ _ ⟨rfl, rfl⟩
  refine nw_H (H' := [imm I] ++ F0) rfl (nw_ow ?_)
  refine ow_vals 2 (j := 6) [11, 12, 14, 15, 16] [(11, .pointer none), (12, .string x1), (14, .string r21), (15, .string x3), (16, .string x4)] rfl (by kernel_rfl) ?_
  obtain ⟨h23, hF⟩ := chk_some hF
  refine ow_pw rfl (pw_quiet (v := .string (x3 ++ x4)) rfl rfl rfl rfl (q_concat rfl rfl rfl h23) (nw_ow ?_))
  obtain ⟨r24, h25, hF⟩ := bind_some hF
  refine ow_pw rfl (pw_call (F := [] ++ F0) rfl rfl rfl rfl rfl rfl rfl (by kernel_rfl) (perm_of_pulls [0] rfl) (c_mill_Mill_Veil_1 _ x1 r21 (x3 ++ x4) r24 h25) ?_)
  rintro _ _ ⟨rfl, rfl⟩
  refine nw_H (H' := [imm I] ++ F0) rfl (nw_ow ?_)
  refine ow_vals 1 (j := 9) [10] [(10, .string r24)] rfl (by kernel_rfl) ?_
  refine ow_end rfl ?_
  refine ew_then ?_
  refine cw_ret ?_
  have hR := Option.some.inj hF
  subst hR
  exact fin1 (H1 := [imm I]) (fun w hs => sat_to [0] 0 rfl hs) rfl (rr_tmp rfl) ⟨rfl, rfl⟩


def F.pledge_Slip_1 (x1 : ByteArray) (x2 : ByteArray) (x3 : ByteArray) (x4 : ByteArray) : Option api_Slip :=
  Option.bind (F.pledge_Salt_1 x1 x3) (fun (r23 : ByteArray) => Option.bind (F.pledge_Of_1 x2 x3 r23 x4) (fun (r25 : ByteArray) => Option.bind (F.pledge_Key_1 x1) (fun (r27 : ByteArray) => Option.bind (F.pledge_Shut_1 r27 x3 r23 x4) (fun (r29 : ByteArray) => some ((⟨x3, r25, r29, false⟩ : api_Slip))))))
set_option maxRecDepth 100000 in
set_option maxHeartbeats 4000000 in
theorem c_pledge_Slip_1 (I : Hl) (x1 : ByteArray) (x2 : ByteArray) (x3 : ByteArray) (x4 : ByteArray) (res : api_Slip) (hF : F.pledge_Slip_1 x1 x2 x3 x4 = some res) : Tr Try.prog 20 [.pointer none, .string x1, .string x2, .string x3, .string x4] [imm I] (fun r H' => r = .agg #[.string res.Name, .string res.Pledge, .string res.Cipher, .bool res.Erased] ∧ H' = [imm I]) := by
  unfold F.pledge_Slip_1 at hF
  refine tr_of_cw (fn := Try.f20) Try.func20 rfl (Nat.le_of_ble_eq_true rfl) 32 rfl fun F0 w0 => ?_
  refine cw_keep [0, 1, 2, 3, 4] (L' := [(0, .pointer none), (1, .string x1), (2, .string x2), (3, .string x3), (4, .string x4)]) rfl ?_
  refine cw_state (S' := SAT w0 ([imm I] ++ F0)) (fun w hs => hs) ?_
  refine cw_seq ?_
  refine cw_region ?_
  refine ow_pw rfl (pw_alloc (cs := #[.string (ByteArray.mk #[]), .string (ByteArray.mk #[]), .string (ByteArray.mk #[]), .bool false]) rfl rfl rfl rfl rfl (by kernel_rfl) fun b21 => nw_ow ?_)
  refine ow_end rfl ?_
  refine ew_then ?_
  refine cw_seq ?_
  refine cw_region ?_
  refine ow_vals 3 (j := 3) [0, 1, 2, 3, 4, 10, 12, 13, 14] [(0, .pointer none), (1, .string x1), (2, .string x2), (3, .string x3), (4, .string x4), (10, .pointer (some ⟨b21, 0, none⟩)), (12, .pointer none), (13, .string x1), (14, .string x3)] rfl (by kernel_rfl) ?_
  obtain ⟨r23, h24, hF⟩ := bind_some hF
  refine ow_pw rfl (pw_call (F := [pt b21 #[.string (ByteArray.mk #[]), .string (ByteArray.mk #[]), .string (ByteArray.mk #[]), .bool false] 36] ++ F0) rfl rfl rfl rfl rfl rfl rfl (by kernel_rfl) (perm_of_pulls [1] rfl) (c_pledge_Salt_1 _ x1 x3 r23 h24) ?_)
  rintro _ _ ⟨rfl, rfl⟩
  refine nw_H (H' := [imm I, pt b21 #[.string (ByteArray.mk #[]), .string (ByteArray.mk #[]), .string (ByteArray.mk #[]), .bool false] 36] ++ F0) rfl (nw_ow ?_)
  refine ow_vals 1 (j := 5) [0, 1, 2, 3, 4, 10, 11] [(0, .pointer none), (1, .string x1), (2, .string x2), (3, .string x3), (4, .string x4), (10, .pointer (some ⟨b21, 0, none⟩)), (11, .string r23)] rfl (by kernel_rfl) ?_
  refine ow_end rfl ?_
  refine ew_then ?_
  refine cw_seq ?_
  refine cw_region ?_
  refine ow_vals 6 (j := 6) [0, 1, 3, 4, 10, 11, 16, 17, 18, 19, 20, 21] [(0, .pointer none), (1, .string x1), (3, .string x3), (4, .string x4), (10, .pointer (some ⟨b21, 0, none⟩)), (11, .string r23), (16, .string x3), (17, .pointer none), (18, .string x2), (19, .string x3), (20, .string r23), (21, .string x4)] rfl (by kernel_rfl) ?_
  obtain ⟨r25, h26, hF⟩ := bind_some hF
  refine ow_pw rfl (pw_call (F := [pt b21 #[.string (ByteArray.mk #[]), .string (ByteArray.mk #[]), .string (ByteArray.mk #[]), .bool false] 36] ++ F0) rfl rfl rfl rfl rfl rfl rfl (by kernel_rfl) (perm_of_pulls [0] rfl) (c_pledge_Of_1 _ x2 x3 r23 x4 r25 h26) ?_)
  rintro _ _ ⟨rfl, rfl⟩
  refine nw_H (H' := [imm I, pt b21 #[.string (ByteArray.mk #[]), .string (ByteArray.mk #[]), .string (ByteArray.mk #[]), .bool false] 36] ++ F0) rfl (nw_ow ?_)
  refine ow_vals 3 (j := 10) [3, 4, 10, 11, 16, 22, 23, 24, 25] [(3, .string x3), (4, .string x4), (10, .pointer (some ⟨b21, 0, none⟩)), (11, .string r23), (16, .string x3), (22, .string r25), (23, .pointer none), (24, .pointer none), (25, .string x1)] rfl (by kernel_rfl) ?_
  obtain ⟨r27, h28, hF⟩ := bind_some hF
  refine ow_pw rfl (pw_call (F := [pt b21 #[.string (ByteArray.mk #[]), .string (ByteArray.mk #[]), .string (ByteArray.mk #[]), .bool false] 36] ++ F0) rfl rfl rfl rfl rfl rfl rfl (by kernel_rfl) (perm_of_pulls [0] rfl) (c_pledge_Key_1 _ x1 r27 h28) ?_)
  rintro _ _ ⟨rfl, rfl⟩
  refine nw_H (H' := [imm I, pt b21 #[.string (ByteArray.mk #[]), .string (ByteArray.mk #[]), .string (ByteArray.mk #[]), .bool false] 36] ++ F0) rfl (nw_ow ?_)
  refine ow_vals 3 (j := 14) [10, 16, 22, 23, 26, 27, 28, 29] [(10, .pointer (some ⟨b21, 0, none⟩)), (16, .string x3), (22, .string r25), (23, .pointer none), (26, .string r27), (27, .string x3), (28, .string r23), (29, .string x4)] rfl (by kernel_rfl) ?_
  obtain ⟨r29, h30, hF⟩ := bind_some hF
  refine ow_pw rfl (pw_call (F := [pt b21 #[.string (ByteArray.mk #[]), .string (ByteArray.mk #[]), .string (ByteArray.mk #[]), .bool false] 36] ++ F0) rfl rfl rfl rfl rfl rfl rfl (by kernel_rfl) (perm_of_pulls [0] rfl) (c_pledge_Shut_1 _ r27 x3 r23 x4 r29 h30) ?_)
  rintro _ _ ⟨rfl, rfl⟩
  refine nw_H (H' := [imm I, pt b21 #[.string (ByteArray.mk #[]), .string (ByteArray.mk #[]), .string (ByteArray.mk #[]), .bool false] 36] ++ F0) rfl (nw_ow ?_)
  refine ow_vals 1 (j := 16) [10, 31] [(10, .pointer (some ⟨b21, 0, none⟩)), (31, .agg #[.string x3, .string r25, .string r29, .bool false])] rfl (by kernel_rfl) ?_
  refine ow_pw rfl (pw_store 1 #[.string x3, .string r25, .string r29, .bool false] rfl rfl rfl rfl rfl rfl rfl (by kernel_rfl) (nw_H (H' := [imm I, pt b21 #[.string x3, .string r25, .string r29, .bool false] 36] ++ F0) rfl (nw_ow ?_)))
  refine ow_end rfl ?_
  refine ew_then ?_
  refine cw_ret ?_
  have hR := Option.some.inj hF
  subst hR
  exact fin1 (H1 := [imm I]) (fun w hs => sat_to [1, 0] 1 rfl hs) rfl (rr_cell 1 rfl rfl (by kernel_rfl)) ⟨rfl, rfl⟩


def F.law06_PledgeNobody (x0 : ByteArray) : Option Bool :=
  Option.bind (F.law06_cut x0) (fun (r21 : ByteArray) => Option.bind (F.pledge_Open_1 r21 r21 r21) (fun (r23 : ByteArray × ByteArray × Bool) => Option.bind (F.pledge_Of_1 r21 r21 r21 r21) (fun (r25 : ByteArray) => Option.bind (F.pledge_Leaf_1 r21) (fun (r27 : ByteArray) => chk (r25.size + r27.size ≤ 9223372036854775807) (Option.bind (F.pledge_Node_1 r21 r21) (fun (r30 : ByteArray) => chk ((r25 ++ r27).size + r30.size ≤ 9223372036854775807) (Option.bind (F.pledge_None_1) (fun (r33 : ByteArray) => chk (((r25 ++ r27) ++ r30).size + r33.size ≤ 9223372036854775807) (Option.bind (F.pledge_Key_1 r21) (fun (r36 : ByteArray) => chk ((((r25 ++ r27) ++ r30) ++ r33).size + r36.size ≤ 9223372036854775807) (Option.bind (F.pledge_Salt_1 r21 r21) (fun (r39 : ByteArray) => chk (((((r25 ++ r27) ++ r30) ++ r33) ++ r36).size + r39.size ≤ 9223372036854775807) (Option.bind (F.pledge_Shut_1 r21 r21 r21 r21) (fun (r42 : ByteArray) => chk ((((((r25 ++ r27) ++ r30) ++ r33) ++ r36) ++ r39).size + r42.size ≤ 9223372036854775807) (chk (((((((r25 ++ r27) ++ r30) ++ r33) ++ r36) ++ r39) ++ r42).size + r23.1.size ≤ 9223372036854775807) (chk ((((((((r25 ++ r27) ++ r30) ++ r33) ++ r36) ++ r39) ++ r42) ++ r23.1).size + r23.2.1.size ≤ 9223372036854775807) (if seqB ((((((((r25 ++ r27) ++ r30) ++ r33) ++ r36) ++ r39) ++ r42) ++ r23.1) ++ r23.2.1) (ByteArray.mk #[]) then (if !r23.2.2 then (Option.bind (F.pledge_Slip_1 r21 r21 r21 r21) (fun (r49 : api_Slip) => if ((seqB r49.Name r21) && ((seqB r49.Pledge (ByteArray.mk #[])) && ((seqB r49.Cipher (ByteArray.mk #[])) && ((r49.Erased == false) && (true))))) then (Option.bind (F.law06_awake) (fun (r52 : Bool) => some (r52))) else (some (false)))) else (some (false))) else (some (false)))))))))))))))))))
set_option maxRecDepth 100000 in
set_option maxHeartbeats 4000000 in
theorem c_law06_PledgeNobody (I : Hl) (x0 : ByteArray) (res : Bool) (hF : F.law06_PledgeNobody x0 = some res) : Tr Try.prog 8 [.string x0] [imm I] (fun r H' => r = .bool res ∧ H' = [imm I]) := by
  unfold F.law06_PledgeNobody at hF
  refine tr_of_cw (fn := Try.f8) Try.func8 rfl (Nat.le_of_ble_eq_true rfl) 65 rfl fun F0 w0 => ?_
  refine cw_keep [0] (L' := [(0, .string x0)]) rfl ?_
  refine cw_state (S' := SAT w0 ([imm I] ++ F0)) (fun w hs => hs) ?_
  refine cw_seq ?_
  refine cw_region ?_
  refine ow_vals 1 (j := 1) [0] [(0, .string x0)] rfl (by kernel_rfl) ?_
  refine ow_end rfl ?_
  refine ew_then ?_
  refine cw_seq ?_
  refine cw_region ?_
  refine ow_vals 1 (j := 1) [6] [(6, .string x0)] rfl (by kernel_rfl) ?_
  obtain ⟨r21, h22, hF⟩ := bind_some hF
  refine ow_pw rfl (pw_call (F := [] ++ F0) rfl rfl rfl rfl rfl rfl rfl (by kernel_rfl) (perm_of_pulls [0] rfl) (c_law06_cut _ x0 r21 h22) ?_)
  rintro _ _ ⟨rfl, rfl⟩
  refine nw_H (H' := [imm I] ++ F0) rfl (nw_ow ?_)
  refine ow_vals 1 (j := 3) [0] [(0, .string r21)] rfl (by kernel_rfl) ?_
  refine ow_end rfl ?_
  refine ew_then ?_
  refine cw_seq ?_
  refine cw_region ?_
  refine ow_vals 3 (j := 3) [0, 9, 10, 11] [(0, .string r21), (9, .string r21), (10, .string r21), (11, .string r21)] rfl (by kernel_rfl) ?_
  obtain ⟨r23, h24, hF⟩ := bind_some hF
  refine ow_pw rfl (pw_call (F := [] ++ F0) rfl rfl rfl rfl rfl rfl rfl (by kernel_rfl) (perm_of_pulls [0] rfl) (c_pledge_Open_1 _ r21 r21 r21 r23 h24) ?_)
  rintro _ _ ⟨rfl, rfl⟩
  refine nw_H (H' := [imm I] ++ F0) rfl (nw_ow ?_)
  refine ow_vals 7 (j := 11) [0, 3, 4, 5] [(0, .string r21), (3, .string r23.1), (4, .string r23.2.1), (5, .bool r23.2.2)] rfl (by kernel_rfl) ?_
  refine ow_end rfl ?_
  refine ew_then ?_
  refine cw_seq ?_
  refine cw_region ?_
  refine ow_vals 4 (j := 4) [0, 3, 4, 5, 16, 17, 18, 19] [(0, .string r21), (3, .string r23.1), (4, .string r23.2.1), (5, .bool r23.2.2), (16, .string r21), (17, .string r21), (18, .string r21), (19, .string r21)] rfl (by kernel_rfl) ?_
  obtain ⟨r25, h26, hF⟩ := bind_some hF
  refine ow_pw rfl (pw_call (F := [] ++ F0) rfl rfl rfl rfl rfl rfl rfl (by kernel_rfl) (perm_of_pulls [0] rfl) (c_pledge_Of_1 _ r21 r21 r21 r21 r25 h26) ?_)
  rintro _ _ ⟨rfl, rfl⟩
  refine nw_H (H' := [imm I] ++ F0) rfl (nw_ow ?_)
  refine ow_vals 1 (j := 6) [0, 3, 4, 5, 20, 21] [(0, .string r21), (3, .string r23.1), (4, .string r23.2.1), (5, .bool r23.2.2), (20, .string r25), (21, .string r21)] rfl (by kernel_rfl) ?_
  obtain ⟨r27, h28, hF⟩ := bind_some hF
  refine ow_pw rfl (pw_call (F := [] ++ F0) rfl rfl rfl rfl rfl rfl rfl (by kernel_rfl) (perm_of_pulls [0] rfl) (c_pledge_Leaf_1 _ r21 r27 h28) ?_)
  rintro _ _ ⟨rfl, rfl⟩
  refine nw_H (H' := [imm I] ++ F0) rfl (nw_ow ?_)
  obtain ⟨h29, hF⟩ := chk_some hF
  refine ow_pw rfl (pw_quiet (v := .string (r25 ++ r27)) rfl rfl rfl rfl (q_concat rfl rfl rfl h29) (nw_ow ?_))
  refine ow_vals 2 (j := 10) [0, 3, 4, 5, 23, 24, 25] [(0, .string r21), (3, .string r23.1), (4, .string r23.2.1), (5, .bool r23.2.2), (23, .string (r25 ++ r27)), (24, .string r21), (25, .string r21)] rfl (by kernel_rfl) ?_
  obtain ⟨r30, h31, hF⟩ := bind_some hF
  refine ow_pw rfl (pw_call (F := [] ++ F0) rfl rfl rfl rfl rfl rfl rfl (by kernel_rfl) (perm_of_pulls [0] rfl) (c_pledge_Node_1 _ r21 r21 r30 h31) ?_)
  rintro _ _ ⟨rfl, rfl⟩
  refine nw_H (H' := [imm I] ++ F0) rfl (nw_ow ?_)
  obtain ⟨h32, hF⟩ := chk_some hF
  refine ow_pw rfl (pw_quiet (v := .string ((r25 ++ r27) ++ r30)) rfl rfl rfl rfl (q_concat rfl rfl rfl h32) (nw_ow ?_))
  obtain ⟨r33, h34, hF⟩ := bind_some hF
  refine ow_pw rfl (pw_call (F := [] ++ F0) rfl rfl rfl rfl rfl rfl rfl (by kernel_rfl) (perm_of_pulls [0] rfl) (c_pledge_None_1 _ r33 h34) ?_)
  rintro _ _ ⟨rfl, rfl⟩
  refine nw_H (H' := [imm I] ++ F0) rfl (nw_ow ?_)
  obtain ⟨h35, hF⟩ := chk_some hF
  refine ow_pw rfl (pw_quiet (v := .string (((r25 ++ r27) ++ r30) ++ r33)) rfl rfl rfl rfl (q_concat rfl rfl rfl h35) (nw_ow ?_))
  refine ow_vals 1 (j := 15) [0, 3, 4, 5, 29, 30] [(0, .string r21), (3, .string r23.1), (4, .string r23.2.1), (5, .bool r23.2.2), (29, .string (((r25 ++ r27) ++ r30) ++ r33)), (30, .string r21)] rfl (by kernel_rfl) ?_
  obtain ⟨r36, h37, hF⟩ := bind_some hF
  refine ow_pw rfl (pw_call (F := [] ++ F0) rfl rfl rfl rfl rfl rfl rfl (by kernel_rfl) (perm_of_pulls [0] rfl) (c_pledge_Key_1 _ r21 r36 h37) ?_)
  rintro _ _ ⟨rfl, rfl⟩
  refine nw_H (H' := [imm I] ++ F0) rfl (nw_ow ?_)
  obtain ⟨h38, hF⟩ := chk_some hF
  refine ow_pw rfl (pw_quiet (v := .string ((((r25 ++ r27) ++ r30) ++ r33) ++ r36)) rfl rfl rfl rfl (q_concat rfl rfl rfl h38) (nw_ow ?_))
  refine ow_vals 2 (j := 19) [0, 3, 4, 5, 32, 33, 34] [(0, .string r21), (3, .string r23.1), (4, .string r23.2.1), (5, .bool r23.2.2), (32, .string ((((r25 ++ r27) ++ r30) ++ r33) ++ r36)), (33, .string r21), (34, .string r21)] rfl (by kernel_rfl) ?_
  obtain ⟨r39, h40, hF⟩ := bind_some hF
  refine ow_pw rfl (pw_call (F := [] ++ F0) rfl rfl rfl rfl rfl rfl rfl (by kernel_rfl) (perm_of_pulls [0] rfl) (c_pledge_Salt_1 _ r21 r21 r39 h40) ?_)
  rintro _ _ ⟨rfl, rfl⟩
  refine nw_H (H' := [imm I] ++ F0) rfl (nw_ow ?_)
  obtain ⟨h41, hF⟩ := chk_some hF
  refine ow_pw rfl (pw_quiet (v := .string (((((r25 ++ r27) ++ r30) ++ r33) ++ r36) ++ r39)) rfl rfl rfl rfl (q_concat rfl rfl rfl h41) (nw_ow ?_))
  refine ow_vals 4 (j := 25) [0, 3, 4, 5, 36, 37, 38, 39, 40] [(0, .string r21), (3, .string r23.1), (4, .string r23.2.1), (5, .bool r23.2.2), (36, .string (((((r25 ++ r27) ++ r30) ++ r33) ++ r36) ++ r39)), (37, .string r21), (38, .string r21), (39, .string r21), (40, .string r21)] rfl (by kernel_rfl) ?_
  obtain ⟨r42, h43, hF⟩ := bind_some hF
  refine ow_pw rfl (pw_call (F := [] ++ F0) rfl rfl rfl rfl rfl rfl rfl (by kernel_rfl) (perm_of_pulls [0] rfl) (c_pledge_Shut_1 _ r21 r21 r21 r21 r42 h43) ?_)
  rintro _ _ ⟨rfl, rfl⟩
  refine nw_H (H' := [imm I] ++ F0) rfl (nw_ow ?_)
  obtain ⟨h44, hF⟩ := chk_some hF
  refine ow_pw rfl (pw_quiet (v := .string ((((((r25 ++ r27) ++ r30) ++ r33) ++ r36) ++ r39) ++ r42)) rfl rfl rfl rfl (q_concat rfl rfl rfl h44) (nw_ow ?_))
  refine ow_vals 1 (j := 28) [0, 4, 5, 42, 43] [(0, .string r21), (4, .string r23.2.1), (5, .bool r23.2.2), (42, .string ((((((r25 ++ r27) ++ r30) ++ r33) ++ r36) ++ r39) ++ r42)), (43, .string r23.1)] rfl (by kernel_rfl) ?_
  obtain ⟨h45, hF⟩ := chk_some hF
  refine ow_pw rfl (pw_quiet (v := .string (((((((r25 ++ r27) ++ r30) ++ r33) ++ r36) ++ r39) ++ r42) ++ r23.1)) rfl rfl rfl rfl (q_concat rfl rfl rfl h45) (nw_ow ?_))
  refine ow_vals 1 (j := 30) [0, 5, 44, 45] [(0, .string r21), (5, .bool r23.2.2), (44, .string (((((((r25 ++ r27) ++ r30) ++ r33) ++ r36) ++ r39) ++ r42) ++ r23.1)), (45, .string r23.2.1)] rfl (by kernel_rfl) ?_
  obtain ⟨h46, hF⟩ := chk_some hF
  refine ow_pw rfl (pw_quiet (v := .string ((((((((r25 ++ r27) ++ r30) ++ r33) ++ r36) ++ r39) ++ r42) ++ r23.1) ++ r23.2.1)) rfl rfl rfl rfl (q_concat rfl rfl rfl h46) (nw_ow ?_))
  refine ow_vals 2 (j := 33) [0, 5, 48] [(0, .string r21), (5, .bool r23.2.2), (48, .bool (seqB ((((((((r25 ++ r27) ++ r30) ++ r33) ++ r36) ++ r39) ++ r42) ++ r23.1) ++ r23.2.1) (ByteArray.mk #[])))] rfl (by kernel_rfl) ?_
  rcases if_some hF with ⟨h47, hF⟩ | ⟨h47, hF⟩
  · refine ow_slots (L' := [(0, .string r21), (5, .bool r23.2.2), (48, .bool true)]) (by rw [h47]) ?_
    refine ow_vals 4 (j := 37) [0, 52] [(0, .string r21), (52, .bool (!r23.2.2))] rfl (by kernel_rfl) ?_
    rcases if_some hF with ⟨h48, hF⟩ | ⟨h48, hF⟩
    · refine ow_slots (L' := [(0, .string r21), (52, .bool true)]) (by rw [h48]) ?_
      refine ow_vals 4 (j := 41) [0, 52, 53, 54, 55, 56] [(0, .string r21), (52, .bool true), (53, .string r21), (54, .string r21), (55, .string r21), (56, .string r21)] rfl (by kernel_rfl) ?_
      obtain ⟨r49, h50, hF⟩ := bind_some hF
      refine ow_pw rfl (pw_call (F := [] ++ F0) rfl rfl rfl rfl rfl rfl rfl (by kernel_rfl) (perm_of_pulls [0] rfl) (c_pledge_Slip_1 _ r21 r21 r21 r21 r49 h50) ?_)
      rintro _ _ ⟨rfl, rfl⟩
      refine nw_H (H' := [imm I] ++ F0) rfl (nw_ow ?_)
      refine ow_vals 2 (j := 44) [52, 57, 59] [(52, .bool true), (57, .agg #[.string r49.Name, .string r49.Pledge, .string r49.Cipher, .bool r49.Erased]), (59, .agg #[.string r21, .string (ByteArray.mk #[]), .string (ByteArray.mk #[]), .bool false])] rfl (by kernel_rfl) ?_
      refine ow_pw rfl (pw_quiet (v := .bool ((seqB r49.Name r21) && ((seqB r49.Pledge (ByteArray.mk #[])) && ((seqB r49.Cipher (ByteArray.mk #[])) && ((r49.Erased == false) && (true)))))) rfl rfl rfl rfl (q_eql_struct (b := ((seqB r49.Name r21) && ((seqB r49.Pledge (ByteArray.mk #[])) && ((seqB r49.Cipher (ByteArray.mk #[])) && ((r49.Erased == false) && (true)))))) rfl rfl rfl (by kernel_rfl) (by kernel_rfl) (by kernel_rfl) (by kernel_rfl)) (nw_ow ?_))
      refine ow_vals 2 (j := 47) [62] [(62, .bool ((seqB r49.Name r21) && ((seqB r49.Pledge (ByteArray.mk #[])) && ((seqB r49.Cipher (ByteArray.mk #[])) && ((r49.Erased == false) && (true))))))] rfl (by kernel_rfl) ?_
      rcases if_some hF with ⟨h51, hF⟩ | ⟨h51, hF⟩
      · refine ow_slots (L' := [(62, .bool true)]) (by rw [h51]) ?_
        obtain ⟨r52, h53, hF⟩ := bind_some hF
        refine ow_pw rfl (pw_call (F := [] ++ F0) rfl rfl rfl rfl rfl rfl rfl (by kernel_rfl) (perm_of_pulls [0] rfl) (c_law06_awake _ r52 h53) ?_)
        rintro _ _ ⟨rfl, rfl⟩
        refine nw_H (H' := [imm I] ++ F0) rfl (nw_ow ?_)
        refine ow_vals 2 (j := 50) [2] [(2, .bool r52)] rfl (by kernel_rfl) ?_
        refine ow_end rfl ?_
        refine ew_then ?_
        refine cw_ret ?_
        have hR := Option.some.inj hF
        subst hR
        exact fin1 (H1 := [imm I]) (fun w hs => sat_to [0] 0 rfl hs) rfl (rr_tmp rfl) ⟨rfl, rfl⟩
      · refine ow_slots (L' := [(62, .bool false)]) (by rw [h51]) ?_
        refine ow_vals 3 (j := 50) [2] [(2, .bool false)] rfl (by kernel_rfl) ?_
        refine ow_end rfl ?_
        refine ew_then ?_
        refine cw_ret ?_
        have hR := Option.some.inj hF
        subst hR
        exact fin1 (H1 := [imm I]) (fun w hs => sat_to [0] 0 rfl hs) rfl (rr_tmp rfl) ⟨rfl, rfl⟩
    · refine ow_slots (L' := [(0, .string r21), (52, .bool false)]) (by rw [h48]) ?_
      refine ow_vals 13 (j := 50) [2] [(2, .bool false)] rfl (by kernel_rfl) ?_
      refine ow_end rfl ?_
      refine ew_then ?_
      refine cw_ret ?_
      have hR := Option.some.inj hF
      subst hR
      exact fin1 (H1 := [imm I]) (fun w hs => sat_to [0] 0 rfl hs) rfl (rr_tmp rfl) ⟨rfl, rfl⟩
  · refine ow_slots (L' := [(0, .string r21), (5, .bool r23.2.2), (48, .bool false)]) (by rw [h47]) ?_
    refine ow_vals 17 (j := 50) [2] [(2, .bool false)] rfl (by kernel_rfl) ?_
    refine ow_end rfl ?_
    refine ew_then ?_
    refine cw_ret ?_
    have hR := Option.some.inj hF
    subst hR
    exact fin1 (H1 := [imm I]) (fun w hs => sat_to [0] 0 rfl hs) rfl (rr_tmp rfl) ⟨rfl, rfl⟩

end Go.Proofs.Ytfjnafgigfapbaa
