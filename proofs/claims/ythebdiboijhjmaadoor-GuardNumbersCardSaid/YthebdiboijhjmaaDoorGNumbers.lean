/- What the functions compute, and that the code computes it: printed by a program of this claim (wip/tools), for the group Numbers. -/
import Derived.Test.YthebdiboijhjmaaDoorGGuardb
namespace Go.Proofs.YthebdiboijhjmaaDoor
set_option linter.all false
open Go Go.RowKit Go.Fw
set_option linter.unusedVariables false

def F.law10_GuardNumbers.l2 (s24 : ByteArray) (x27 : Int) (x28 : Int) : Option ((Int × Int) ⊕ (Int)) :=
  if decide (x28 < (s24.size : Int)) then (chk (0 ≤ x28 ∧ x28 < (s24.size : Int)) (some (.inl (ior .i64 (IntKind.i64.wrap (x27 * 2 ^ 8)) (IntKind.i64.wrap (bt s24 x28)), IntKind.i64.wrap (x28 + 1))))) else (some (.inr (x27)))
def F.law10_GuardNumbers.r3 (x0 : Int) (s24 : ByteArray) (x31 : Int) : Option (Bool) :=
  Option.bind (F.guard_Eight x0) (fun (r32 : ByteArray) => Option.bind (F.law10_eight x0) (fun (r34 : ByteArray) => if seqB r32 r34 then (Option.bind (F.guard_Eight x0) (fun (r37 : ByteArray) => Option.bind (F.guard_Number r37) (fun (r39 : Int) => if r39 == x0 then (Option.bind (F.guard_Number s24) (fun (r42 : Int) => if r42 == x31 then (Option.bind (F.law10_awake) (fun (r45 : Bool) => some (r45))) else (some (false)))) else (some (false))))) else (some (false))))
def F.law10_GuardNumbers.r1 (x0 : Int) (s24 : ByteArray) : Option (Bool) :=
  Option.bind (iter (fun x => F.law10_GuardNumbers.l2 s24 x.1 x.2) FUEL (0, 0)) (fun x => F.law10_GuardNumbers.r3 x0 s24 x)
def F.law10_GuardNumbers (x0 : Int) (x1 : ByteArray) : Option Bool :=
  Option.bind (if decide ((x1.size : Int) > 20) then (chk (0 ≤ (0 : Int) ∧ (0 : Int) ≤ (20 : Int) ∧ (20 : Int) ≤ (x1.size : Int)) (some ((x1.extract (0 : Int).toNat (20 : Int).toNat)))) else (some (x1))) (fun x => F.law10_GuardNumbers.r1 x0 x)
set_option maxRecDepth 100000 in
set_option maxHeartbeats 4000000 in
theorem c_law10_GuardNumbers (I : Hl) (x0 : Int) (x1 : ByteArray) (res : Bool) (hF : F.law10_GuardNumbers x0 x1 = some res) : Tr Tryd.prog 3 [.int .i64 x0, .string x1] [imm I] (fun r H' => r = .bool res ∧ H' = [imm I]) := by
  unfold F.law10_GuardNumbers at hF
  refine tr_of_cw (fn := Tryd.f3) Tryd.func3 rfl (Nat.le_of_ble_eq_true rfl) 46 rfl fun F0 w0 => ?_
  refine cw_keep [0, 1] (L' := [(0, .int .i64 x0), (1, .string x1)]) rfl ?_
  refine cw_state (S' := SAT w0 ([imm I] ++ F0)) (fun w hs => hs) ?_
  refine cw_seq ?_
  refine cw_region ?_
  refine ow_vals 1 (j := 1) [0, 1] [(0, .int .i64 x0), (1, .string x1)] rfl (by kernel_rfl) ?_
  refine ow_end rfl ?_
  refine ew_then ?_
  obtain ⟨v21, hF, hK21⟩ := bind_some hF
  refine cw_mid (fun a w => ∃ (s24 : ByteArray), s24 = v21 ∧ Fr 46 [(0, .int .i64 x0), (1, .string s24)] a ∧ SAT w0 ([imm I] ++ F0) w) ?_ ?_
  · refine cw_seq ?_
    refine cw_region ?_
    refine ow_vals 3 (j := 3) [0, 1, 9] [(0, .int .i64 x0), (1, .string x1), (9, .bool (decide ((x1.size : Int) > 20)))] rfl (by kernel_rfl) ?_
    refine ow_end rfl ?_
    refine ew_then ?_
    rcases if_some hF with ⟨h22, hF⟩ | ⟨h22, hF⟩
    · refine cw_cond_t rfl rfl h22 ?_
      refine cw_region ?_
      refine ow_vals 1 (j := 1) [0, 10] [(0, .int .i64 x0), (10, .string x1)] rfl (by kernel_rfl) ?_
      obtain ⟨h23, hF⟩ := chk_some hF
      refine ow_pw rfl (pw_quiet (v := .string (x1.extract (0 : Int).toNat (20 : Int).toNat)) rfl rfl rfl rfl (q_slice_str rfl (by kernel_rfl) rfl rfl rfl h23.1 h23.2.1 h23.2.2) (nw_ow ?_))
      refine ow_vals 1 (j := 3) [0, 1] [(0, .int .i64 x0), (1, .string (x1.extract (0 : Int).toNat (20 : Int).toNat))] rfl (by kernel_rfl) ?_
      refine ow_end rfl ?_
      have hR := Option.some.inj hF
      exact fun a w hf hs => ⟨x1.extract (0 : Int).toNat (20 : Int).toNat, hR, hf.keep [0, 1], sat_to [0] 0 rfl hs⟩
    · refine cw_cond_f rfl rfl h22 ?_
      refine cw_skip ?_
      have hR := Option.some.inj hF
      exact fun a w hf hs => ⟨x1, hR, hf.keep [0, 1], sat_to [0] 0 rfl hs⟩
  · rintro a w ⟨s24, hv, hf, hs⟩
    subst hv
    replace hF := hK21
    clear hK21
    try dsimp only at hF
    revert a w
    show CW _ _ _ 46 [(0, .int .i64 x0), (1, .string s24)] (SAT w0 ([imm I] ++ F0))
    unfold F.law10_GuardNumbers.r1 at hF
    refine cw_seq ?_
    refine cw_region ?_
    refine ow_vals 1 (j := 1) [0, 1, 5] [(0, .int .i64 x0), (1, .string s24), (5, .int .i64 0)] rfl (by kernel_rfl) ?_
    refine ow_end rfl ?_
    refine ew_then ?_
    obtain ⟨v25, hF, hK25⟩ := bind_some hF
    refine cw_mid (fun a w => ∃ (x31 : Int), x31 = v25 ∧ Fr 46 [(0, .int .i64 x0), (1, .string s24), (5, .int .i64 x31)] a ∧ SAT w0 ([imm I] ++ F0) w) ?_ ?_
    · refine cw_seq ?_
      refine cw_region ?_
      refine ow_vals 1 (j := 1) [0, 1, 5, 6] [(0, .int .i64 x0), (1, .string s24), (5, .int .i64 0), (6, .int .i64 0)] rfl (by kernel_rfl) ?_
      refine ow_end rfl ?_
      refine ew_then ?_
      refine cw_block ?_
      refine fun a w hf hs => wp_rounds (fun k a w => ∃ (x27 : Int), ∃ (x28 : Int), iter (fun x => F.law10_GuardNumbers.l2 s24 x.1 x.2) k (x27, x28) = some v25 ∧ Fr 46 [(0, .int .i64 x0), (1, .string s24), (5, .int .i64 x27), (6, .int .i64 x28)] a ∧ SAT w0 ([imm I] ++ F0) w) ?_ FUEL a w ⟨0, 0, hF, hf.keep [0, 1, 5, 6], sat_to [0] 0 rfl hs⟩
      clear hf hs
      clear a w hF
      rintro k a w ⟨x27, x28, hF2, hf, hs⟩
      obtain ⟨k, r26, rfl, hF, hL26⟩ := iter_some hF2
      clear hF2
      revert a w
      show CW _ _ _ 46 [(0, .int .i64 x0), (1, .string s24), (5, .int .i64 x27), (6, .int .i64 x28)] (SAT w0 ([imm I] ++ F0))
      try dsimp only at hF
      unfold F.law10_GuardNumbers.l2 at hF
      refine cw_seq ?_
      refine cw_seq ?_
      refine cw_region ?_
      refine ow_vals 4 (j := 4) [0, 1, 5, 6, 15] [(0, .int .i64 x0), (1, .string s24), (5, .int .i64 x27), (6, .int .i64 x28), (15, .bool (decide (x28 < (s24.size : Int))))] rfl (by kernel_rfl) ?_
      refine ow_end rfl ?_
      refine ew_then ?_
      rcases if_some hF with ⟨h29, hF⟩ | ⟨h29, hF⟩
      · refine cw_cond_t rfl rfl h29 ?_
        refine cw_skip ?_
        refine ew_then ?_
        refine cw_seq ?_
        refine cw_block ?_
        refine cw_region ?_
        refine ow_vals 4 (j := 4) [0, 1, 6, 19, 20, 21] [(0, .int .i64 x0), (1, .string s24), (6, .int .i64 x28), (19, .int .i64 (IntKind.i64.wrap (x27 * 2 ^ 8))), (20, .string s24), (21, .int .i64 x28)] rfl (by kernel_rfl) ?_
        obtain ⟨h30, hF⟩ := chk_some hF
        refine ow_pw rfl (pw_quiet (v := .int .u8 (bt s24 x28)) rfl rfl rfl rfl (q_index_str rfl (by kernel_rfl) rfl rfl h30.1 h30.2) (nw_ow ?_))
        refine ow_vals 3 (j := 8) [0, 1, 5, 6] [(0, .int .i64 x0), (1, .string s24), (5, .int .i64 (ior .i64 (IntKind.i64.wrap (x27 * 2 ^ 8)) (IntKind.i64.wrap (bt s24 x28)))), (6, .int .i64 x28)] rfl (by kernel_rfl) ?_
        refine ow_end rfl ?_
        refine ew_blk ?_
        refine ew_then ?_
        refine cw_region ?_
        refine ow_vals 3 (j := 3) [0, 1, 5, 6] [(0, .int .i64 x0), (1, .string s24), (5, .int .i64 (ior .i64 (IntKind.i64.wrap (x27 * 2 ^ 8)) (IntKind.i64.wrap (bt s24 x28)))), (6, .int .i64 (IntKind.i64.wrap (x28 + 1)))] rfl (by kernel_rfl) ?_
        refine ow_end rfl ?_
        have hR := Option.some.inj hF
        subst hR
        have hR := hL26
        try dsimp only at hR
        exact fun a w hf hs => ⟨k, Nat.lt_succ_self k, ior .i64 (IntKind.i64.wrap (x27 * 2 ^ 8)) (IntKind.i64.wrap (bt s24 x28)), IntKind.i64.wrap (x28 + 1), hR, hf.keep [0, 1, 5, 6], sat_to [0] 0 rfl hs⟩
      · refine cw_cond_f rfl rfl h29 ?_
        refine cw_exit ?_
        refine ew_then_exit ?_
        refine ew_then_exit ?_
        refine ew_blk_exit ?_
        have hR := Option.some.inj hF
        subst hR
        have hR := hL26
        try dsimp only at hR
        exact fun a w hf hs => ⟨x27, hR, hf.keep [0, 1, 5], sat_to [0] 0 rfl hs⟩
    · rintro a w ⟨x31, hv, hf, hs⟩
      subst hv
      replace hF := hK25
      clear hK25
      try dsimp only at hF
      revert a w
      show CW _ _ _ 46 [(0, .int .i64 x0), (1, .string s24), (5, .int .i64 x31)] (SAT w0 ([imm I] ++ F0))
      unfold F.law10_GuardNumbers.r3 at hF
      refine cw_seq ?_
      refine cw_region ?_
      refine ow_vals 1 (j := 1) [0, 1, 5, 25] [(0, .int .i64 x0), (1, .string s24), (5, .int .i64 x31), (25, .int .i64 x0)] rfl (by kernel_rfl) ?_
      obtain ⟨r32, h33, hF⟩ := bind_some hF
      refine ow_pw rfl (pw_call (F := [] ++ F0) rfl rfl rfl rfl rfl rfl rfl (by kernel_rfl) (perm_of_pulls [0] rfl) (c_guard_Eight _ x0 r32 h33) ?_)
      rintro _ _ ⟨rfl, rfl⟩
      refine nw_H (H' := [imm I] ++ F0) rfl (nw_ow ?_)
      refine ow_vals 1 (j := 3) [0, 1, 5, 26, 27] [(0, .int .i64 x0), (1, .string s24), (5, .int .i64 x31), (26, .string r32), (27, .int .i64 x0)] rfl (by kernel_rfl) ?_
      obtain ⟨r34, h35, hF⟩ := bind_some hF
      refine ow_pw rfl (pw_call (F := [] ++ F0) rfl rfl rfl rfl rfl rfl rfl (by kernel_rfl) (perm_of_pulls [0] rfl) (c_law10_eight _ x0 r34 h35) ?_)
      rintro _ _ ⟨rfl, rfl⟩
      refine nw_H (H' := [imm I] ++ F0) rfl (nw_ow ?_)
      refine ow_vals 2 (j := 6) [0, 1, 5, 30] [(0, .int .i64 x0), (1, .string s24), (5, .int .i64 x31), (30, .bool (seqB r32 r34))] rfl (by kernel_rfl) ?_
      rcases if_some hF with ⟨h36, hF⟩ | ⟨h36, hF⟩
      · refine ow_slots (L' := [(0, .int .i64 x0), (1, .string s24), (5, .int .i64 x31), (30, .bool true)]) (by rw [h36]) ?_
        refine ow_vals 1 (j := 7) [0, 1, 5, 30, 31] [(0, .int .i64 x0), (1, .string s24), (5, .int .i64 x31), (30, .bool true), (31, .int .i64 x0)] rfl (by kernel_rfl) ?_
        obtain ⟨r37, h38, hF⟩ := bind_some hF
        refine ow_pw rfl (pw_call (F := [] ++ F0) rfl rfl rfl rfl rfl rfl rfl (by kernel_rfl) (perm_of_pulls [0] rfl) (c_guard_Eight _ x0 r37 h38) ?_)
        rintro _ _ ⟨rfl, rfl⟩
        refine nw_H (H' := [imm I] ++ F0) rfl (nw_ow ?_)
        obtain ⟨r39, h40, hF⟩ := bind_some hF
        refine ow_pw rfl (pw_call (F := [] ++ F0) rfl rfl rfl rfl rfl rfl rfl (by kernel_rfl) (perm_of_pulls [0] rfl) (c_guard_Number _ r37 r39 h40) ?_)
        rintro _ _ ⟨rfl, rfl⟩
        refine nw_H (H' := [imm I] ++ F0) rfl (nw_ow ?_)
        refine ow_vals 4 (j := 13) [1, 5, 37] [(1, .string s24), (5, .int .i64 x31), (37, .bool (r39 == x0))] rfl (by kernel_rfl) ?_
        rcases if_some hF with ⟨h41, hF⟩ | ⟨h41, hF⟩
        · refine ow_slots (L' := [(1, .string s24), (5, .int .i64 x31), (37, .bool true)]) (by rw [h41]) ?_
          refine ow_vals 1 (j := 14) [5, 37, 38] [(5, .int .i64 x31), (37, .bool true), (38, .string s24)] rfl (by kernel_rfl) ?_
          obtain ⟨r42, h43, hF⟩ := bind_some hF
          refine ow_pw rfl (pw_call (F := [] ++ F0) rfl rfl rfl rfl rfl rfl rfl (by kernel_rfl) (perm_of_pulls [0] rfl) (c_guard_Number _ s24 r42 h43) ?_)
          rintro _ _ ⟨rfl, rfl⟩
          refine nw_H (H' := [imm I] ++ F0) rfl (nw_ow ?_)
          refine ow_vals 4 (j := 19) [43] [(43, .bool (r42 == x31))] rfl (by kernel_rfl) ?_
          rcases if_some hF with ⟨h44, hF⟩ | ⟨h44, hF⟩
          · refine ow_slots (L' := [(43, .bool true)]) (by rw [h44]) ?_
            obtain ⟨r45, h46, hF⟩ := bind_some hF
            refine ow_pw rfl (pw_call (F := [] ++ F0) rfl rfl rfl rfl rfl rfl rfl (by kernel_rfl) (perm_of_pulls [0] rfl) (c_law10_awake _ r45 h46) ?_)
            rintro _ _ ⟨rfl, rfl⟩
            refine nw_H (H' := [imm I] ++ F0) rfl (nw_ow ?_)
            refine ow_vals 2 (j := 22) [4] [(4, .bool r45)] rfl (by kernel_rfl) ?_
            refine ow_end rfl ?_
            refine ew_then ?_
            refine cw_ret ?_
            have hR := Option.some.inj hF
            subst hR
            exact fin1 (H1 := [imm I]) (fun w hs => sat_to [0] 0 rfl hs) rfl (rr_tmp rfl) ⟨rfl, rfl⟩
          · refine ow_slots (L' := [(43, .bool false)]) (by rw [h44]) ?_
            refine ow_vals 3 (j := 22) [4] [(4, .bool false)] rfl (by kernel_rfl) ?_
            refine ow_end rfl ?_
            refine ew_then ?_
            refine cw_ret ?_
            have hR := Option.some.inj hF
            subst hR
            exact fin1 (H1 := [imm I]) (fun w hs => sat_to [0] 0 rfl hs) rfl (rr_tmp rfl) ⟨rfl, rfl⟩
        · refine ow_slots (L' := [(1, .string s24), (5, .int .i64 x31), (37, .bool false)]) (by rw [h41]) ?_
          refine ow_vals 9 (j := 22) [4] [(4, .bool false)] rfl (by kernel_rfl) ?_
          refine ow_end rfl ?_
          refine ew_then ?_
          refine cw_ret ?_
          have hR := Option.some.inj hF
          subst hR
          exact fin1 (H1 := [imm I]) (fun w hs => sat_to [0] 0 rfl hs) rfl (rr_tmp rfl) ⟨rfl, rfl⟩
      · refine ow_slots (L' := [(0, .int .i64 x0), (1, .string s24), (5, .int .i64 x31), (30, .bool false)]) (by rw [h36]) ?_
        refine ow_vals 16 (j := 22) [4] [(4, .bool false)] rfl (by kernel_rfl) ?_
        refine ow_end rfl ?_
        refine ew_then ?_
        refine cw_ret ?_
        have hR := Option.some.inj hF
        subst hR
        exact fin1 (H1 := [imm I]) (fun w hs => sat_to [0] 0 rfl hs) rfl (rr_tmp rfl) ⟨rfl, rfl⟩

end Go.Proofs.YthebdiboijhjmaaDoor
