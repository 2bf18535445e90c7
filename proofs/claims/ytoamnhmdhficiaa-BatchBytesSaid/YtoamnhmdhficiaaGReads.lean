/- What the functions compute, and that the code computes it: printed by a program of this claim (wip/tools), for the group Reads. -/
import Derived.Test.YtoamnhmdhficiaaGOct
namespace Go.Proofs.Ytoamnhmdhficiaa
set_option linter.all false
open Go Go.RowKit Go.Fw
set_option linter.unusedVariables false

def F.law30_BatchReads.r2 (s24 : ByteArray) (r25 : batch_Proof × Int) : Option (Bool) :=
  Option.bind (F.law30_right r25.1) (fun (r35 : Bool) => if r35 then (Option.bind (F.law30_bytes r25.1) (fun (r38 : ByteArray) => if seqB r38 s24 then (Option.bind (F.law30_awake) (fun (r41 : Bool) => some (r41))) else (some (false)))) else (some (false)))
def F.law30_BatchReads.r1 (s24 : ByteArray) : Option (Bool) :=
  Option.bind (F.batch_Read s24) (fun (r25 : batch_Proof × Int) => thru (if r25.2 != 0 then (if r25.1.Size == 0 then (if (IntKind.i64.wrap ((IntKind.i64.wrap ((r25.1.Picks.length : Int) + (r25.1.Leaf.length : Int))) + (r25.1.Nodes.length : Int))) == 0 then (Option.bind (F.law30_awake) (fun (r33 : Bool) => some (.inr (r33)))) else (some (.inr (false)))) else (some (.inr (false)))) else (some (.inl ()))) (fun x => F.law30_BatchReads.r2 s24 r25))
def F.law30_BatchReads (x0 : ByteArray) : Option Bool :=
  Option.bind (if decide ((x0.size : Int) > 4000) then (chk (0 ≤ (0 : Int) ∧ (0 : Int) ≤ (4000 : Int) ∧ (4000 : Int) ≤ (x0.size : Int)) (some ((x0.extract (0 : Int).toNat (4000 : Int).toNat)))) else (some (x0))) (fun x => F.law30_BatchReads.r1 x)
set_option maxRecDepth 100000 in
set_option maxHeartbeats 4000000 in
theorem c_law30_BatchReads (I : Hl) (x0 : ByteArray) (res : Bool) (hF : F.law30_BatchReads x0 = some res) : Tr Try.prog 6 [.string x0] [imm I] (fun r H' => ∃ (J : Hl), r = .bool res ∧ H' = [imm J] ∧ Hl.sub I J) := by
  unfold F.law30_BatchReads at hF
  refine tr_of_cw (fn := Try.f6) Try.func6 rfl (Nat.le_of_ble_eq_true rfl) 48 rfl fun F0 w0 => ?_
  refine cw_keep [0] (L' := [(0, .string x0)]) rfl ?_
  refine cw_state (S' := SAT w0 ([imm I] ++ F0)) (fun w hs => hs) ?_
  refine cw_seq ?_
  refine cw_region ?_
  refine ow_vals 1 (j := 1) [0] [(0, .string x0)] rfl (by kernel_rfl) ?_
  refine ow_end rfl ?_
  refine ew_then ?_
  obtain ⟨v21, hF, hK21⟩ := bind_some hF
  refine cw_mid (fun a w => ∃ (s24 : ByteArray), s24 = v21 ∧ Fr 48 [(0, .string s24)] a ∧ SAT w0 ([imm I] ++ F0) w) ?_ ?_
  · refine cw_seq ?_
    refine cw_region ?_
    refine ow_vals 3 (j := 3) [0, 7] [(0, .string x0), (7, .bool (decide ((x0.size : Int) > 4000)))] rfl (by kernel_rfl) ?_
    refine ow_end rfl ?_
    refine ew_then ?_
    rcases if_some hF with ⟨h22, hF⟩ | ⟨h22, hF⟩
    · refine cw_cond_t rfl rfl h22 ?_
      refine cw_region ?_
      refine ow_vals 1 (j := 1) [8] [(8, .string x0)] rfl (by kernel_rfl) ?_
      obtain ⟨h23, hF⟩ := chk_some hF
      refine ow_pw rfl (pw_quiet (v := .string (x0.extract (0 : Int).toNat (4000 : Int).toNat)) rfl rfl rfl rfl (q_slice_str rfl (by kernel_rfl) rfl rfl rfl h23.1 h23.2.1 h23.2.2) (nw_ow ?_))
      refine ow_vals 1 (j := 3) [0] [(0, .string (x0.extract (0 : Int).toNat (4000 : Int).toNat))] rfl (by kernel_rfl) ?_
      refine ow_end rfl ?_
      have hR := Option.some.inj hF
      exact fun a w hf hs => ⟨x0.extract (0 : Int).toNat (4000 : Int).toNat, hR, hf.keep [0], sat_to [0] 0 rfl hs⟩
    · refine cw_cond_f rfl rfl h22 ?_
      refine cw_skip ?_
      have hR := Option.some.inj hF
      exact fun a w hf hs => ⟨x0, hR, hf.keep [0], sat_to [0] 0 rfl hs⟩
  · rintro a w ⟨s24, hv, hf, hs⟩
    subst hv
    replace hF := hK21
    clear hK21
    try dsimp only at hF
    revert a w
    show CW _ _ _ 48 [(0, .string s24)] (SAT w0 ([imm I] ++ F0))
    unfold F.law30_BatchReads.r1 at hF
    refine cw_seq ?_
    refine cw_region ?_
    refine ow_vals 1 (j := 1) [0, 11] [(0, .string s24), (11, .string s24)] rfl (by kernel_rfl) ?_
    obtain ⟨r25, h26, hF⟩ := bind_some hF
    refine ow_pw rfl (pw_call (F := [] ++ F0) rfl rfl rfl rfl rfl rfl rfl (by kernel_rfl) (perm_of_pulls [0] rfl) (c_batch_Read _ s24 r25 h26) ?_)
    rintro _ _ ⟨r25_J, r25_p1, r25_c2, r25_p4, r25_c5, r25_p7, r25_c8, rfl, rfl, r25_hJ, r25_h3, r25_h6, r25_h9⟩
    refine nw_H (H' := [imm r25_J] ++ F0) rfl (nw_ow ?_)
    refine ow_vals 3 (j := 5) [0, 13, 14] [(0, .string s24), (13, .agg #[.int .i64 r25.1.Size, .slice r25_p1 r25.1.Picks.length r25_c2, .slice r25_p4 r25.1.Leaf.length r25_c5, .slice r25_p7 r25.1.Nodes.length r25_c8]), (14, .int .i64 r25.2)] rfl (by kernel_rfl) ?_
    refine ow_pw rfl (pw_alloc (cs := #[.int .i64 0, .slice none 0 0, .slice none 0 0, .slice none 0 0]) rfl rfl rfl rfl rfl (by kernel_rfl) fun b27 => nw_ow ?_)
    refine ow_pw rfl (pw_store 0 #[.int .i64 r25.1.Size, .slice r25_p1 r25.1.Picks.length r25_c2, .slice r25_p4 r25.1.Leaf.length r25_c5, .slice r25_p7 r25.1.Nodes.length r25_c8] rfl rfl rfl rfl rfl rfl rfl (by kernel_rfl) (nw_H (H' := [pt b27 #[.int .i64 r25.1.Size, .slice r25_p1 r25.1.Picks.length r25_c2, .slice r25_p4 r25.1.Leaf.length r25_c5, .slice r25_p7 r25.1.Nodes.length r25_c8] 25, imm r25_J] ++ F0) rfl (nw_ow ?_)))
    refine ow_vals 1 (j := 8) [0, 3, 4] [(0, .string s24), (3, .pointer (some ⟨b27, 0, none⟩)), (4, .int .i64 r25.2)] rfl (by kernel_rfl) ?_
    refine ow_end rfl ?_
    refine ew_then ?_
    obtain ⟨v29, hF, hK29⟩ := thru_some hF
    refine cw_mid (fun a w => .inl () = v29 ∧ Fr 48 [(0, .string s24), (3, .pointer (some ⟨b27, 0, none⟩))] a ∧ SAT w0 ([imm r25_J, pt b27 #[.int .i64 r25.1.Size, .slice r25_p1 r25.1.Picks.length r25_c2, .slice r25_p4 r25.1.Leaf.length r25_c5, .slice r25_p7 r25.1.Nodes.length r25_c8] 25] ++ F0) w) ?_ ?_
    · refine cw_seq ?_
      refine cw_region ?_
      refine ow_vals 2 (j := 2) [0, 3, 16] [(0, .string s24), (3, .pointer (some ⟨b27, 0, none⟩)), (16, .bool (r25.2 != 0))] rfl (by kernel_rfl) ?_
      refine ow_end rfl ?_
      refine ew_then ?_
      rcases if_some hF with ⟨h30, hF⟩ | ⟨h30, hF⟩
      · refine cw_cond_t rfl rfl h30 ?_
        refine cw_seq ?_
        refine cw_region ?_
        refine ow_vals 1 (j := 1) [3, 17] [(3, .pointer (some ⟨b27, 0, none⟩)), (17, .pointer (some ⟨b27, 0, none⟩))] rfl (by kernel_rfl) ?_
        refine ow_pw rfl (pw_quiet (v := .int .i64 r25.1.Size) rfl rfl rfl rfl (q_load 0 rfl rfl rfl (by kernel_rfl)) (nw_ow ?_))
        refine ow_vals 2 (j := 4) [3, 20] [(3, .pointer (some ⟨b27, 0, none⟩)), (20, .bool (r25.1.Size == 0))] rfl (by kernel_rfl) ?_
        rcases if_some hF with ⟨h31, hF⟩ | ⟨h31, hF⟩
        · refine ow_slots (L' := [(3, .pointer (some ⟨b27, 0, none⟩)), (20, .bool true)]) (by rw [h31]) ?_
          refine ow_vals 1 (j := 5) [3, 20, 21] [(3, .pointer (some ⟨b27, 0, none⟩)), (20, .bool true), (21, .pointer (some ⟨b27, 1, none⟩))] rfl (by kernel_rfl) ?_
          refine ow_pw rfl (pw_quiet (v := .slice r25_p1 r25.1.Picks.length r25_c2) rfl rfl rfl rfl (q_load 0 rfl rfl rfl (by kernel_rfl)) (nw_ow ?_))
          refine ow_vals 2 (j := 8) [3, 20, 23, 24] [(3, .pointer (some ⟨b27, 0, none⟩)), (20, .bool true), (23, .int .i64 (r25.1.Picks.length : Int)), (24, .pointer (some ⟨b27, 2, none⟩))] rfl (by kernel_rfl) ?_
          refine ow_pw rfl (pw_quiet (v := .slice r25_p4 r25.1.Leaf.length r25_c5) rfl rfl rfl rfl (q_load 0 rfl rfl rfl (by kernel_rfl)) (nw_ow ?_))
          refine ow_vals 3 (j := 12) [20, 27, 28] [(20, .bool true), (27, .int .i64 (IntKind.i64.wrap ((r25.1.Picks.length : Int) + (r25.1.Leaf.length : Int)))), (28, .pointer (some ⟨b27, 3, none⟩))] rfl (by kernel_rfl) ?_
          refine ow_pw rfl (pw_quiet (v := .slice r25_p7 r25.1.Nodes.length r25_c8) rfl rfl rfl rfl (q_load 0 rfl rfl rfl (by kernel_rfl)) (nw_ow ?_))
          refine ow_vals 5 (j := 18) [34] [(34, .bool ((IntKind.i64.wrap ((IntKind.i64.wrap ((r25.1.Picks.length : Int) + (r25.1.Leaf.length : Int))) + (r25.1.Nodes.length : Int))) == 0))] rfl (by kernel_rfl) ?_
          rcases if_some hF with ⟨h32, hF⟩ | ⟨h32, hF⟩
          · refine ow_slots (L' := [(34, .bool true)]) (by rw [h32]) ?_
            obtain ⟨r33, h34, hF⟩ := bind_some hF
            refine ow_pw rfl (pw_call (F := [pt b27 #[.int .i64 r25.1.Size, .slice r25_p1 r25.1.Picks.length r25_c2, .slice r25_p4 r25.1.Leaf.length r25_c5, .slice r25_p7 r25.1.Nodes.length r25_c8] 25] ++ F0) rfl rfl rfl rfl rfl rfl rfl (by kernel_rfl) (perm_of_pulls [1] rfl) (c_law30_awake _ r33 h34) ?_)
            rintro _ _ ⟨r33_J, rfl, rfl, r33_hJ⟩
            refine nw_H (H' := [imm r33_J, pt b27 #[.int .i64 r25.1.Size, .slice r25_p1 r25.1.Picks.length r25_c2, .slice r25_p4 r25.1.Leaf.length r25_c5, .slice r25_p7 r25.1.Nodes.length r25_c8] 25] ++ F0) rfl (nw_ow ?_)
            have r25_h3 := ro.sub r33_hJ r25_h3
            have r25_h6 := ro.sub r33_hJ r25_h6
            have r25_h9 := ro.sub r33_hJ r25_h9
            refine ow_vals 2 (j := 21) [2] [(2, .bool r33)] rfl (by kernel_rfl) ?_
            refine ow_end rfl ?_
            refine ew_then ?_
            refine cw_ret ?_
            refine ew_then_ret ?_
            have hR := Option.some.inj hF
            subst hR
            have hR := hK29
            try dsimp only [Thru] at hR
            subst hR
            exact fin1 (H1 := [imm r33_J]) (fun w hs => sat_to [1, 0] 1 rfl hs) rfl (rr_tmp rfl) ⟨r33_J, rfl, rfl, (Hl.sub_trans r25_hJ r33_hJ)⟩
          · refine ow_slots (L' := [(34, .bool false)]) (by rw [h32]) ?_
            refine ow_vals 3 (j := 21) [2] [(2, .bool false)] rfl (by kernel_rfl) ?_
            refine ow_end rfl ?_
            refine ew_then ?_
            refine cw_ret ?_
            refine ew_then_ret ?_
            have hR := Option.some.inj hF
            subst hR
            have hR := hK29
            try dsimp only [Thru] at hR
            subst hR
            exact fin1 (H1 := [imm r25_J]) (fun w hs => sat_to [0, 0] 1 rfl hs) rfl (rr_tmp rfl) ⟨r25_J, rfl, rfl, r25_hJ⟩
        · refine ow_slots (L' := [(3, .pointer (some ⟨b27, 0, none⟩)), (20, .bool false)]) (by rw [h31]) ?_
          refine ow_vals 17 (j := 21) [2] [(2, .bool false)] rfl (by kernel_rfl) ?_
          refine ow_end rfl ?_
          refine ew_then ?_
          refine cw_ret ?_
          refine ew_then_ret ?_
          have hR := Option.some.inj hF
          subst hR
          have hR := hK29
          try dsimp only [Thru] at hR
          subst hR
          exact fin1 (H1 := [imm r25_J]) (fun w hs => sat_to [0, 0] 1 rfl hs) rfl (rr_tmp rfl) ⟨r25_J, rfl, rfl, r25_hJ⟩
      · refine cw_cond_f rfl rfl h30 ?_
        refine cw_skip ?_
        have hR := Option.some.inj hF
        exact fun a w hf hs => ⟨hR, hf.keep [0, 3], sat_to [1, 0] 0 rfl hs⟩
    · rintro a w ⟨hv, hf, hs⟩
      subst hv
      replace hF := hK29
      clear hK29
      try dsimp only [Thru] at hF
      revert a w
      show CW _ _ _ 48 [(0, .string s24), (3, .pointer (some ⟨b27, 0, none⟩))] (SAT w0 ([imm r25_J, pt b27 #[.int .i64 r25.1.Size, .slice r25_p1 r25.1.Picks.length r25_c2, .slice r25_p4 r25.1.Leaf.length r25_c5, .slice r25_p7 r25.1.Nodes.length r25_c8] 25] ++ F0))
      unfold F.law30_BatchReads.r2 at hF
      refine cw_seq ?_
      refine cw_region ?_
      refine ow_pw rfl (pw_quiet (v := .agg #[.int .i64 r25.1.Size, .slice r25_p1 r25.1.Picks.length r25_c2, .slice r25_p4 r25.1.Leaf.length r25_c5, .slice r25_p7 r25.1.Nodes.length r25_c8]) rfl rfl rfl rfl (q_load 1 rfl rfl rfl (by kernel_rfl)) (nw_ow ?_))
      obtain ⟨r35, h36, hF⟩ := bind_some hF
      refine ow_pw rfl (pw_call (F := [pt b27 #[.int .i64 r25.1.Size, .slice r25_p1 r25.1.Picks.length r25_c2, .slice r25_p4 r25.1.Leaf.length r25_c5, .slice r25_p7 r25.1.Nodes.length r25_c8] 25] ++ F0) rfl rfl rfl rfl rfl rfl rfl (by kernel_rfl) (perm_of_pulls [0] rfl) (c_law30_right _ r25.1 r25_p1 r25_c2 r25_p4 r25_c5 r25_p7 r25_c8 r35 h36 r25_h3 r25_h6 r25_h9) ?_)
      rintro _ _ ⟨rfl, rfl⟩
      refine nw_H (H' := [imm r25_J, pt b27 #[.int .i64 r25.1.Size, .slice r25_p1 r25.1.Picks.length r25_c2, .slice r25_p4 r25.1.Leaf.length r25_c5, .slice r25_p7 r25.1.Nodes.length r25_c8] 25] ++ F0) rfl (nw_ow ?_)
      refine ow_vals 1 (j := 3) [0, 3, 39] [(0, .string s24), (3, .pointer (some ⟨b27, 0, none⟩)), (39, .bool r35)] rfl (by kernel_rfl) ?_
      rcases if_some hF with ⟨h37, hF⟩ | ⟨h37, hF⟩
      · refine ow_slots (L' := [(0, .string s24), (3, .pointer (some ⟨b27, 0, none⟩)), (39, .bool true)]) (by rw [h37]) ?_
        refine ow_pw rfl (pw_quiet (v := .agg #[.int .i64 r25.1.Size, .slice r25_p1 r25.1.Picks.length r25_c2, .slice r25_p4 r25.1.Leaf.length r25_c5, .slice r25_p7 r25.1.Nodes.length r25_c8]) rfl rfl rfl rfl (q_load 1 rfl rfl rfl (by kernel_rfl)) (nw_ow ?_))
        obtain ⟨r38, h39, hF⟩ := bind_some hF
        refine ow_pw rfl (pw_call (F := [pt b27 #[.int .i64 r25.1.Size, .slice r25_p1 r25.1.Picks.length r25_c2, .slice r25_p4 r25.1.Leaf.length r25_c5, .slice r25_p7 r25.1.Nodes.length r25_c8] 25] ++ F0) rfl rfl rfl rfl rfl rfl rfl (by kernel_rfl) (perm_of_pulls [0] rfl) (c_law30_bytes _ r25.1 r25_p1 r25_c2 r25_p4 r25_c5 r25_p7 r25_c8 r38 h39 r25_h3 r25_h6 r25_h9) ?_)
        rintro _ _ ⟨rfl, rfl⟩
        refine nw_H (H' := [imm r25_J, pt b27 #[.int .i64 r25.1.Size, .slice r25_p1 r25.1.Picks.length r25_c2, .slice r25_p4 r25.1.Leaf.length r25_c5, .slice r25_p7 r25.1.Nodes.length r25_c8] 25] ++ F0) rfl (nw_ow ?_)
        refine ow_vals 4 (j := 9) [45] [(45, .bool (seqB r38 s24))] rfl (by kernel_rfl) ?_
        rcases if_some hF with ⟨h40, hF⟩ | ⟨h40, hF⟩
        · refine ow_slots (L' := [(45, .bool true)]) (by rw [h40]) ?_
          obtain ⟨r41, h42, hF⟩ := bind_some hF
          refine ow_pw rfl (pw_call (F := [pt b27 #[.int .i64 r25.1.Size, .slice r25_p1 r25.1.Picks.length r25_c2, .slice r25_p4 r25.1.Leaf.length r25_c5, .slice r25_p7 r25.1.Nodes.length r25_c8] 25] ++ F0) rfl rfl rfl rfl rfl rfl rfl (by kernel_rfl) (perm_of_pulls [0] rfl) (c_law30_awake _ r41 h42) ?_)
          rintro _ _ ⟨r41_J, rfl, rfl, r41_hJ⟩
          refine nw_H (H' := [imm r41_J, pt b27 #[.int .i64 r25.1.Size, .slice r25_p1 r25.1.Picks.length r25_c2, .slice r25_p4 r25.1.Leaf.length r25_c5, .slice r25_p7 r25.1.Nodes.length r25_c8] 25] ++ F0) rfl (nw_ow ?_)
          have r25_h3 := ro.sub r41_hJ r25_h3
          have r25_h6 := ro.sub r41_hJ r25_h6
          have r25_h9 := ro.sub r41_hJ r25_h9
          refine ow_vals 2 (j := 12) [2] [(2, .bool r41)] rfl (by kernel_rfl) ?_
          refine ow_end rfl ?_
          refine ew_then ?_
          refine cw_ret ?_
          have hR := Option.some.inj hF
          subst hR
          exact fin1 (H1 := [imm r41_J]) (fun w hs => sat_to [1, 0] 1 rfl hs) rfl (rr_tmp rfl) ⟨r41_J, rfl, rfl, (Hl.sub_trans r25_hJ r41_hJ)⟩
        · refine ow_slots (L' := [(45, .bool false)]) (by rw [h40]) ?_
          refine ow_vals 3 (j := 12) [2] [(2, .bool false)] rfl (by kernel_rfl) ?_
          refine ow_end rfl ?_
          refine ew_then ?_
          refine cw_ret ?_
          have hR := Option.some.inj hF
          subst hR
          exact fin1 (H1 := [imm r25_J]) (fun w hs => sat_to [1, 0] 1 rfl hs) rfl (rr_tmp rfl) ⟨r25_J, rfl, rfl, r25_hJ⟩
      · refine ow_slots (L' := [(0, .string s24), (3, .pointer (some ⟨b27, 0, none⟩)), (39, .bool false)]) (by rw [h37]) ?_
        refine ow_vals 9 (j := 12) [2] [(2, .bool false)] rfl (by kernel_rfl) ?_
        refine ow_end rfl ?_
        refine ew_then ?_
        refine cw_ret ?_
        have hR := Option.some.inj hF
        subst hR
        exact fin1 (H1 := [imm r25_J]) (fun w hs => sat_to [1, 0] 1 rfl hs) rfl (rr_tmp rfl) ⟨r25_J, rfl, rfl, r25_hJ⟩

end Go.Proofs.Ytoamnhmdhficiaa
