/- What the functions compute, and that the code computes it: printed by a program of this claim (wip/tools), for the group Hexes. -/
import Derived.Test.YtadhamgijkbgeaaGSha
namespace Go.Proofs.Ytadhamgijkbgeaa
set_option linter.all false
open Go Go.RowKit Go.Fw
set_option linter.unusedVariables false

def F.law02_ShaHexes.l2 (s24 : ByteArray) (s27 : ByteArray) (x28 : Int) : Option ((ByteArray × Int) ⊕ (ByteArray)) :=
  if decide (x28 < (s24.size : Int)) then (chk (0 ≤ x28 ∧ x28 < (s24.size : Int)) (chk (0 ≤ x28 ∧ x28 < (s24.size : Int)) (chk (0 ≤ (IntKind.i64.wrap ((IntKind.i64.wrap (bt s24 x28)).tdiv 16)) ∧ (IntKind.i64.wrap ((IntKind.i64.wrap (bt s24 x28)).tdiv 16)) ≤ (IntKind.i64.wrap ((IntKind.i64.wrap ((IntKind.i64.wrap (bt s24 x28)).tdiv 16)) + 1)) ∧ (IntKind.i64.wrap ((IntKind.i64.wrap ((IntKind.i64.wrap (bt s24 x28)).tdiv 16)) + 1)) ≤ ((ByteArray.mk #[48, 49, 50, 51, 52, 53, 54, 55, 56, 57, 97, 98, 99, 100, 101, 102]).size : Int)) (chk (s27.size + ((ByteArray.mk #[48, 49, 50, 51, 52, 53, 54, 55, 56, 57, 97, 98, 99, 100, 101, 102]).extract (IntKind.i64.wrap ((IntKind.i64.wrap (bt s24 x28)).tdiv 16)).toNat (IntKind.i64.wrap ((IntKind.i64.wrap ((IntKind.i64.wrap (bt s24 x28)).tdiv 16)) + 1)).toNat).size ≤ 9223372036854775807) (chk (0 ≤ ((IntKind.i64.wrap (bt s24 x28)).tmod 16) ∧ ((IntKind.i64.wrap (bt s24 x28)).tmod 16) ≤ (IntKind.i64.wrap (((IntKind.i64.wrap (bt s24 x28)).tmod 16) + 1)) ∧ (IntKind.i64.wrap (((IntKind.i64.wrap (bt s24 x28)).tmod 16) + 1)) ≤ ((ByteArray.mk #[48, 49, 50, 51, 52, 53, 54, 55, 56, 57, 97, 98, 99, 100, 101, 102]).size : Int)) (chk ((s27 ++ ((ByteArray.mk #[48, 49, 50, 51, 52, 53, 54, 55, 56, 57, 97, 98, 99, 100, 101, 102]).extract (IntKind.i64.wrap ((IntKind.i64.wrap (bt s24 x28)).tdiv 16)).toNat (IntKind.i64.wrap ((IntKind.i64.wrap ((IntKind.i64.wrap (bt s24 x28)).tdiv 16)) + 1)).toNat)).size + ((ByteArray.mk #[48, 49, 50, 51, 52, 53, 54, 55, 56, 57, 97, 98, 99, 100, 101, 102]).extract ((IntKind.i64.wrap (bt s24 x28)).tmod 16).toNat (IntKind.i64.wrap (((IntKind.i64.wrap (bt s24 x28)).tmod 16) + 1)).toNat).size ≤ 9223372036854775807) (some (.inl ((s27 ++ ((ByteArray.mk #[48, 49, 50, 51, 52, 53, 54, 55, 56, 57, 97, 98, 99, 100, 101, 102]).extract (IntKind.i64.wrap ((IntKind.i64.wrap (bt s24 x28)).tdiv 16)).toNat (IntKind.i64.wrap ((IntKind.i64.wrap ((IntKind.i64.wrap (bt s24 x28)).tdiv 16)) + 1)).toNat)) ++ ((ByteArray.mk #[48, 49, 50, 51, 52, 53, 54, 55, 56, 57, 97, 98, 99, 100, 101, 102]).extract ((IntKind.i64.wrap (bt s24 x28)).tmod 16).toNat (IntKind.i64.wrap (((IntKind.i64.wrap (bt s24 x28)).tmod 16) + 1)).toNat), IntKind.i64.wrap (x28 + 1)))))))))) else (some (.inr (s27)))
def F.law02_ShaHexes.r3 (s24 : ByteArray) (s36 : ByteArray) : Option (Bool) :=
  Option.bind (F.sha_Hex s24) (fun (r37 : ByteArray) => if seqB r37 s36 then (Option.bind (F.law02_awake) (fun (r40 : Bool) => some (r40))) else (some (false)))
def F.law02_ShaHexes.r1 (s24 : ByteArray) : Option (Bool) :=
  Option.bind (iter (fun x => F.law02_ShaHexes.l2 s24 x.1 x.2) FUEL ((ByteArray.mk #[]), 0)) (fun x => F.law02_ShaHexes.r3 s24 x)
def F.law02_ShaHexes (x0 : ByteArray) : Option Bool :=
  Option.bind (if decide ((x0.size : Int) > 300) then (chk (0 ≤ (0 : Int) ∧ (0 : Int) ≤ (300 : Int) ∧ (300 : Int) ≤ (x0.size : Int)) (some ((x0.extract (0 : Int).toNat (300 : Int).toNat)))) else (some (x0))) (fun x => F.law02_ShaHexes.r1 x)
set_option maxRecDepth 100000 in
set_option maxHeartbeats 4000000 in
theorem c_law02_ShaHexes (I : Hl) (x0 : ByteArray) (res : Bool) (hF : F.law02_ShaHexes x0 = some res) : Tr Try.prog 4 [.string x0] [imm I] (fun r H' => r = .bool res ∧ H' = [imm I]) := by
  unfold F.law02_ShaHexes at hF
  refine tr_of_cw (fn := Try.f4) Try.func4 rfl (Nat.le_of_ble_eq_true rfl) 49 rfl fun F0 w0 => ?_
  refine cw_keep [0] (L' := [(0, .string x0)]) rfl ?_
  refine cw_state (S' := SAT w0 ([imm I] ++ F0)) (fun w hs => hs) ?_
  refine cw_seq ?_
  refine cw_region ?_
  refine ow_vals 1 (j := 1) [0] [(0, .string x0)] rfl (by kernel_rfl) ?_
  refine ow_end rfl ?_
  refine ew_then ?_
  obtain ⟨v21, hF, hK21⟩ := bind_some hF
  refine cw_mid (fun a w => ∃ (s24 : ByteArray), s24 = v21 ∧ Fr 49 [(0, .string s24)] a ∧ SAT w0 ([imm I] ++ F0) w) ?_ ?_
  · refine cw_seq ?_
    refine cw_region ?_
    refine ow_vals 3 (j := 3) [0, 10] [(0, .string x0), (10, .bool (decide ((x0.size : Int) > 300)))] rfl (by kernel_rfl) ?_
    refine ow_end rfl ?_
    refine ew_then ?_
    rcases if_some hF with ⟨h22, hF⟩ | ⟨h22, hF⟩
    · refine cw_cond_t rfl rfl h22 ?_
      refine cw_region ?_
      refine ow_vals 1 (j := 1) [11] [(11, .string x0)] rfl (by kernel_rfl) ?_
      obtain ⟨h23, hF⟩ := chk_some hF
      refine ow_pw rfl (pw_quiet (v := .string (x0.extract (0 : Int).toNat (300 : Int).toNat)) rfl rfl rfl rfl (q_slice_str rfl (by kernel_rfl) rfl rfl rfl h23.1 h23.2.1 h23.2.2) (nw_ow ?_))
      refine ow_vals 1 (j := 3) [0] [(0, .string (x0.extract (0 : Int).toNat (300 : Int).toNat))] rfl (by kernel_rfl) ?_
      refine ow_end rfl ?_
      have hR := Option.some.inj hF
      exact fun a w hf hs => ⟨x0.extract (0 : Int).toNat (300 : Int).toNat, hR, hf.keep [0], sat_to [0] 0 rfl hs⟩
    · refine cw_cond_f rfl rfl h22 ?_
      refine cw_skip ?_
      have hR := Option.some.inj hF
      exact fun a w hf hs => ⟨x0, hR, hf.keep [0], sat_to [0] 0 rfl hs⟩
  · rintro a w ⟨s24, hv, hf, hs⟩
    subst hv
    replace hF := hK21
    clear hK21
    try dsimp only at hF
    revert a w
    show CW _ _ _ 49 [(0, .string s24)] (SAT w0 ([imm I] ++ F0))
    unfold F.law02_ShaHexes.r1 at hF
    refine cw_seq ?_
    refine cw_region ?_
    refine ow_vals 1 (j := 1) [0, 3] [(0, .string s24), (3, .string (ByteArray.mk #[48, 49, 50, 51, 52, 53, 54, 55, 56, 57, 97, 98, 99, 100, 101, 102]))] rfl (by kernel_rfl) ?_
    refine ow_end rfl ?_
    refine ew_then ?_
    refine cw_seq ?_
    refine cw_region ?_
    refine ow_vals 1 (j := 1) [0, 3, 4] [(0, .string s24), (3, .string (ByteArray.mk #[48, 49, 50, 51, 52, 53, 54, 55, 56, 57, 97, 98, 99, 100, 101, 102])), (4, .string (ByteArray.mk #[]))] rfl (by kernel_rfl) ?_
    refine ow_end rfl ?_
    refine ew_then ?_
    obtain ⟨v25, hF, hK25⟩ := bind_some hF
    refine cw_mid (fun a w => ∃ (s36 : ByteArray), s36 = v25 ∧ Fr 49 [(0, .string s24), (4, .string s36)] a ∧ SAT w0 ([imm I] ++ F0) w) ?_ ?_
    · refine cw_seq ?_
      refine cw_region ?_
      refine ow_vals 1 (j := 1) [0, 3, 4, 5] [(0, .string s24), (3, .string (ByteArray.mk #[48, 49, 50, 51, 52, 53, 54, 55, 56, 57, 97, 98, 99, 100, 101, 102])), (4, .string (ByteArray.mk #[])), (5, .int .i64 0)] rfl (by kernel_rfl) ?_
      refine ow_end rfl ?_
      refine ew_then ?_
      refine cw_block ?_
      refine fun a w hf hs => wp_rounds (fun k a w => ∃ (s27 : ByteArray), ∃ (x28 : Int), iter (fun x => F.law02_ShaHexes.l2 s24 x.1 x.2) k (s27, x28) = some v25 ∧ Fr 49 [(0, .string s24), (3, .string (ByteArray.mk #[48, 49, 50, 51, 52, 53, 54, 55, 56, 57, 97, 98, 99, 100, 101, 102])), (4, .string s27), (5, .int .i64 x28)] a ∧ SAT w0 ([imm I] ++ F0) w) ?_ FUEL a w ⟨(ByteArray.mk #[]), 0, hF, hf.keep [0, 3, 4, 5], sat_to [0] 0 rfl hs⟩
      clear hf hs
      clear a w hF
      rintro k a w ⟨s27, x28, hF2, hf, hs⟩
      obtain ⟨k, r26, rfl, hF, hL26⟩ := iter_some hF2
      clear hF2
      revert a w
      show CW _ _ _ 49 [(0, .string s24), (3, .string (ByteArray.mk #[48, 49, 50, 51, 52, 53, 54, 55, 56, 57, 97, 98, 99, 100, 101, 102])), (4, .string s27), (5, .int .i64 x28)] (SAT w0 ([imm I] ++ F0))
      try dsimp only at hF
      unfold F.law02_ShaHexes.l2 at hF
      refine cw_seq ?_
      refine cw_seq ?_
      refine cw_region ?_
      refine ow_vals 4 (j := 4) [0, 3, 4, 5, 16] [(0, .string s24), (3, .string (ByteArray.mk #[48, 49, 50, 51, 52, 53, 54, 55, 56, 57, 97, 98, 99, 100, 101, 102])), (4, .string s27), (5, .int .i64 x28), (16, .bool (decide (x28 < (s24.size : Int))))] rfl (by kernel_rfl) ?_
      refine ow_end rfl ?_
      refine ew_then ?_
      rcases if_some hF with ⟨h29, hF⟩ | ⟨h29, hF⟩
      · refine cw_cond_t rfl rfl h29 ?_
        refine cw_skip ?_
        refine ew_then ?_
        refine cw_seq ?_
        refine cw_block ?_
        refine cw_seq ?_
        refine cw_open 12 (SAT w0 ([imm I])) (by kernel_rfl) (f := 12) rfl (fun w hs => sat_drew hs) ?_
        refine aw_vals [0, 1, 5, 6] (f' := 8) (m' := 99) [0, 3, 4, 5, 19, 20, 24, 25] [(0, .string s24), (3, .string (ByteArray.mk #[48, 49, 50, 51, 52, 53, 54, 55, 56, 57, 97, 98, 99, 100, 101, 102])), (4, .string s27), (5, .int .i64 x28), (19, .string s24), (20, .int .i64 x28), (24, .string s24), (25, .int .i64 x28)] (fun _ _ _ _ _ h => calm_fin (P := Try.prog) (fn := Try.f4) _ _ _ _ _ h) (fun w hs => sat_pulls [0] (G := [] ++ F0) rfl hs) rfl (by kernel_rfl) ?_
        obtain ⟨h30, hF⟩ := chk_some hF
        refine aw_pure 2 (m' := 103) (v := .int .u8 (bt s24 x28)) rfl rfl rfl rfl (by kernel_rfl) (by kernel_rfl) (fun _ _ _ _ _ h => calm_fin (P := Try.prog) (fn := Try.f4) _ _ _ _ _ h) (fun w hs => sat_pulls [0] (G := [] ++ F0) rfl hs) (q_index_str rfl (by kernel_rfl) rfl rfl h30.1 h30.2) ?_
        refine aw_vals [3, 4, 10] (f' := 4) (m' := 1151) [0, 3, 4, 5, 6, 24, 25] [(0, .string s24), (3, .string (ByteArray.mk #[48, 49, 50, 51, 52, 53, 54, 55, 56, 57, 97, 98, 99, 100, 101, 102])), (4, .string s27), (5, .int .i64 x28), (6, .int .i64 (IntKind.i64.wrap ((IntKind.i64.wrap (bt s24 x28)).tdiv 16))), (24, .string s24), (25, .int .i64 x28)] (fun _ _ _ _ _ h => calm_fin (P := Try.prog) (fn := Try.f4) _ _ _ _ _ h) (fun w hs => sat_pulls [0] (G := [] ++ F0) rfl hs) rfl (by kernel_rfl) ?_
        obtain ⟨h31, hF⟩ := chk_some hF
        refine aw_pure 7 (m' := 1279) (v := .int .u8 (bt s24 x28)) rfl rfl rfl rfl (by kernel_rfl) (by kernel_rfl) (fun _ _ _ _ _ h => calm_fin (P := Try.prog) (fn := Try.f4) _ _ _ _ _ h) (fun w hs => sat_pulls [0] (G := [] ++ F0) rfl hs) (q_index_str rfl (by kernel_rfl) rfl rfl h31.1 h31.2) ?_
        refine aw_vals [8, 9, 11] (f' := 0) (m' := 4095) [0, 3, 4, 5, 6, 7] [(0, .string s24), (3, .string (ByteArray.mk #[48, 49, 50, 51, 52, 53, 54, 55, 56, 57, 97, 98, 99, 100, 101, 102])), (4, .string s27), (5, .int .i64 x28), (6, .int .i64 (IntKind.i64.wrap ((IntKind.i64.wrap (bt s24 x28)).tdiv 16))), (7, .int .i64 ((IntKind.i64.wrap (bt s24 x28)).tmod 16))] (fun _ _ _ _ _ h => calm_fin (P := Try.prog) (fn := Try.f4) _ _ _ _ _ h) (fun w hs => sat_pulls [0] (G := [] ++ F0) rfl hs) rfl (by kernel_rfl) ?_
        refine aw_keep [0, 3, 4, 5, 6, 7] (L' := [(0, .string s24), (3, .string (ByteArray.mk #[48, 49, 50, 51, 52, 53, 54, 55, 56, 57, 97, 98, 99, 100, 101, 102])), (4, .string s27), (5, .int .i64 x28), (6, .int .i64 (IntKind.i64.wrap ((IntKind.i64.wrap (bt s24 x28)).tdiv 16))), (7, .int .i64 ((IntKind.i64.wrap (bt s24 x28)).tmod 16))]) rfl ?_
        refine aw_end (by kernel_rfl) ?_
        refine ew_then ?_
        refine cw_open 14 (SAT w0 ([imm I])) (by kernel_rfl) (f := 14) rfl (fun w hs => sat_drew hs) ?_
        refine aw_vals [0, 1, 2, 3, 4, 7, 8, 9, 10] (f' := 5) (m' := 1951) [0, 3, 4, 5, 29, 30, 31, 33, 36, 37, 39] [(0, .string s24), (3, .string (ByteArray.mk #[48, 49, 50, 51, 52, 53, 54, 55, 56, 57, 97, 98, 99, 100, 101, 102])), (4, .string s27), (5, .int .i64 x28), (29, .string s27), (30, .string (ByteArray.mk #[48, 49, 50, 51, 52, 53, 54, 55, 56, 57, 97, 98, 99, 100, 101, 102])), (31, .int .i64 (IntKind.i64.wrap ((IntKind.i64.wrap (bt s24 x28)).tdiv 16))), (33, .int .i64 (IntKind.i64.wrap ((IntKind.i64.wrap ((IntKind.i64.wrap (bt s24 x28)).tdiv 16)) + 1))), (36, .string (ByteArray.mk #[48, 49, 50, 51, 52, 53, 54, 55, 56, 57, 97, 98, 99, 100, 101, 102])), (37, .int .i64 ((IntKind.i64.wrap (bt s24 x28)).tmod 16)), (39, .int .i64 (IntKind.i64.wrap (((IntKind.i64.wrap (bt s24 x28)).tmod 16) + 1)))] (fun _ _ _ _ _ h => calm_fin (P := Try.prog) (fn := Try.f4) _ _ _ _ _ h) (fun w hs => sat_pulls [0] (G := [] ++ F0) rfl hs) rfl (by kernel_rfl) ?_
        obtain ⟨h32, hF⟩ := chk_some hF
        refine aw_pure 5 (m' := 1983) (v := .string ((ByteArray.mk #[48, 49, 50, 51, 52, 53, 54, 55, 56, 57, 97, 98, 99, 100, 101, 102]).extract (IntKind.i64.wrap ((IntKind.i64.wrap (bt s24 x28)).tdiv 16)).toNat (IntKind.i64.wrap ((IntKind.i64.wrap ((IntKind.i64.wrap (bt s24 x28)).tdiv 16)) + 1)).toNat)) rfl rfl rfl rfl (by kernel_rfl) (by kernel_rfl) (fun _ _ _ _ _ h => calm_fin (P := Try.prog) (fn := Try.f4) _ _ _ _ _ h) (fun w hs => sat_pulls [0] (G := [] ++ F0) rfl hs) (q_slice_str rfl (by kernel_rfl) rfl rfl rfl h32.1 h32.2.1 h32.2.2) ?_
        obtain ⟨h33, hF⟩ := chk_some hF
        refine aw_pure 6 (m' := 2047) (v := .string (s27 ++ ((ByteArray.mk #[48, 49, 50, 51, 52, 53, 54, 55, 56, 57, 97, 98, 99, 100, 101, 102]).extract (IntKind.i64.wrap ((IntKind.i64.wrap (bt s24 x28)).tdiv 16)).toNat (IntKind.i64.wrap ((IntKind.i64.wrap ((IntKind.i64.wrap (bt s24 x28)).tdiv 16)) + 1)).toNat))) rfl rfl rfl rfl (by kernel_rfl) (by kernel_rfl) (fun _ _ _ _ _ h => calm_fin (P := Try.prog) (fn := Try.f4) _ _ _ _ _ h) (fun w hs => sat_pulls [0] (G := [] ++ F0) rfl hs) (q_concat rfl rfl rfl h33) ?_
        obtain ⟨h34, hF⟩ := chk_some hF
        refine aw_pure 11 (m' := 4095) (v := .string ((ByteArray.mk #[48, 49, 50, 51, 52, 53, 54, 55, 56, 57, 97, 98, 99, 100, 101, 102]).extract ((IntKind.i64.wrap (bt s24 x28)).tmod 16).toNat (IntKind.i64.wrap (((IntKind.i64.wrap (bt s24 x28)).tmod 16) + 1)).toNat)) rfl rfl rfl rfl (by kernel_rfl) (by kernel_rfl) (fun _ _ _ _ _ h => calm_fin (P := Try.prog) (fn := Try.f4) _ _ _ _ _ h) (fun w hs => sat_pulls [0] (G := [] ++ F0) rfl hs) (q_slice_str rfl (by kernel_rfl) rfl rfl rfl h34.1 h34.2.1 h34.2.2) ?_
        obtain ⟨h35, hF⟩ := chk_some hF
        refine aw_pure 12 (m' := 8191) (v := .string ((s27 ++ ((ByteArray.mk #[48, 49, 50, 51, 52, 53, 54, 55, 56, 57, 97, 98, 99, 100, 101, 102]).extract (IntKind.i64.wrap ((IntKind.i64.wrap (bt s24 x28)).tdiv 16)).toNat (IntKind.i64.wrap ((IntKind.i64.wrap ((IntKind.i64.wrap (bt s24 x28)).tdiv 16)) + 1)).toNat)) ++ ((ByteArray.mk #[48, 49, 50, 51, 52, 53, 54, 55, 56, 57, 97, 98, 99, 100, 101, 102]).extract ((IntKind.i64.wrap (bt s24 x28)).tmod 16).toNat (IntKind.i64.wrap (((IntKind.i64.wrap (bt s24 x28)).tmod 16) + 1)).toNat))) rfl rfl rfl rfl (by kernel_rfl) (by kernel_rfl) (fun _ _ _ _ _ h => calm_fin (P := Try.prog) (fn := Try.f4) _ _ _ _ _ h) (fun w hs => sat_pulls [0] (G := [] ++ F0) rfl hs) (q_concat rfl rfl rfl h35) ?_
        refine aw_vals [13] (f' := 0) (m' := 16383) [0, 3, 4, 5] [(0, .string s24), (3, .string (ByteArray.mk #[48, 49, 50, 51, 52, 53, 54, 55, 56, 57, 97, 98, 99, 100, 101, 102])), (4, .string ((s27 ++ ((ByteArray.mk #[48, 49, 50, 51, 52, 53, 54, 55, 56, 57, 97, 98, 99, 100, 101, 102]).extract (IntKind.i64.wrap ((IntKind.i64.wrap (bt s24 x28)).tdiv 16)).toNat (IntKind.i64.wrap ((IntKind.i64.wrap ((IntKind.i64.wrap (bt s24 x28)).tdiv 16)) + 1)).toNat)) ++ ((ByteArray.mk #[48, 49, 50, 51, 52, 53, 54, 55, 56, 57, 97, 98, 99, 100, 101, 102]).extract ((IntKind.i64.wrap (bt s24 x28)).tmod 16).toNat (IntKind.i64.wrap (((IntKind.i64.wrap (bt s24 x28)).tmod 16) + 1)).toNat))), (5, .int .i64 x28)] (fun _ _ _ _ _ h => calm_fin (P := Try.prog) (fn := Try.f4) _ _ _ _ _ h) (fun w hs => sat_pulls [0] (G := [] ++ F0) rfl hs) rfl (by kernel_rfl) ?_
        refine aw_keep [0, 3, 4, 5] (L' := [(0, .string s24), (3, .string (ByteArray.mk #[48, 49, 50, 51, 52, 53, 54, 55, 56, 57, 97, 98, 99, 100, 101, 102])), (4, .string ((s27 ++ ((ByteArray.mk #[48, 49, 50, 51, 52, 53, 54, 55, 56, 57, 97, 98, 99, 100, 101, 102]).extract (IntKind.i64.wrap ((IntKind.i64.wrap (bt s24 x28)).tdiv 16)).toNat (IntKind.i64.wrap ((IntKind.i64.wrap ((IntKind.i64.wrap (bt s24 x28)).tdiv 16)) + 1)).toNat)) ++ ((ByteArray.mk #[48, 49, 50, 51, 52, 53, 54, 55, 56, 57, 97, 98, 99, 100, 101, 102]).extract ((IntKind.i64.wrap (bt s24 x28)).tmod 16).toNat (IntKind.i64.wrap (((IntKind.i64.wrap (bt s24 x28)).tmod 16) + 1)).toNat))), (5, .int .i64 x28)]) rfl ?_
        refine aw_end (by kernel_rfl) ?_
        refine ew_blk ?_
        refine ew_then ?_
        refine cw_region ?_
        refine ow_vals 3 (j := 3) [0, 3, 4, 5] [(0, .string s24), (3, .string (ByteArray.mk #[48, 49, 50, 51, 52, 53, 54, 55, 56, 57, 97, 98, 99, 100, 101, 102])), (4, .string ((s27 ++ ((ByteArray.mk #[48, 49, 50, 51, 52, 53, 54, 55, 56, 57, 97, 98, 99, 100, 101, 102]).extract (IntKind.i64.wrap ((IntKind.i64.wrap (bt s24 x28)).tdiv 16)).toNat (IntKind.i64.wrap ((IntKind.i64.wrap ((IntKind.i64.wrap (bt s24 x28)).tdiv 16)) + 1)).toNat)) ++ ((ByteArray.mk #[48, 49, 50, 51, 52, 53, 54, 55, 56, 57, 97, 98, 99, 100, 101, 102]).extract ((IntKind.i64.wrap (bt s24 x28)).tmod 16).toNat (IntKind.i64.wrap (((IntKind.i64.wrap (bt s24 x28)).tmod 16) + 1)).toNat))), (5, .int .i64 (IntKind.i64.wrap (x28 + 1)))] rfl (by kernel_rfl) ?_
        refine ow_end rfl ?_
        have hR := Option.some.inj hF
        subst hR
        have hR := hL26
        try dsimp only at hR
        exact fun a w hf hs => ⟨k, Nat.lt_succ_self k, (s27 ++ ((ByteArray.mk #[48, 49, 50, 51, 52, 53, 54, 55, 56, 57, 97, 98, 99, 100, 101, 102]).extract (IntKind.i64.wrap ((IntKind.i64.wrap (bt s24 x28)).tdiv 16)).toNat (IntKind.i64.wrap ((IntKind.i64.wrap ((IntKind.i64.wrap (bt s24 x28)).tdiv 16)) + 1)).toNat)) ++ ((ByteArray.mk #[48, 49, 50, 51, 52, 53, 54, 55, 56, 57, 97, 98, 99, 100, 101, 102]).extract ((IntKind.i64.wrap (bt s24 x28)).tmod 16).toNat (IntKind.i64.wrap (((IntKind.i64.wrap (bt s24 x28)).tmod 16) + 1)).toNat), IntKind.i64.wrap (x28 + 1), hR, hf.keep [0, 3, 4, 5], sat_to [0] 0 rfl hs⟩
      · refine cw_cond_f rfl rfl h29 ?_
        refine cw_exit ?_
        refine ew_then_exit ?_
        refine ew_then_exit ?_
        refine ew_blk_exit ?_
        have hR := Option.some.inj hF
        subst hR
        have hR := hL26
        try dsimp only at hR
        exact fun a w hf hs => ⟨s27, hR, hf.keep [0, 4], sat_to [0] 0 rfl hs⟩
    · rintro a w ⟨s36, hv, hf, hs⟩
      subst hv
      replace hF := hK25
      clear hK25
      try dsimp only at hF
      revert a w
      show CW _ _ _ 49 [(0, .string s24), (4, .string s36)] (SAT w0 ([imm I] ++ F0))
      unfold F.law02_ShaHexes.r3 at hF
      refine cw_seq ?_
      refine cw_region ?_
      refine ow_vals 1 (j := 1) [4, 42] [(4, .string s36), (42, .string s24)] rfl (by kernel_rfl) ?_
      obtain ⟨r37, h38, hF⟩ := bind_some hF
      refine ow_pw rfl (pw_call (F := [] ++ F0) rfl rfl rfl rfl rfl rfl rfl (by kernel_rfl) (perm_of_pulls [0] rfl) (c_sha_Hex _ _ r37 h38) ?_)
      rintro _ _ ⟨rfl, rfl⟩
      refine nw_H (H' := [imm I] ++ F0) rfl (nw_ow ?_)
      refine ow_vals 3 (j := 5) [46] [(46, .bool (seqB r37 s36))] rfl (by kernel_rfl) ?_
      rcases if_some hF with ⟨h39, hF⟩ | ⟨h39, hF⟩
      · refine ow_slots (L' := [(46, .bool true)]) (by rw [h39]) ?_
        obtain ⟨r40, h41, hF⟩ := bind_some hF
        refine ow_pw rfl (pw_call (F := [] ++ F0) rfl rfl rfl rfl rfl rfl rfl (by kernel_rfl) (perm_of_pulls [0] rfl) (c_law02_awake _ r40 h41) ?_)
        rintro _ _ ⟨rfl, rfl⟩
        refine nw_H (H' := [imm I] ++ F0) rfl (nw_ow ?_)
        refine ow_vals 2 (j := 8) [2] [(2, .bool r40)] rfl (by kernel_rfl) ?_
        refine ow_end rfl ?_
        refine ew_then ?_
        refine cw_ret ?_
        have hR := Option.some.inj hF
        subst hR
        exact fin1 (H1 := [imm I]) (fun w hs => sat_to [0] 0 rfl hs) rfl (rr_tmp rfl) ⟨rfl, rfl⟩
      · refine ow_slots (L' := [(46, .bool false)]) (by rw [h39]) ?_
        refine ow_vals 3 (j := 8) [2] [(2, .bool false)] rfl (by kernel_rfl) ?_
        refine ow_end rfl ?_
        refine ew_then ?_
        refine cw_ret ?_
        have hR := Option.some.inj hF
        subst hR
        exact fin1 (H1 := [imm I]) (fun w hs => sat_to [0] 0 rfl hs) rfl (rr_tmp rfl) ⟨rfl, rfl⟩

end Go.Proofs.Ytadhamgijkbgeaa
