/- What the functions compute, and that the code computes it: printed by a program of this claim (wip/tools), for the group Tid. -/
import Derived.Test.YtileogoeoiafkaaGSame
namespace Go.Proofs.Ytileogoeoiafkaa
set_option linter.all false
open Go Go.RowKit Go.Fw
set_option linter.unusedVariables false

def F.law24_tidy.l1 (x0 : List ByteArray) (l25 : List ByteArray) (x29 : Int) (x41 : Int) : Option ((Int) ⊕ (Int)) :=
  if decide (x41 > 0) then (Option.bind (at_ l25 (IntKind.i64.wrap (x41 - 1))) (fun (y43 : ByteArray) => Option.bind (at_ x0 x29) (fun (y45 : ByteArray) => if !((sltB y43 y45) || (seqB y43 y45)) then (some (.inl (IntKind.i64.wrap (x41 - 1)))) else (some (.inr (x41)))))) else (some (.inr (x41)))
def F.law24_tidy.l4 (l25 : List ByteArray) (x50 : Int) (l91 : List ByteArray) (x95 : Int) : Option (((List ByteArray) × Int) ⊕ ((List ByteArray))) :=
  if decide (x95 < ((([] : List ByteArray) ++ ((l25.drop x50.toNat).take ((l25.length : Int).toNat - x50.toNat))).length : Int)) then (Option.bind (at_ (([] : List ByteArray) ++ ((l25.drop x50.toNat).take ((l25.length : Int).toNat - x50.toNat))) x95) (fun (y97 : ByteArray) => chk (room (l91.length + ([y97] : List ByteArray).length) 16) (some (.inl (l91 ++ ([y97] : List ByteArray), IntKind.i64.wrap (x95 + 1)))))) else (some (.inr (l91)))
def F.law24_tidy.r3 (x0 : List ByteArray) (l25 : List ByteArray) (x29 : Int) (x50 : Int) : Option ((List ByteArray)) :=
  chk (0 ≤ x50 ∧ x50 ≤ (l25.length : Int) ∧ (l25.length : Int) ≤ (l25.length : Int)) (chk (room (([] : List ByteArray).length + ((l25.drop x50.toNat).take ((l25.length : Int).toNat - x50.toNat)).length) 16) (chk (0 ≤ (0 : Int) ∧ (0 : Int) ≤ x50 ∧ x50 ≤ (l25.length : Int)) (chk (room (([] : List ByteArray).length + ((l25.drop (0 : Int).toNat).take (x50.toNat - (0 : Int).toNat)).length) 16) (Option.bind (at_ x0 x29) (fun (y81 : ByteArray) => chk (room ((([] : List ByteArray) ++ ((l25.drop (0 : Int).toNat).take (x50.toNat - (0 : Int).toNat))).length + ([y81] : List ByteArray).length) 16) (iter (fun x => F.law24_tidy.l4 l25 x50 x.1 x.2) FUEL ((([] : List ByteArray) ++ ((l25.drop (0 : Int).toNat).take (x50.toNat - (0 : Int).toNat))) ++ ([y81] : List ByteArray), 0)))))))
def F.law24_tidy.r2 (x0 : List ByteArray) (l25 : List ByteArray) (x29 : Int) (x50 : Int) : Option ((List ByteArray)) :=
  thru (if decide (x50 > 0) then (Option.bind (at_ l25 (IntKind.i64.wrap (x50 - 1))) (fun (y53 : ByteArray) => Option.bind (at_ x0 x29) (fun (y55 : ByteArray) => if seqB y53 y55 then (some (.inr (l25))) else (some (.inl ()))))) else (some (.inl ()))) (fun x => F.law24_tidy.r3 x0 l25 x29 x50)
def F.law24_tidy.r5 (x29 : Int) (l106 : List ByteArray) : Option (((List ByteArray) × Int) ⊕ ((List ByteArray))) :=
  some (.inl (l106, IntKind.i64.wrap (x29 + 1)))
def F.law24_tidy.l6 (x0 : List ByteArray) (l25 : List ByteArray) (x29 : Int) : Option (((List ByteArray) × Int) ⊕ ((List ByteArray))) :=
  if decide (x29 < (x0.length : Int)) then (Option.bind (Option.bind (at_ x0 x29) (fun (y32 : ByteArray) => Option.bind (F.paper_IsID y32) (fun (r36 : Bool) => if !r36 then (some (l25)) else (Option.bind (iter (fun x => F.law24_tidy.l1 x0 l25 x29 x) FUEL (l25.length : Int)) (fun x => F.law24_tidy.r2 x0 l25 x29 x))))) (fun x => F.law24_tidy.r5 x29 x)) else (some (.inr (l25)))
def F.law24_tidy.r7 (l112 : List ByteArray) : Option ((List ByteArray)) :=
  some (l112)
def F.law24_tidy (x0 : List ByteArray) : Option (List ByteArray) :=
  Option.bind (iter (fun x => F.law24_tidy.l6 x0 x.1 x.2) FUEL ([], 0)) (fun x => F.law24_tidy.r7 x)
set_option maxRecDepth 100000 in
set_option maxHeartbeats 4000000 in
theorem c_law24_tidy (I : Hl) (x0 : List ByteArray) (p0 : Option Addr) (c0 : Nat) (res : (List ByteArray)) (hF : F.law24_tidy x0 = some res) (hr0 : ro I eStr p0 c0 x0) : Tr Try.prog 10 [.slice p0 x0.length c0] [imm I] (fun r H' => ∃ (J : Hl), ∃ (pq1 : Option Addr), ∃ (cq2 : Nat), r = .slice pq1 res.length cq2 ∧ H' = [imm J, own eStr 9 pq1 cq2 res] ∧ Hl.sub I J) := by
  unfold F.law24_tidy at hF
  refine tr_of_cw (fn := Try.f10) Try.func10 rfl (Nat.le_of_ble_eq_true rfl) 83 rfl fun F0 w0 => ?_
  refine cw_keep [0] (L' := [(0, .slice p0 x0.length c0)]) rfl ?_
  refine cw_state (S' := SAT w0 ([imm I] ++ F0)) (fun w hs => hs) ?_
  refine cw_seq ?_
  refine cw_region ?_
  refine ow_vals 1 (j := 1) [0] [(0, .slice p0 x0.length c0)] rfl (by kernel_rfl) ?_
  refine ow_end rfl ?_
  refine ew_then ?_
  refine cw_seq ?_
  refine cw_region ?_
  refine ow_vals 1 (j := 1) [0, 3] [(0, .slice p0 x0.length c0), (3, .slice none 0 0)] rfl (by kernel_rfl) ?_
  refine ow_end rfl ?_
  refine ew_then ?_
  obtain ⟨v21, hF, hK21⟩ := bind_some hF
  refine cw_mid (fun a w => ∃ (l112 : List ByteArray), ∃ (J110 : Hl), ∃ (p113 : Option Addr), ∃ (c114 : Nat), l112 = v21 ∧ Hl.sub I J110 ∧ Fr 83 [(3, .slice p113 l112.length c114)] a ∧ SAT w0 ([imm J110, own eStr 9 p113 c114 l112] ++ F0) w) ?_ ?_
  · refine cw_seq ?_
    refine cw_region ?_
    refine ow_vals 1 (j := 1) [0, 3, 4] [(0, .slice p0 x0.length c0), (3, .slice none 0 0), (4, .int .i64 0)] rfl (by kernel_rfl) ?_
    refine ow_end rfl ?_
    refine ew_then ?_
    refine cw_block ?_
    refine fun a w hf hs => wp_rounds (fun k a w => ∃ (l25 : List ByteArray), ∃ (x29 : Int), ∃ (J23 : Hl), ∃ (p26 : Option Addr), ∃ (c27 : Nat), iter (fun x => F.law24_tidy.l6 x0 x.1 x.2) k (l25, x29) = some v21 ∧ Hl.sub I J23 ∧ Fr 83 [(0, .slice p0 x0.length c0), (3, .slice p26 l25.length c27), (4, .int .i64 x29)] a ∧ SAT w0 ([imm J23, own eStr 9 p26 c27 l25] ++ F0) w) ?_ FUEL a w ⟨[], 0, I, none, 0, hF, Hl.sub_refl _, hf.keep [0, 3, 4], sat_to [1, 0] 0 rfl (sat_own_nil eStr 9 hs)⟩
    clear hf hs
    clear a w hF
    rintro k a w ⟨l25, x29, J23, p26, c27, hF2, h24, hf, hs⟩
    obtain ⟨k, r22, rfl, hF, hL22⟩ := iter_some hF2
    clear hF2
    revert a w
    show CW _ _ _ 83 [(0, .slice p0 x0.length c0), (3, .slice p26 l25.length c27), (4, .int .i64 x29)] (SAT w0 ([imm J23, own eStr 9 p26 c27 l25] ++ F0))
    try dsimp only at hF
    unfold F.law24_tidy.l6 at hF
    have hr0 := ro.sub h24 hr0
    refine cw_seq ?_
    refine cw_seq ?_
    refine cw_region ?_
    refine ow_vals 4 (j := 4) [0, 3, 4, 11] [(0, .slice p0 x0.length c0), (3, .slice p26 l25.length c27), (4, .int .i64 x29), (11, .bool (decide (x29 < (x0.length : Int))))] rfl (by kernel_rfl) ?_
    refine ow_end rfl ?_
    refine ew_then ?_
    rcases if_some hF with ⟨h30, hF⟩ | ⟨h30, hF⟩
    · refine cw_cond_t rfl rfl h30 ?_
      refine cw_skip ?_
      refine ew_then ?_
      obtain ⟨v31, hF, hK31⟩ := bind_some hF
      refine cw_mid (fun a w => ∃ (l106 : List ByteArray), ∃ (J104 : Hl), ∃ (p107 : Option Addr), ∃ (c108 : Nat), l106 = v31 ∧ Hl.sub J23 J104 ∧ Fr 83 [(0, .slice p0 x0.length c0), (3, .slice p107 l106.length c108), (4, .int .i64 x29)] a ∧ SAT w0 ([imm J104, own eStr 9 p107 c108 l106] ++ F0) w) ?_ ?_
      · refine cw_block ?_
        refine cw_seq ?_
        refine cw_seq ?_
        refine cw_region ?_
        refine ow_vals 2 (j := 2) [0, 3, 4, 14, 15] [(0, .slice p0 x0.length c0), (3, .slice p26 l25.length c27), (4, .int .i64 x29), (14, .slice p0 x0.length c0), (15, .int .i64 x29)] rfl (by kernel_rfl) ?_
        obtain ⟨y32, h33, hF⟩ := bind_some hF
        refine ow_pw rfl (pw_index_ro (E := 9) 1 hr0 rfl rfl rfl rfl rfl (by kernel_rfl) rfl rfl rfl h33 fun q34 h35 => nw_ow ?_)
        refine ow_pw rfl (pw_quiet (v := .string y32) rfl rfl rfl rfl (q_load_el0 0 rfl h35 rfl rfl (by kernel_rfl)) (nw_ow ?_))
        obtain ⟨r36, h37, hF⟩ := bind_some hF
        refine ow_pw rfl (pw_call (F := [own eStr 9 p26 c27 l25] ++ F0) rfl rfl rfl rfl rfl rfl rfl (by kernel_rfl) (perm_of_pulls [0] rfl) (c_paper_IsID _ y32 r36 h37) ?_)
        rintro _ _ ⟨rfl, rfl⟩
        refine nw_H (H' := [imm J23, own eStr 9 p26 c27 l25] ++ F0) rfl (nw_ow ?_)
        refine ow_vals 1 (j := 6) [0, 3, 4, 19] [(0, .slice p0 x0.length c0), (3, .slice p26 l25.length c27), (4, .int .i64 x29), (19, .bool (!r36))] rfl (by kernel_rfl) ?_
        refine ow_end rfl ?_
        refine ew_then ?_
        rcases if_some hF with ⟨h38, hF⟩ | ⟨h38, hF⟩
        · refine cw_cond_t rfl rfl h38 ?_
          refine cw_exit ?_
          refine ew_then_exit ?_
          refine ew_blk_exit ?_
          have hR := Option.some.inj hF
          exact fun a w hf hs => ⟨l25, J23, p26, c27, hR, Hl.sub_refl _, hf.keep [0, 3, 4], sat_to [0, 0] 0 rfl hs⟩
        refine cw_cond_f rfl rfl h38 ?_
        refine cw_skip ?_
        refine ew_then ?_
        refine cw_seq ?_
        refine cw_region ?_
        refine ow_vals 3 (j := 3) [0, 3, 4, 5] [(0, .slice p0 x0.length c0), (3, .slice p26 l25.length c27), (4, .int .i64 x29), (5, .int .i64 (l25.length : Int))] rfl (by kernel_rfl) ?_
        refine ow_end rfl ?_
        refine ew_then ?_
        obtain ⟨v39, hF, hK39⟩ := bind_some hF
        refine cw_mid (fun a w => ∃ (x50 : Int), x50 = v39 ∧ Fr 83 [(0, .slice p0 x0.length c0), (3, .slice p26 l25.length c27), (4, .int .i64 x29), (5, .int .i64 x50)] a ∧ SAT w0 ([imm J23, own eStr 9 p26 c27 l25] ++ F0) w) ?_ ?_
        · refine cw_block ?_
          refine fun a w hf hs => wp_rounds (fun k a w => ∃ (x41 : Int), iter (fun x => F.law24_tidy.l1 x0 l25 x29 x) k x41 = some v39 ∧ Fr 83 [(0, .slice p0 x0.length c0), (3, .slice p26 l25.length c27), (4, .int .i64 x29), (5, .int .i64 x41)] a ∧ SAT w0 ([imm J23, own eStr 9 p26 c27 l25] ++ F0) w) ?_ FUEL a w ⟨(l25.length : Int), hF, hf.keep [0, 3, 4, 5], sat_to [0, 0] 0 rfl hs⟩
          clear hf hs
          clear a w hF
          rintro k a w ⟨x41, hF2, hf, hs⟩
          obtain ⟨k, r40, rfl, hF, hL40⟩ := iter_some hF2
          clear hF2
          revert a w
          show CW _ _ _ 83 [(0, .slice p0 x0.length c0), (3, .slice p26 l25.length c27), (4, .int .i64 x29), (5, .int .i64 x41)] (SAT w0 ([imm J23, own eStr 9 p26 c27 l25] ++ F0))
          try dsimp only at hF
          unfold F.law24_tidy.l1 at hF
          refine cw_seq ?_
          refine cw_seq ?_
          refine cw_open 14 (SAT w0 ([imm J23, own eStr 9 p26 c27 l25])) (by kernel_rfl) (f := 14) rfl (fun w hs => sat_drew hs) ?_
          refine aw_vals [0, 1, 2] (f' := 11) (m' := 7) [0, 3, 4, 5, 24] [(0, .slice p0 x0.length c0), (3, .slice p26 l25.length c27), (4, .int .i64 x29), (5, .int .i64 x41), (24, .bool (decide (x41 > 0)))] (fun _ _ _ _ _ h => calm_fin (P := Try.prog) (fn := Try.f10) _ _ _ _ _ h) (fun w hs => sat_pulls [0, 0] (G := [] ++ F0) rfl hs) rfl (by kernel_rfl) ?_
          rcases if_some hF with ⟨h42, hF⟩ | ⟨h42, hF⟩
          · refine aw_slots (L' := [(0, .slice p0 x0.length c0), (3, .slice p26 l25.length c27), (4, .int .i64 x29), (5, .int .i64 x41), (24, .bool true)]) (by rw [h42]) ?_
            refine aw_vals [3, 4, 5, 8, 9] (f' := 6) (m' := 831) [0, 3, 4, 5, 24, 25, 27, 30, 31] [(0, .slice p0 x0.length c0), (3, .slice p26 l25.length c27), (4, .int .i64 x29), (5, .int .i64 x41), (24, .bool true), (25, .slice p26 l25.length c27), (27, .int .i64 (IntKind.i64.wrap (x41 - 1))), (30, .slice p0 x0.length c0), (31, .int .i64 x29)] (fun _ _ _ _ _ h => calm_fin (P := Try.prog) (fn := Try.f10) _ _ _ _ _ h) (fun w hs => sat_pulls [0, 0] (G := [] ++ F0) rfl hs) rfl (by kernel_rfl) ?_
            obtain ⟨y43, h44, hF⟩ := bind_some hF
            refine aw_quiet 6 (m' := 895) (v := .pointer (some ((base p26).add ((IntKind.i64.wrap (x41 - 1)).toNat * 1)))) 0 [] rfl rfl rfl rfl (by kernel_rfl) (by kernel_rfl) (by kernel_rfl) (fun _ _ _ _ _ h => calm_fin (P := Try.prog) (fn := Try.f10) _ _ _ _ _ h) (fun w hs => sat_pulls [0, 0] (G := [] ++ F0) rfl hs) (q_index_own 1 1 rfl rfl (by kernel_rfl) rfl rfl (at_some h44).1 (at_lt h44)) ?_
            refine aw_quiet 7 (m' := 1023) (v := .string y43) 0 [] rfl rfl rfl rfl (by kernel_rfl) (by kernel_rfl) (by kernel_rfl) (fun _ _ _ _ _ h => calm_fin (P := Try.prog) (fn := Try.f10) _ _ _ _ _ h) (fun w hs => sat_pulls [0, 0] (G := [] ++ F0) rfl hs) (q_load_own0 1 1 rfl rfl rfl rfl (at_some h44).2 (by kernel_rfl)) ?_
            obtain ⟨y45, h46, hF⟩ := bind_some hF
            refine aw_index_ro (E := 9) 10 (m' := 2047) 1 hr0 rfl rfl rfl rfl rfl (by kernel_rfl) (by kernel_rfl) (fun _ _ _ _ _ h => calm_fin (P := Try.prog) (fn := Try.f10) _ _ _ _ _ h) (fun w hs => sat_pulls [0, 0] (G := [] ++ F0) rfl hs) (by kernel_rfl) rfl rfl rfl h46 fun q47 h48 => ?_
            refine aw_quiet 11 (m' := 4095) (v := .string y45) 0 [] rfl rfl rfl rfl (by kernel_rfl) (by kernel_rfl) (by kernel_rfl) (fun _ _ _ _ _ h => calm_fin (P := Try.prog) (fn := Try.f10) _ _ _ _ _ h) (fun w hs => sat_pulls [0, 0] (G := [] ++ F0) rfl hs) (q_load_el0 0 rfl h48 rfl rfl (by kernel_rfl)) ?_
            refine aw_vals [12, 13] (f' := 0) (m' := 16383) [0, 3, 4, 5, 35] [(0, .slice p0 x0.length c0), (3, .slice p26 l25.length c27), (4, .int .i64 x29), (5, .int .i64 x41), (35, .bool (!((sltB y43 y45) || (seqB y43 y45))))] (fun _ _ _ _ _ h => calm_fin (P := Try.prog) (fn := Try.f10) _ _ _ _ _ h) (fun w hs => sat_pulls [0, 0] (G := [] ++ F0) rfl hs) rfl (by kernel_rfl) ?_
            refine aw_keep [0, 3, 4, 5, 35] (L' := [(0, .slice p0 x0.length c0), (3, .slice p26 l25.length c27), (4, .int .i64 x29), (5, .int .i64 x41), (35, .bool (!((sltB y43 y45) || (seqB y43 y45))))]) rfl ?_
            refine aw_end (by kernel_rfl) ?_
            refine ew_then ?_
            rcases if_some hF with ⟨h49, hF⟩ | ⟨h49, hF⟩
            · refine cw_cond_t rfl rfl h49 ?_
              refine cw_skip ?_
              refine ew_then ?_
              refine cw_block ?_
              refine cw_region ?_
              refine ow_vals 3 (j := 3) [0, 3, 4, 5] [(0, .slice p0 x0.length c0), (3, .slice p26 l25.length c27), (4, .int .i64 x29), (5, .int .i64 (IntKind.i64.wrap (x41 - 1)))] rfl (by kernel_rfl) ?_
              refine ow_end rfl ?_
              refine ew_blk ?_
              have hR := Option.some.inj hF
              subst hR
              have hR := hL40
              try dsimp only at hR
              exact fun a w hf hs => ⟨k, Nat.lt_succ_self k, IntKind.i64.wrap (x41 - 1), hR, hf.keep [0, 3, 4, 5], sat_to [0, 0] 0 rfl hs⟩
            refine cw_cond_f rfl rfl h49 ?_
            refine cw_exit ?_
            refine ew_then_exit ?_
            refine ew_then_exit ?_
            refine ew_blk_exit ?_
            have hR := Option.some.inj hF
            subst hR
            have hR := hL40
            try dsimp only at hR
            exact fun a w hf hs => ⟨x41, hR, hf.keep [0, 3, 4, 5], sat_to [0, 0] 0 rfl hs⟩
          refine aw_slots (L' := [(0, .slice p0 x0.length c0), (3, .slice p26 l25.length c27), (4, .int .i64 x29), (5, .int .i64 x41), (24, .bool false)]) (by rw [h42]) ?_
          refine aw_vals [3, 4, 5, 6, 7, 8, 9, 10, 11, 12, 13] (f' := 0) (m' := 16383) [0, 3, 4, 5, 35] [(0, .slice p0 x0.length c0), (3, .slice p26 l25.length c27), (4, .int .i64 x29), (5, .int .i64 x41), (35, .bool false)] (fun _ _ _ _ _ h => calm_fin (P := Try.prog) (fn := Try.f10) _ _ _ _ _ h) (fun w hs => sat_pulls [0, 0] (G := [] ++ F0) rfl hs) rfl (by kernel_rfl) ?_
          refine aw_keep [0, 3, 4, 5, 35] (L' := [(0, .slice p0 x0.length c0), (3, .slice p26 l25.length c27), (4, .int .i64 x29), (5, .int .i64 x41), (35, .bool false)]) rfl ?_
          refine aw_end (by kernel_rfl) ?_
          refine ew_then ?_
          refine cw_cond_f rfl rfl rfl ?_
          refine cw_exit ?_
          refine ew_then_exit ?_
          refine ew_then_exit ?_
          refine ew_blk_exit ?_
          have hR := Option.some.inj hF
          subst hR
          have hR := hL40
          try dsimp only at hR
          exact fun a w hf hs => ⟨x41, hR, hf.keep [0, 3, 4, 5], sat_to [0, 0] 0 rfl hs⟩
        rintro a w ⟨x50, hv, hf, hs⟩
        subst hv
        replace hF := hK39
        clear hK39
        try dsimp only at hF
        revert a w
        show CW _ _ _ 83 [(0, .slice p0 x0.length c0), (3, .slice p26 l25.length c27), (4, .int .i64 x29), (5, .int .i64 x50)] (SAT w0 ([imm J23, own eStr 9 p26 c27 l25] ++ F0))
        unfold F.law24_tidy.r2 at hF
        obtain ⟨v51, hF, hK51⟩ := thru_some hF
        refine cw_mid (fun a w => .inl () = v51 ∧ Fr 83 [(0, .slice p0 x0.length c0), (3, .slice p26 l25.length c27), (4, .int .i64 x29), (5, .int .i64 x50)] a ∧ SAT w0 ([imm J23, own eStr 9 p26 c27 l25] ++ F0) w) ?_ ?_
        · refine cw_seq ?_
          refine cw_open 14 (SAT w0 ([imm J23, own eStr 9 p26 c27 l25])) (by kernel_rfl) (f := 14) rfl (fun w hs => sat_drew hs) ?_
          refine aw_vals [0, 1, 2] (f' := 11) (m' := 7) [0, 3, 4, 5, 40] [(0, .slice p0 x0.length c0), (3, .slice p26 l25.length c27), (4, .int .i64 x29), (5, .int .i64 x50), (40, .bool (decide (x50 > 0)))] (fun _ _ _ _ _ h => calm_fin (P := Try.prog) (fn := Try.f10) _ _ _ _ _ h) (fun w hs => sat_pulls [0, 0] (G := [] ++ F0) rfl hs) rfl (by kernel_rfl) ?_
          rcases if_some hF with ⟨h52, hF⟩ | ⟨h52, hF⟩
          · refine aw_slots (L' := [(0, .slice p0 x0.length c0), (3, .slice p26 l25.length c27), (4, .int .i64 x29), (5, .int .i64 x50), (40, .bool true)]) (by rw [h52]) ?_
            refine aw_vals [3, 4, 5, 8, 9] (f' := 6) (m' := 831) [0, 3, 4, 5, 40, 41, 43, 46, 47] [(0, .slice p0 x0.length c0), (3, .slice p26 l25.length c27), (4, .int .i64 x29), (5, .int .i64 x50), (40, .bool true), (41, .slice p26 l25.length c27), (43, .int .i64 (IntKind.i64.wrap (x50 - 1))), (46, .slice p0 x0.length c0), (47, .int .i64 x29)] (fun _ _ _ _ _ h => calm_fin (P := Try.prog) (fn := Try.f10) _ _ _ _ _ h) (fun w hs => sat_pulls [0, 0] (G := [] ++ F0) rfl hs) rfl (by kernel_rfl) ?_
            obtain ⟨y53, h54, hF⟩ := bind_some hF
            refine aw_quiet 6 (m' := 895) (v := .pointer (some ((base p26).add ((IntKind.i64.wrap (x50 - 1)).toNat * 1)))) 0 [] rfl rfl rfl rfl (by kernel_rfl) (by kernel_rfl) (by kernel_rfl) (fun _ _ _ _ _ h => calm_fin (P := Try.prog) (fn := Try.f10) _ _ _ _ _ h) (fun w hs => sat_pulls [0, 0] (G := [] ++ F0) rfl hs) (q_index_own 1 1 rfl rfl (by kernel_rfl) rfl rfl (at_some h54).1 (at_lt h54)) ?_
            refine aw_quiet 7 (m' := 1023) (v := .string y53) 0 [] rfl rfl rfl rfl (by kernel_rfl) (by kernel_rfl) (by kernel_rfl) (fun _ _ _ _ _ h => calm_fin (P := Try.prog) (fn := Try.f10) _ _ _ _ _ h) (fun w hs => sat_pulls [0, 0] (G := [] ++ F0) rfl hs) (q_load_own0 1 1 rfl rfl rfl rfl (at_some h54).2 (by kernel_rfl)) ?_
            obtain ⟨y55, h56, hF⟩ := bind_some hF
            refine aw_index_ro (E := 9) 10 (m' := 2047) 1 hr0 rfl rfl rfl rfl rfl (by kernel_rfl) (by kernel_rfl) (fun _ _ _ _ _ h => calm_fin (P := Try.prog) (fn := Try.f10) _ _ _ _ _ h) (fun w hs => sat_pulls [0, 0] (G := [] ++ F0) rfl hs) (by kernel_rfl) rfl rfl rfl h56 fun q57 h58 => ?_
            refine aw_quiet 11 (m' := 4095) (v := .string y55) 0 [] rfl rfl rfl rfl (by kernel_rfl) (by kernel_rfl) (by kernel_rfl) (fun _ _ _ _ _ h => calm_fin (P := Try.prog) (fn := Try.f10) _ _ _ _ _ h) (fun w hs => sat_pulls [0, 0] (G := [] ++ F0) rfl hs) (q_load_el0 0 rfl h58 rfl rfl (by kernel_rfl)) ?_
            refine aw_vals [12, 13] (f' := 0) (m' := 16383) [0, 3, 4, 5, 51] [(0, .slice p0 x0.length c0), (3, .slice p26 l25.length c27), (4, .int .i64 x29), (5, .int .i64 x50), (51, .bool (seqB y53 y55))] (fun _ _ _ _ _ h => calm_fin (P := Try.prog) (fn := Try.f10) _ _ _ _ _ h) (fun w hs => sat_pulls [0, 0] (G := [] ++ F0) rfl hs) rfl (by kernel_rfl) ?_
            refine aw_keep [0, 3, 4, 5, 51] (L' := [(0, .slice p0 x0.length c0), (3, .slice p26 l25.length c27), (4, .int .i64 x29), (5, .int .i64 x50), (51, .bool (seqB y53 y55))]) rfl ?_
            refine aw_end (by kernel_rfl) ?_
            refine ew_then ?_
            rcases if_some hF with ⟨h59, hF⟩ | ⟨h59, hF⟩
            · refine cw_cond_t rfl rfl h59 ?_
              refine cw_exit ?_
              refine ew_then_exit ?_
              refine ew_blk_exit ?_
              have hR := Option.some.inj hF
              subst hR
              have hR := hK51
              try dsimp only [Thru] at hR
              exact fun a w hf hs => ⟨l25, J23, p26, c27, hR, Hl.sub_refl _, hf.keep [0, 3, 4], sat_to [0, 0] 0 rfl hs⟩
            refine cw_cond_f rfl rfl h59 ?_
            refine cw_skip ?_
            have hR := Option.some.inj hF
            exact fun a w hf hs => ⟨hR, hf.keep [0, 3, 4, 5], sat_to [0, 0] 0 rfl hs⟩
          refine aw_slots (L' := [(0, .slice p0 x0.length c0), (3, .slice p26 l25.length c27), (4, .int .i64 x29), (5, .int .i64 x50), (40, .bool false)]) (by rw [h52]) ?_
          refine aw_vals [3, 4, 5, 6, 7, 8, 9, 10, 11, 12, 13] (f' := 0) (m' := 16383) [0, 3, 4, 5, 51] [(0, .slice p0 x0.length c0), (3, .slice p26 l25.length c27), (4, .int .i64 x29), (5, .int .i64 x50), (51, .bool false)] (fun _ _ _ _ _ h => calm_fin (P := Try.prog) (fn := Try.f10) _ _ _ _ _ h) (fun w hs => sat_pulls [0, 0] (G := [] ++ F0) rfl hs) rfl (by kernel_rfl) ?_
          refine aw_keep [0, 3, 4, 5, 51] (L' := [(0, .slice p0 x0.length c0), (3, .slice p26 l25.length c27), (4, .int .i64 x29), (5, .int .i64 x50), (51, .bool false)]) rfl ?_
          refine aw_end (by kernel_rfl) ?_
          refine ew_then ?_
          refine cw_cond_f rfl rfl rfl ?_
          refine cw_skip ?_
          have hR := Option.some.inj hF
          exact fun a w hf hs => ⟨hR, hf.keep [0, 3, 4, 5], sat_to [0, 0] 0 rfl hs⟩
        rintro a w ⟨hv, hf, hs⟩
        subst hv
        replace hF := hK51
        clear hK51
        try dsimp only [Thru] at hF
        revert a w
        show CW _ _ _ 83 [(0, .slice p0 x0.length c0), (3, .slice p26 l25.length c27), (4, .int .i64 x29), (5, .int .i64 x50)] (SAT w0 ([imm J23, own eStr 9 p26 c27 l25] ++ F0))
        unfold F.law24_tidy.r3 at hF
        refine cw_seq ?_
        refine cw_region ?_
        refine ow_pw rfl (pw_buildSlice (E := 9) eStr ([] : List ByteArray) rfl rfl rfl rfl rfl (by kernel_rfl) rfl (by kernel_rfl) rfl (by decide) rfl fun p60 => nw_ow ?_)
        refine ow_vals 2 (j := 3) [0, 3, 4, 5, 52, 53, 54] [(0, .slice p0 x0.length c0), (3, .slice p26 l25.length c27), (4, .int .i64 x29), (5, .int .i64 x50), (52, .slice p60 ([] : List ByteArray).length 0), (53, .slice p26 l25.length c27), (54, .int .i64 x50)] rfl (by kernel_rfl) ?_
        refine ow_freeze (fun w hs => sat_to [1, 1] 0 (F := [imm J23, own eStr 9 p26 c27 l25, own eStr 9 p60 0 ([] : List ByteArray)] ++ F0) rfl hs) fun J62 h63 h64 => ?_
        have hr0 := ro.sub h63 hr0
        refine ow_H (H' := [imm J62, own eStr 9 p60 0 ([] : List ByteArray)] ++ F0) rfl ?_
        obtain ⟨h65, hF⟩ := chk_some hF
        refine ow_pw rfl (pw_slice_ro (E := 9) 1 h64 rfl rfl rfl rfl rfl (by kernel_rfl) rfl rfl rfl rfl h65 fun p66 c67 h68 => nw_ow ?_)
        obtain ⟨h69, hF⟩ := chk_some hF
        refine ow_pw rfl (pw_append 1 (l' := (l25.drop x50.toNat).take ((l25.length : Int).toNat - x50.toNat)) rfl rfl rfl rfl rfl rfl (by kernel_rfl) (by kernel_rfl) rfl rfl rfl (src_ro (E' := 9) 0 rfl h68 (by kernel_rfl) rfl) rfl h69.1 h69.2 fun p70 c71 => nw_H (H' := [imm J62, own eStr 9 p70 c71 (([] : List ByteArray) ++ ((l25.drop x50.toNat).take ((l25.length : Int).toNat - x50.toNat)))] ++ F0) rfl (nw_ow ?_))
        refine ow_vals 1 (j := 6) [0, 3, 4, 5, 6] [(0, .slice p0 x0.length c0), (3, .slice p26 l25.length c27), (4, .int .i64 x29), (5, .int .i64 x50), (6, .slice p70 (([] : List ByteArray) ++ ((l25.drop x50.toNat).take ((l25.length : Int).toNat - x50.toNat))).length c71)] rfl (by kernel_rfl) ?_
        refine ow_end rfl ?_
        refine ew_then ?_
        refine cw_seq ?_
        refine cw_region ?_
        refine ow_pw rfl (pw_buildSlice (E := 9) eStr ([] : List ByteArray) rfl rfl rfl rfl rfl (by kernel_rfl) rfl (by kernel_rfl) rfl (by decide) rfl fun p72 => nw_ow ?_)
        refine ow_vals 2 (j := 3) [0, 4, 6, 57, 58, 59] [(0, .slice p0 x0.length c0), (4, .int .i64 x29), (6, .slice p70 (([] : List ByteArray) ++ ((l25.drop x50.toNat).take ((l25.length : Int).toNat - x50.toNat))).length c71), (57, .slice p72 ([] : List ByteArray).length 0), (58, .slice p26 l25.length c27), (59, .int .i64 x50)] rfl (by kernel_rfl) ?_
        obtain ⟨h74, hF⟩ := chk_some hF
        refine ow_pw rfl (pw_slice_ro (E := 9) 1 h64 rfl rfl rfl rfl rfl (by kernel_rfl) rfl rfl rfl rfl h74 fun p75 c76 h77 => nw_ow ?_)
        obtain ⟨h78, hF⟩ := chk_some hF
        refine ow_pw rfl (pw_append 0 (l' := (l25.drop (0 : Int).toNat).take (x50.toNat - (0 : Int).toNat)) rfl rfl rfl rfl rfl rfl (by kernel_rfl) (by kernel_rfl) rfl rfl rfl (src_ro (E' := 9) 1 rfl h77 (by kernel_rfl) rfl) rfl h78.1 h78.2 fun p79 c80 => nw_H (H' := [own eStr 9 p79 c80 (([] : List ByteArray) ++ ((l25.drop (0 : Int).toNat).take (x50.toNat - (0 : Int).toNat))), imm J62, own eStr 9 p70 c71 (([] : List ByteArray) ++ ((l25.drop x50.toNat).take ((l25.length : Int).toNat - x50.toNat)))] ++ F0) rfl (nw_ow ?_))
        refine ow_vals 1 (j := 6) [0, 3, 4, 6] [(0, .slice p0 x0.length c0), (3, .slice p79 (([] : List ByteArray) ++ ((l25.drop (0 : Int).toNat).take (x50.toNat - (0 : Int).toNat))).length c80), (4, .int .i64 x29), (6, .slice p70 (([] : List ByteArray) ++ ((l25.drop x50.toNat).take ((l25.length : Int).toNat - x50.toNat))).length c71)] rfl (by kernel_rfl) ?_
        refine ow_end rfl ?_
        refine ew_then ?_
        refine cw_seq ?_
        refine cw_region ?_
        refine ow_vals 3 (j := 3) [0, 4, 6, 62, 63, 64] [(0, .slice p0 x0.length c0), (4, .int .i64 x29), (6, .slice p70 (([] : List ByteArray) ++ ((l25.drop x50.toNat).take ((l25.length : Int).toNat - x50.toNat))).length c71), (62, .slice p79 (([] : List ByteArray) ++ ((l25.drop (0 : Int).toNat).take (x50.toNat - (0 : Int).toNat))).length c80), (63, .slice p0 x0.length c0), (64, .int .i64 x29)] rfl (by kernel_rfl) ?_
        obtain ⟨y81, h82, hF⟩ := bind_some hF
        refine ow_pw rfl (pw_index_ro (E := 9) 1 hr0 rfl rfl rfl rfl rfl (by kernel_rfl) rfl rfl rfl h82 fun q83 h84 => nw_ow ?_)
        refine ow_pw rfl (pw_quiet (v := .string y81) rfl rfl rfl rfl (q_load_el0 1 rfl h84 rfl rfl (by kernel_rfl)) (nw_ow ?_))
        refine ow_pw rfl (pw_buildSlice (E := 9) eStr ([y81] : List ByteArray) rfl rfl rfl rfl rfl (by kernel_rfl) rfl (by kernel_rfl) rfl (by decide) rfl fun p85 => nw_ow ?_)
        obtain ⟨h87, hF⟩ := chk_some hF
        refine ow_pw rfl (pw_append 1 (l' := ([y81] : List ByteArray)) rfl rfl rfl rfl rfl rfl (by kernel_rfl) (by kernel_rfl) rfl rfl rfl (src_own (E' := 9) 0 rfl (by kernel_rfl) rfl) rfl h87.1 h87.2 fun p88 c89 => nw_H (H' := [own eStr 9 p85 1 ([y81] : List ByteArray), own eStr 9 p88 c89 ((([] : List ByteArray) ++ ((l25.drop (0 : Int).toNat).take (x50.toNat - (0 : Int).toNat))) ++ ([y81] : List ByteArray)), imm J62, own eStr 9 p70 c71 (([] : List ByteArray) ++ ((l25.drop x50.toNat).take ((l25.length : Int).toNat - x50.toNat)))] ++ F0) rfl (nw_ow ?_))
        refine ow_vals 1 (j := 8) [0, 3, 4, 6] [(0, .slice p0 x0.length c0), (3, .slice p88 ((([] : List ByteArray) ++ ((l25.drop (0 : Int).toNat).take (x50.toNat - (0 : Int).toNat))) ++ ([y81] : List ByteArray)).length c89), (4, .int .i64 x29), (6, .slice p70 (([] : List ByteArray) ++ ((l25.drop x50.toNat).take ((l25.length : Int).toNat - x50.toNat))).length c71)] rfl (by kernel_rfl) ?_
        refine ow_end rfl ?_
        refine ew_then ?_
        refine cw_seq ?_
        refine cw_region ?_
        refine ow_vals 1 (j := 1) [0, 3, 4, 6, 7] [(0, .slice p0 x0.length c0), (3, .slice p88 ((([] : List ByteArray) ++ ((l25.drop (0 : Int).toNat).take (x50.toNat - (0 : Int).toNat))) ++ ([y81] : List ByteArray)).length c89), (4, .int .i64 x29), (6, .slice p70 (([] : List ByteArray) ++ ((l25.drop x50.toNat).take ((l25.length : Int).toNat - x50.toNat))).length c71), (7, .int .i64 0)] rfl (by kernel_rfl) ?_
        refine ow_end rfl ?_
        refine ew_then ?_
        refine cw_block ?_
        refine fun a w hf hs => wp_rounds (fun k a w => ∃ (l91 : List ByteArray), ∃ (x95 : Int), ∃ (p92 : Option Addr), ∃ (c93 : Nat), iter (fun x => F.law24_tidy.l4 l25 x50 x.1 x.2) k (l91, x95) = some v31 ∧ Fr 83 [(0, .slice p0 x0.length c0), (3, .slice p92 l91.length c93), (4, .int .i64 x29), (6, .slice p70 (([] : List ByteArray) ++ ((l25.drop x50.toNat).take ((l25.length : Int).toNat - x50.toNat))).length c71), (7, .int .i64 x95)] a ∧ SAT w0 ([imm J62, own eStr 9 p92 c93 l91, own eStr 9 p70 c71 (([] : List ByteArray) ++ ((l25.drop x50.toNat).take ((l25.length : Int).toNat - x50.toNat)))] ++ F0) w) ?_ FUEL a w ⟨(([] : List ByteArray) ++ ((l25.drop (0 : Int).toNat).take (x50.toNat - (0 : Int).toNat))) ++ ([y81] : List ByteArray), 0, p88, c89, hF, hf.keep [0, 3, 4, 6, 7], sat_to [0, 1, 0, 0] 1 rfl hs⟩
        clear hf hs
        clear a w hF
        rintro k a w ⟨l91, x95, p92, c93, hF2, hf, hs⟩
        obtain ⟨k, r90, rfl, hF, hL90⟩ := iter_some hF2
        clear hF2
        revert a w
        show CW _ _ _ 83 [(0, .slice p0 x0.length c0), (3, .slice p92 l91.length c93), (4, .int .i64 x29), (6, .slice p70 (([] : List ByteArray) ++ ((l25.drop x50.toNat).take ((l25.length : Int).toNat - x50.toNat))).length c71), (7, .int .i64 x95)] (SAT w0 ([imm J62, own eStr 9 p92 c93 l91, own eStr 9 p70 c71 (([] : List ByteArray) ++ ((l25.drop x50.toNat).take ((l25.length : Int).toNat - x50.toNat)))] ++ F0))
        try dsimp only at hF
        unfold F.law24_tidy.l4 at hF
        refine cw_seq ?_
        refine cw_seq ?_
        refine cw_region ?_
        refine ow_vals 4 (j := 4) [0, 3, 4, 6, 7, 72] [(0, .slice p0 x0.length c0), (3, .slice p92 l91.length c93), (4, .int .i64 x29), (6, .slice p70 (([] : List ByteArray) ++ ((l25.drop x50.toNat).take ((l25.length : Int).toNat - x50.toNat))).length c71), (7, .int .i64 x95), (72, .bool (decide (x95 < ((([] : List ByteArray) ++ ((l25.drop x50.toNat).take ((l25.length : Int).toNat - x50.toNat))).length : Int))))] rfl (by kernel_rfl) ?_
        refine ow_end rfl ?_
        refine ew_then ?_
        rcases if_some hF with ⟨h96, hF⟩ | ⟨h96, hF⟩
        · refine cw_cond_t rfl rfl h96 ?_
          refine cw_skip ?_
          refine ew_then ?_
          refine cw_seq ?_
          refine cw_block ?_
          refine cw_region ?_
          refine ow_vals 3 (j := 3) [0, 4, 6, 7, 75, 76, 77] [(0, .slice p0 x0.length c0), (4, .int .i64 x29), (6, .slice p70 (([] : List ByteArray) ++ ((l25.drop x50.toNat).take ((l25.length : Int).toNat - x50.toNat))).length c71), (7, .int .i64 x95), (75, .slice p92 l91.length c93), (76, .slice p70 (([] : List ByteArray) ++ ((l25.drop x50.toNat).take ((l25.length : Int).toNat - x50.toNat))).length c71), (77, .int .i64 x95)] rfl (by kernel_rfl) ?_
          obtain ⟨y97, h98, hF⟩ := bind_some hF
          refine ow_pw rfl (pw_quiet (v := .pointer (some ((base p70).add (x95.toNat * 1)))) rfl rfl rfl rfl (q_index_own 2 1 rfl rfl (by kernel_rfl) rfl rfl (at_some h98).1 (at_lt h98)) (nw_ow ?_))
          refine ow_pw rfl (pw_quiet (v := .string y97) rfl rfl rfl rfl (q_load_own0 2 1 rfl rfl rfl rfl (at_some h98).2 (by kernel_rfl)) (nw_ow ?_))
          refine ow_pw rfl (pw_buildSlice (E := 9) eStr ([y97] : List ByteArray) rfl rfl rfl rfl rfl (by kernel_rfl) rfl (by kernel_rfl) rfl (by decide) rfl fun p99 => nw_ow ?_)
          obtain ⟨h101, hF⟩ := chk_some hF
          refine ow_pw rfl (pw_append 2 (l' := ([y97] : List ByteArray)) rfl rfl rfl rfl rfl rfl (by kernel_rfl) (by kernel_rfl) rfl rfl rfl (src_own (E' := 9) 0 rfl (by kernel_rfl) rfl) rfl h101.1 h101.2 fun p102 c103 => nw_H (H' := [own eStr 9 p99 1 ([y97] : List ByteArray), imm J62, own eStr 9 p102 c103 (l91 ++ ([y97] : List ByteArray)), own eStr 9 p70 c71 (([] : List ByteArray) ++ ((l25.drop x50.toNat).take ((l25.length : Int).toNat - x50.toNat)))] ++ F0) rfl (nw_ow ?_))
          refine ow_vals 1 (j := 8) [0, 3, 4, 6, 7] [(0, .slice p0 x0.length c0), (3, .slice p102 (l91 ++ ([y97] : List ByteArray)).length c103), (4, .int .i64 x29), (6, .slice p70 (([] : List ByteArray) ++ ((l25.drop x50.toNat).take ((l25.length : Int).toNat - x50.toNat))).length c71), (7, .int .i64 x95)] rfl (by kernel_rfl) ?_
          refine ow_end rfl ?_
          refine ew_blk ?_
          refine ew_then ?_
          refine cw_region ?_
          refine ow_vals 3 (j := 3) [0, 3, 4, 6, 7] [(0, .slice p0 x0.length c0), (3, .slice p102 (l91 ++ ([y97] : List ByteArray)).length c103), (4, .int .i64 x29), (6, .slice p70 (([] : List ByteArray) ++ ((l25.drop x50.toNat).take ((l25.length : Int).toNat - x50.toNat))).length c71), (7, .int .i64 (IntKind.i64.wrap (x95 + 1)))] rfl (by kernel_rfl) ?_
          refine ow_end rfl ?_
          have hR := Option.some.inj hF
          subst hR
          have hR := hL90
          try dsimp only at hR
          exact fun a w hf hs => ⟨k, Nat.lt_succ_self k, l91 ++ ([y97] : List ByteArray), IntKind.i64.wrap (x95 + 1), p102, c103, hR, hf.keep [0, 3, 4, 6, 7], sat_to [0, 0, 0, 0] 1 rfl hs⟩
        refine cw_cond_f rfl rfl h96 ?_
        refine cw_exit ?_
        refine ew_then_exit ?_
        refine ew_then_exit ?_
        refine ew_blk_exit ?_
        refine ew_blk ?_
        have hR := Option.some.inj hF
        subst hR
        have hR := hL90
        try dsimp only at hR
        exact fun a w hf hs => ⟨l91, J62, p92, c93, hR, h63, hf.keep [0, 3, 4], sat_to [2, 0, 0] 1 rfl hs⟩
      rintro a w ⟨l106, J104, p107, c108, hv, h105, hf, hs⟩
      subst hv
      replace hF := hK31
      clear hK31
      try dsimp only at hF
      revert a w
      show CW _ _ _ 83 [(0, .slice p0 x0.length c0), (3, .slice p107 l106.length c108), (4, .int .i64 x29)] (SAT w0 ([imm J104, own eStr 9 p107 c108 l106] ++ F0))
      unfold F.law24_tidy.r5 at hF
      have hr0 := ro.sub h105 hr0
      refine cw_region ?_
      refine ow_vals 3 (j := 3) [0, 3, 4] [(0, .slice p0 x0.length c0), (3, .slice p107 l106.length c108), (4, .int .i64 (IntKind.i64.wrap (x29 + 1)))] rfl (by kernel_rfl) ?_
      refine ow_end rfl ?_
      have hR := Option.some.inj hF
      subst hR
      have hR := hL22
      try dsimp only at hR
      exact fun a w hf hs => ⟨k, Nat.lt_succ_self k, l106, IntKind.i64.wrap (x29 + 1), J104, p107, c108, hR, (Hl.sub_trans h24 h105), hf.keep [0, 3, 4], sat_to [0, 0] 0 rfl hs⟩
    refine cw_cond_f rfl rfl h30 ?_
    refine cw_exit ?_
    refine ew_then_exit ?_
    refine ew_then_exit ?_
    refine ew_blk_exit ?_
    have hR := Option.some.inj hF
    subst hR
    have hR := hL22
    try dsimp only at hR
    exact fun a w hf hs => ⟨l25, J23, p26, c27, hR, h24, hf.keep [3], sat_to [0, 0] 0 rfl hs⟩
  rintro a w ⟨l112, J110, p113, c114, hv, h111, hf, hs⟩
  subst hv
  replace hF := hK21
  clear hK21
  try dsimp only at hF
  revert a w
  show CW _ _ _ 83 [(3, .slice p113 l112.length c114)] (SAT w0 ([imm J110, own eStr 9 p113 c114 l112] ++ F0))
  unfold F.law24_tidy.r7 at hF
  refine cw_seq ?_
  refine cw_region ?_
  refine ow_vals 2 (j := 2) [2] [(2, .slice p113 l112.length c114)] rfl (by kernel_rfl) ?_
  refine ow_end rfl ?_
  refine ew_then ?_
  refine cw_ret ?_
  have hR := Option.some.inj hF
  subst hR
  exact fin1 (H1 := [imm J110, own eStr 9 p113 c114 l112]) (fun w hs => sat_to [0, 0] 0 rfl hs) rfl (rr_tmp rfl) ⟨J110, p113, c114, rfl, rfl, h111⟩


def F.law24_leaves.l1 (x1 : List ByteArray) (l23 : List ByteArray) (x27 : Int) (l28 : List (ByteArray × ByteArray)) (l31 : List (ByteArray × ByteArray)) (s34 : ByteArray) (s35 : ByteArray) (x36 : Bool) (x37 : Bool) (x38 : Int) : Option (((List ByteArray) × Int × (List (ByteArray × ByteArray)) × (List (ByteArray × ByteArray)) × ByteArray × ByteArray × Bool × Bool × Int) ⊕ ((List ByteArray) × (List (ByteArray × ByteArray)) × (List (ByteArray × ByteArray)) × ByteArray × ByteArray × Bool × Bool × Int)) :=
  if decide (x27 < (x1.length : Int)) then (Option.bind (at_ x1 x27) (fun (y40 : ByteArray) => Option.bind (F.octet_Text y40) (fun (r44 : ByteArray) => chk ((ByteArray.mk #[105, 100]).size + r44.size ≤ 9223372036854775807) (Option.bind (F.pledge_Leaf ((ByteArray.mk #[105, 100]) ++ r44) (⟨l28, l31, (⟨s34, s35⟩ : A2_ByteArray), x36, x37, x38⟩ : mill_Mill)) (fun (r47 : ByteArray × mill_Mill) => chk (room (l23.length + ([r47.1] : List ByteArray).length) 16) (some (.inl (l23 ++ ([r47.1] : List ByteArray), IntKind.i64.wrap (x27 + 1), r47.2.table_, r47.2.notes_, r47.2.twins_.e0, r47.2.twins_.e1, r47.2.found_, r47.2.full_, r47.2.sums_)))))))) else (some (.inr ((l23, l28, l31, s34, s35, x36, x37, x38))))
def F.law24_leaves.r2 (l56 : List ByteArray) (l60 : List (ByteArray × ByteArray)) (l63 : List (ByteArray × ByteArray)) (s66 : ByteArray) (s67 : ByteArray) (x68 : Bool) (x69 : Bool) (x70 : Int) : Option ((List ByteArray) × mill_Mill) :=
  some ((l56, (⟨l60, l63, (⟨s66, s67⟩ : A2_ByteArray), x68, x69, x70⟩ : mill_Mill)))
def F.law24_leaves (x1 : List ByteArray) (m0 : mill_Mill) : Option ((List ByteArray) × mill_Mill) :=
  Option.bind (iter (fun x => F.law24_leaves.l1 x1 x.1 x.2.1 x.2.2.1 x.2.2.2.1 x.2.2.2.2.1 x.2.2.2.2.2.1 x.2.2.2.2.2.2.1 x.2.2.2.2.2.2.2.1 x.2.2.2.2.2.2.2.2) FUEL ([], 0, m0.table_, m0.notes_, m0.twins_.e0, m0.twins_.e1, m0.found_, m0.full_, m0.sums_)) (fun x => F.law24_leaves.r2 x.1 x.2.1 x.2.2.1 x.2.2.2.1 x.2.2.2.2.1 x.2.2.2.2.2.1 x.2.2.2.2.2.2.1 x.2.2.2.2.2.2.2)
set_option maxRecDepth 100000 in
set_option maxHeartbeats 4000000 in
theorem c_law24_leaves (I : Hl) (x1 : List ByteArray) (m0 : mill_Mill) (p0 : Option Addr) (c0 : Nat) (p1 : Nat) (p2 : Nat) (b0 : Nat) (res : (List ByteArray) × mill_Mill) (hF : F.law24_leaves x1 m0 = some res) (hr0 : ro I eStr p0 c0 x1) : Tr Try.prog 15 [.pointer (some ⟨b0, 0, none⟩), .slice p0 x1.length c0] [imm I, pt b0 #[.map (some p1), .map (some p2), .string m0.twins_.e0, .string m0.twins_.e1, .bool m0.found_, .bool m0.full_, .int .i64 m0.sums_] 64, mpo kStr kStr p1 m0.table_, mpo kStr kStr p2 m0.notes_] (fun r H' => ∃ (pq1 : Option Addr), ∃ (cq2 : Nat), ∃ (bq4 : Nat), ∃ (bq6 : Nat), r = .slice pq1 res.1.length cq2 ∧ H' = [imm I, pt b0 #[.map (some bq4), .map (some bq6), .string res.2.twins_.e0, .string res.2.twins_.e1, .bool res.2.found_, .bool res.2.full_, .int .i64 res.2.sums_] 64, own eStr 9 pq1 cq2 res.1, mpo kStr kStr bq4 res.2.table_, mpo kStr kStr bq6 res.2.notes_]) := by
  unfold F.law24_leaves at hF
  refine tr_of_cw (fn := Try.f15) Try.func15 rfl (Nat.le_of_ble_eq_true rfl) 25 rfl fun F0 w0 => ?_
  refine cw_keep [0, 1] (L' := [(0, .pointer (some ⟨b0, 0, none⟩)), (1, .slice p0 x1.length c0)]) rfl ?_
  refine cw_state (S' := SAT w0 ([imm I, pt b0 #[.map (some p1), .map (some p2), .string m0.twins_.e0, .string m0.twins_.e1, .bool m0.found_, .bool m0.full_, .int .i64 m0.sums_] 64, mpo kStr kStr p1 m0.table_, mpo kStr kStr p2 m0.notes_] ++ F0)) (fun w hs => hs) ?_
  refine cw_seq ?_
  refine cw_region ?_
  refine ow_vals 1 (j := 1) [0, 1] [(0, .pointer (some ⟨b0, 0, none⟩)), (1, .slice p0 x1.length c0)] rfl (by kernel_rfl) ?_
  refine ow_end rfl ?_
  refine ew_then ?_
  refine cw_seq ?_
  refine cw_region ?_
  refine ow_vals 1 (j := 1) [0, 1, 5] [(0, .pointer (some ⟨b0, 0, none⟩)), (1, .slice p0 x1.length c0), (5, .slice none 0 0)] rfl (by kernel_rfl) ?_
  refine ow_end rfl ?_
  refine ew_then ?_
  obtain ⟨v21, hF, hK21⟩ := bind_some hF
  refine cw_mid (fun a w => ∃ (l56 : List ByteArray), ∃ (l60 : List (ByteArray × ByteArray)), ∃ (l63 : List (ByteArray × ByteArray)), ∃ (s66 : ByteArray), ∃ (s67 : ByteArray), ∃ (x68 : Bool), ∃ (x69 : Bool), ∃ (x70 : Int), ∃ (p57 : Option Addr), ∃ (c58 : Nat), ∃ (b62 : Nat), ∃ (b65 : Nat), (l56, l60, l63, s66, s67, x68, x69, x70) = v21 ∧ Fr 25 [(5, .slice p57 l56.length c58)] a ∧ SAT w0 ([imm I, pt b0 #[.map (some b62), .map (some b65), .string s66, .string s67, .bool x68, .bool x69, .int .i64 x70] 64, own eStr 9 p57 c58 l56, mpo kStr kStr b62 l60, mpo kStr kStr b65 l63] ++ F0) w) ?_ ?_
  · refine cw_seq ?_
    refine cw_region ?_
    refine ow_vals 1 (j := 1) [0, 1, 5, 6] [(0, .pointer (some ⟨b0, 0, none⟩)), (1, .slice p0 x1.length c0), (5, .slice none 0 0), (6, .int .i64 0)] rfl (by kernel_rfl) ?_
    refine ow_end rfl ?_
    refine ew_then ?_
    refine cw_block ?_
    refine fun a w hf hs => wp_rounds (fun k a w => ∃ (l23 : List ByteArray), ∃ (x27 : Int), ∃ (l28 : List (ByteArray × ByteArray)), ∃ (l31 : List (ByteArray × ByteArray)), ∃ (s34 : ByteArray), ∃ (s35 : ByteArray), ∃ (x36 : Bool), ∃ (x37 : Bool), ∃ (x38 : Int), ∃ (p24 : Option Addr), ∃ (c25 : Nat), ∃ (b30 : Nat), ∃ (b33 : Nat), iter (fun x => F.law24_leaves.l1 x1 x.1 x.2.1 x.2.2.1 x.2.2.2.1 x.2.2.2.2.1 x.2.2.2.2.2.1 x.2.2.2.2.2.2.1 x.2.2.2.2.2.2.2.1 x.2.2.2.2.2.2.2.2) k (l23, x27, l28, l31, s34, s35, x36, x37, x38) = some v21 ∧ Fr 25 [(0, .pointer (some ⟨b0, 0, none⟩)), (1, .slice p0 x1.length c0), (5, .slice p24 l23.length c25), (6, .int .i64 x27)] a ∧ SAT w0 ([imm I, pt b0 #[.map (some b30), .map (some b33), .string s34, .string s35, .bool x36, .bool x37, .int .i64 x38] 64, own eStr 9 p24 c25 l23, mpo kStr kStr b30 l28, mpo kStr kStr b33 l31] ++ F0) w) ?_ FUEL a w ⟨[], 0, m0.table_, m0.notes_, m0.twins_.e0, m0.twins_.e1, m0.found_, m0.full_, m0.sums_, none, 0, p1, p2, hF, hf.keep [0, 1, 5, 6], sat_to [1, 1, 0, 0, 0] 0 rfl (sat_own_nil eStr 9 hs)⟩
    clear hf hs
    clear a w hF
    rintro k a w ⟨l23, x27, l28, l31, s34, s35, x36, x37, x38, p24, c25, b30, b33, hF2, hf, hs⟩
    obtain ⟨k, r22, rfl, hF, hL22⟩ := iter_some hF2
    clear hF2
    revert a w
    show CW _ _ _ 25 [(0, .pointer (some ⟨b0, 0, none⟩)), (1, .slice p0 x1.length c0), (5, .slice p24 l23.length c25), (6, .int .i64 x27)] (SAT w0 ([imm I, pt b0 #[.map (some b30), .map (some b33), .string s34, .string s35, .bool x36, .bool x37, .int .i64 x38] 64, own eStr 9 p24 c25 l23, mpo kStr kStr b30 l28, mpo kStr kStr b33 l31] ++ F0))
    try dsimp only at hF
    unfold F.law24_leaves.l1 at hF
    refine cw_seq ?_
    refine cw_seq ?_
    refine cw_region ?_
    refine ow_vals 4 (j := 4) [0, 1, 5, 6, 10] [(0, .pointer (some ⟨b0, 0, none⟩)), (1, .slice p0 x1.length c0), (5, .slice p24 l23.length c25), (6, .int .i64 x27), (10, .bool (decide (x27 < (x1.length : Int))))] rfl (by kernel_rfl) ?_
    refine ow_end rfl ?_
    refine ew_then ?_
    rcases if_some hF with ⟨h39, hF⟩ | ⟨h39, hF⟩
    · refine cw_cond_t rfl rfl h39 ?_
      refine cw_skip ?_
      refine ew_then ?_
      refine cw_seq ?_
      refine cw_block ?_
      refine cw_region ?_
      refine ow_vals 4 (j := 4) [0, 1, 6, 13, 14, 15, 16] [(0, .pointer (some ⟨b0, 0, none⟩)), (1, .slice p0 x1.length c0), (6, .int .i64 x27), (13, .slice p24 l23.length c25), (14, .pointer (some ⟨b0, 0, none⟩)), (15, .slice p0 x1.length c0), (16, .int .i64 x27)] rfl (by kernel_rfl) ?_
      obtain ⟨y40, h41, hF⟩ := bind_some hF
      refine ow_pw rfl (pw_index_ro (E := 9) 1 hr0 rfl rfl rfl rfl rfl (by kernel_rfl) rfl rfl rfl h41 fun q42 h43 => nw_ow ?_)
      refine ow_pw rfl (pw_quiet (v := .string y40) rfl rfl rfl rfl (q_load_el0 0 rfl h43 rfl rfl (by kernel_rfl)) (nw_ow ?_))
      obtain ⟨r44, h45, hF⟩ := bind_some hF
      refine ow_pw rfl (pw_call (F := [pt b0 #[.map (some b30), .map (some b33), .string s34, .string s35, .bool x36, .bool x37, .int .i64 x38] 64, own eStr 9 p24 c25 l23, mpo kStr kStr b30 l28, mpo kStr kStr b33 l31] ++ F0) rfl rfl rfl rfl rfl rfl rfl (by kernel_rfl) (perm_of_pulls [0] rfl) (c_octet_Text _ y40 r44 h45) ?_)
      rintro _ _ ⟨rfl, rfl⟩
      refine nw_H (H' := [imm I, pt b0 #[.map (some b30), .map (some b33), .string s34, .string s35, .bool x36, .bool x37, .int .i64 x38] 64, own eStr 9 p24 c25 l23, mpo kStr kStr b30 l28, mpo kStr kStr b33 l31] ++ F0) rfl (nw_ow ?_)
      obtain ⟨h46, hF⟩ := chk_some hF
      refine ow_pw rfl (pw_quiet (v := .string ((ByteArray.mk #[105, 100]) ++ r44)) rfl rfl rfl rfl (q_concat rfl rfl rfl h46) (nw_ow ?_))
      obtain ⟨r47, h48, hF⟩ := bind_some hF
      refine ow_pw rfl (pw_call (F := [own eStr 9 p24 c25 l23] ++ F0) rfl rfl rfl rfl rfl rfl rfl (by kernel_rfl) (perm_of_pulls [0, 0, 1, 1] rfl) (c_pledge_Leaf _ ((ByteArray.mk #[105, 100]) ++ r44) (⟨l28, l31, (⟨s34, s35⟩ : A2_ByteArray), x36, x37, x38⟩ : mill_Mill) b30 b33 b0 r47 h48) ?_)
      rintro _ _ ⟨r47_b1, r47_b3, rfl, rfl⟩
      refine nw_H (H' := [imm I, pt b0 #[.map (some r47_b1), .map (some r47_b3), .string r47.2.twins_.e0, .string r47.2.twins_.e1, .bool r47.2.found_, .bool r47.2.full_, .int .i64 r47.2.sums_] 64, mpo kStr kStr r47_b1 r47.2.table_, mpo kStr kStr r47_b3 r47.2.notes_, own eStr 9 p24 c25 l23] ++ F0) rfl (nw_ow ?_)
      refine ow_pw rfl (pw_buildSlice (E := 9) eStr ([r47.1] : List ByteArray) rfl rfl rfl rfl rfl (by kernel_rfl) rfl (by kernel_rfl) rfl (by decide) rfl fun p51 => nw_ow ?_)
      obtain ⟨h53, hF⟩ := chk_some hF
      refine ow_pw rfl (pw_append 5 (l' := ([r47.1] : List ByteArray)) rfl rfl rfl rfl rfl rfl (by kernel_rfl) (by kernel_rfl) rfl rfl rfl (src_own (E' := 9) 0 rfl (by kernel_rfl) rfl) rfl h53.1 h53.2 fun p54 c55 => nw_H (H' := [own eStr 9 p51 1 ([r47.1] : List ByteArray), imm I, pt b0 #[.map (some r47_b1), .map (some r47_b3), .string r47.2.twins_.e0, .string r47.2.twins_.e1, .bool r47.2.found_, .bool r47.2.full_, .int .i64 r47.2.sums_] 64, mpo kStr kStr r47_b1 r47.2.table_, mpo kStr kStr r47_b3 r47.2.notes_, own eStr 9 p54 c55 (l23 ++ ([r47.1] : List ByteArray))] ++ F0) rfl (nw_ow ?_))
      refine ow_vals 1 (j := 12) [0, 1, 5, 6] [(0, .pointer (some ⟨b0, 0, none⟩)), (1, .slice p0 x1.length c0), (5, .slice p54 (l23 ++ ([r47.1] : List ByteArray)).length c55), (6, .int .i64 x27)] rfl (by kernel_rfl) ?_
      refine ow_end rfl ?_
      refine ew_blk ?_
      refine ew_then ?_
      refine cw_region ?_
      refine ow_vals 3 (j := 3) [0, 1, 5, 6] [(0, .pointer (some ⟨b0, 0, none⟩)), (1, .slice p0 x1.length c0), (5, .slice p54 (l23 ++ ([r47.1] : List ByteArray)).length c55), (6, .int .i64 (IntKind.i64.wrap (x27 + 1)))] rfl (by kernel_rfl) ?_
      refine ow_end rfl ?_
      have hR := Option.some.inj hF
      subst hR
      have hR := hL22
      try dsimp only at hR
      exact fun a w hf hs => ⟨k, Nat.lt_succ_self k, l23 ++ ([r47.1] : List ByteArray), IntKind.i64.wrap (x27 + 1), r47.2.table_, r47.2.notes_, r47.2.twins_.e0, r47.2.twins_.e1, r47.2.found_, r47.2.full_, r47.2.sums_, p54, c55, r47_b1, r47_b3, hR, hf.keep [0, 1, 5, 6], sat_to [0, 0, 0, 2, 0, 0] 1 rfl hs⟩
    refine cw_cond_f rfl rfl h39 ?_
    refine cw_exit ?_
    refine ew_then_exit ?_
    refine ew_then_exit ?_
    refine ew_blk_exit ?_
    have hR := Option.some.inj hF
    subst hR
    have hR := hL22
    try dsimp only at hR
    exact fun a w hf hs => ⟨l23, l28, l31, s34, s35, x36, x37, x38, p24, c25, b30, b33, hR, hf.keep [5], sat_to [0, 0, 0, 0, 0] 0 rfl hs⟩
  rintro a w ⟨l56, l60, l63, s66, s67, x68, x69, x70, p57, c58, b62, b65, hv, hf, hs⟩
  subst hv
  replace hF := hK21
  clear hK21
  try dsimp only at hF
  revert a w
  show CW _ _ _ 25 [(5, .slice p57 l56.length c58)] (SAT w0 ([imm I, pt b0 #[.map (some b62), .map (some b65), .string s66, .string s67, .bool x68, .bool x69, .int .i64 x70] 64, own eStr 9 p57 c58 l56, mpo kStr kStr b62 l60, mpo kStr kStr b65 l63] ++ F0))
  unfold F.law24_leaves.r2 at hF
  refine cw_seq ?_
  refine cw_region ?_
  refine ow_vals 2 (j := 2) [4] [(4, .slice p57 l56.length c58)] rfl (by kernel_rfl) ?_
  refine ow_end rfl ?_
  refine ew_then ?_
  refine cw_ret ?_
  have hR := Option.some.inj hF
  subst hR
  exact fin1 (H1 := [imm I, pt b0 #[.map (some b62), .map (some b65), .string (((⟨l60, l63, (⟨s66, s67⟩ : A2_ByteArray), x68, x69, x70⟩ : mill_Mill).twins_).e0), .string (((⟨l60, l63, (⟨s66, s67⟩ : A2_ByteArray), x68, x69, x70⟩ : mill_Mill).twins_).e1), .bool ((⟨l60, l63, (⟨s66, s67⟩ : A2_ByteArray), x68, x69, x70⟩ : mill_Mill).found_), .bool ((⟨l60, l63, (⟨s66, s67⟩ : A2_ByteArray), x68, x69, x70⟩ : mill_Mill).full_), .int .i64 ((⟨l60, l63, (⟨s66, s67⟩ : A2_ByteArray), x68, x69, x70⟩ : mill_Mill).sums_)] 64, own eStr 9 p57 c58 l56, mpo kStr kStr b62 ((⟨l60, l63, (⟨s66, s67⟩ : A2_ByteArray), x68, x69, x70⟩ : mill_Mill).table_), mpo kStr kStr b65 ((⟨l60, l63, (⟨s66, s67⟩ : A2_ByteArray), x68, x69, x70⟩ : mill_Mill).notes_)]) (fun w hs => sat_to [0, 0, 0, 0, 0] 0 rfl hs) rfl (rr_tmp rfl) ⟨p57, c58, b62, b65, rfl, rfl⟩


def F.law07_below.l1 (x0 : Int) (x23 : Int) : Option ((Int) ⊕ (Int)) :=
  if decide ((IntKind.i64.wrap (2 * x23)) < x0) then (some (.inl (IntKind.i64.wrap (2 * x23)))) else (some (.inr (x23)))
def F.law07_below.r2 (x25 : Int) : Option (Int) :=
  some (x25)
def F.law07_below (x0 : Int) : Option Int :=
  Option.bind (iter (fun x => F.law07_below.l1 x0 x) FUEL 1) (fun x => F.law07_below.r2 x)
set_option maxRecDepth 100000 in
set_option maxHeartbeats 4000000 in
theorem c_law07_below (I : Hl) (x0 : Int) (res : Int) (hF : F.law07_below x0 = some res) : Tr Try.prog 35 [.int .i64 x0] [imm I] (fun r H' => r = .int .i64 res ∧ H' = [imm I]) := by
  unfold F.law07_below at hF
  refine tr_of_cw (fn := Try.f35) Try.func35 rfl (Nat.le_of_ble_eq_true rfl) 11 rfl fun F0 w0 => ?_
  refine cw_keep [0] (L' := [(0, .int .i64 x0)]) rfl ?_
  refine cw_state (S' := SAT w0 ([imm I] ++ F0)) (fun w hs => hs) ?_
  refine cw_seq ?_
  refine cw_region ?_
  refine ow_vals 1 (j := 1) [0] [(0, .int .i64 x0)] rfl (by kernel_rfl) ?_
  refine ow_end rfl ?_
  refine ew_then ?_
  refine cw_seq ?_
  refine cw_region ?_
  refine ow_vals 1 (j := 1) [0, 3] [(0, .int .i64 x0), (3, .int .i64 1)] rfl (by kernel_rfl) ?_
  refine ow_end rfl ?_
  refine ew_then ?_
  obtain ⟨v21, hF, hK21⟩ := bind_some hF
  refine cw_mid (fun a w => ∃ (x25 : Int), x25 = v21 ∧ Fr 11 [(3, .int .i64 x25)] a ∧ SAT w0 ([imm I] ++ F0) w) ?_ ?_
  · refine cw_block ?_
    refine fun a w hf hs => wp_rounds (fun k a w => ∃ (x23 : Int), iter (fun x => F.law07_below.l1 x0 x) k x23 = some v21 ∧ Fr 11 [(0, .int .i64 x0), (3, .int .i64 x23)] a ∧ SAT w0 ([imm I] ++ F0) w) ?_ FUEL a w ⟨1, hF, hf.keep [0, 3], sat_to [0] 0 rfl hs⟩
    clear hf hs
    clear a w hF
    rintro k a w ⟨x23, hF2, hf, hs⟩
    obtain ⟨k, r22, rfl, hF, hL22⟩ := iter_some hF2
    clear hF2
    revert a w
    show CW _ _ _ 11 [(0, .int .i64 x0), (3, .int .i64 x23)] (SAT w0 ([imm I] ++ F0))
    try dsimp only at hF
    unfold F.law07_below.l1 at hF
    refine cw_seq ?_
    refine cw_seq ?_
    refine cw_region ?_
    refine ow_vals 4 (j := 4) [0, 3, 7] [(0, .int .i64 x0), (3, .int .i64 x23), (7, .bool (decide ((IntKind.i64.wrap (2 * x23)) < x0)))] rfl (by kernel_rfl) ?_
    refine ow_end rfl ?_
    refine ew_then ?_
    rcases if_some hF with ⟨h24, hF⟩ | ⟨h24, hF⟩
    · refine cw_cond_t rfl rfl h24 ?_
      refine cw_skip ?_
      refine ew_then ?_
      refine cw_block ?_
      refine cw_region ?_
      refine ow_vals 3 (j := 3) [0, 3] [(0, .int .i64 x0), (3, .int .i64 (IntKind.i64.wrap (2 * x23)))] rfl (by kernel_rfl) ?_
      refine ow_end rfl ?_
      refine ew_blk ?_
      have hR := Option.some.inj hF
      subst hR
      have hR := hL22
      try dsimp only at hR
      exact fun a w hf hs => ⟨k, Nat.lt_succ_self k, IntKind.i64.wrap (2 * x23), hR, hf.keep [0, 3], sat_to [0] 0 rfl hs⟩
    refine cw_cond_f rfl rfl h24 ?_
    refine cw_exit ?_
    refine ew_then_exit ?_
    refine ew_then_exit ?_
    refine ew_blk_exit ?_
    have hR := Option.some.inj hF
    subst hR
    have hR := hL22
    try dsimp only at hR
    exact fun a w hf hs => ⟨x23, hR, hf.keep [3], sat_to [0] 0 rfl hs⟩
  rintro a w ⟨x25, hv, hf, hs⟩
  subst hv
  replace hF := hK21
  clear hK21
  try dsimp only at hF
  revert a w
  show CW _ _ _ 11 [(3, .int .i64 x25)] (SAT w0 ([imm I] ++ F0))
  unfold F.law07_below.r2 at hF
  refine cw_seq ?_
  refine cw_region ?_
  refine ow_vals 2 (j := 2) [2] [(2, .int .i64 x25)] rfl (by kernel_rfl) ?_
  refine ow_end rfl ?_
  refine ew_then ?_
  refine cw_ret ?_
  have hR := Option.some.inj hF
  subst hR
  exact fin1 (H1 := [imm I]) (fun w hs => sat_to [0] 0 rfl hs) rfl (rr_tmp rfl) ⟨rfl, rfl⟩


def F.law07_Root : Nat → (List ByteArray) → mill_Mill → Option (ByteArray × mill_Mill)
  | 0, _, _ => none
  | k + 1, x1, m0 => if (x1.length : Int) == 0 then (Option.bind (F.pledge_None m0) (fun (r22 : ByteArray × mill_Mill) => some ((r22.1, r22.2)))) else (if (x1.length : Int) == 1 then (Option.bind (at_ x1 0) (fun (y27 : ByteArray) => some ((y27, m0)))) else (Option.bind (F.law07_below (x1.length : Int)) (fun (r31 : Int) => chk (0 ≤ (0 : Int) ∧ (0 : Int) ≤ r31 ∧ r31 ≤ (x1.length : Int)) (chk (0 ≤ r31 ∧ r31 ≤ (x1.length : Int) ∧ (x1.length : Int) ≤ (x1.length : Int)) (Option.bind ((F.law07_Root k) ((x1.drop (0 : Int).toNat).take (r31.toNat - (0 : Int).toNat)) m0) (fun (r41 : ByteArray × mill_Mill) => Option.bind ((F.law07_Root k) ((x1.drop r31.toNat).take ((x1.length : Int).toNat - r31.toNat)) r41.2) (fun (r45 : ByteArray × mill_Mill) => Option.bind (F.pledge_Node r41.1 r45.1 r45.2) (fun (r49 : ByteArray × mill_Mill) => some ((r49.1, r49.2))))))))))
set_option maxRecDepth 100000 in
set_option maxHeartbeats 4000000 in
theorem c_law07_Root (k : Nat) : ∀ (I : Hl) (x1 : List ByteArray) (m0 : mill_Mill) (p0 : Option Addr) (c0 : Nat) (p1 : Nat) (p2 : Nat) (b0 : Nat) (res : ByteArray × mill_Mill) (hF : F.law07_Root k x1 m0 = some res) (hr0 : ro I eStr p0 c0 x1), Tr Try.prog 14 [.pointer (some ⟨b0, 0, none⟩), .slice p0 x1.length c0] [imm I, pt b0 #[.map (some p1), .map (some p2), .string m0.twins_.e0, .string m0.twins_.e1, .bool m0.found_, .bool m0.full_, .int .i64 m0.sums_] 64, mpo kStr kStr p1 m0.table_, mpo kStr kStr p2 m0.notes_] (fun r H' => ∃ (bq1 : Nat), ∃ (bq3 : Nat), r = .string res.1 ∧ H' = [imm I, pt b0 #[.map (some bq1), .map (some bq3), .string res.2.twins_.e0, .string res.2.twins_.e1, .bool res.2.found_, .bool res.2.full_, .int .i64 res.2.sums_] 64, mpo kStr kStr bq1 res.2.table_, mpo kStr kStr bq3 res.2.notes_]) := by
  induction k with
  | zero => intro I x1 m0 p0 c0 p1 p2 b0 res hF hr0; cases hF
  | succ k ih =>
    intro I x1 m0 p0 c0 p1 p2 b0 res hF hr0
    rw [F.law07_Root] at hF
    refine tr_of_cw (fn := Try.f14) Try.func14 rfl (Nat.le_of_ble_eq_true rfl) 32 rfl fun F0 w0 => ?_
    refine cw_keep [0, 1] (L' := [(0, .pointer (some ⟨b0, 0, none⟩)), (1, .slice p0 x1.length c0)]) rfl ?_
    refine cw_state (S' := SAT w0 ([imm I, pt b0 #[.map (some p1), .map (some p2), .string m0.twins_.e0, .string m0.twins_.e1, .bool m0.found_, .bool m0.full_, .int .i64 m0.sums_] 64, mpo kStr kStr p1 m0.table_, mpo kStr kStr p2 m0.notes_] ++ F0)) (fun w hs => hs) ?_
    refine cw_seq ?_
    refine cw_region ?_
    refine ow_vals 1 (j := 1) [0, 1] [(0, .pointer (some ⟨b0, 0, none⟩)), (1, .slice p0 x1.length c0)] rfl (by kernel_rfl) ?_
    refine ow_end rfl ?_
    refine ew_then ?_
    refine cw_seq ?_
    refine cw_seq ?_
    refine cw_region ?_
    refine ow_vals 3 (j := 3) [0, 1, 8] [(0, .pointer (some ⟨b0, 0, none⟩)), (1, .slice p0 x1.length c0), (8, .bool ((x1.length : Int) == 0))] rfl (by kernel_rfl) ?_
    refine ow_end rfl ?_
    refine ew_then ?_
    rcases if_some hF with ⟨h21, hF⟩ | ⟨h21, hF⟩
    · refine cw_cond_t rfl rfl h21 ?_
      refine cw_seq ?_
      refine cw_region ?_
      refine ow_vals 1 (j := 1) [9] [(9, .pointer (some ⟨b0, 0, none⟩))] rfl (by kernel_rfl) ?_
      obtain ⟨r22, h23, hF⟩ := bind_some hF
      refine ow_pw rfl (pw_call (F := [] ++ F0) rfl rfl rfl rfl rfl rfl rfl (by kernel_rfl) (perm_of_pulls [0, 0, 0, 0] rfl) (c_pledge_None _ m0 p1 p2 b0 r22 h23) ?_)
      rintro _ _ ⟨r22_b1, r22_b3, rfl, rfl⟩
      refine nw_H (H' := [imm I, pt b0 #[.map (some r22_b1), .map (some r22_b3), .string r22.2.twins_.e0, .string r22.2.twins_.e1, .bool r22.2.found_, .bool r22.2.full_, .int .i64 r22.2.sums_] 64, mpo kStr kStr r22_b1 r22.2.table_, mpo kStr kStr r22_b3 r22.2.notes_] ++ F0) rfl (nw_ow ?_)
      refine ow_vals 1 (j := 3) [4] [(4, .string r22.1)] rfl (by kernel_rfl) ?_
      refine ow_end rfl ?_
      refine ew_then ?_
      refine cw_ret ?_
      refine ew_then_ret ?_
      have hR := Option.some.inj hF
      subst hR
      exact fin1 (H1 := [imm I, pt b0 #[.map (some r22_b1), .map (some r22_b3), .string r22.2.twins_.e0, .string r22.2.twins_.e1, .bool r22.2.found_, .bool r22.2.full_, .int .i64 r22.2.sums_] 64, mpo kStr kStr r22_b1 r22.2.table_, mpo kStr kStr r22_b3 r22.2.notes_]) (fun w hs => sat_to [0, 0, 0, 0] 0 rfl hs) rfl (rr_tmp rfl) ⟨r22_b1, r22_b3, rfl, rfl⟩
    refine cw_cond_f rfl rfl h21 ?_
    refine cw_skip ?_
    refine ew_then ?_
    refine cw_seq ?_
    refine cw_seq ?_
    refine cw_region ?_
    refine ow_vals 3 (j := 3) [0, 1, 13] [(0, .pointer (some ⟨b0, 0, none⟩)), (1, .slice p0 x1.length c0), (13, .bool ((x1.length : Int) == 1))] rfl (by kernel_rfl) ?_
    refine ow_end rfl ?_
    refine ew_then ?_
    rcases if_some hF with ⟨h26, hF⟩ | ⟨h26, hF⟩
    · refine cw_cond_t rfl rfl h26 ?_
      refine cw_seq ?_
      refine cw_region ?_
      refine ow_vals 1 (j := 1) [14] [(14, .slice p0 x1.length c0)] rfl (by kernel_rfl) ?_
      obtain ⟨y27, h28, hF⟩ := bind_some hF
      refine ow_pw rfl (pw_index_ro (E := 9) 1 hr0 rfl rfl rfl rfl rfl (by kernel_rfl) rfl rfl rfl h28 fun q29 h30 => nw_ow ?_)
      refine ow_pw rfl (pw_quiet (v := .string y27) rfl rfl rfl rfl (q_load_el0 0 rfl h30 rfl rfl (by kernel_rfl)) (nw_ow ?_))
      refine ow_vals 1 (j := 4) [4] [(4, .string y27)] rfl (by kernel_rfl) ?_
      refine ow_end rfl ?_
      refine ew_then ?_
      refine cw_ret ?_
      refine ew_then_ret ?_
      have hR := Option.some.inj hF
      subst hR
      exact fin1 (H1 := [imm I, pt b0 #[.map (some p1), .map (some p2), .string m0.twins_.e0, .string m0.twins_.e1, .bool m0.found_, .bool m0.full_, .int .i64 m0.sums_] 64, mpo kStr kStr p1 m0.table_, mpo kStr kStr p2 m0.notes_]) (fun w hs => sat_to [0, 0, 0, 0] 0 rfl hs) rfl (rr_tmp rfl) ⟨p1, p2, rfl, rfl⟩
    refine cw_cond_f rfl rfl h26 ?_
    refine cw_skip ?_
    refine ew_then ?_
    refine cw_seq ?_
    refine cw_region ?_
    refine ow_vals 2 (j := 2) [0, 1, 18] [(0, .pointer (some ⟨b0, 0, none⟩)), (1, .slice p0 x1.length c0), (18, .int .i64 (x1.length : Int))] rfl (by kernel_rfl) ?_
    obtain ⟨r31, h32, hF⟩ := bind_some hF
    refine ow_pw rfl (pw_call (F := [pt b0 #[.map (some p1), .map (some p2), .string m0.twins_.e0, .string m0.twins_.e1, .bool m0.found_, .bool m0.full_, .int .i64 m0.sums_] 64, mpo kStr kStr p1 m0.table_, mpo kStr kStr p2 m0.notes_] ++ F0) rfl rfl rfl rfl rfl rfl rfl (by kernel_rfl) (perm_of_pulls [0] rfl) (c_law07_below _ (x1.length : Int) r31 h32) ?_)
    rintro _ _ ⟨rfl, rfl⟩
    refine nw_H (H' := [imm I, pt b0 #[.map (some p1), .map (some p2), .string m0.twins_.e0, .string m0.twins_.e1, .bool m0.found_, .bool m0.full_, .int .i64 m0.sums_] 64, mpo kStr kStr p1 m0.table_, mpo kStr kStr p2 m0.notes_] ++ F0) rfl (nw_ow ?_)
    refine ow_vals 1 (j := 4) [0, 1, 5] [(0, .pointer (some ⟨b0, 0, none⟩)), (1, .slice p0 x1.length c0), (5, .int .i64 r31)] rfl (by kernel_rfl) ?_
    refine ow_end rfl ?_
    refine ew_then ?_
    refine cw_seq ?_
    refine cw_open 11 (SAT w0 ([imm I])) (by kernel_rfl) (f := 13) rfl (fun w hs => sat_drew hs) ?_
    refine aw_vals [0, 1, 2, 3, 6, 7, 8] (f' := 6) (m' := 463) [20, 21, 22, 23, 26, 27, 28] [(20, .pointer (some ⟨b0, 0, none⟩)), (21, .pointer (some ⟨b0, 0, none⟩)), (22, .slice p0 x1.length c0), (23, .int .i64 r31), (26, .pointer (some ⟨b0, 0, none⟩)), (27, .slice p0 x1.length c0), (28, .int .i64 r31)] (fun _ _ _ _ _ h => calm_fin (P := Try.prog) (fn := Try.f14) _ _ _ _ _ h) (fun w hs => sat_pulls [0] (G := [pt b0 #[.map (some p1), .map (some p2), .string m0.twins_.e0, .string m0.twins_.e1, .bool m0.found_, .bool m0.full_, .int .i64 m0.sums_] 64, mpo kStr kStr p1 m0.table_, mpo kStr kStr p2 m0.notes_] ++ F0) rfl hs) rfl (by kernel_rfl) ?_
    obtain ⟨h33, hF⟩ := chk_some hF
    refine aw_slice_ro (E := 9) 4 (m' := 479) 1 hr0 rfl rfl rfl rfl rfl (by kernel_rfl) (by kernel_rfl) (fun _ _ _ _ _ h => calm_fin (P := Try.prog) (fn := Try.f14) _ _ _ _ _ h) (fun w hs => sat_pulls [0] (G := [pt b0 #[.map (some p1), .map (some p2), .string m0.twins_.e0, .string m0.twins_.e1, .bool m0.found_, .bool m0.full_, .int .i64 m0.sums_] 64, mpo kStr kStr p1 m0.table_, mpo kStr kStr p2 m0.notes_] ++ F0) rfl hs) (by kernel_rfl) rfl rfl rfl rfl h33 fun p34 c35 h36 => ?_
    obtain ⟨h37, hF⟩ := chk_some hF
    refine aw_slice_ro (E := 9) 9 (m' := 991) 1 hr0 rfl rfl rfl rfl rfl (by kernel_rfl) (by kernel_rfl) (fun _ _ _ _ _ h => calm_fin (P := Try.prog) (fn := Try.f14) _ _ _ _ _ h) (fun w hs => sat_pulls [0] (G := [pt b0 #[.map (some p1), .map (some p2), .string m0.twins_.e0, .string m0.twins_.e1, .bool m0.found_, .bool m0.full_, .int .i64 m0.sums_] 64, mpo kStr kStr p1 m0.table_, mpo kStr kStr p2 m0.notes_] ++ F0) rfl hs) (by kernel_rfl) rfl rfl rfl rfl h37 fun p38 c39 h40 => ?_
    obtain ⟨r41, h42, hF⟩ := bind_some hF
    refine aw_only 5 (m' := 1023) (by kernel_rfl) (by kernel_rfl) (pw_call (F := [] ++ F0) rfl rfl rfl rfl rfl rfl rfl (by kernel_rfl) (perm_of_pulls [0, 0, 0, 0] rfl) (ih _ ((x1.drop (0 : Int).toNat).take (r31.toNat - (0 : Int).toNat)) m0 p34 c35 p1 p2 b0 r41 h42 h36) ?_)
    rintro _ _ ⟨r41_b1, r41_b3, rfl, rfl⟩
    refine nw_H (H' := [imm I, pt b0 #[.map (some r41_b1), .map (some r41_b3), .string r41.2.twins_.e0, .string r41.2.twins_.e1, .bool r41.2.found_, .bool r41.2.full_, .int .i64 r41.2.sums_] 64, mpo kStr kStr r41_b1 r41.2.table_, mpo kStr kStr r41_b3 r41.2.notes_] ++ F0) rfl (aw_next (fun w hs => sat_pulls [0] (G := [pt b0 #[.map (some r41_b1), .map (some r41_b3), .string r41.2.twins_.e0, .string r41.2.twins_.e1, .bool r41.2.found_, .bool r41.2.full_, .int .i64 r41.2.sums_] 64, mpo kStr kStr r41_b1 r41.2.table_, mpo kStr kStr r41_b3 r41.2.notes_] ++ F0) rfl hs) ?_)
    obtain ⟨r45, h46, hF⟩ := bind_some hF
    refine aw_only 10 (m' := 2047) (by kernel_rfl) (by kernel_rfl) (pw_call (F := [] ++ F0) rfl rfl rfl rfl rfl rfl rfl (by kernel_rfl) (perm_of_pulls [0, 0, 0, 0] rfl) (ih _ ((x1.drop r31.toNat).take ((x1.length : Int).toNat - r31.toNat)) r41.2 p38 c39 r41_b1 r41_b3 b0 r45 h46 h40) ?_)
    rintro _ _ ⟨r45_b1, r45_b3, rfl, rfl⟩
    refine nw_H (H' := [imm I, pt b0 #[.map (some r45_b1), .map (some r45_b3), .string r45.2.twins_.e0, .string r45.2.twins_.e1, .bool r45.2.found_, .bool r45.2.full_, .int .i64 r45.2.sums_] 64, mpo kStr kStr r45_b1 r45.2.table_, mpo kStr kStr r45_b3 r45.2.notes_] ++ F0) rfl (aw_next (fun w hs => sat_pulls [0] (G := [pt b0 #[.map (some r45_b1), .map (some r45_b3), .string r45.2.twins_.e0, .string r45.2.twins_.e1, .bool r45.2.found_, .bool r45.2.full_, .int .i64 r45.2.sums_] 64, mpo kStr kStr r45_b1 r45.2.table_, mpo kStr kStr r45_b3 r45.2.notes_] ++ F0) rfl hs) ?_)
    obtain ⟨r49, h50, hF⟩ := bind_some hF
    refine aw_only 11 (m' := 4095) (by kernel_rfl) (by kernel_rfl) (pw_call (F := [] ++ F0) rfl rfl rfl rfl rfl rfl rfl (by kernel_rfl) (perm_of_pulls [0, 0, 0, 0] rfl) (c_pledge_Node _ r41.1 r45.1 r45.2 r45_b1 r45_b3 b0 r49 h50) ?_)
    rintro _ _ ⟨r49_b1, r49_b3, rfl, rfl⟩
    refine nw_H (H' := [imm I, pt b0 #[.map (some r49_b1), .map (some r49_b3), .string r49.2.twins_.e0, .string r49.2.twins_.e1, .bool r49.2.found_, .bool r49.2.full_, .int .i64 r49.2.sums_] 64, mpo kStr kStr r49_b1 r49.2.table_, mpo kStr kStr r49_b3 r49.2.notes_] ++ F0) rfl (aw_last (by kernel_rfl) ?_)
    refine aw_past (by kernel_rfl) ?_
    refine aw_vals [12] (f' := 0) (m' := 8191) [4] [(4, .string r49.1)] (fun _ _ _ _ _ h => calm_fin (P := Try.prog) (fn := Try.f14) _ _ _ _ _ h) (fun _ _ => trivial) rfl (by kernel_rfl) ?_
    refine aw_keep [4] (L' := [(4, .string r49.1)]) rfl ?_
    refine aw_end (by kernel_rfl) ?_
    refine ew_then ?_
    refine cw_ret ?_
    have hR := Option.some.inj hF
    subst hR
    exact fin1 (H1 := [imm I, pt b0 #[.map (some r49_b1), .map (some r49_b3), .string r49.2.twins_.e0, .string r49.2.twins_.e1, .bool r49.2.found_, .bool r49.2.full_, .int .i64 r49.2.sums_] 64, mpo kStr kStr r49_b1 r49.2.table_, mpo kStr kStr r49_b3 r49.2.notes_]) (fun w hs => sat_to [0, 0, 0, 0] 0 rfl hs) rfl (rr_tmp rfl) ⟨r49_b1, r49_b3, rfl, rfl⟩


def F.absent_Root (x1 : List ByteArray) (m0 : mill_Mill) : Option (ByteArray × Int × mill_Mill) :=
  Option.bind (F.absent_Tidy x1) (fun (r21 : (List ByteArray)) => Option.bind (F.absent_leaves r21 m0) (fun (r27 : (List ByteArray) × mill_Mill) => Option.bind (F.merkle_Root FUEL r27.1 r27.2) (fun (r35 : ByteArray × mill_Mill) => some ((r35.1, (r21.length : Int), r35.2)))))
set_option maxRecDepth 100000 in
set_option maxHeartbeats 4000000 in
theorem c_absent_Root (I : Hl) (x1 : List ByteArray) (m0 : mill_Mill) (p0 : Option Addr) (c0 : Nat) (p1 : Nat) (p2 : Nat) (b0 : Nat) (res : ByteArray × Int × mill_Mill) (hF : F.absent_Root x1 m0 = some res) (hr0 : ro I eStr p0 c0 x1) : Tr Try.prog 11 [.pointer (some ⟨b0, 0, none⟩), .slice p0 x1.length c0] [imm I, pt b0 #[.map (some p1), .map (some p2), .string m0.twins_.e0, .string m0.twins_.e1, .bool m0.found_, .bool m0.full_, .int .i64 m0.sums_] 64, mpo kStr kStr p1 m0.table_, mpo kStr kStr p2 m0.notes_] (fun r H' => ∃ (J : Hl), ∃ (bq1 : Nat), ∃ (bq3 : Nat), r = .tuple #[.string res.1, .int .i64 res.2.1] ∧ H' = [imm J, pt b0 #[.map (some bq1), .map (some bq3), .string res.2.2.twins_.e0, .string res.2.2.twins_.e1, .bool res.2.2.found_, .bool res.2.2.full_, .int .i64 res.2.2.sums_] 64, mpo kStr kStr bq1 res.2.2.table_, mpo kStr kStr bq3 res.2.2.notes_] ∧ Hl.sub I J) := by
  unfold F.absent_Root at hF
  refine tr_of_cw (fn := Try.f11) Try.func11 rfl (Nat.le_of_ble_eq_true rfl) 15 rfl fun F0 w0 => ?_
  refine cw_keep [0, 1] (L' := [(0, .pointer (some ⟨b0, 0, none⟩)), (1, .slice p0 x1.length c0)]) rfl ?_
  refine cw_state (S' := SAT w0 ([imm I, pt b0 #[.map (some p1), .map (some p2), .string m0.twins_.e0, .string m0.twins_.e1, .bool m0.found_, .bool m0.full_, .int .i64 m0.sums_] 64, mpo kStr kStr p1 m0.table_, mpo kStr kStr p2 m0.notes_] ++ F0)) (fun w hs => hs) ?_
  refine cw_seq ?_
  refine cw_region ?_
  refine ow_vals 2 (j := 2) [0, 1] [(0, .pointer (some ⟨b0, 0, none⟩)), (1, .slice p0 x1.length c0)] rfl (by kernel_rfl) ?_
  refine ow_end rfl ?_
  refine ew_then ?_
  refine cw_seq ?_
  refine cw_region ?_
  refine ow_vals 1 (j := 1) [0, 6] [(0, .pointer (some ⟨b0, 0, none⟩)), (6, .slice p0 x1.length c0)] rfl (by kernel_rfl) ?_
  obtain ⟨r21, h22, hF⟩ := bind_some hF
  refine ow_pw rfl (pw_call (F := [pt b0 #[.map (some p1), .map (some p2), .string m0.twins_.e0, .string m0.twins_.e1, .bool m0.found_, .bool m0.full_, .int .i64 m0.sums_] 64, mpo kStr kStr p1 m0.table_, mpo kStr kStr p2 m0.notes_] ++ F0) rfl rfl rfl rfl rfl rfl rfl (by kernel_rfl) (perm_of_pulls [0] rfl) (c_absent_Tidy _ x1 p0 c0 r21 h22 hr0) ?_)
  rintro _ _ ⟨r21_p1, r21_c2, rfl, rfl⟩
  refine nw_H (H' := [imm I, own eStr 9 r21_p1 r21_c2 r21, pt b0 #[.map (some p1), .map (some p2), .string m0.twins_.e0, .string m0.twins_.e1, .bool m0.found_, .bool m0.full_, .int .i64 m0.sums_] 64, mpo kStr kStr p1 m0.table_, mpo kStr kStr p2 m0.notes_] ++ F0) rfl (nw_ow ?_)
  refine ow_vals 1 (j := 3) [0, 1] [(0, .pointer (some ⟨b0, 0, none⟩)), (1, .slice r21_p1 r21.length r21_c2)] rfl (by kernel_rfl) ?_
  refine ow_end rfl ?_
  refine ew_then ?_
  refine cw_seq ?_
  refine cw_region ?_
  refine ow_vals 3 (j := 3) [1, 8, 9, 10] [(1, .slice r21_p1 r21.length r21_c2), (8, .pointer (some ⟨b0, 0, none⟩)), (9, .pointer (some ⟨b0, 0, none⟩)), (10, .slice r21_p1 r21.length r21_c2)] rfl (by kernel_rfl) ?_
  refine ow_freeze (fun w hs => sat_to [0, 0] 0 (F := [imm I, own eStr 9 r21_p1 r21_c2 r21, pt b0 #[.map (some p1), .map (some p2), .string m0.twins_.e0, .string m0.twins_.e1, .bool m0.found_, .bool m0.full_, .int .i64 m0.sums_] 64, mpo kStr kStr p1 m0.table_, mpo kStr kStr p2 m0.notes_] ++ F0) rfl hs) fun J24 h25 h26 => ?_
  refine ow_H (H' := [imm J24, pt b0 #[.map (some p1), .map (some p2), .string m0.twins_.e0, .string m0.twins_.e1, .bool m0.found_, .bool m0.full_, .int .i64 m0.sums_] 64, mpo kStr kStr p1 m0.table_, mpo kStr kStr p2 m0.notes_] ++ F0) rfl ?_
  obtain ⟨r27, h28, hF⟩ := bind_some hF
  refine ow_pw rfl (pw_call (F := [] ++ F0) rfl rfl rfl rfl rfl rfl rfl (by kernel_rfl) (perm_of_pulls [0, 0, 0, 0] rfl) (c_absent_leaves _ r21 m0 r21_p1 r21_c2 p1 p2 b0 r27 h28 h26) ?_)
  rintro _ _ ⟨r27_p1, r27_c2, r27_b4, r27_b6, rfl, rfl⟩
  refine nw_H (H' := [imm J24, pt b0 #[.map (some r27_b4), .map (some r27_b6), .string r27.2.twins_.e0, .string r27.2.twins_.e1, .bool r27.2.found_, .bool r27.2.full_, .int .i64 r27.2.sums_] 64, own eStr 9 r27_p1 r27_c2 r27.1, mpo kStr kStr r27_b4 r27.2.table_, mpo kStr kStr r27_b6 r27.2.notes_] ++ F0) rfl (nw_ow ?_)
  refine ow_freeze (fun w hs => sat_to [0, 1] 0 (F := [imm J24, own eStr 9 r27_p1 r27_c2 r27.1, pt b0 #[.map (some r27_b4), .map (some r27_b6), .string r27.2.twins_.e0, .string r27.2.twins_.e1, .bool r27.2.found_, .bool r27.2.full_, .int .i64 r27.2.sums_] 64, mpo kStr kStr r27_b4 r27.2.table_, mpo kStr kStr r27_b6 r27.2.notes_] ++ F0) rfl hs) fun J32 h33 h34 => ?_
  have h26 := ro.sub h33 h26
  refine ow_H (H' := [imm J32, pt b0 #[.map (some r27_b4), .map (some r27_b6), .string r27.2.twins_.e0, .string r27.2.twins_.e1, .bool r27.2.found_, .bool r27.2.full_, .int .i64 r27.2.sums_] 64, mpo kStr kStr r27_b4 r27.2.table_, mpo kStr kStr r27_b6 r27.2.notes_] ++ F0) rfl ?_
  obtain ⟨r35, h36, hF⟩ := bind_some hF
  refine ow_pw rfl (pw_call (F := [] ++ F0) rfl rfl rfl rfl rfl rfl rfl (by kernel_rfl) (perm_of_pulls [0, 0, 0, 0] rfl) (c_merkle_Root FUEL _ r27.1 r27.2 r27_p1 r27_c2 r27_b4 r27_b6 b0 r35 h36 h34) ?_)
  rintro _ _ ⟨r35_b1, r35_b3, rfl, rfl⟩
  refine nw_H (H' := [imm J32, pt b0 #[.map (some r35_b1), .map (some r35_b3), .string r35.2.twins_.e0, .string r35.2.twins_.e1, .bool r35.2.found_, .bool r35.2.full_, .int .i64 r35.2.sums_] 64, mpo kStr kStr r35_b1 r35.2.table_, mpo kStr kStr r35_b3 r35.2.notes_] ++ F0) rfl (nw_ow ?_)
  refine ow_vals 4 (j := 9) [4, 5] [(4, .string r35.1), (5, .int .i64 (r21.length : Int))] rfl (by kernel_rfl) ?_
  refine ow_end rfl ?_
  refine ew_then ?_
  refine cw_ret ?_
  have hR := Option.some.inj hF
  subst hR
  exact fin2 (H1 := [imm J32, pt b0 #[.map (some r35_b1), .map (some r35_b3), .string r35.2.twins_.e0, .string r35.2.twins_.e1, .bool r35.2.found_, .bool r35.2.full_, .int .i64 r35.2.sums_] 64, mpo kStr kStr r35_b1 r35.2.table_, mpo kStr kStr r35_b3 r35.2.notes_]) (fun w hs => sat_to [0, 0, 0, 0] 0 rfl hs) rfl (rr_tmp rfl) (rr_tmp rfl) ⟨J32, r35_b1, r35_b3, rfl, rfl, (Hl.sub_trans h25 h33)⟩

end Go.Proofs.Ytileogoeoiafkaa
