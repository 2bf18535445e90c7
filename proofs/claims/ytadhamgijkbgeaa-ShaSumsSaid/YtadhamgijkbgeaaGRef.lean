/- What the functions compute, and that the code computes it: printed by a program of this claim (wip/tools), for the group Ref. -/
import Derived.Test.YtadhamgijkbgeaaGSha
namespace Go.Proofs.Ytadhamgijkbgeaa
set_option linter.all false
open Go Go.RowKit Go.Fw
set_option linter.unusedVariables false

def F.ref02_primes.l2 (l23 : List Int) (x27 : Int) (x34 : Bool) (x35 : Int) : Option ((Bool × Int) ⊕ (Bool)) :=
  if decide (x35 < (l23.length : Int)) then (if x34 then (Option.bind (at_ l23 x35) (fun (y38 : Int) => chk (y38 ≠ 0) (some (.inl ((x27.tmod y38) != 0, IntKind.i64.wrap (x35 + 1)))))) else (some (.inl (false, IntKind.i64.wrap (x35 + 1))))) else (some (.inr (x34)))
def F.ref02_primes.r3 (l23 : List Int) (x27 : Int) (x41 : Bool) : Option ((List Int)) :=
  if x41 then (chk (room (l23.length + ([x27] : List Int).length) 8) (some ((l23 ++ ([x27] : List Int))))) else (some (l23))
def F.ref02_primes.r4 (x27 : Int) (l48 : List Int) : Option (((List Int) × Int) ⊕ ((List Int))) :=
  some (.inl (l48, IntKind.i64.wrap (x27 + 1)))
def F.ref02_primes.r1 (l23 : List Int) (x27 : Int) : Option (((List Int) × Int) ⊕ ((List Int))) :=
  Option.bind (Option.bind (iter (fun x => F.ref02_primes.l2 l23 x27 x.1 x.2) FUEL (true, 0)) (fun x => F.ref02_primes.r3 l23 x27 x)) (fun x => F.ref02_primes.r4 x27 x)
def F.ref02_primes.l5 (x0 : Int) (l23 : List Int) (x27 : Int) : Option (((List Int) × Int) ⊕ ((List Int))) :=
  thru (if decide ((l23.length : Int) < x0) then (if decide (x27 < 1000) then (some (.inl ())) else (some (.inr (.inr (l23))))) else (some (.inr (.inr (l23))))) (fun x => F.ref02_primes.r1 l23 x27)
def F.ref02_primes.r6 (l52 : List Int) : Option ((List Int)) :=
  some (l52)
def F.ref02_primes (x0 : Int) : Option (List Int) :=
  Option.bind (iter (fun x => F.ref02_primes.l5 x0 x.1 x.2) FUEL ([], 2)) (fun x => F.ref02_primes.r6 x)
set_option maxRecDepth 100000 in
set_option maxHeartbeats 4000000 in
theorem c_ref02_primes (I : Hl) (x0 : Int) (res : (List Int)) (hF : F.ref02_primes x0 = some res) : Tr Try.prog 15 [.int .i64 x0] [imm I] (fun r H' => ∃ (p1 : Option Addr), ∃ (c2 : Nat), r = .slice p1 res.length c2 ∧ H' = [imm I, own (eInt .i64) 3 p1 c2 res]) := by
  unfold F.ref02_primes at hF
  refine tr_of_cw (fn := Try.f15) Try.func15 rfl (Nat.le_of_ble_eq_true rfl) 39 rfl fun F0 w0 => ?_
  refine cw_keep [0] (L' := [(0, .int .i64 x0)]) rfl ?_
  refine cw_state (S' := SAT w0 ([imm I] ++ F0)) (fun w hs => hs) ?_
  refine cw_seq ?_
  refine cw_region ?_
  refine ow_vals 1 (j := 1) [0] [(0, .int .i64 x0)] rfl (by kernel_rfl) ?_
  refine ow_end rfl ?_
  refine ew_then ?_
  refine cw_seq ?_
  refine cw_region ?_
  refine ow_vals 1 (j := 1) [0, 3] [(0, .int .i64 x0), (3, .slice none 0 0)] rfl (by kernel_rfl) ?_
  refine ow_end rfl ?_
  refine ew_then ?_
  obtain ⟨v21, hF, hK21⟩ := bind_some hF
  refine cw_mid (fun a w => ∃ (l52 : List Int), ∃ (p53 : Option Addr), ∃ (c54 : Nat), l52 = v21 ∧ Fr 39 [(3, .slice p53 l52.length c54)] a ∧ SAT w0 ([imm I, own (eInt .i64) 3 p53 c54 l52] ++ F0) w) ?_ ?_
  · refine cw_seq ?_
    refine cw_region ?_
    refine ow_vals 1 (j := 1) [0, 3, 4] [(0, .int .i64 x0), (3, .slice none 0 0), (4, .int .i64 2)] rfl (by kernel_rfl) ?_
    refine ow_end rfl ?_
    refine ew_then ?_
    refine cw_block ?_
    refine fun a w hf hs => wp_rounds (fun k a w => ∃ (l23 : List Int), ∃ (x27 : Int), ∃ (p24 : Option Addr), ∃ (c25 : Nat), iter (fun x => F.ref02_primes.l5 x0 x.1 x.2) k (l23, x27) = some v21 ∧ Fr 39 [(0, .int .i64 x0), (3, .slice p24 l23.length c25), (4, .int .i64 x27)] a ∧ SAT w0 ([imm I, own (eInt .i64) 3 p24 c25 l23] ++ F0) w) ?_ FUEL a w ⟨[], 2, none, 0, hF, hf.keep [0, 3, 4], sat_to [1, 0] 0 rfl (sat_own_nil (eInt .i64) 3 hs)⟩
    clear hf hs
    clear a w hF
    rintro k a w ⟨l23, x27, p24, c25, hF2, hf, hs⟩
    obtain ⟨k, r22, rfl, hF, hL22⟩ := iter_some hF2
    clear hF2
    revert a w
    show CW _ _ _ 39 [(0, .int .i64 x0), (3, .slice p24 l23.length c25), (4, .int .i64 x27)] (SAT w0 ([imm I, own (eInt .i64) 3 p24 c25 l23] ++ F0))
    try dsimp only at hF
    unfold F.ref02_primes.l5 at hF
    obtain ⟨v28, hF, hK28⟩ := thru_some hF
    refine cw_mid (fun a w => .inl () = v28 ∧ Fr 39 [(0, .int .i64 x0), (3, .slice p24 l23.length c25), (4, .int .i64 x27)] a ∧ SAT w0 ([imm I, own (eInt .i64) 3 p24 c25 l23] ++ F0) w) ?_ ?_
    · refine cw_seq ?_
      refine cw_region ?_
      refine ow_vals 5 (j := 5) [0, 3, 4, 11] [(0, .int .i64 x0), (3, .slice p24 l23.length c25), (4, .int .i64 x27), (11, .bool (decide ((l23.length : Int) < x0)))] rfl (by kernel_rfl) ?_
      rcases if_some hF with ⟨h29, hF⟩ | ⟨h29, hF⟩
      · refine ow_slots (L' := [(0, .int .i64 x0), (3, .slice p24 l23.length c25), (4, .int .i64 x27), (11, .bool true)]) (by rw [h29]) ?_
        refine ow_vals 3 (j := 8) [0, 3, 4, 14] [(0, .int .i64 x0), (3, .slice p24 l23.length c25), (4, .int .i64 x27), (14, .bool (decide (x27 < 1000)))] rfl (by kernel_rfl) ?_
        refine ow_end rfl ?_
        refine ew_then ?_
        rcases if_some hF with ⟨h30, hF⟩ | ⟨h30, hF⟩
        · refine cw_cond_t rfl rfl h30 ?_
          refine cw_skip ?_
          have hR := Option.some.inj hF
          exact fun a w hf hs => ⟨hR, hf.keep [0, 3, 4], sat_to [0, 0] 0 rfl hs⟩
        · refine cw_cond_f rfl rfl h30 ?_
          refine cw_exit ?_
          refine ew_then_exit ?_
          refine ew_then_exit ?_
          refine ew_blk_exit ?_
          have hR := Option.some.inj hF
          subst hR
          have hR := hK28
          try dsimp only [Thru] at hR
          subst hR
          have hR := hL22
          try dsimp only at hR
          exact fun a w hf hs => ⟨l23, p24, c25, hR, hf.keep [3], sat_to [0, 0] 0 rfl hs⟩
      · refine ow_slots (L' := [(0, .int .i64 x0), (3, .slice p24 l23.length c25), (4, .int .i64 x27), (11, .bool false)]) (by rw [h29]) ?_
        refine ow_vals 3 (j := 8) [0, 3, 4, 14] [(0, .int .i64 x0), (3, .slice p24 l23.length c25), (4, .int .i64 x27), (14, .bool false)] rfl (by kernel_rfl) ?_
        refine ow_end rfl ?_
        refine ew_then ?_
        refine cw_cond_f rfl rfl rfl ?_
        refine cw_exit ?_
        refine ew_then_exit ?_
        refine ew_then_exit ?_
        refine ew_blk_exit ?_
        have hR := Option.some.inj hF
        subst hR
        have hR := hK28
        try dsimp only [Thru] at hR
        subst hR
        have hR := hL22
        try dsimp only at hR
        exact fun a w hf hs => ⟨l23, p24, c25, hR, hf.keep [3], sat_to [0, 0] 0 rfl hs⟩
    · rintro a w ⟨hv, hf, hs⟩
      subst hv
      replace hF := hK28
      clear hK28
      try dsimp only [Thru] at hF
      revert a w
      show CW _ _ _ 39 [(0, .int .i64 x0), (3, .slice p24 l23.length c25), (4, .int .i64 x27)] (SAT w0 ([imm I, own (eInt .i64) 3 p24 c25 l23] ++ F0))
      unfold F.ref02_primes.r1 at hF
      obtain ⟨v31, hF, hK31⟩ := bind_some hF
      refine cw_mid (fun a w => ∃ (l48 : List Int), ∃ (p49 : Option Addr), ∃ (c50 : Nat), l48 = v31 ∧ Fr 39 [(0, .int .i64 x0), (3, .slice p49 l48.length c50), (4, .int .i64 x27)] a ∧ SAT w0 ([imm I, own (eInt .i64) 3 p49 c50 l48] ++ F0) w) ?_ ?_
      · refine cw_block ?_
        refine cw_seq ?_
        refine cw_region ?_
        refine ow_vals 1 (j := 1) [0, 3, 4, 5] [(0, .int .i64 x0), (3, .slice p24 l23.length c25), (4, .int .i64 x27), (5, .bool true)] rfl (by kernel_rfl) ?_
        refine ow_end rfl ?_
        refine ew_then ?_
        obtain ⟨v32, hF, hK32⟩ := bind_some hF
        refine cw_mid (fun a w => ∃ (x41 : Bool), x41 = v32 ∧ Fr 39 [(0, .int .i64 x0), (3, .slice p24 l23.length c25), (4, .int .i64 x27), (5, .bool x41)] a ∧ SAT w0 ([imm I, own (eInt .i64) 3 p24 c25 l23] ++ F0) w) ?_ ?_
        · refine cw_seq ?_
          refine cw_region ?_
          refine ow_vals 1 (j := 1) [0, 3, 4, 5, 6] [(0, .int .i64 x0), (3, .slice p24 l23.length c25), (4, .int .i64 x27), (5, .bool true), (6, .int .i64 0)] rfl (by kernel_rfl) ?_
          refine ow_end rfl ?_
          refine ew_then ?_
          refine cw_block ?_
          refine fun a w hf hs => wp_rounds (fun k a w => ∃ (x34 : Bool), ∃ (x35 : Int), iter (fun x => F.ref02_primes.l2 l23 x27 x.1 x.2) k (x34, x35) = some v32 ∧ Fr 39 [(0, .int .i64 x0), (3, .slice p24 l23.length c25), (4, .int .i64 x27), (5, .bool x34), (6, .int .i64 x35)] a ∧ SAT w0 ([imm I, own (eInt .i64) 3 p24 c25 l23] ++ F0) w) ?_ FUEL a w ⟨true, 0, hF, hf.keep [0, 3, 4, 5, 6], sat_to [0, 0] 0 rfl hs⟩
          clear hf hs
          clear a w hF
          rintro k a w ⟨x34, x35, hF2, hf, hs⟩
          obtain ⟨k, r33, rfl, hF, hL33⟩ := iter_some hF2
          clear hF2
          revert a w
          show CW _ _ _ 39 [(0, .int .i64 x0), (3, .slice p24 l23.length c25), (4, .int .i64 x27), (5, .bool x34), (6, .int .i64 x35)] (SAT w0 ([imm I, own (eInt .i64) 3 p24 c25 l23] ++ F0))
          try dsimp only at hF
          unfold F.ref02_primes.l2 at hF
          refine cw_seq ?_
          refine cw_seq ?_
          refine cw_region ?_
          refine ow_vals 4 (j := 4) [0, 3, 4, 5, 6, 20] [(0, .int .i64 x0), (3, .slice p24 l23.length c25), (4, .int .i64 x27), (5, .bool x34), (6, .int .i64 x35), (20, .bool (decide (x35 < (l23.length : Int))))] rfl (by kernel_rfl) ?_
          refine ow_end rfl ?_
          refine ew_then ?_
          rcases if_some hF with ⟨h36, hF⟩ | ⟨h36, hF⟩
          · refine cw_cond_t rfl rfl h36 ?_
            refine cw_skip ?_
            refine ew_then ?_
            refine cw_seq ?_
            refine cw_block ?_
            refine cw_region ?_
            refine ow_vals 2 (j := 2) [0, 3, 4, 6, 24] [(0, .int .i64 x0), (3, .slice p24 l23.length c25), (4, .int .i64 x27), (6, .int .i64 x35), (24, .bool x34)] rfl (by kernel_rfl) ?_
            rcases if_some hF with ⟨h37, hF⟩ | ⟨h37, hF⟩
            · refine ow_slots (L' := [(0, .int .i64 x0), (3, .slice p24 l23.length c25), (4, .int .i64 x27), (6, .int .i64 x35), (24, .bool true)]) (by rw [h37]) ?_
              refine ow_vals 3 (j := 5) [0, 3, 4, 6, 24, 25, 26, 27] [(0, .int .i64 x0), (3, .slice p24 l23.length c25), (4, .int .i64 x27), (6, .int .i64 x35), (24, .bool true), (25, .int .i64 x27), (26, .slice p24 l23.length c25), (27, .int .i64 x35)] rfl (by kernel_rfl) ?_
              obtain ⟨y38, h39, hF⟩ := bind_some hF
              refine ow_pw rfl (pw_quiet (v := .pointer (some ((base p24).add (x35.toNat * 1)))) rfl rfl rfl rfl (q_index_own 1 1 rfl rfl (by kernel_rfl) rfl rfl (at_some h39).1 (at_lt h39)) (nw_ow ?_))
              refine ow_pw rfl (pw_quiet (v := .int .i64 y38) rfl rfl rfl rfl (q_load_own0 1 1 rfl rfl rfl rfl (at_some h39).2 (by kernel_rfl)) (nw_ow ?_))
              obtain ⟨h40, hF⟩ := chk_some hF
              refine ow_pw rfl (pw_quiet (v := .int .i64 (x27.tmod y38)) rfl rfl rfl rfl (q_rem rfl rfl rfl h40) (nw_ow ?_))
              refine ow_vals 3 (j := 11) [0, 3, 4, 5, 6] [(0, .int .i64 x0), (3, .slice p24 l23.length c25), (4, .int .i64 x27), (5, .bool ((x27.tmod y38) != 0)), (6, .int .i64 x35)] rfl (by kernel_rfl) ?_
              refine ow_end rfl ?_
              refine ew_blk ?_
              refine ew_then ?_
              refine cw_region ?_
              refine ow_vals 3 (j := 3) [0, 3, 4, 5, 6] [(0, .int .i64 x0), (3, .slice p24 l23.length c25), (4, .int .i64 x27), (5, .bool ((x27.tmod y38) != 0)), (6, .int .i64 (IntKind.i64.wrap (x35 + 1)))] rfl (by kernel_rfl) ?_
              refine ow_end rfl ?_
              have hR := Option.some.inj hF
              subst hR
              have hR := hL33
              try dsimp only at hR
              exact fun a w hf hs => ⟨k, Nat.lt_succ_self k, (x27.tmod y38) != 0, IntKind.i64.wrap (x35 + 1), hR, hf.keep [0, 3, 4, 5, 6], sat_to [0, 0] 0 rfl hs⟩
            · refine ow_slots (L' := [(0, .int .i64 x0), (3, .slice p24 l23.length c25), (4, .int .i64 x27), (6, .int .i64 x35), (24, .bool false)]) (by rw [h37]) ?_
              refine ow_vals 9 (j := 11) [0, 3, 4, 5, 6] [(0, .int .i64 x0), (3, .slice p24 l23.length c25), (4, .int .i64 x27), (5, .bool false), (6, .int .i64 x35)] rfl (by kernel_rfl) ?_
              refine ow_end rfl ?_
              refine ew_blk ?_
              refine ew_then ?_
              refine cw_region ?_
              refine ow_vals 3 (j := 3) [0, 3, 4, 5, 6] [(0, .int .i64 x0), (3, .slice p24 l23.length c25), (4, .int .i64 x27), (5, .bool false), (6, .int .i64 (IntKind.i64.wrap (x35 + 1)))] rfl (by kernel_rfl) ?_
              refine ow_end rfl ?_
              have hR := Option.some.inj hF
              subst hR
              have hR := hL33
              try dsimp only at hR
              exact fun a w hf hs => ⟨k, Nat.lt_succ_self k, false, IntKind.i64.wrap (x35 + 1), hR, hf.keep [0, 3, 4, 5, 6], sat_to [0, 0] 0 rfl hs⟩
          · refine cw_cond_f rfl rfl h36 ?_
            refine cw_exit ?_
            refine ew_then_exit ?_
            refine ew_then_exit ?_
            refine ew_blk_exit ?_
            have hR := Option.some.inj hF
            subst hR
            have hR := hL33
            try dsimp only at hR
            exact fun a w hf hs => ⟨x34, hR, hf.keep [0, 3, 4, 5], sat_to [0, 0] 0 rfl hs⟩
        · rintro a w ⟨x41, hv, hf, hs⟩
          subst hv
          replace hF := hK32
          clear hK32
          try dsimp only at hF
          revert a w
          show CW _ _ _ 39 [(0, .int .i64 x0), (3, .slice p24 l23.length c25), (4, .int .i64 x27), (5, .bool x41)] (SAT w0 ([imm I, own (eInt .i64) 3 p24 c25 l23] ++ F0))
          unfold F.ref02_primes.r3 at hF
          refine cw_seq ?_
          refine cw_region ?_
          refine ow_vals 1 (j := 1) [0, 3, 4, 33] [(0, .int .i64 x0), (3, .slice p24 l23.length c25), (4, .int .i64 x27), (33, .bool x41)] rfl (by kernel_rfl) ?_
          refine ow_end rfl ?_
          refine ew_then ?_
          rcases if_some hF with ⟨h42, hF⟩ | ⟨h42, hF⟩
          · refine cw_cond_t rfl rfl h42 ?_
            refine cw_region ?_
            refine ow_vals 2 (j := 2) [0, 4, 34, 35] [(0, .int .i64 x0), (4, .int .i64 x27), (34, .slice p24 l23.length c25), (35, .int .i64 x27)] rfl (by kernel_rfl) ?_
            refine ow_pw rfl (pw_buildSlice (E := 3) (eInt .i64) ([x27] : List Int) rfl rfl rfl rfl rfl (by kernel_rfl) rfl (by kernel_rfl) rfl (by decide) rfl fun p43 => nw_ow ?_)
            obtain ⟨h45, hF⟩ := chk_some hF
            refine ow_pw rfl (pw_append 2 (l' := ([x27] : List Int)) rfl rfl rfl rfl rfl rfl (by kernel_rfl) (by kernel_rfl) rfl rfl rfl (src_own (E' := 3) 0 rfl (by kernel_rfl) rfl) rfl h45.1 h45.2 fun p46 c47 => nw_H (H' := [own (eInt .i64) 3 p43 1 ([x27] : List Int), imm I, own (eInt .i64) 3 p46 c47 (l23 ++ ([x27] : List Int))] ++ F0) rfl (nw_ow ?_))
            refine ow_vals 1 (j := 5) [0, 3, 4] [(0, .int .i64 x0), (3, .slice p46 (l23 ++ ([x27] : List Int)).length c47), (4, .int .i64 x27)] rfl (by kernel_rfl) ?_
            refine ow_end rfl ?_
            refine ew_blk ?_
            have hR := Option.some.inj hF
            exact fun a w hf hs => ⟨l23 ++ ([x27] : List Int), p46, c47, hR, hf.keep [0, 3, 4], sat_to [0, 0, 0] 1 rfl hs⟩
          · refine cw_cond_f rfl rfl h42 ?_
            refine cw_skip ?_
            refine ew_blk ?_
            have hR := Option.some.inj hF
            exact fun a w hf hs => ⟨l23, p24, c25, hR, hf.keep [0, 3, 4], sat_to [0, 0] 0 rfl hs⟩
      · rintro a w ⟨l48, p49, c50, hv, hf, hs⟩
        subst hv
        replace hF := hK31
        clear hK31
        try dsimp only at hF
        revert a w
        show CW _ _ _ 39 [(0, .int .i64 x0), (3, .slice p49 l48.length c50), (4, .int .i64 x27)] (SAT w0 ([imm I, own (eInt .i64) 3 p49 c50 l48] ++ F0))
        unfold F.ref02_primes.r4 at hF
        refine cw_region ?_
        refine ow_vals 3 (j := 3) [0, 3, 4] [(0, .int .i64 x0), (3, .slice p49 l48.length c50), (4, .int .i64 (IntKind.i64.wrap (x27 + 1)))] rfl (by kernel_rfl) ?_
        refine ow_end rfl ?_
        have hR := Option.some.inj hF
        subst hR
        have hR := hL22
        try dsimp only at hR
        exact fun a w hf hs => ⟨k, Nat.lt_succ_self k, l48, IntKind.i64.wrap (x27 + 1), p49, c50, hR, hf.keep [0, 3, 4], sat_to [0, 0] 0 rfl hs⟩
  · rintro a w ⟨l52, p53, c54, hv, hf, hs⟩
    subst hv
    replace hF := hK21
    clear hK21
    try dsimp only at hF
    revert a w
    show CW _ _ _ 39 [(3, .slice p53 l52.length c54)] (SAT w0 ([imm I, own (eInt .i64) 3 p53 c54 l52] ++ F0))
    unfold F.ref02_primes.r6 at hF
    refine cw_seq ?_
    refine cw_region ?_
    refine ow_vals 2 (j := 2) [2] [(2, .slice p53 l52.length c54)] rfl (by kernel_rfl) ?_
    refine ow_end rfl ?_
    refine ew_then ?_
    refine cw_ret ?_
    have hR := Option.some.inj hF
    subst hR
    exact fin1 (H1 := [imm I, own (eInt .i64) 3 p53 c54 l52]) (fun w hs => sat_to [0, 0] 0 rfl hs) rfl (rr_tmp rfl) ⟨p53, c54, rfl, rfl⟩


def F.ref02_more.r1 (l25 : List Int) (x40 : Int) (x41 : Int) (l46 : List Int) (x50 : Int) (x51 : Int) : Option (((List Int) × Int × Int) ⊕ ((List Int))) :=
  Option.bind (at_ l46 (IntKind.i64.wrap (x41 + x51))) (fun (y55 : Int) => Option.bind (at_ l25 x51) (fun (y57 : Int) => Option.bind (at_ l46 (IntKind.i64.wrap (x41 + x51))) (fun (y59 : Int) => some (.inl (l46.set (IntKind.i64.wrap (x41 + x51)).toNat ((IntKind.i64.wrap ((IntKind.i64.wrap (y55 + (IntKind.i64.wrap (y57 * (x40.tmod 65536))))) + x50)).tmod 65536), IntKind.i64.wrap ((IntKind.i64.wrap ((IntKind.i64.wrap (y55 + (IntKind.i64.wrap (y57 * (x40.tmod 65536))))) + x50)).tdiv 65536), IntKind.i64.wrap (x51 + 1))))))
def F.ref02_more.l2 (l25 : List Int) (x40 : Int) (x41 : Int) (l46 : List Int) (x50 : Int) (x51 : Int) : Option (((List Int) × Int × Int) ⊕ ((List Int))) :=
  thru (if decide (x51 < 10) then (if decide ((IntKind.i64.wrap (x41 + x51)) < 10) then (some (.inl ())) else (some (.inr (.inr (l46))))) else (some (.inr (.inr (l46))))) (fun x => F.ref02_more.r1 l25 x40 x41 l46 x50 x51)
def F.ref02_more.r3 (l61 : List Int) : Option ((List Int)) :=
  some (l61)
def F.ref02_more.r4 (x40 : Int) (x41 : Int) (l65 : List Int) : Option (((List Int) × Int × Int) ⊕ ((List Int))) :=
  some (.inl (l65, IntKind.i64.wrap (x40.tdiv 65536), IntKind.i64.wrap (x41 + 1)))
def F.ref02_more.l5 (l25 : List Int) (l36 : List Int) (x40 : Int) (x41 : Int) : Option (((List Int) × Int × Int) ⊕ ((List Int))) :=
  if decide (x41 < 3) then (Option.bind (Option.bind (iter (fun x => F.ref02_more.l2 l25 x40 x41 x.1 x.2.1 x.2.2) FUEL (l36, 0, 0)) (fun x => F.ref02_more.r3 x)) (fun x => F.ref02_more.r4 x40 x41 x)) else (some (.inr (l36)))
def F.ref02_more.r6 (l69 : List Int) : Option ((List Int)) :=
  some (l69)
def F.ref02_more.r7 (x29 : Int) (l73 : List Int) : Option (((List Int) × Int) ⊕ ((List Int))) :=
  some (.inl (l73, IntKind.i64.wrap (x29 + 1)))
def F.ref02_more.l8 (x0 : Int) (x1 : Int) (l25 : List Int) (x29 : Int) : Option (((List Int) × Int) ⊕ ((List Int))) :=
  if decide (x29 < x1) then (Option.bind (Option.bind (iter (fun x => F.ref02_more.l5 l25 x.1 x.2.1 x.2.2) FUEL (([0, 0, 0, 0, 0, 0, 0, 0, 0, 0] : List Int), x0, 0)) (fun x => F.ref02_more.r6 x)) (fun x => F.ref02_more.r7 x29 x)) else (some (.inr (l25)))
def F.ref02_more.l10 (x1 : Int) (x2 : Int) (l77 : List Int) (x87 : Int) : Option ((Int) ⊕ ((Unit) ⊕ (Bool))) :=
  if decide (x87 ≥ 0) then (Option.bind (at_ l77 x87) (fun (y89 : Int) => Option.bind (at_ (([0, 0, 0, 0, 0, 0, 0, 0, 0, 0] : List Int).set (IntKind.i64.wrap (2 * x1)).toNat x2) x87) (fun (y91 : Int) => if y89 != y91 then (Option.bind (at_ l77 x87) (fun (y94 : Int) => Option.bind (at_ (([0, 0, 0, 0, 0, 0, 0, 0, 0, 0] : List Int).set (IntKind.i64.wrap (2 * x1)).toNat x2) x87) (fun (y96 : Int) => some (.inr (.inr ((decide (y94 > y96)))))))) else (some (.inl (IntKind.i64.wrap (x87 - 1))))))) else (some (.inr (.inl ())))
def F.ref02_more.r11 : Option (Bool) :=
  some (false)
def F.ref02_more.r9 (x1 : Int) (x2 : Int) (l77 : List Int) : Option (Bool) :=
  Option.bind (at_ ([0, 0, 0, 0, 0, 0, 0, 0, 0, 0] : List Int) (IntKind.i64.wrap (2 * x1))) (fun (y83 : Int) => thru (iter (fun x => F.ref02_more.l10 x1 x2 l77 x) FUEL 9) (fun x => F.ref02_more.r11))
def F.ref02_more (x0 : Int) (x1 : Int) (x2 : Int) : Option Bool :=
  Option.bind (iter (fun x => F.ref02_more.l8 x0 x1 x.1 x.2) FUEL (([1, 0, 0, 0, 0, 0, 0, 0, 0, 0] : List Int), 0)) (fun x => F.ref02_more.r9 x1 x2 x)
set_option maxRecDepth 100000 in
set_option maxHeartbeats 4000000 in
theorem c_ref02_more (I : Hl) (x0 : Int) (x1 : Int) (x2 : Int) (res : Bool) (hF : F.ref02_more x0 x1 x2 = some res) : Tr Try.prog 20 [.int .i64 x0, .int .i64 x1, .int .i64 x2] [imm I] (fun r H' => r = .bool res ∧ H' = [imm I]) := by
  unfold F.ref02_more at hF
  refine tr_of_cw (fn := Try.f20) Try.func20 rfl (Nat.le_of_ble_eq_true rfl) 95 rfl fun F0 w0 => ?_
  refine cw_keep [0, 1, 2] (L' := [(0, .int .i64 x0), (1, .int .i64 x1), (2, .int .i64 x2)]) rfl ?_
  refine cw_state (S' := SAT w0 ([imm I] ++ F0)) (fun w hs => hs) ?_
  refine cw_seq ?_
  refine cw_region ?_
  refine ow_vals 1 (j := 1) [0, 1, 2] [(0, .int .i64 x0), (1, .int .i64 x1), (2, .int .i64 x2)] rfl (by kernel_rfl) ?_
  refine ow_end rfl ?_
  refine ew_then ?_
  refine cw_seq ?_
  refine cw_region ?_
  refine ow_pw rfl (pw_buildSlice (E := 3) (eInt .i64) ([1, 0, 0, 0, 0, 0, 0, 0, 0, 0] : List Int) rfl rfl rfl rfl rfl (by kernel_rfl) rfl (by kernel_rfl) rfl (by decide) rfl fun p21 => nw_ow ?_)
  refine ow_vals 1 (j := 2) [0, 1, 2, 7] [(0, .int .i64 x0), (1, .int .i64 x1), (2, .int .i64 x2), (7, .slice p21 ([1, 0, 0, 0, 0, 0, 0, 0, 0, 0] : List Int).length 10)] rfl (by kernel_rfl) ?_
  refine ow_end rfl ?_
  refine ew_then ?_
  obtain ⟨v23, hF, hK23⟩ := bind_some hF
  refine cw_mid (fun a w => ∃ (l77 : List Int), ∃ (p78 : Option Addr), ∃ (c79 : Nat), l77 = v23 ∧ Fr 95 [(1, .int .i64 x1), (2, .int .i64 x2), (7, .slice p78 l77.length c79)] a ∧ SAT w0 ([imm I, own (eInt .i64) 3 p78 c79 l77] ++ F0) w) ?_ ?_
  · refine cw_seq ?_
    refine cw_region ?_
    refine ow_vals 1 (j := 1) [0, 1, 2, 7, 8] [(0, .int .i64 x0), (1, .int .i64 x1), (2, .int .i64 x2), (7, .slice p21 ([1, 0, 0, 0, 0, 0, 0, 0, 0, 0] : List Int).length 10), (8, .int .i64 0)] rfl (by kernel_rfl) ?_
    refine ow_end rfl ?_
    refine ew_then ?_
    refine cw_block ?_
    refine fun a w hf hs => wp_rounds (fun k a w => ∃ (l25 : List Int), ∃ (x29 : Int), ∃ (p26 : Option Addr), ∃ (c27 : Nat), iter (fun x => F.ref02_more.l8 x0 x1 x.1 x.2) k (l25, x29) = some v23 ∧ Fr 95 [(0, .int .i64 x0), (1, .int .i64 x1), (2, .int .i64 x2), (7, .slice p26 l25.length c27), (8, .int .i64 x29)] a ∧ SAT w0 ([imm I, own (eInt .i64) 3 p26 c27 l25] ++ F0) w) ?_ FUEL a w ⟨([1, 0, 0, 0, 0, 0, 0, 0, 0, 0] : List Int), 0, p21, 10, hF, hf.keep [0, 1, 2, 7, 8], sat_to [1, 0] 0 rfl hs⟩
    clear hf hs
    clear a w hF
    rintro k a w ⟨l25, x29, p26, c27, hF2, hf, hs⟩
    obtain ⟨k, r24, rfl, hF, hL24⟩ := iter_some hF2
    clear hF2
    revert a w
    show CW _ _ _ 95 [(0, .int .i64 x0), (1, .int .i64 x1), (2, .int .i64 x2), (7, .slice p26 l25.length c27), (8, .int .i64 x29)] (SAT w0 ([imm I, own (eInt .i64) 3 p26 c27 l25] ++ F0))
    try dsimp only at hF
    unfold F.ref02_more.l8 at hF
    refine cw_seq ?_
    refine cw_seq ?_
    refine cw_region ?_
    refine ow_vals 3 (j := 3) [0, 1, 2, 7, 8, 20] [(0, .int .i64 x0), (1, .int .i64 x1), (2, .int .i64 x2), (7, .slice p26 l25.length c27), (8, .int .i64 x29), (20, .bool (decide (x29 < x1)))] rfl (by kernel_rfl) ?_
    refine ow_end rfl ?_
    refine ew_then ?_
    rcases if_some hF with ⟨h30, hF⟩ | ⟨h30, hF⟩
    · refine cw_cond_t rfl rfl h30 ?_
      refine cw_skip ?_
      refine ew_then ?_
      obtain ⟨v31, hF, hK31⟩ := bind_some hF
      refine cw_mid (fun a w => ∃ (l73 : List Int), ∃ (p74 : Option Addr), ∃ (c75 : Nat), l73 = v31 ∧ Fr 95 [(0, .int .i64 x0), (1, .int .i64 x1), (2, .int .i64 x2), (7, .slice p74 l73.length c75), (8, .int .i64 x29)] a ∧ SAT w0 ([imm I, own (eInt .i64) 3 p74 c75 l73] ++ F0) w) ?_ ?_
      · refine cw_block ?_
        refine cw_seq ?_
        refine cw_region ?_
        refine ow_pw rfl (pw_buildSlice (E := 3) (eInt .i64) ([0, 0, 0, 0, 0, 0, 0, 0, 0, 0] : List Int) rfl rfl rfl rfl rfl (by kernel_rfl) rfl (by kernel_rfl) rfl (by decide) rfl fun p32 => nw_ow ?_)
        refine ow_vals 1 (j := 2) [0, 1, 2, 7, 8, 9] [(0, .int .i64 x0), (1, .int .i64 x1), (2, .int .i64 x2), (7, .slice p26 l25.length c27), (8, .int .i64 x29), (9, .slice p32 ([0, 0, 0, 0, 0, 0, 0, 0, 0, 0] : List Int).length 10)] rfl (by kernel_rfl) ?_
        refine ow_end rfl ?_
        refine ew_then ?_
        refine cw_seq ?_
        refine cw_region ?_
        refine ow_vals 2 (j := 2) [0, 1, 2, 7, 8, 9, 10] [(0, .int .i64 x0), (1, .int .i64 x1), (2, .int .i64 x2), (7, .slice p26 l25.length c27), (8, .int .i64 x29), (9, .slice p32 ([0, 0, 0, 0, 0, 0, 0, 0, 0, 0] : List Int).length 10), (10, .int .i64 x0)] rfl (by kernel_rfl) ?_
        refine ow_end rfl ?_
        refine ew_then ?_
        obtain ⟨v34, hF, hK34⟩ := bind_some hF
        refine cw_mid (fun a w => ∃ (l69 : List Int), ∃ (p70 : Option Addr), ∃ (c71 : Nat), l69 = v34 ∧ Fr 95 [(0, .int .i64 x0), (1, .int .i64 x1), (2, .int .i64 x2), (8, .int .i64 x29), (9, .slice p70 l69.length c71)] a ∧ SAT w0 ([imm I, own (eInt .i64) 3 p70 c71 l69] ++ F0) w) ?_ ?_
        · refine cw_seq ?_
          refine cw_region ?_
          refine ow_vals 1 (j := 1) [0, 1, 2, 7, 8, 9, 10, 11] [(0, .int .i64 x0), (1, .int .i64 x1), (2, .int .i64 x2), (7, .slice p26 l25.length c27), (8, .int .i64 x29), (9, .slice p32 ([0, 0, 0, 0, 0, 0, 0, 0, 0, 0] : List Int).length 10), (10, .int .i64 x0), (11, .int .i64 0)] rfl (by kernel_rfl) ?_
          refine ow_end rfl ?_
          refine ew_then ?_
          refine cw_block ?_
          refine fun a w hf hs => wp_rounds (fun k a w => ∃ (l36 : List Int), ∃ (x40 : Int), ∃ (x41 : Int), ∃ (p37 : Option Addr), ∃ (c38 : Nat), iter (fun x => F.ref02_more.l5 l25 x.1 x.2.1 x.2.2) k (l36, x40, x41) = some v34 ∧ Fr 95 [(0, .int .i64 x0), (1, .int .i64 x1), (2, .int .i64 x2), (7, .slice p26 l25.length c27), (8, .int .i64 x29), (9, .slice p37 l36.length c38), (10, .int .i64 x40), (11, .int .i64 x41)] a ∧ SAT w0 ([imm I, own (eInt .i64) 3 p26 c27 l25, own (eInt .i64) 3 p37 c38 l36] ++ F0) w) ?_ FUEL a w ⟨([0, 0, 0, 0, 0, 0, 0, 0, 0, 0] : List Int), x0, 0, p32, 10, hF, hf.keep [0, 1, 2, 7, 8, 9, 10, 11], sat_to [1, 1, 0] 0 rfl hs⟩
          clear hf hs
          clear a w hF
          rintro k a w ⟨l36, x40, x41, p37, c38, hF2, hf, hs⟩
          obtain ⟨k, r35, rfl, hF, hL35⟩ := iter_some hF2
          clear hF2
          revert a w
          show CW _ _ _ 95 [(0, .int .i64 x0), (1, .int .i64 x1), (2, .int .i64 x2), (7, .slice p26 l25.length c27), (8, .int .i64 x29), (9, .slice p37 l36.length c38), (10, .int .i64 x40), (11, .int .i64 x41)] (SAT w0 ([imm I, own (eInt .i64) 3 p26 c27 l25, own (eInt .i64) 3 p37 c38 l36] ++ F0))
          try dsimp only at hF
          unfold F.ref02_more.l5 at hF
          refine cw_seq ?_
          refine cw_seq ?_
          refine cw_region ?_
          refine ow_vals 2 (j := 2) [0, 1, 2, 7, 8, 9, 10, 11, 26] [(0, .int .i64 x0), (1, .int .i64 x1), (2, .int .i64 x2), (7, .slice p26 l25.length c27), (8, .int .i64 x29), (9, .slice p37 l36.length c38), (10, .int .i64 x40), (11, .int .i64 x41), (26, .bool (decide (x41 < 3)))] rfl (by kernel_rfl) ?_
          refine ow_end rfl ?_
          refine ew_then ?_
          rcases if_some hF with ⟨h42, hF⟩ | ⟨h42, hF⟩
          · refine cw_cond_t rfl rfl h42 ?_
            refine cw_skip ?_
            refine ew_then ?_
            obtain ⟨v43, hF, hK43⟩ := bind_some hF
            refine cw_mid (fun a w => ∃ (l65 : List Int), ∃ (p66 : Option Addr), ∃ (c67 : Nat), l65 = v43 ∧ Fr 95 [(0, .int .i64 x0), (1, .int .i64 x1), (2, .int .i64 x2), (7, .slice p26 l25.length c27), (8, .int .i64 x29), (9, .slice p66 l65.length c67), (10, .int .i64 (IntKind.i64.wrap (x40.tdiv 65536))), (11, .int .i64 x41)] a ∧ SAT w0 ([imm I, own (eInt .i64) 3 p26 c27 l25, own (eInt .i64) 3 p66 c67 l65] ++ F0) w) ?_ ?_
            · refine cw_block ?_
              refine cw_seq ?_
              refine cw_region ?_
              refine ow_vals 1 (j := 1) [0, 1, 2, 7, 8, 9, 10, 11, 12] [(0, .int .i64 x0), (1, .int .i64 x1), (2, .int .i64 x2), (7, .slice p26 l25.length c27), (8, .int .i64 x29), (9, .slice p37 l36.length c38), (10, .int .i64 x40), (11, .int .i64 x41), (12, .int .i64 0)] rfl (by kernel_rfl) ?_
              refine ow_end rfl ?_
              refine ew_then ?_
              obtain ⟨v44, hF, hK44⟩ := bind_some hF
              refine cw_mid (fun a w => ∃ (l61 : List Int), ∃ (p62 : Option Addr), ∃ (c63 : Nat), l61 = v44 ∧ Fr 95 [(0, .int .i64 x0), (1, .int .i64 x1), (2, .int .i64 x2), (7, .slice p26 l25.length c27), (8, .int .i64 x29), (9, .slice p62 l61.length c63), (10, .int .i64 x40), (11, .int .i64 x41)] a ∧ SAT w0 ([imm I, own (eInt .i64) 3 p26 c27 l25, own (eInt .i64) 3 p62 c63 l61] ++ F0) w) ?_ ?_
              · refine cw_seq ?_
                refine cw_region ?_
                refine ow_vals 1 (j := 1) [0, 1, 2, 7, 8, 9, 10, 11, 12, 13] [(0, .int .i64 x0), (1, .int .i64 x1), (2, .int .i64 x2), (7, .slice p26 l25.length c27), (8, .int .i64 x29), (9, .slice p37 l36.length c38), (10, .int .i64 x40), (11, .int .i64 x41), (12, .int .i64 0), (13, .int .i64 0)] rfl (by kernel_rfl) ?_
                refine ow_end rfl ?_
                refine ew_then ?_
                refine cw_block ?_
                refine fun a w hf hs => wp_rounds (fun k a w => ∃ (l46 : List Int), ∃ (x50 : Int), ∃ (x51 : Int), ∃ (p47 : Option Addr), ∃ (c48 : Nat), iter (fun x => F.ref02_more.l2 l25 x40 x41 x.1 x.2.1 x.2.2) k (l46, x50, x51) = some v44 ∧ Fr 95 [(0, .int .i64 x0), (1, .int .i64 x1), (2, .int .i64 x2), (7, .slice p26 l25.length c27), (8, .int .i64 x29), (9, .slice p47 l46.length c48), (10, .int .i64 x40), (11, .int .i64 x41), (12, .int .i64 x50), (13, .int .i64 x51)] a ∧ SAT w0 ([imm I, own (eInt .i64) 3 p26 c27 l25, own (eInt .i64) 3 p47 c48 l46] ++ F0) w) ?_ FUEL a w ⟨l36, 0, 0, p37, c38, hF, hf.keep [0, 1, 2, 7, 8, 9, 10, 11, 12, 13], sat_to [0, 0, 0] 0 rfl hs⟩
                clear hf hs
                clear a w hF
                rintro k a w ⟨l46, x50, x51, p47, c48, hF2, hf, hs⟩
                obtain ⟨k, r45, rfl, hF, hL45⟩ := iter_some hF2
                clear hF2
                revert a w
                show CW _ _ _ 95 [(0, .int .i64 x0), (1, .int .i64 x1), (2, .int .i64 x2), (7, .slice p26 l25.length c27), (8, .int .i64 x29), (9, .slice p47 l46.length c48), (10, .int .i64 x40), (11, .int .i64 x41), (12, .int .i64 x50), (13, .int .i64 x51)] (SAT w0 ([imm I, own (eInt .i64) 3 p26 c27 l25, own (eInt .i64) 3 p47 c48 l46] ++ F0))
                try dsimp only at hF
                unfold F.ref02_more.l2 at hF
                obtain ⟨v52, hF, hK52⟩ := thru_some hF
                refine cw_mid (fun a w => .inl () = v52 ∧ Fr 95 [(0, .int .i64 x0), (1, .int .i64 x1), (2, .int .i64 x2), (7, .slice p26 l25.length c27), (8, .int .i64 x29), (9, .slice p47 l46.length c48), (10, .int .i64 x40), (11, .int .i64 x41), (12, .int .i64 x50), (13, .int .i64 x51)] a ∧ SAT w0 ([imm I, own (eInt .i64) 3 p26 c27 l25, own (eInt .i64) 3 p47 c48 l46] ++ F0) w) ?_ ?_
                · refine cw_seq ?_
                  refine cw_region ?_
                  refine ow_vals 3 (j := 3) [0, 1, 2, 7, 8, 9, 10, 11, 12, 13, 31] [(0, .int .i64 x0), (1, .int .i64 x1), (2, .int .i64 x2), (7, .slice p26 l25.length c27), (8, .int .i64 x29), (9, .slice p47 l46.length c48), (10, .int .i64 x40), (11, .int .i64 x41), (12, .int .i64 x50), (13, .int .i64 x51), (31, .bool (decide (x51 < 10)))] rfl (by kernel_rfl) ?_
                  rcases if_some hF with ⟨h53, hF⟩ | ⟨h53, hF⟩
                  · refine ow_slots (L' := [(0, .int .i64 x0), (1, .int .i64 x1), (2, .int .i64 x2), (7, .slice p26 l25.length c27), (8, .int .i64 x29), (9, .slice p47 l46.length c48), (10, .int .i64 x40), (11, .int .i64 x41), (12, .int .i64 x50), (13, .int .i64 x51), (31, .bool true)]) (by rw [h53]) ?_
                    refine ow_vals 5 (j := 8) [0, 1, 2, 7, 8, 9, 10, 11, 12, 13, 36] [(0, .int .i64 x0), (1, .int .i64 x1), (2, .int .i64 x2), (7, .slice p26 l25.length c27), (8, .int .i64 x29), (9, .slice p47 l46.length c48), (10, .int .i64 x40), (11, .int .i64 x41), (12, .int .i64 x50), (13, .int .i64 x51), (36, .bool (decide ((IntKind.i64.wrap (x41 + x51)) < 10)))] rfl (by kernel_rfl) ?_
                    refine ow_end rfl ?_
                    refine ew_then ?_
                    rcases if_some hF with ⟨h54, hF⟩ | ⟨h54, hF⟩
                    · refine cw_cond_t rfl rfl h54 ?_
                      refine cw_skip ?_
                      have hR := Option.some.inj hF
                      exact fun a w hf hs => ⟨hR, hf.keep [0, 1, 2, 7, 8, 9, 10, 11, 12, 13], sat_to [0, 0, 0] 0 rfl hs⟩
                    · refine cw_cond_f rfl rfl h54 ?_
                      refine cw_exit ?_
                      refine ew_then_exit ?_
                      refine ew_then_exit ?_
                      refine ew_blk_exit ?_
                      have hR := Option.some.inj hF
                      subst hR
                      have hR := hK52
                      try dsimp only [Thru] at hR
                      subst hR
                      have hR := hL45
                      try dsimp only at hR
                      exact fun a w hf hs => ⟨l46, p47, c48, hR, hf.keep [0, 1, 2, 7, 8, 9, 10, 11], sat_to [0, 0, 0] 0 rfl hs⟩
                  · refine ow_slots (L' := [(0, .int .i64 x0), (1, .int .i64 x1), (2, .int .i64 x2), (7, .slice p26 l25.length c27), (8, .int .i64 x29), (9, .slice p47 l46.length c48), (10, .int .i64 x40), (11, .int .i64 x41), (12, .int .i64 x50), (13, .int .i64 x51), (31, .bool false)]) (by rw [h53]) ?_
                    refine ow_vals 5 (j := 8) [0, 1, 2, 7, 8, 9, 10, 11, 12, 13, 36] [(0, .int .i64 x0), (1, .int .i64 x1), (2, .int .i64 x2), (7, .slice p26 l25.length c27), (8, .int .i64 x29), (9, .slice p47 l46.length c48), (10, .int .i64 x40), (11, .int .i64 x41), (12, .int .i64 x50), (13, .int .i64 x51), (36, .bool false)] rfl (by kernel_rfl) ?_
                    refine ow_end rfl ?_
                    refine ew_then ?_
                    refine cw_cond_f rfl rfl rfl ?_
                    refine cw_exit ?_
                    refine ew_then_exit ?_
                    refine ew_then_exit ?_
                    refine ew_blk_exit ?_
                    have hR := Option.some.inj hF
                    subst hR
                    have hR := hK52
                    try dsimp only [Thru] at hR
                    subst hR
                    have hR := hL45
                    try dsimp only at hR
                    exact fun a w hf hs => ⟨l46, p47, c48, hR, hf.keep [0, 1, 2, 7, 8, 9, 10, 11], sat_to [0, 0, 0] 0 rfl hs⟩
                · rintro a w ⟨hv, hf, hs⟩
                  subst hv
                  replace hF := hK52
                  clear hK52
                  try dsimp only [Thru] at hF
                  revert a w
                  show CW _ _ _ 95 [(0, .int .i64 x0), (1, .int .i64 x1), (2, .int .i64 x2), (7, .slice p26 l25.length c27), (8, .int .i64 x29), (9, .slice p47 l46.length c48), (10, .int .i64 x40), (11, .int .i64 x41), (12, .int .i64 x50), (13, .int .i64 x51)] (SAT w0 ([imm I, own (eInt .i64) 3 p26 c27 l25, own (eInt .i64) 3 p47 c48 l46] ++ F0))
                  unfold F.ref02_more.r1 at hF
                  refine cw_seq ?_
                  refine cw_block ?_
                  refine cw_seq ?_
                  refine cw_open 17 (SAT w0 ([imm I, own (eInt .i64) 3 p26 c27 l25, own (eInt .i64) 3 p47 c48 l46])) (by kernel_rfl) (f := 17) rfl (fun w hs => sat_drew hs) ?_
                  refine aw_vals [0, 1, 2, 3, 6, 7, 10, 11, 14] (f' := 8) (m' := 19663) [0, 1, 2, 7, 8, 9, 10, 11, 13, 39, 42, 45, 46, 50, 53] [(0, .int .i64 x0), (1, .int .i64 x1), (2, .int .i64 x2), (7, .slice p26 l25.length c27), (8, .int .i64 x29), (9, .slice p47 l46.length c48), (10, .int .i64 x40), (11, .int .i64 x41), (13, .int .i64 x51), (39, .slice p47 l46.length c48), (42, .int .i64 (IntKind.i64.wrap (x41 + x51))), (45, .slice p26 l25.length c27), (46, .int .i64 x51), (50, .int .i64 (x40.tmod 65536)), (53, .int .i64 x50)] (fun _ _ _ _ _ h => calm_fin (P := Try.prog) (fn := Try.f20) _ _ _ _ _ h) (fun w hs => sat_pulls [0, 0, 0] (G := [] ++ F0) rfl hs) rfl (by kernel_rfl) ?_
                  obtain ⟨y55, h56, hF⟩ := bind_some hF
                  refine aw_quiet 4 (m' := 19679) (v := .pointer (some ((base p47).add ((IntKind.i64.wrap (x41 + x51)).toNat * 1)))) 0 [] rfl rfl rfl rfl (by kernel_rfl) (by kernel_rfl) (by kernel_rfl) (fun _ _ _ _ _ h => calm_fin (P := Try.prog) (fn := Try.f20) _ _ _ _ _ h) (fun w hs => sat_pulls [0, 0, 0] (G := [] ++ F0) rfl hs) (q_index_own 2 1 rfl rfl (by kernel_rfl) rfl rfl (at_some h56).1 (at_lt h56)) ?_
                  refine aw_quiet 5 (m' := 19711) (v := .int .i64 y55) 0 [] rfl rfl rfl rfl (by kernel_rfl) (by kernel_rfl) (by kernel_rfl) (fun _ _ _ _ _ h => calm_fin (P := Try.prog) (fn := Try.f20) _ _ _ _ _ h) (fun w hs => sat_pulls [0, 0, 0] (G := [] ++ F0) rfl hs) (q_load_own0 2 1 rfl rfl rfl rfl (at_some h56).2 (by kernel_rfl)) ?_
                  obtain ⟨y57, h58, hF⟩ := bind_some hF
                  refine aw_quiet 8 (m' := 19967) (v := .pointer (some ((base p26).add (x51.toNat * 1)))) 0 [] rfl rfl rfl rfl (by kernel_rfl) (by kernel_rfl) (by kernel_rfl) (fun _ _ _ _ _ h => calm_fin (P := Try.prog) (fn := Try.f20) _ _ _ _ _ h) (fun w hs => sat_pulls [0, 0, 0] (G := [] ++ F0) rfl hs) (q_index_own 1 1 rfl rfl (by kernel_rfl) rfl rfl (at_some h58).1 (at_lt h58)) ?_
                  refine aw_quiet 9 (m' := 20479) (v := .int .i64 y57) 0 [] rfl rfl rfl rfl (by kernel_rfl) (by kernel_rfl) (by kernel_rfl) (fun _ _ _ _ _ h => calm_fin (P := Try.prog) (fn := Try.f20) _ _ _ _ _ h) (fun w hs => sat_pulls [0, 0, 0] (G := [] ++ F0) rfl hs) (q_load_own0 1 1 rfl rfl rfl rfl (at_some h58).2 (by kernel_rfl)) ?_
                  refine aw_vals [12, 13, 15, 16] (f' := 0) (m' := 131071) [0, 1, 2, 7, 8, 9, 10, 11, 13, 14] [(0, .int .i64 x0), (1, .int .i64 x1), (2, .int .i64 x2), (7, .slice p26 l25.length c27), (8, .int .i64 x29), (9, .slice p47 l46.length c48), (10, .int .i64 x40), (11, .int .i64 x41), (13, .int .i64 x51), (14, .int .i64 (IntKind.i64.wrap ((IntKind.i64.wrap (y55 + (IntKind.i64.wrap (y57 * (x40.tmod 65536))))) + x50)))] (fun _ _ _ _ _ h => calm_fin (P := Try.prog) (fn := Try.f20) _ _ _ _ _ h) (fun w hs => sat_pulls [0, 0, 0] (G := [] ++ F0) rfl hs) rfl (by kernel_rfl) ?_
                  refine aw_keep [0, 1, 2, 7, 8, 9, 10, 11, 13, 14] (L' := [(0, .int .i64 x0), (1, .int .i64 x1), (2, .int .i64 x2), (7, .slice p26 l25.length c27), (8, .int .i64 x29), (9, .slice p47 l46.length c48), (10, .int .i64 x40), (11, .int .i64 x41), (13, .int .i64 x51), (14, .int .i64 (IntKind.i64.wrap ((IntKind.i64.wrap (y55 + (IntKind.i64.wrap (y57 * (x40.tmod 65536))))) + x50)))]) rfl ?_
                  refine aw_end (by kernel_rfl) ?_
                  refine ew_then ?_
                  refine cw_seq ?_
                  refine cw_region ?_
                  refine ow_vals 6 (j := 6) [0, 1, 2, 7, 8, 9, 10, 11, 13, 14, 55, 58, 60] [(0, .int .i64 x0), (1, .int .i64 x1), (2, .int .i64 x2), (7, .slice p26 l25.length c27), (8, .int .i64 x29), (9, .slice p47 l46.length c48), (10, .int .i64 x40), (11, .int .i64 x41), (13, .int .i64 x51), (14, .int .i64 (IntKind.i64.wrap ((IntKind.i64.wrap (y55 + (IntKind.i64.wrap (y57 * (x40.tmod 65536))))) + x50))), (55, .slice p47 l46.length c48), (58, .int .i64 (IntKind.i64.wrap (x41 + x51))), (60, .int .i64 ((IntKind.i64.wrap ((IntKind.i64.wrap (y55 + (IntKind.i64.wrap (y57 * (x40.tmod 65536))))) + x50)).tmod 65536))] rfl (by kernel_rfl) ?_
                  obtain ⟨y59, h60, hF⟩ := bind_some hF
                  refine ow_pw rfl (pw_quiet (v := .pointer (some ((base p47).add ((IntKind.i64.wrap (x41 + x51)).toNat * 1)))) rfl rfl rfl rfl (q_index_own 2 1 rfl rfl (by kernel_rfl) rfl rfl (at_some h60).1 (at_lt h60)) (nw_ow ?_))
                  refine ow_pw rfl (pw_store_own 2 1 (z' := (IntKind.i64.wrap ((IntKind.i64.wrap (y55 + (IntKind.i64.wrap (y57 * (x40.tmod 65536))))) + x50)).tmod 65536) (off := 0) rfl rfl rfl rfl rfl rfl rfl rfl (at_some h60).2 (by kernel_rfl) (nw_H (H' := [imm I, own (eInt .i64) 3 p26 c27 l25, own (eInt .i64) 3 p47 c48 (l46.set (IntKind.i64.wrap (x41 + x51)).toNat ((IntKind.i64.wrap ((IntKind.i64.wrap (y55 + (IntKind.i64.wrap (y57 * (x40.tmod 65536))))) + x50)).tmod 65536))] ++ F0) (by first | rfl | (simp only [List.length_set]; rfl)) (nw_ow ?_)))
                  refine ow_slots (L' := [(61, .pointer (some ((base p47).add ((IntKind.i64.wrap (x41 + x51)).toNat * 1)))), (0, .int .i64 x0), (1, .int .i64 x1), (2, .int .i64 x2), (7, .slice p26 l25.length c27), (8, .int .i64 x29), (9, .slice p47 (l46.set (IntKind.i64.wrap (x41 + x51)).toNat ((IntKind.i64.wrap ((IntKind.i64.wrap (y55 + (IntKind.i64.wrap (y57 * (x40.tmod 65536))))) + x50)).tmod 65536)).length c48), (10, .int .i64 x40), (11, .int .i64 x41), (13, .int .i64 x51), (14, .int .i64 (IntKind.i64.wrap ((IntKind.i64.wrap (y55 + (IntKind.i64.wrap (y57 * (x40.tmod 65536))))) + x50))), (55, .slice p47 (l46.set (IntKind.i64.wrap (x41 + x51)).toNat ((IntKind.i64.wrap ((IntKind.i64.wrap (y55 + (IntKind.i64.wrap (y57 * (x40.tmod 65536))))) + x50)).tmod 65536)).length c48), (58, .int .i64 (IntKind.i64.wrap (x41 + x51))), (60, .int .i64 ((IntKind.i64.wrap ((IntKind.i64.wrap (y55 + (IntKind.i64.wrap (y57 * (x40.tmod 65536))))) + x50)).tmod 65536))]) (by first | rfl | (simp only [List.length_set]; rfl)) ?_
                  refine ow_end rfl ?_
                  refine ew_then ?_
                  refine cw_region ?_
                  refine ow_vals 3 (j := 3) [0, 1, 2, 7, 8, 9, 10, 11, 12, 13] [(0, .int .i64 x0), (1, .int .i64 x1), (2, .int .i64 x2), (7, .slice p26 l25.length c27), (8, .int .i64 x29), (9, .slice p47 (l46.set (IntKind.i64.wrap (x41 + x51)).toNat ((IntKind.i64.wrap ((IntKind.i64.wrap (y55 + (IntKind.i64.wrap (y57 * (x40.tmod 65536))))) + x50)).tmod 65536)).length c48), (10, .int .i64 x40), (11, .int .i64 x41), (12, .int .i64 (IntKind.i64.wrap ((IntKind.i64.wrap ((IntKind.i64.wrap (y55 + (IntKind.i64.wrap (y57 * (x40.tmod 65536))))) + x50)).tdiv 65536))), (13, .int .i64 x51)] rfl (by kernel_rfl) ?_
                  refine ow_end rfl ?_
                  refine ew_blk ?_
                  refine ew_then ?_
                  refine cw_region ?_
                  refine ow_vals 3 (j := 3) [0, 1, 2, 7, 8, 9, 10, 11, 12, 13] [(0, .int .i64 x0), (1, .int .i64 x1), (2, .int .i64 x2), (7, .slice p26 l25.length c27), (8, .int .i64 x29), (9, .slice p47 (l46.set (IntKind.i64.wrap (x41 + x51)).toNat ((IntKind.i64.wrap ((IntKind.i64.wrap (y55 + (IntKind.i64.wrap (y57 * (x40.tmod 65536))))) + x50)).tmod 65536)).length c48), (10, .int .i64 x40), (11, .int .i64 x41), (12, .int .i64 (IntKind.i64.wrap ((IntKind.i64.wrap ((IntKind.i64.wrap (y55 + (IntKind.i64.wrap (y57 * (x40.tmod 65536))))) + x50)).tdiv 65536))), (13, .int .i64 (IntKind.i64.wrap (x51 + 1)))] rfl (by kernel_rfl) ?_
                  refine ow_end rfl ?_
                  have hR := Option.some.inj hF
                  subst hR
                  have hR := hL45
                  try dsimp only at hR
                  exact fun a w hf hs => ⟨k, Nat.lt_succ_self k, l46.set (IntKind.i64.wrap (x41 + x51)).toNat ((IntKind.i64.wrap ((IntKind.i64.wrap (y55 + (IntKind.i64.wrap (y57 * (x40.tmod 65536))))) + x50)).tmod 65536), IntKind.i64.wrap ((IntKind.i64.wrap ((IntKind.i64.wrap (y55 + (IntKind.i64.wrap (y57 * (x40.tmod 65536))))) + x50)).tdiv 65536), IntKind.i64.wrap (x51 + 1), p47, c48, hR, hf.keep [0, 1, 2, 7, 8, 9, 10, 11, 12, 13], sat_to [0, 0, 0] 0 rfl hs⟩
              · rintro a w ⟨l61, p62, c63, hv, hf, hs⟩
                subst hv
                replace hF := hK44
                clear hK44
                try dsimp only at hF
                revert a w
                show CW _ _ _ 95 [(0, .int .i64 x0), (1, .int .i64 x1), (2, .int .i64 x2), (7, .slice p26 l25.length c27), (8, .int .i64 x29), (9, .slice p62 l61.length c63), (10, .int .i64 x40), (11, .int .i64 x41)] (SAT w0 ([imm I, own (eInt .i64) 3 p26 c27 l25, own (eInt .i64) 3 p62 c63 l61] ++ F0))
                unfold F.ref02_more.r3 at hF
                refine cw_region ?_
                refine ow_vals 3 (j := 3) [0, 1, 2, 7, 8, 9, 10, 11] [(0, .int .i64 x0), (1, .int .i64 x1), (2, .int .i64 x2), (7, .slice p26 l25.length c27), (8, .int .i64 x29), (9, .slice p62 l61.length c63), (10, .int .i64 (IntKind.i64.wrap (x40.tdiv 65536))), (11, .int .i64 x41)] rfl (by kernel_rfl) ?_
                refine ow_end rfl ?_
                refine ew_blk ?_
                have hR := Option.some.inj hF
                exact fun a w hf hs => ⟨l61, p62, c63, hR, hf.keep [0, 1, 2, 7, 8, 9, 10, 11], sat_to [0, 0, 0] 0 rfl hs⟩
            · rintro a w ⟨l65, p66, c67, hv, hf, hs⟩
              subst hv
              replace hF := hK43
              clear hK43
              try dsimp only at hF
              revert a w
              show CW _ _ _ 95 [(0, .int .i64 x0), (1, .int .i64 x1), (2, .int .i64 x2), (7, .slice p26 l25.length c27), (8, .int .i64 x29), (9, .slice p66 l65.length c67), (10, .int .i64 (IntKind.i64.wrap (x40.tdiv 65536))), (11, .int .i64 x41)] (SAT w0 ([imm I, own (eInt .i64) 3 p26 c27 l25, own (eInt .i64) 3 p66 c67 l65] ++ F0))
              unfold F.ref02_more.r4 at hF
              refine cw_region ?_
              refine ow_vals 3 (j := 3) [0, 1, 2, 7, 8, 9, 10, 11] [(0, .int .i64 x0), (1, .int .i64 x1), (2, .int .i64 x2), (7, .slice p26 l25.length c27), (8, .int .i64 x29), (9, .slice p66 l65.length c67), (10, .int .i64 (IntKind.i64.wrap (x40.tdiv 65536))), (11, .int .i64 (IntKind.i64.wrap (x41 + 1)))] rfl (by kernel_rfl) ?_
              refine ow_end rfl ?_
              have hR := Option.some.inj hF
              subst hR
              have hR := hL35
              try dsimp only at hR
              exact fun a w hf hs => ⟨k, Nat.lt_succ_self k, l65, IntKind.i64.wrap (x40.tdiv 65536), IntKind.i64.wrap (x41 + 1), p66, c67, hR, hf.keep [0, 1, 2, 7, 8, 9, 10, 11], sat_to [0, 0, 0] 0 rfl hs⟩
          · refine cw_cond_f rfl rfl h42 ?_
            refine cw_exit ?_
            refine ew_then_exit ?_
            refine ew_then_exit ?_
            refine ew_blk_exit ?_
            have hR := Option.some.inj hF
            subst hR
            have hR := hL35
            try dsimp only at hR
            exact fun a w hf hs => ⟨l36, p37, c38, hR, hf.keep [0, 1, 2, 8, 9], sat_to [1, 0, 0] 1 rfl hs⟩
        · rintro a w ⟨l69, p70, c71, hv, hf, hs⟩
          subst hv
          replace hF := hK34
          clear hK34
          try dsimp only at hF
          revert a w
          show CW _ _ _ 95 [(0, .int .i64 x0), (1, .int .i64 x1), (2, .int .i64 x2), (8, .int .i64 x29), (9, .slice p70 l69.length c71)] (SAT w0 ([imm I, own (eInt .i64) 3 p70 c71 l69] ++ F0))
          unfold F.ref02_more.r6 at hF
          refine cw_region ?_
          refine ow_vals 2 (j := 2) [0, 1, 2, 7, 8] [(0, .int .i64 x0), (1, .int .i64 x1), (2, .int .i64 x2), (7, .slice p70 l69.length c71), (8, .int .i64 x29)] rfl (by kernel_rfl) ?_
          refine ow_end rfl ?_
          refine ew_blk ?_
          have hR := Option.some.inj hF
          exact fun a w hf hs => ⟨l69, p70, c71, hR, hf.keep [0, 1, 2, 7, 8], sat_to [0, 0] 0 rfl hs⟩
      · rintro a w ⟨l73, p74, c75, hv, hf, hs⟩
        subst hv
        replace hF := hK31
        clear hK31
        try dsimp only at hF
        revert a w
        show CW _ _ _ 95 [(0, .int .i64 x0), (1, .int .i64 x1), (2, .int .i64 x2), (7, .slice p74 l73.length c75), (8, .int .i64 x29)] (SAT w0 ([imm I, own (eInt .i64) 3 p74 c75 l73] ++ F0))
        unfold F.ref02_more.r7 at hF
        refine cw_region ?_
        refine ow_vals 3 (j := 3) [0, 1, 2, 7, 8] [(0, .int .i64 x0), (1, .int .i64 x1), (2, .int .i64 x2), (7, .slice p74 l73.length c75), (8, .int .i64 (IntKind.i64.wrap (x29 + 1)))] rfl (by kernel_rfl) ?_
        refine ow_end rfl ?_
        have hR := Option.some.inj hF
        subst hR
        have hR := hL24
        try dsimp only at hR
        exact fun a w hf hs => ⟨k, Nat.lt_succ_self k, l73, IntKind.i64.wrap (x29 + 1), p74, c75, hR, hf.keep [0, 1, 2, 7, 8], sat_to [0, 0] 0 rfl hs⟩
    · refine cw_cond_f rfl rfl h30 ?_
      refine cw_exit ?_
      refine ew_then_exit ?_
      refine ew_then_exit ?_
      refine ew_blk_exit ?_
      have hR := Option.some.inj hF
      subst hR
      have hR := hL24
      try dsimp only at hR
      exact fun a w hf hs => ⟨l25, p26, c27, hR, hf.keep [1, 2, 7], sat_to [0, 0] 0 rfl hs⟩
  · rintro a w ⟨l77, p78, c79, hv, hf, hs⟩
    subst hv
    replace hF := hK23
    clear hK23
    try dsimp only at hF
    revert a w
    show CW _ _ _ 95 [(1, .int .i64 x1), (2, .int .i64 x2), (7, .slice p78 l77.length c79)] (SAT w0 ([imm I, own (eInt .i64) 3 p78 c79 l77] ++ F0))
    unfold F.ref02_more.r9 at hF
    refine cw_seq ?_
    refine cw_region ?_
    refine ow_pw rfl (pw_buildSlice (E := 3) (eInt .i64) ([0, 0, 0, 0, 0, 0, 0, 0, 0, 0] : List Int) rfl rfl rfl rfl rfl (by kernel_rfl) rfl (by kernel_rfl) rfl (by decide) rfl fun p81 => nw_ow ?_)
    refine ow_vals 1 (j := 2) [1, 2, 7, 15] [(1, .int .i64 x1), (2, .int .i64 x2), (7, .slice p78 l77.length c79), (15, .slice p81 ([0, 0, 0, 0, 0, 0, 0, 0, 0, 0] : List Int).length 10)] rfl (by kernel_rfl) ?_
    refine ow_end rfl ?_
    refine ew_then ?_
    refine cw_seq ?_
    refine cw_region ?_
    refine ow_vals 4 (j := 4) [7, 15, 68, 70, 71] [(7, .slice p78 l77.length c79), (15, .slice p81 ([0, 0, 0, 0, 0, 0, 0, 0, 0, 0] : List Int).length 10), (68, .slice p81 ([0, 0, 0, 0, 0, 0, 0, 0, 0, 0] : List Int).length 10), (70, .int .i64 (IntKind.i64.wrap (2 * x1))), (71, .int .i64 x2)] rfl (by kernel_rfl) ?_
    obtain ⟨y83, h84, hF⟩ := bind_some hF
    refine ow_pw rfl (pw_quiet (v := .pointer (some ((base p81).add ((IntKind.i64.wrap (2 * x1)).toNat * 1)))) rfl rfl rfl rfl (q_index_own 0 1 rfl rfl (by kernel_rfl) rfl rfl (at_some h84).1 (at_lt h84)) (nw_ow ?_))
    refine ow_pw rfl (pw_store_own 0 1 (z' := x2) (off := 0) rfl rfl rfl rfl rfl rfl rfl rfl (at_some h84).2 (by kernel_rfl) (nw_H (H' := [own (eInt .i64) 3 p81 10 (([0, 0, 0, 0, 0, 0, 0, 0, 0, 0] : List Int).set (IntKind.i64.wrap (2 * x1)).toNat x2), imm I, own (eInt .i64) 3 p78 c79 l77] ++ F0) (by first | rfl | (simp only [List.length_set]; rfl)) (nw_ow ?_)))
    refine ow_slots (L' := [(72, .pointer (some ((base p81).add ((IntKind.i64.wrap (2 * x1)).toNat * 1)))), (7, .slice p78 l77.length c79), (15, .slice p81 (([0, 0, 0, 0, 0, 0, 0, 0, 0, 0] : List Int).set (IntKind.i64.wrap (2 * x1)).toNat x2).length 10), (68, .slice p81 (([0, 0, 0, 0, 0, 0, 0, 0, 0, 0] : List Int).set (IntKind.i64.wrap (2 * x1)).toNat x2).length 10), (70, .int .i64 (IntKind.i64.wrap (2 * x1))), (71, .int .i64 x2)]) (by first | rfl | (simp only [List.length_set]; rfl)) ?_
    refine ow_end rfl ?_
    refine ew_then ?_
    obtain ⟨v85, hF, hK85⟩ := thru_some hF
    refine cw_mid (fun a w => .inl () = v85 ∧ Fr 95 [] a ∧ SAT w0 ([imm I] ++ F0) w) ?_ ?_
    · refine cw_seq ?_
      refine cw_region ?_
      refine ow_vals 1 (j := 1) [7, 15, 16] [(7, .slice p78 l77.length c79), (15, .slice p81 (([0, 0, 0, 0, 0, 0, 0, 0, 0, 0] : List Int).set (IntKind.i64.wrap (2 * x1)).toNat x2).length 10), (16, .int .i64 9)] rfl (by kernel_rfl) ?_
      refine ow_end rfl ?_
      refine ew_then ?_
      refine cw_block ?_
      refine fun a w hf hs => wp_rounds (fun k a w => ∃ (x87 : Int), iter (fun x => F.ref02_more.l10 x1 x2 l77 x) k x87 = some v85 ∧ Fr 95 [(7, .slice p78 l77.length c79), (15, .slice p81 (([0, 0, 0, 0, 0, 0, 0, 0, 0, 0] : List Int).set (IntKind.i64.wrap (2 * x1)).toNat x2).length 10), (16, .int .i64 x87)] a ∧ SAT w0 ([imm I, own (eInt .i64) 3 p78 c79 l77, own (eInt .i64) 3 p81 10 (([0, 0, 0, 0, 0, 0, 0, 0, 0, 0] : List Int).set (IntKind.i64.wrap (2 * x1)).toNat x2)] ++ F0) w) ?_ FUEL a w ⟨9, hF, hf.keep [7, 15, 16], sat_to [1, 1, 0] 0 rfl hs⟩
      clear hf hs
      clear a w hF
      rintro k a w ⟨x87, hF2, hf, hs⟩
      obtain ⟨k, r86, rfl, hF, hL86⟩ := iter_some hF2
      clear hF2
      revert a w
      show CW _ _ _ 95 [(7, .slice p78 l77.length c79), (15, .slice p81 (([0, 0, 0, 0, 0, 0, 0, 0, 0, 0] : List Int).set (IntKind.i64.wrap (2 * x1)).toNat x2).length 10), (16, .int .i64 x87)] (SAT w0 ([imm I, own (eInt .i64) 3 p78 c79 l77, own (eInt .i64) 3 p81 10 (([0, 0, 0, 0, 0, 0, 0, 0, 0, 0] : List Int).set (IntKind.i64.wrap (2 * x1)).toNat x2)] ++ F0))
      try dsimp only at hF
      unfold F.ref02_more.l10 at hF
      refine cw_seq ?_
      refine cw_seq ?_
      refine cw_region ?_
      refine ow_vals 2 (j := 2) [7, 15, 16, 74] [(7, .slice p78 l77.length c79), (15, .slice p81 (([0, 0, 0, 0, 0, 0, 0, 0, 0, 0] : List Int).set (IntKind.i64.wrap (2 * x1)).toNat x2).length 10), (16, .int .i64 x87), (74, .bool (decide (x87 ≥ 0)))] rfl (by kernel_rfl) ?_
      refine ow_end rfl ?_
      refine ew_then ?_
      rcases if_some hF with ⟨h88, hF⟩ | ⟨h88, hF⟩
      · refine cw_cond_t rfl rfl h88 ?_
        refine cw_skip ?_
        refine ew_then ?_
        refine cw_seq ?_
        refine cw_block ?_
        refine cw_seq ?_
        refine cw_open 9 (SAT w0 ([imm I, own (eInt .i64) 3 p78 c79 l77, own (eInt .i64) 3 p81 10 (([0, 0, 0, 0, 0, 0, 0, 0, 0, 0] : List Int).set (IntKind.i64.wrap (2 * x1)).toNat x2)])) (by kernel_rfl) (f := 9) rfl (fun w hs => sat_drew hs) ?_
        refine aw_vals [0, 1, 4, 5] (f' := 5) (m' := 51) [7, 15, 16, 77, 78, 81, 82] [(7, .slice p78 l77.length c79), (15, .slice p81 (([0, 0, 0, 0, 0, 0, 0, 0, 0, 0] : List Int).set (IntKind.i64.wrap (2 * x1)).toNat x2).length 10), (16, .int .i64 x87), (77, .slice p78 l77.length c79), (78, .int .i64 x87), (81, .slice p81 (([0, 0, 0, 0, 0, 0, 0, 0, 0, 0] : List Int).set (IntKind.i64.wrap (2 * x1)).toNat x2).length 10), (82, .int .i64 x87)] (fun _ _ _ _ _ h => calm_fin (P := Try.prog) (fn := Try.f20) _ _ _ _ _ h) (fun w hs => sat_pulls [0, 0, 0] (G := [] ++ F0) rfl hs) rfl (by kernel_rfl) ?_
        obtain ⟨y89, h90, hF⟩ := bind_some hF
        refine aw_quiet 2 (m' := 55) (v := .pointer (some ((base p78).add (x87.toNat * 1)))) 0 [] rfl rfl rfl rfl (by kernel_rfl) (by kernel_rfl) (by kernel_rfl) (fun _ _ _ _ _ h => calm_fin (P := Try.prog) (fn := Try.f20) _ _ _ _ _ h) (fun w hs => sat_pulls [0, 0, 0] (G := [] ++ F0) rfl hs) (q_index_own 1 1 rfl rfl (by kernel_rfl) rfl rfl (at_some h90).1 (at_lt h90)) ?_
        refine aw_quiet 3 (m' := 63) (v := .int .i64 y89) 0 [] rfl rfl rfl rfl (by kernel_rfl) (by kernel_rfl) (by kernel_rfl) (fun _ _ _ _ _ h => calm_fin (P := Try.prog) (fn := Try.f20) _ _ _ _ _ h) (fun w hs => sat_pulls [0, 0, 0] (G := [] ++ F0) rfl hs) (q_load_own0 1 1 rfl rfl rfl rfl (at_some h90).2 (by kernel_rfl)) ?_
        obtain ⟨y91, h92, hF⟩ := bind_some hF
        refine aw_quiet 6 (m' := 127) (v := .pointer (some ((base p81).add (x87.toNat * 1)))) 0 [] rfl rfl rfl rfl (by kernel_rfl) (by kernel_rfl) (by kernel_rfl) (fun _ _ _ _ _ h => calm_fin (P := Try.prog) (fn := Try.f20) _ _ _ _ _ h) (fun w hs => sat_pulls [0, 0, 0] (G := [] ++ F0) rfl hs) (q_index_own 2 1 rfl rfl (by kernel_rfl) rfl rfl (at_some h92).1 (at_lt h92)) ?_
        refine aw_quiet 7 (m' := 255) (v := .int .i64 y91) 0 [] rfl rfl rfl rfl (by kernel_rfl) (by kernel_rfl) (by kernel_rfl) (fun _ _ _ _ _ h => calm_fin (P := Try.prog) (fn := Try.f20) _ _ _ _ _ h) (fun w hs => sat_pulls [0, 0, 0] (G := [] ++ F0) rfl hs) (q_load_own0 2 1 rfl rfl rfl rfl (at_some h92).2 (by kernel_rfl)) ?_
        refine aw_vals [8] (f' := 0) (m' := 511) [7, 15, 16, 85] [(7, .slice p78 l77.length c79), (15, .slice p81 (([0, 0, 0, 0, 0, 0, 0, 0, 0, 0] : List Int).set (IntKind.i64.wrap (2 * x1)).toNat x2).length 10), (16, .int .i64 x87), (85, .bool (y89 != y91))] (fun _ _ _ _ _ h => calm_fin (P := Try.prog) (fn := Try.f20) _ _ _ _ _ h) (fun w hs => sat_pulls [0, 0, 0] (G := [] ++ F0) rfl hs) rfl (by kernel_rfl) ?_
        refine aw_keep [7, 15, 16, 85] (L' := [(7, .slice p78 l77.length c79), (15, .slice p81 (([0, 0, 0, 0, 0, 0, 0, 0, 0, 0] : List Int).set (IntKind.i64.wrap (2 * x1)).toNat x2).length 10), (16, .int .i64 x87), (85, .bool (y89 != y91))]) rfl ?_
        refine aw_end (by kernel_rfl) ?_
        refine ew_then ?_
        rcases if_some hF with ⟨h93, hF⟩ | ⟨h93, hF⟩
        · refine cw_cond_t rfl rfl h93 ?_
          refine cw_seq ?_
          refine cw_open 10 (SAT w0 ([imm I, own (eInt .i64) 3 p78 c79 l77, own (eInt .i64) 3 p81 10 (([0, 0, 0, 0, 0, 0, 0, 0, 0, 0] : List Int).set (IntKind.i64.wrap (2 * x1)).toNat x2)])) (by kernel_rfl) (f := 10) rfl (fun w hs => sat_drew hs) ?_
          refine aw_vals [0, 1, 4, 5] (f' := 6) (m' := 51) [86, 87, 90, 91] [(86, .slice p78 l77.length c79), (87, .int .i64 x87), (90, .slice p81 (([0, 0, 0, 0, 0, 0, 0, 0, 0, 0] : List Int).set (IntKind.i64.wrap (2 * x1)).toNat x2).length 10), (91, .int .i64 x87)] (fun _ _ _ _ _ h => calm_fin (P := Try.prog) (fn := Try.f20) _ _ _ _ _ h) (fun w hs => sat_pulls [0, 0, 0] (G := [] ++ F0) rfl hs) rfl (by kernel_rfl) ?_
          obtain ⟨y94, h95, hF⟩ := bind_some hF
          refine aw_quiet 2 (m' := 55) (v := .pointer (some ((base p78).add (x87.toNat * 1)))) 0 [] rfl rfl rfl rfl (by kernel_rfl) (by kernel_rfl) (by kernel_rfl) (fun _ _ _ _ _ h => calm_fin (P := Try.prog) (fn := Try.f20) _ _ _ _ _ h) (fun w hs => sat_pulls [0, 0, 0] (G := [] ++ F0) rfl hs) (q_index_own 1 1 rfl rfl (by kernel_rfl) rfl rfl (at_some h95).1 (at_lt h95)) ?_
          refine aw_quiet 3 (m' := 63) (v := .int .i64 y94) 0 [] rfl rfl rfl rfl (by kernel_rfl) (by kernel_rfl) (by kernel_rfl) (fun _ _ _ _ _ h => calm_fin (P := Try.prog) (fn := Try.f20) _ _ _ _ _ h) (fun w hs => sat_pulls [0, 0, 0] (G := [] ++ F0) rfl hs) (q_load_own0 1 1 rfl rfl rfl rfl (at_some h95).2 (by kernel_rfl)) ?_
          obtain ⟨y96, h97, hF⟩ := bind_some hF
          refine aw_quiet 6 (m' := 127) (v := .pointer (some ((base p81).add (x87.toNat * 1)))) 0 [] rfl rfl rfl rfl (by kernel_rfl) (by kernel_rfl) (by kernel_rfl) (fun _ _ _ _ _ h => calm_fin (P := Try.prog) (fn := Try.f20) _ _ _ _ _ h) (fun w hs => sat_pulls [0, 0, 0] (G := [] ++ F0) rfl hs) (q_index_own 2 1 rfl rfl (by kernel_rfl) rfl rfl (at_some h97).1 (at_lt h97)) ?_
          refine aw_quiet 7 (m' := 255) (v := .int .i64 y96) 0 [] rfl rfl rfl rfl (by kernel_rfl) (by kernel_rfl) (by kernel_rfl) (fun _ _ _ _ _ h => calm_fin (P := Try.prog) (fn := Try.f20) _ _ _ _ _ h) (fun w hs => sat_pulls [0, 0, 0] (G := [] ++ F0) rfl hs) (q_load_own0 2 1 rfl rfl rfl rfl (at_some h97).2 (by kernel_rfl)) ?_
          refine aw_vals [8, 9] (f' := 0) (m' := 1023) [6] [(6, .bool (decide (y94 > y96)))] (fun _ _ _ _ _ h => calm_fin (P := Try.prog) (fn := Try.f20) _ _ _ _ _ h) (fun w hs => sat_pulls [0, 0, 0] (G := [] ++ F0) rfl hs) rfl (by kernel_rfl) ?_
          refine aw_keep [6] (L' := [(6, .bool (decide (y94 > y96)))]) rfl ?_
          refine aw_end (by kernel_rfl) ?_
          refine ew_then ?_
          refine cw_ret ?_
          refine ew_blk_ret ?_
          refine ew_then_ret ?_
          refine ew_then_ret ?_
          refine ew_blk_ret ?_
          refine ew_then_ret ?_
          have hR := Option.some.inj hF
          subst hR
          have hR := hL86
          try dsimp only at hR
          subst hR
          have hR := hK85
          try dsimp only [Thru] at hR
          subst hR
          exact fin1 (H1 := [imm I]) (fun w hs => sat_to [1, 1, 0] 2 rfl hs) rfl (rr_tmp rfl) ⟨rfl, rfl⟩
        · refine cw_cond_f rfl rfl h93 ?_
          refine cw_skip ?_
          refine ew_blk ?_
          refine ew_then ?_
          refine cw_region ?_
          refine ow_vals 3 (j := 3) [7, 15, 16] [(7, .slice p78 l77.length c79), (15, .slice p81 (([0, 0, 0, 0, 0, 0, 0, 0, 0, 0] : List Int).set (IntKind.i64.wrap (2 * x1)).toNat x2).length 10), (16, .int .i64 (IntKind.i64.wrap (x87 - 1)))] rfl (by kernel_rfl) ?_
          refine ow_end rfl ?_
          have hR := Option.some.inj hF
          subst hR
          have hR := hL86
          try dsimp only at hR
          exact fun a w hf hs => ⟨k, Nat.lt_succ_self k, IntKind.i64.wrap (x87 - 1), hR, hf.keep [7, 15, 16], sat_to [0, 0, 0] 0 rfl hs⟩
      · refine cw_cond_f rfl rfl h88 ?_
        refine cw_exit ?_
        refine ew_then_exit ?_
        refine ew_then_exit ?_
        refine ew_blk_exit ?_
        have hR := Option.some.inj hF
        subst hR
        have hR := hL86
        try dsimp only at hR
        exact fun a w hf hs => ⟨hR, hf.keep [], sat_to [1, 1, 0] 2 rfl hs⟩
    · rintro a w ⟨hv, hf, hs⟩
      subst hv
      replace hF := hK85
      clear hK85
      try dsimp only [Thru] at hF
      revert a w
      show CW _ _ _ 95 [] (SAT w0 ([imm I] ++ F0))
      unfold F.ref02_more.r11 at hF
      refine cw_seq ?_
      refine cw_region ?_
      refine ow_vals 1 (j := 1) [6] [(6, .bool false)] rfl (by kernel_rfl) ?_
      refine ow_end rfl ?_
      refine ew_then ?_
      refine cw_ret ?_
      have hR := Option.some.inj hF
      subst hR
      exact fin1 (H1 := [imm I]) (fun w hs => sat_to [0] 0 rfl hs) rfl (rr_tmp rfl) ⟨rfl, rfl⟩


def F.ref02_root.l1 (x0 : Int) (x1 : Int) (x23 : Int) (x24 : Int) : Option ((Int × Int) ⊕ (Int)) :=
  if decide (x24 ≥ 0) then (chk (0 ≤ x24) (Option.bind (F.ref02_more (IntKind.i64.wrap (x23 + (IntKind.i64.wrap (1 * (2 : Int) ^ (min x24.toNat 64))))) x1 x0) (fun (r27 : Bool) => if !r27 then (some (.inl (IntKind.i64.wrap (x23 + (IntKind.i64.wrap (1 * (2 : Int) ^ (min x24.toNat 64)))), IntKind.i64.wrap (x24 - 1)))) else (some (.inl (x23, IntKind.i64.wrap (x24 - 1))))))) else (some (.inr (x23)))
def F.ref02_root.r2 (x30 : Int) : Option (Int) :=
  some ((x30.tmod 4294967296))
def F.ref02_root (x0 : Int) (x1 : Int) : Option Int :=
  Option.bind (iter (fun x => F.ref02_root.l1 x0 x1 x.1 x.2) FUEL (0, 36)) (fun x => F.ref02_root.r2 x)
set_option maxRecDepth 100000 in
set_option maxHeartbeats 4000000 in
theorem c_ref02_root (I : Hl) (x0 : Int) (x1 : Int) (res : Int) (hF : F.ref02_root x0 x1 = some res) : Tr Try.prog 16 [.int .i64 x0, .int .i64 x1] [imm I] (fun r H' => r = .int .i64 res ∧ H' = [imm I]) := by
  unfold F.ref02_root at hF
  refine tr_of_cw (fn := Try.f16) Try.func16 rfl (Nat.le_of_ble_eq_true rfl) 24 rfl fun F0 w0 => ?_
  refine cw_keep [0, 1] (L' := [(0, .int .i64 x0), (1, .int .i64 x1)]) rfl ?_
  refine cw_state (S' := SAT w0 ([imm I] ++ F0)) (fun w hs => hs) ?_
  refine cw_seq ?_
  refine cw_region ?_
  refine ow_vals 1 (j := 1) [0, 1] [(0, .int .i64 x0), (1, .int .i64 x1)] rfl (by kernel_rfl) ?_
  refine ow_end rfl ?_
  refine ew_then ?_
  refine cw_seq ?_
  refine cw_region ?_
  refine ow_vals 1 (j := 1) [0, 1, 5] [(0, .int .i64 x0), (1, .int .i64 x1), (5, .int .i64 0)] rfl (by kernel_rfl) ?_
  refine ow_end rfl ?_
  refine ew_then ?_
  obtain ⟨v21, hF, hK21⟩ := bind_some hF
  refine cw_mid (fun a w => ∃ (x30 : Int), x30 = v21 ∧ Fr 24 [(5, .int .i64 x30)] a ∧ SAT w0 ([imm I] ++ F0) w) ?_ ?_
  · refine cw_seq ?_
    refine cw_region ?_
    refine ow_vals 1 (j := 1) [0, 1, 5, 6] [(0, .int .i64 x0), (1, .int .i64 x1), (5, .int .i64 0), (6, .int .i64 36)] rfl (by kernel_rfl) ?_
    refine ow_end rfl ?_
    refine ew_then ?_
    refine cw_block ?_
    refine fun a w hf hs => wp_rounds (fun k a w => ∃ (x23 : Int), ∃ (x24 : Int), iter (fun x => F.ref02_root.l1 x0 x1 x.1 x.2) k (x23, x24) = some v21 ∧ Fr 24 [(0, .int .i64 x0), (1, .int .i64 x1), (5, .int .i64 x23), (6, .int .i64 x24)] a ∧ SAT w0 ([imm I] ++ F0) w) ?_ FUEL a w ⟨0, 36, hF, hf.keep [0, 1, 5, 6], sat_to [0] 0 rfl hs⟩
    clear hf hs
    clear a w hF
    rintro k a w ⟨x23, x24, hF2, hf, hs⟩
    obtain ⟨k, r22, rfl, hF, hL22⟩ := iter_some hF2
    clear hF2
    revert a w
    show CW _ _ _ 24 [(0, .int .i64 x0), (1, .int .i64 x1), (5, .int .i64 x23), (6, .int .i64 x24)] (SAT w0 ([imm I] ++ F0))
    try dsimp only at hF
    unfold F.ref02_root.l1 at hF
    refine cw_seq ?_
    refine cw_seq ?_
    refine cw_region ?_
    refine ow_vals 2 (j := 2) [0, 1, 5, 6, 9] [(0, .int .i64 x0), (1, .int .i64 x1), (5, .int .i64 x23), (6, .int .i64 x24), (9, .bool (decide (x24 ≥ 0)))] rfl (by kernel_rfl) ?_
    refine ow_end rfl ?_
    refine ew_then ?_
    rcases if_some hF with ⟨h25, hF⟩ | ⟨h25, hF⟩
    · refine cw_cond_t rfl rfl h25 ?_
      refine cw_skip ?_
      refine ew_then ?_
      refine cw_seq ?_
      refine cw_block ?_
      refine cw_seq ?_
      refine cw_region ?_
      refine ow_vals 2 (j := 2) [0, 1, 5, 6, 12, 13] [(0, .int .i64 x0), (1, .int .i64 x1), (5, .int .i64 x23), (6, .int .i64 x24), (12, .int .i64 x23), (13, .int .i64 x24)] rfl (by kernel_rfl) ?_
      obtain ⟨h26, hF⟩ := chk_some hF
      refine ow_pw rfl (pw_quiet (v := .int .i64 (IntKind.i64.wrap (1 * (2 : Int) ^ (min x24.toNat 64)))) rfl rfl rfl rfl (q_shift_shl rfl rfl rfl h26) (nw_ow ?_))
      refine ow_vals 2 (j := 5) [0, 1, 5, 6, 7] [(0, .int .i64 x0), (1, .int .i64 x1), (5, .int .i64 x23), (6, .int .i64 x24), (7, .int .i64 (IntKind.i64.wrap (x23 + (IntKind.i64.wrap (1 * (2 : Int) ^ (min x24.toNat 64))))))] rfl (by kernel_rfl) ?_
      refine ow_end rfl ?_
      refine ew_then ?_
      refine cw_seq ?_
      refine cw_region ?_
      refine ow_vals 3 (j := 3) [0, 1, 5, 6, 7, 16, 17, 18] [(0, .int .i64 x0), (1, .int .i64 x1), (5, .int .i64 x23), (6, .int .i64 x24), (7, .int .i64 (IntKind.i64.wrap (x23 + (IntKind.i64.wrap (1 * (2 : Int) ^ (min x24.toNat 64)))))), (16, .int .i64 (IntKind.i64.wrap (x23 + (IntKind.i64.wrap (1 * (2 : Int) ^ (min x24.toNat 64)))))), (17, .int .i64 x1), (18, .int .i64 x0)] rfl (by kernel_rfl) ?_
      obtain ⟨r27, h28, hF⟩ := bind_some hF
      refine ow_pw rfl (pw_call (F := [] ++ F0) rfl rfl rfl rfl rfl rfl rfl (by kernel_rfl) (perm_of_pulls [0] rfl) (c_ref02_more _ _ _ _ r27 h28) ?_)
      rintro _ _ ⟨rfl, rfl⟩
      refine nw_H (H' := [imm I] ++ F0) rfl (nw_ow ?_)
      refine ow_vals 1 (j := 5) [0, 1, 5, 6, 7, 20] [(0, .int .i64 x0), (1, .int .i64 x1), (5, .int .i64 x23), (6, .int .i64 x24), (7, .int .i64 (IntKind.i64.wrap (x23 + (IntKind.i64.wrap (1 * (2 : Int) ^ (min x24.toNat 64)))))), (20, .bool (!r27))] rfl (by kernel_rfl) ?_
      refine ow_end rfl ?_
      refine ew_then ?_
      rcases if_some hF with ⟨h29, hF⟩ | ⟨h29, hF⟩
      · refine cw_cond_t rfl rfl h29 ?_
        refine cw_region ?_
        refine ow_vals 2 (j := 2) [0, 1, 5, 6] [(0, .int .i64 x0), (1, .int .i64 x1), (5, .int .i64 (IntKind.i64.wrap (x23 + (IntKind.i64.wrap (1 * (2 : Int) ^ (min x24.toNat 64)))))), (6, .int .i64 x24)] rfl (by kernel_rfl) ?_
        refine ow_end rfl ?_
        refine ew_blk ?_
        refine ew_then ?_
        refine cw_region ?_
        refine ow_vals 3 (j := 3) [0, 1, 5, 6] [(0, .int .i64 x0), (1, .int .i64 x1), (5, .int .i64 (IntKind.i64.wrap (x23 + (IntKind.i64.wrap (1 * (2 : Int) ^ (min x24.toNat 64)))))), (6, .int .i64 (IntKind.i64.wrap (x24 - 1)))] rfl (by kernel_rfl) ?_
        refine ow_end rfl ?_
        have hR := Option.some.inj hF
        subst hR
        have hR := hL22
        try dsimp only at hR
        exact fun a w hf hs => ⟨k, Nat.lt_succ_self k, IntKind.i64.wrap (x23 + (IntKind.i64.wrap (1 * (2 : Int) ^ (min x24.toNat 64)))), IntKind.i64.wrap (x24 - 1), hR, hf.keep [0, 1, 5, 6], sat_to [0] 0 rfl hs⟩
      · refine cw_cond_f rfl rfl h29 ?_
        refine cw_skip ?_
        refine ew_blk ?_
        refine ew_then ?_
        refine cw_region ?_
        refine ow_vals 3 (j := 3) [0, 1, 5, 6] [(0, .int .i64 x0), (1, .int .i64 x1), (5, .int .i64 x23), (6, .int .i64 (IntKind.i64.wrap (x24 - 1)))] rfl (by kernel_rfl) ?_
        refine ow_end rfl ?_
        have hR := Option.some.inj hF
        subst hR
        have hR := hL22
        try dsimp only at hR
        exact fun a w hf hs => ⟨k, Nat.lt_succ_self k, x23, IntKind.i64.wrap (x24 - 1), hR, hf.keep [0, 1, 5, 6], sat_to [0] 0 rfl hs⟩
    · refine cw_cond_f rfl rfl h25 ?_
      refine cw_exit ?_
      refine ew_then_exit ?_
      refine ew_then_exit ?_
      refine ew_blk_exit ?_
      have hR := Option.some.inj hF
      subst hR
      have hR := hL22
      try dsimp only at hR
      exact fun a w hf hs => ⟨x23, hR, hf.keep [5], sat_to [0] 0 rfl hs⟩
  · rintro a w ⟨x30, hv, hf, hs⟩
    subst hv
    replace hF := hK21
    clear hK21
    try dsimp only at hF
    revert a w
    show CW _ _ _ 24 [(5, .int .i64 x30)] (SAT w0 ([imm I] ++ F0))
    unfold F.ref02_root.r2 at hF
    refine cw_seq ?_
    refine cw_region ?_
    refine ow_vals 3 (j := 3) [4] [(4, .int .i64 (x30.tmod 4294967296))] rfl (by kernel_rfl) ?_
    refine ow_end rfl ?_
    refine ew_then ?_
    refine cw_ret ?_
    have hR := Option.some.inj hF
    subst hR
    exact fin1 (H1 := [imm I]) (fun w hs => sat_to [0] 0 rfl hs) rfl (rr_tmp rfl) ⟨rfl, rfl⟩


def F.ref02_pad.l1 (l32 : List Int) : Option (((List Int)) ⊕ ((List Int))) :=
  if ((l32.length : Int).tmod 64) != 56 then (chk (room (l32.length + ([0] : List Int).length) 1) (some (.inl (l32 ++ ([0] : List Int))))) else (some (.inr (l32)))
def F.ref02_pad.l3 (x0 : ByteArray) (l48 : List Int) (x52 : Int) : Option (((List Int) × Int) ⊕ ((List Int))) :=
  if decide (x52 ≥ 0) then (chk (0 ≤ (IntKind.i64.wrap (8 * x52))) (chk (room (l48.length + ([IntKind.u8.wrap ((IntKind.i64.wrap (8 * (x0.size : Int))).fdiv ((2 : Int) ^ (min (IntKind.i64.wrap (8 * x52)).toNat 64)))] : List Int).length) 1) (some (.inl (l48 ++ ([IntKind.u8.wrap ((IntKind.i64.wrap (8 * (x0.size : Int))).fdiv ((2 : Int) ^ (min (IntKind.i64.wrap (8 * x52)).toNat 64)))] : List Int), IntKind.i64.wrap (x52 - 1)))))) else (some (.inr (l48)))
def F.ref02_pad.r4 (l60 : List Int) : Option (ByteArray) :=
  some ((bstr l60))
def F.ref02_pad.r2 (x0 : ByteArray) (l42 : List Int) : Option (ByteArray) :=
  Option.bind (iter (fun x => F.ref02_pad.l3 x0 x.1 x.2) FUEL (l42, 7)) (fun x => F.ref02_pad.r4 x)
def F.ref02_pad (x0 : ByteArray) : Option ByteArray :=
  chk (x0.size ≤ maxLen) (chk (room ((sbytes x0).length + ([128] : List Int).length) 1) (Option.bind (iter (fun x => F.ref02_pad.l1 x) FUEL ((sbytes x0) ++ ([128] : List Int))) (fun x => F.ref02_pad.r2 x0 x)))
set_option maxRecDepth 100000 in
set_option maxHeartbeats 4000000 in
theorem c_ref02_pad (I : Hl) (x0 : ByteArray) (res : ByteArray) (hF : F.ref02_pad x0 = some res) : Tr Try.prog 17 [.string x0] [imm I] (fun r H' => r = .string res ∧ H' = [imm I]) := by
  unfold F.ref02_pad at hF
  refine tr_of_cw (fn := Try.f17) Try.func17 rfl (Nat.le_of_ble_eq_true rfl) 35 rfl fun F0 w0 => ?_
  refine cw_keep [0] (L' := [(0, .string x0)]) rfl ?_
  refine cw_state (S' := SAT w0 ([imm I] ++ F0)) (fun w hs => hs) ?_
  refine cw_seq ?_
  refine cw_region ?_
  refine ow_vals 1 (j := 1) [0] [(0, .string x0)] rfl (by kernel_rfl) ?_
  refine ow_end rfl ?_
  refine ew_then ?_
  refine cw_seq ?_
  refine cw_region ?_
  refine ow_vals 1 (j := 1) [0, 6] [(0, .string x0), (6, .string x0)] rfl (by kernel_rfl) ?_
  obtain ⟨h21, hF⟩ := chk_some hF
  refine ow_pw rfl (pw_str_bytes (E := 5) rfl rfl rfl rfl rfl (by kernel_rfl) (by kernel_rfl) (by kernel_rfl) rfl h21 fun p22 c23 => nw_ow ?_)
  refine ow_vals 1 (j := 3) [0, 3] [(0, .string x0), (3, .slice p22 (sbytes x0).length c23)] rfl (by kernel_rfl) ?_
  refine ow_end rfl ?_
  refine ew_then ?_
  refine cw_seq ?_
  refine cw_region ?_
  refine ow_vals 1 (j := 1) [0, 8] [(0, .string x0), (8, .slice p22 (sbytes x0).length c23)] rfl (by kernel_rfl) ?_
  refine ow_pw rfl (pw_buildSlice (E := 5) (eInt .u8) ([128] : List Int) rfl rfl rfl rfl rfl (by kernel_rfl) rfl (by kernel_rfl) rfl (by decide) rfl fun p25 => nw_ow ?_)
  obtain ⟨h27, hF⟩ := chk_some hF
  refine ow_pw rfl (pw_append 1 (l' := ([128] : List Int)) rfl rfl rfl rfl rfl rfl (by kernel_rfl) (by kernel_rfl) rfl rfl rfl (src_own (E' := 5) 0 rfl (by kernel_rfl) rfl) rfl h27.1 h27.2 fun p28 c29 => nw_H (H' := [own (eInt .u8) 5 p25 1 ([128] : List Int), own (eInt .u8) 5 p28 c29 ((sbytes x0) ++ ([128] : List Int)), imm I] ++ F0) rfl (nw_ow ?_))
  refine ow_vals 1 (j := 4) [0, 3] [(0, .string x0), (3, .slice p28 ((sbytes x0) ++ ([128] : List Int)).length c29)] rfl (by kernel_rfl) ?_
  refine ow_end rfl ?_
  refine ew_then ?_
  obtain ⟨v30, hF, hK30⟩ := bind_some hF
  refine cw_mid (fun a w => ∃ (l42 : List Int), ∃ (p43 : Option Addr), ∃ (c44 : Nat), l42 = v30 ∧ Fr 35 [(0, .string x0), (3, .slice p43 l42.length c44)] a ∧ SAT w0 ([imm I, own (eInt .u8) 5 p43 c44 l42] ++ F0) w) ?_ ?_
  · refine cw_block ?_
    refine fun a w hf hs => wp_rounds (fun k a w => ∃ (l32 : List Int), ∃ (p33 : Option Addr), ∃ (c34 : Nat), iter (fun x => F.ref02_pad.l1 x) k l32 = some v30 ∧ Fr 35 [(0, .string x0), (3, .slice p33 l32.length c34)] a ∧ SAT w0 ([imm I, own (eInt .u8) 5 p33 c34 l32] ++ F0) w) ?_ FUEL a w ⟨(sbytes x0) ++ ([128] : List Int), p28, c29, hF, hf.keep [0, 3], sat_to [0, 1, 0] 1 rfl hs⟩
    clear hf hs
    clear a w hF
    rintro k a w ⟨l32, p33, c34, hF2, hf, hs⟩
    obtain ⟨k, r31, rfl, hF, hL31⟩ := iter_some hF2
    clear hF2
    revert a w
    show CW _ _ _ 35 [(0, .string x0), (3, .slice p33 l32.length c34)] (SAT w0 ([imm I, own (eInt .u8) 5 p33 c34 l32] ++ F0))
    try dsimp only at hF
    unfold F.ref02_pad.l1 at hF
    refine cw_seq ?_
    refine cw_seq ?_
    refine cw_region ?_
    refine ow_vals 4 (j := 4) [0, 3, 14] [(0, .string x0), (3, .slice p33 l32.length c34), (14, .bool (((l32.length : Int).tmod 64) != 56))] rfl (by kernel_rfl) ?_
    refine ow_end rfl ?_
    refine ew_then ?_
    rcases if_some hF with ⟨h36, hF⟩ | ⟨h36, hF⟩
    · refine cw_cond_t rfl rfl h36 ?_
      refine cw_skip ?_
      refine ew_then ?_
      refine cw_block ?_
      refine cw_region ?_
      refine ow_vals 1 (j := 1) [0, 15] [(0, .string x0), (15, .slice p33 l32.length c34)] rfl (by kernel_rfl) ?_
      refine ow_pw rfl (pw_buildSlice (E := 5) (eInt .u8) ([0] : List Int) rfl rfl rfl rfl rfl (by kernel_rfl) rfl (by kernel_rfl) rfl (by decide) rfl fun p37 => nw_ow ?_)
      obtain ⟨h39, hF⟩ := chk_some hF
      refine ow_pw rfl (pw_append 2 (l' := ([0] : List Int)) rfl rfl rfl rfl rfl rfl (by kernel_rfl) (by kernel_rfl) rfl rfl rfl (src_own (E' := 5) 0 rfl (by kernel_rfl) rfl) rfl h39.1 h39.2 fun p40 c41 => nw_H (H' := [own (eInt .u8) 5 p37 1 ([0] : List Int), imm I, own (eInt .u8) 5 p40 c41 (l32 ++ ([0] : List Int))] ++ F0) rfl (nw_ow ?_))
      refine ow_vals 1 (j := 4) [0, 3] [(0, .string x0), (3, .slice p40 (l32 ++ ([0] : List Int)).length c41)] rfl (by kernel_rfl) ?_
      refine ow_end rfl ?_
      refine ew_blk ?_
      have hR := Option.some.inj hF
      subst hR
      have hR := hL31
      try dsimp only at hR
      exact fun a w hf hs => ⟨k, Nat.lt_succ_self k, l32 ++ ([0] : List Int), p40, c41, hR, hf.keep [0, 3], sat_to [0, 0, 0] 1 rfl hs⟩
    · refine cw_cond_f rfl rfl h36 ?_
      refine cw_exit ?_
      refine ew_then_exit ?_
      refine ew_then_exit ?_
      refine ew_blk_exit ?_
      have hR := Option.some.inj hF
      subst hR
      have hR := hL31
      try dsimp only at hR
      exact fun a w hf hs => ⟨l32, p33, c34, hR, hf.keep [0, 3], sat_to [0, 0] 0 rfl hs⟩
  · rintro a w ⟨l42, p43, c44, hv, hf, hs⟩
    subst hv
    replace hF := hK30
    clear hK30
    try dsimp only at hF
    revert a w
    show CW _ _ _ 35 [(0, .string x0), (3, .slice p43 l42.length c44)] (SAT w0 ([imm I, own (eInt .u8) 5 p43 c44 l42] ++ F0))
    unfold F.ref02_pad.r2 at hF
    refine cw_seq ?_
    refine cw_region ?_
    refine ow_vals 4 (j := 4) [3, 4] [(3, .slice p43 l42.length c44), (4, .int .i64 (IntKind.i64.wrap (8 * (x0.size : Int))))] rfl (by kernel_rfl) ?_
    refine ow_end rfl ?_
    refine ew_then ?_
    obtain ⟨v46, hF, hK46⟩ := bind_some hF
    refine cw_mid (fun a w => ∃ (l60 : List Int), ∃ (p61 : Option Addr), ∃ (c62 : Nat), l60 = v46 ∧ Fr 35 [(3, .slice p61 l60.length c62)] a ∧ SAT w0 ([imm I, own (eInt .u8) 5 p61 c62 l60] ++ F0) w) ?_ ?_
    · refine cw_seq ?_
      refine cw_region ?_
      refine ow_vals 1 (j := 1) [3, 4, 5] [(3, .slice p43 l42.length c44), (4, .int .i64 (IntKind.i64.wrap (8 * (x0.size : Int)))), (5, .int .i64 7)] rfl (by kernel_rfl) ?_
      refine ow_end rfl ?_
      refine ew_then ?_
      refine cw_block ?_
      refine fun a w hf hs => wp_rounds (fun k a w => ∃ (l48 : List Int), ∃ (x52 : Int), ∃ (p49 : Option Addr), ∃ (c50 : Nat), iter (fun x => F.ref02_pad.l3 x0 x.1 x.2) k (l48, x52) = some v46 ∧ Fr 35 [(3, .slice p49 l48.length c50), (4, .int .i64 (IntKind.i64.wrap (8 * (x0.size : Int)))), (5, .int .i64 x52)] a ∧ SAT w0 ([imm I, own (eInt .u8) 5 p49 c50 l48] ++ F0) w) ?_ FUEL a w ⟨l42, 7, p43, c44, hF, hf.keep [3, 4, 5], sat_to [0, 0] 0 rfl hs⟩
      clear hf hs
      clear a w hF
      rintro k a w ⟨l48, x52, p49, c50, hF2, hf, hs⟩
      obtain ⟨k, r47, rfl, hF, hL47⟩ := iter_some hF2
      clear hF2
      revert a w
      show CW _ _ _ 35 [(3, .slice p49 l48.length c50), (4, .int .i64 (IntKind.i64.wrap (8 * (x0.size : Int)))), (5, .int .i64 x52)] (SAT w0 ([imm I, own (eInt .u8) 5 p49 c50 l48] ++ F0))
      try dsimp only at hF
      unfold F.ref02_pad.l3 at hF
      refine cw_seq ?_
      refine cw_seq ?_
      refine cw_region ?_
      refine ow_vals 2 (j := 2) [3, 4, 5, 22] [(3, .slice p49 l48.length c50), (4, .int .i64 (IntKind.i64.wrap (8 * (x0.size : Int)))), (5, .int .i64 x52), (22, .bool (decide (x52 ≥ 0)))] rfl (by kernel_rfl) ?_
      refine ow_end rfl ?_
      refine ew_then ?_
      rcases if_some hF with ⟨h53, hF⟩ | ⟨h53, hF⟩
      · refine cw_cond_t rfl rfl h53 ?_
        refine cw_skip ?_
        refine ew_then ?_
        refine cw_seq ?_
        refine cw_block ?_
        refine cw_region ?_
        refine ow_vals 4 (j := 4) [4, 5, 25, 26, 28] [(4, .int .i64 (IntKind.i64.wrap (8 * (x0.size : Int)))), (5, .int .i64 x52), (25, .slice p49 l48.length c50), (26, .int .i64 (IntKind.i64.wrap (8 * (x0.size : Int)))), (28, .int .i64 (IntKind.i64.wrap (8 * x52)))] rfl (by kernel_rfl) ?_
        obtain ⟨h54, hF⟩ := chk_some hF
        refine ow_pw rfl (pw_quiet (v := .int .i64 ((IntKind.i64.wrap (8 * (x0.size : Int))).fdiv ((2 : Int) ^ (min (IntKind.i64.wrap (8 * x52)).toNat 64)))) rfl rfl rfl rfl (q_shift_shr rfl rfl rfl h54) (nw_ow ?_))
        refine ow_vals 1 (j := 6) [4, 5, 25, 30] [(4, .int .i64 (IntKind.i64.wrap (8 * (x0.size : Int)))), (5, .int .i64 x52), (25, .slice p49 l48.length c50), (30, .int .u8 (IntKind.u8.wrap ((IntKind.i64.wrap (8 * (x0.size : Int))).fdiv ((2 : Int) ^ (min (IntKind.i64.wrap (8 * x52)).toNat 64)))))] rfl (by kernel_rfl) ?_
        refine ow_pw rfl (pw_buildSlice (E := 5) (eInt .u8) ([IntKind.u8.wrap ((IntKind.i64.wrap (8 * (x0.size : Int))).fdiv ((2 : Int) ^ (min (IntKind.i64.wrap (8 * x52)).toNat 64)))] : List Int) rfl rfl rfl rfl rfl (by kernel_rfl) rfl (by kernel_rfl) rfl (by decide) rfl fun p55 => nw_ow ?_)
        obtain ⟨h57, hF⟩ := chk_some hF
        refine ow_pw rfl (pw_append 2 (l' := ([IntKind.u8.wrap ((IntKind.i64.wrap (8 * (x0.size : Int))).fdiv ((2 : Int) ^ (min (IntKind.i64.wrap (8 * x52)).toNat 64)))] : List Int)) rfl rfl rfl rfl rfl rfl (by kernel_rfl) (by kernel_rfl) rfl rfl rfl (src_own (E' := 5) 0 rfl (by kernel_rfl) rfl) rfl h57.1 h57.2 fun p58 c59 => nw_H (H' := [own (eInt .u8) 5 p55 1 ([IntKind.u8.wrap ((IntKind.i64.wrap (8 * (x0.size : Int))).fdiv ((2 : Int) ^ (min (IntKind.i64.wrap (8 * x52)).toNat 64)))] : List Int), imm I, own (eInt .u8) 5 p58 c59 (l48 ++ ([IntKind.u8.wrap ((IntKind.i64.wrap (8 * (x0.size : Int))).fdiv ((2 : Int) ^ (min (IntKind.i64.wrap (8 * x52)).toNat 64)))] : List Int))] ++ F0) rfl (nw_ow ?_))
        refine ow_vals 1 (j := 9) [3, 4, 5] [(3, .slice p58 (l48 ++ ([IntKind.u8.wrap ((IntKind.i64.wrap (8 * (x0.size : Int))).fdiv ((2 : Int) ^ (min (IntKind.i64.wrap (8 * x52)).toNat 64)))] : List Int)).length c59), (4, .int .i64 (IntKind.i64.wrap (8 * (x0.size : Int)))), (5, .int .i64 x52)] rfl (by kernel_rfl) ?_
        refine ow_end rfl ?_
        refine ew_blk ?_
        refine ew_then ?_
        refine cw_region ?_
        refine ow_vals 3 (j := 3) [3, 4, 5] [(3, .slice p58 (l48 ++ ([IntKind.u8.wrap ((IntKind.i64.wrap (8 * (x0.size : Int))).fdiv ((2 : Int) ^ (min (IntKind.i64.wrap (8 * x52)).toNat 64)))] : List Int)).length c59), (4, .int .i64 (IntKind.i64.wrap (8 * (x0.size : Int)))), (5, .int .i64 (IntKind.i64.wrap (x52 - 1)))] rfl (by kernel_rfl) ?_
        refine ow_end rfl ?_
        have hR := Option.some.inj hF
        subst hR
        have hR := hL47
        try dsimp only at hR
        exact fun a w hf hs => ⟨k, Nat.lt_succ_self k, l48 ++ ([IntKind.u8.wrap ((IntKind.i64.wrap (8 * (x0.size : Int))).fdiv ((2 : Int) ^ (min (IntKind.i64.wrap (8 * x52)).toNat 64)))] : List Int), IntKind.i64.wrap (x52 - 1), p58, c59, hR, hf.keep [3, 4, 5], sat_to [0, 0, 0] 1 rfl hs⟩
      · refine cw_cond_f rfl rfl h53 ?_
        refine cw_exit ?_
        refine ew_then_exit ?_
        refine ew_then_exit ?_
        refine ew_blk_exit ?_
        have hR := Option.some.inj hF
        subst hR
        have hR := hL47
        try dsimp only at hR
        exact fun a w hf hs => ⟨l48, p49, c50, hR, hf.keep [3], sat_to [0, 0] 0 rfl hs⟩
    · rintro a w ⟨l60, p61, c62, hv, hf, hs⟩
      subst hv
      replace hF := hK46
      clear hK46
      try dsimp only at hF
      revert a w
      show CW _ _ _ 35 [(3, .slice p61 l60.length c62)] (SAT w0 ([imm I, own (eInt .u8) 5 p61 c62 l60] ++ F0))
      unfold F.ref02_pad.r4 at hF
      refine cw_seq ?_
      refine cw_region ?_
      refine ow_vals 1 (j := 1) [33] [(33, .slice p61 l60.length c62)] rfl (by kernel_rfl) ?_
      refine ow_pw rfl (pw_quiet (v := .string (bstr l60)) rfl rfl rfl rfl (q_bytes_str_own 1 rfl rfl (by kernel_rfl) (by kernel_rfl) rfl) (nw_ow ?_))
      refine ow_vals 1 (j := 3) [2] [(2, .string (bstr l60))] rfl (by kernel_rfl) ?_
      refine ow_end rfl ?_
      refine ew_then ?_
      refine cw_ret ?_
      have hR := Option.some.inj hF
      subst hR
      exact fin1 (H1 := [imm I]) (fun w hs => sat_to [1, 0] 1 rfl hs) rfl (rr_tmp rfl) ⟨rfl, rfl⟩


def F.ref02_turn (x0 : Int) (x1 : Int) : Option Int :=
  chk (0 ≤ x1) (chk (0 ≤ (IntKind.i64.wrap (32 - x1))) (some ((iand .i64 (ior .i64 (x0.fdiv ((2 : Int) ^ (min x1.toNat 64))) (IntKind.i64.wrap (x0 * (2 : Int) ^ (min (IntKind.i64.wrap (32 - x1)).toNat 64)))) 4294967295))))
set_option maxRecDepth 100000 in
set_option maxHeartbeats 4000000 in
theorem c_ref02_turn (I : Hl) (x0 : Int) (x1 : Int) (res : Int) (hF : F.ref02_turn x0 x1 = some res) : Tr Try.prog 22 [.int .i64 x0, .int .i64 x1] [imm I] (fun r H' => r = .int .i64 res ∧ H' = [imm I]) := by
  unfold F.ref02_turn at hF
  refine tr_of_cw (fn := Try.f22) Try.func22 rfl (Nat.le_of_ble_eq_true rfl) 14 rfl fun F0 w0 => ?_
  refine cw_keep [0, 1] (L' := [(0, .int .i64 x0), (1, .int .i64 x1)]) rfl ?_
  refine cw_state (S' := SAT w0 ([imm I] ++ F0)) (fun w hs => hs) ?_
  refine cw_seq ?_
  refine cw_region ?_
  refine ow_vals 1 (j := 1) [0, 1] [(0, .int .i64 x0), (1, .int .i64 x1)] rfl (by kernel_rfl) ?_
  refine ow_end rfl ?_
  refine ew_then ?_
  refine cw_seq ?_
  refine cw_open 10 (SAT w0 ([imm I])) (by kernel_rfl) (f := 10) rfl (fun w hs => sat_drew hs) ?_
  refine aw_vals [0, 1, 3, 4, 5] (f' := 5) (m' := 59) [5, 6, 8, 10] [(5, .int .i64 x0), (6, .int .i64 x1), (8, .int .i64 x0), (10, .int .i64 (IntKind.i64.wrap (32 - x1)))] (fun _ _ _ _ _ h => calm_fin (P := Try.prog) (fn := Try.f22) _ _ _ _ _ h) (fun w hs => sat_pulls [0] (G := [] ++ F0) rfl hs) rfl (by kernel_rfl) ?_
  obtain ⟨h21, hF⟩ := chk_some hF
  refine aw_pure 2 (m' := 63) (v := .int .i64 (x0.fdiv ((2 : Int) ^ (min x1.toNat 64)))) rfl rfl rfl rfl (by kernel_rfl) (by kernel_rfl) (fun _ _ _ _ _ h => calm_fin (P := Try.prog) (fn := Try.f22) _ _ _ _ _ h) (fun w hs => sat_pulls [0] (G := [] ++ F0) rfl hs) (q_shift_shr rfl rfl rfl h21) ?_
  obtain ⟨h22, hF⟩ := chk_some hF
  refine aw_pure 6 (m' := 127) (v := .int .i64 (IntKind.i64.wrap (x0 * (2 : Int) ^ (min (IntKind.i64.wrap (32 - x1)).toNat 64)))) rfl rfl rfl rfl (by kernel_rfl) (by kernel_rfl) (fun _ _ _ _ _ h => calm_fin (P := Try.prog) (fn := Try.f22) _ _ _ _ _ h) (fun w hs => sat_pulls [0] (G := [] ++ F0) rfl hs) (q_shift_shl rfl rfl rfl h22) ?_
  refine aw_vals [7, 8, 9] (f' := 0) (m' := 1023) [4] [(4, .int .i64 (iand .i64 (ior .i64 (x0.fdiv ((2 : Int) ^ (min x1.toNat 64))) (IntKind.i64.wrap (x0 * (2 : Int) ^ (min (IntKind.i64.wrap (32 - x1)).toNat 64)))) 4294967295))] (fun _ _ _ _ _ h => calm_fin (P := Try.prog) (fn := Try.f22) _ _ _ _ _ h) (fun w hs => sat_pulls [0] (G := [] ++ F0) rfl hs) rfl (by kernel_rfl) ?_
  refine aw_keep [4] (L' := [(4, .int .i64 (iand .i64 (ior .i64 (x0.fdiv ((2 : Int) ^ (min x1.toNat 64))) (IntKind.i64.wrap (x0 * (2 : Int) ^ (min (IntKind.i64.wrap (32 - x1)).toNat 64)))) 4294967295))]) rfl ?_
  refine aw_end (by kernel_rfl) ?_
  refine ew_then ?_
  refine cw_ret ?_
  have hR := Option.some.inj hF
  subst hR
  exact fin1 (H1 := [imm I]) (fun w hs => sat_to [0] 0 rfl hs) rfl (rr_tmp rfl) ⟨rfl, rfl⟩


def F.ref02_words.l1 (x0 : ByteArray) (l23 : List Int) (x27 : Int) : Option (((List Int) × Int) ⊕ ((List Int))) :=
  if decide (x27 < 16) then (chk (0 ≤ (IntKind.i64.wrap (4 * x27)) ∧ (IntKind.i64.wrap (4 * x27)) < (x0.size : Int)) (chk (0 ≤ (IntKind.i64.wrap ((IntKind.i64.wrap (4 * x27)) + 1)) ∧ (IntKind.i64.wrap ((IntKind.i64.wrap (4 * x27)) + 1)) < (x0.size : Int)) (chk (0 ≤ (IntKind.i64.wrap ((IntKind.i64.wrap (4 * x27)) + 2)) ∧ (IntKind.i64.wrap ((IntKind.i64.wrap (4 * x27)) + 2)) < (x0.size : Int)) (chk (0 ≤ (IntKind.i64.wrap ((IntKind.i64.wrap (4 * x27)) + 3)) ∧ (IntKind.i64.wrap ((IntKind.i64.wrap (4 * x27)) + 3)) < (x0.size : Int)) (chk (room (l23.length + ([ior .i64 (ior .i64 (ior .i64 (IntKind.i64.wrap ((IntKind.i64.wrap (bt x0 (IntKind.i64.wrap (4 * x27)))) * 2 ^ 24)) (IntKind.i64.wrap ((IntKind.i64.wrap (bt x0 (IntKind.i64.wrap ((IntKind.i64.wrap (4 * x27)) + 1)))) * 2 ^ 16))) (IntKind.i64.wrap ((IntKind.i64.wrap (bt x0 (IntKind.i64.wrap ((IntKind.i64.wrap (4 * x27)) + 2)))) * 2 ^ 8))) (IntKind.i64.wrap (bt x0 (IntKind.i64.wrap ((IntKind.i64.wrap (4 * x27)) + 3))))] : List Int).length) 8) (some (.inl (l23 ++ ([ior .i64 (ior .i64 (ior .i64 (IntKind.i64.wrap ((IntKind.i64.wrap (bt x0 (IntKind.i64.wrap (4 * x27)))) * 2 ^ 24)) (IntKind.i64.wrap ((IntKind.i64.wrap (bt x0 (IntKind.i64.wrap ((IntKind.i64.wrap (4 * x27)) + 1)))) * 2 ^ 16))) (IntKind.i64.wrap ((IntKind.i64.wrap (bt x0 (IntKind.i64.wrap ((IntKind.i64.wrap (4 * x27)) + 2)))) * 2 ^ 8))) (IntKind.i64.wrap (bt x0 (IntKind.i64.wrap ((IntKind.i64.wrap (4 * x27)) + 3))))] : List Int), IntKind.i64.wrap (x27 + 1))))))))) else (some (.inr (l23)))
def F.ref02_words.l3 (l44 : List Int) (x48 : Int) : Option (((List Int) × Int) ⊕ ((List Int))) :=
  if decide (x48 < 64) then (Option.bind (at_ l44 (IntKind.i64.wrap (x48 - 15))) (fun (y50 : Int) => Option.bind (at_ l44 (IntKind.i64.wrap (x48 - 15))) (fun (y52 : Int) => Option.bind (at_ l44 (IntKind.i64.wrap (x48 - 15))) (fun (y54 : Int) => Option.bind (F.ref02_turn y50 7) (fun (r56 : Int) => Option.bind (F.ref02_turn y52 18) (fun (r58 : Int) => Option.bind (at_ l44 (IntKind.i64.wrap (x48 - 2))) (fun (y60 : Int) => Option.bind (at_ l44 (IntKind.i64.wrap (x48 - 2))) (fun (y62 : Int) => Option.bind (at_ l44 (IntKind.i64.wrap (x48 - 2))) (fun (y64 : Int) => Option.bind (F.ref02_turn y60 17) (fun (r66 : Int) => Option.bind (F.ref02_turn y62 19) (fun (r68 : Int) => Option.bind (at_ l44 (IntKind.i64.wrap (x48 - 16))) (fun (y70 : Int) => Option.bind (at_ l44 (IntKind.i64.wrap (x48 - 7))) (fun (y72 : Int) => chk (room (l44.length + ([(IntKind.i64.wrap ((IntKind.i64.wrap ((IntKind.i64.wrap (y70 + (ixor .i64 (ixor .i64 r56 r58) (y54.fdiv (2 ^ 3))))) + y72)) + (ixor .i64 (ixor .i64 r66 r68) (y64.fdiv (2 ^ 10))))).tmod 4294967296] : List Int).length) 8) (some (.inl (l44 ++ ([(IntKind.i64.wrap ((IntKind.i64.wrap ((IntKind.i64.wrap (y70 + (ixor .i64 (ixor .i64 r56 r58) (y54.fdiv (2 ^ 3))))) + y72)) + (ixor .i64 (ixor .i64 r66 r68) (y64.fdiv (2 ^ 10))))).tmod 4294967296] : List Int), IntKind.i64.wrap (x48 + 1))))))))))))))))) else (some (.inr (l44)))
def F.ref02_words.r4 (l79 : List Int) : Option ((List Int)) :=
  some (l79)
def F.ref02_words.r2 (l38 : List Int) : Option ((List Int)) :=
  Option.bind (iter (fun x => F.ref02_words.l3 x.1 x.2) FUEL (l38, 16)) (fun x => F.ref02_words.r4 x)
def F.ref02_words (x0 : ByteArray) : Option (List Int) :=
  Option.bind (iter (fun x => F.ref02_words.l1 x0 x.1 x.2) FUEL ([], 0)) (fun x => F.ref02_words.r2 x)
set_option maxRecDepth 100000 in
set_option maxHeartbeats 4000000 in
theorem c_ref02_words (I : Hl) (x0 : ByteArray) (res : (List Int)) (hF : F.ref02_words x0 = some res) : Tr Try.prog 21 [.string x0] [imm I] (fun r H' => ∃ (p1 : Option Addr), ∃ (c2 : Nat), r = .slice p1 res.length c2 ∧ H' = [imm I, own (eInt .i64) 3 p1 c2 res]) := by
  unfold F.ref02_words at hF
  refine tr_of_cw (fn := Try.f21) Try.func21 rfl (Nat.le_of_ble_eq_true rfl) 108 rfl fun F0 w0 => ?_
  refine cw_keep [0] (L' := [(0, .string x0)]) rfl ?_
  refine cw_state (S' := SAT w0 ([imm I] ++ F0)) (fun w hs => hs) ?_
  refine cw_seq ?_
  refine cw_region ?_
  refine ow_vals 1 (j := 1) [0] [(0, .string x0)] rfl (by kernel_rfl) ?_
  refine ow_end rfl ?_
  refine ew_then ?_
  refine cw_seq ?_
  refine cw_region ?_
  refine ow_vals 1 (j := 1) [0, 3] [(0, .string x0), (3, .slice none 0 0)] rfl (by kernel_rfl) ?_
  refine ow_end rfl ?_
  refine ew_then ?_
  obtain ⟨v21, hF, hK21⟩ := bind_some hF
  refine cw_mid (fun a w => ∃ (l38 : List Int), ∃ (p39 : Option Addr), ∃ (c40 : Nat), l38 = v21 ∧ Fr 108 [(3, .slice p39 l38.length c40)] a ∧ SAT w0 ([imm I, own (eInt .i64) 3 p39 c40 l38] ++ F0) w) ?_ ?_
  · refine cw_seq ?_
    refine cw_region ?_
    refine ow_vals 1 (j := 1) [0, 3, 4] [(0, .string x0), (3, .slice none 0 0), (4, .int .i64 0)] rfl (by kernel_rfl) ?_
    refine ow_end rfl ?_
    refine ew_then ?_
    refine cw_block ?_
    refine fun a w hf hs => wp_rounds (fun k a w => ∃ (l23 : List Int), ∃ (x27 : Int), ∃ (p24 : Option Addr), ∃ (c25 : Nat), iter (fun x => F.ref02_words.l1 x0 x.1 x.2) k (l23, x27) = some v21 ∧ Fr 108 [(0, .string x0), (3, .slice p24 l23.length c25), (4, .int .i64 x27)] a ∧ SAT w0 ([imm I, own (eInt .i64) 3 p24 c25 l23] ++ F0) w) ?_ FUEL a w ⟨[], 0, none, 0, hF, hf.keep [0, 3, 4], sat_to [1, 0] 0 rfl (sat_own_nil (eInt .i64) 3 hs)⟩
    clear hf hs
    clear a w hF
    rintro k a w ⟨l23, x27, p24, c25, hF2, hf, hs⟩
    obtain ⟨k, r22, rfl, hF, hL22⟩ := iter_some hF2
    clear hF2
    revert a w
    show CW _ _ _ 108 [(0, .string x0), (3, .slice p24 l23.length c25), (4, .int .i64 x27)] (SAT w0 ([imm I, own (eInt .i64) 3 p24 c25 l23] ++ F0))
    try dsimp only at hF
    unfold F.ref02_words.l1 at hF
    refine cw_seq ?_
    refine cw_seq ?_
    refine cw_region ?_
    refine ow_vals 2 (j := 2) [0, 3, 4, 9] [(0, .string x0), (3, .slice p24 l23.length c25), (4, .int .i64 x27), (9, .bool (decide (x27 < 16)))] rfl (by kernel_rfl) ?_
    refine ow_end rfl ?_
    refine ew_then ?_
    rcases if_some hF with ⟨h28, hF⟩ | ⟨h28, hF⟩
    · refine cw_cond_t rfl rfl h28 ?_
      refine cw_skip ?_
      refine ew_then ?_
      refine cw_seq ?_
      refine cw_block ?_
      refine cw_open 31 (SAT w0 ([imm I, own (eInt .i64) 3 p24 c25 l23])) (by kernel_rfl) (f := 33) rfl (fun w hs => sat_drew hs) ?_
      refine aw_vals [0, 1, 2, 3, 7, 8, 9, 10, 15, 16, 17, 18, 23, 24, 25, 26] (f' := 17) (m' := 126322575) [0, 3, 4, 12, 13, 15, 19, 22, 27, 30, 35, 38] [(0, .string x0), (3, .slice p24 l23.length c25), (4, .int .i64 x27), (12, .slice p24 l23.length c25), (13, .string x0), (15, .int .i64 (IntKind.i64.wrap (4 * x27))), (19, .string x0), (22, .int .i64 (IntKind.i64.wrap ((IntKind.i64.wrap (4 * x27)) + 1))), (27, .string x0), (30, .int .i64 (IntKind.i64.wrap ((IntKind.i64.wrap (4 * x27)) + 2))), (35, .string x0), (38, .int .i64 (IntKind.i64.wrap ((IntKind.i64.wrap (4 * x27)) + 3)))] (fun _ _ _ _ _ h => calm_fin (P := Try.prog) (fn := Try.f21) _ _ _ _ _ h) (fun w hs => sat_pulls [0, 0] (G := [] ++ F0) rfl hs) rfl (by kernel_rfl) ?_
      obtain ⟨h29, hF⟩ := chk_some hF
      refine aw_pure 4 (m' := 126322591) (v := .int .u8 (bt x0 (IntKind.i64.wrap (4 * x27)))) rfl rfl rfl rfl (by kernel_rfl) (by kernel_rfl) (fun _ _ _ _ _ h => calm_fin (P := Try.prog) (fn := Try.f21) _ _ _ _ _ h) (fun w hs => sat_pulls [0, 0] (G := [] ++ F0) rfl hs) (q_index_str rfl (by kernel_rfl) rfl rfl h29.1 h29.2) ?_
      refine aw_vals [5, 6] (f' := 14) (m' := 126322687) [0, 3, 4, 12, 18, 19, 22, 27, 30, 35, 38] [(0, .string x0), (3, .slice p24 l23.length c25), (4, .int .i64 x27), (12, .slice p24 l23.length c25), (18, .int .i64 (IntKind.i64.wrap ((IntKind.i64.wrap (bt x0 (IntKind.i64.wrap (4 * x27)))) * 2 ^ 24))), (19, .string x0), (22, .int .i64 (IntKind.i64.wrap ((IntKind.i64.wrap (4 * x27)) + 1))), (27, .string x0), (30, .int .i64 (IntKind.i64.wrap ((IntKind.i64.wrap (4 * x27)) + 2))), (35, .string x0), (38, .int .i64 (IntKind.i64.wrap ((IntKind.i64.wrap (4 * x27)) + 3)))] (fun _ _ _ _ _ h => calm_fin (P := Try.prog) (fn := Try.f21) _ _ _ _ _ h) (fun w hs => sat_pulls [0, 0] (G := [] ++ F0) rfl hs) rfl (by kernel_rfl) ?_
      obtain ⟨h30, hF⟩ := chk_some hF
      refine aw_pure 11 (m' := 126324735) (v := .int .u8 (bt x0 (IntKind.i64.wrap ((IntKind.i64.wrap (4 * x27)) + 1)))) rfl rfl rfl rfl (by kernel_rfl) (by kernel_rfl) (fun _ _ _ _ _ h => calm_fin (P := Try.prog) (fn := Try.f21) _ _ _ _ _ h) (fun w hs => sat_pulls [0, 0] (G := [] ++ F0) rfl hs) (q_index_str rfl (by kernel_rfl) rfl rfl h30.1 h30.2) ?_
      refine aw_vals [12, 13, 14] (f' := 10) (m' := 126353407) [0, 3, 4, 12, 26, 27, 30, 35, 38] [(0, .string x0), (3, .slice p24 l23.length c25), (4, .int .i64 x27), (12, .slice p24 l23.length c25), (26, .int .i64 (ior .i64 (IntKind.i64.wrap ((IntKind.i64.wrap (bt x0 (IntKind.i64.wrap (4 * x27)))) * 2 ^ 24)) (IntKind.i64.wrap ((IntKind.i64.wrap (bt x0 (IntKind.i64.wrap ((IntKind.i64.wrap (4 * x27)) + 1)))) * 2 ^ 16)))), (27, .string x0), (30, .int .i64 (IntKind.i64.wrap ((IntKind.i64.wrap (4 * x27)) + 2))), (35, .string x0), (38, .int .i64 (IntKind.i64.wrap ((IntKind.i64.wrap (4 * x27)) + 3)))] (fun _ _ _ _ _ h => calm_fin (P := Try.prog) (fn := Try.f21) _ _ _ _ _ h) (fun w hs => sat_pulls [0, 0] (G := [] ++ F0) rfl hs) rfl (by kernel_rfl) ?_
      obtain ⟨h31, hF⟩ := chk_some hF
      refine aw_pure 19 (m' := 126877695) (v := .int .u8 (bt x0 (IntKind.i64.wrap ((IntKind.i64.wrap (4 * x27)) + 2)))) rfl rfl rfl rfl (by kernel_rfl) (by kernel_rfl) (fun _ _ _ _ _ h => calm_fin (P := Try.prog) (fn := Try.f21) _ _ _ _ _ h) (fun w hs => sat_pulls [0, 0] (G := [] ++ F0) rfl hs) (q_index_str rfl (by kernel_rfl) rfl rfl h31.1 h31.2) ?_
      refine aw_vals [20, 21, 22] (f' := 6) (m' := 134217727) [0, 3, 4, 12, 34, 35, 38] [(0, .string x0), (3, .slice p24 l23.length c25), (4, .int .i64 x27), (12, .slice p24 l23.length c25), (34, .int .i64 (ior .i64 (ior .i64 (IntKind.i64.wrap ((IntKind.i64.wrap (bt x0 (IntKind.i64.wrap (4 * x27)))) * 2 ^ 24)) (IntKind.i64.wrap ((IntKind.i64.wrap (bt x0 (IntKind.i64.wrap ((IntKind.i64.wrap (4 * x27)) + 1)))) * 2 ^ 16))) (IntKind.i64.wrap ((IntKind.i64.wrap (bt x0 (IntKind.i64.wrap ((IntKind.i64.wrap (4 * x27)) + 2)))) * 2 ^ 8)))), (35, .string x0), (38, .int .i64 (IntKind.i64.wrap ((IntKind.i64.wrap (4 * x27)) + 3)))] (fun _ _ _ _ _ h => calm_fin (P := Try.prog) (fn := Try.f21) _ _ _ _ _ h) (fun w hs => sat_pulls [0, 0] (G := [] ++ F0) rfl hs) rfl (by kernel_rfl) ?_
      obtain ⟨h32, hF⟩ := chk_some hF
      refine aw_pure 27 (m' := 268435455) (v := .int .u8 (bt x0 (IntKind.i64.wrap ((IntKind.i64.wrap (4 * x27)) + 3)))) rfl rfl rfl rfl (by kernel_rfl) (by kernel_rfl) (fun _ _ _ _ _ h => calm_fin (P := Try.prog) (fn := Try.f21) _ _ _ _ _ h) (fun w hs => sat_pulls [0, 0] (G := [] ++ F0) rfl hs) (q_index_str rfl (by kernel_rfl) rfl rfl h32.1 h32.2) ?_
      refine aw_vals [28, 29] (f' := 3) (m' := 1073741823) [0, 3, 4, 12, 41] [(0, .string x0), (3, .slice p24 l23.length c25), (4, .int .i64 x27), (12, .slice p24 l23.length c25), (41, .int .i64 (ior .i64 (ior .i64 (ior .i64 (IntKind.i64.wrap ((IntKind.i64.wrap (bt x0 (IntKind.i64.wrap (4 * x27)))) * 2 ^ 24)) (IntKind.i64.wrap ((IntKind.i64.wrap (bt x0 (IntKind.i64.wrap ((IntKind.i64.wrap (4 * x27)) + 1)))) * 2 ^ 16))) (IntKind.i64.wrap ((IntKind.i64.wrap (bt x0 (IntKind.i64.wrap ((IntKind.i64.wrap (4 * x27)) + 2)))) * 2 ^ 8))) (IntKind.i64.wrap (bt x0 (IntKind.i64.wrap ((IntKind.i64.wrap (4 * x27)) + 3))))))] (fun _ _ _ _ _ h => calm_fin (P := Try.prog) (fn := Try.f21) _ _ _ _ _ h) (fun w hs => sat_pulls [0, 0] (G := [] ++ F0) rfl hs) rfl (by kernel_rfl) ?_
      refine aw_only 30 (m' := 2147483647) (by kernel_rfl) (by kernel_rfl) (pw_buildSlice (E := 3) (eInt .i64) ([ior .i64 (ior .i64 (ior .i64 (IntKind.i64.wrap ((IntKind.i64.wrap (bt x0 (IntKind.i64.wrap (4 * x27)))) * 2 ^ 24)) (IntKind.i64.wrap ((IntKind.i64.wrap (bt x0 (IntKind.i64.wrap ((IntKind.i64.wrap (4 * x27)) + 1)))) * 2 ^ 16))) (IntKind.i64.wrap ((IntKind.i64.wrap (bt x0 (IntKind.i64.wrap ((IntKind.i64.wrap (4 * x27)) + 2)))) * 2 ^ 8))) (IntKind.i64.wrap (bt x0 (IntKind.i64.wrap ((IntKind.i64.wrap (4 * x27)) + 3))))] : List Int) rfl rfl rfl rfl rfl (by kernel_rfl) rfl (by kernel_rfl) rfl (by decide) rfl fun p33 => aw_next (fun w hs => sat_pulls [1, 1] (G := [own (eInt .i64) 3 p33 1 ([ior .i64 (ior .i64 (ior .i64 (IntKind.i64.wrap ((IntKind.i64.wrap (bt x0 (IntKind.i64.wrap (4 * x27)))) * 2 ^ 24)) (IntKind.i64.wrap ((IntKind.i64.wrap (bt x0 (IntKind.i64.wrap ((IntKind.i64.wrap (4 * x27)) + 1)))) * 2 ^ 16))) (IntKind.i64.wrap ((IntKind.i64.wrap (bt x0 (IntKind.i64.wrap ((IntKind.i64.wrap (4 * x27)) + 2)))) * 2 ^ 8))) (IntKind.i64.wrap (bt x0 (IntKind.i64.wrap ((IntKind.i64.wrap (4 * x27)) + 3))))] : List Int)] ++ F0) rfl hs) ?_)
      obtain ⟨h35, hF⟩ := chk_some hF
      refine aw_only 31 (m' := 4294967295) (by kernel_rfl) (by kernel_rfl) (pw_append 2 (l' := ([ior .i64 (ior .i64 (ior .i64 (IntKind.i64.wrap ((IntKind.i64.wrap (bt x0 (IntKind.i64.wrap (4 * x27)))) * 2 ^ 24)) (IntKind.i64.wrap ((IntKind.i64.wrap (bt x0 (IntKind.i64.wrap ((IntKind.i64.wrap (4 * x27)) + 1)))) * 2 ^ 16))) (IntKind.i64.wrap ((IntKind.i64.wrap (bt x0 (IntKind.i64.wrap ((IntKind.i64.wrap (4 * x27)) + 2)))) * 2 ^ 8))) (IntKind.i64.wrap (bt x0 (IntKind.i64.wrap ((IntKind.i64.wrap (4 * x27)) + 3))))] : List Int)) rfl rfl rfl rfl rfl rfl (by kernel_rfl) (by kernel_rfl) rfl rfl rfl (src_own (E' := 3) 0 rfl (by kernel_rfl) rfl) rfl h35.1 h35.2 fun p36 c37 => nw_H (H' := [own (eInt .i64) 3 p33 1 ([ior .i64 (ior .i64 (ior .i64 (IntKind.i64.wrap ((IntKind.i64.wrap (bt x0 (IntKind.i64.wrap (4 * x27)))) * 2 ^ 24)) (IntKind.i64.wrap ((IntKind.i64.wrap (bt x0 (IntKind.i64.wrap ((IntKind.i64.wrap (4 * x27)) + 1)))) * 2 ^ 16))) (IntKind.i64.wrap ((IntKind.i64.wrap (bt x0 (IntKind.i64.wrap ((IntKind.i64.wrap (4 * x27)) + 2)))) * 2 ^ 8))) (IntKind.i64.wrap (bt x0 (IntKind.i64.wrap ((IntKind.i64.wrap (4 * x27)) + 3))))] : List Int), imm I, own (eInt .i64) 3 p36 c37 (l23 ++ ([ior .i64 (ior .i64 (ior .i64 (IntKind.i64.wrap ((IntKind.i64.wrap (bt x0 (IntKind.i64.wrap (4 * x27)))) * 2 ^ 24)) (IntKind.i64.wrap ((IntKind.i64.wrap (bt x0 (IntKind.i64.wrap ((IntKind.i64.wrap (4 * x27)) + 1)))) * 2 ^ 16))) (IntKind.i64.wrap ((IntKind.i64.wrap (bt x0 (IntKind.i64.wrap ((IntKind.i64.wrap (4 * x27)) + 2)))) * 2 ^ 8))) (IntKind.i64.wrap (bt x0 (IntKind.i64.wrap ((IntKind.i64.wrap (4 * x27)) + 3))))] : List Int))] ++ F0) rfl (aw_last (by kernel_rfl) ?_))
      refine aw_past (by kernel_rfl) ?_
      refine aw_vals [32] (f' := 0) (m' := 8589934591) [0, 3, 4] [(0, .string x0), (3, .slice p36 (l23 ++ ([ior .i64 (ior .i64 (ior .i64 (IntKind.i64.wrap ((IntKind.i64.wrap (bt x0 (IntKind.i64.wrap (4 * x27)))) * 2 ^ 24)) (IntKind.i64.wrap ((IntKind.i64.wrap (bt x0 (IntKind.i64.wrap ((IntKind.i64.wrap (4 * x27)) + 1)))) * 2 ^ 16))) (IntKind.i64.wrap ((IntKind.i64.wrap (bt x0 (IntKind.i64.wrap ((IntKind.i64.wrap (4 * x27)) + 2)))) * 2 ^ 8))) (IntKind.i64.wrap (bt x0 (IntKind.i64.wrap ((IntKind.i64.wrap (4 * x27)) + 3))))] : List Int)).length c37), (4, .int .i64 x27)] (fun _ _ _ _ _ h => calm_fin (P := Try.prog) (fn := Try.f21) _ _ _ _ _ h) (fun _ _ => trivial) rfl (by kernel_rfl) ?_
      refine aw_keep [0, 3, 4] (L' := [(0, .string x0), (3, .slice p36 (l23 ++ ([ior .i64 (ior .i64 (ior .i64 (IntKind.i64.wrap ((IntKind.i64.wrap (bt x0 (IntKind.i64.wrap (4 * x27)))) * 2 ^ 24)) (IntKind.i64.wrap ((IntKind.i64.wrap (bt x0 (IntKind.i64.wrap ((IntKind.i64.wrap (4 * x27)) + 1)))) * 2 ^ 16))) (IntKind.i64.wrap ((IntKind.i64.wrap (bt x0 (IntKind.i64.wrap ((IntKind.i64.wrap (4 * x27)) + 2)))) * 2 ^ 8))) (IntKind.i64.wrap (bt x0 (IntKind.i64.wrap ((IntKind.i64.wrap (4 * x27)) + 3))))] : List Int)).length c37), (4, .int .i64 x27)]) rfl ?_
      refine aw_end (by kernel_rfl) ?_
      refine ew_blk ?_
      refine ew_then ?_
      refine cw_region ?_
      refine ow_vals 3 (j := 3) [0, 3, 4] [(0, .string x0), (3, .slice p36 (l23 ++ ([ior .i64 (ior .i64 (ior .i64 (IntKind.i64.wrap ((IntKind.i64.wrap (bt x0 (IntKind.i64.wrap (4 * x27)))) * 2 ^ 24)) (IntKind.i64.wrap ((IntKind.i64.wrap (bt x0 (IntKind.i64.wrap ((IntKind.i64.wrap (4 * x27)) + 1)))) * 2 ^ 16))) (IntKind.i64.wrap ((IntKind.i64.wrap (bt x0 (IntKind.i64.wrap ((IntKind.i64.wrap (4 * x27)) + 2)))) * 2 ^ 8))) (IntKind.i64.wrap (bt x0 (IntKind.i64.wrap ((IntKind.i64.wrap (4 * x27)) + 3))))] : List Int)).length c37), (4, .int .i64 (IntKind.i64.wrap (x27 + 1)))] rfl (by kernel_rfl) ?_
      refine ow_end rfl ?_
      have hR := Option.some.inj hF
      subst hR
      have hR := hL22
      try dsimp only at hR
      exact fun a w hf hs => ⟨k, Nat.lt_succ_self k, l23 ++ ([ior .i64 (ior .i64 (ior .i64 (IntKind.i64.wrap ((IntKind.i64.wrap (bt x0 (IntKind.i64.wrap (4 * x27)))) * 2 ^ 24)) (IntKind.i64.wrap ((IntKind.i64.wrap (bt x0 (IntKind.i64.wrap ((IntKind.i64.wrap (4 * x27)) + 1)))) * 2 ^ 16))) (IntKind.i64.wrap ((IntKind.i64.wrap (bt x0 (IntKind.i64.wrap ((IntKind.i64.wrap (4 * x27)) + 2)))) * 2 ^ 8))) (IntKind.i64.wrap (bt x0 (IntKind.i64.wrap ((IntKind.i64.wrap (4 * x27)) + 3))))] : List Int), IntKind.i64.wrap (x27 + 1), p36, c37, hR, hf.keep [0, 3, 4], sat_to [0, 0, 0] 1 rfl hs⟩
    · refine cw_cond_f rfl rfl h28 ?_
      refine cw_exit ?_
      refine ew_then_exit ?_
      refine ew_then_exit ?_
      refine ew_blk_exit ?_
      have hR := Option.some.inj hF
      subst hR
      have hR := hL22
      try dsimp only at hR
      exact fun a w hf hs => ⟨l23, p24, c25, hR, hf.keep [3], sat_to [0, 0] 0 rfl hs⟩
  · rintro a w ⟨l38, p39, c40, hv, hf, hs⟩
    subst hv
    replace hF := hK21
    clear hK21
    try dsimp only at hF
    revert a w
    show CW _ _ _ 108 [(3, .slice p39 l38.length c40)] (SAT w0 ([imm I, own (eInt .i64) 3 p39 c40 l38] ++ F0))
    unfold F.ref02_words.r2 at hF
    obtain ⟨v42, hF, hK42⟩ := bind_some hF
    refine cw_mid (fun a w => ∃ (l79 : List Int), ∃ (p80 : Option Addr), ∃ (c81 : Nat), l79 = v42 ∧ Fr 108 [(3, .slice p80 l79.length c81)] a ∧ SAT w0 ([imm I, own (eInt .i64) 3 p80 c81 l79] ++ F0) w) ?_ ?_
    · refine cw_seq ?_
      refine cw_region ?_
      refine ow_vals 1 (j := 1) [3, 5] [(3, .slice p39 l38.length c40), (5, .int .i64 16)] rfl (by kernel_rfl) ?_
      refine ow_end rfl ?_
      refine ew_then ?_
      refine cw_block ?_
      refine fun a w hf hs => wp_rounds (fun k a w => ∃ (l44 : List Int), ∃ (x48 : Int), ∃ (p45 : Option Addr), ∃ (c46 : Nat), iter (fun x => F.ref02_words.l3 x.1 x.2) k (l44, x48) = some v42 ∧ Fr 108 [(3, .slice p45 l44.length c46), (5, .int .i64 x48)] a ∧ SAT w0 ([imm I, own (eInt .i64) 3 p45 c46 l44] ++ F0) w) ?_ FUEL a w ⟨l38, 16, p39, c40, hF, hf.keep [3, 5], sat_to [0, 0] 0 rfl hs⟩
      clear hf hs
      clear a w hF
      rintro k a w ⟨l44, x48, p45, c46, hF2, hf, hs⟩
      obtain ⟨k, r43, rfl, hF, hL43⟩ := iter_some hF2
      clear hF2
      revert a w
      show CW _ _ _ 108 [(3, .slice p45 l44.length c46), (5, .int .i64 x48)] (SAT w0 ([imm I, own (eInt .i64) 3 p45 c46 l44] ++ F0))
      try dsimp only at hF
      unfold F.ref02_words.l3 at hF
      refine cw_seq ?_
      refine cw_seq ?_
      refine cw_region ?_
      refine ow_vals 2 (j := 2) [3, 5, 45] [(3, .slice p45 l44.length c46), (5, .int .i64 x48), (45, .bool (decide (x48 < 64)))] rfl (by kernel_rfl) ?_
      refine ow_end rfl ?_
      refine ew_then ?_
      rcases if_some hF with ⟨h49, hF⟩ | ⟨h49, hF⟩
      · refine cw_cond_t rfl rfl h49 ?_
        refine cw_skip ?_
        refine ew_then ?_
        refine cw_seq ?_
        refine cw_block ?_
        refine cw_seq ?_
        refine cw_open 21 (SAT w0 ([imm I, own (eInt .i64) 3 p45 c46 l44])) (by kernel_rfl) (f := 21) rfl (fun w hs => sat_drew hs) ?_
        refine aw_vals [0, 1, 2, 6, 7, 8, 13, 14, 15] (f' := 12) (m' := 57799) [3, 5, 48, 50, 54, 56, 61, 63] [(3, .slice p45 l44.length c46), (5, .int .i64 x48), (48, .slice p45 l44.length c46), (50, .int .i64 (IntKind.i64.wrap (x48 - 15))), (54, .slice p45 l44.length c46), (56, .int .i64 (IntKind.i64.wrap (x48 - 15))), (61, .slice p45 l44.length c46), (63, .int .i64 (IntKind.i64.wrap (x48 - 15)))] (fun _ _ _ _ _ h => calm_fin (P := Try.prog) (fn := Try.f21) _ _ _ _ _ h) (fun w hs => sat_pulls [0, 0] (G := [] ++ F0) rfl hs) rfl (by kernel_rfl) ?_
        obtain ⟨y50, h51, hF⟩ := bind_some hF
        refine aw_quiet 3 (m' := 57807) (v := .pointer (some ((base p45).add ((IntKind.i64.wrap (x48 - 15)).toNat * 1)))) 0 [] rfl rfl rfl rfl (by kernel_rfl) (by kernel_rfl) (by kernel_rfl) (fun _ _ _ _ _ h => calm_fin (P := Try.prog) (fn := Try.f21) _ _ _ _ _ h) (fun w hs => sat_pulls [0, 0] (G := [] ++ F0) rfl hs) (q_index_own 1 1 rfl rfl (by kernel_rfl) rfl rfl (at_some h51).1 (at_lt h51)) ?_
        refine aw_quiet 4 (m' := 57823) (v := .int .i64 y50) 0 [] rfl rfl rfl rfl (by kernel_rfl) (by kernel_rfl) (by kernel_rfl) (fun _ _ _ _ _ h => calm_fin (P := Try.prog) (fn := Try.f21) _ _ _ _ _ h) (fun w hs => sat_pulls [0, 0] (G := [] ++ F0) rfl hs) (q_load_own0 1 1 rfl rfl rfl rfl (at_some h51).2 (by kernel_rfl)) ?_
        obtain ⟨y52, h53, hF⟩ := bind_some hF
        refine aw_quiet 9 (m' := 58335) (v := .pointer (some ((base p45).add ((IntKind.i64.wrap (x48 - 15)).toNat * 1)))) 0 [] rfl rfl rfl rfl (by kernel_rfl) (by kernel_rfl) (by kernel_rfl) (fun _ _ _ _ _ h => calm_fin (P := Try.prog) (fn := Try.f21) _ _ _ _ _ h) (fun w hs => sat_pulls [0, 0] (G := [] ++ F0) rfl hs) (q_index_own 1 1 rfl rfl (by kernel_rfl) rfl rfl (at_some h53).1 (at_lt h53)) ?_
        refine aw_quiet 10 (m' := 59359) (v := .int .i64 y52) 0 [] rfl rfl rfl rfl (by kernel_rfl) (by kernel_rfl) (by kernel_rfl) (fun _ _ _ _ _ h => calm_fin (P := Try.prog) (fn := Try.f21) _ _ _ _ _ h) (fun w hs => sat_pulls [0, 0] (G := [] ++ F0) rfl hs) (q_load_own0 1 1 rfl rfl rfl rfl (at_some h53).2 (by kernel_rfl)) ?_
        obtain ⟨y54, h55, hF⟩ := bind_some hF
        refine aw_quiet 16 (m' := 124895) (v := .pointer (some ((base p45).add ((IntKind.i64.wrap (x48 - 15)).toNat * 1)))) 0 [] rfl rfl rfl rfl (by kernel_rfl) (by kernel_rfl) (by kernel_rfl) (fun _ _ _ _ _ h => calm_fin (P := Try.prog) (fn := Try.f21) _ _ _ _ _ h) (fun w hs => sat_pulls [0, 0] (G := [] ++ F0) rfl hs) (q_index_own 1 1 rfl rfl (by kernel_rfl) rfl rfl (at_some h55).1 (at_lt h55)) ?_
        refine aw_quiet 17 (m' := 255967) (v := .int .i64 y54) 0 [] rfl rfl rfl rfl (by kernel_rfl) (by kernel_rfl) (by kernel_rfl) (fun _ _ _ _ _ h => calm_fin (P := Try.prog) (fn := Try.f21) _ _ _ _ _ h) (fun w hs => sat_pulls [0, 0] (G := [] ++ F0) rfl hs) (q_load_own0 1 1 rfl rfl rfl rfl (at_some h55).2 (by kernel_rfl)) ?_
        refine aw_vals [18] (f' := 5) (m' := 518111) [3, 5, 52, 58, 66] [(3, .slice p45 l44.length c46), (5, .int .i64 x48), (52, .int .i64 y50), (58, .int .i64 y52), (66, .int .i64 (y54.fdiv (2 ^ 3)))] (fun _ _ _ _ _ h => calm_fin (P := Try.prog) (fn := Try.f21) _ _ _ _ _ h) (fun w hs => sat_pulls [0, 0] (G := [] ++ F0) rfl hs) rfl (by kernel_rfl) ?_
        obtain ⟨r56, h57, hF⟩ := bind_some hF
        refine aw_only 5 (m' := 518143) (by kernel_rfl) (by kernel_rfl) (pw_call (F := [own (eInt .i64) 3 p45 c46 l44] ++ F0) rfl rfl rfl rfl rfl rfl rfl (by kernel_rfl) (perm_of_pulls [0] rfl) (c_ref02_turn _ _ _ r56 h57) ?_)
        rintro _ _ ⟨rfl, rfl⟩
        refine nw_H (H' := [imm I, own (eInt .i64) 3 p45 c46 l44] ++ F0) rfl (aw_next (fun w hs => sat_pulls [0, 0] (G := [] ++ F0) rfl hs) ?_)
        obtain ⟨r58, h59, hF⟩ := bind_some hF
        refine aw_only 11 (m' := 520191) (by kernel_rfl) (by kernel_rfl) (pw_call (F := [own (eInt .i64) 3 p45 c46 l44] ++ F0) rfl rfl rfl rfl rfl rfl rfl (by kernel_rfl) (perm_of_pulls [0] rfl) (c_ref02_turn _ _ _ r58 h59) ?_)
        rintro _ _ ⟨rfl, rfl⟩
        refine nw_H (H' := [imm I, own (eInt .i64) 3 p45 c46 l44] ++ F0) rfl (aw_next (fun w hs => sat_pulls [0, 0] (G := [] ++ F0) rfl hs) ?_)
        refine aw_vals [12, 19, 20] (f' := 0) (m' := 2097151) [3, 5, 6] [(3, .slice p45 l44.length c46), (5, .int .i64 x48), (6, .int .i64 (ixor .i64 (ixor .i64 r56 r58) (y54.fdiv (2 ^ 3))))] (fun _ _ _ _ _ h => calm_fin (P := Try.prog) (fn := Try.f21) _ _ _ _ _ h) (fun w hs => sat_pulls [0, 0] (G := [] ++ F0) rfl hs) rfl (by kernel_rfl) ?_
        refine aw_keep [3, 5, 6] (L' := [(3, .slice p45 l44.length c46), (5, .int .i64 x48), (6, .int .i64 (ixor .i64 (ixor .i64 r56 r58) (y54.fdiv (2 ^ 3))))]) rfl ?_
        refine aw_end (by kernel_rfl) ?_
        refine ew_then ?_
        refine cw_seq ?_
        refine cw_open 21 (SAT w0 ([imm I, own (eInt .i64) 3 p45 c46 l44])) (by kernel_rfl) (f := 21) rfl (fun w hs => sat_drew hs) ?_
        refine aw_vals [0, 1, 2, 6, 7, 8, 13, 14, 15] (f' := 12) (m' := 57799) [3, 5, 6, 68, 70, 74, 76, 81, 83] [(3, .slice p45 l44.length c46), (5, .int .i64 x48), (6, .int .i64 (ixor .i64 (ixor .i64 r56 r58) (y54.fdiv (2 ^ 3)))), (68, .slice p45 l44.length c46), (70, .int .i64 (IntKind.i64.wrap (x48 - 2))), (74, .slice p45 l44.length c46), (76, .int .i64 (IntKind.i64.wrap (x48 - 2))), (81, .slice p45 l44.length c46), (83, .int .i64 (IntKind.i64.wrap (x48 - 2)))] (fun _ _ _ _ _ h => calm_fin (P := Try.prog) (fn := Try.f21) _ _ _ _ _ h) (fun w hs => sat_pulls [0, 0] (G := [] ++ F0) rfl hs) rfl (by kernel_rfl) ?_
        obtain ⟨y60, h61, hF⟩ := bind_some hF
        refine aw_quiet 3 (m' := 57807) (v := .pointer (some ((base p45).add ((IntKind.i64.wrap (x48 - 2)).toNat * 1)))) 0 [] rfl rfl rfl rfl (by kernel_rfl) (by kernel_rfl) (by kernel_rfl) (fun _ _ _ _ _ h => calm_fin (P := Try.prog) (fn := Try.f21) _ _ _ _ _ h) (fun w hs => sat_pulls [0, 0] (G := [] ++ F0) rfl hs) (q_index_own 1 1 rfl rfl (by kernel_rfl) rfl rfl (at_some h61).1 (at_lt h61)) ?_
        refine aw_quiet 4 (m' := 57823) (v := .int .i64 y60) 0 [] rfl rfl rfl rfl (by kernel_rfl) (by kernel_rfl) (by kernel_rfl) (fun _ _ _ _ _ h => calm_fin (P := Try.prog) (fn := Try.f21) _ _ _ _ _ h) (fun w hs => sat_pulls [0, 0] (G := [] ++ F0) rfl hs) (q_load_own0 1 1 rfl rfl rfl rfl (at_some h61).2 (by kernel_rfl)) ?_
        obtain ⟨y62, h63, hF⟩ := bind_some hF
        refine aw_quiet 9 (m' := 58335) (v := .pointer (some ((base p45).add ((IntKind.i64.wrap (x48 - 2)).toNat * 1)))) 0 [] rfl rfl rfl rfl (by kernel_rfl) (by kernel_rfl) (by kernel_rfl) (fun _ _ _ _ _ h => calm_fin (P := Try.prog) (fn := Try.f21) _ _ _ _ _ h) (fun w hs => sat_pulls [0, 0] (G := [] ++ F0) rfl hs) (q_index_own 1 1 rfl rfl (by kernel_rfl) rfl rfl (at_some h63).1 (at_lt h63)) ?_
        refine aw_quiet 10 (m' := 59359) (v := .int .i64 y62) 0 [] rfl rfl rfl rfl (by kernel_rfl) (by kernel_rfl) (by kernel_rfl) (fun _ _ _ _ _ h => calm_fin (P := Try.prog) (fn := Try.f21) _ _ _ _ _ h) (fun w hs => sat_pulls [0, 0] (G := [] ++ F0) rfl hs) (q_load_own0 1 1 rfl rfl rfl rfl (at_some h63).2 (by kernel_rfl)) ?_
        obtain ⟨y64, h65, hF⟩ := bind_some hF
        refine aw_quiet 16 (m' := 124895) (v := .pointer (some ((base p45).add ((IntKind.i64.wrap (x48 - 2)).toNat * 1)))) 0 [] rfl rfl rfl rfl (by kernel_rfl) (by kernel_rfl) (by kernel_rfl) (fun _ _ _ _ _ h => calm_fin (P := Try.prog) (fn := Try.f21) _ _ _ _ _ h) (fun w hs => sat_pulls [0, 0] (G := [] ++ F0) rfl hs) (q_index_own 1 1 rfl rfl (by kernel_rfl) rfl rfl (at_some h65).1 (at_lt h65)) ?_
        refine aw_quiet 17 (m' := 255967) (v := .int .i64 y64) 0 [] rfl rfl rfl rfl (by kernel_rfl) (by kernel_rfl) (by kernel_rfl) (fun _ _ _ _ _ h => calm_fin (P := Try.prog) (fn := Try.f21) _ _ _ _ _ h) (fun w hs => sat_pulls [0, 0] (G := [] ++ F0) rfl hs) (q_load_own0 1 1 rfl rfl rfl rfl (at_some h65).2 (by kernel_rfl)) ?_
        refine aw_vals [18] (f' := 5) (m' := 518111) [3, 5, 6, 72, 78, 86] [(3, .slice p45 l44.length c46), (5, .int .i64 x48), (6, .int .i64 (ixor .i64 (ixor .i64 r56 r58) (y54.fdiv (2 ^ 3)))), (72, .int .i64 y60), (78, .int .i64 y62), (86, .int .i64 (y64.fdiv (2 ^ 10)))] (fun _ _ _ _ _ h => calm_fin (P := Try.prog) (fn := Try.f21) _ _ _ _ _ h) (fun w hs => sat_pulls [0, 0] (G := [] ++ F0) rfl hs) rfl (by kernel_rfl) ?_
        obtain ⟨r66, h67, hF⟩ := bind_some hF
        refine aw_only 5 (m' := 518143) (by kernel_rfl) (by kernel_rfl) (pw_call (F := [own (eInt .i64) 3 p45 c46 l44] ++ F0) rfl rfl rfl rfl rfl rfl rfl (by kernel_rfl) (perm_of_pulls [0] rfl) (c_ref02_turn _ _ _ r66 h67) ?_)
        rintro _ _ ⟨rfl, rfl⟩
        refine nw_H (H' := [imm I, own (eInt .i64) 3 p45 c46 l44] ++ F0) rfl (aw_next (fun w hs => sat_pulls [0, 0] (G := [] ++ F0) rfl hs) ?_)
        obtain ⟨r68, h69, hF⟩ := bind_some hF
        refine aw_only 11 (m' := 520191) (by kernel_rfl) (by kernel_rfl) (pw_call (F := [own (eInt .i64) 3 p45 c46 l44] ++ F0) rfl rfl rfl rfl rfl rfl rfl (by kernel_rfl) (perm_of_pulls [0] rfl) (c_ref02_turn _ _ _ r68 h69) ?_)
        rintro _ _ ⟨rfl, rfl⟩
        refine nw_H (H' := [imm I, own (eInt .i64) 3 p45 c46 l44] ++ F0) rfl (aw_next (fun w hs => sat_pulls [0, 0] (G := [] ++ F0) rfl hs) ?_)
        refine aw_vals [12, 19, 20] (f' := 0) (m' := 2097151) [3, 5, 6, 7] [(3, .slice p45 l44.length c46), (5, .int .i64 x48), (6, .int .i64 (ixor .i64 (ixor .i64 r56 r58) (y54.fdiv (2 ^ 3)))), (7, .int .i64 (ixor .i64 (ixor .i64 r66 r68) (y64.fdiv (2 ^ 10))))] (fun _ _ _ _ _ h => calm_fin (P := Try.prog) (fn := Try.f21) _ _ _ _ _ h) (fun w hs => sat_pulls [0, 0] (G := [] ++ F0) rfl hs) rfl (by kernel_rfl) ?_
        refine aw_keep [3, 5, 6, 7] (L' := [(3, .slice p45 l44.length c46), (5, .int .i64 x48), (6, .int .i64 (ixor .i64 (ixor .i64 r56 r58) (y54.fdiv (2 ^ 3)))), (7, .int .i64 (ixor .i64 (ixor .i64 r66 r68) (y64.fdiv (2 ^ 10))))]) rfl ?_
        refine aw_end (by kernel_rfl) ?_
        refine ew_then ?_
        refine cw_open 18 (SAT w0 ([imm I, own (eInt .i64) 3 p45 c46 l44])) (by kernel_rfl) (f := 20) rfl (fun w hs => sat_drew hs) ?_
        refine aw_vals [0, 1, 2, 3, 6, 8, 9, 10, 14] (f' := 11) (m' := 18255) [3, 5, 88, 89, 91, 94, 96, 98, 102] [(3, .slice p45 l44.length c46), (5, .int .i64 x48), (88, .slice p45 l44.length c46), (89, .slice p45 l44.length c46), (91, .int .i64 (IntKind.i64.wrap (x48 - 16))), (94, .int .i64 (ixor .i64 (ixor .i64 r56 r58) (y54.fdiv (2 ^ 3)))), (96, .slice p45 l44.length c46), (98, .int .i64 (IntKind.i64.wrap (x48 - 7))), (102, .int .i64 (ixor .i64 (ixor .i64 r66 r68) (y64.fdiv (2 ^ 10))))] (fun _ _ _ _ _ h => calm_fin (P := Try.prog) (fn := Try.f21) _ _ _ _ _ h) (fun w hs => sat_pulls [0, 0] (G := [] ++ F0) rfl hs) rfl (by kernel_rfl) ?_
        obtain ⟨y70, h71, hF⟩ := bind_some hF
        refine aw_quiet 4 (m' := 18271) (v := .pointer (some ((base p45).add ((IntKind.i64.wrap (x48 - 16)).toNat * 1)))) 17 [16, 15, 13, 7, 5, 4] rfl rfl rfl rfl (by kernel_rfl) (by kernel_rfl) (by kernel_rfl) (fun _ _ _ _ _ h => calm_fin (P := Try.prog) (fn := Try.f21) _ _ _ _ _ h) (fun w hs => sat_pulls [0, 0] (G := [] ++ F0) rfl hs) (q_index_own 1 1 rfl rfl (by kernel_rfl) rfl rfl (at_some h71).1 (at_lt h71)) ?_
        refine aw_quiet 5 (m' := 18303) (v := .int .i64 y70) 17 [16, 15, 13, 7, 5] rfl rfl rfl rfl (by kernel_rfl) (by kernel_rfl) (by kernel_rfl) (fun _ _ _ _ _ h => calm_fin (P := Try.prog) (fn := Try.f21) _ _ _ _ _ h) (fun w hs => sat_pulls [0, 0] (G := [] ++ F0) rfl hs) (q_load_own0 1 1 rfl rfl rfl rfl (at_some h71).2 (by kernel_rfl)) ?_
        refine aw_vals [7] (f' := 8) (m' := 18431) [3, 5, 88, 95, 96, 98, 102] [(3, .slice p45 l44.length c46), (5, .int .i64 x48), (88, .slice p45 l44.length c46), (95, .int .i64 (IntKind.i64.wrap (y70 + (ixor .i64 (ixor .i64 r56 r58) (y54.fdiv (2 ^ 3)))))), (96, .slice p45 l44.length c46), (98, .int .i64 (IntKind.i64.wrap (x48 - 7))), (102, .int .i64 (ixor .i64 (ixor .i64 r66 r68) (y64.fdiv (2 ^ 10))))] (fun _ _ _ _ _ h => calm_fin (P := Try.prog) (fn := Try.f21) _ _ _ _ _ h) (fun w hs => sat_pulls [0, 0] (G := [] ++ F0) rfl hs) rfl (by kernel_rfl) ?_
        obtain ⟨y72, h73, hF⟩ := bind_some hF
        refine aw_quiet 11 (m' := 20479) (v := .pointer (some ((base p45).add ((IntKind.i64.wrap (x48 - 7)).toNat * 1)))) 17 [16, 15, 13, 12, 11] rfl rfl rfl rfl (by kernel_rfl) (by kernel_rfl) (by kernel_rfl) (fun _ _ _ _ _ h => calm_fin (P := Try.prog) (fn := Try.f21) _ _ _ _ _ h) (fun w hs => sat_pulls [0, 0] (G := [] ++ F0) rfl hs) (q_index_own 1 1 rfl rfl (by kernel_rfl) rfl rfl (at_some h73).1 (at_lt h73)) ?_
        refine aw_quiet 12 (m' := 24575) (v := .int .i64 y72) 17 [16, 15, 13, 12] rfl rfl rfl rfl (by kernel_rfl) (by kernel_rfl) (by kernel_rfl) (fun _ _ _ _ _ h => calm_fin (P := Try.prog) (fn := Try.f21) _ _ _ _ _ h) (fun w hs => sat_pulls [0, 0] (G := [] ++ F0) rfl hs) (q_load_own0 1 1 rfl rfl rfl rfl (at_some h73).2 (by kernel_rfl)) ?_
        refine aw_vals [13, 15, 16] (f' := 3) (m' := 131071) [3, 5, 88, 104] [(3, .slice p45 l44.length c46), (5, .int .i64 x48), (88, .slice p45 l44.length c46), (104, .int .i64 ((IntKind.i64.wrap ((IntKind.i64.wrap ((IntKind.i64.wrap (y70 + (ixor .i64 (ixor .i64 r56 r58) (y54.fdiv (2 ^ 3))))) + y72)) + (ixor .i64 (ixor .i64 r66 r68) (y64.fdiv (2 ^ 10))))).tmod 4294967296))] (fun _ _ _ _ _ h => calm_fin (P := Try.prog) (fn := Try.f21) _ _ _ _ _ h) (fun w hs => sat_pulls [0, 0] (G := [] ++ F0) rfl hs) rfl (by kernel_rfl) ?_
        refine aw_only 17 (m' := 262143) (by kernel_rfl) (by kernel_rfl) (pw_buildSlice (E := 3) (eInt .i64) ([(IntKind.i64.wrap ((IntKind.i64.wrap ((IntKind.i64.wrap (y70 + (ixor .i64 (ixor .i64 r56 r58) (y54.fdiv (2 ^ 3))))) + y72)) + (ixor .i64 (ixor .i64 r66 r68) (y64.fdiv (2 ^ 10))))).tmod 4294967296] : List Int) rfl rfl rfl rfl rfl (by kernel_rfl) rfl (by kernel_rfl) rfl (by decide) rfl fun p74 => aw_next (fun w hs => sat_pulls [1, 1] (G := [own (eInt .i64) 3 p74 1 ([(IntKind.i64.wrap ((IntKind.i64.wrap ((IntKind.i64.wrap (y70 + (ixor .i64 (ixor .i64 r56 r58) (y54.fdiv (2 ^ 3))))) + y72)) + (ixor .i64 (ixor .i64 r66 r68) (y64.fdiv (2 ^ 10))))).tmod 4294967296] : List Int)] ++ F0) rfl hs) ?_)
        obtain ⟨h76, hF⟩ := chk_some hF
        refine aw_only 18 (m' := 524287) (by kernel_rfl) (by kernel_rfl) (pw_append 2 (l' := ([(IntKind.i64.wrap ((IntKind.i64.wrap ((IntKind.i64.wrap (y70 + (ixor .i64 (ixor .i64 r56 r58) (y54.fdiv (2 ^ 3))))) + y72)) + (ixor .i64 (ixor .i64 r66 r68) (y64.fdiv (2 ^ 10))))).tmod 4294967296] : List Int)) rfl rfl rfl rfl rfl rfl (by kernel_rfl) (by kernel_rfl) rfl rfl rfl (src_own (E' := 3) 0 rfl (by kernel_rfl) rfl) rfl h76.1 h76.2 fun p77 c78 => nw_H (H' := [own (eInt .i64) 3 p74 1 ([(IntKind.i64.wrap ((IntKind.i64.wrap ((IntKind.i64.wrap (y70 + (ixor .i64 (ixor .i64 r56 r58) (y54.fdiv (2 ^ 3))))) + y72)) + (ixor .i64 (ixor .i64 r66 r68) (y64.fdiv (2 ^ 10))))).tmod 4294967296] : List Int), imm I, own (eInt .i64) 3 p77 c78 (l44 ++ ([(IntKind.i64.wrap ((IntKind.i64.wrap ((IntKind.i64.wrap (y70 + (ixor .i64 (ixor .i64 r56 r58) (y54.fdiv (2 ^ 3))))) + y72)) + (ixor .i64 (ixor .i64 r66 r68) (y64.fdiv (2 ^ 10))))).tmod 4294967296] : List Int))] ++ F0) rfl (aw_last (by kernel_rfl) ?_))
        refine aw_past (by kernel_rfl) ?_
        refine aw_vals [19] (f' := 0) (m' := 1048575) [3, 5] [(3, .slice p77 (l44 ++ ([(IntKind.i64.wrap ((IntKind.i64.wrap ((IntKind.i64.wrap (y70 + (ixor .i64 (ixor .i64 r56 r58) (y54.fdiv (2 ^ 3))))) + y72)) + (ixor .i64 (ixor .i64 r66 r68) (y64.fdiv (2 ^ 10))))).tmod 4294967296] : List Int)).length c78), (5, .int .i64 x48)] (fun _ _ _ _ _ h => calm_fin (P := Try.prog) (fn := Try.f21) _ _ _ _ _ h) (fun _ _ => trivial) rfl (by kernel_rfl) ?_
        refine aw_keep [3, 5] (L' := [(3, .slice p77 (l44 ++ ([(IntKind.i64.wrap ((IntKind.i64.wrap ((IntKind.i64.wrap (y70 + (ixor .i64 (ixor .i64 r56 r58) (y54.fdiv (2 ^ 3))))) + y72)) + (ixor .i64 (ixor .i64 r66 r68) (y64.fdiv (2 ^ 10))))).tmod 4294967296] : List Int)).length c78), (5, .int .i64 x48)]) rfl ?_
        refine aw_end (by kernel_rfl) ?_
        refine ew_blk ?_
        refine ew_then ?_
        refine cw_region ?_
        refine ow_vals 3 (j := 3) [3, 5] [(3, .slice p77 (l44 ++ ([(IntKind.i64.wrap ((IntKind.i64.wrap ((IntKind.i64.wrap (y70 + (ixor .i64 (ixor .i64 r56 r58) (y54.fdiv (2 ^ 3))))) + y72)) + (ixor .i64 (ixor .i64 r66 r68) (y64.fdiv (2 ^ 10))))).tmod 4294967296] : List Int)).length c78), (5, .int .i64 (IntKind.i64.wrap (x48 + 1)))] rfl (by kernel_rfl) ?_
        refine ow_end rfl ?_
        have hR := Option.some.inj hF
        subst hR
        have hR := hL43
        try dsimp only at hR
        exact fun a w hf hs => ⟨k, Nat.lt_succ_self k, l44 ++ ([(IntKind.i64.wrap ((IntKind.i64.wrap ((IntKind.i64.wrap (y70 + (ixor .i64 (ixor .i64 r56 r58) (y54.fdiv (2 ^ 3))))) + y72)) + (ixor .i64 (ixor .i64 r66 r68) (y64.fdiv (2 ^ 10))))).tmod 4294967296] : List Int), IntKind.i64.wrap (x48 + 1), p77, c78, hR, hf.keep [3, 5], sat_to [0, 0, 0] 1 rfl hs⟩
      · refine cw_cond_f rfl rfl h49 ?_
        refine cw_exit ?_
        refine ew_then_exit ?_
        refine ew_then_exit ?_
        refine ew_blk_exit ?_
        have hR := Option.some.inj hF
        subst hR
        have hR := hL43
        try dsimp only at hR
        exact fun a w hf hs => ⟨l44, p45, c46, hR, hf.keep [3], sat_to [0, 0] 0 rfl hs⟩
    · rintro a w ⟨l79, p80, c81, hv, hf, hs⟩
      subst hv
      replace hF := hK42
      clear hK42
      try dsimp only at hF
      revert a w
      show CW _ _ _ 108 [(3, .slice p80 l79.length c81)] (SAT w0 ([imm I, own (eInt .i64) 3 p80 c81 l79] ++ F0))
      unfold F.ref02_words.r4 at hF
      refine cw_seq ?_
      refine cw_region ?_
      refine ow_vals 2 (j := 2) [2] [(2, .slice p80 l79.length c81)] rfl (by kernel_rfl) ?_
      refine ow_end rfl ?_
      refine ew_then ?_
      refine cw_ret ?_
      have hR := Option.some.inj hF
      subst hR
      exact fin1 (H1 := [imm I, own (eInt .i64) 3 p80 c81 l79]) (fun w hs => sat_to [0, 0] 0 rfl hs) rfl (rr_tmp rfl) ⟨p80, c81, rfl, rfl⟩


def F.ref02_block.l1 (x1 : List Int) (r21 : (List Int)) (l31 : List Int) (x35 : Int) : Option (((List Int) × Int) ⊕ ((List Int))) :=
  if decide (x35 < 64) then (Option.bind (at_ l31 4) (fun (y37 : Int) => Option.bind (at_ l31 4) (fun (y39 : Int) => Option.bind (at_ l31 4) (fun (y41 : Int) => Option.bind (F.ref02_turn y37 6) (fun (r43 : Int) => Option.bind (F.ref02_turn y39 11) (fun (r45 : Int) => Option.bind (F.ref02_turn y41 25) (fun (r47 : Int) => Option.bind (at_ l31 4) (fun (y49 : Int) => Option.bind (at_ l31 5) (fun (y51 : Int) => Option.bind (at_ l31 4) (fun (y53 : Int) => Option.bind (at_ l31 6) (fun (y55 : Int) => Option.bind (at_ l31 7) (fun (y57 : Int) => Option.bind (at_ x1 x35) (fun (y59 : Int) => Option.bind (at_ r21 x35) (fun (y63 : Int) => Option.bind (at_ l31 0) (fun (y65 : Int) => Option.bind (at_ l31 0) (fun (y67 : Int) => Option.bind (at_ l31 0) (fun (y69 : Int) => Option.bind (F.ref02_turn y65 2) (fun (r71 : Int) => Option.bind (F.ref02_turn y67 13) (fun (r73 : Int) => Option.bind (F.ref02_turn y69 22) (fun (r75 : Int) => Option.bind (at_ l31 0) (fun (y77 : Int) => Option.bind (at_ l31 1) (fun (y79 : Int) => Option.bind (at_ l31 0) (fun (y81 : Int) => Option.bind (at_ l31 2) (fun (y83 : Int) => Option.bind (at_ l31 1) (fun (y85 : Int) => Option.bind (at_ l31 2) (fun (y87 : Int) => Option.bind (at_ l31 0) (fun (y89 : Int) => Option.bind (at_ l31 1) (fun (y91 : Int) => Option.bind (at_ l31 2) (fun (y93 : Int) => Option.bind (at_ l31 3) (fun (y95 : Int) => Option.bind (at_ l31 4) (fun (y97 : Int) => Option.bind (at_ l31 5) (fun (y99 : Int) => Option.bind (at_ l31 6) (fun (y101 : Int) => some (.inl (([(IntKind.i64.wrap ((IntKind.i64.wrap ((IntKind.i64.wrap ((IntKind.i64.wrap ((IntKind.i64.wrap ((IntKind.i64.wrap (y57 + (ixor .i64 (ixor .i64 r43 r45) r47))) + (ixor .i64 (iand .i64 y49 y51) (iand .i64 (IntKind.i64.wrap (4294967295 - y53)) y55)))) + y59)) + y63)) + (ixor .i64 (ixor .i64 r71 r73) r75))) + (ixor .i64 (ixor .i64 (iand .i64 y77 y79) (iand .i64 y81 y83)) (iand .i64 y85 y87)))).tmod 4294967296, y89, y91, y93, (IntKind.i64.wrap (y95 + (IntKind.i64.wrap ((IntKind.i64.wrap ((IntKind.i64.wrap ((IntKind.i64.wrap (y57 + (ixor .i64 (ixor .i64 r43 r45) r47))) + (ixor .i64 (iand .i64 y49 y51) (iand .i64 (IntKind.i64.wrap (4294967295 - y53)) y55)))) + y59)) + y63)))).tmod 4294967296, y97, y99, y101] : List Int), IntKind.i64.wrap (x35 + 1)))))))))))))))))))))))))))))))))))) else (some (.inr (l31)))
def F.ref02_block.l3 (x0 : List Int) (l105 : List Int) (l111 : List Int) (x115 : Int) : Option (((List Int) × Int) ⊕ ((List Int))) :=
  if decide (x115 < 8) then (Option.bind (at_ x0 x115) (fun (y117 : Int) => Option.bind (at_ l105 x115) (fun (y121 : Int) => chk (room (l111.length + ([(IntKind.i64.wrap (y117 + y121)).tmod 4294967296] : List Int).length) 8) (some (.inl (l111 ++ ([(IntKind.i64.wrap (y117 + y121)).tmod 4294967296] : List Int), IntKind.i64.wrap (x115 + 1))))))) else (some (.inr (l111)))
def F.ref02_block.r4 (l128 : List Int) : Option ((List Int)) :=
  some (l128)
def F.ref02_block.r2 (x0 : List Int) (l105 : List Int) : Option ((List Int)) :=
  Option.bind (iter (fun x => F.ref02_block.l3 x0 l105 x.1 x.2) FUEL ([], 0)) (fun x => F.ref02_block.r4 x)
def F.ref02_block (x0 : List Int) (x1 : List Int) (x2 : ByteArray) : Option (List Int) :=
  Option.bind (F.ref02_words x2) (fun (r21 : (List Int)) => chk (room (([] : List Int).length + x0.length) 8) (Option.bind (iter (fun x => F.ref02_block.l1 x1 r21 x.1 x.2) FUEL (([] : List Int) ++ x0, 0)) (fun x => F.ref02_block.r2 x0 x)))
set_option maxRecDepth 100000 in
set_option maxHeartbeats 4000000 in
theorem c_ref02_block (I : Hl) (x0 : List Int) (x1 : List Int) (x2 : ByteArray) (p0 : Option Addr) (c0 : Nat) (p1 : Option Addr) (c1 : Nat) (res : (List Int)) (hF : F.ref02_block x0 x1 x2 = some res) (hr0 : ro I (eInt .i64) p0 c0 x0) (hr1 : ro I (eInt .i64) p1 c1 x1) : Tr Try.prog 18 [.slice p0 x0.length c0, .slice p1 x1.length c1, .string x2] [imm I] (fun r H' => ∃ (p1 : Option Addr), ∃ (c2 : Nat), r = .slice p1 res.length c2 ∧ H' = [imm I, own (eInt .i64) 3 p1 c2 res]) := by
  unfold F.ref02_block at hF
  refine tr_of_cw (fn := Try.f18) Try.func18 rfl (Nat.le_of_ble_eq_true rfl) 159 rfl fun F0 w0 => ?_
  refine cw_keep [0, 1, 2] (L' := [(0, .slice p0 x0.length c0), (1, .slice p1 x1.length c1), (2, .string x2)]) rfl ?_
  refine cw_state (S' := SAT w0 ([imm I] ++ F0)) (fun w hs => hs) ?_
  refine cw_seq ?_
  refine cw_region ?_
  refine ow_vals 1 (j := 1) [0, 1, 2] [(0, .slice p0 x0.length c0), (1, .slice p1 x1.length c1), (2, .string x2)] rfl (by kernel_rfl) ?_
  refine ow_end rfl ?_
  refine ew_then ?_
  refine cw_seq ?_
  refine cw_region ?_
  refine ow_vals 1 (j := 1) [0, 1, 17] [(0, .slice p0 x0.length c0), (1, .slice p1 x1.length c1), (17, .string x2)] rfl (by kernel_rfl) ?_
  obtain ⟨r21, h22, hF⟩ := bind_some hF
  refine ow_pw rfl (pw_call (F := [] ++ F0) rfl rfl rfl rfl rfl rfl rfl (by kernel_rfl) (perm_of_pulls [0] rfl) (c_ref02_words _ _ r21 h22) ?_)
  rintro _ _ ⟨r21_p1, r21_c2, rfl, rfl⟩
  refine nw_H (H' := [imm I, own (eInt .i64) 3 r21_p1 r21_c2 r21] ++ F0) rfl (nw_ow ?_)
  refine ow_vals 1 (j := 3) [0, 1, 7] [(0, .slice p0 x0.length c0), (1, .slice p1 x1.length c1), (7, .slice r21_p1 r21.length r21_c2)] rfl (by kernel_rfl) ?_
  refine ow_end rfl ?_
  refine ew_then ?_
  refine cw_seq ?_
  refine cw_region ?_
  refine ow_pw rfl (pw_buildSlice (E := 3) (eInt .i64) ([] : List Int) rfl rfl rfl rfl rfl (by kernel_rfl) rfl (by kernel_rfl) rfl (by decide) rfl fun p24 => nw_ow ?_)
  refine ow_vals 1 (j := 2) [0, 1, 7, 19, 20] [(0, .slice p0 x0.length c0), (1, .slice p1 x1.length c1), (7, .slice r21_p1 r21.length r21_c2), (19, .slice p24 ([] : List Int).length 0), (20, .slice p0 x0.length c0)] rfl (by kernel_rfl) ?_
  obtain ⟨h26, hF⟩ := chk_some hF
  refine ow_pw rfl (pw_append 0 (l' := x0) rfl rfl rfl rfl rfl rfl (by kernel_rfl) (by kernel_rfl) rfl rfl rfl (src_ro (E' := 3) 1 rfl hr0 (by kernel_rfl) rfl) rfl h26.1 h26.2 fun p27 c28 => nw_H (H' := [own (eInt .i64) 3 p27 c28 (([] : List Int) ++ x0), imm I, own (eInt .i64) 3 r21_p1 r21_c2 r21] ++ F0) rfl (nw_ow ?_))
  refine ow_vals 1 (j := 4) [0, 1, 7, 8] [(0, .slice p0 x0.length c0), (1, .slice p1 x1.length c1), (7, .slice r21_p1 r21.length r21_c2), (8, .slice p27 (([] : List Int) ++ x0).length c28)] rfl (by kernel_rfl) ?_
  refine ow_end rfl ?_
  refine ew_then ?_
  obtain ⟨v29, hF, hK29⟩ := bind_some hF
  refine cw_mid (fun a w => ∃ (l105 : List Int), ∃ (p106 : Option Addr), ∃ (c107 : Nat), l105 = v29 ∧ Fr 159 [(0, .slice p0 x0.length c0), (8, .slice p106 l105.length c107)] a ∧ SAT w0 ([imm I, own (eInt .i64) 3 p106 c107 l105] ++ F0) w) ?_ ?_
  · refine cw_seq ?_
    refine cw_region ?_
    refine ow_vals 1 (j := 1) [0, 1, 7, 8, 9] [(0, .slice p0 x0.length c0), (1, .slice p1 x1.length c1), (7, .slice r21_p1 r21.length r21_c2), (8, .slice p27 (([] : List Int) ++ x0).length c28), (9, .int .i64 0)] rfl (by kernel_rfl) ?_
    refine ow_end rfl ?_
    refine ew_then ?_
    refine cw_block ?_
    refine fun a w hf hs => wp_rounds (fun k a w => ∃ (l31 : List Int), ∃ (x35 : Int), ∃ (p32 : Option Addr), ∃ (c33 : Nat), iter (fun x => F.ref02_block.l1 x1 r21 x.1 x.2) k (l31, x35) = some v29 ∧ Fr 159 [(0, .slice p0 x0.length c0), (1, .slice p1 x1.length c1), (7, .slice r21_p1 r21.length r21_c2), (8, .slice p32 l31.length c33), (9, .int .i64 x35)] a ∧ SAT w0 ([imm I, own (eInt .i64) 3 r21_p1 r21_c2 r21, own (eInt .i64) 3 p32 c33 l31] ++ F0) w) ?_ FUEL a w ⟨([] : List Int) ++ x0, 0, p27, c28, hF, hf.keep [0, 1, 7, 8, 9], sat_to [1, 1, 0] 0 rfl hs⟩
    clear hf hs
    clear a w hF
    rintro k a w ⟨l31, x35, p32, c33, hF2, hf, hs⟩
    obtain ⟨k, r30, rfl, hF, hL30⟩ := iter_some hF2
    clear hF2
    revert a w
    show CW _ _ _ 159 [(0, .slice p0 x0.length c0), (1, .slice p1 x1.length c1), (7, .slice r21_p1 r21.length r21_c2), (8, .slice p32 l31.length c33), (9, .int .i64 x35)] (SAT w0 ([imm I, own (eInt .i64) 3 r21_p1 r21_c2 r21, own (eInt .i64) 3 p32 c33 l31] ++ F0))
    try dsimp only at hF
    unfold F.ref02_block.l1 at hF
    refine cw_seq ?_
    refine cw_seq ?_
    refine cw_region ?_
    refine ow_vals 2 (j := 2) [0, 1, 7, 8, 9, 23] [(0, .slice p0 x0.length c0), (1, .slice p1 x1.length c1), (7, .slice r21_p1 r21.length r21_c2), (8, .slice p32 l31.length c33), (9, .int .i64 x35), (23, .bool (decide (x35 < 64)))] rfl (by kernel_rfl) ?_
    refine ow_end rfl ?_
    refine ew_then ?_
    rcases if_some hF with ⟨h36, hF⟩ | ⟨h36, hF⟩
    · refine cw_cond_t rfl rfl h36 ?_
      refine cw_skip ?_
      refine ew_then ?_
      refine cw_seq ?_
      refine cw_block ?_
      refine cw_seq ?_
      refine cw_open 15 (SAT w0 ([imm I, own (eInt .i64) 3 r21_p1 r21_c2 r21, own (eInt .i64) 3 p32 c33 l31])) (by kernel_rfl) (f := 15) rfl (fun w hs => sat_drew hs) ?_
      refine aw_vals [0, 4, 9] (f' := 12) (m' := 529) [0, 1, 7, 8, 9, 26, 30, 35] [(0, .slice p0 x0.length c0), (1, .slice p1 x1.length c1), (7, .slice r21_p1 r21.length r21_c2), (8, .slice p32 l31.length c33), (9, .int .i64 x35), (26, .slice p32 l31.length c33), (30, .slice p32 l31.length c33), (35, .slice p32 l31.length c33)] (fun _ _ _ _ _ h => calm_fin (P := Try.prog) (fn := Try.f18) _ _ _ _ _ h) (fun w hs => sat_pulls [0, 0, 0] (G := [] ++ F0) rfl hs) rfl (by kernel_rfl) ?_
      obtain ⟨y37, h38, hF⟩ := bind_some hF
      refine aw_quiet 1 (m' := 531) (v := .pointer (some ((base p32).add ((4 : Int).toNat * 1)))) 0 [] rfl rfl rfl rfl (by kernel_rfl) (by kernel_rfl) (by kernel_rfl) (fun _ _ _ _ _ h => calm_fin (P := Try.prog) (fn := Try.f18) _ _ _ _ _ h) (fun w hs => sat_pulls [0, 0, 0] (G := [] ++ F0) rfl hs) (q_index_own 2 1 rfl rfl (by kernel_rfl) rfl rfl (at_some h38).1 (at_lt h38)) ?_
      refine aw_quiet 2 (m' := 535) (v := .int .i64 y37) 0 [] rfl rfl rfl rfl (by kernel_rfl) (by kernel_rfl) (by kernel_rfl) (fun _ _ _ _ _ h => calm_fin (P := Try.prog) (fn := Try.f18) _ _ _ _ _ h) (fun w hs => sat_pulls [0, 0, 0] (G := [] ++ F0) rfl hs) (q_load_own0 2 1 rfl rfl rfl rfl (at_some h38).2 (by kernel_rfl)) ?_
      obtain ⟨y39, h40, hF⟩ := bind_some hF
      refine aw_quiet 5 (m' := 567) (v := .pointer (some ((base p32).add ((4 : Int).toNat * 1)))) 0 [] rfl rfl rfl rfl (by kernel_rfl) (by kernel_rfl) (by kernel_rfl) (fun _ _ _ _ _ h => calm_fin (P := Try.prog) (fn := Try.f18) _ _ _ _ _ h) (fun w hs => sat_pulls [0, 0, 0] (G := [] ++ F0) rfl hs) (q_index_own 2 1 rfl rfl (by kernel_rfl) rfl rfl (at_some h40).1 (at_lt h40)) ?_
      refine aw_quiet 6 (m' := 631) (v := .int .i64 y39) 0 [] rfl rfl rfl rfl (by kernel_rfl) (by kernel_rfl) (by kernel_rfl) (fun _ _ _ _ _ h => calm_fin (P := Try.prog) (fn := Try.f18) _ _ _ _ _ h) (fun w hs => sat_pulls [0, 0, 0] (G := [] ++ F0) rfl hs) (q_load_own0 2 1 rfl rfl rfl rfl (at_some h40).2 (by kernel_rfl)) ?_
      obtain ⟨y41, h42, hF⟩ := bind_some hF
      refine aw_quiet 10 (m' := 1655) (v := .pointer (some ((base p32).add ((4 : Int).toNat * 1)))) 0 [] rfl rfl rfl rfl (by kernel_rfl) (by kernel_rfl) (by kernel_rfl) (fun _ _ _ _ _ h => calm_fin (P := Try.prog) (fn := Try.f18) _ _ _ _ _ h) (fun w hs => sat_pulls [0, 0, 0] (G := [] ++ F0) rfl hs) (q_index_own 2 1 rfl rfl (by kernel_rfl) rfl rfl (at_some h42).1 (at_lt h42)) ?_
      refine aw_quiet 11 (m' := 3703) (v := .int .i64 y41) 0 [] rfl rfl rfl rfl (by kernel_rfl) (by kernel_rfl) (by kernel_rfl) (fun _ _ _ _ _ h => calm_fin (P := Try.prog) (fn := Try.f18) _ _ _ _ _ h) (fun w hs => sat_pulls [0, 0, 0] (G := [] ++ F0) rfl hs) (q_load_own0 2 1 rfl rfl rfl rfl (at_some h42).2 (by kernel_rfl)) ?_
      obtain ⟨r43, h44, hF⟩ := bind_some hF
      refine aw_only 3 (m' := 3711) (by kernel_rfl) (by kernel_rfl) (pw_call (F := [own (eInt .i64) 3 r21_p1 r21_c2 r21, own (eInt .i64) 3 p32 c33 l31] ++ F0) rfl rfl rfl rfl rfl rfl rfl (by kernel_rfl) (perm_of_pulls [0] rfl) (c_ref02_turn _ _ _ r43 h44) ?_)
      rintro _ _ ⟨rfl, rfl⟩
      refine nw_H (H' := [imm I, own (eInt .i64) 3 r21_p1 r21_c2 r21, own (eInt .i64) 3 p32 c33 l31] ++ F0) rfl (aw_next (fun w hs => sat_pulls [0, 0, 0] (G := [] ++ F0) rfl hs) ?_)
      obtain ⟨r45, h46, hF⟩ := bind_some hF
      refine aw_only 7 (m' := 3839) (by kernel_rfl) (by kernel_rfl) (pw_call (F := [own (eInt .i64) 3 r21_p1 r21_c2 r21, own (eInt .i64) 3 p32 c33 l31] ++ F0) rfl rfl rfl rfl rfl rfl rfl (by kernel_rfl) (perm_of_pulls [0] rfl) (c_ref02_turn _ _ _ r45 h46) ?_)
      rintro _ _ ⟨rfl, rfl⟩
      refine nw_H (H' := [imm I, own (eInt .i64) 3 r21_p1 r21_c2 r21, own (eInt .i64) 3 p32 c33 l31] ++ F0) rfl (aw_next (fun w hs => sat_pulls [0, 0, 0] (G := [] ++ F0) rfl hs) ?_)
      refine aw_vals [8] (f' := 3) (m' := 4095) [0, 1, 7, 8, 9, 34, 37] [(0, .slice p0 x0.length c0), (1, .slice p1 x1.length c1), (7, .slice r21_p1 r21.length r21_c2), (8, .slice p32 l31.length c33), (9, .int .i64 x35), (34, .int .i64 (ixor .i64 r43 r45)), (37, .int .i64 y41)] (fun _ _ _ _ _ h => calm_fin (P := Try.prog) (fn := Try.f18) _ _ _ _ _ h) (fun w hs => sat_pulls [0, 0, 0] (G := [] ++ F0) rfl hs) rfl (by kernel_rfl) ?_
      obtain ⟨r47, h48, hF⟩ := bind_some hF
      refine aw_only 12 (m' := 8191) (by kernel_rfl) (by kernel_rfl) (pw_call (F := [own (eInt .i64) 3 r21_p1 r21_c2 r21, own (eInt .i64) 3 p32 c33 l31] ++ F0) rfl rfl rfl rfl rfl rfl rfl (by kernel_rfl) (perm_of_pulls [0] rfl) (c_ref02_turn _ _ _ r47 h48) ?_)
      rintro _ _ ⟨rfl, rfl⟩
      refine nw_H (H' := [imm I, own (eInt .i64) 3 r21_p1 r21_c2 r21, own (eInt .i64) 3 p32 c33 l31] ++ F0) rfl (aw_next (fun w hs => sat_pulls [0, 0, 0] (G := [] ++ F0) rfl hs) ?_)
      refine aw_vals [13, 14] (f' := 0) (m' := 32767) [0, 1, 7, 8, 9, 10] [(0, .slice p0 x0.length c0), (1, .slice p1 x1.length c1), (7, .slice r21_p1 r21.length r21_c2), (8, .slice p32 l31.length c33), (9, .int .i64 x35), (10, .int .i64 (ixor .i64 (ixor .i64 r43 r45) r47))] (fun _ _ _ _ _ h => calm_fin (P := Try.prog) (fn := Try.f18) _ _ _ _ _ h) (fun w hs => sat_pulls [0, 0, 0] (G := [] ++ F0) rfl hs) rfl (by kernel_rfl) ?_
      refine aw_keep [0, 1, 7, 8, 9, 10] (L' := [(0, .slice p0 x0.length c0), (1, .slice p1 x1.length c1), (7, .slice r21_p1 r21.length r21_c2), (8, .slice p32 l31.length c33), (9, .int .i64 x35), (10, .int .i64 (ixor .i64 (ixor .i64 r43 r45) r47))]) rfl ?_
      refine aw_end (by kernel_rfl) ?_
      refine ew_then ?_
      refine cw_seq ?_
      refine cw_open 17 (SAT w0 ([imm I, own (eInt .i64) 3 r21_p1 r21_c2 r21, own (eInt .i64) 3 p32 c33 l31])) (by kernel_rfl) (f := 17) rfl (fun w hs => sat_drew hs) ?_
      refine aw_vals [0, 3, 7, 11] (f' := 13) (m' := 2185) [0, 1, 7, 8, 9, 10, 40, 43, 47, 51] [(0, .slice p0 x0.length c0), (1, .slice p1 x1.length c1), (7, .slice r21_p1 r21.length r21_c2), (8, .slice p32 l31.length c33), (9, .int .i64 x35), (10, .int .i64 (ixor .i64 (ixor .i64 r43 r45) r47)), (40, .slice p32 l31.length c33), (43, .slice p32 l31.length c33), (47, .slice p32 l31.length c33), (51, .slice p32 l31.length c33)] (fun _ _ _ _ _ h => calm_fin (P := Try.prog) (fn := Try.f18) _ _ _ _ _ h) (fun w hs => sat_pulls [0, 0, 0] (G := [] ++ F0) rfl hs) rfl (by kernel_rfl) ?_
      obtain ⟨y49, h50, hF⟩ := bind_some hF
      refine aw_quiet 1 (m' := 2187) (v := .pointer (some ((base p32).add ((4 : Int).toNat * 1)))) 0 [] rfl rfl rfl rfl (by kernel_rfl) (by kernel_rfl) (by kernel_rfl) (fun _ _ _ _ _ h => calm_fin (P := Try.prog) (fn := Try.f18) _ _ _ _ _ h) (fun w hs => sat_pulls [0, 0, 0] (G := [] ++ F0) rfl hs) (q_index_own 2 1 rfl rfl (by kernel_rfl) rfl rfl (at_some h50).1 (at_lt h50)) ?_
      refine aw_quiet 2 (m' := 2191) (v := .int .i64 y49) 0 [] rfl rfl rfl rfl (by kernel_rfl) (by kernel_rfl) (by kernel_rfl) (fun _ _ _ _ _ h => calm_fin (P := Try.prog) (fn := Try.f18) _ _ _ _ _ h) (fun w hs => sat_pulls [0, 0, 0] (G := [] ++ F0) rfl hs) (q_load_own0 2 1 rfl rfl rfl rfl (at_some h50).2 (by kernel_rfl)) ?_
      obtain ⟨y51, h52, hF⟩ := bind_some hF
      refine aw_quiet 4 (m' := 2207) (v := .pointer (some ((base p32).add ((5 : Int).toNat * 1)))) 0 [] rfl rfl rfl rfl (by kernel_rfl) (by kernel_rfl) (by kernel_rfl) (fun _ _ _ _ _ h => calm_fin (P := Try.prog) (fn := Try.f18) _ _ _ _ _ h) (fun w hs => sat_pulls [0, 0, 0] (G := [] ++ F0) rfl hs) (q_index_own 2 1 rfl rfl (by kernel_rfl) rfl rfl (at_some h52).1 (at_lt h52)) ?_
      refine aw_quiet 5 (m' := 2239) (v := .int .i64 y51) 0 [] rfl rfl rfl rfl (by kernel_rfl) (by kernel_rfl) (by kernel_rfl) (fun _ _ _ _ _ h => calm_fin (P := Try.prog) (fn := Try.f18) _ _ _ _ _ h) (fun w hs => sat_pulls [0, 0, 0] (G := [] ++ F0) rfl hs) (q_load_own0 2 1 rfl rfl rfl rfl (at_some h52).2 (by kernel_rfl)) ?_
      refine aw_vals [6] (f' := 8) (m' := 2303) [0, 1, 7, 8, 9, 10, 46, 47, 51] [(0, .slice p0 x0.length c0), (1, .slice p1 x1.length c1), (7, .slice r21_p1 r21.length r21_c2), (8, .slice p32 l31.length c33), (9, .int .i64 x35), (10, .int .i64 (ixor .i64 (ixor .i64 r43 r45) r47)), (46, .int .i64 (iand .i64 y49 y51)), (47, .slice p32 l31.length c33), (51, .slice p32 l31.length c33)] (fun _ _ _ _ _ h => calm_fin (P := Try.prog) (fn := Try.f18) _ _ _ _ _ h) (fun w hs => sat_pulls [0, 0, 0] (G := [] ++ F0) rfl hs) rfl (by kernel_rfl) ?_
      obtain ⟨y53, h54, hF⟩ := bind_some hF
      refine aw_quiet 8 (m' := 2559) (v := .pointer (some ((base p32).add ((4 : Int).toNat * 1)))) 0 [] rfl rfl rfl rfl (by kernel_rfl) (by kernel_rfl) (by kernel_rfl) (fun _ _ _ _ _ h => calm_fin (P := Try.prog) (fn := Try.f18) _ _ _ _ _ h) (fun w hs => sat_pulls [0, 0, 0] (G := [] ++ F0) rfl hs) (q_index_own 2 1 rfl rfl (by kernel_rfl) rfl rfl (at_some h54).1 (at_lt h54)) ?_
      refine aw_quiet 9 (m' := 3071) (v := .int .i64 y53) 0 [] rfl rfl rfl rfl (by kernel_rfl) (by kernel_rfl) (by kernel_rfl) (fun _ _ _ _ _ h => calm_fin (P := Try.prog) (fn := Try.f18) _ _ _ _ _ h) (fun w hs => sat_pulls [0, 0, 0] (G := [] ++ F0) rfl hs) (q_load_own0 2 1 rfl rfl rfl rfl (at_some h54).2 (by kernel_rfl)) ?_
      refine aw_vals [10] (f' := 5) (m' := 4095) [0, 1, 7, 8, 9, 10, 46, 50, 51] [(0, .slice p0 x0.length c0), (1, .slice p1 x1.length c1), (7, .slice r21_p1 r21.length r21_c2), (8, .slice p32 l31.length c33), (9, .int .i64 x35), (10, .int .i64 (ixor .i64 (ixor .i64 r43 r45) r47)), (46, .int .i64 (iand .i64 y49 y51)), (50, .int .i64 (IntKind.i64.wrap (4294967295 - y53))), (51, .slice p32 l31.length c33)] (fun _ _ _ _ _ h => calm_fin (P := Try.prog) (fn := Try.f18) _ _ _ _ _ h) (fun w hs => sat_pulls [0, 0, 0] (G := [] ++ F0) rfl hs) rfl (by kernel_rfl) ?_
      obtain ⟨y55, h56, hF⟩ := bind_some hF
      refine aw_quiet 12 (m' := 8191) (v := .pointer (some ((base p32).add ((6 : Int).toNat * 1)))) 0 [] rfl rfl rfl rfl (by kernel_rfl) (by kernel_rfl) (by kernel_rfl) (fun _ _ _ _ _ h => calm_fin (P := Try.prog) (fn := Try.f18) _ _ _ _ _ h) (fun w hs => sat_pulls [0, 0, 0] (G := [] ++ F0) rfl hs) (q_index_own 2 1 rfl rfl (by kernel_rfl) rfl rfl (at_some h56).1 (at_lt h56)) ?_
      refine aw_quiet 13 (m' := 16383) (v := .int .i64 y55) 0 [] rfl rfl rfl rfl (by kernel_rfl) (by kernel_rfl) (by kernel_rfl) (fun _ _ _ _ _ h => calm_fin (P := Try.prog) (fn := Try.f18) _ _ _ _ _ h) (fun w hs => sat_pulls [0, 0, 0] (G := [] ++ F0) rfl hs) (q_load_own0 2 1 rfl rfl rfl rfl (at_some h56).2 (by kernel_rfl)) ?_
      refine aw_vals [14, 15, 16] (f' := 0) (m' := 131071) [0, 1, 7, 8, 9, 10, 11] [(0, .slice p0 x0.length c0), (1, .slice p1 x1.length c1), (7, .slice r21_p1 r21.length r21_c2), (8, .slice p32 l31.length c33), (9, .int .i64 x35), (10, .int .i64 (ixor .i64 (ixor .i64 r43 r45) r47)), (11, .int .i64 (ixor .i64 (iand .i64 y49 y51) (iand .i64 (IntKind.i64.wrap (4294967295 - y53)) y55)))] (fun _ _ _ _ _ h => calm_fin (P := Try.prog) (fn := Try.f18) _ _ _ _ _ h) (fun w hs => sat_pulls [0, 0, 0] (G := [] ++ F0) rfl hs) rfl (by kernel_rfl) ?_
      refine aw_keep [0, 1, 7, 8, 9, 10, 11] (L' := [(0, .slice p0 x0.length c0), (1, .slice p1 x1.length c1), (7, .slice r21_p1 r21.length r21_c2), (8, .slice p32 l31.length c33), (9, .int .i64 x35), (10, .int .i64 (ixor .i64 (ixor .i64 r43 r45) r47)), (11, .int .i64 (ixor .i64 (iand .i64 y49 y51) (iand .i64 (IntKind.i64.wrap (4294967295 - y53)) y55)))]) rfl ?_
      refine aw_end (by kernel_rfl) ?_
      refine ew_then ?_
      refine cw_seq ?_
      refine cw_open 18 (SAT w0 ([imm I, own (eInt .i64) 3 r21_p1 r21_c2 r21, own (eInt .i64) 3 p32 c33 l31])) (by kernel_rfl) (f := 18) rfl (fun w hs => sat_drew hs) ?_
      refine aw_vals [0, 3, 5, 7, 8, 12, 13] (f' := 11) (m' := 12713) [0, 1, 7, 8, 9, 56, 59, 61, 63, 64, 68, 69] [(0, .slice p0 x0.length c0), (1, .slice p1 x1.length c1), (7, .slice r21_p1 r21.length r21_c2), (8, .slice p32 l31.length c33), (9, .int .i64 x35), (56, .slice p32 l31.length c33), (59, .int .i64 (ixor .i64 (ixor .i64 r43 r45) r47)), (61, .int .i64 (ixor .i64 (iand .i64 y49 y51) (iand .i64 (IntKind.i64.wrap (4294967295 - y53)) y55))), (63, .slice p1 x1.length c1), (64, .int .i64 x35), (68, .slice r21_p1 r21.length r21_c2), (69, .int .i64 x35)] (fun _ _ _ _ _ h => calm_fin (P := Try.prog) (fn := Try.f18) _ _ _ _ _ h) (fun w hs => sat_pulls [0, 0, 0] (G := [] ++ F0) rfl hs) rfl (by kernel_rfl) ?_
      obtain ⟨y57, h58, hF⟩ := bind_some hF
      refine aw_quiet 1 (m' := 12715) (v := .pointer (some ((base p32).add ((7 : Int).toNat * 1)))) 0 [] rfl rfl rfl rfl (by kernel_rfl) (by kernel_rfl) (by kernel_rfl) (fun _ _ _ _ _ h => calm_fin (P := Try.prog) (fn := Try.f18) _ _ _ _ _ h) (fun w hs => sat_pulls [0, 0, 0] (G := [] ++ F0) rfl hs) (q_index_own 2 1 rfl rfl (by kernel_rfl) rfl rfl (at_some h58).1 (at_lt h58)) ?_
      refine aw_quiet 2 (m' := 12719) (v := .int .i64 y57) 0 [] rfl rfl rfl rfl (by kernel_rfl) (by kernel_rfl) (by kernel_rfl) (fun _ _ _ _ _ h => calm_fin (P := Try.prog) (fn := Try.f18) _ _ _ _ _ h) (fun w hs => sat_pulls [0, 0, 0] (G := [] ++ F0) rfl hs) (q_load_own0 2 1 rfl rfl rfl rfl (at_some h58).2 (by kernel_rfl)) ?_
      refine aw_vals [4, 6] (f' := 7) (m' := 12799) [0, 1, 7, 8, 9, 62, 63, 64, 68, 69] [(0, .slice p0 x0.length c0), (1, .slice p1 x1.length c1), (7, .slice r21_p1 r21.length r21_c2), (8, .slice p32 l31.length c33), (9, .int .i64 x35), (62, .int .i64 (IntKind.i64.wrap ((IntKind.i64.wrap (y57 + (ixor .i64 (ixor .i64 r43 r45) r47))) + (ixor .i64 (iand .i64 y49 y51) (iand .i64 (IntKind.i64.wrap (4294967295 - y53)) y55))))), (63, .slice p1 x1.length c1), (64, .int .i64 x35), (68, .slice r21_p1 r21.length r21_c2), (69, .int .i64 x35)] (fun _ _ _ _ _ h => calm_fin (P := Try.prog) (fn := Try.f18) _ _ _ _ _ h) (fun w hs => sat_pulls [0, 0, 0] (G := [] ++ F0) rfl hs) rfl (by kernel_rfl) ?_
      obtain ⟨y59, h60, hF⟩ := bind_some hF
      refine aw_index_ro (E := 3) 9 (m' := 13311) 1 hr1 rfl rfl rfl rfl rfl (by kernel_rfl) (by kernel_rfl) (fun _ _ _ _ _ h => calm_fin (P := Try.prog) (fn := Try.f18) _ _ _ _ _ h) (fun w hs => sat_pulls [0, 0, 0] (G := [] ++ F0) rfl hs) (by kernel_rfl) rfl rfl rfl h60 fun q61 h62 => ?_
      refine aw_quiet 10 (m' := 14335) (v := .int .i64 y59) 0 [] rfl rfl rfl rfl (by kernel_rfl) (by kernel_rfl) (by kernel_rfl) (fun _ _ _ _ _ h => calm_fin (P := Try.prog) (fn := Try.f18) _ _ _ _ _ h) (fun w hs => sat_pulls [0, 0, 0] (G := [] ++ F0) rfl hs) (q_load_el0 0 rfl h62 rfl rfl (by kernel_rfl)) ?_
      refine aw_vals [11] (f' := 4) (m' := 16383) [0, 1, 7, 8, 9, 67, 68, 69] [(0, .slice p0 x0.length c0), (1, .slice p1 x1.length c1), (7, .slice r21_p1 r21.length r21_c2), (8, .slice p32 l31.length c33), (9, .int .i64 x35), (67, .int .i64 (IntKind.i64.wrap ((IntKind.i64.wrap ((IntKind.i64.wrap (y57 + (ixor .i64 (ixor .i64 r43 r45) r47))) + (ixor .i64 (iand .i64 y49 y51) (iand .i64 (IntKind.i64.wrap (4294967295 - y53)) y55)))) + y59))), (68, .slice r21_p1 r21.length r21_c2), (69, .int .i64 x35)] (fun _ _ _ _ _ h => calm_fin (P := Try.prog) (fn := Try.f18) _ _ _ _ _ h) (fun w hs => sat_pulls [0, 0, 0] (G := [] ++ F0) rfl hs) rfl (by kernel_rfl) ?_
      obtain ⟨y63, h64, hF⟩ := bind_some hF
      refine aw_quiet 14 (m' := 32767) (v := .pointer (some ((base r21_p1).add (x35.toNat * 1)))) 0 [] rfl rfl rfl rfl (by kernel_rfl) (by kernel_rfl) (by kernel_rfl) (fun _ _ _ _ _ h => calm_fin (P := Try.prog) (fn := Try.f18) _ _ _ _ _ h) (fun w hs => sat_pulls [0, 0, 0] (G := [] ++ F0) rfl hs) (q_index_own 1 1 rfl rfl (by kernel_rfl) rfl rfl (at_some h64).1 (at_lt h64)) ?_
      refine aw_quiet 15 (m' := 65535) (v := .int .i64 y63) 0 [] rfl rfl rfl rfl (by kernel_rfl) (by kernel_rfl) (by kernel_rfl) (fun _ _ _ _ _ h => calm_fin (P := Try.prog) (fn := Try.f18) _ _ _ _ _ h) (fun w hs => sat_pulls [0, 0, 0] (G := [] ++ F0) rfl hs) (q_load_own0 1 1 rfl rfl rfl rfl (at_some h64).2 (by kernel_rfl)) ?_
      refine aw_vals [16, 17] (f' := 0) (m' := 262143) [0, 1, 7, 8, 9, 12] [(0, .slice p0 x0.length c0), (1, .slice p1 x1.length c1), (7, .slice r21_p1 r21.length r21_c2), (8, .slice p32 l31.length c33), (9, .int .i64 x35), (12, .int .i64 (IntKind.i64.wrap ((IntKind.i64.wrap ((IntKind.i64.wrap ((IntKind.i64.wrap (y57 + (ixor .i64 (ixor .i64 r43 r45) r47))) + (ixor .i64 (iand .i64 y49 y51) (iand .i64 (IntKind.i64.wrap (4294967295 - y53)) y55)))) + y59)) + y63)))] (fun _ _ _ _ _ h => calm_fin (P := Try.prog) (fn := Try.f18) _ _ _ _ _ h) (fun w hs => sat_pulls [0, 0, 0] (G := [] ++ F0) rfl hs) rfl (by kernel_rfl) ?_
      refine aw_keep [0, 1, 7, 8, 9, 12] (L' := [(0, .slice p0 x0.length c0), (1, .slice p1 x1.length c1), (7, .slice r21_p1 r21.length r21_c2), (8, .slice p32 l31.length c33), (9, .int .i64 x35), (12, .int .i64 (IntKind.i64.wrap ((IntKind.i64.wrap ((IntKind.i64.wrap ((IntKind.i64.wrap (y57 + (ixor .i64 (ixor .i64 r43 r45) r47))) + (ixor .i64 (iand .i64 y49 y51) (iand .i64 (IntKind.i64.wrap (4294967295 - y53)) y55)))) + y59)) + y63)))]) rfl ?_
      refine aw_end (by kernel_rfl) ?_
      refine ew_then ?_
      refine cw_seq ?_
      refine cw_open 15 (SAT w0 ([imm I, own (eInt .i64) 3 r21_p1 r21_c2 r21, own (eInt .i64) 3 p32 c33 l31])) (by kernel_rfl) (f := 15) rfl (fun w hs => sat_drew hs) ?_
      refine aw_vals [0, 4, 9] (f' := 12) (m' := 529) [0, 1, 7, 8, 9, 12, 73, 77, 82] [(0, .slice p0 x0.length c0), (1, .slice p1 x1.length c1), (7, .slice r21_p1 r21.length r21_c2), (8, .slice p32 l31.length c33), (9, .int .i64 x35), (12, .int .i64 (IntKind.i64.wrap ((IntKind.i64.wrap ((IntKind.i64.wrap ((IntKind.i64.wrap (y57 + (ixor .i64 (ixor .i64 r43 r45) r47))) + (ixor .i64 (iand .i64 y49 y51) (iand .i64 (IntKind.i64.wrap (4294967295 - y53)) y55)))) + y59)) + y63))), (73, .slice p32 l31.length c33), (77, .slice p32 l31.length c33), (82, .slice p32 l31.length c33)] (fun _ _ _ _ _ h => calm_fin (P := Try.prog) (fn := Try.f18) _ _ _ _ _ h) (fun w hs => sat_pulls [0, 0, 0] (G := [] ++ F0) rfl hs) rfl (by kernel_rfl) ?_
      obtain ⟨y65, h66, hF⟩ := bind_some hF
      refine aw_quiet 1 (m' := 531) (v := .pointer (some ((base p32).add ((0 : Int).toNat * 1)))) 0 [] rfl rfl rfl rfl (by kernel_rfl) (by kernel_rfl) (by kernel_rfl) (fun _ _ _ _ _ h => calm_fin (P := Try.prog) (fn := Try.f18) _ _ _ _ _ h) (fun w hs => sat_pulls [0, 0, 0] (G := [] ++ F0) rfl hs) (q_index_own 2 1 rfl rfl (by kernel_rfl) rfl rfl (at_some h66).1 (at_lt h66)) ?_
      refine aw_quiet 2 (m' := 535) (v := .int .i64 y65) 0 [] rfl rfl rfl rfl (by kernel_rfl) (by kernel_rfl) (by kernel_rfl) (fun _ _ _ _ _ h => calm_fin (P := Try.prog) (fn := Try.f18) _ _ _ _ _ h) (fun w hs => sat_pulls [0, 0, 0] (G := [] ++ F0) rfl hs) (q_load_own0 2 1 rfl rfl rfl rfl (at_some h66).2 (by kernel_rfl)) ?_
      obtain ⟨y67, h68, hF⟩ := bind_some hF
      refine aw_quiet 5 (m' := 567) (v := .pointer (some ((base p32).add ((0 : Int).toNat * 1)))) 0 [] rfl rfl rfl rfl (by kernel_rfl) (by kernel_rfl) (by kernel_rfl) (fun _ _ _ _ _ h => calm_fin (P := Try.prog) (fn := Try.f18) _ _ _ _ _ h) (fun w hs => sat_pulls [0, 0, 0] (G := [] ++ F0) rfl hs) (q_index_own 2 1 rfl rfl (by kernel_rfl) rfl rfl (at_some h68).1 (at_lt h68)) ?_
      refine aw_quiet 6 (m' := 631) (v := .int .i64 y67) 0 [] rfl rfl rfl rfl (by kernel_rfl) (by kernel_rfl) (by kernel_rfl) (fun _ _ _ _ _ h => calm_fin (P := Try.prog) (fn := Try.f18) _ _ _ _ _ h) (fun w hs => sat_pulls [0, 0, 0] (G := [] ++ F0) rfl hs) (q_load_own0 2 1 rfl rfl rfl rfl (at_some h68).2 (by kernel_rfl)) ?_
      obtain ⟨y69, h70, hF⟩ := bind_some hF
      refine aw_quiet 10 (m' := 1655) (v := .pointer (some ((base p32).add ((0 : Int).toNat * 1)))) 0 [] rfl rfl rfl rfl (by kernel_rfl) (by kernel_rfl) (by kernel_rfl) (fun _ _ _ _ _ h => calm_fin (P := Try.prog) (fn := Try.f18) _ _ _ _ _ h) (fun w hs => sat_pulls [0, 0, 0] (G := [] ++ F0) rfl hs) (q_index_own 2 1 rfl rfl (by kernel_rfl) rfl rfl (at_some h70).1 (at_lt h70)) ?_
      refine aw_quiet 11 (m' := 3703) (v := .int .i64 y69) 0 [] rfl rfl rfl rfl (by kernel_rfl) (by kernel_rfl) (by kernel_rfl) (fun _ _ _ _ _ h => calm_fin (P := Try.prog) (fn := Try.f18) _ _ _ _ _ h) (fun w hs => sat_pulls [0, 0, 0] (G := [] ++ F0) rfl hs) (q_load_own0 2 1 rfl rfl rfl rfl (at_some h70).2 (by kernel_rfl)) ?_
      obtain ⟨r71, h72, hF⟩ := bind_some hF
      refine aw_only 3 (m' := 3711) (by kernel_rfl) (by kernel_rfl) (pw_call (F := [own (eInt .i64) 3 r21_p1 r21_c2 r21, own (eInt .i64) 3 p32 c33 l31] ++ F0) rfl rfl rfl rfl rfl rfl rfl (by kernel_rfl) (perm_of_pulls [0] rfl) (c_ref02_turn _ _ _ r71 h72) ?_)
      rintro _ _ ⟨rfl, rfl⟩
      refine nw_H (H' := [imm I, own (eInt .i64) 3 r21_p1 r21_c2 r21, own (eInt .i64) 3 p32 c33 l31] ++ F0) rfl (aw_next (fun w hs => sat_pulls [0, 0, 0] (G := [] ++ F0) rfl hs) ?_)
      obtain ⟨r73, h74, hF⟩ := bind_some hF
      refine aw_only 7 (m' := 3839) (by kernel_rfl) (by kernel_rfl) (pw_call (F := [own (eInt .i64) 3 r21_p1 r21_c2 r21, own (eInt .i64) 3 p32 c33 l31] ++ F0) rfl rfl rfl rfl rfl rfl rfl (by kernel_rfl) (perm_of_pulls [0] rfl) (c_ref02_turn _ _ _ r73 h74) ?_)
      rintro _ _ ⟨rfl, rfl⟩
      refine nw_H (H' := [imm I, own (eInt .i64) 3 r21_p1 r21_c2 r21, own (eInt .i64) 3 p32 c33 l31] ++ F0) rfl (aw_next (fun w hs => sat_pulls [0, 0, 0] (G := [] ++ F0) rfl hs) ?_)
      refine aw_vals [8] (f' := 3) (m' := 4095) [0, 1, 7, 8, 9, 12, 81, 84] [(0, .slice p0 x0.length c0), (1, .slice p1 x1.length c1), (7, .slice r21_p1 r21.length r21_c2), (8, .slice p32 l31.length c33), (9, .int .i64 x35), (12, .int .i64 (IntKind.i64.wrap ((IntKind.i64.wrap ((IntKind.i64.wrap ((IntKind.i64.wrap (y57 + (ixor .i64 (ixor .i64 r43 r45) r47))) + (ixor .i64 (iand .i64 y49 y51) (iand .i64 (IntKind.i64.wrap (4294967295 - y53)) y55)))) + y59)) + y63))), (81, .int .i64 (ixor .i64 r71 r73)), (84, .int .i64 y69)] (fun _ _ _ _ _ h => calm_fin (P := Try.prog) (fn := Try.f18) _ _ _ _ _ h) (fun w hs => sat_pulls [0, 0, 0] (G := [] ++ F0) rfl hs) rfl (by kernel_rfl) ?_
      obtain ⟨r75, h76, hF⟩ := bind_some hF
      refine aw_only 12 (m' := 8191) (by kernel_rfl) (by kernel_rfl) (pw_call (F := [own (eInt .i64) 3 r21_p1 r21_c2 r21, own (eInt .i64) 3 p32 c33 l31] ++ F0) rfl rfl rfl rfl rfl rfl rfl (by kernel_rfl) (perm_of_pulls [0] rfl) (c_ref02_turn _ _ _ r75 h76) ?_)
      rintro _ _ ⟨rfl, rfl⟩
      refine nw_H (H' := [imm I, own (eInt .i64) 3 r21_p1 r21_c2 r21, own (eInt .i64) 3 p32 c33 l31] ++ F0) rfl (aw_next (fun w hs => sat_pulls [0, 0, 0] (G := [] ++ F0) rfl hs) ?_)
      refine aw_vals [13, 14] (f' := 0) (m' := 32767) [0, 1, 7, 8, 9, 12, 13] [(0, .slice p0 x0.length c0), (1, .slice p1 x1.length c1), (7, .slice r21_p1 r21.length r21_c2), (8, .slice p32 l31.length c33), (9, .int .i64 x35), (12, .int .i64 (IntKind.i64.wrap ((IntKind.i64.wrap ((IntKind.i64.wrap ((IntKind.i64.wrap (y57 + (ixor .i64 (ixor .i64 r43 r45) r47))) + (ixor .i64 (iand .i64 y49 y51) (iand .i64 (IntKind.i64.wrap (4294967295 - y53)) y55)))) + y59)) + y63))), (13, .int .i64 (ixor .i64 (ixor .i64 r71 r73) r75))] (fun _ _ _ _ _ h => calm_fin (P := Try.prog) (fn := Try.f18) _ _ _ _ _ h) (fun w hs => sat_pulls [0, 0, 0] (G := [] ++ F0) rfl hs) rfl (by kernel_rfl) ?_
      refine aw_keep [0, 1, 7, 8, 9, 12, 13] (L' := [(0, .slice p0 x0.length c0), (1, .slice p1 x1.length c1), (7, .slice r21_p1 r21.length r21_c2), (8, .slice p32 l31.length c33), (9, .int .i64 x35), (12, .int .i64 (IntKind.i64.wrap ((IntKind.i64.wrap ((IntKind.i64.wrap ((IntKind.i64.wrap (y57 + (ixor .i64 (ixor .i64 r43 r45) r47))) + (ixor .i64 (iand .i64 y49 y51) (iand .i64 (IntKind.i64.wrap (4294967295 - y53)) y55)))) + y59)) + y63))), (13, .int .i64 (ixor .i64 (ixor .i64 r71 r73) r75))]) rfl ?_
      refine aw_end (by kernel_rfl) ?_
      refine ew_then ?_
      refine cw_seq ?_
      refine cw_open 24 (SAT w0 ([imm I, own (eInt .i64) 3 r21_p1 r21_c2 r21, own (eInt .i64) 3 p32 c33 l31])) (by kernel_rfl) (f := 24) rfl (fun w hs => sat_drew hs) ?_
      refine aw_vals [0, 3, 7, 10, 15, 18] (f' := 18) (m' := 296073) [0, 1, 7, 8, 9, 12, 13, 87, 90, 94, 97, 102, 105] [(0, .slice p0 x0.length c0), (1, .slice p1 x1.length c1), (7, .slice r21_p1 r21.length r21_c2), (8, .slice p32 l31.length c33), (9, .int .i64 x35), (12, .int .i64 (IntKind.i64.wrap ((IntKind.i64.wrap ((IntKind.i64.wrap ((IntKind.i64.wrap (y57 + (ixor .i64 (ixor .i64 r43 r45) r47))) + (ixor .i64 (iand .i64 y49 y51) (iand .i64 (IntKind.i64.wrap (4294967295 - y53)) y55)))) + y59)) + y63))), (13, .int .i64 (ixor .i64 (ixor .i64 r71 r73) r75)), (87, .slice p32 l31.length c33), (90, .slice p32 l31.length c33), (94, .slice p32 l31.length c33), (97, .slice p32 l31.length c33), (102, .slice p32 l31.length c33), (105, .slice p32 l31.length c33)] (fun _ _ _ _ _ h => calm_fin (P := Try.prog) (fn := Try.f18) _ _ _ _ _ h) (fun w hs => sat_pulls [0, 0, 0] (G := [] ++ F0) rfl hs) rfl (by kernel_rfl) ?_
      obtain ⟨y77, h78, hF⟩ := bind_some hF
      refine aw_quiet 1 (m' := 296075) (v := .pointer (some ((base p32).add ((0 : Int).toNat * 1)))) 0 [] rfl rfl rfl rfl (by kernel_rfl) (by kernel_rfl) (by kernel_rfl) (fun _ _ _ _ _ h => calm_fin (P := Try.prog) (fn := Try.f18) _ _ _ _ _ h) (fun w hs => sat_pulls [0, 0, 0] (G := [] ++ F0) rfl hs) (q_index_own 2 1 rfl rfl (by kernel_rfl) rfl rfl (at_some h78).1 (at_lt h78)) ?_
      refine aw_quiet 2 (m' := 296079) (v := .int .i64 y77) 0 [] rfl rfl rfl rfl (by kernel_rfl) (by kernel_rfl) (by kernel_rfl) (fun _ _ _ _ _ h => calm_fin (P := Try.prog) (fn := Try.f18) _ _ _ _ _ h) (fun w hs => sat_pulls [0, 0, 0] (G := [] ++ F0) rfl hs) (q_load_own0 2 1 rfl rfl rfl rfl (at_some h78).2 (by kernel_rfl)) ?_
      obtain ⟨y79, h80, hF⟩ := bind_some hF
      refine aw_quiet 4 (m' := 296095) (v := .pointer (some ((base p32).add ((1 : Int).toNat * 1)))) 0 [] rfl rfl rfl rfl (by kernel_rfl) (by kernel_rfl) (by kernel_rfl) (fun _ _ _ _ _ h => calm_fin (P := Try.prog) (fn := Try.f18) _ _ _ _ _ h) (fun w hs => sat_pulls [0, 0, 0] (G := [] ++ F0) rfl hs) (q_index_own 2 1 rfl rfl (by kernel_rfl) rfl rfl (at_some h80).1 (at_lt h80)) ?_
      refine aw_quiet 5 (m' := 296127) (v := .int .i64 y79) 0 [] rfl rfl rfl rfl (by kernel_rfl) (by kernel_rfl) (by kernel_rfl) (fun _ _ _ _ _ h => calm_fin (P := Try.prog) (fn := Try.f18) _ _ _ _ _ h) (fun w hs => sat_pulls [0, 0, 0] (G := [] ++ F0) rfl hs) (q_load_own0 2 1 rfl rfl rfl rfl (at_some h80).2 (by kernel_rfl)) ?_
      refine aw_vals [6] (f' := 13) (m' := 296191) [0, 1, 7, 8, 9, 12, 13, 93, 94, 97, 102, 105] [(0, .slice p0 x0.length c0), (1, .slice p1 x1.length c1), (7, .slice r21_p1 r21.length r21_c2), (8, .slice p32 l31.length c33), (9, .int .i64 x35), (12, .int .i64 (IntKind.i64.wrap ((IntKind.i64.wrap ((IntKind.i64.wrap ((IntKind.i64.wrap (y57 + (ixor .i64 (ixor .i64 r43 r45) r47))) + (ixor .i64 (iand .i64 y49 y51) (iand .i64 (IntKind.i64.wrap (4294967295 - y53)) y55)))) + y59)) + y63))), (13, .int .i64 (ixor .i64 (ixor .i64 r71 r73) r75)), (93, .int .i64 (iand .i64 y77 y79)), (94, .slice p32 l31.length c33), (97, .slice p32 l31.length c33), (102, .slice p32 l31.length c33), (105, .slice p32 l31.length c33)] (fun _ _ _ _ _ h => calm_fin (P := Try.prog) (fn := Try.f18) _ _ _ _ _ h) (fun w hs => sat_pulls [0, 0, 0] (G := [] ++ F0) rfl hs) rfl (by kernel_rfl) ?_
      obtain ⟨y81, h82, hF⟩ := bind_some hF
      refine aw_quiet 8 (m' := 296447) (v := .pointer (some ((base p32).add ((0 : Int).toNat * 1)))) 0 [] rfl rfl rfl rfl (by kernel_rfl) (by kernel_rfl) (by kernel_rfl) (fun _ _ _ _ _ h => calm_fin (P := Try.prog) (fn := Try.f18) _ _ _ _ _ h) (fun w hs => sat_pulls [0, 0, 0] (G := [] ++ F0) rfl hs) (q_index_own 2 1 rfl rfl (by kernel_rfl) rfl rfl (at_some h82).1 (at_lt h82)) ?_
      refine aw_quiet 9 (m' := 296959) (v := .int .i64 y81) 0 [] rfl rfl rfl rfl (by kernel_rfl) (by kernel_rfl) (by kernel_rfl) (fun _ _ _ _ _ h => calm_fin (P := Try.prog) (fn := Try.f18) _ _ _ _ _ h) (fun w hs => sat_pulls [0, 0, 0] (G := [] ++ F0) rfl hs) (q_load_own0 2 1 rfl rfl rfl rfl (at_some h82).2 (by kernel_rfl)) ?_
      obtain ⟨y83, h84, hF⟩ := bind_some hF
      refine aw_quiet 11 (m' := 299007) (v := .pointer (some ((base p32).add ((2 : Int).toNat * 1)))) 0 [] rfl rfl rfl rfl (by kernel_rfl) (by kernel_rfl) (by kernel_rfl) (fun _ _ _ _ _ h => calm_fin (P := Try.prog) (fn := Try.f18) _ _ _ _ _ h) (fun w hs => sat_pulls [0, 0, 0] (G := [] ++ F0) rfl hs) (q_index_own 2 1 rfl rfl (by kernel_rfl) rfl rfl (at_some h84).1 (at_lt h84)) ?_
      refine aw_quiet 12 (m' := 303103) (v := .int .i64 y83) 0 [] rfl rfl rfl rfl (by kernel_rfl) (by kernel_rfl) (by kernel_rfl) (fun _ _ _ _ _ h => calm_fin (P := Try.prog) (fn := Try.f18) _ _ _ _ _ h) (fun w hs => sat_pulls [0, 0, 0] (G := [] ++ F0) rfl hs) (q_load_own0 2 1 rfl rfl rfl rfl (at_some h84).2 (by kernel_rfl)) ?_
      refine aw_vals [13, 14] (f' := 7) (m' := 327679) [0, 1, 7, 8, 9, 12, 13, 101, 102, 105] [(0, .slice p0 x0.length c0), (1, .slice p1 x1.length c1), (7, .slice r21_p1 r21.length r21_c2), (8, .slice p32 l31.length c33), (9, .int .i64 x35), (12, .int .i64 (IntKind.i64.wrap ((IntKind.i64.wrap ((IntKind.i64.wrap ((IntKind.i64.wrap (y57 + (ixor .i64 (ixor .i64 r43 r45) r47))) + (ixor .i64 (iand .i64 y49 y51) (iand .i64 (IntKind.i64.wrap (4294967295 - y53)) y55)))) + y59)) + y63))), (13, .int .i64 (ixor .i64 (ixor .i64 r71 r73) r75)), (101, .int .i64 (ixor .i64 (iand .i64 y77 y79) (iand .i64 y81 y83))), (102, .slice p32 l31.length c33), (105, .slice p32 l31.length c33)] (fun _ _ _ _ _ h => calm_fin (P := Try.prog) (fn := Try.f18) _ _ _ _ _ h) (fun w hs => sat_pulls [0, 0, 0] (G := [] ++ F0) rfl hs) rfl (by kernel_rfl) ?_
      obtain ⟨y85, h86, hF⟩ := bind_some hF
      refine aw_quiet 16 (m' := 393215) (v := .pointer (some ((base p32).add ((1 : Int).toNat * 1)))) 0 [] rfl rfl rfl rfl (by kernel_rfl) (by kernel_rfl) (by kernel_rfl) (fun _ _ _ _ _ h => calm_fin (P := Try.prog) (fn := Try.f18) _ _ _ _ _ h) (fun w hs => sat_pulls [0, 0, 0] (G := [] ++ F0) rfl hs) (q_index_own 2 1 rfl rfl (by kernel_rfl) rfl rfl (at_some h86).1 (at_lt h86)) ?_
      refine aw_quiet 17 (m' := 524287) (v := .int .i64 y85) 0 [] rfl rfl rfl rfl (by kernel_rfl) (by kernel_rfl) (by kernel_rfl) (fun _ _ _ _ _ h => calm_fin (P := Try.prog) (fn := Try.f18) _ _ _ _ _ h) (fun w hs => sat_pulls [0, 0, 0] (G := [] ++ F0) rfl hs) (q_load_own0 2 1 rfl rfl rfl rfl (at_some h86).2 (by kernel_rfl)) ?_
      obtain ⟨y87, h88, hF⟩ := bind_some hF
      refine aw_quiet 19 (m' := 1048575) (v := .pointer (some ((base p32).add ((2 : Int).toNat * 1)))) 0 [] rfl rfl rfl rfl (by kernel_rfl) (by kernel_rfl) (by kernel_rfl) (fun _ _ _ _ _ h => calm_fin (P := Try.prog) (fn := Try.f18) _ _ _ _ _ h) (fun w hs => sat_pulls [0, 0, 0] (G := [] ++ F0) rfl hs) (q_index_own 2 1 rfl rfl (by kernel_rfl) rfl rfl (at_some h88).1 (at_lt h88)) ?_
      refine aw_quiet 20 (m' := 2097151) (v := .int .i64 y87) 0 [] rfl rfl rfl rfl (by kernel_rfl) (by kernel_rfl) (by kernel_rfl) (fun _ _ _ _ _ h => calm_fin (P := Try.prog) (fn := Try.f18) _ _ _ _ _ h) (fun w hs => sat_pulls [0, 0, 0] (G := [] ++ F0) rfl hs) (q_load_own0 2 1 rfl rfl rfl rfl (at_some h88).2 (by kernel_rfl)) ?_
      refine aw_vals [21, 22, 23] (f' := 0) (m' := 16777215) [0, 1, 7, 8, 9, 12, 13, 14] [(0, .slice p0 x0.length c0), (1, .slice p1 x1.length c1), (7, .slice r21_p1 r21.length r21_c2), (8, .slice p32 l31.length c33), (9, .int .i64 x35), (12, .int .i64 (IntKind.i64.wrap ((IntKind.i64.wrap ((IntKind.i64.wrap ((IntKind.i64.wrap (y57 + (ixor .i64 (ixor .i64 r43 r45) r47))) + (ixor .i64 (iand .i64 y49 y51) (iand .i64 (IntKind.i64.wrap (4294967295 - y53)) y55)))) + y59)) + y63))), (13, .int .i64 (ixor .i64 (ixor .i64 r71 r73) r75)), (14, .int .i64 (ixor .i64 (ixor .i64 (iand .i64 y77 y79) (iand .i64 y81 y83)) (iand .i64 y85 y87)))] (fun _ _ _ _ _ h => calm_fin (P := Try.prog) (fn := Try.f18) _ _ _ _ _ h) (fun w hs => sat_pulls [0, 0, 0] (G := [] ++ F0) rfl hs) rfl (by kernel_rfl) ?_
      refine aw_keep [0, 1, 7, 8, 9, 12, 13, 14] (L' := [(0, .slice p0 x0.length c0), (1, .slice p1 x1.length c1), (7, .slice r21_p1 r21.length r21_c2), (8, .slice p32 l31.length c33), (9, .int .i64 x35), (12, .int .i64 (IntKind.i64.wrap ((IntKind.i64.wrap ((IntKind.i64.wrap ((IntKind.i64.wrap (y57 + (ixor .i64 (ixor .i64 r43 r45) r47))) + (ixor .i64 (iand .i64 y49 y51) (iand .i64 (IntKind.i64.wrap (4294967295 - y53)) y55)))) + y59)) + y63))), (13, .int .i64 (ixor .i64 (ixor .i64 r71 r73) r75)), (14, .int .i64 (ixor .i64 (ixor .i64 (iand .i64 y77 y79) (iand .i64 y81 y83)) (iand .i64 y85 y87)))]) rfl ?_
      refine aw_end (by kernel_rfl) ?_
      refine ew_then ?_
      refine cw_open 32 (SAT w0 ([imm I, own (eInt .i64) 3 r21_p1 r21_c2 r21, own (eInt .i64) 3 p32 c33 l31])) (by kernel_rfl) (f := 32) rfl (fun w hs => sat_drew hs) ?_
      refine aw_vals [0, 1, 2, 3, 4, 5, 6, 9, 12, 15, 18, 21, 24, 27] (f' := 18) (m' := 153391743) [0, 1, 7, 8, 9, 115, 116, 119, 122, 125, 128, 131, 134, 137] [(0, .slice p0 x0.length c0), (1, .slice p1 x1.length c1), (7, .slice r21_p1 r21.length r21_c2), (8, .slice p32 l31.length c33), (9, .int .i64 x35), (115, .int .i64 ((IntKind.i64.wrap ((IntKind.i64.wrap ((IntKind.i64.wrap ((IntKind.i64.wrap ((IntKind.i64.wrap ((IntKind.i64.wrap (y57 + (ixor .i64 (ixor .i64 r43 r45) r47))) + (ixor .i64 (iand .i64 y49 y51) (iand .i64 (IntKind.i64.wrap (4294967295 - y53)) y55)))) + y59)) + y63)) + (ixor .i64 (ixor .i64 r71 r73) r75))) + (ixor .i64 (ixor .i64 (iand .i64 y77 y79) (iand .i64 y81 y83)) (iand .i64 y85 y87)))).tmod 4294967296)), (116, .slice p32 l31.length c33), (119, .slice p32 l31.length c33), (122, .slice p32 l31.length c33), (125, .slice p32 l31.length c33), (128, .int .i64 (IntKind.i64.wrap ((IntKind.i64.wrap ((IntKind.i64.wrap ((IntKind.i64.wrap (y57 + (ixor .i64 (ixor .i64 r43 r45) r47))) + (ixor .i64 (iand .i64 y49 y51) (iand .i64 (IntKind.i64.wrap (4294967295 - y53)) y55)))) + y59)) + y63))), (131, .slice p32 l31.length c33), (134, .slice p32 l31.length c33), (137, .slice p32 l31.length c33)] (fun _ _ _ _ _ h => calm_fin (P := Try.prog) (fn := Try.f18) _ _ _ _ _ h) (fun w hs => sat_pulls [0, 0, 0] (G := [] ++ F0) rfl hs) rfl (by kernel_rfl) ?_
      obtain ⟨y89, h90, hF⟩ := bind_some hF
      refine aw_quiet 7 (m' := 153391871) (v := .pointer (some ((base p32).add ((0 : Int).toNat * 1)))) 0 [] rfl rfl rfl rfl (by kernel_rfl) (by kernel_rfl) (by kernel_rfl) (fun _ _ _ _ _ h => calm_fin (P := Try.prog) (fn := Try.f18) _ _ _ _ _ h) (fun w hs => sat_pulls [0, 0, 0] (G := [] ++ F0) rfl hs) (q_index_own 2 1 rfl rfl (by kernel_rfl) rfl rfl (at_some h90).1 (at_lt h90)) ?_
      refine aw_quiet 8 (m' := 153392127) (v := .int .i64 y89) 0 [] rfl rfl rfl rfl (by kernel_rfl) (by kernel_rfl) (by kernel_rfl) (fun _ _ _ _ _ h => calm_fin (P := Try.prog) (fn := Try.f18) _ _ _ _ _ h) (fun w hs => sat_pulls [0, 0, 0] (G := [] ++ F0) rfl hs) (q_load_own0 2 1 rfl rfl rfl rfl (at_some h90).2 (by kernel_rfl)) ?_
      obtain ⟨y91, h92, hF⟩ := bind_some hF
      refine aw_quiet 10 (m' := 153393151) (v := .pointer (some ((base p32).add ((1 : Int).toNat * 1)))) 0 [] rfl rfl rfl rfl (by kernel_rfl) (by kernel_rfl) (by kernel_rfl) (fun _ _ _ _ _ h => calm_fin (P := Try.prog) (fn := Try.f18) _ _ _ _ _ h) (fun w hs => sat_pulls [0, 0, 0] (G := [] ++ F0) rfl hs) (q_index_own 2 1 rfl rfl (by kernel_rfl) rfl rfl (at_some h92).1 (at_lt h92)) ?_
      refine aw_quiet 11 (m' := 153395199) (v := .int .i64 y91) 0 [] rfl rfl rfl rfl (by kernel_rfl) (by kernel_rfl) (by kernel_rfl) (fun _ _ _ _ _ h => calm_fin (P := Try.prog) (fn := Try.f18) _ _ _ _ _ h) (fun w hs => sat_pulls [0, 0, 0] (G := [] ++ F0) rfl hs) (q_load_own0 2 1 rfl rfl rfl rfl (at_some h92).2 (by kernel_rfl)) ?_
      obtain ⟨y93, h94, hF⟩ := bind_some hF
      refine aw_quiet 13 (m' := 153403391) (v := .pointer (some ((base p32).add ((2 : Int).toNat * 1)))) 0 [] rfl rfl rfl rfl (by kernel_rfl) (by kernel_rfl) (by kernel_rfl) (fun _ _ _ _ _ h => calm_fin (P := Try.prog) (fn := Try.f18) _ _ _ _ _ h) (fun w hs => sat_pulls [0, 0, 0] (G := [] ++ F0) rfl hs) (q_index_own 2 1 rfl rfl (by kernel_rfl) rfl rfl (at_some h94).1 (at_lt h94)) ?_
      refine aw_quiet 14 (m' := 153419775) (v := .int .i64 y93) 0 [] rfl rfl rfl rfl (by kernel_rfl) (by kernel_rfl) (by kernel_rfl) (fun _ _ _ _ _ h => calm_fin (P := Try.prog) (fn := Try.f18) _ _ _ _ _ h) (fun w hs => sat_pulls [0, 0, 0] (G := [] ++ F0) rfl hs) (q_load_own0 2 1 rfl rfl rfl rfl (at_some h94).2 (by kernel_rfl)) ?_
      obtain ⟨y95, h96, hF⟩ := bind_some hF
      refine aw_quiet 16 (m' := 153485311) (v := .pointer (some ((base p32).add ((3 : Int).toNat * 1)))) 0 [] rfl rfl rfl rfl (by kernel_rfl) (by kernel_rfl) (by kernel_rfl) (fun _ _ _ _ _ h => calm_fin (P := Try.prog) (fn := Try.f18) _ _ _ _ _ h) (fun w hs => sat_pulls [0, 0, 0] (G := [] ++ F0) rfl hs) (q_index_own 2 1 rfl rfl (by kernel_rfl) rfl rfl (at_some h96).1 (at_lt h96)) ?_
      refine aw_quiet 17 (m' := 153616383) (v := .int .i64 y95) 0 [] rfl rfl rfl rfl (by kernel_rfl) (by kernel_rfl) (by kernel_rfl) (fun _ _ _ _ _ h => calm_fin (P := Try.prog) (fn := Try.f18) _ _ _ _ _ h) (fun w hs => sat_pulls [0, 0, 0] (G := [] ++ F0) rfl hs) (q_load_own0 2 1 rfl rfl rfl rfl (at_some h96).2 (by kernel_rfl)) ?_
      refine aw_vals [19, 20] (f' := 8) (m' := 155189247) [0, 1, 7, 8, 9, 115, 118, 121, 124, 130, 131, 134, 137] [(0, .slice p0 x0.length c0), (1, .slice p1 x1.length c1), (7, .slice r21_p1 r21.length r21_c2), (8, .slice p32 l31.length c33), (9, .int .i64 x35), (115, .int .i64 ((IntKind.i64.wrap ((IntKind.i64.wrap ((IntKind.i64.wrap ((IntKind.i64.wrap ((IntKind.i64.wrap ((IntKind.i64.wrap (y57 + (ixor .i64 (ixor .i64 r43 r45) r47))) + (ixor .i64 (iand .i64 y49 y51) (iand .i64 (IntKind.i64.wrap (4294967295 - y53)) y55)))) + y59)) + y63)) + (ixor .i64 (ixor .i64 r71 r73) r75))) + (ixor .i64 (ixor .i64 (iand .i64 y77 y79) (iand .i64 y81 y83)) (iand .i64 y85 y87)))).tmod 4294967296)), (118, .int .i64 y89), (121, .int .i64 y91), (124, .int .i64 y93), (130, .int .i64 ((IntKind.i64.wrap (y95 + (IntKind.i64.wrap ((IntKind.i64.wrap ((IntKind.i64.wrap ((IntKind.i64.wrap (y57 + (ixor .i64 (ixor .i64 r43 r45) r47))) + (ixor .i64 (iand .i64 y49 y51) (iand .i64 (IntKind.i64.wrap (4294967295 - y53)) y55)))) + y59)) + y63)))).tmod 4294967296)), (131, .slice p32 l31.length c33), (134, .slice p32 l31.length c33), (137, .slice p32 l31.length c33)] (fun _ _ _ _ _ h => calm_fin (P := Try.prog) (fn := Try.f18) _ _ _ _ _ h) (fun w hs => sat_pulls [0, 0, 0] (G := [] ++ F0) rfl hs) rfl (by kernel_rfl) ?_
      obtain ⟨y97, h98, hF⟩ := bind_some hF
      refine aw_quiet 22 (m' := 159383551) (v := .pointer (some ((base p32).add ((4 : Int).toNat * 1)))) 0 [] rfl rfl rfl rfl (by kernel_rfl) (by kernel_rfl) (by kernel_rfl) (fun _ _ _ _ _ h => calm_fin (P := Try.prog) (fn := Try.f18) _ _ _ _ _ h) (fun w hs => sat_pulls [0, 0, 0] (G := [] ++ F0) rfl hs) (q_index_own 2 1 rfl rfl (by kernel_rfl) rfl rfl (at_some h98).1 (at_lt h98)) ?_
      refine aw_quiet 23 (m' := 167772159) (v := .int .i64 y97) 0 [] rfl rfl rfl rfl (by kernel_rfl) (by kernel_rfl) (by kernel_rfl) (fun _ _ _ _ _ h => calm_fin (P := Try.prog) (fn := Try.f18) _ _ _ _ _ h) (fun w hs => sat_pulls [0, 0, 0] (G := [] ++ F0) rfl hs) (q_load_own0 2 1 rfl rfl rfl rfl (at_some h98).2 (by kernel_rfl)) ?_
      obtain ⟨y99, h100, hF⟩ := bind_some hF
      refine aw_quiet 25 (m' := 201326591) (v := .pointer (some ((base p32).add ((5 : Int).toNat * 1)))) 0 [] rfl rfl rfl rfl (by kernel_rfl) (by kernel_rfl) (by kernel_rfl) (fun _ _ _ _ _ h => calm_fin (P := Try.prog) (fn := Try.f18) _ _ _ _ _ h) (fun w hs => sat_pulls [0, 0, 0] (G := [] ++ F0) rfl hs) (q_index_own 2 1 rfl rfl (by kernel_rfl) rfl rfl (at_some h100).1 (at_lt h100)) ?_
      refine aw_quiet 26 (m' := 268435455) (v := .int .i64 y99) 0 [] rfl rfl rfl rfl (by kernel_rfl) (by kernel_rfl) (by kernel_rfl) (fun _ _ _ _ _ h => calm_fin (P := Try.prog) (fn := Try.f18) _ _ _ _ _ h) (fun w hs => sat_pulls [0, 0, 0] (G := [] ++ F0) rfl hs) (q_load_own0 2 1 rfl rfl rfl rfl (at_some h100).2 (by kernel_rfl)) ?_
      obtain ⟨y101, h102, hF⟩ := bind_some hF
      refine aw_quiet 28 (m' := 536870911) (v := .pointer (some ((base p32).add ((6 : Int).toNat * 1)))) 0 [] rfl rfl rfl rfl (by kernel_rfl) (by kernel_rfl) (by kernel_rfl) (fun _ _ _ _ _ h => calm_fin (P := Try.prog) (fn := Try.f18) _ _ _ _ _ h) (fun w hs => sat_pulls [0, 0, 0] (G := [] ++ F0) rfl hs) (q_index_own 2 1 rfl rfl (by kernel_rfl) rfl rfl (at_some h102).1 (at_lt h102)) ?_
      refine aw_quiet 29 (m' := 1073741823) (v := .int .i64 y101) 0 [] rfl rfl rfl rfl (by kernel_rfl) (by kernel_rfl) (by kernel_rfl) (fun _ _ _ _ _ h => calm_fin (P := Try.prog) (fn := Try.f18) _ _ _ _ _ h) (fun w hs => sat_pulls [0, 0, 0] (G := [] ++ F0) rfl hs) (q_load_own0 2 1 rfl rfl rfl rfl (at_some h102).2 (by kernel_rfl)) ?_
      refine aw_only 30 (m' := 2147483647) (by kernel_rfl) (by kernel_rfl) (pw_buildSlice (E := 3) (eInt .i64) ([(IntKind.i64.wrap ((IntKind.i64.wrap ((IntKind.i64.wrap ((IntKind.i64.wrap ((IntKind.i64.wrap ((IntKind.i64.wrap (y57 + (ixor .i64 (ixor .i64 r43 r45) r47))) + (ixor .i64 (iand .i64 y49 y51) (iand .i64 (IntKind.i64.wrap (4294967295 - y53)) y55)))) + y59)) + y63)) + (ixor .i64 (ixor .i64 r71 r73) r75))) + (ixor .i64 (ixor .i64 (iand .i64 y77 y79) (iand .i64 y81 y83)) (iand .i64 y85 y87)))).tmod 4294967296, y89, y91, y93, (IntKind.i64.wrap (y95 + (IntKind.i64.wrap ((IntKind.i64.wrap ((IntKind.i64.wrap ((IntKind.i64.wrap (y57 + (ixor .i64 (ixor .i64 r43 r45) r47))) + (ixor .i64 (iand .i64 y49 y51) (iand .i64 (IntKind.i64.wrap (4294967295 - y53)) y55)))) + y59)) + y63)))).tmod 4294967296, y97, y99, y101] : List Int) rfl rfl rfl rfl rfl (by kernel_rfl) rfl (by kernel_rfl) rfl (by decide) rfl fun p103 => aw_next (fun w hs => sat_pulls [1, 1, 1] (G := [own (eInt .i64) 3 p103 8 ([(IntKind.i64.wrap ((IntKind.i64.wrap ((IntKind.i64.wrap ((IntKind.i64.wrap ((IntKind.i64.wrap ((IntKind.i64.wrap (y57 + (ixor .i64 (ixor .i64 r43 r45) r47))) + (ixor .i64 (iand .i64 y49 y51) (iand .i64 (IntKind.i64.wrap (4294967295 - y53)) y55)))) + y59)) + y63)) + (ixor .i64 (ixor .i64 r71 r73) r75))) + (ixor .i64 (ixor .i64 (iand .i64 y77 y79) (iand .i64 y81 y83)) (iand .i64 y85 y87)))).tmod 4294967296, y89, y91, y93, (IntKind.i64.wrap (y95 + (IntKind.i64.wrap ((IntKind.i64.wrap ((IntKind.i64.wrap ((IntKind.i64.wrap (y57 + (ixor .i64 (ixor .i64 r43 r45) r47))) + (ixor .i64 (iand .i64 y49 y51) (iand .i64 (IntKind.i64.wrap (4294967295 - y53)) y55)))) + y59)) + y63)))).tmod 4294967296, y97, y99, y101] : List Int)] ++ F0) rfl hs) ?_)
      refine aw_vals [31] (f' := 0) (m' := 4294967295) [0, 1, 7, 8, 9] [(0, .slice p0 x0.length c0), (1, .slice p1 x1.length c1), (7, .slice r21_p1 r21.length r21_c2), (8, .slice p103 ([(IntKind.i64.wrap ((IntKind.i64.wrap ((IntKind.i64.wrap ((IntKind.i64.wrap ((IntKind.i64.wrap ((IntKind.i64.wrap (y57 + (ixor .i64 (ixor .i64 r43 r45) r47))) + (ixor .i64 (iand .i64 y49 y51) (iand .i64 (IntKind.i64.wrap (4294967295 - y53)) y55)))) + y59)) + y63)) + (ixor .i64 (ixor .i64 r71 r73) r75))) + (ixor .i64 (ixor .i64 (iand .i64 y77 y79) (iand .i64 y81 y83)) (iand .i64 y85 y87)))).tmod 4294967296, y89, y91, y93, (IntKind.i64.wrap (y95 + (IntKind.i64.wrap ((IntKind.i64.wrap ((IntKind.i64.wrap ((IntKind.i64.wrap (y57 + (ixor .i64 (ixor .i64 r43 r45) r47))) + (ixor .i64 (iand .i64 y49 y51) (iand .i64 (IntKind.i64.wrap (4294967295 - y53)) y55)))) + y59)) + y63)))).tmod 4294967296, y97, y99, y101] : List Int).length 8), (9, .int .i64 x35)] (fun _ _ _ _ _ h => calm_fin (P := Try.prog) (fn := Try.f18) _ _ _ _ _ h) (fun w hs => sat_pulls [1, 1, 1] (G := [own (eInt .i64) 3 p103 8 ([(IntKind.i64.wrap ((IntKind.i64.wrap ((IntKind.i64.wrap ((IntKind.i64.wrap ((IntKind.i64.wrap ((IntKind.i64.wrap (y57 + (ixor .i64 (ixor .i64 r43 r45) r47))) + (ixor .i64 (iand .i64 y49 y51) (iand .i64 (IntKind.i64.wrap (4294967295 - y53)) y55)))) + y59)) + y63)) + (ixor .i64 (ixor .i64 r71 r73) r75))) + (ixor .i64 (ixor .i64 (iand .i64 y77 y79) (iand .i64 y81 y83)) (iand .i64 y85 y87)))).tmod 4294967296, y89, y91, y93, (IntKind.i64.wrap (y95 + (IntKind.i64.wrap ((IntKind.i64.wrap ((IntKind.i64.wrap ((IntKind.i64.wrap (y57 + (ixor .i64 (ixor .i64 r43 r45) r47))) + (ixor .i64 (iand .i64 y49 y51) (iand .i64 (IntKind.i64.wrap (4294967295 - y53)) y55)))) + y59)) + y63)))).tmod 4294967296, y97, y99, y101] : List Int)] ++ F0) rfl hs) rfl (by kernel_rfl) ?_
      refine aw_keep [0, 1, 7, 8, 9] (L' := [(0, .slice p0 x0.length c0), (1, .slice p1 x1.length c1), (7, .slice r21_p1 r21.length r21_c2), (8, .slice p103 ([(IntKind.i64.wrap ((IntKind.i64.wrap ((IntKind.i64.wrap ((IntKind.i64.wrap ((IntKind.i64.wrap ((IntKind.i64.wrap (y57 + (ixor .i64 (ixor .i64 r43 r45) r47))) + (ixor .i64 (iand .i64 y49 y51) (iand .i64 (IntKind.i64.wrap (4294967295 - y53)) y55)))) + y59)) + y63)) + (ixor .i64 (ixor .i64 r71 r73) r75))) + (ixor .i64 (ixor .i64 (iand .i64 y77 y79) (iand .i64 y81 y83)) (iand .i64 y85 y87)))).tmod 4294967296, y89, y91, y93, (IntKind.i64.wrap (y95 + (IntKind.i64.wrap ((IntKind.i64.wrap ((IntKind.i64.wrap ((IntKind.i64.wrap (y57 + (ixor .i64 (ixor .i64 r43 r45) r47))) + (ixor .i64 (iand .i64 y49 y51) (iand .i64 (IntKind.i64.wrap (4294967295 - y53)) y55)))) + y59)) + y63)))).tmod 4294967296, y97, y99, y101] : List Int).length 8), (9, .int .i64 x35)]) rfl ?_
      refine aw_end (by kernel_rfl) ?_
      refine ew_blk ?_
      refine ew_then ?_
      refine cw_region ?_
      refine ow_vals 3 (j := 3) [0, 1, 7, 8, 9] [(0, .slice p0 x0.length c0), (1, .slice p1 x1.length c1), (7, .slice r21_p1 r21.length r21_c2), (8, .slice p103 ([(IntKind.i64.wrap ((IntKind.i64.wrap ((IntKind.i64.wrap ((IntKind.i64.wrap ((IntKind.i64.wrap ((IntKind.i64.wrap (y57 + (ixor .i64 (ixor .i64 r43 r45) r47))) + (ixor .i64 (iand .i64 y49 y51) (iand .i64 (IntKind.i64.wrap (4294967295 - y53)) y55)))) + y59)) + y63)) + (ixor .i64 (ixor .i64 r71 r73) r75))) + (ixor .i64 (ixor .i64 (iand .i64 y77 y79) (iand .i64 y81 y83)) (iand .i64 y85 y87)))).tmod 4294967296, y89, y91, y93, (IntKind.i64.wrap (y95 + (IntKind.i64.wrap ((IntKind.i64.wrap ((IntKind.i64.wrap ((IntKind.i64.wrap (y57 + (ixor .i64 (ixor .i64 r43 r45) r47))) + (ixor .i64 (iand .i64 y49 y51) (iand .i64 (IntKind.i64.wrap (4294967295 - y53)) y55)))) + y59)) + y63)))).tmod 4294967296, y97, y99, y101] : List Int).length 8), (9, .int .i64 (IntKind.i64.wrap (x35 + 1)))] rfl (by kernel_rfl) ?_
      refine ow_end rfl ?_
      have hR := Option.some.inj hF
      subst hR
      have hR := hL30
      try dsimp only at hR
      exact fun a w hf hs => ⟨k, Nat.lt_succ_self k, ([(IntKind.i64.wrap ((IntKind.i64.wrap ((IntKind.i64.wrap ((IntKind.i64.wrap ((IntKind.i64.wrap ((IntKind.i64.wrap (y57 + (ixor .i64 (ixor .i64 r43 r45) r47))) + (ixor .i64 (iand .i64 y49 y51) (iand .i64 (IntKind.i64.wrap (4294967295 - y53)) y55)))) + y59)) + y63)) + (ixor .i64 (ixor .i64 r71 r73) r75))) + (ixor .i64 (ixor .i64 (iand .i64 y77 y79) (iand .i64 y81 y83)) (iand .i64 y85 y87)))).tmod 4294967296, y89, y91, y93, (IntKind.i64.wrap (y95 + (IntKind.i64.wrap ((IntKind.i64.wrap ((IntKind.i64.wrap ((IntKind.i64.wrap (y57 + (ixor .i64 (ixor .i64 r43 r45) r47))) + (ixor .i64 (iand .i64 y49 y51) (iand .i64 (IntKind.i64.wrap (4294967295 - y53)) y55)))) + y59)) + y63)))).tmod 4294967296, y97, y99, y101] : List Int), IntKind.i64.wrap (x35 + 1), p103, 8, hR, hf.keep [0, 1, 7, 8, 9], sat_to [3, 1, 1, 0] 1 rfl hs⟩
    · refine cw_cond_f rfl rfl h36 ?_
      refine cw_exit ?_
      refine ew_then_exit ?_
      refine ew_then_exit ?_
      refine ew_blk_exit ?_
      have hR := Option.some.inj hF
      subst hR
      have hR := hL30
      try dsimp only at hR
      exact fun a w hf hs => ⟨l31, p32, c33, hR, hf.keep [0, 8], sat_to [1, 0, 0] 1 rfl hs⟩
  · rintro a w ⟨l105, p106, c107, hv, hf, hs⟩
    subst hv
    replace hF := hK29
    clear hK29
    try dsimp only at hF
    revert a w
    show CW _ _ _ 159 [(0, .slice p0 x0.length c0), (8, .slice p106 l105.length c107)] (SAT w0 ([imm I, own (eInt .i64) 3 p106 c107 l105] ++ F0))
    unfold F.ref02_block.r2 at hF
    refine cw_seq ?_
    refine cw_region ?_
    refine ow_vals 1 (j := 1) [0, 8, 15] [(0, .slice p0 x0.length c0), (8, .slice p106 l105.length c107), (15, .slice none 0 0)] rfl (by kernel_rfl) ?_
    refine ow_end rfl ?_
    refine ew_then ?_
    obtain ⟨v109, hF, hK109⟩ := bind_some hF
    refine cw_mid (fun a w => ∃ (l128 : List Int), ∃ (p129 : Option Addr), ∃ (c130 : Nat), l128 = v109 ∧ Fr 159 [(15, .slice p129 l128.length c130)] a ∧ SAT w0 ([imm I, own (eInt .i64) 3 p129 c130 l128] ++ F0) w) ?_ ?_
    · refine cw_seq ?_
      refine cw_region ?_
      refine ow_vals 1 (j := 1) [0, 8, 15, 16] [(0, .slice p0 x0.length c0), (8, .slice p106 l105.length c107), (15, .slice none 0 0), (16, .int .i64 0)] rfl (by kernel_rfl) ?_
      refine ow_end rfl ?_
      refine ew_then ?_
      refine cw_block ?_
      refine fun a w hf hs => wp_rounds (fun k a w => ∃ (l111 : List Int), ∃ (x115 : Int), ∃ (p112 : Option Addr), ∃ (c113 : Nat), iter (fun x => F.ref02_block.l3 x0 l105 x.1 x.2) k (l111, x115) = some v109 ∧ Fr 159 [(0, .slice p0 x0.length c0), (8, .slice p106 l105.length c107), (15, .slice p112 l111.length c113), (16, .int .i64 x115)] a ∧ SAT w0 ([imm I, own (eInt .i64) 3 p106 c107 l105, own (eInt .i64) 3 p112 c113 l111] ++ F0) w) ?_ FUEL a w ⟨[], 0, none, 0, hF, hf.keep [0, 8, 15, 16], sat_to [1, 1, 0] 0 rfl (sat_own_nil (eInt .i64) 3 hs)⟩
      clear hf hs
      clear a w hF
      rintro k a w ⟨l111, x115, p112, c113, hF2, hf, hs⟩
      obtain ⟨k, r110, rfl, hF, hL110⟩ := iter_some hF2
      clear hF2
      revert a w
      show CW _ _ _ 159 [(0, .slice p0 x0.length c0), (8, .slice p106 l105.length c107), (15, .slice p112 l111.length c113), (16, .int .i64 x115)] (SAT w0 ([imm I, own (eInt .i64) 3 p106 c107 l105, own (eInt .i64) 3 p112 c113 l111] ++ F0))
      try dsimp only at hF
      unfold F.ref02_block.l3 at hF
      refine cw_seq ?_
      refine cw_seq ?_
      refine cw_region ?_
      refine ow_vals 2 (j := 2) [0, 8, 15, 16, 142] [(0, .slice p0 x0.length c0), (8, .slice p106 l105.length c107), (15, .slice p112 l111.length c113), (16, .int .i64 x115), (142, .bool (decide (x115 < 8)))] rfl (by kernel_rfl) ?_
      refine ow_end rfl ?_
      refine ew_then ?_
      rcases if_some hF with ⟨h116, hF⟩ | ⟨h116, hF⟩
      · refine cw_cond_t rfl rfl h116 ?_
        refine cw_skip ?_
        refine ew_then ?_
        refine cw_seq ?_
        refine cw_block ?_
        refine cw_open 12 (SAT w0 ([imm I, own (eInt .i64) 3 p106 c107 l105, own (eInt .i64) 3 p112 c113 l111])) (by kernel_rfl) (f := 14) rfl (fun w hs => sat_drew hs) ?_
        refine aw_vals [0, 1, 2, 5, 6] (f' := 9) (m' := 103) [0, 8, 15, 16, 145, 146, 147, 150, 151] [(0, .slice p0 x0.length c0), (8, .slice p106 l105.length c107), (15, .slice p112 l111.length c113), (16, .int .i64 x115), (145, .slice p112 l111.length c113), (146, .slice p0 x0.length c0), (147, .int .i64 x115), (150, .slice p106 l105.length c107), (151, .int .i64 x115)] (fun _ _ _ _ _ h => calm_fin (P := Try.prog) (fn := Try.f18) _ _ _ _ _ h) (fun w hs => sat_pulls [0, 0, 0] (G := [] ++ F0) rfl hs) rfl (by kernel_rfl) ?_
        obtain ⟨y117, h118, hF⟩ := bind_some hF
        refine aw_index_ro (E := 3) 3 (m' := 111) 1 hr0 rfl rfl rfl rfl rfl (by kernel_rfl) (by kernel_rfl) (fun _ _ _ _ _ h => calm_fin (P := Try.prog) (fn := Try.f18) _ _ _ _ _ h) (fun w hs => sat_pulls [0, 0, 0] (G := [] ++ F0) rfl hs) (by kernel_rfl) rfl rfl rfl h118 fun q119 h120 => ?_
        refine aw_quiet 4 (m' := 127) (v := .int .i64 y117) 11 [10, 9, 4] rfl rfl rfl rfl (by kernel_rfl) (by kernel_rfl) (by kernel_rfl) (fun _ _ _ _ _ h => calm_fin (P := Try.prog) (fn := Try.f18) _ _ _ _ _ h) (fun w hs => sat_pulls [0, 0, 0] (G := [] ++ F0) rfl hs) (q_load_el0 0 rfl h120 rfl rfl (by kernel_rfl)) ?_
        obtain ⟨y121, h122, hF⟩ := bind_some hF
        refine aw_quiet 7 (m' := 255) (v := .pointer (some ((base p106).add (x115.toNat * 1)))) 11 [10, 9, 8, 7] rfl rfl rfl rfl (by kernel_rfl) (by kernel_rfl) (by kernel_rfl) (fun _ _ _ _ _ h => calm_fin (P := Try.prog) (fn := Try.f18) _ _ _ _ _ h) (fun w hs => sat_pulls [0, 0, 0] (G := [] ++ F0) rfl hs) (q_index_own 1 1 rfl rfl (by kernel_rfl) rfl rfl (at_some h122).1 (at_lt h122)) ?_
        refine aw_quiet 8 (m' := 511) (v := .int .i64 y121) 11 [10, 9, 8] rfl rfl rfl rfl (by kernel_rfl) (by kernel_rfl) (by kernel_rfl) (fun _ _ _ _ _ h => calm_fin (P := Try.prog) (fn := Try.f18) _ _ _ _ _ h) (fun w hs => sat_pulls [0, 0, 0] (G := [] ++ F0) rfl hs) (q_load_own0 1 1 rfl rfl rfl rfl (at_some h122).2 (by kernel_rfl)) ?_
        refine aw_vals [9, 10] (f' := 3) (m' := 2047) [0, 8, 15, 16, 145, 155] [(0, .slice p0 x0.length c0), (8, .slice p106 l105.length c107), (15, .slice p112 l111.length c113), (16, .int .i64 x115), (145, .slice p112 l111.length c113), (155, .int .i64 ((IntKind.i64.wrap (y117 + y121)).tmod 4294967296))] (fun _ _ _ _ _ h => calm_fin (P := Try.prog) (fn := Try.f18) _ _ _ _ _ h) (fun w hs => sat_pulls [0, 0, 0] (G := [] ++ F0) rfl hs) rfl (by kernel_rfl) ?_
        refine aw_only 11 (m' := 4095) (by kernel_rfl) (by kernel_rfl) (pw_buildSlice (E := 3) (eInt .i64) ([(IntKind.i64.wrap (y117 + y121)).tmod 4294967296] : List Int) rfl rfl rfl rfl rfl (by kernel_rfl) rfl (by kernel_rfl) rfl (by decide) rfl fun p123 => aw_next (fun w hs => sat_pulls [1, 1, 1] (G := [own (eInt .i64) 3 p123 1 ([(IntKind.i64.wrap (y117 + y121)).tmod 4294967296] : List Int)] ++ F0) rfl hs) ?_)
        obtain ⟨h125, hF⟩ := chk_some hF
        refine aw_only 12 (m' := 8191) (by kernel_rfl) (by kernel_rfl) (pw_append 3 (l' := ([(IntKind.i64.wrap (y117 + y121)).tmod 4294967296] : List Int)) rfl rfl rfl rfl rfl rfl (by kernel_rfl) (by kernel_rfl) rfl rfl rfl (src_own (E' := 3) 0 rfl (by kernel_rfl) rfl) rfl h125.1 h125.2 fun p126 c127 => nw_H (H' := [own (eInt .i64) 3 p123 1 ([(IntKind.i64.wrap (y117 + y121)).tmod 4294967296] : List Int), imm I, own (eInt .i64) 3 p106 c107 l105, own (eInt .i64) 3 p126 c127 (l111 ++ ([(IntKind.i64.wrap (y117 + y121)).tmod 4294967296] : List Int))] ++ F0) rfl (aw_last (by kernel_rfl) ?_))
        refine aw_past (by kernel_rfl) ?_
        refine aw_vals [13] (f' := 0) (m' := 16383) [0, 8, 15, 16] [(0, .slice p0 x0.length c0), (8, .slice p106 l105.length c107), (15, .slice p126 (l111 ++ ([(IntKind.i64.wrap (y117 + y121)).tmod 4294967296] : List Int)).length c127), (16, .int .i64 x115)] (fun _ _ _ _ _ h => calm_fin (P := Try.prog) (fn := Try.f18) _ _ _ _ _ h) (fun _ _ => trivial) rfl (by kernel_rfl) ?_
        refine aw_keep [0, 8, 15, 16] (L' := [(0, .slice p0 x0.length c0), (8, .slice p106 l105.length c107), (15, .slice p126 (l111 ++ ([(IntKind.i64.wrap (y117 + y121)).tmod 4294967296] : List Int)).length c127), (16, .int .i64 x115)]) rfl ?_
        refine aw_end (by kernel_rfl) ?_
        refine ew_blk ?_
        refine ew_then ?_
        refine cw_region ?_
        refine ow_vals 3 (j := 3) [0, 8, 15, 16] [(0, .slice p0 x0.length c0), (8, .slice p106 l105.length c107), (15, .slice p126 (l111 ++ ([(IntKind.i64.wrap (y117 + y121)).tmod 4294967296] : List Int)).length c127), (16, .int .i64 (IntKind.i64.wrap (x115 + 1)))] rfl (by kernel_rfl) ?_
        refine ow_end rfl ?_
        have hR := Option.some.inj hF
        subst hR
        have hR := hL110
        try dsimp only at hR
        exact fun a w hf hs => ⟨k, Nat.lt_succ_self k, l111 ++ ([(IntKind.i64.wrap (y117 + y121)).tmod 4294967296] : List Int), IntKind.i64.wrap (x115 + 1), p126, c127, hR, hf.keep [0, 8, 15, 16], sat_to [0, 0, 0, 0] 1 rfl hs⟩
      · refine cw_cond_f rfl rfl h116 ?_
        refine cw_exit ?_
        refine ew_then_exit ?_
        refine ew_then_exit ?_
        refine ew_blk_exit ?_
        have hR := Option.some.inj hF
        subst hR
        have hR := hL110
        try dsimp only at hR
        exact fun a w hf hs => ⟨l111, p112, c113, hR, hf.keep [15], sat_to [1, 0, 0] 1 rfl hs⟩
    · rintro a w ⟨l128, p129, c130, hv, hf, hs⟩
      subst hv
      replace hF := hK109
      clear hK109
      try dsimp only at hF
      revert a w
      show CW _ _ _ 159 [(15, .slice p129 l128.length c130)] (SAT w0 ([imm I, own (eInt .i64) 3 p129 c130 l128] ++ F0))
      unfold F.ref02_block.r4 at hF
      refine cw_seq ?_
      refine cw_region ?_
      refine ow_vals 2 (j := 2) [6] [(6, .slice p129 l128.length c130)] rfl (by kernel_rfl) ?_
      refine ow_end rfl ?_
      refine ew_then ?_
      refine cw_ret ?_
      have hR := Option.some.inj hF
      subst hR
      exact fin1 (H1 := [imm I, own (eInt .i64) 3 p129 c130 l128]) (fun w hs => sat_to [0, 0] 0 rfl hs) rfl (rr_tmp rfl) ⟨p129, c130, rfl, rfl⟩


def F.ref02_Sum.l1 (r21 : (List Int)) (l26 : List Int) (l30 : List Int) (x34 : Int) : Option (((List Int) × (List Int) × Int) ⊕ ((List Int) × (List Int))) :=
  if decide (x34 < (r21.length : Int)) then (if decide (x34 < 8) then (Option.bind (at_ r21 x34) (fun (y37 : Int) => Option.bind (F.ref02_root y37 2) (fun (r39 : Int) => chk (room (l26.length + ([r39] : List Int).length) 8) (Option.bind (at_ r21 x34) (fun (y46 : Int) => Option.bind (F.ref02_root y46 3) (fun (r48 : Int) => chk (room (l30.length + ([r48] : List Int).length) 8) (some (.inl (l26 ++ ([r39] : List Int), l30 ++ ([r48] : List Int), IntKind.i64.wrap (x34 + 1)))))))))) else (Option.bind (at_ r21 x34) (fun (y55 : Int) => Option.bind (F.ref02_root y55 3) (fun (r57 : Int) => chk (room (l30.length + ([r57] : List Int).length) 8) (some (.inl (l26, l30 ++ ([r57] : List Int), IntKind.i64.wrap (x34 + 1)))))))) else (some (.inr ((l26, l30))))
def F.ref02_Sum.l3 (l68 : List Int) (r72 : ByteArray) (l81 : List Int) (x85 : Int) : Option (((List Int) × Int) ⊕ ((List Int))) :=
  if decide ((IntKind.i64.wrap (64 * x85)) < (r72.size : Int)) then (chk (0 ≤ (IntKind.i64.wrap (64 * x85)) ∧ (IntKind.i64.wrap (64 * x85)) ≤ (IntKind.i64.wrap ((IntKind.i64.wrap (64 * x85)) + 64)) ∧ (IntKind.i64.wrap ((IntKind.i64.wrap (64 * x85)) + 64)) ≤ (r72.size : Int)) (Option.bind (F.ref02_block l81 l68 (r72.extract (IntKind.i64.wrap (64 * x85)).toNat (IntKind.i64.wrap ((IntKind.i64.wrap (64 * x85)) + 64)).toNat)) (fun (r91 : (List Int)) => some (.inl (r91, IntKind.i64.wrap (x85 + 1)))))) else (some (.inr (l81)))
def F.ref02_Sum.l5 (l96 : List Int) (l102 : List Int) (x106 : Int) : Option (((List Int) × Int) ⊕ ((List Int))) :=
  if decide (x106 < 8) then (Option.bind (at_ l96 x106) (fun (y108 : Int) => Option.bind (at_ l96 x106) (fun (y110 : Int) => Option.bind (at_ l96 x106) (fun (y112 : Int) => Option.bind (at_ l96 x106) (fun (y114 : Int) => chk (room (l102.length + ([IntKind.u8.wrap (y108.fdiv (2 ^ 24)), IntKind.u8.wrap (y110.fdiv (2 ^ 16)), IntKind.u8.wrap (y112.fdiv (2 ^ 8)), IntKind.u8.wrap (y114)] : List Int).length) 1) (some (.inl (l102 ++ ([IntKind.u8.wrap (y108.fdiv (2 ^ 24)), IntKind.u8.wrap (y110.fdiv (2 ^ 16)), IntKind.u8.wrap (y112.fdiv (2 ^ 8)), IntKind.u8.wrap (y114)] : List Int), IntKind.i64.wrap (x106 + 1))))))))) else (some (.inr (l102)))
def F.ref02_Sum.r6 (l121 : List Int) : Option (ByteArray) :=
  some ((bstr l121))
def F.ref02_Sum.r4 (l96 : List Int) : Option (ByteArray) :=
  Option.bind (iter (fun x => F.ref02_Sum.l5 l96 x.1 x.2) FUEL ([], 0)) (fun x => F.ref02_Sum.r6 x)
def F.ref02_Sum.r2 (x0 : ByteArray) (l64 : List Int) (l68 : List Int) : Option (ByteArray) :=
  Option.bind (F.ref02_pad x0) (fun (r72 : ByteArray) => Option.bind (iter (fun x => F.ref02_Sum.l3 l68 r72 x.1 x.2) FUEL (l64, 0)) (fun x => F.ref02_Sum.r4 x))
def F.ref02_Sum (x0 : ByteArray) : Option ByteArray :=
  Option.bind (F.ref02_primes 64) (fun (r21 : (List Int)) => Option.bind (iter (fun x => F.ref02_Sum.l1 r21 x.1 x.2.1 x.2.2) FUEL ([], [], 0)) (fun x => F.ref02_Sum.r2 x0 x.1 x.2))
set_option maxRecDepth 100000 in
set_option maxHeartbeats 4000000 in
theorem c_ref02_Sum (I : Hl) (x0 : ByteArray) (res : ByteArray) (hF : F.ref02_Sum x0 = some res) : Tr Try.prog 8 [.string x0] [imm I] (fun r H' => ∃ (J : Hl), r = .string res ∧ H' = [imm J] ∧ Hl.sub I J) := by
  unfold F.ref02_Sum at hF
  refine tr_of_cw (fn := Try.f8) Try.func8 rfl (Nat.le_of_ble_eq_true rfl) 87 rfl fun F0 w0 => ?_
  refine cw_keep [0] (L' := [(0, .string x0)]) rfl ?_
  refine cw_state (S' := SAT w0 ([imm I] ++ F0)) (fun w hs => hs) ?_
  refine cw_seq ?_
  refine cw_region ?_
  refine ow_vals 1 (j := 1) [0] [(0, .string x0)] rfl (by kernel_rfl) ?_
  refine ow_end rfl ?_
  refine ew_then ?_
  refine cw_seq ?_
  refine cw_region ?_
  refine ow_vals 2 (j := 2) [0, 3, 4] [(0, .string x0), (3, .slice none 0 0), (4, .slice none 0 0)] rfl (by kernel_rfl) ?_
  refine ow_end rfl ?_
  refine ew_then ?_
  refine cw_seq ?_
  refine cw_region ?_
  obtain ⟨r21, h22, hF⟩ := bind_some hF
  refine ow_pw rfl (pw_call (F := [] ++ F0) rfl rfl rfl rfl rfl rfl rfl (by kernel_rfl) (perm_of_pulls [0] rfl) (c_ref02_primes _ _ r21 h22) ?_)
  rintro _ _ ⟨r21_p1, r21_c2, rfl, rfl⟩
  refine nw_H (H' := [imm I, own (eInt .i64) 3 r21_p1 r21_c2 r21] ++ F0) rfl (nw_ow ?_)
  refine ow_vals 1 (j := 2) [0, 3, 4, 5] [(0, .string x0), (3, .slice none 0 0), (4, .slice none 0 0), (5, .slice r21_p1 r21.length r21_c2)] rfl (by kernel_rfl) ?_
  refine ow_end rfl ?_
  refine ew_then ?_
  obtain ⟨v24, hF, hK24⟩ := bind_some hF
  refine cw_mid (fun a w => ∃ (l64 : List Int), ∃ (l68 : List Int), ∃ (p65 : Option Addr), ∃ (c66 : Nat), ∃ (p69 : Option Addr), ∃ (c70 : Nat), (l64, l68) = v24 ∧ Fr 87 [(0, .string x0), (3, .slice p65 l64.length c66), (4, .slice p69 l68.length c70)] a ∧ SAT w0 ([imm I, own (eInt .i64) 3 p65 c66 l64, own (eInt .i64) 3 p69 c70 l68] ++ F0) w) ?_ ?_
  · refine cw_seq ?_
    refine cw_region ?_
    refine ow_vals 1 (j := 1) [0, 3, 4, 5, 6] [(0, .string x0), (3, .slice none 0 0), (4, .slice none 0 0), (5, .slice r21_p1 r21.length r21_c2), (6, .int .i64 0)] rfl (by kernel_rfl) ?_
    refine ow_end rfl ?_
    refine ew_then ?_
    refine cw_block ?_
    refine fun a w hf hs => wp_rounds (fun k a w => ∃ (l26 : List Int), ∃ (l30 : List Int), ∃ (x34 : Int), ∃ (p27 : Option Addr), ∃ (c28 : Nat), ∃ (p31 : Option Addr), ∃ (c32 : Nat), iter (fun x => F.ref02_Sum.l1 r21 x.1 x.2.1 x.2.2) k (l26, l30, x34) = some v24 ∧ Fr 87 [(0, .string x0), (3, .slice p27 l26.length c28), (4, .slice p31 l30.length c32), (5, .slice r21_p1 r21.length r21_c2), (6, .int .i64 x34)] a ∧ SAT w0 ([imm I, own (eInt .i64) 3 p27 c28 l26, own (eInt .i64) 3 p31 c32 l30, own (eInt .i64) 3 r21_p1 r21_c2 r21] ++ F0) w) ?_ FUEL a w ⟨[], [], 0, none, 0, none, 0, hF, hf.keep [0, 3, 4, 5, 6], sat_to [2, 1, 0, 0] 0 rfl (sat_own_nil (eInt .i64) 3 (sat_own_nil (eInt .i64) 3 hs))⟩
    clear hf hs
    clear a w hF
    rintro k a w ⟨l26, l30, x34, p27, c28, p31, c32, hF2, hf, hs⟩
    obtain ⟨k, r25, rfl, hF, hL25⟩ := iter_some hF2
    clear hF2
    revert a w
    show CW _ _ _ 87 [(0, .string x0), (3, .slice p27 l26.length c28), (4, .slice p31 l30.length c32), (5, .slice r21_p1 r21.length r21_c2), (6, .int .i64 x34)] (SAT w0 ([imm I, own (eInt .i64) 3 p27 c28 l26, own (eInt .i64) 3 p31 c32 l30, own (eInt .i64) 3 r21_p1 r21_c2 r21] ++ F0))
    try dsimp only at hF
    unfold F.ref02_Sum.l1 at hF
    refine cw_seq ?_
    refine cw_seq ?_
    refine cw_region ?_
    refine ow_vals 4 (j := 4) [0, 3, 4, 5, 6, 15] [(0, .string x0), (3, .slice p27 l26.length c28), (4, .slice p31 l30.length c32), (5, .slice r21_p1 r21.length r21_c2), (6, .int .i64 x34), (15, .bool (decide (x34 < (r21.length : Int))))] rfl (by kernel_rfl) ?_
    refine ow_end rfl ?_
    refine ew_then ?_
    rcases if_some hF with ⟨h35, hF⟩ | ⟨h35, hF⟩
    · refine cw_cond_t rfl rfl h35 ?_
      refine cw_skip ?_
      refine ew_then ?_
      refine cw_seq ?_
      refine cw_block ?_
      refine cw_seq ?_
      refine cw_seq ?_
      refine cw_region ?_
      refine ow_vals 2 (j := 2) [0, 3, 4, 5, 6, 19] [(0, .string x0), (3, .slice p27 l26.length c28), (4, .slice p31 l30.length c32), (5, .slice r21_p1 r21.length r21_c2), (6, .int .i64 x34), (19, .bool (decide (x34 < 8)))] rfl (by kernel_rfl) ?_
      refine ow_end rfl ?_
      refine ew_then ?_
      rcases if_some hF with ⟨h36, hF⟩ | ⟨h36, hF⟩
      · refine cw_cond_t rfl rfl h36 ?_
        refine cw_region ?_
        refine ow_vals 3 (j := 3) [0, 4, 5, 6, 20, 21, 22] [(0, .string x0), (4, .slice p31 l30.length c32), (5, .slice r21_p1 r21.length r21_c2), (6, .int .i64 x34), (20, .slice p27 l26.length c28), (21, .slice r21_p1 r21.length r21_c2), (22, .int .i64 x34)] rfl (by kernel_rfl) ?_
        obtain ⟨y37, h38, hF⟩ := bind_some hF
        refine ow_pw rfl (pw_quiet (v := .pointer (some ((base r21_p1).add (x34.toNat * 1)))) rfl rfl rfl rfl (q_index_own 3 1 rfl rfl (by kernel_rfl) rfl rfl (at_some h38).1 (at_lt h38)) (nw_ow ?_))
        refine ow_pw rfl (pw_quiet (v := .int .i64 y37) rfl rfl rfl rfl (q_load_own0 3 1 rfl rfl rfl rfl (at_some h38).2 (by kernel_rfl)) (nw_ow ?_))
        obtain ⟨r39, h40, hF⟩ := bind_some hF
        refine ow_pw rfl (pw_call (F := [own (eInt .i64) 3 p27 c28 l26, own (eInt .i64) 3 p31 c32 l30, own (eInt .i64) 3 r21_p1 r21_c2 r21] ++ F0) rfl rfl rfl rfl rfl rfl rfl (by kernel_rfl) (perm_of_pulls [0] rfl) (c_ref02_root _ _ _ r39 h40) ?_)
        rintro _ _ ⟨rfl, rfl⟩
        refine nw_H (H' := [imm I, own (eInt .i64) 3 p27 c28 l26, own (eInt .i64) 3 p31 c32 l30, own (eInt .i64) 3 r21_p1 r21_c2 r21] ++ F0) rfl (nw_ow ?_)
        refine ow_pw rfl (pw_buildSlice (E := 3) (eInt .i64) ([r39] : List Int) rfl rfl rfl rfl rfl (by kernel_rfl) rfl (by kernel_rfl) rfl (by decide) rfl fun p41 => nw_ow ?_)
        obtain ⟨h43, hF⟩ := chk_some hF
        refine ow_pw rfl (pw_append 2 (l' := ([r39] : List Int)) rfl rfl rfl rfl rfl rfl (by kernel_rfl) (by kernel_rfl) rfl rfl rfl (src_own (E' := 3) 0 rfl (by kernel_rfl) rfl) rfl h43.1 h43.2 fun p44 c45 => nw_H (H' := [own (eInt .i64) 3 p41 1 ([r39] : List Int), imm I, own (eInt .i64) 3 p44 c45 (l26 ++ ([r39] : List Int)), own (eInt .i64) 3 p31 c32 l30, own (eInt .i64) 3 r21_p1 r21_c2 r21] ++ F0) rfl (nw_ow ?_))
        refine ow_vals 1 (j := 9) [0, 3, 4, 5, 6] [(0, .string x0), (3, .slice p44 (l26 ++ ([r39] : List Int)).length c45), (4, .slice p31 l30.length c32), (5, .slice r21_p1 r21.length r21_c2), (6, .int .i64 x34)] rfl (by kernel_rfl) ?_
        refine ow_end rfl ?_
        refine ew_then ?_
        refine cw_region ?_
        refine ow_vals 3 (j := 3) [0, 3, 5, 6, 28, 29, 30] [(0, .string x0), (3, .slice p44 (l26 ++ ([r39] : List Int)).length c45), (5, .slice r21_p1 r21.length r21_c2), (6, .int .i64 x34), (28, .slice p31 l30.length c32), (29, .slice r21_p1 r21.length r21_c2), (30, .int .i64 x34)] rfl (by kernel_rfl) ?_
        obtain ⟨y46, h47, hF⟩ := bind_some hF
        refine ow_pw rfl (pw_quiet (v := .pointer (some ((base r21_p1).add (x34.toNat * 1)))) rfl rfl rfl rfl (q_index_own 4 1 rfl rfl (by kernel_rfl) rfl rfl (at_some h47).1 (at_lt h47)) (nw_ow ?_))
        refine ow_pw rfl (pw_quiet (v := .int .i64 y46) rfl rfl rfl rfl (q_load_own0 4 1 rfl rfl rfl rfl (at_some h47).2 (by kernel_rfl)) (nw_ow ?_))
        obtain ⟨r48, h49, hF⟩ := bind_some hF
        refine ow_pw rfl (pw_call (F := [own (eInt .i64) 3 p41 1 ([r39] : List Int), own (eInt .i64) 3 p44 c45 (l26 ++ ([r39] : List Int)), own (eInt .i64) 3 p31 c32 l30, own (eInt .i64) 3 r21_p1 r21_c2 r21] ++ F0) rfl rfl rfl rfl rfl rfl rfl (by kernel_rfl) (perm_of_pulls [1] rfl) (c_ref02_root _ _ _ r48 h49) ?_)
        rintro _ _ ⟨rfl, rfl⟩
        refine nw_H (H' := [imm I, own (eInt .i64) 3 p41 1 ([r39] : List Int), own (eInt .i64) 3 p44 c45 (l26 ++ ([r39] : List Int)), own (eInt .i64) 3 p31 c32 l30, own (eInt .i64) 3 r21_p1 r21_c2 r21] ++ F0) rfl (nw_ow ?_)
        refine ow_pw rfl (pw_buildSlice (E := 3) (eInt .i64) ([r48] : List Int) rfl rfl rfl rfl rfl (by kernel_rfl) rfl (by kernel_rfl) rfl (by decide) rfl fun p50 => nw_ow ?_)
        obtain ⟨h52, hF⟩ := chk_some hF
        refine ow_pw rfl (pw_append 4 (l' := ([r48] : List Int)) rfl rfl rfl rfl rfl rfl (by kernel_rfl) (by kernel_rfl) rfl rfl rfl (src_own (E' := 3) 0 rfl (by kernel_rfl) rfl) rfl h52.1 h52.2 fun p53 c54 => nw_H (H' := [own (eInt .i64) 3 p50 1 ([r48] : List Int), imm I, own (eInt .i64) 3 p41 1 ([r39] : List Int), own (eInt .i64) 3 p44 c45 (l26 ++ ([r39] : List Int)), own (eInt .i64) 3 p53 c54 (l30 ++ ([r48] : List Int)), own (eInt .i64) 3 r21_p1 r21_c2 r21] ++ F0) rfl (nw_ow ?_))
        refine ow_vals 1 (j := 9) [0, 3, 4, 5, 6] [(0, .string x0), (3, .slice p44 (l26 ++ ([r39] : List Int)).length c45), (4, .slice p53 (l30 ++ ([r48] : List Int)).length c54), (5, .slice r21_p1 r21.length r21_c2), (6, .int .i64 x34)] rfl (by kernel_rfl) ?_
        refine ow_end rfl ?_
        refine ew_blk ?_
        refine ew_then ?_
        refine cw_region ?_
        refine ow_vals 3 (j := 3) [0, 3, 4, 5, 6] [(0, .string x0), (3, .slice p44 (l26 ++ ([r39] : List Int)).length c45), (4, .slice p53 (l30 ++ ([r48] : List Int)).length c54), (5, .slice r21_p1 r21.length r21_c2), (6, .int .i64 (IntKind.i64.wrap (x34 + 1)))] rfl (by kernel_rfl) ?_
        refine ow_end rfl ?_
        have hR := Option.some.inj hF
        subst hR
        have hR := hL25
        try dsimp only at hR
        exact fun a w hf hs => ⟨k, Nat.lt_succ_self k, l26 ++ ([r39] : List Int), l30 ++ ([r48] : List Int), IntKind.i64.wrap (x34 + 1), p44, c45, p53, c54, hR, hf.keep [0, 3, 4, 5, 6], sat_to [0, 1, 0, 0, 0, 0] 2 rfl hs⟩
      · refine cw_cond_f rfl rfl h36 ?_
        refine cw_skip ?_
        refine ew_then ?_
        refine cw_region ?_
        refine ow_vals 3 (j := 3) [0, 3, 5, 6, 28, 29, 30] [(0, .string x0), (3, .slice p27 l26.length c28), (5, .slice r21_p1 r21.length r21_c2), (6, .int .i64 x34), (28, .slice p31 l30.length c32), (29, .slice r21_p1 r21.length r21_c2), (30, .int .i64 x34)] rfl (by kernel_rfl) ?_
        obtain ⟨y55, h56, hF⟩ := bind_some hF
        refine ow_pw rfl (pw_quiet (v := .pointer (some ((base r21_p1).add (x34.toNat * 1)))) rfl rfl rfl rfl (q_index_own 3 1 rfl rfl (by kernel_rfl) rfl rfl (at_some h56).1 (at_lt h56)) (nw_ow ?_))
        refine ow_pw rfl (pw_quiet (v := .int .i64 y55) rfl rfl rfl rfl (q_load_own0 3 1 rfl rfl rfl rfl (at_some h56).2 (by kernel_rfl)) (nw_ow ?_))
        obtain ⟨r57, h58, hF⟩ := bind_some hF
        refine ow_pw rfl (pw_call (F := [own (eInt .i64) 3 p27 c28 l26, own (eInt .i64) 3 p31 c32 l30, own (eInt .i64) 3 r21_p1 r21_c2 r21] ++ F0) rfl rfl rfl rfl rfl rfl rfl (by kernel_rfl) (perm_of_pulls [0] rfl) (c_ref02_root _ _ _ r57 h58) ?_)
        rintro _ _ ⟨rfl, rfl⟩
        refine nw_H (H' := [imm I, own (eInt .i64) 3 p27 c28 l26, own (eInt .i64) 3 p31 c32 l30, own (eInt .i64) 3 r21_p1 r21_c2 r21] ++ F0) rfl (nw_ow ?_)
        refine ow_pw rfl (pw_buildSlice (E := 3) (eInt .i64) ([r57] : List Int) rfl rfl rfl rfl rfl (by kernel_rfl) rfl (by kernel_rfl) rfl (by decide) rfl fun p59 => nw_ow ?_)
        obtain ⟨h61, hF⟩ := chk_some hF
        refine ow_pw rfl (pw_append 3 (l' := ([r57] : List Int)) rfl rfl rfl rfl rfl rfl (by kernel_rfl) (by kernel_rfl) rfl rfl rfl (src_own (E' := 3) 0 rfl (by kernel_rfl) rfl) rfl h61.1 h61.2 fun p62 c63 => nw_H (H' := [own (eInt .i64) 3 p59 1 ([r57] : List Int), imm I, own (eInt .i64) 3 p27 c28 l26, own (eInt .i64) 3 p62 c63 (l30 ++ ([r57] : List Int)), own (eInt .i64) 3 r21_p1 r21_c2 r21] ++ F0) rfl (nw_ow ?_))
        refine ow_vals 1 (j := 9) [0, 3, 4, 5, 6] [(0, .string x0), (3, .slice p27 l26.length c28), (4, .slice p62 (l30 ++ ([r57] : List Int)).length c63), (5, .slice r21_p1 r21.length r21_c2), (6, .int .i64 x34)] rfl (by kernel_rfl) ?_
        refine ow_end rfl ?_
        refine ew_blk ?_
        refine ew_then ?_
        refine cw_region ?_
        refine ow_vals 3 (j := 3) [0, 3, 4, 5, 6] [(0, .string x0), (3, .slice p27 l26.length c28), (4, .slice p62 (l30 ++ ([r57] : List Int)).length c63), (5, .slice r21_p1 r21.length r21_c2), (6, .int .i64 (IntKind.i64.wrap (x34 + 1)))] rfl (by kernel_rfl) ?_
        refine ow_end rfl ?_
        have hR := Option.some.inj hF
        subst hR
        have hR := hL25
        try dsimp only at hR
        exact fun a w hf hs => ⟨k, Nat.lt_succ_self k, l26, l30 ++ ([r57] : List Int), IntKind.i64.wrap (x34 + 1), p27, c28, p62, c63, hR, hf.keep [0, 3, 4, 5, 6], sat_to [0, 0, 0, 0, 0] 1 rfl hs⟩
    · refine cw_cond_f rfl rfl h35 ?_
      refine cw_exit ?_
      refine ew_then_exit ?_
      refine ew_then_exit ?_
      refine ew_blk_exit ?_
      have hR := Option.some.inj hF
      subst hR
      have hR := hL25
      try dsimp only at hR
      exact fun a w hf hs => ⟨l26, l30, p27, c28, p31, c32, hR, hf.keep [0, 3, 4], sat_to [3, 0, 0, 0] 1 rfl hs⟩
  · rintro a w ⟨l64, l68, p65, c66, p69, c70, hv, hf, hs⟩
    subst hv
    replace hF := hK24
    clear hK24
    try dsimp only at hF
    revert a w
    show CW _ _ _ 87 [(0, .string x0), (3, .slice p65 l64.length c66), (4, .slice p69 l68.length c70)] (SAT w0 ([imm I, own (eInt .i64) 3 p65 c66 l64, own (eInt .i64) 3 p69 c70 l68] ++ F0))
    unfold F.ref02_Sum.r2 at hF
    refine cw_seq ?_
    refine cw_region ?_
    refine ow_vals 1 (j := 1) [3, 4, 36] [(3, .slice p65 l64.length c66), (4, .slice p69 l68.length c70), (36, .string x0)] rfl (by kernel_rfl) ?_
    obtain ⟨r72, h73, hF⟩ := bind_some hF
    refine ow_pw rfl (pw_call (F := [own (eInt .i64) 3 p65 c66 l64, own (eInt .i64) 3 p69 c70 l68] ++ F0) rfl rfl rfl rfl rfl rfl rfl (by kernel_rfl) (perm_of_pulls [0] rfl) (c_ref02_pad _ _ r72 h73) ?_)
    rintro _ _ ⟨rfl, rfl⟩
    refine nw_H (H' := [imm I, own (eInt .i64) 3 p65 c66 l64, own (eInt .i64) 3 p69 c70 l68] ++ F0) rfl (nw_ow ?_)
    refine ow_vals 1 (j := 3) [3, 4, 7] [(3, .slice p65 l64.length c66), (4, .slice p69 l68.length c70), (7, .string r72)] rfl (by kernel_rfl) ?_
    refine ow_end rfl ?_
    refine ew_then ?_
    obtain ⟨v74, hF, hK74⟩ := bind_some hF
    refine cw_mid (fun a w => ∃ (l96 : List Int), ∃ (J94 : Hl), ∃ (p97 : Option Addr), ∃ (c98 : Nat), l96 = v74 ∧ Hl.sub I J94 ∧ Fr 87 [(3, .slice p97 l96.length c98)] a ∧ SAT w0 ([imm J94, own (eInt .i64) 3 p97 c98 l96] ++ F0) w) ?_ ?_
    · refine cw_seq ?_
      refine cw_region ?_
      refine ow_vals 1 (j := 1) [3, 4, 7, 8] [(3, .slice p65 l64.length c66), (4, .slice p69 l68.length c70), (7, .string r72), (8, .int .i64 0)] rfl (by kernel_rfl) ?_
      refine ow_end rfl ?_
      refine ew_then ?_
      refine cw_block ?_
      refine cw_freeze (fun w hs => sat_to [0, 1] 0 (F := [imm I, own (eInt .i64) 3 p69 c70 l68, own (eInt .i64) 3 p65 c66 l64] ++ F0) rfl hs) fun J75 h76 h77 => ?_
      refine cw_H (H' := [imm J75, own (eInt .i64) 3 p65 c66 l64] ++ F0) rfl ?_
      refine fun a w hf hs => wp_rounds (fun k a w => ∃ (l81 : List Int), ∃ (x85 : Int), ∃ (J79 : Hl), ∃ (p82 : Option Addr), ∃ (c83 : Nat), iter (fun x => F.ref02_Sum.l3 l68 r72 x.1 x.2) k (l81, x85) = some v74 ∧ Hl.sub J75 J79 ∧ Fr 87 [(3, .slice p82 l81.length c83), (4, .slice p69 l68.length c70), (7, .string r72), (8, .int .i64 x85)] a ∧ SAT w0 ([imm J79, own (eInt .i64) 3 p82 c83 l81] ++ F0) w) ?_ FUEL a w ⟨l64, 0, J75, p65, c66, hF, Hl.sub_refl _, hf.keep [3, 4, 7, 8], sat_to [0, 0] 0 rfl hs⟩
      clear hf hs
      clear a w hF
      rintro k a w ⟨l81, x85, J79, p82, c83, hF2, h80, hf, hs⟩
      obtain ⟨k, r78, rfl, hF, hL78⟩ := iter_some hF2
      clear hF2
      revert a w
      show CW _ _ _ 87 [(3, .slice p82 l81.length c83), (4, .slice p69 l68.length c70), (7, .string r72), (8, .int .i64 x85)] (SAT w0 ([imm J79, own (eInt .i64) 3 p82 c83 l81] ++ F0))
      try dsimp only at hF
      unfold F.ref02_Sum.l3 at hF
      have h77 := ro.sub h80 h77
      refine cw_seq ?_
      refine cw_seq ?_
      refine cw_region ?_
      refine ow_vals 5 (j := 5) [3, 4, 7, 8, 42] [(3, .slice p82 l81.length c83), (4, .slice p69 l68.length c70), (7, .string r72), (8, .int .i64 x85), (42, .bool (decide ((IntKind.i64.wrap (64 * x85)) < (r72.size : Int))))] rfl (by kernel_rfl) ?_
      refine ow_end rfl ?_
      refine ew_then ?_
      rcases if_some hF with ⟨h86, hF⟩ | ⟨h86, hF⟩
      · refine cw_cond_t rfl rfl h86 ?_
        refine cw_skip ?_
        refine ew_then ?_
        refine cw_seq ?_
        refine cw_block ?_
        refine cw_region ?_
        refine ow_vals 8 (j := 8) [4, 7, 8, 45, 46, 47, 49, 52] [(4, .slice p69 l68.length c70), (7, .string r72), (8, .int .i64 x85), (45, .slice p82 l81.length c83), (46, .slice p69 l68.length c70), (47, .string r72), (49, .int .i64 (IntKind.i64.wrap (64 * x85))), (52, .int .i64 (IntKind.i64.wrap ((IntKind.i64.wrap (64 * x85)) + 64)))] rfl (by kernel_rfl) ?_
        obtain ⟨h87, hF⟩ := chk_some hF
        refine ow_pw rfl (pw_quiet (v := .string (r72.extract (IntKind.i64.wrap (64 * x85)).toNat (IntKind.i64.wrap ((IntKind.i64.wrap (64 * x85)) + 64)).toNat)) rfl rfl rfl rfl (q_slice_str rfl (by kernel_rfl) rfl rfl rfl h87.1 h87.2.1 h87.2.2) (nw_ow ?_))
        refine ow_freeze (fun w hs => sat_to [0, 0] 0 (F := [imm J79, own (eInt .i64) 3 p82 c83 l81] ++ F0) rfl hs) fun J88 h89 h90 => ?_
        have h77 := ro.sub h89 h77
        refine ow_H (H' := [imm J88] ++ F0) rfl ?_
        obtain ⟨r91, h92, hF⟩ := bind_some hF
        refine ow_pw rfl (pw_call (F := [] ++ F0) rfl rfl rfl rfl rfl rfl rfl (by kernel_rfl) (perm_of_pulls [0] rfl) (c_ref02_block _ _ _ _ p82 c83 p69 c70 r91 h92 h90 h77) ?_)
        rintro _ _ ⟨r91_p1, r91_c2, rfl, rfl⟩
        refine nw_H (H' := [imm J88, own (eInt .i64) 3 r91_p1 r91_c2 r91] ++ F0) rfl (nw_ow ?_)
        refine ow_vals 1 (j := 11) [3, 4, 7, 8] [(3, .slice r91_p1 r91.length r91_c2), (4, .slice p69 l68.length c70), (7, .string r72), (8, .int .i64 x85)] rfl (by kernel_rfl) ?_
        refine ow_end rfl ?_
        refine ew_blk ?_
        refine ew_then ?_
        refine cw_region ?_
        refine ow_vals 3 (j := 3) [3, 4, 7, 8] [(3, .slice r91_p1 r91.length r91_c2), (4, .slice p69 l68.length c70), (7, .string r72), (8, .int .i64 (IntKind.i64.wrap (x85 + 1)))] rfl (by kernel_rfl) ?_
        refine ow_end rfl ?_
        have hR := Option.some.inj hF
        subst hR
        have hR := hL78
        try dsimp only at hR
        exact fun a w hf hs => ⟨k, Nat.lt_succ_self k, r91, IntKind.i64.wrap (x85 + 1), J88, r91_p1, r91_c2, hR, (Hl.sub_trans h80 h89), hf.keep [3, 4, 7, 8], sat_to [0, 0] 0 rfl hs⟩
      · refine cw_cond_f rfl rfl h86 ?_
        refine cw_exit ?_
        refine ew_then_exit ?_
        refine ew_then_exit ?_
        refine ew_blk_exit ?_
        have hR := Option.some.inj hF
        subst hR
        have hR := hL78
        try dsimp only at hR
        exact fun a w hf hs => ⟨l81, J79, p82, c83, hR, (Hl.sub_trans h76 h80), hf.keep [3], sat_to [0, 0] 0 rfl hs⟩
    · rintro a w ⟨l96, J94, p97, c98, hv, h95, hf, hs⟩
      subst hv
      replace hF := hK74
      clear hK74
      try dsimp only at hF
      revert a w
      show CW _ _ _ 87 [(3, .slice p97 l96.length c98)] (SAT w0 ([imm J94, own (eInt .i64) 3 p97 c98 l96] ++ F0))
      unfold F.ref02_Sum.r4 at hF
      refine cw_seq ?_
      refine cw_region ?_
      refine ow_vals 1 (j := 1) [3, 9] [(3, .slice p97 l96.length c98), (9, .slice none 0 0)] rfl (by kernel_rfl) ?_
      refine ow_end rfl ?_
      refine ew_then ?_
      obtain ⟨v100, hF, hK100⟩ := bind_some hF
      refine cw_mid (fun a w => ∃ (l121 : List Int), ∃ (p122 : Option Addr), ∃ (c123 : Nat), l121 = v100 ∧ Fr 87 [(9, .slice p122 l121.length c123)] a ∧ SAT w0 ([imm J94, own (eInt .u8) 5 p122 c123 l121] ++ F0) w) ?_ ?_
      · refine cw_seq ?_
        refine cw_region ?_
        refine ow_vals 1 (j := 1) [3, 9, 10] [(3, .slice p97 l96.length c98), (9, .slice none 0 0), (10, .int .i64 0)] rfl (by kernel_rfl) ?_
        refine ow_end rfl ?_
        refine ew_then ?_
        refine cw_block ?_
        refine fun a w hf hs => wp_rounds (fun k a w => ∃ (l102 : List Int), ∃ (x106 : Int), ∃ (p103 : Option Addr), ∃ (c104 : Nat), iter (fun x => F.ref02_Sum.l5 l96 x.1 x.2) k (l102, x106) = some v100 ∧ Fr 87 [(3, .slice p97 l96.length c98), (9, .slice p103 l102.length c104), (10, .int .i64 x106)] a ∧ SAT w0 ([imm J94, own (eInt .i64) 3 p97 c98 l96, own (eInt .u8) 5 p103 c104 l102] ++ F0) w) ?_ FUEL a w ⟨[], 0, none, 0, hF, hf.keep [3, 9, 10], sat_to [1, 1, 0] 0 rfl (sat_own_nil (eInt .u8) 5 hs)⟩
        clear hf hs
        clear a w hF
        rintro k a w ⟨l102, x106, p103, c104, hF2, hf, hs⟩
        obtain ⟨k, r101, rfl, hF, hL101⟩ := iter_some hF2
        clear hF2
        revert a w
        show CW _ _ _ 87 [(3, .slice p97 l96.length c98), (9, .slice p103 l102.length c104), (10, .int .i64 x106)] (SAT w0 ([imm J94, own (eInt .i64) 3 p97 c98 l96, own (eInt .u8) 5 p103 c104 l102] ++ F0))
        try dsimp only at hF
        unfold F.ref02_Sum.l5 at hF
        refine cw_seq ?_
        refine cw_seq ?_
        refine cw_region ?_
        refine ow_vals 2 (j := 2) [3, 9, 10, 56] [(3, .slice p97 l96.length c98), (9, .slice p103 l102.length c104), (10, .int .i64 x106), (56, .bool (decide (x106 < 8)))] rfl (by kernel_rfl) ?_
        refine ow_end rfl ?_
        refine ew_then ?_
        rcases if_some hF with ⟨h107, hF⟩ | ⟨h107, hF⟩
        · refine cw_cond_t rfl rfl h107 ?_
          refine cw_skip ?_
          refine ew_then ?_
          refine cw_seq ?_
          refine cw_block ?_
          refine cw_open 25 (SAT w0 ([imm J94, own (eInt .i64) 3 p97 c98 l96, own (eInt .u8) 5 p103 c104 l102])) (by kernel_rfl) (f := 27) rfl (fun w hs => sat_drew hs) ?_
          refine aw_vals [0, 1, 2, 7, 8, 13, 14, 19, 20] (f' := 18) (m' := 1597831) [3, 9, 10, 59, 60, 61, 66, 67, 72, 73, 78, 79] [(3, .slice p97 l96.length c98), (9, .slice p103 l102.length c104), (10, .int .i64 x106), (59, .slice p103 l102.length c104), (60, .slice p97 l96.length c98), (61, .int .i64 x106), (66, .slice p97 l96.length c98), (67, .int .i64 x106), (72, .slice p97 l96.length c98), (73, .int .i64 x106), (78, .slice p97 l96.length c98), (79, .int .i64 x106)] (fun _ _ _ _ _ h => calm_fin (P := Try.prog) (fn := Try.f8) _ _ _ _ _ h) (fun w hs => sat_pulls [0, 0, 0] (G := [] ++ F0) rfl hs) rfl (by kernel_rfl) ?_
          obtain ⟨y108, h109, hF⟩ := bind_some hF
          refine aw_quiet 3 (m' := 1597839) (v := .pointer (some ((base p97).add (x106.toNat * 1)))) 24 [6, 5, 4, 3] rfl rfl rfl rfl (by kernel_rfl) (by kernel_rfl) (by kernel_rfl) (fun _ _ _ _ _ h => calm_fin (P := Try.prog) (fn := Try.f8) _ _ _ _ _ h) (fun w hs => sat_pulls [0, 0, 0] (G := [] ++ F0) rfl hs) (q_index_own 1 1 rfl rfl (by kernel_rfl) rfl rfl (at_some h109).1 (at_lt h109)) ?_
          refine aw_quiet 4 (m' := 1597855) (v := .int .i64 y108) 24 [6, 5, 4] rfl rfl rfl rfl (by kernel_rfl) (by kernel_rfl) (by kernel_rfl) (fun _ _ _ _ _ h => calm_fin (P := Try.prog) (fn := Try.f8) _ _ _ _ _ h) (fun w hs => sat_pulls [0, 0, 0] (G := [] ++ F0) rfl hs) (q_load_own0 1 1 rfl rfl rfl rfl (at_some h109).2 (by kernel_rfl)) ?_
          refine aw_vals [5, 6] (f' := 14) (m' := 1597951) [3, 9, 10, 59, 65, 66, 67, 72, 73, 78, 79] [(3, .slice p97 l96.length c98), (9, .slice p103 l102.length c104), (10, .int .i64 x106), (59, .slice p103 l102.length c104), (65, .int .u8 (IntKind.u8.wrap (y108.fdiv (2 ^ 24)))), (66, .slice p97 l96.length c98), (67, .int .i64 x106), (72, .slice p97 l96.length c98), (73, .int .i64 x106), (78, .slice p97 l96.length c98), (79, .int .i64 x106)] (fun _ _ _ _ _ h => calm_fin (P := Try.prog) (fn := Try.f8) _ _ _ _ _ h) (fun w hs => sat_pulls [0, 0, 0] (G := [] ++ F0) rfl hs) rfl (by kernel_rfl) ?_
          obtain ⟨y110, h111, hF⟩ := bind_some hF
          refine aw_quiet 9 (m' := 1598463) (v := .pointer (some ((base p97).add (x106.toNat * 1)))) 24 [12, 11, 10, 9] rfl rfl rfl rfl (by kernel_rfl) (by kernel_rfl) (by kernel_rfl) (fun _ _ _ _ _ h => calm_fin (P := Try.prog) (fn := Try.f8) _ _ _ _ _ h) (fun w hs => sat_pulls [0, 0, 0] (G := [] ++ F0) rfl hs) (q_index_own 1 1 rfl rfl (by kernel_rfl) rfl rfl (at_some h111).1 (at_lt h111)) ?_
          refine aw_quiet 10 (m' := 1599487) (v := .int .i64 y110) 24 [12, 11, 10] rfl rfl rfl rfl (by kernel_rfl) (by kernel_rfl) (by kernel_rfl) (fun _ _ _ _ _ h => calm_fin (P := Try.prog) (fn := Try.f8) _ _ _ _ _ h) (fun w hs => sat_pulls [0, 0, 0] (G := [] ++ F0) rfl hs) (q_load_own0 1 1 rfl rfl rfl rfl (at_some h111).2 (by kernel_rfl)) ?_
          refine aw_vals [11, 12] (f' := 10) (m' := 1605631) [3, 9, 10, 59, 65, 71, 72, 73, 78, 79] [(3, .slice p97 l96.length c98), (9, .slice p103 l102.length c104), (10, .int .i64 x106), (59, .slice p103 l102.length c104), (65, .int .u8 (IntKind.u8.wrap (y108.fdiv (2 ^ 24)))), (71, .int .u8 (IntKind.u8.wrap (y110.fdiv (2 ^ 16)))), (72, .slice p97 l96.length c98), (73, .int .i64 x106), (78, .slice p97 l96.length c98), (79, .int .i64 x106)] (fun _ _ _ _ _ h => calm_fin (P := Try.prog) (fn := Try.f8) _ _ _ _ _ h) (fun w hs => sat_pulls [0, 0, 0] (G := [] ++ F0) rfl hs) rfl (by kernel_rfl) ?_
          obtain ⟨y112, h113, hF⟩ := bind_some hF
          refine aw_quiet 15 (m' := 1638399) (v := .pointer (some ((base p97).add (x106.toNat * 1)))) 24 [18, 17, 16, 15] rfl rfl rfl rfl (by kernel_rfl) (by kernel_rfl) (by kernel_rfl) (fun _ _ _ _ _ h => calm_fin (P := Try.prog) (fn := Try.f8) _ _ _ _ _ h) (fun w hs => sat_pulls [0, 0, 0] (G := [] ++ F0) rfl hs) (q_index_own 1 1 rfl rfl (by kernel_rfl) rfl rfl (at_some h113).1 (at_lt h113)) ?_
          refine aw_quiet 16 (m' := 1703935) (v := .int .i64 y112) 24 [18, 17, 16] rfl rfl rfl rfl (by kernel_rfl) (by kernel_rfl) (by kernel_rfl) (fun _ _ _ _ _ h => calm_fin (P := Try.prog) (fn := Try.f8) _ _ _ _ _ h) (fun w hs => sat_pulls [0, 0, 0] (G := [] ++ F0) rfl hs) (q_load_own0 1 1 rfl rfl rfl rfl (at_some h113).2 (by kernel_rfl)) ?_
          refine aw_vals [17, 18] (f' := 6) (m' := 2097151) [3, 9, 10, 59, 65, 71, 77, 78, 79] [(3, .slice p97 l96.length c98), (9, .slice p103 l102.length c104), (10, .int .i64 x106), (59, .slice p103 l102.length c104), (65, .int .u8 (IntKind.u8.wrap (y108.fdiv (2 ^ 24)))), (71, .int .u8 (IntKind.u8.wrap (y110.fdiv (2 ^ 16)))), (77, .int .u8 (IntKind.u8.wrap (y112.fdiv (2 ^ 8)))), (78, .slice p97 l96.length c98), (79, .int .i64 x106)] (fun _ _ _ _ _ h => calm_fin (P := Try.prog) (fn := Try.f8) _ _ _ _ _ h) (fun w hs => sat_pulls [0, 0, 0] (G := [] ++ F0) rfl hs) rfl (by kernel_rfl) ?_
          obtain ⟨y114, h115, hF⟩ := bind_some hF
          refine aw_quiet 21 (m' := 4194303) (v := .pointer (some ((base p97).add (x106.toNat * 1)))) 24 [23, 22, 21] rfl rfl rfl rfl (by kernel_rfl) (by kernel_rfl) (by kernel_rfl) (fun _ _ _ _ _ h => calm_fin (P := Try.prog) (fn := Try.f8) _ _ _ _ _ h) (fun w hs => sat_pulls [0, 0, 0] (G := [] ++ F0) rfl hs) (q_index_own 1 1 rfl rfl (by kernel_rfl) rfl rfl (at_some h115).1 (at_lt h115)) ?_
          refine aw_quiet 22 (m' := 8388607) (v := .int .i64 y114) 24 [23, 22] rfl rfl rfl rfl (by kernel_rfl) (by kernel_rfl) (by kernel_rfl) (fun _ _ _ _ _ h => calm_fin (P := Try.prog) (fn := Try.f8) _ _ _ _ _ h) (fun w hs => sat_pulls [0, 0, 0] (G := [] ++ F0) rfl hs) (q_load_own0 1 1 rfl rfl rfl rfl (at_some h115).2 (by kernel_rfl)) ?_
          refine aw_vals [23] (f' := 3) (m' := 16777215) [3, 9, 10, 59, 65, 71, 77, 82] [(3, .slice p97 l96.length c98), (9, .slice p103 l102.length c104), (10, .int .i64 x106), (59, .slice p103 l102.length c104), (65, .int .u8 (IntKind.u8.wrap (y108.fdiv (2 ^ 24)))), (71, .int .u8 (IntKind.u8.wrap (y110.fdiv (2 ^ 16)))), (77, .int .u8 (IntKind.u8.wrap (y112.fdiv (2 ^ 8)))), (82, .int .u8 (IntKind.u8.wrap (y114)))] (fun _ _ _ _ _ h => calm_fin (P := Try.prog) (fn := Try.f8) _ _ _ _ _ h) (fun w hs => sat_pulls [0, 0, 0] (G := [] ++ F0) rfl hs) rfl (by kernel_rfl) ?_
          refine aw_only 24 (m' := 33554431) (by kernel_rfl) (by kernel_rfl) (pw_buildSlice (E := 5) (eInt .u8) ([IntKind.u8.wrap (y108.fdiv (2 ^ 24)), IntKind.u8.wrap (y110.fdiv (2 ^ 16)), IntKind.u8.wrap (y112.fdiv (2 ^ 8)), IntKind.u8.wrap (y114)] : List Int) rfl rfl rfl rfl rfl (by kernel_rfl) rfl (by kernel_rfl) rfl (by decide) rfl fun p116 => aw_next (fun w hs => sat_pulls [1, 1, 1] (G := [own (eInt .u8) 5 p116 4 ([IntKind.u8.wrap (y108.fdiv (2 ^ 24)), IntKind.u8.wrap (y110.fdiv (2 ^ 16)), IntKind.u8.wrap (y112.fdiv (2 ^ 8)), IntKind.u8.wrap (y114)] : List Int)] ++ F0) rfl hs) ?_)
          obtain ⟨h118, hF⟩ := chk_some hF
          refine aw_only 25 (m' := 67108863) (by kernel_rfl) (by kernel_rfl) (pw_append 3 (l' := ([IntKind.u8.wrap (y108.fdiv (2 ^ 24)), IntKind.u8.wrap (y110.fdiv (2 ^ 16)), IntKind.u8.wrap (y112.fdiv (2 ^ 8)), IntKind.u8.wrap (y114)] : List Int)) rfl rfl rfl rfl rfl rfl (by kernel_rfl) (by kernel_rfl) rfl rfl rfl (src_own (E' := 5) 0 rfl (by kernel_rfl) rfl) rfl h118.1 h118.2 fun p119 c120 => nw_H (H' := [own (eInt .u8) 5 p116 4 ([IntKind.u8.wrap (y108.fdiv (2 ^ 24)), IntKind.u8.wrap (y110.fdiv (2 ^ 16)), IntKind.u8.wrap (y112.fdiv (2 ^ 8)), IntKind.u8.wrap (y114)] : List Int), imm J94, own (eInt .i64) 3 p97 c98 l96, own (eInt .u8) 5 p119 c120 (l102 ++ ([IntKind.u8.wrap (y108.fdiv (2 ^ 24)), IntKind.u8.wrap (y110.fdiv (2 ^ 16)), IntKind.u8.wrap (y112.fdiv (2 ^ 8)), IntKind.u8.wrap (y114)] : List Int))] ++ F0) rfl (aw_last (by kernel_rfl) ?_))
          refine aw_past (by kernel_rfl) ?_
          refine aw_vals [26] (f' := 0) (m' := 134217727) [3, 9, 10] [(3, .slice p97 l96.length c98), (9, .slice p119 (l102 ++ ([IntKind.u8.wrap (y108.fdiv (2 ^ 24)), IntKind.u8.wrap (y110.fdiv (2 ^ 16)), IntKind.u8.wrap (y112.fdiv (2 ^ 8)), IntKind.u8.wrap (y114)] : List Int)).length c120), (10, .int .i64 x106)] (fun _ _ _ _ _ h => calm_fin (P := Try.prog) (fn := Try.f8) _ _ _ _ _ h) (fun _ _ => trivial) rfl (by kernel_rfl) ?_
          refine aw_keep [3, 9, 10] (L' := [(3, .slice p97 l96.length c98), (9, .slice p119 (l102 ++ ([IntKind.u8.wrap (y108.fdiv (2 ^ 24)), IntKind.u8.wrap (y110.fdiv (2 ^ 16)), IntKind.u8.wrap (y112.fdiv (2 ^ 8)), IntKind.u8.wrap (y114)] : List Int)).length c120), (10, .int .i64 x106)]) rfl ?_
          refine aw_end (by kernel_rfl) ?_
          refine ew_blk ?_
          refine ew_then ?_
          refine cw_region ?_
          refine ow_vals 3 (j := 3) [3, 9, 10] [(3, .slice p97 l96.length c98), (9, .slice p119 (l102 ++ ([IntKind.u8.wrap (y108.fdiv (2 ^ 24)), IntKind.u8.wrap (y110.fdiv (2 ^ 16)), IntKind.u8.wrap (y112.fdiv (2 ^ 8)), IntKind.u8.wrap (y114)] : List Int)).length c120), (10, .int .i64 (IntKind.i64.wrap (x106 + 1)))] rfl (by kernel_rfl) ?_
          refine ow_end rfl ?_
          have hR := Option.some.inj hF
          subst hR
          have hR := hL101
          try dsimp only at hR
          exact fun a w hf hs => ⟨k, Nat.lt_succ_self k, l102 ++ ([IntKind.u8.wrap (y108.fdiv (2 ^ 24)), IntKind.u8.wrap (y110.fdiv (2 ^ 16)), IntKind.u8.wrap (y112.fdiv (2 ^ 8)), IntKind.u8.wrap (y114)] : List Int), IntKind.i64.wrap (x106 + 1), p119, c120, hR, hf.keep [3, 9, 10], sat_to [0, 0, 0, 0] 1 rfl hs⟩
        · refine cw_cond_f rfl rfl h107 ?_
          refine cw_exit ?_
          refine ew_then_exit ?_
          refine ew_then_exit ?_
          refine ew_blk_exit ?_
          have hR := Option.some.inj hF
          subst hR
          have hR := hL101
          try dsimp only at hR
          exact fun a w hf hs => ⟨l102, p103, c104, hR, hf.keep [9], sat_to [1, 0, 0] 1 rfl hs⟩
      · rintro a w ⟨l121, p122, c123, hv, hf, hs⟩
        subst hv
        replace hF := hK100
        clear hK100
        try dsimp only at hF
        revert a w
        show CW _ _ _ 87 [(9, .slice p122 l121.length c123)] (SAT w0 ([imm J94, own (eInt .u8) 5 p122 c123 l121] ++ F0))
        unfold F.ref02_Sum.r6 at hF
        refine cw_seq ?_
        refine cw_region ?_
        refine ow_vals 1 (j := 1) [85] [(85, .slice p122 l121.length c123)] rfl (by kernel_rfl) ?_
        refine ow_pw rfl (pw_quiet (v := .string (bstr l121)) rfl rfl rfl rfl (q_bytes_str_own 1 rfl rfl (by kernel_rfl) (by kernel_rfl) rfl) (nw_ow ?_))
        refine ow_vals 1 (j := 3) [2] [(2, .string (bstr l121))] rfl (by kernel_rfl) ?_
        refine ow_end rfl ?_
        refine ew_then ?_
        refine cw_ret ?_
        have hR := Option.some.inj hF
        subst hR
        exact fin1 (H1 := [imm J94]) (fun w hs => sat_to [1, 0] 1 rfl hs) rfl (rr_tmp rfl) ⟨J94, rfl, rfl, h95⟩


def F.law02_ShaSums (x0 : ByteArray) : Option Bool :=
  if decide ((x0.size : Int) > 300) then (chk (0 ≤ (0 : Int) ∧ (0 : Int) ≤ (300 : Int) ∧ (300 : Int) ≤ (x0.size : Int)) (Option.bind (F.sha_Sum (x0.extract (0 : Int).toNat (300 : Int).toNat)) (fun (r23 : ByteArray) => Option.bind (F.ref02_Sum (x0.extract (0 : Int).toNat (300 : Int).toNat)) (fun (r25 : ByteArray) => if seqB r23 r25 then (Option.bind (F.law02_awake) (fun (r28 : Bool) => some (r28))) else (some (false)))))) else (Option.bind (F.sha_Sum x0) (fun (r30 : ByteArray) => Option.bind (F.ref02_Sum x0) (fun (r32 : ByteArray) => if seqB r30 r32 then (Option.bind (F.law02_awake) (fun (r35 : Bool) => some (r35))) else (some (false)))))
set_option maxRecDepth 100000 in
set_option maxHeartbeats 4000000 in
theorem c_law02_ShaSums (I : Hl) (x0 : ByteArray) (res : Bool) (hF : F.law02_ShaSums x0 = some res) : Tr Try.prog 3 [.string x0] [imm I] (fun r H' => ∃ (J : Hl), r = .bool res ∧ H' = [imm J] ∧ Hl.sub I J) := by
  unfold F.law02_ShaSums at hF
  refine tr_of_cw (fn := Try.f3) Try.func3 rfl (Nat.le_of_ble_eq_true rfl) 16 rfl fun F0 w0 => ?_
  refine cw_keep [0] (L' := [(0, .string x0)]) rfl ?_
  refine cw_state (S' := SAT w0 ([imm I] ++ F0)) (fun w hs => hs) ?_
  refine cw_seq ?_
  refine cw_region ?_
  refine ow_vals 1 (j := 1) [0] [(0, .string x0)] rfl (by kernel_rfl) ?_
  refine ow_end rfl ?_
  refine ew_then ?_
  refine cw_seq ?_
  refine cw_seq ?_
  refine cw_region ?_
  refine ow_vals 3 (j := 3) [0, 5] [(0, .string x0), (5, .bool (decide ((x0.size : Int) > 300)))] rfl (by kernel_rfl) ?_
  refine ow_end rfl ?_
  refine ew_then ?_
  rcases if_some hF with ⟨h21, hF⟩ | ⟨h21, hF⟩
  · refine cw_cond_t rfl rfl h21 ?_
    refine cw_region ?_
    refine ow_vals 1 (j := 1) [6] [(6, .string x0)] rfl (by kernel_rfl) ?_
    obtain ⟨h22, hF⟩ := chk_some hF
    refine ow_pw rfl (pw_quiet (v := .string (x0.extract (0 : Int).toNat (300 : Int).toNat)) rfl rfl rfl rfl (q_slice_str rfl (by kernel_rfl) rfl rfl rfl h22.1 h22.2.1 h22.2.2) (nw_ow ?_))
    refine ow_vals 1 (j := 3) [0] [(0, .string (x0.extract (0 : Int).toNat (300 : Int).toNat))] rfl (by kernel_rfl) ?_
    refine ow_end rfl ?_
    refine ew_then ?_
    refine cw_seq ?_
    refine cw_region ?_
    refine ow_vals 1 (j := 1) [0, 8] [(0, .string (x0.extract (0 : Int).toNat (300 : Int).toNat)), (8, .string (x0.extract (0 : Int).toNat (300 : Int).toNat))] rfl (by kernel_rfl) ?_
    obtain ⟨r23, h24, hF⟩ := bind_some hF
    refine ow_pw rfl (pw_call (F := [] ++ F0) rfl rfl rfl rfl rfl rfl rfl (by kernel_rfl) (perm_of_pulls [0] rfl) (c_sha_Sum _ _ r23 h24) ?_)
    rintro _ _ ⟨rfl, rfl⟩
    refine nw_H (H' := [imm I] ++ F0) rfl (nw_ow ?_)
    refine ow_vals 1 (j := 3) [9, 10] [(9, .string r23), (10, .string (x0.extract (0 : Int).toNat (300 : Int).toNat))] rfl (by kernel_rfl) ?_
    obtain ⟨r25, h26, hF⟩ := bind_some hF
    refine ow_pw rfl (pw_call (F := [] ++ F0) rfl rfl rfl rfl rfl rfl rfl (by kernel_rfl) (perm_of_pulls [0] rfl) (c_ref02_Sum _ _ r25 h26) ?_)
    rintro _ _ ⟨r25_J, rfl, rfl, r25_hJ⟩
    refine nw_H (H' := [imm r25_J] ++ F0) rfl (nw_ow ?_)
    refine ow_vals 2 (j := 6) [13] [(13, .bool (seqB r23 r25))] rfl (by kernel_rfl) ?_
    rcases if_some hF with ⟨h27, hF⟩ | ⟨h27, hF⟩
    · refine ow_slots (L' := [(13, .bool true)]) (by rw [h27]) ?_
      obtain ⟨r28, h29, hF⟩ := bind_some hF
      refine ow_pw rfl (pw_call (F := [] ++ F0) rfl rfl rfl rfl rfl rfl rfl (by kernel_rfl) (perm_of_pulls [0] rfl) (c_law02_awake _ r28 h29) ?_)
      rintro _ _ ⟨rfl, rfl⟩
      refine nw_H (H' := [imm r25_J] ++ F0) rfl (nw_ow ?_)
      refine ow_vals 2 (j := 9) [2] [(2, .bool r28)] rfl (by kernel_rfl) ?_
      refine ow_end rfl ?_
      refine ew_then ?_
      refine cw_ret ?_
      have hR := Option.some.inj hF
      subst hR
      exact fin1 (H1 := [imm r25_J]) (fun w hs => sat_to [0] 0 rfl hs) rfl (rr_tmp rfl) ⟨r25_J, rfl, rfl, r25_hJ⟩
    · refine ow_slots (L' := [(13, .bool false)]) (by rw [h27]) ?_
      refine ow_vals 3 (j := 9) [2] [(2, .bool false)] rfl (by kernel_rfl) ?_
      refine ow_end rfl ?_
      refine ew_then ?_
      refine cw_ret ?_
      have hR := Option.some.inj hF
      subst hR
      exact fin1 (H1 := [imm r25_J]) (fun w hs => sat_to [0] 0 rfl hs) rfl (rr_tmp rfl) ⟨r25_J, rfl, rfl, r25_hJ⟩
  · refine cw_cond_f rfl rfl h21 ?_
    refine cw_skip ?_
    refine ew_then ?_
    refine cw_seq ?_
    refine cw_region ?_
    refine ow_vals 1 (j := 1) [0, 8] [(0, .string x0), (8, .string x0)] rfl (by kernel_rfl) ?_
    obtain ⟨r30, h31, hF⟩ := bind_some hF
    refine ow_pw rfl (pw_call (F := [] ++ F0) rfl rfl rfl rfl rfl rfl rfl (by kernel_rfl) (perm_of_pulls [0] rfl) (c_sha_Sum _ _ r30 h31) ?_)
    rintro _ _ ⟨rfl, rfl⟩
    refine nw_H (H' := [imm I] ++ F0) rfl (nw_ow ?_)
    refine ow_vals 1 (j := 3) [9, 10] [(9, .string r30), (10, .string x0)] rfl (by kernel_rfl) ?_
    obtain ⟨r32, h33, hF⟩ := bind_some hF
    refine ow_pw rfl (pw_call (F := [] ++ F0) rfl rfl rfl rfl rfl rfl rfl (by kernel_rfl) (perm_of_pulls [0] rfl) (c_ref02_Sum _ _ r32 h33) ?_)
    rintro _ _ ⟨r32_J, rfl, rfl, r32_hJ⟩
    refine nw_H (H' := [imm r32_J] ++ F0) rfl (nw_ow ?_)
    refine ow_vals 2 (j := 6) [13] [(13, .bool (seqB r30 r32))] rfl (by kernel_rfl) ?_
    rcases if_some hF with ⟨h34, hF⟩ | ⟨h34, hF⟩
    · refine ow_slots (L' := [(13, .bool true)]) (by rw [h34]) ?_
      obtain ⟨r35, h36, hF⟩ := bind_some hF
      refine ow_pw rfl (pw_call (F := [] ++ F0) rfl rfl rfl rfl rfl rfl rfl (by kernel_rfl) (perm_of_pulls [0] rfl) (c_law02_awake _ r35 h36) ?_)
      rintro _ _ ⟨rfl, rfl⟩
      refine nw_H (H' := [imm r32_J] ++ F0) rfl (nw_ow ?_)
      refine ow_vals 2 (j := 9) [2] [(2, .bool r35)] rfl (by kernel_rfl) ?_
      refine ow_end rfl ?_
      refine ew_then ?_
      refine cw_ret ?_
      have hR := Option.some.inj hF
      subst hR
      exact fin1 (H1 := [imm r32_J]) (fun w hs => sat_to [0] 0 rfl hs) rfl (rr_tmp rfl) ⟨r32_J, rfl, rfl, r32_hJ⟩
    · refine ow_slots (L' := [(13, .bool false)]) (by rw [h34]) ?_
      refine ow_vals 3 (j := 9) [2] [(2, .bool false)] rfl (by kernel_rfl) ?_
      refine ow_end rfl ?_
      refine ew_then ?_
      refine cw_ret ?_
      have hR := Option.some.inj hF
      subst hR
      exact fin1 (H1 := [imm r32_J]) (fun w hs => sat_to [0] 0 rfl hs) rfl (rr_tmp rfl) ⟨r32_J, rfl, rfl, r32_hJ⟩

end Go.Proofs.Ytadhamgijkbgeaa
