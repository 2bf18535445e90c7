/- What the functions compute, and that the code computes it: printed by a program of this claim (wip/tools), for the group Batch. -/
import Derived.Test.YtoamnhmdhficiaaGMill
namespace Go.Proofs.Ytoamnhmdhficiaa
set_option linter.all false
open Go Go.RowKit Go.Fw
set_option linter.unusedVariables false

structure batch_Proof where
  Size : Int
  Picks : List Int
  Leaf : List ByteArray
  Nodes : List ByteArray

structure batch_climber where
  leaf_ : List ByteArray
  nodes_ : List ByteArray
  bad_ : Bool

def F.batch_rising.l1 (x0 : List Int) (x1 : Int) (x23 : Int) (x24 : Int) : Option ((Int × Int) ⊕ ((Unit) ⊕ (Bool))) :=
  if decide (x24 < (x0.length : Int)) then (Option.bind (at_ x0 x24) (fun (y26 : Int) => if decide (y26 ≤ x23) then (some (.inr (.inr (false)))) else (if decide (y26 ≥ x1) then (some (.inr (.inr (false)))) else (some (.inl (y26, IntKind.i64.wrap (x24 + 1))))))) else (some (.inr (.inl ())))
def F.batch_rising.r2 : Option (Bool) :=
  some (true)
def F.batch_rising (x0 : List Int) (x1 : Int) : Option Bool :=
  thru (iter (fun x => F.batch_rising.l1 x0 x1 x.1 x.2) FUEL ((-1), 0)) (fun x => F.batch_rising.r2)
set_option maxRecDepth 100000 in
set_option maxHeartbeats 4000000 in
theorem c_batch_rising (I : Hl) (x0 : List Int) (x1 : Int) (p0 : Option Addr) (c0 : Nat) (res : Bool) (hF : F.batch_rising x0 x1 = some res) (hr0 : ro I (eInt .i64) p0 c0 x0) : Tr Try.prog 29 [.slice p0 x0.length c0, .int .i64 x1] [imm I] (fun r H' => r = .bool res ∧ H' = [imm I]) := by
  unfold F.batch_rising at hF
  refine tr_of_cw (fn := Try.f29) Try.func29 rfl (Nat.le_of_ble_eq_true rfl) 24 rfl fun F0 w0 => ?_
  refine cw_keep [0, 1] (L' := [(0, .slice p0 x0.length c0), (1, .int .i64 x1)]) rfl ?_
  refine cw_state (S' := SAT w0 ([imm I] ++ F0)) (fun w hs => hs) ?_
  refine cw_seq ?_
  refine cw_region ?_
  refine ow_vals 1 (j := 1) [0, 1] [(0, .slice p0 x0.length c0), (1, .int .i64 x1)] rfl (by kernel_rfl) ?_
  refine ow_end rfl ?_
  refine ew_then ?_
  refine cw_seq ?_
  refine cw_region ?_
  refine ow_vals 1 (j := 1) [0, 1, 5] [(0, .slice p0 x0.length c0), (1, .int .i64 x1), (5, .int .i64 (-1))] rfl (by kernel_rfl) ?_
  refine ow_end rfl ?_
  refine ew_then ?_
  obtain ⟨v21, hF, hK21⟩ := thru_some hF
  refine cw_mid (fun a w => .inl () = v21 ∧ Fr 24 [] a ∧ SAT w0 ([imm I] ++ F0) w) ?_ ?_
  · refine cw_seq ?_
    refine cw_region ?_
    refine ow_vals 3 (j := 3) [1, 5, 8, 9, 10] [(1, .int .i64 x1), (5, .int .i64 (-1)), (8, .slice p0 x0.length c0), (9, .int .i64 (x0.length : Int)), (10, .int .i64 0)] rfl (by kernel_rfl) ?_
    refine ow_end rfl ?_
    refine ew_then ?_
    refine cw_block ?_
    refine fun a w hf hs => wp_rounds (fun k a w => ∃ (x23 : Int), ∃ (x24 : Int), iter (fun x => F.batch_rising.l1 x0 x1 x.1 x.2) k (x23, x24) = some v21 ∧ Fr 24 [(1, .int .i64 x1), (5, .int .i64 x23), (8, .slice p0 x0.length c0), (9, .int .i64 (x0.length : Int)), (10, .int .i64 x24)] a ∧ SAT w0 ([imm I] ++ F0) w) ?_ FUEL a w ⟨(-1), 0, hF, hf.keep [1, 5, 8, 9, 10], sat_to [0] 0 rfl hs⟩
    clear hf hs
    clear a w hF
    rintro k a w ⟨x23, x24, hF2, hf, hs⟩
    obtain ⟨k, r22, rfl, hF, hL22⟩ := iter_some hF2
    clear hF2
    revert a w
    show CW _ _ _ 24 [(1, .int .i64 x1), (5, .int .i64 x23), (8, .slice p0 x0.length c0), (9, .int .i64 (x0.length : Int)), (10, .int .i64 x24)] (SAT w0 ([imm I] ++ F0))
    try dsimp only at hF
    unfold F.batch_rising.l1 at hF
    refine cw_seq ?_
    refine cw_region ?_
    refine ow_vals 1 (j := 1) [1, 5, 8, 9, 10, 11] [(1, .int .i64 x1), (5, .int .i64 x23), (8, .slice p0 x0.length c0), (9, .int .i64 (x0.length : Int)), (10, .int .i64 x24), (11, .bool (decide (x24 < (x0.length : Int))))] rfl (by kernel_rfl) ?_
    refine ow_end rfl ?_
    refine ew_then ?_
    refine cw_seq ?_
    rcases if_some hF with ⟨h25, hF⟩ | ⟨h25, hF⟩
    · refine cw_cond_t rfl rfl h25 ?_
      refine cw_skip ?_
      refine ew_then ?_
      refine cw_seq ?_
      refine cw_block ?_
      refine cw_seq ?_
      refine cw_region ?_
      obtain ⟨y26, h27, hF⟩ := bind_some hF
      refine ow_pw rfl (pw_index_ro (E := 3) 1 hr0 rfl rfl rfl rfl rfl (by kernel_rfl) rfl rfl rfl h27 fun q28 h29 => nw_ow ?_)
      refine ow_pw rfl (pw_quiet (v := .int .i64 y26) rfl rfl rfl rfl (q_load_el0 0 rfl h29 rfl rfl (by kernel_rfl)) (nw_ow ?_))
      refine ow_vals 1 (j := 3) [1, 5, 7, 8, 9, 10] [(1, .int .i64 x1), (5, .int .i64 x23), (7, .int .i64 y26), (8, .slice p0 x0.length c0), (9, .int .i64 (x0.length : Int)), (10, .int .i64 x24)] rfl (by kernel_rfl) ?_
      refine ow_end rfl ?_
      refine ew_then ?_
      refine cw_seq ?_
      refine cw_seq ?_
      refine cw_region ?_
      refine ow_vals 4 (j := 4) [1, 7, 8, 9, 10, 17] [(1, .int .i64 x1), (7, .int .i64 y26), (8, .slice p0 x0.length c0), (9, .int .i64 (x0.length : Int)), (10, .int .i64 x24), (17, .bool (decide (y26 ≤ x23)))] rfl (by kernel_rfl) ?_
      rcases if_some hF with ⟨h30, hF⟩ | ⟨h30, hF⟩
      · refine ow_slots (L' := [(1, .int .i64 x1), (7, .int .i64 y26), (8, .slice p0 x0.length c0), (9, .int .i64 (x0.length : Int)), (10, .int .i64 x24), (17, .bool true)]) (by rw [h30]) ?_
        refine ow_vals 4 (j := 8) [1, 7, 8, 9, 10, 21] [(1, .int .i64 x1), (7, .int .i64 y26), (8, .slice p0 x0.length c0), (9, .int .i64 (x0.length : Int)), (10, .int .i64 x24), (21, .bool true)] rfl (by kernel_rfl) ?_
        refine ow_end rfl ?_
        refine ew_then ?_
        refine cw_cond_t rfl rfl rfl ?_
        refine cw_seq ?_
        refine cw_region ?_
        refine ow_vals 1 (j := 1) [4] [(4, .bool false)] rfl (by kernel_rfl) ?_
        refine ow_end rfl ?_
        refine ew_then ?_
        refine cw_ret ?_
        refine ew_then_ret ?_
        refine ew_blk_ret ?_
        refine ew_then_ret ?_
        refine ew_then_ret ?_
        refine ew_blk_ret ?_
        refine ew_then_ret ?_
        have hR := Option.some.inj hF
        subst hR
        have hR := hL22
        try dsimp only at hR
        subst hR
        have hR := hK21
        try dsimp only [Thru] at hR
        subst hR
        exact fin1 (H1 := [imm I]) (fun w hs => sat_to [0] 0 rfl hs) rfl (rr_tmp rfl) ⟨rfl, rfl⟩
      · refine ow_slots (L' := [(1, .int .i64 x1), (7, .int .i64 y26), (8, .slice p0 x0.length c0), (9, .int .i64 (x0.length : Int)), (10, .int .i64 x24), (17, .bool false)]) (by rw [h30]) ?_
        refine ow_vals 4 (j := 8) [1, 7, 8, 9, 10, 21] [(1, .int .i64 x1), (7, .int .i64 y26), (8, .slice p0 x0.length c0), (9, .int .i64 (x0.length : Int)), (10, .int .i64 x24), (21, .bool (decide (y26 ≥ x1)))] rfl (by kernel_rfl) ?_
        refine ow_end rfl ?_
        refine ew_then ?_
        rcases if_some hF with ⟨h31, hF⟩ | ⟨h31, hF⟩
        · refine cw_cond_t rfl rfl h31 ?_
          refine cw_seq ?_
          refine cw_region ?_
          refine ow_vals 1 (j := 1) [4] [(4, .bool false)] rfl (by kernel_rfl) ?_
          refine ow_end rfl ?_
          refine ew_then ?_
          refine cw_ret ?_
          refine ew_then_ret ?_
          refine ew_blk_ret ?_
          refine ew_then_ret ?_
          refine ew_then_ret ?_
          refine ew_blk_ret ?_
          refine ew_then_ret ?_
          have hR := Option.some.inj hF
          subst hR
          have hR := hL22
          try dsimp only at hR
          subst hR
          have hR := hK21
          try dsimp only [Thru] at hR
          subst hR
          exact fin1 (H1 := [imm I]) (fun w hs => sat_to [0] 0 rfl hs) rfl (rr_tmp rfl) ⟨rfl, rfl⟩
        · refine cw_cond_f rfl rfl h31 ?_
          refine cw_skip ?_
          refine ew_then ?_
          refine cw_region ?_
          refine ow_vals 2 (j := 2) [1, 5, 8, 9, 10] [(1, .int .i64 x1), (5, .int .i64 y26), (8, .slice p0 x0.length c0), (9, .int .i64 (x0.length : Int)), (10, .int .i64 x24)] rfl (by kernel_rfl) ?_
          refine ow_end rfl ?_
          refine ew_blk ?_
          refine ew_then ?_
          refine cw_region ?_
          refine ow_vals 2 (j := 2) [1, 5, 8, 9, 10] [(1, .int .i64 x1), (5, .int .i64 y26), (8, .slice p0 x0.length c0), (9, .int .i64 (x0.length : Int)), (10, .int .i64 (IntKind.i64.wrap (x24 + 1)))] rfl (by kernel_rfl) ?_
          refine ow_end rfl ?_
          have hR := Option.some.inj hF
          subst hR
          have hR := hL22
          try dsimp only at hR
          exact fun a w hf hs => ⟨k, Nat.lt_succ_self k, y26, IntKind.i64.wrap (x24 + 1), hR, hf.keep [1, 5, 8, 9, 10], sat_to [0] 0 rfl hs⟩
    · refine cw_cond_f rfl rfl h25 ?_
      refine cw_exit ?_
      refine ew_then_exit ?_
      refine ew_then_exit ?_
      refine ew_blk_exit ?_
      have hR := Option.some.inj hF
      subst hR
      have hR := hL22
      try dsimp only at hR
      exact fun a w hf hs => ⟨hR, hf.keep [], sat_to [0] 0 rfl hs⟩
  · rintro a w ⟨hv, hf, hs⟩
    subst hv
    replace hF := hK21
    clear hK21
    try dsimp only [Thru] at hF
    revert a w
    show CW _ _ _ 24 [] (SAT w0 ([imm I] ++ F0))
    unfold F.batch_rising.r2 at hF
    refine cw_seq ?_
    refine cw_region ?_
    refine ow_vals 1 (j := 1) [4] [(4, .bool true)] rfl (by kernel_rfl) ?_
    refine ow_end rfl ?_
    refine ew_then ?_
    refine cw_ret ?_
    have hR := Option.some.inj hF
    subst hR
    exact fin1 (H1 := [imm I]) (fun w hs => sat_to [0] 0 rfl hs) rfl (rr_tmp rfl) ⟨rfl, rfl⟩


def F.batch_Right.l2 (x0 : batch_Proof) (x36 : Int) : Option ((Int) ⊕ ((Unit) ⊕ ((Unit) ⊕ (Bool)))) :=
  if decide (x36 < (x0.Leaf.length : Int)) then (Option.bind (at_ x0.Leaf x36) (fun (y38 : ByteArray) => if (y38.size : Int) != 32 then (some (.inr (.inr (.inr (false))))) else (some (.inl (IntKind.i64.wrap (x36 + 1)))))) else (some (.inr (.inl ())))
def F.batch_Right.l4 (x0 : batch_Proof) (x45 : Int) : Option ((Int) ⊕ ((Unit) ⊕ ((Unit) ⊕ (Bool)))) :=
  if decide (x45 < (x0.Nodes.length : Int)) then (Option.bind (at_ x0.Nodes x45) (fun (y47 : ByteArray) => if (y47.size : Int) != 32 then (some (.inr (.inr (.inr (false))))) else (some (.inl (IntKind.i64.wrap (x45 + 1)))))) else (some (.inr (.inl ())))
def F.batch_Right.r5 : Option ((Unit) ⊕ (Bool)) :=
  some (.inl ())
def F.batch_Right.r3 (x0 : batch_Proof) : Option ((Unit) ⊕ (Bool)) :=
  thru (iter (fun x => F.batch_Right.l4 x0 x) FUEL 0) (fun x => F.batch_Right.r5)
def F.batch_Right.r6 : Option (Bool) :=
  some (true)
def F.batch_Right.r1 (x0 : batch_Proof) : Option (Bool) :=
  thru (thru (iter (fun x => F.batch_Right.l2 x0 x) FUEL 0) (fun x => F.batch_Right.r3 x0)) (fun x => F.batch_Right.r6)
def F.batch_Right (x0 : batch_Proof) : Option Bool :=
  thru (if decide (x0.Size < 1) then (some (.inr (false))) else (if decide (x0.Size > 65536) then (some (.inr (false))) else (if decide ((x0.Picks.length : Int) < 1) then (some (.inr (false))) else (if decide ((x0.Picks.length : Int) > 64) then (some (.inr (false))) else (if (x0.Leaf.length : Int) != (x0.Picks.length : Int) then (some (.inr (false))) else (if decide ((x0.Nodes.length : Int) > 1024) then (some (.inr (false))) else (Option.bind (F.batch_rising x0.Picks x0.Size) (fun (r30 : Bool) => if !r30 then (some (.inr (false))) else (some (.inl ())))))))))) (fun x => F.batch_Right.r1 x0)
set_option maxRecDepth 100000 in
set_option maxHeartbeats 4000000 in
theorem c_batch_Right (I : Hl) (x0 : batch_Proof) (p0 : Option Addr) (c0 : Nat) (p1 : Option Addr) (c1 : Nat) (p2 : Option Addr) (c2 : Nat) (res : Bool) (hF : F.batch_Right x0 = some res) (hr0 : ro I (eInt .i64) p0 c0 x0.Picks) (hr1 : ro I eStr p1 c1 x0.Leaf) (hr2 : ro I eStr p2 c2 x0.Nodes) : Tr Try.prog 11 [.agg #[.int .i64 x0.Size, .slice p0 x0.Picks.length c0, .slice p1 x0.Leaf.length c1, .slice p2 x0.Nodes.length c2]] [imm I] (fun r H' => r = .bool res ∧ H' = [imm I]) := by
  unfold F.batch_Right at hF
  refine tr_of_cw (fn := Try.f11) Try.func11 rfl (Nat.le_of_ble_eq_true rfl) 69 rfl fun F0 w0 => ?_
  refine cw_keep [0] (L' := [(0, .agg #[.int .i64 x0.Size, .slice p0 x0.Picks.length c0, .slice p1 x0.Leaf.length c1, .slice p2 x0.Nodes.length c2])]) rfl ?_
  refine cw_state (S' := SAT w0 ([imm I] ++ F0)) (fun w hs => hs) ?_
  refine cw_seq ?_
  refine cw_region ?_
  refine ow_pw rfl (pw_box (cs := #[.int .i64 x0.Size, .slice p0 x0.Picks.length c0, .slice p1 x0.Leaf.length c1, .slice p2 x0.Nodes.length c2]) rfl rfl rfl rfl rfl rfl fun b21 => nw_ow ?_)
  refine ow_vals 1 (j := 2) [1] [(1, .pointer (some ⟨b21, 0, none⟩))] rfl (by kernel_rfl) ?_
  refine ow_end rfl ?_
  refine ew_then ?_
  obtain ⟨v23, hF, hK23⟩ := thru_some hF
  refine cw_mid (fun a w => .inl () = v23 ∧ Fr 69 [(1, .pointer (some ⟨b21, 0, none⟩))] a ∧ SAT w0 ([imm I, pt b21 #[.int .i64 x0.Size, .slice p0 x0.Picks.length c0, .slice p1 x0.Leaf.length c1, .slice p2 x0.Nodes.length c2] 25] ++ F0) w) ?_ ?_
  · refine cw_seq ?_
    refine cw_region ?_
    refine ow_vals 1 (j := 1) [1, 7] [(1, .pointer (some ⟨b21, 0, none⟩)), (7, .pointer (some ⟨b21, 0, none⟩))] rfl (by kernel_rfl) ?_
    refine ow_pw rfl (pw_quiet (v := .int .i64 x0.Size) rfl rfl rfl rfl (q_load 0 rfl rfl rfl (by kernel_rfl)) (nw_ow ?_))
    refine ow_vals 2 (j := 4) [1, 10] [(1, .pointer (some ⟨b21, 0, none⟩)), (10, .bool (decide (x0.Size < 1)))] rfl (by kernel_rfl) ?_
    rcases if_some hF with ⟨h24, hF⟩ | ⟨h24, hF⟩
    · refine ow_slots (L' := [(1, .pointer (some ⟨b21, 0, none⟩)), (10, .bool true)]) (by rw [h24]) ?_
      refine ow_vals 39 (j := 43) [1, 49] [(1, .pointer (some ⟨b21, 0, none⟩)), (49, .bool true)] rfl (by kernel_rfl) ?_
      refine ow_end rfl ?_
      refine ew_then ?_
      refine cw_cond_t rfl rfl rfl ?_
      refine cw_seq ?_
      refine cw_region ?_
      refine ow_vals 1 (j := 1) [2] [(2, .bool false)] rfl (by kernel_rfl) ?_
      refine ow_end rfl ?_
      refine ew_then ?_
      refine cw_ret ?_
      refine ew_then_ret ?_
      have hR := Option.some.inj hF
      subst hR
      have hR := hK23
      try dsimp only [Thru] at hR
      subst hR
      exact fin1 (H1 := [imm I]) (fun w hs => sat_to [0, 0] 1 rfl hs) rfl (rr_tmp rfl) ⟨rfl, rfl⟩
    · refine ow_slots (L' := [(1, .pointer (some ⟨b21, 0, none⟩)), (10, .bool false)]) (by rw [h24]) ?_
      refine ow_vals 1 (j := 5) [1, 10, 11] [(1, .pointer (some ⟨b21, 0, none⟩)), (10, .bool false), (11, .pointer (some ⟨b21, 0, none⟩))] rfl (by kernel_rfl) ?_
      refine ow_pw rfl (pw_quiet (v := .int .i64 x0.Size) rfl rfl rfl rfl (q_load 0 rfl rfl rfl (by kernel_rfl)) (nw_ow ?_))
      refine ow_vals 3 (j := 9) [1, 15] [(1, .pointer (some ⟨b21, 0, none⟩)), (15, .bool (decide (x0.Size > 65536)))] rfl (by kernel_rfl) ?_
      rcases if_some hF with ⟨h25, hF⟩ | ⟨h25, hF⟩
      · refine ow_slots (L' := [(1, .pointer (some ⟨b21, 0, none⟩)), (15, .bool true)]) (by rw [h25]) ?_
        refine ow_vals 34 (j := 43) [1, 49] [(1, .pointer (some ⟨b21, 0, none⟩)), (49, .bool true)] rfl (by kernel_rfl) ?_
        refine ow_end rfl ?_
        refine ew_then ?_
        refine cw_cond_t rfl rfl rfl ?_
        refine cw_seq ?_
        refine cw_region ?_
        refine ow_vals 1 (j := 1) [2] [(2, .bool false)] rfl (by kernel_rfl) ?_
        refine ow_end rfl ?_
        refine ew_then ?_
        refine cw_ret ?_
        refine ew_then_ret ?_
        have hR := Option.some.inj hF
        subst hR
        have hR := hK23
        try dsimp only [Thru] at hR
        subst hR
        exact fin1 (H1 := [imm I]) (fun w hs => sat_to [0, 0] 1 rfl hs) rfl (rr_tmp rfl) ⟨rfl, rfl⟩
      · refine ow_slots (L' := [(1, .pointer (some ⟨b21, 0, none⟩)), (15, .bool false)]) (by rw [h25]) ?_
        refine ow_vals 1 (j := 10) [1, 15, 16] [(1, .pointer (some ⟨b21, 0, none⟩)), (15, .bool false), (16, .pointer (some ⟨b21, 1, none⟩))] rfl (by kernel_rfl) ?_
        refine ow_pw rfl (pw_quiet (v := .slice p0 x0.Picks.length c0) rfl rfl rfl rfl (q_load 0 rfl rfl rfl (by kernel_rfl)) (nw_ow ?_))
        refine ow_vals 4 (j := 15) [1, 21] [(1, .pointer (some ⟨b21, 0, none⟩)), (21, .bool (decide ((x0.Picks.length : Int) < 1)))] rfl (by kernel_rfl) ?_
        rcases if_some hF with ⟨h26, hF⟩ | ⟨h26, hF⟩
        · refine ow_slots (L' := [(1, .pointer (some ⟨b21, 0, none⟩)), (21, .bool true)]) (by rw [h26]) ?_
          refine ow_vals 28 (j := 43) [1, 49] [(1, .pointer (some ⟨b21, 0, none⟩)), (49, .bool true)] rfl (by kernel_rfl) ?_
          refine ow_end rfl ?_
          refine ew_then ?_
          refine cw_cond_t rfl rfl rfl ?_
          refine cw_seq ?_
          refine cw_region ?_
          refine ow_vals 1 (j := 1) [2] [(2, .bool false)] rfl (by kernel_rfl) ?_
          refine ow_end rfl ?_
          refine ew_then ?_
          refine cw_ret ?_
          refine ew_then_ret ?_
          have hR := Option.some.inj hF
          subst hR
          have hR := hK23
          try dsimp only [Thru] at hR
          subst hR
          exact fin1 (H1 := [imm I]) (fun w hs => sat_to [0, 0] 1 rfl hs) rfl (rr_tmp rfl) ⟨rfl, rfl⟩
        · refine ow_slots (L' := [(1, .pointer (some ⟨b21, 0, none⟩)), (21, .bool false)]) (by rw [h26]) ?_
          refine ow_vals 1 (j := 16) [1, 21, 22] [(1, .pointer (some ⟨b21, 0, none⟩)), (21, .bool false), (22, .pointer (some ⟨b21, 1, none⟩))] rfl (by kernel_rfl) ?_
          refine ow_pw rfl (pw_quiet (v := .slice p0 x0.Picks.length c0) rfl rfl rfl rfl (q_load 0 rfl rfl rfl (by kernel_rfl)) (nw_ow ?_))
          refine ow_vals 4 (j := 21) [1, 27] [(1, .pointer (some ⟨b21, 0, none⟩)), (27, .bool (decide ((x0.Picks.length : Int) > 64)))] rfl (by kernel_rfl) ?_
          rcases if_some hF with ⟨h27, hF⟩ | ⟨h27, hF⟩
          · refine ow_slots (L' := [(1, .pointer (some ⟨b21, 0, none⟩)), (27, .bool true)]) (by rw [h27]) ?_
            refine ow_vals 22 (j := 43) [1, 49] [(1, .pointer (some ⟨b21, 0, none⟩)), (49, .bool true)] rfl (by kernel_rfl) ?_
            refine ow_end rfl ?_
            refine ew_then ?_
            refine cw_cond_t rfl rfl rfl ?_
            refine cw_seq ?_
            refine cw_region ?_
            refine ow_vals 1 (j := 1) [2] [(2, .bool false)] rfl (by kernel_rfl) ?_
            refine ow_end rfl ?_
            refine ew_then ?_
            refine cw_ret ?_
            refine ew_then_ret ?_
            have hR := Option.some.inj hF
            subst hR
            have hR := hK23
            try dsimp only [Thru] at hR
            subst hR
            exact fin1 (H1 := [imm I]) (fun w hs => sat_to [0, 0] 1 rfl hs) rfl (rr_tmp rfl) ⟨rfl, rfl⟩
          · refine ow_slots (L' := [(1, .pointer (some ⟨b21, 0, none⟩)), (27, .bool false)]) (by rw [h27]) ?_
            refine ow_vals 1 (j := 22) [1, 27, 28] [(1, .pointer (some ⟨b21, 0, none⟩)), (27, .bool false), (28, .pointer (some ⟨b21, 2, none⟩))] rfl (by kernel_rfl) ?_
            refine ow_pw rfl (pw_quiet (v := .slice p1 x0.Leaf.length c1) rfl rfl rfl rfl (q_load 0 rfl rfl rfl (by kernel_rfl)) (nw_ow ?_))
            refine ow_vals 2 (j := 25) [1, 27, 30, 31] [(1, .pointer (some ⟨b21, 0, none⟩)), (27, .bool false), (30, .int .i64 (x0.Leaf.length : Int)), (31, .pointer (some ⟨b21, 1, none⟩))] rfl (by kernel_rfl) ?_
            refine ow_pw rfl (pw_quiet (v := .slice p0 x0.Picks.length c0) rfl rfl rfl rfl (q_load 0 rfl rfl rfl (by kernel_rfl)) (nw_ow ?_))
            refine ow_vals 4 (j := 30) [1, 36] [(1, .pointer (some ⟨b21, 0, none⟩)), (36, .bool ((x0.Leaf.length : Int) != (x0.Picks.length : Int)))] rfl (by kernel_rfl) ?_
            rcases if_some hF with ⟨h28, hF⟩ | ⟨h28, hF⟩
            · refine ow_slots (L' := [(1, .pointer (some ⟨b21, 0, none⟩)), (36, .bool true)]) (by rw [h28]) ?_
              refine ow_vals 13 (j := 43) [1, 49] [(1, .pointer (some ⟨b21, 0, none⟩)), (49, .bool true)] rfl (by kernel_rfl) ?_
              refine ow_end rfl ?_
              refine ew_then ?_
              refine cw_cond_t rfl rfl rfl ?_
              refine cw_seq ?_
              refine cw_region ?_
              refine ow_vals 1 (j := 1) [2] [(2, .bool false)] rfl (by kernel_rfl) ?_
              refine ow_end rfl ?_
              refine ew_then ?_
              refine cw_ret ?_
              refine ew_then_ret ?_
              have hR := Option.some.inj hF
              subst hR
              have hR := hK23
              try dsimp only [Thru] at hR
              subst hR
              exact fin1 (H1 := [imm I]) (fun w hs => sat_to [0, 0] 1 rfl hs) rfl (rr_tmp rfl) ⟨rfl, rfl⟩
            · refine ow_slots (L' := [(1, .pointer (some ⟨b21, 0, none⟩)), (36, .bool false)]) (by rw [h28]) ?_
              refine ow_vals 1 (j := 31) [1, 36, 37] [(1, .pointer (some ⟨b21, 0, none⟩)), (36, .bool false), (37, .pointer (some ⟨b21, 3, none⟩))] rfl (by kernel_rfl) ?_
              refine ow_pw rfl (pw_quiet (v := .slice p2 x0.Nodes.length c2) rfl rfl rfl rfl (q_load 0 rfl rfl rfl (by kernel_rfl)) (nw_ow ?_))
              refine ow_vals 4 (j := 36) [1, 42] [(1, .pointer (some ⟨b21, 0, none⟩)), (42, .bool (decide ((x0.Nodes.length : Int) > 1024)))] rfl (by kernel_rfl) ?_
              rcases if_some hF with ⟨h29, hF⟩ | ⟨h29, hF⟩
              · refine ow_slots (L' := [(1, .pointer (some ⟨b21, 0, none⟩)), (42, .bool true)]) (by rw [h29]) ?_
                refine ow_vals 7 (j := 43) [1, 49] [(1, .pointer (some ⟨b21, 0, none⟩)), (49, .bool true)] rfl (by kernel_rfl) ?_
                refine ow_end rfl ?_
                refine ew_then ?_
                refine cw_cond_t rfl rfl rfl ?_
                refine cw_seq ?_
                refine cw_region ?_
                refine ow_vals 1 (j := 1) [2] [(2, .bool false)] rfl (by kernel_rfl) ?_
                refine ow_end rfl ?_
                refine ew_then ?_
                refine cw_ret ?_
                refine ew_then_ret ?_
                have hR := Option.some.inj hF
                subst hR
                have hR := hK23
                try dsimp only [Thru] at hR
                subst hR
                exact fin1 (H1 := [imm I]) (fun w hs => sat_to [0, 0] 1 rfl hs) rfl (rr_tmp rfl) ⟨rfl, rfl⟩
              · refine ow_slots (L' := [(1, .pointer (some ⟨b21, 0, none⟩)), (42, .bool false)]) (by rw [h29]) ?_
                refine ow_vals 1 (j := 37) [1, 42, 43] [(1, .pointer (some ⟨b21, 0, none⟩)), (42, .bool false), (43, .pointer (some ⟨b21, 1, none⟩))] rfl (by kernel_rfl) ?_
                refine ow_pw rfl (pw_quiet (v := .slice p0 x0.Picks.length c0) rfl rfl rfl rfl (q_load 0 rfl rfl rfl (by kernel_rfl)) (nw_ow ?_))
                refine ow_vals 1 (j := 39) [1, 42, 44, 45] [(1, .pointer (some ⟨b21, 0, none⟩)), (42, .bool false), (44, .slice p0 x0.Picks.length c0), (45, .pointer (some ⟨b21, 0, none⟩))] rfl (by kernel_rfl) ?_
                refine ow_pw rfl (pw_quiet (v := .int .i64 x0.Size) rfl rfl rfl rfl (q_load 0 rfl rfl rfl (by kernel_rfl)) (nw_ow ?_))
                obtain ⟨r30, h31, hF⟩ := bind_some hF
                refine ow_pw rfl (pw_call (F := [pt b21 #[.int .i64 x0.Size, .slice p0 x0.Picks.length c0, .slice p1 x0.Leaf.length c1, .slice p2 x0.Nodes.length c2] 25] ++ F0) rfl rfl rfl rfl rfl rfl rfl (by kernel_rfl) (perm_of_pulls [1] rfl) (c_batch_rising _ x0.Picks x0.Size p0 c0 r30 h31 hr0) ?_)
                rintro _ _ ⟨rfl, rfl⟩
                refine nw_H (H' := [imm I, pt b21 #[.int .i64 x0.Size, .slice p0 x0.Picks.length c0, .slice p1 x0.Leaf.length c1, .slice p2 x0.Nodes.length c2] 25] ++ F0) rfl (nw_ow ?_)
                refine ow_vals 2 (j := 43) [1, 49] [(1, .pointer (some ⟨b21, 0, none⟩)), (49, .bool (!r30))] rfl (by kernel_rfl) ?_
                refine ow_end rfl ?_
                refine ew_then ?_
                rcases if_some hF with ⟨h32, hF⟩ | ⟨h32, hF⟩
                · refine cw_cond_t rfl rfl h32 ?_
                  refine cw_seq ?_
                  refine cw_region ?_
                  refine ow_vals 1 (j := 1) [2] [(2, .bool false)] rfl (by kernel_rfl) ?_
                  refine ow_end rfl ?_
                  refine ew_then ?_
                  refine cw_ret ?_
                  refine ew_then_ret ?_
                  have hR := Option.some.inj hF
                  subst hR
                  have hR := hK23
                  try dsimp only [Thru] at hR
                  subst hR
                  exact fin1 (H1 := [imm I]) (fun w hs => sat_to [1, 0] 1 rfl hs) rfl (rr_tmp rfl) ⟨rfl, rfl⟩
                · refine cw_cond_f rfl rfl h32 ?_
                  refine cw_skip ?_
                  have hR := Option.some.inj hF
                  exact fun a w hf hs => ⟨hR, hf.keep [1], sat_to [0, 0] 0 rfl hs⟩
  · rintro a w ⟨hv, hf, hs⟩
    subst hv
    replace hF := hK23
    clear hK23
    try dsimp only [Thru] at hF
    revert a w
    show CW _ _ _ 69 [(1, .pointer (some ⟨b21, 0, none⟩))] (SAT w0 ([imm I, pt b21 #[.int .i64 x0.Size, .slice p0 x0.Picks.length c0, .slice p1 x0.Leaf.length c1, .slice p2 x0.Nodes.length c2] 25] ++ F0))
    unfold F.batch_Right.r1 at hF
    obtain ⟨v33, hF, hK33⟩ := thru_some hF
    refine cw_mid (fun a w => .inl () = v33 ∧ Fr 69 [] a ∧ SAT w0 ([imm I, pt b21 #[.int .i64 x0.Size, .slice p0 x0.Picks.length c0, .slice p1 x0.Leaf.length c1, .slice p2 x0.Nodes.length c2] 25] ++ F0) w) ?_ ?_
    · refine cw_seq ?_
      refine cw_region ?_
      refine ow_vals 1 (j := 1) [1, 50] [(1, .pointer (some ⟨b21, 0, none⟩)), (50, .pointer (some ⟨b21, 2, none⟩))] rfl (by kernel_rfl) ?_
      refine ow_pw rfl (pw_quiet (v := .slice p1 x0.Leaf.length c1) rfl rfl rfl rfl (q_load 1 rfl rfl rfl (by kernel_rfl)) (nw_ow ?_))
      refine ow_vals 1 (j := 3) [51, 52] [(51, .slice p1 x0.Leaf.length c1), (52, .pointer (some ⟨b21, 3, none⟩))] rfl (by kernel_rfl) ?_
      refine ow_pw rfl (pw_quiet (v := .slice p2 x0.Nodes.length c2) rfl rfl rfl rfl (q_load 1 rfl rfl rfl (by kernel_rfl)) (nw_ow ?_))
      refine ow_vals 2 (j := 6) [54, 55] [(54, .agg #[.slice p1 x0.Leaf.length c1, .slice p2 x0.Nodes.length c2]), (55, .int .i64 0)] rfl (by kernel_rfl) ?_
      refine ow_end rfl ?_
      refine ew_then ?_
      refine cw_block ?_
      refine cw_rounds 3 ?_
      refine cr_next ?_
      refine cw_seq ?_
      refine cw_region ?_
      refine ow_vals 1 (j := 1) [54, 55, 56] [(54, .agg #[.slice p1 x0.Leaf.length c1, .slice p2 x0.Nodes.length c2]), (55, .int .i64 0), (56, .bool true)] rfl (by kernel_rfl) ?_
      refine ow_end rfl ?_
      refine ew_then ?_
      refine cw_seq ?_
      refine cw_cond_t rfl rfl rfl ?_
      refine cw_skip ?_
      refine ew_then ?_
      obtain ⟨v34, hF, hK34⟩ := thru_some hF
      refine cw_mid (fun a w => .inl () = v34 ∧ Fr 69 [(54, .agg #[.slice p1 x0.Leaf.length c1, .slice p2 x0.Nodes.length c2]), (55, .int .i64 0)] a ∧ SAT w0 ([imm I, pt b21 #[.int .i64 x0.Size, .slice p0 x0.Picks.length c0, .slice p1 x0.Leaf.length c1, .slice p2 x0.Nodes.length c2] 25] ++ F0) w) ?_ ?_
      · refine cw_block ?_
        refine cw_seq ?_
        refine cw_region ?_
        refine ow_vals 2 (j := 2) [4, 54, 55] [(4, .slice p1 x0.Leaf.length c1), (54, .agg #[.slice p1 x0.Leaf.length c1, .slice p2 x0.Nodes.length c2]), (55, .int .i64 0)] rfl (by kernel_rfl) ?_
        refine ow_end rfl ?_
        refine ew_then ?_
        refine cw_seq ?_
        refine cw_region ?_
        refine ow_vals 3 (j := 3) [54, 55, 58, 59, 60] [(54, .agg #[.slice p1 x0.Leaf.length c1, .slice p2 x0.Nodes.length c2]), (55, .int .i64 0), (58, .slice p1 x0.Leaf.length c1), (59, .int .i64 (x0.Leaf.length : Int)), (60, .int .i64 0)] rfl (by kernel_rfl) ?_
        refine ow_end rfl ?_
        refine ew_then ?_
        refine cw_block ?_
        refine fun a w hf hs => wp_rounds (fun k a w => ∃ (x36 : Int), iter (fun x => F.batch_Right.l2 x0 x) k x36 = some v34 ∧ Fr 69 [(54, .agg #[.slice p1 x0.Leaf.length c1, .slice p2 x0.Nodes.length c2]), (55, .int .i64 0), (58, .slice p1 x0.Leaf.length c1), (59, .int .i64 (x0.Leaf.length : Int)), (60, .int .i64 x36)] a ∧ SAT w0 ([imm I, pt b21 #[.int .i64 x0.Size, .slice p0 x0.Picks.length c0, .slice p1 x0.Leaf.length c1, .slice p2 x0.Nodes.length c2] 25] ++ F0) w) ?_ FUEL a w ⟨0, hF, hf.keep [54, 55, 58, 59, 60], sat_to [0, 0] 0 rfl hs⟩
        clear hf hs
        clear a w hF
        rintro k a w ⟨x36, hF2, hf, hs⟩
        obtain ⟨k, r35, rfl, hF, hL35⟩ := iter_some hF2
        clear hF2
        revert a w
        show CW _ _ _ 69 [(54, .agg #[.slice p1 x0.Leaf.length c1, .slice p2 x0.Nodes.length c2]), (55, .int .i64 0), (58, .slice p1 x0.Leaf.length c1), (59, .int .i64 (x0.Leaf.length : Int)), (60, .int .i64 x36)] (SAT w0 ([imm I, pt b21 #[.int .i64 x0.Size, .slice p0 x0.Picks.length c0, .slice p1 x0.Leaf.length c1, .slice p2 x0.Nodes.length c2] 25] ++ F0))
        try dsimp only at hF
        unfold F.batch_Right.l2 at hF
        refine cw_seq ?_
        refine cw_region ?_
        refine ow_vals 1 (j := 1) [54, 55, 58, 59, 60, 61] [(54, .agg #[.slice p1 x0.Leaf.length c1, .slice p2 x0.Nodes.length c2]), (55, .int .i64 0), (58, .slice p1 x0.Leaf.length c1), (59, .int .i64 (x0.Leaf.length : Int)), (60, .int .i64 x36), (61, .bool (decide (x36 < (x0.Leaf.length : Int))))] rfl (by kernel_rfl) ?_
        refine ow_end rfl ?_
        refine ew_then ?_
        refine cw_seq ?_
        rcases if_some hF with ⟨h37, hF⟩ | ⟨h37, hF⟩
        · refine cw_cond_t rfl rfl h37 ?_
          refine cw_skip ?_
          refine ew_then ?_
          refine cw_seq ?_
          refine cw_block ?_
          refine cw_seq ?_
          refine cw_region ?_
          obtain ⟨y38, h39, hF⟩ := bind_some hF
          refine ow_pw rfl (pw_index_ro (E := 9) 1 hr1 rfl rfl rfl rfl rfl (by kernel_rfl) rfl rfl rfl h39 fun q40 h41 => nw_ow ?_)
          refine ow_pw rfl (pw_quiet (v := .string y38) rfl rfl rfl rfl (q_load_el0 0 rfl h41 rfl rfl (by kernel_rfl)) (nw_ow ?_))
          refine ow_vals 1 (j := 3) [6, 54, 55, 58, 59, 60] [(6, .string y38), (54, .agg #[.slice p1 x0.Leaf.length c1, .slice p2 x0.Nodes.length c2]), (55, .int .i64 0), (58, .slice p1 x0.Leaf.length c1), (59, .int .i64 (x0.Leaf.length : Int)), (60, .int .i64 x36)] rfl (by kernel_rfl) ?_
          refine ow_end rfl ?_
          refine ew_then ?_
          refine cw_seq ?_
          refine cw_region ?_
          refine ow_vals 3 (j := 3) [54, 55, 58, 59, 60, 66] [(54, .agg #[.slice p1 x0.Leaf.length c1, .slice p2 x0.Nodes.length c2]), (55, .int .i64 0), (58, .slice p1 x0.Leaf.length c1), (59, .int .i64 (x0.Leaf.length : Int)), (60, .int .i64 x36), (66, .bool ((y38.size : Int) != 32))] rfl (by kernel_rfl) ?_
          refine ow_end rfl ?_
          refine ew_then ?_
          rcases if_some hF with ⟨h42, hF⟩ | ⟨h42, hF⟩
          · refine cw_cond_t rfl rfl h42 ?_
            refine cw_seq ?_
            refine cw_region ?_
            refine ow_vals 1 (j := 1) [2] [(2, .bool false)] rfl (by kernel_rfl) ?_
            refine ow_end rfl ?_
            refine ew_then ?_
            refine cw_ret ?_
            refine ew_blk_ret ?_
            refine ew_then_ret ?_
            refine ew_then_ret ?_
            refine ew_blk_ret ?_
            refine ew_blk_ret ?_
            refine ew_then_ret ?_
            refine ew_then_ret ?_
            refine ew_blk_ret ?_
            refine ew_then_ret ?_
            have hR := Option.some.inj hF
            subst hR
            have hR := hL35
            try dsimp only at hR
            subst hR
            have hR := hK34
            try dsimp only [Thru] at hR
            subst hR
            have hR := hK33
            try dsimp only [Thru] at hR
            subst hR
            exact fin1 (H1 := [imm I]) (fun w hs => sat_to [1, 0] 1 rfl hs) rfl (rr_tmp rfl) ⟨rfl, rfl⟩
          · refine cw_cond_f rfl rfl h42 ?_
            refine cw_skip ?_
            refine ew_blk ?_
            refine ew_then ?_
            refine cw_region ?_
            refine ow_vals 2 (j := 2) [54, 55, 58, 59, 60] [(54, .agg #[.slice p1 x0.Leaf.length c1, .slice p2 x0.Nodes.length c2]), (55, .int .i64 0), (58, .slice p1 x0.Leaf.length c1), (59, .int .i64 (x0.Leaf.length : Int)), (60, .int .i64 (IntKind.i64.wrap (x36 + 1)))] rfl (by kernel_rfl) ?_
            refine ow_end rfl ?_
            have hR := Option.some.inj hF
            subst hR
            have hR := hL35
            try dsimp only at hR
            exact fun a w hf hs => ⟨k, Nat.lt_succ_self k, IntKind.i64.wrap (x36 + 1), hR, hf.keep [54, 55, 58, 59, 60], sat_to [0, 0] 0 rfl hs⟩
        · refine cw_cond_f rfl rfl h37 ?_
          refine cw_exit ?_
          refine ew_then_exit ?_
          refine ew_then_exit ?_
          refine ew_blk_exit ?_
          refine ew_blk ?_
          have hR := Option.some.inj hF
          subst hR
          have hR := hL35
          try dsimp only at hR
          exact fun a w hf hs => ⟨hR, hf.keep [54, 55], sat_to [0, 0] 0 rfl hs⟩
      · rintro a w ⟨hv, hf, hs⟩
        subst hv
        replace hF := hK34
        clear hK34
        try dsimp only [Thru] at hF
        revert a w
        show CW _ _ _ 69 [(54, .agg #[.slice p1 x0.Leaf.length c1, .slice p2 x0.Nodes.length c2]), (55, .int .i64 0)] (SAT w0 ([imm I, pt b21 #[.int .i64 x0.Size, .slice p0 x0.Picks.length c0, .slice p1 x0.Leaf.length c1, .slice p2 x0.Nodes.length c2] 25] ++ F0))
        unfold F.batch_Right.r3 at hF
        refine cw_region ?_
        refine ow_vals 2 (j := 2) [54, 55] [(54, .agg #[.slice p1 x0.Leaf.length c1, .slice p2 x0.Nodes.length c2]), (55, .int .i64 1)] rfl (by kernel_rfl) ?_
        refine ow_end rfl ?_
        refine ew_rounds ?_
        refine cr_next ?_
        refine cw_seq ?_
        refine cw_region ?_
        refine ow_vals 1 (j := 1) [54, 55, 56] [(54, .agg #[.slice p1 x0.Leaf.length c1, .slice p2 x0.Nodes.length c2]), (55, .int .i64 1), (56, .bool true)] rfl (by kernel_rfl) ?_
        refine ow_end rfl ?_
        refine ew_then ?_
        refine cw_seq ?_
        refine cw_cond_t rfl rfl rfl ?_
        refine cw_skip ?_
        refine ew_then ?_
        obtain ⟨v43, hF, hK43⟩ := thru_some hF
        refine cw_mid (fun a w => .inl () = v43 ∧ Fr 69 [(54, .agg #[.slice p1 x0.Leaf.length c1, .slice p2 x0.Nodes.length c2]), (55, .int .i64 1)] a ∧ SAT w0 ([imm I, pt b21 #[.int .i64 x0.Size, .slice p0 x0.Picks.length c0, .slice p1 x0.Leaf.length c1, .slice p2 x0.Nodes.length c2] 25] ++ F0) w) ?_ ?_
        · refine cw_block ?_
          refine cw_seq ?_
          refine cw_region ?_
          refine ow_vals 2 (j := 2) [4, 54, 55] [(4, .slice p2 x0.Nodes.length c2), (54, .agg #[.slice p1 x0.Leaf.length c1, .slice p2 x0.Nodes.length c2]), (55, .int .i64 1)] rfl (by kernel_rfl) ?_
          refine ow_end rfl ?_
          refine ew_then ?_
          refine cw_seq ?_
          refine cw_region ?_
          refine ow_vals 3 (j := 3) [54, 55, 58, 59, 60] [(54, .agg #[.slice p1 x0.Leaf.length c1, .slice p2 x0.Nodes.length c2]), (55, .int .i64 1), (58, .slice p2 x0.Nodes.length c2), (59, .int .i64 (x0.Nodes.length : Int)), (60, .int .i64 0)] rfl (by kernel_rfl) ?_
          refine ow_end rfl ?_
          refine ew_then ?_
          refine cw_block ?_
          refine fun a w hf hs => wp_rounds (fun k a w => ∃ (x45 : Int), iter (fun x => F.batch_Right.l4 x0 x) k x45 = some v43 ∧ Fr 69 [(54, .agg #[.slice p1 x0.Leaf.length c1, .slice p2 x0.Nodes.length c2]), (55, .int .i64 1), (58, .slice p2 x0.Nodes.length c2), (59, .int .i64 (x0.Nodes.length : Int)), (60, .int .i64 x45)] a ∧ SAT w0 ([imm I, pt b21 #[.int .i64 x0.Size, .slice p0 x0.Picks.length c0, .slice p1 x0.Leaf.length c1, .slice p2 x0.Nodes.length c2] 25] ++ F0) w) ?_ FUEL a w ⟨0, hF, hf.keep [54, 55, 58, 59, 60], sat_to [0, 0] 0 rfl hs⟩
          clear hf hs
          clear a w hF
          rintro k a w ⟨x45, hF2, hf, hs⟩
          obtain ⟨k, r44, rfl, hF, hL44⟩ := iter_some hF2
          clear hF2
          revert a w
          show CW _ _ _ 69 [(54, .agg #[.slice p1 x0.Leaf.length c1, .slice p2 x0.Nodes.length c2]), (55, .int .i64 1), (58, .slice p2 x0.Nodes.length c2), (59, .int .i64 (x0.Nodes.length : Int)), (60, .int .i64 x45)] (SAT w0 ([imm I, pt b21 #[.int .i64 x0.Size, .slice p0 x0.Picks.length c0, .slice p1 x0.Leaf.length c1, .slice p2 x0.Nodes.length c2] 25] ++ F0))
          try dsimp only at hF
          unfold F.batch_Right.l4 at hF
          refine cw_seq ?_
          refine cw_region ?_
          refine ow_vals 1 (j := 1) [54, 55, 58, 59, 60, 61] [(54, .agg #[.slice p1 x0.Leaf.length c1, .slice p2 x0.Nodes.length c2]), (55, .int .i64 1), (58, .slice p2 x0.Nodes.length c2), (59, .int .i64 (x0.Nodes.length : Int)), (60, .int .i64 x45), (61, .bool (decide (x45 < (x0.Nodes.length : Int))))] rfl (by kernel_rfl) ?_
          refine ow_end rfl ?_
          refine ew_then ?_
          refine cw_seq ?_
          rcases if_some hF with ⟨h46, hF⟩ | ⟨h46, hF⟩
          · refine cw_cond_t rfl rfl h46 ?_
            refine cw_skip ?_
            refine ew_then ?_
            refine cw_seq ?_
            refine cw_block ?_
            refine cw_seq ?_
            refine cw_region ?_
            obtain ⟨y47, h48, hF⟩ := bind_some hF
            refine ow_pw rfl (pw_index_ro (E := 9) 1 hr2 rfl rfl rfl rfl rfl (by kernel_rfl) rfl rfl rfl h48 fun q49 h50 => nw_ow ?_)
            refine ow_pw rfl (pw_quiet (v := .string y47) rfl rfl rfl rfl (q_load_el0 0 rfl h50 rfl rfl (by kernel_rfl)) (nw_ow ?_))
            refine ow_vals 1 (j := 3) [6, 54, 55, 58, 59, 60] [(6, .string y47), (54, .agg #[.slice p1 x0.Leaf.length c1, .slice p2 x0.Nodes.length c2]), (55, .int .i64 1), (58, .slice p2 x0.Nodes.length c2), (59, .int .i64 (x0.Nodes.length : Int)), (60, .int .i64 x45)] rfl (by kernel_rfl) ?_
            refine ow_end rfl ?_
            refine ew_then ?_
            refine cw_seq ?_
            refine cw_region ?_
            refine ow_vals 3 (j := 3) [54, 55, 58, 59, 60, 66] [(54, .agg #[.slice p1 x0.Leaf.length c1, .slice p2 x0.Nodes.length c2]), (55, .int .i64 1), (58, .slice p2 x0.Nodes.length c2), (59, .int .i64 (x0.Nodes.length : Int)), (60, .int .i64 x45), (66, .bool ((y47.size : Int) != 32))] rfl (by kernel_rfl) ?_
            refine ow_end rfl ?_
            refine ew_then ?_
            rcases if_some hF with ⟨h51, hF⟩ | ⟨h51, hF⟩
            · refine cw_cond_t rfl rfl h51 ?_
              refine cw_seq ?_
              refine cw_region ?_
              refine ow_vals 1 (j := 1) [2] [(2, .bool false)] rfl (by kernel_rfl) ?_
              refine ow_end rfl ?_
              refine ew_then ?_
              refine cw_ret ?_
              refine ew_blk_ret ?_
              refine ew_then_ret ?_
              refine ew_then_ret ?_
              refine ew_blk_ret ?_
              refine ew_blk_ret ?_
              refine ew_then_ret ?_
              refine ew_then_ret ?_
              refine ew_blk_ret ?_
              refine ew_then_ret ?_
              have hR := Option.some.inj hF
              subst hR
              have hR := hL44
              try dsimp only at hR
              subst hR
              have hR := hK43
              try dsimp only [Thru] at hR
              subst hR
              have hR := hK33
              try dsimp only [Thru] at hR
              subst hR
              exact fin1 (H1 := [imm I]) (fun w hs => sat_to [1, 0] 1 rfl hs) rfl (rr_tmp rfl) ⟨rfl, rfl⟩
            · refine cw_cond_f rfl rfl h51 ?_
              refine cw_skip ?_
              refine ew_blk ?_
              refine ew_then ?_
              refine cw_region ?_
              refine ow_vals 2 (j := 2) [54, 55, 58, 59, 60] [(54, .agg #[.slice p1 x0.Leaf.length c1, .slice p2 x0.Nodes.length c2]), (55, .int .i64 1), (58, .slice p2 x0.Nodes.length c2), (59, .int .i64 (x0.Nodes.length : Int)), (60, .int .i64 (IntKind.i64.wrap (x45 + 1)))] rfl (by kernel_rfl) ?_
              refine ow_end rfl ?_
              have hR := Option.some.inj hF
              subst hR
              have hR := hL44
              try dsimp only at hR
              exact fun a w hf hs => ⟨k, Nat.lt_succ_self k, IntKind.i64.wrap (x45 + 1), hR, hf.keep [54, 55, 58, 59, 60], sat_to [0, 0] 0 rfl hs⟩
          · refine cw_cond_f rfl rfl h46 ?_
            refine cw_exit ?_
            refine ew_then_exit ?_
            refine ew_then_exit ?_
            refine ew_blk_exit ?_
            refine ew_blk ?_
            have hR := Option.some.inj hF
            subst hR
            have hR := hL44
            try dsimp only at hR
            exact fun a w hf hs => ⟨hR, hf.keep [54, 55], sat_to [0, 0] 0 rfl hs⟩
        · rintro a w ⟨hv, hf, hs⟩
          subst hv
          replace hF := hK43
          clear hK43
          try dsimp only [Thru] at hF
          revert a w
          show CW _ _ _ 69 [(54, .agg #[.slice p1 x0.Leaf.length c1, .slice p2 x0.Nodes.length c2]), (55, .int .i64 1)] (SAT w0 ([imm I, pt b21 #[.int .i64 x0.Size, .slice p0 x0.Picks.length c0, .slice p1 x0.Leaf.length c1, .slice p2 x0.Nodes.length c2] 25] ++ F0))
          unfold F.batch_Right.r5 at hF
          refine cw_region ?_
          refine ow_vals 2 (j := 2) [54, 55] [(54, .agg #[.slice p1 x0.Leaf.length c1, .slice p2 x0.Nodes.length c2]), (55, .int .i64 2)] rfl (by kernel_rfl) ?_
          refine ow_end rfl ?_
          refine ew_rounds ?_
          refine cr_next ?_
          refine cw_seq ?_
          refine cw_region ?_
          refine ow_vals 1 (j := 1) [54, 55, 56] [(54, .agg #[.slice p1 x0.Leaf.length c1, .slice p2 x0.Nodes.length c2]), (55, .int .i64 2), (56, .bool false)] rfl (by kernel_rfl) ?_
          refine ow_end rfl ?_
          refine ew_then ?_
          refine cw_seq ?_
          refine cw_cond_f rfl rfl rfl ?_
          refine cw_exit ?_
          refine ew_then_exit ?_
          refine ew_then_exit ?_
          refine ew_blk_exit ?_
          have hR := Option.some.inj hF
          exact fun a w hf hs => ⟨hR, hf.keep [], sat_to [0, 0] 0 rfl hs⟩
    · rintro a w ⟨hv, hf, hs⟩
      subst hv
      replace hF := hK33
      clear hK33
      try dsimp only [Thru] at hF
      revert a w
      show CW _ _ _ 69 [] (SAT w0 ([imm I, pt b21 #[.int .i64 x0.Size, .slice p0 x0.Picks.length c0, .slice p1 x0.Leaf.length c1, .slice p2 x0.Nodes.length c2] 25] ++ F0))
      unfold F.batch_Right.r6 at hF
      refine cw_seq ?_
      refine cw_region ?_
      refine ow_vals 1 (j := 1) [2] [(2, .bool true)] rfl (by kernel_rfl) ?_
      refine ow_end rfl ?_
      refine ew_then ?_
      refine cw_ret ?_
      have hR := Option.some.inj hF
      subst hR
      exact fin1 (H1 := [imm I]) (fun w hs => sat_to [1, 0] 1 rfl hs) rfl (rr_tmp rfl) ⟨rfl, rfl⟩


def F.batch_climber_node (m0 : batch_climber) (m1 : mill_Mill) : Option (ByteArray × batch_climber) :=
  if (m0.nodes_.length : Int) == 0 then (some (((ByteArray.mk #[]), (⟨m0.leaf_, m0.nodes_, true⟩ : batch_climber)))) else (Option.bind (at_ m0.nodes_ 0) (fun (y22 : ByteArray) => chk (0 ≤ (1 : Int) ∧ (1 : Int) ≤ (m0.nodes_.length : Int) ∧ (m0.nodes_.length : Int) ≤ (m0.nodes_.length : Int)) (some ((y22, (⟨m0.leaf_, (m0.nodes_.drop (1 : Int).toNat).take ((m0.nodes_.length : Int).toNat - (1 : Int).toNat), m0.bad_⟩ : batch_climber))))))
set_option maxRecDepth 100000 in
set_option maxHeartbeats 4000000 in
theorem c_batch_climber_node (I : Hl) (m0 : batch_climber) (m1 : mill_Mill) (p0 : Option Addr) (c0 : Nat) (p1 : Option Addr) (c1 : Nat) (b0 : Nat) (p2 : Nat) (p3 : Nat) (b1 : Nat) (res : ByteArray × batch_climber) (hF : F.batch_climber_node m0 m1 = some res) (hr0 : ro I eStr p0 c0 m0.leaf_) (hr1 : ro I eStr p1 c1 m0.nodes_) : Tr Try.prog 48 [.pointer (some ⟨b0, 0, none⟩)] [imm I, pt b0 #[.pointer (some ⟨b1, 0, none⟩), .slice p0 m0.leaf_.length c0, .slice p1 m0.nodes_.length c1, .bool m0.bad_] 63, pt b1 #[.map (some p2), .map (some p3), .string m1.twins_.e0, .string m1.twins_.e1, .bool m1.found_, .bool m1.full_, .int .i64 m1.sums_] 60, mpo kStr kStr p2 m1.table_, mpo kStr kStr p3 m1.notes_] (fun r H' => ∃ (p1 : Option Addr), ∃ (c2 : Nat), ∃ (p4 : Option Addr), ∃ (c5 : Nat), r = .string res.1 ∧ H' = [imm I, pt b0 #[.pointer (some ⟨b1, 0, none⟩), .slice p1 res.2.leaf_.length c2, .slice p4 res.2.nodes_.length c5, .bool res.2.bad_] 63, pt b1 #[.map (some p2), .map (some p3), .string m1.twins_.e0, .string m1.twins_.e1, .bool m1.found_, .bool m1.full_, .int .i64 m1.sums_] 60, mpo kStr kStr p2 m1.table_, mpo kStr kStr p3 m1.notes_] ∧ ro I eStr p1 c2 res.2.leaf_ ∧ ro I eStr p4 c5 res.2.nodes_) := by
  unfold F.batch_climber_node at hF
  refine tr_of_cw (fn := Try.f48) Try.func48 rfl (Nat.le_of_ble_eq_true rfl) 28 rfl fun F0 w0 => ?_
  refine cw_keep [0] (L' := [(0, .pointer (some ⟨b0, 0, none⟩))]) rfl ?_
  refine cw_state (S' := SAT w0 ([imm I, pt b0 #[.pointer (some ⟨b1, 0, none⟩), .slice p0 m0.leaf_.length c0, .slice p1 m0.nodes_.length c1, .bool m0.bad_] 63, pt b1 #[.map (some p2), .map (some p3), .string m1.twins_.e0, .string m1.twins_.e1, .bool m1.found_, .bool m1.full_, .int .i64 m1.sums_] 60, mpo kStr kStr p2 m1.table_, mpo kStr kStr p3 m1.notes_] ++ F0)) (fun w hs => hs) ?_
  refine cw_seq ?_
  refine cw_region ?_
  refine ow_vals 1 (j := 1) [0] [(0, .pointer (some ⟨b0, 0, none⟩))] rfl (by kernel_rfl) ?_
  refine ow_end rfl ?_
  refine ew_then ?_
  refine cw_seq ?_
  refine cw_seq ?_
  refine cw_region ?_
  refine ow_vals 3 (j := 3) [0, 6] [(0, .pointer (some ⟨b0, 0, none⟩)), (6, .pointer (some ⟨b0, 2, none⟩))] rfl (by kernel_rfl) ?_
  refine ow_pw rfl (pw_quiet (v := .slice p1 m0.nodes_.length c1) rfl rfl rfl rfl (q_load 1 rfl rfl rfl (by kernel_rfl)) (nw_ow ?_))
  refine ow_vals 2 (j := 6) [0, 9] [(0, .pointer (some ⟨b0, 0, none⟩)), (9, .bool ((m0.nodes_.length : Int) == 0))] rfl (by kernel_rfl) ?_
  refine ow_end rfl ?_
  refine ew_then ?_
  rcases if_some hF with ⟨h21, hF⟩ | ⟨h21, hF⟩
  · refine cw_cond_t rfl rfl h21 ?_
    refine cw_seq ?_
    refine cw_region ?_
    refine ow_vals 3 (j := 3) [12] [(12, .pointer (some ⟨b0, 3, none⟩))] rfl (by kernel_rfl) ?_
    refine ow_pw rfl (pw_store 1 #[.pointer (some ⟨b1, 0, none⟩), .slice p0 m0.leaf_.length c0, .slice p1 m0.nodes_.length c1, .bool true] rfl rfl rfl rfl rfl rfl rfl (by kernel_rfl) (nw_H (H' := [imm I, pt b0 #[.pointer (some ⟨b1, 0, none⟩), .slice p0 m0.leaf_.length c0, .slice p1 m0.nodes_.length c1, .bool true] 63, pt b1 #[.map (some p2), .map (some p3), .string m1.twins_.e0, .string m1.twins_.e1, .bool m1.found_, .bool m1.full_, .int .i64 m1.sums_] 60, mpo kStr kStr p2 m1.table_, mpo kStr kStr p3 m1.notes_] ++ F0) rfl (nw_ow ?_)))
    refine ow_end rfl ?_
    refine ew_then ?_
    refine cw_seq ?_
    refine cw_region ?_
    refine ow_vals 1 (j := 1) [2] [(2, .string (ByteArray.mk #[]))] rfl (by kernel_rfl) ?_
    refine ow_end rfl ?_
    refine ew_then ?_
    refine cw_ret ?_
    refine ew_then_ret ?_
    have hR := Option.some.inj hF
    subst hR
    exact fin1 (H1 := [imm I, pt b0 #[.pointer (some ⟨b1, 0, none⟩), .slice p0 ((⟨m0.leaf_, m0.nodes_, true⟩ : batch_climber).leaf_).length c0, .slice p1 ((⟨m0.leaf_, m0.nodes_, true⟩ : batch_climber).nodes_).length c1, .bool ((⟨m0.leaf_, m0.nodes_, true⟩ : batch_climber).bad_)] 63, pt b1 #[.map (some p2), .map (some p3), .string m1.twins_.e0, .string m1.twins_.e1, .bool m1.found_, .bool m1.full_, .int .i64 m1.sums_] 60, mpo kStr kStr p2 m1.table_, mpo kStr kStr p3 m1.notes_]) (fun w hs => sat_to [0, 0, 0, 0, 0] 0 rfl hs) rfl (rr_tmp rfl) ⟨p0, c0, p1, c1, rfl, rfl, hr0, hr1⟩
  · refine cw_cond_f rfl rfl h21 ?_
    refine cw_skip ?_
    refine ew_then ?_
    refine cw_seq ?_
    refine cw_region ?_
    refine ow_vals 3 (j := 3) [0, 15] [(0, .pointer (some ⟨b0, 0, none⟩)), (15, .pointer (some ⟨b0, 2, none⟩))] rfl (by kernel_rfl) ?_
    refine ow_pw rfl (pw_quiet (v := .slice p1 m0.nodes_.length c1) rfl rfl rfl rfl (q_load 1 rfl rfl rfl (by kernel_rfl)) (nw_ow ?_))
    obtain ⟨y22, h23, hF⟩ := bind_some hF
    refine ow_pw rfl (pw_index_ro (E := 9) 1 hr1 rfl rfl rfl rfl rfl (by kernel_rfl) rfl rfl rfl h23 fun q24 h25 => nw_ow ?_)
    refine ow_pw rfl (pw_quiet (v := .string y22) rfl rfl rfl rfl (q_load_el0 0 rfl h25 rfl rfl (by kernel_rfl)) (nw_ow ?_))
    refine ow_vals 1 (j := 7) [0, 3] [(0, .pointer (some ⟨b0, 0, none⟩)), (3, .string y22)] rfl (by kernel_rfl) ?_
    refine ow_end rfl ?_
    refine ew_then ?_
    refine cw_seq ?_
    refine cw_region ?_
    refine ow_vals 4 (j := 4) [3, 19, 22] [(3, .string y22), (19, .pointer (some ⟨b0, 0, none⟩)), (22, .pointer (some ⟨b0, 2, none⟩))] rfl (by kernel_rfl) ?_
    refine ow_pw rfl (pw_quiet (v := .slice p1 m0.nodes_.length c1) rfl rfl rfl rfl (q_load 1 rfl rfl rfl (by kernel_rfl)) (nw_ow ?_))
    obtain ⟨h26, hF⟩ := chk_some hF
    refine ow_pw rfl (pw_slice_ro (E := 9) 1 hr1 rfl rfl rfl rfl rfl (by kernel_rfl) rfl rfl rfl rfl h26 fun p27 c28 h29 => nw_ow ?_)
    refine ow_vals 2 (j := 8) [3, 24, 26] [(3, .string y22), (24, .slice p27 ((m0.nodes_.drop (1 : Int).toNat).take ((m0.nodes_.length : Int).toNat - (1 : Int).toNat)).length c28), (26, .pointer (some ⟨b0, 2, none⟩))] rfl (by kernel_rfl) ?_
    refine ow_pw rfl (pw_store 1 #[.pointer (some ⟨b1, 0, none⟩), .slice p0 m0.leaf_.length c0, .slice p27 ((m0.nodes_.drop (1 : Int).toNat).take ((m0.nodes_.length : Int).toNat - (1 : Int).toNat)).length c28, .bool m0.bad_] rfl rfl rfl rfl rfl rfl rfl (by kernel_rfl) (nw_H (H' := [imm I, pt b0 #[.pointer (some ⟨b1, 0, none⟩), .slice p0 m0.leaf_.length c0, .slice p27 ((m0.nodes_.drop (1 : Int).toNat).take ((m0.nodes_.length : Int).toNat - (1 : Int).toNat)).length c28, .bool m0.bad_] 63, pt b1 #[.map (some p2), .map (some p3), .string m1.twins_.e0, .string m1.twins_.e1, .bool m1.found_, .bool m1.full_, .int .i64 m1.sums_] 60, mpo kStr kStr p2 m1.table_, mpo kStr kStr p3 m1.notes_] ++ F0) rfl (nw_ow ?_)))
    refine ow_end rfl ?_
    refine ew_then ?_
    refine cw_seq ?_
    refine cw_region ?_
    refine ow_vals 2 (j := 2) [2] [(2, .string y22)] rfl (by kernel_rfl) ?_
    refine ow_end rfl ?_
    refine ew_then ?_
    refine cw_ret ?_
    have hR := Option.some.inj hF
    subst hR
    exact fin1 (H1 := [imm I, pt b0 #[.pointer (some ⟨b1, 0, none⟩), .slice p0 ((⟨m0.leaf_, (m0.nodes_.drop (1 : Int).toNat).take ((m0.nodes_.length : Int).toNat - (1 : Int).toNat), m0.bad_⟩ : batch_climber).leaf_).length c0, .slice p27 ((⟨m0.leaf_, (m0.nodes_.drop (1 : Int).toNat).take ((m0.nodes_.length : Int).toNat - (1 : Int).toNat), m0.bad_⟩ : batch_climber).nodes_).length c28, .bool ((⟨m0.leaf_, (m0.nodes_.drop (1 : Int).toNat).take ((m0.nodes_.length : Int).toNat - (1 : Int).toNat), m0.bad_⟩ : batch_climber).bad_)] 63, pt b1 #[.map (some p2), .map (some p3), .string m1.twins_.e0, .string m1.twins_.e1, .bool m1.found_, .bool m1.full_, .int .i64 m1.sums_] 60, mpo kStr kStr p2 m1.table_, mpo kStr kStr p3 m1.notes_]) (fun w hs => sat_to [0, 0, 0, 0, 0] 0 rfl hs) rfl (rr_tmp rfl) ⟨p0, c0, p27, c28, rfl, rfl, hr0, h29⟩


def F.batch_split.l1 (x0 : Int) (x23 : Int) : Option ((Int) ⊕ (Int)) :=
  if decide (x23 ≤ (IntKind.i64.wrap ((IntKind.i64.wrap (x0 - 1)).tdiv 2))) then (some (.inl (IntKind.i64.wrap (x23 + x23)))) else (some (.inr (x23)))
def F.batch_split.r2 (x25 : Int) : Option (Int) :=
  some (x25)
def F.batch_split (x0 : Int) : Option Int :=
  Option.bind (iter (fun x => F.batch_split.l1 x0 x) FUEL 1) (fun x => F.batch_split.r2 x)
set_option maxRecDepth 100000 in
set_option maxHeartbeats 4000000 in
theorem c_batch_split (I : Hl) (x0 : Int) (res : Int) (hF : F.batch_split x0 = some res) : Tr Try.prog 49 [.int .i64 x0] [imm I] (fun r H' => r = .int .i64 res ∧ H' = [imm I]) := by
  unfold F.batch_split at hF
  refine tr_of_cw (fn := Try.f49) Try.func49 rfl (Nat.le_of_ble_eq_true rfl) 13 rfl fun F0 w0 => ?_
  refine cw_keep [0] (L' := [(0, .int .i64 x0)]) rfl ?_
  refine cw_state (S' := SAT w0 ([imm I] ++ F0)) (fun w hs => hs) ?_
  refine cw_seq ?_
  refine cw_region ?_
  refine ow_vals 1 (j := 1) [0] [(0, .int .i64 x0)] rfl (by kernel_rfl) ?_
  refine ow_end rfl ?_
  refine ew_then ?_
  refine cw_seq ?_
  refine cw_region ?_
  refine ow_vals 1 (j := 1) [0, 3] [(0, .int .i64 x0), (3, .int .i64 1)] rfl (by kernel_rfl) ?_
  refine ow_end rfl ?_
  refine ew_then ?_
  obtain ⟨v21, hF, hK21⟩ := bind_some hF
  refine cw_mid (fun a w => ∃ (x25 : Int), x25 = v21 ∧ Fr 13 [(3, .int .i64 x25)] a ∧ SAT w0 ([imm I] ++ F0) w) ?_ ?_
  · refine cw_block ?_
    refine fun a w hf hs => wp_rounds (fun k a w => ∃ (x23 : Int), iter (fun x => F.batch_split.l1 x0 x) k x23 = some v21 ∧ Fr 13 [(0, .int .i64 x0), (3, .int .i64 x23)] a ∧ SAT w0 ([imm I] ++ F0) w) ?_ FUEL a w ⟨1, hF, hf.keep [0, 3], sat_to [0] 0 rfl hs⟩
    clear hf hs
    clear a w hF
    rintro k a w ⟨x23, hF2, hf, hs⟩
    obtain ⟨k, r22, rfl, hF, hL22⟩ := iter_some hF2
    clear hF2
    revert a w
    show CW _ _ _ 13 [(0, .int .i64 x0), (3, .int .i64 x23)] (SAT w0 ([imm I] ++ F0))
    try dsimp only at hF
    unfold F.batch_split.l1 at hF
    refine cw_seq ?_
    refine cw_seq ?_
    refine cw_region ?_
    refine ow_vals 5 (j := 5) [0, 3, 8] [(0, .int .i64 x0), (3, .int .i64 x23), (8, .bool (decide (x23 ≤ (IntKind.i64.wrap ((IntKind.i64.wrap (x0 - 1)).tdiv 2)))))] rfl (by kernel_rfl) ?_
    refine ow_end rfl ?_
    refine ew_then ?_
    rcases if_some hF with ⟨h24, hF⟩ | ⟨h24, hF⟩
    · refine cw_cond_t rfl rfl h24 ?_
      refine cw_skip ?_
      refine ew_then ?_
      refine cw_block ?_
      refine cw_region ?_
      refine ow_vals 4 (j := 4) [0, 3] [(0, .int .i64 x0), (3, .int .i64 (IntKind.i64.wrap (x23 + x23)))] rfl (by kernel_rfl) ?_
      refine ow_end rfl ?_
      refine ew_blk ?_
      have hR := Option.some.inj hF
      subst hR
      have hR := hL22
      try dsimp only at hR
      exact fun a w hf hs => ⟨k, Nat.lt_succ_self k, IntKind.i64.wrap (x23 + x23), hR, hf.keep [0, 3], sat_to [0] 0 rfl hs⟩
    · refine cw_cond_f rfl rfl h24 ?_
      refine cw_exit ?_
      refine ew_then_exit ?_
      refine ew_then_exit ?_
      refine ew_blk_exit ?_
      have hR := Option.some.inj hF
      subst hR
      have hR := hL22
      try dsimp only at hR
      exact fun a w hf hs => ⟨x23, hR, hf.keep [3], sat_to [0] 0 rfl hs⟩
  · rintro a w ⟨x25, hv, hf, hs⟩
    subst hv
    replace hF := hK21
    clear hK21
    try dsimp only at hF
    revert a w
    show CW _ _ _ 13 [(3, .int .i64 x25)] (SAT w0 ([imm I] ++ F0))
    unfold F.batch_split.r2 at hF
    refine cw_seq ?_
    refine cw_region ?_
    refine ow_vals 2 (j := 2) [2] [(2, .int .i64 x25)] rfl (by kernel_rfl) ?_
    refine ow_end rfl ?_
    refine ew_then ?_
    refine cw_ret ?_
    have hR := Option.some.inj hF
    subst hR
    exact fin1 (H1 := [imm I]) (fun w hs => sat_to [0] 0 rfl hs) rfl (rr_tmp rfl) ⟨rfl, rfl⟩


def F.batch_part.l1 (x0 : List Int) (x1 : Int) (x23 : Int) : Option ((Int) ⊕ (Int)) :=
  if decide (x23 < (x0.length : Int)) then (Option.bind (at_ x0 x23) (fun (y25 : Int) => if decide (y25 < x1) then (some (.inl (IntKind.i64.wrap (x23 + 1)))) else (some (.inr (x23))))) else (some (.inr (x23)))
def F.batch_part.r2 (x0 : List Int) (x30 : Int) : Option ((List Int) × (List Int)) :=
  chk (0 ≤ (0 : Int) ∧ (0 : Int) ≤ x30 ∧ x30 ≤ (x0.length : Int)) (chk (0 ≤ x30 ∧ x30 ≤ (x0.length : Int) ∧ (x0.length : Int) ≤ (x0.length : Int)) (some (((x0.drop (0 : Int).toNat).take (x30.toNat - (0 : Int).toNat), (x0.drop x30.toNat).take ((x0.length : Int).toNat - x30.toNat)))))
def F.batch_part (x0 : List Int) (x1 : Int) : Option ((List Int) × (List Int)) :=
  Option.bind (iter (fun x => F.batch_part.l1 x0 x1 x) FUEL 0) (fun x => F.batch_part.r2 x0 x)
set_option maxRecDepth 100000 in
set_option maxHeartbeats 4000000 in
theorem c_batch_part (I : Hl) (x0 : List Int) (x1 : Int) (p0 : Option Addr) (c0 : Nat) (res : (List Int) × (List Int)) (hF : F.batch_part x0 x1 = some res) (hr0 : ro I (eInt .i64) p0 c0 x0) : Tr Try.prog 50 [.slice p0 x0.length c0, .int .i64 x1] [imm I] (fun r H' => ∃ (p1 : Option Addr), ∃ (c2 : Nat), ∃ (p4 : Option Addr), ∃ (c5 : Nat), r = .tuple #[.slice p1 res.1.length c2, .slice p4 res.2.length c5] ∧ H' = [imm I] ∧ ro I (eInt .i64) p1 c2 res.1 ∧ ro I (eInt .i64) p4 c5 res.2) := by
  unfold F.batch_part at hF
  refine tr_of_cw (fn := Try.f50) Try.func50 rfl (Nat.le_of_ble_eq_true rfl) 27 rfl fun F0 w0 => ?_
  refine cw_keep [0, 1] (L' := [(0, .slice p0 x0.length c0), (1, .int .i64 x1)]) rfl ?_
  refine cw_state (S' := SAT w0 ([imm I] ++ F0)) (fun w hs => hs) ?_
  refine cw_seq ?_
  refine cw_region ?_
  refine ow_vals 2 (j := 2) [0, 1] [(0, .slice p0 x0.length c0), (1, .int .i64 x1)] rfl (by kernel_rfl) ?_
  refine ow_end rfl ?_
  refine ew_then ?_
  refine cw_seq ?_
  refine cw_region ?_
  refine ow_vals 1 (j := 1) [0, 1, 6] [(0, .slice p0 x0.length c0), (1, .int .i64 x1), (6, .int .i64 0)] rfl (by kernel_rfl) ?_
  refine ow_end rfl ?_
  refine ew_then ?_
  obtain ⟨v21, hF, hK21⟩ := bind_some hF
  refine cw_mid (fun a w => ∃ (x30 : Int), x30 = v21 ∧ Fr 27 [(0, .slice p0 x0.length c0), (6, .int .i64 x30)] a ∧ SAT w0 ([imm I] ++ F0) w) ?_ ?_
  · refine cw_block ?_
    refine fun a w hf hs => wp_rounds (fun k a w => ∃ (x23 : Int), iter (fun x => F.batch_part.l1 x0 x1 x) k x23 = some v21 ∧ Fr 27 [(0, .slice p0 x0.length c0), (1, .int .i64 x1), (6, .int .i64 x23)] a ∧ SAT w0 ([imm I] ++ F0) w) ?_ FUEL a w ⟨0, hF, hf.keep [0, 1, 6], sat_to [0] 0 rfl hs⟩
    clear hf hs
    clear a w hF
    rintro k a w ⟨x23, hF2, hf, hs⟩
    obtain ⟨k, r22, rfl, hF, hL22⟩ := iter_some hF2
    clear hF2
    revert a w
    show CW _ _ _ 27 [(0, .slice p0 x0.length c0), (1, .int .i64 x1), (6, .int .i64 x23)] (SAT w0 ([imm I] ++ F0))
    try dsimp only at hF
    unfold F.batch_part.l1 at hF
    refine cw_seq ?_
    refine cw_seq ?_
    refine cw_region ?_
    refine ow_vals 5 (j := 5) [0, 1, 6, 11] [(0, .slice p0 x0.length c0), (1, .int .i64 x1), (6, .int .i64 x23), (11, .bool (decide (x23 < (x0.length : Int))))] rfl (by kernel_rfl) ?_
    rcases if_some hF with ⟨h24, hF⟩ | ⟨h24, hF⟩
    · refine ow_slots (L' := [(0, .slice p0 x0.length c0), (1, .int .i64 x1), (6, .int .i64 x23), (11, .bool true)]) (by rw [h24]) ?_
      refine ow_vals 2 (j := 7) [0, 1, 6, 11, 12, 13] [(0, .slice p0 x0.length c0), (1, .int .i64 x1), (6, .int .i64 x23), (11, .bool true), (12, .slice p0 x0.length c0), (13, .int .i64 x23)] rfl (by kernel_rfl) ?_
      obtain ⟨y25, h26, hF⟩ := bind_some hF
      refine ow_pw rfl (pw_index_ro (E := 3) 1 hr0 rfl rfl rfl rfl rfl (by kernel_rfl) rfl rfl rfl h26 fun q27 h28 => nw_ow ?_)
      refine ow_pw rfl (pw_quiet (v := .int .i64 y25) rfl rfl rfl rfl (q_load_el0 0 rfl h28 rfl rfl (by kernel_rfl)) (nw_ow ?_))
      refine ow_vals 3 (j := 12) [0, 1, 6, 18] [(0, .slice p0 x0.length c0), (1, .int .i64 x1), (6, .int .i64 x23), (18, .bool (decide (y25 < x1)))] rfl (by kernel_rfl) ?_
      refine ow_end rfl ?_
      refine ew_then ?_
      rcases if_some hF with ⟨h29, hF⟩ | ⟨h29, hF⟩
      · refine cw_cond_t rfl rfl h29 ?_
        refine cw_skip ?_
        refine ew_then ?_
        refine cw_block ?_
        refine cw_region ?_
        refine ow_vals 3 (j := 3) [0, 1, 6] [(0, .slice p0 x0.length c0), (1, .int .i64 x1), (6, .int .i64 (IntKind.i64.wrap (x23 + 1)))] rfl (by kernel_rfl) ?_
        refine ow_end rfl ?_
        refine ew_blk ?_
        have hR := Option.some.inj hF
        subst hR
        have hR := hL22
        try dsimp only at hR
        exact fun a w hf hs => ⟨k, Nat.lt_succ_self k, IntKind.i64.wrap (x23 + 1), hR, hf.keep [0, 1, 6], sat_to [0] 0 rfl hs⟩
      · refine cw_cond_f rfl rfl h29 ?_
        refine cw_exit ?_
        refine ew_then_exit ?_
        refine ew_then_exit ?_
        refine ew_blk_exit ?_
        have hR := Option.some.inj hF
        subst hR
        have hR := hL22
        try dsimp only at hR
        exact fun a w hf hs => ⟨x23, hR, hf.keep [0, 6], sat_to [0] 0 rfl hs⟩
    · refine ow_slots (L' := [(0, .slice p0 x0.length c0), (1, .int .i64 x1), (6, .int .i64 x23), (11, .bool false)]) (by rw [h24]) ?_
      refine ow_vals 7 (j := 12) [0, 1, 6, 18] [(0, .slice p0 x0.length c0), (1, .int .i64 x1), (6, .int .i64 x23), (18, .bool false)] rfl (by kernel_rfl) ?_
      refine ow_end rfl ?_
      refine ew_then ?_
      refine cw_cond_f rfl rfl rfl ?_
      refine cw_exit ?_
      refine ew_then_exit ?_
      refine ew_then_exit ?_
      refine ew_blk_exit ?_
      have hR := Option.some.inj hF
      subst hR
      have hR := hL22
      try dsimp only at hR
      exact fun a w hf hs => ⟨x23, hR, hf.keep [0, 6], sat_to [0] 0 rfl hs⟩
  · rintro a w ⟨x30, hv, hf, hs⟩
    subst hv
    replace hF := hK21
    clear hK21
    try dsimp only at hF
    revert a w
    show CW _ _ _ 27 [(0, .slice p0 x0.length c0), (6, .int .i64 x30)] (SAT w0 ([imm I] ++ F0))
    unfold F.batch_part.r2 at hF
    refine cw_seq ?_
    refine cw_open 8 (SAT w0 ([imm I])) (by kernel_rfl) (f := 8) rfl (fun w hs => sat_drew hs) ?_
    refine aw_vals [0, 1, 3, 4] (f' := 4) (m' := 27) [21, 22, 24, 25] [(21, .slice p0 x0.length c0), (22, .int .i64 x30), (24, .slice p0 x0.length c0), (25, .int .i64 x30)] (fun _ _ _ _ _ h => calm_fin (P := Try.prog) (fn := Try.f50) _ _ _ _ _ h) (fun w hs => sat_pulls [0] (G := [] ++ F0) rfl hs) rfl (by kernel_rfl) ?_
    obtain ⟨h31, hF⟩ := chk_some hF
    refine aw_slice_ro (E := 3) 2 (m' := 31) 1 hr0 rfl rfl rfl rfl rfl (by kernel_rfl) (by kernel_rfl) (fun _ _ _ _ _ h => calm_fin (P := Try.prog) (fn := Try.f50) _ _ _ _ _ h) (fun w hs => sat_pulls [0] (G := [] ++ F0) rfl hs) (by kernel_rfl) rfl rfl rfl rfl h31 fun p32 c33 h34 => ?_
    refine aw_vals [6] (f' := 2) (m' := 95) [4, 24, 25] [(4, .slice p32 ((x0.drop (0 : Int).toNat).take (x30.toNat - (0 : Int).toNat)).length c33), (24, .slice p0 x0.length c0), (25, .int .i64 x30)] (fun _ _ _ _ _ h => calm_fin (P := Try.prog) (fn := Try.f50) _ _ _ _ _ h) (fun w hs => sat_pulls [0] (G := [] ++ F0) rfl hs) rfl (by kernel_rfl) ?_
    obtain ⟨h35, hF⟩ := chk_some hF
    refine aw_slice_ro (E := 3) 5 (m' := 127) 1 hr0 rfl rfl rfl rfl rfl (by kernel_rfl) (by kernel_rfl) (fun _ _ _ _ _ h => calm_fin (P := Try.prog) (fn := Try.f50) _ _ _ _ _ h) (fun w hs => sat_pulls [0] (G := [] ++ F0) rfl hs) (by kernel_rfl) rfl rfl rfl rfl h35 fun p36 c37 h38 => ?_
    refine aw_vals [7] (f' := 0) (m' := 255) [4, 5] [(4, .slice p32 ((x0.drop (0 : Int).toNat).take (x30.toNat - (0 : Int).toNat)).length c33), (5, .slice p36 ((x0.drop x30.toNat).take ((x0.length : Int).toNat - x30.toNat)).length c37)] (fun _ _ _ _ _ h => calm_fin (P := Try.prog) (fn := Try.f50) _ _ _ _ _ h) (fun w hs => sat_pulls [0] (G := [] ++ F0) rfl hs) rfl (by kernel_rfl) ?_
    refine aw_keep [4, 5] (L' := [(4, .slice p32 ((x0.drop (0 : Int).toNat).take (x30.toNat - (0 : Int).toNat)).length c33), (5, .slice p36 ((x0.drop x30.toNat).take ((x0.length : Int).toNat - x30.toNat)).length c37)]) rfl ?_
    refine aw_end (by kernel_rfl) ?_
    refine ew_then ?_
    refine cw_ret ?_
    have hR := Option.some.inj hF
    subst hR
    exact fin2 (H1 := [imm I]) (fun w hs => sat_to [0] 0 rfl hs) rfl (rr_tmp rfl) (rr_tmp rfl) ⟨p32, c33, p36, c37, rfl, rfl, h34, h38⟩


def F.batch_climber_root : Nat → Int → Int → (List Int) → batch_climber → mill_Mill → Option (ByteArray × batch_climber × mill_Mill)
  | 0, _, _, _, _, _ => none
  | k + 1, x1, x2, x3, m0, m1 => if m0.bad_ then (some (((ByteArray.mk #[]), m0, m1))) else (if (x3.length : Int) == 0 then (Option.bind (F.batch_climber_node m0 m1) (fun (r23 : ByteArray × batch_climber) => some ((r23.1, r23.2, m1)))) else (if x2 == 1 then (Option.bind (at_ m0.leaf_ 0) (fun (y26 : ByteArray) => chk (0 ≤ (1 : Int) ∧ (1 : Int) ≤ (m0.leaf_.length : Int) ∧ (m0.leaf_.length : Int) ≤ (m0.leaf_.length : Int)) (some ((y26, (⟨(m0.leaf_.drop (1 : Int).toNat).take ((m0.leaf_.length : Int).toNat - (1 : Int).toNat), m0.nodes_, m0.bad_⟩ : batch_climber), m1))))) else (Option.bind (F.batch_split x2) (fun (r34 : Int) => Option.bind (F.batch_part x3 (IntKind.i64.wrap (x1 + r34))) (fun (r36 : (List Int) × (List Int)) => Option.bind ((F.batch_climber_root k) x1 r34 r36.1 m0 m1) (fun (r38 : ByteArray × batch_climber × mill_Mill) => Option.bind ((F.batch_climber_root k) (IntKind.i64.wrap (x1 + r34)) (IntKind.i64.wrap (x2 - r34)) r36.2 r38.2.1 r38.2.2) (fun (r42 : ByteArray × batch_climber × mill_Mill) => if r42.2.1.bad_ then (some (((ByteArray.mk #[]), r42.2.1, r42.2.2))) else (Option.bind (F.pledge_Node r38.1 r42.1 r42.2.2) (fun (r47 : ByteArray × mill_Mill) => some ((r47.1, r42.2.1, r47.2)))))))))))
set_option maxRecDepth 100000 in
set_option maxHeartbeats 4000000 in
theorem c_batch_climber_root (k : Nat) : ∀ (I : Hl) (x1 : Int) (x2 : Int) (x3 : List Int) (m0 : batch_climber) (m1 : mill_Mill) (p0 : Option Addr) (c0 : Nat) (p1 : Option Addr) (c1 : Nat) (p2 : Option Addr) (c2 : Nat) (b0 : Nat) (p3 : Nat) (p4 : Nat) (b1 : Nat) (res : ByteArray × batch_climber × mill_Mill) (hF : F.batch_climber_root k x1 x2 x3 m0 m1 = some res) (hr0 : ro I (eInt .i64) p0 c0 x3) (hr1 : ro I eStr p1 c1 m0.leaf_) (hr2 : ro I eStr p2 c2 m0.nodes_), Tr Try.prog 28 [.pointer (some ⟨b0, 0, none⟩), .int .i64 x1, .int .i64 x2, .slice p0 x3.length c0] [imm I, pt b0 #[.pointer (some ⟨b1, 0, none⟩), .slice p1 m0.leaf_.length c1, .slice p2 m0.nodes_.length c2, .bool m0.bad_] 63, pt b1 #[.map (some p3), .map (some p4), .string m1.twins_.e0, .string m1.twins_.e1, .bool m1.found_, .bool m1.full_, .int .i64 m1.sums_] 60, mpo kStr kStr p3 m1.table_, mpo kStr kStr p4 m1.notes_] (fun r H' => ∃ (p1 : Option Addr), ∃ (c2 : Nat), ∃ (p4 : Option Addr), ∃ (c5 : Nat), ∃ (b7 : Nat), ∃ (b9 : Nat), r = .string res.1 ∧ H' = [imm I, pt b0 #[.pointer (some ⟨b1, 0, none⟩), .slice p1 res.2.1.leaf_.length c2, .slice p4 res.2.1.nodes_.length c5, .bool res.2.1.bad_] 63, pt b1 #[.map (some b7), .map (some b9), .string res.2.2.twins_.e0, .string res.2.2.twins_.e1, .bool res.2.2.found_, .bool res.2.2.full_, .int .i64 res.2.2.sums_] 60, mpo kStr kStr b7 res.2.2.table_, mpo kStr kStr b9 res.2.2.notes_] ∧ ro I eStr p1 c2 res.2.1.leaf_ ∧ ro I eStr p4 c5 res.2.1.nodes_) := by
  induction k with
  | zero => intro I x1 x2 x3 m0 m1 p0 c0 p1 c1 p2 c2 b0 p3 p4 b1 res hF hr0 hr1 hr2; cases hF
  | succ k ih =>
    intro I x1 x2 x3 m0 m1 p0 c0 p1 c1 p2 c2 b0 p3 p4 b1 res hF hr0 hr1 hr2
    rw [F.batch_climber_root] at hF
    refine tr_of_cw (fn := Try.f28) Try.func28 rfl (Nat.le_of_ble_eq_true rfl) 79 rfl fun F0 w0 => ?_
    refine cw_keep [0, 1, 2, 3] (L' := [(0, .pointer (some ⟨b0, 0, none⟩)), (1, .int .i64 x1), (2, .int .i64 x2), (3, .slice p0 x3.length c0)]) rfl ?_
    refine cw_state (S' := SAT w0 ([imm I, pt b0 #[.pointer (some ⟨b1, 0, none⟩), .slice p1 m0.leaf_.length c1, .slice p2 m0.nodes_.length c2, .bool m0.bad_] 63, pt b1 #[.map (some p3), .map (some p4), .string m1.twins_.e0, .string m1.twins_.e1, .bool m1.found_, .bool m1.full_, .int .i64 m1.sums_] 60, mpo kStr kStr p3 m1.table_, mpo kStr kStr p4 m1.notes_] ++ F0)) (fun w hs => hs) ?_
    refine cw_seq ?_
    refine cw_region ?_
    refine ow_vals 1 (j := 1) [0, 1, 2, 3] [(0, .pointer (some ⟨b0, 0, none⟩)), (1, .int .i64 x1), (2, .int .i64 x2), (3, .slice p0 x3.length c0)] rfl (by kernel_rfl) ?_
    refine ow_end rfl ?_
    refine ew_then ?_
    refine cw_seq ?_
    refine cw_block ?_
    refine cw_seq ?_
    refine cw_region ?_
    refine ow_vals 3 (j := 3) [0, 1, 2, 3, 18] [(0, .pointer (some ⟨b0, 0, none⟩)), (1, .int .i64 x1), (2, .int .i64 x2), (3, .slice p0 x3.length c0), (18, .pointer (some ⟨b0, 3, none⟩))] rfl (by kernel_rfl) ?_
    refine ow_pw rfl (pw_quiet (v := .bool m0.bad_) rfl rfl rfl rfl (q_load 1 rfl rfl rfl (by kernel_rfl)) (nw_ow ?_))
    refine ow_vals 1 (j := 5) [0, 1, 2, 3, 15] [(0, .pointer (some ⟨b0, 0, none⟩)), (1, .int .i64 x1), (2, .int .i64 x2), (3, .slice p0 x3.length c0), (15, .bool m0.bad_)] rfl (by kernel_rfl) ?_
    refine ow_end rfl ?_
    refine ew_then ?_
    rcases if_some hF with ⟨h21, hF⟩ | ⟨h21, hF⟩
    · refine cw_cond_t rfl rfl h21 ?_
      refine cw_seq ?_
      refine cw_region ?_
      refine ow_vals 1 (j := 1) [8] [(8, .string (ByteArray.mk #[]))] rfl (by kernel_rfl) ?_
      refine ow_end rfl ?_
      refine ew_then ?_
      refine cw_ret ?_
      refine ew_blk_ret ?_
      refine ew_then_ret ?_
      have hR := Option.some.inj hF
      subst hR
      exact fin1 (H1 := [imm I, pt b0 #[.pointer (some ⟨b1, 0, none⟩), .slice p1 m0.leaf_.length c1, .slice p2 m0.nodes_.length c2, .bool m0.bad_] 63, pt b1 #[.map (some p3), .map (some p4), .string m1.twins_.e0, .string m1.twins_.e1, .bool m1.found_, .bool m1.full_, .int .i64 m1.sums_] 60, mpo kStr kStr p3 m1.table_, mpo kStr kStr p4 m1.notes_]) (fun w hs => sat_to [0, 0, 0, 0, 0] 0 rfl hs) rfl (rr_tmp rfl) ⟨p1, c1, p2, c2, p3, p4, rfl, rfl, hr1, hr2⟩
    · refine cw_cond_f rfl rfl h21 ?_
      refine cw_seq ?_
      refine cw_region ?_
      refine ow_vals 4 (j := 4) [0, 1, 2, 3, 20] [(0, .pointer (some ⟨b0, 0, none⟩)), (1, .int .i64 x1), (2, .int .i64 x2), (3, .slice p0 x3.length c0), (20, .bool ((x3.length : Int) == 0))] rfl (by kernel_rfl) ?_
      refine ow_end rfl ?_
      refine ew_then ?_
      rcases if_some hF with ⟨h22, hF⟩ | ⟨h22, hF⟩
      · refine cw_cond_t rfl rfl h22 ?_
        refine cw_seq ?_
        refine cw_region ?_
        refine ow_vals 1 (j := 1) [24] [(24, .pointer (some ⟨b0, 0, none⟩))] rfl (by kernel_rfl) ?_
        obtain ⟨r23, h24, hF⟩ := bind_some hF
        refine ow_pw rfl (pw_call (F := [] ++ F0) rfl rfl rfl rfl rfl rfl rfl (by kernel_rfl) (perm_of_pulls [0, 0, 0, 0, 0] rfl) (c_batch_climber_node _ m0 m1 p1 c1 p2 c2 b0 p3 p4 b1 r23 h24 hr1 hr2) ?_)
        rintro _ _ ⟨r23_p1, r23_c2, r23_p4, r23_c5, rfl, rfl, r23_h3, r23_h6⟩
        refine nw_H (H' := [imm I, pt b0 #[.pointer (some ⟨b1, 0, none⟩), .slice r23_p1 r23.2.leaf_.length r23_c2, .slice r23_p4 r23.2.nodes_.length r23_c5, .bool r23.2.bad_] 63, pt b1 #[.map (some p3), .map (some p4), .string m1.twins_.e0, .string m1.twins_.e1, .bool m1.found_, .bool m1.full_, .int .i64 m1.sums_] 60, mpo kStr kStr p3 m1.table_, mpo kStr kStr p4 m1.notes_] ++ F0) rfl (nw_ow ?_)
        refine ow_vals 1 (j := 3) [8] [(8, .string r23.1)] rfl (by kernel_rfl) ?_
        refine ow_end rfl ?_
        refine ew_then ?_
        refine cw_ret ?_
        refine ew_blk_ret ?_
        refine ew_then_ret ?_
        have hR := Option.some.inj hF
        subst hR
        exact fin1 (H1 := [imm I, pt b0 #[.pointer (some ⟨b1, 0, none⟩), .slice r23_p1 r23.2.leaf_.length r23_c2, .slice r23_p4 r23.2.nodes_.length r23_c5, .bool r23.2.bad_] 63, pt b1 #[.map (some p3), .map (some p4), .string m1.twins_.e0, .string m1.twins_.e1, .bool m1.found_, .bool m1.full_, .int .i64 m1.sums_] 60, mpo kStr kStr p3 m1.table_, mpo kStr kStr p4 m1.notes_]) (fun w hs => sat_to [0, 0, 0, 0, 0] 0 rfl hs) rfl (rr_tmp rfl) ⟨r23_p1, r23_c2, r23_p4, r23_c5, p3, p4, rfl, rfl, r23_h3, r23_h6⟩
      · refine cw_cond_f rfl rfl h22 ?_
        refine cw_seq ?_
        refine cw_region ?_
        refine ow_vals 3 (j := 3) [0, 1, 2, 3, 26] [(0, .pointer (some ⟨b0, 0, none⟩)), (1, .int .i64 x1), (2, .int .i64 x2), (3, .slice p0 x3.length c0), (26, .bool (x2 == 1))] rfl (by kernel_rfl) ?_
        refine ow_end rfl ?_
        refine ew_then ?_
        rcases if_some hF with ⟨h25, hF⟩ | ⟨h25, hF⟩
        · refine cw_cond_t rfl rfl h25 ?_
          refine cw_seq ?_
          refine cw_region ?_
          refine ow_vals 3 (j := 3) [0, 31] [(0, .pointer (some ⟨b0, 0, none⟩)), (31, .pointer (some ⟨b0, 1, none⟩))] rfl (by kernel_rfl) ?_
          refine ow_pw rfl (pw_quiet (v := .slice p1 m0.leaf_.length c1) rfl rfl rfl rfl (q_load 1 rfl rfl rfl (by kernel_rfl)) (nw_ow ?_))
          obtain ⟨y26, h27, hF⟩ := bind_some hF
          refine ow_pw rfl (pw_index_ro (E := 9) 1 hr1 rfl rfl rfl rfl rfl (by kernel_rfl) rfl rfl rfl h27 fun q28 h29 => nw_ow ?_)
          refine ow_pw rfl (pw_quiet (v := .string y26) rfl rfl rfl rfl (q_load_el0 0 rfl h29 rfl rfl (by kernel_rfl)) (nw_ow ?_))
          refine ow_vals 1 (j := 7) [0, 9] [(0, .pointer (some ⟨b0, 0, none⟩)), (9, .string y26)] rfl (by kernel_rfl) ?_
          refine ow_end rfl ?_
          refine ew_then ?_
          refine cw_seq ?_
          refine cw_region ?_
          refine ow_vals 4 (j := 4) [9, 35, 38] [(9, .string y26), (35, .pointer (some ⟨b0, 0, none⟩)), (38, .pointer (some ⟨b0, 1, none⟩))] rfl (by kernel_rfl) ?_
          refine ow_pw rfl (pw_quiet (v := .slice p1 m0.leaf_.length c1) rfl rfl rfl rfl (q_load 1 rfl rfl rfl (by kernel_rfl)) (nw_ow ?_))
          obtain ⟨h30, hF⟩ := chk_some hF
          refine ow_pw rfl (pw_slice_ro (E := 9) 1 hr1 rfl rfl rfl rfl rfl (by kernel_rfl) rfl rfl rfl rfl h30 fun p31 c32 h33 => nw_ow ?_)
          refine ow_vals 2 (j := 8) [9, 40, 42] [(9, .string y26), (40, .slice p31 ((m0.leaf_.drop (1 : Int).toNat).take ((m0.leaf_.length : Int).toNat - (1 : Int).toNat)).length c32), (42, .pointer (some ⟨b0, 1, none⟩))] rfl (by kernel_rfl) ?_
          refine ow_pw rfl (pw_store 1 #[.pointer (some ⟨b1, 0, none⟩), .slice p31 ((m0.leaf_.drop (1 : Int).toNat).take ((m0.leaf_.length : Int).toNat - (1 : Int).toNat)).length c32, .slice p2 m0.nodes_.length c2, .bool m0.bad_] rfl rfl rfl rfl rfl rfl rfl (by kernel_rfl) (nw_H (H' := [imm I, pt b0 #[.pointer (some ⟨b1, 0, none⟩), .slice p31 ((m0.leaf_.drop (1 : Int).toNat).take ((m0.leaf_.length : Int).toNat - (1 : Int).toNat)).length c32, .slice p2 m0.nodes_.length c2, .bool m0.bad_] 63, pt b1 #[.map (some p3), .map (some p4), .string m1.twins_.e0, .string m1.twins_.e1, .bool m1.found_, .bool m1.full_, .int .i64 m1.sums_] 60, mpo kStr kStr p3 m1.table_, mpo kStr kStr p4 m1.notes_] ++ F0) rfl (nw_ow ?_)))
          refine ow_end rfl ?_
          refine ew_then ?_
          refine cw_seq ?_
          refine cw_region ?_
          refine ow_vals 2 (j := 2) [8] [(8, .string y26)] rfl (by kernel_rfl) ?_
          refine ow_end rfl ?_
          refine ew_then ?_
          refine cw_ret ?_
          refine ew_blk_ret ?_
          refine ew_then_ret ?_
          have hR := Option.some.inj hF
          subst hR
          exact fin1 (H1 := [imm I, pt b0 #[.pointer (some ⟨b1, 0, none⟩), .slice p31 ((⟨(m0.leaf_.drop (1 : Int).toNat).take ((m0.leaf_.length : Int).toNat - (1 : Int).toNat), m0.nodes_, m0.bad_⟩ : batch_climber).leaf_).length c32, .slice p2 ((⟨(m0.leaf_.drop (1 : Int).toNat).take ((m0.leaf_.length : Int).toNat - (1 : Int).toNat), m0.nodes_, m0.bad_⟩ : batch_climber).nodes_).length c2, .bool ((⟨(m0.leaf_.drop (1 : Int).toNat).take ((m0.leaf_.length : Int).toNat - (1 : Int).toNat), m0.nodes_, m0.bad_⟩ : batch_climber).bad_)] 63, pt b1 #[.map (some p3), .map (some p4), .string m1.twins_.e0, .string m1.twins_.e1, .bool m1.found_, .bool m1.full_, .int .i64 m1.sums_] 60, mpo kStr kStr p3 m1.table_, mpo kStr kStr p4 m1.notes_]) (fun w hs => sat_to [0, 0, 0, 0, 0] 0 rfl hs) rfl (rr_tmp rfl) ⟨p31, c32, p2, c2, p3, p4, rfl, rfl, h33, hr2⟩
        · refine cw_cond_f rfl rfl h25 ?_
          refine cw_skip ?_
          refine ew_blk ?_
          refine ew_then ?_
          refine cw_seq ?_
          refine cw_region ?_
          refine ow_vals 1 (j := 1) [0, 1, 2, 3, 44] [(0, .pointer (some ⟨b0, 0, none⟩)), (1, .int .i64 x1), (2, .int .i64 x2), (3, .slice p0 x3.length c0), (44, .int .i64 x2)] rfl (by kernel_rfl) ?_
          obtain ⟨r34, h35, hF⟩ := bind_some hF
          refine ow_pw rfl (pw_call (F := [pt b0 #[.pointer (some ⟨b1, 0, none⟩), .slice p1 m0.leaf_.length c1, .slice p2 m0.nodes_.length c2, .bool m0.bad_] 63, pt b1 #[.map (some p3), .map (some p4), .string m1.twins_.e0, .string m1.twins_.e1, .bool m1.found_, .bool m1.full_, .int .i64 m1.sums_] 60, mpo kStr kStr p3 m1.table_, mpo kStr kStr p4 m1.notes_] ++ F0) rfl rfl rfl rfl rfl rfl rfl (by kernel_rfl) (perm_of_pulls [0] rfl) (c_batch_split _ x2 r34 h35) ?_)
          rintro _ _ ⟨rfl, rfl⟩
          refine nw_H (H' := [imm I, pt b0 #[.pointer (some ⟨b1, 0, none⟩), .slice p1 m0.leaf_.length c1, .slice p2 m0.nodes_.length c2, .bool m0.bad_] 63, pt b1 #[.map (some p3), .map (some p4), .string m1.twins_.e0, .string m1.twins_.e1, .bool m1.found_, .bool m1.full_, .int .i64 m1.sums_] 60, mpo kStr kStr p3 m1.table_, mpo kStr kStr p4 m1.notes_] ++ F0) rfl (nw_ow ?_)
          refine ow_vals 1 (j := 3) [0, 1, 2, 3, 10] [(0, .pointer (some ⟨b0, 0, none⟩)), (1, .int .i64 x1), (2, .int .i64 x2), (3, .slice p0 x3.length c0), (10, .int .i64 r34)] rfl (by kernel_rfl) ?_
          refine ow_end rfl ?_
          refine ew_then ?_
          refine cw_seq ?_
          refine cw_region ?_
          refine ow_vals 4 (j := 4) [0, 1, 2, 10, 47, 50] [(0, .pointer (some ⟨b0, 0, none⟩)), (1, .int .i64 x1), (2, .int .i64 x2), (10, .int .i64 r34), (47, .slice p0 x3.length c0), (50, .int .i64 (IntKind.i64.wrap (x1 + r34)))] rfl (by kernel_rfl) ?_
          obtain ⟨r36, h37, hF⟩ := bind_some hF
          refine ow_pw rfl (pw_call (F := [pt b0 #[.pointer (some ⟨b1, 0, none⟩), .slice p1 m0.leaf_.length c1, .slice p2 m0.nodes_.length c2, .bool m0.bad_] 63, pt b1 #[.map (some p3), .map (some p4), .string m1.twins_.e0, .string m1.twins_.e1, .bool m1.found_, .bool m1.full_, .int .i64 m1.sums_] 60, mpo kStr kStr p3 m1.table_, mpo kStr kStr p4 m1.notes_] ++ F0) rfl rfl rfl rfl rfl rfl rfl (by kernel_rfl) (perm_of_pulls [0] rfl) (c_batch_part _ x3 (IntKind.i64.wrap (x1 + r34)) p0 c0 r36 h37 hr0) ?_)
          rintro _ _ ⟨r36_p1, r36_c2, r36_p4, r36_c5, rfl, rfl, r36_h3, r36_h6⟩
          refine nw_H (H' := [imm I, pt b0 #[.pointer (some ⟨b1, 0, none⟩), .slice p1 m0.leaf_.length c1, .slice p2 m0.nodes_.length c2, .bool m0.bad_] 63, pt b1 #[.map (some p3), .map (some p4), .string m1.twins_.e0, .string m1.twins_.e1, .bool m1.found_, .bool m1.full_, .int .i64 m1.sums_] 60, mpo kStr kStr p3 m1.table_, mpo kStr kStr p4 m1.notes_] ++ F0) rfl (nw_ow ?_)
          refine ow_vals 5 (j := 10) [0, 1, 2, 10, 11, 12] [(0, .pointer (some ⟨b0, 0, none⟩)), (1, .int .i64 x1), (2, .int .i64 x2), (10, .int .i64 r34), (11, .slice r36_p1 r36.1.length r36_c2), (12, .slice r36_p4 r36.2.length r36_c5)] rfl (by kernel_rfl) ?_
          refine ow_end rfl ?_
          refine ew_then ?_
          refine cw_seq ?_
          refine cw_region ?_
          refine ow_vals 4 (j := 4) [0, 1, 2, 10, 12, 54, 55, 56, 57] [(0, .pointer (some ⟨b0, 0, none⟩)), (1, .int .i64 x1), (2, .int .i64 x2), (10, .int .i64 r34), (12, .slice r36_p4 r36.2.length r36_c5), (54, .pointer (some ⟨b0, 0, none⟩)), (55, .int .i64 x1), (56, .int .i64 r34), (57, .slice r36_p1 r36.1.length r36_c2)] rfl (by kernel_rfl) ?_
          obtain ⟨r38, h39, hF⟩ := bind_some hF
          refine ow_pw rfl (pw_call (F := [] ++ F0) rfl rfl rfl rfl rfl rfl rfl (by kernel_rfl) (perm_of_pulls [0, 0, 0, 0, 0] rfl) (ih _ x1 r34 r36.1 m0 m1 r36_p1 r36_c2 p1 c1 p2 c2 b0 p3 p4 b1 r38 h39 r36_h3 hr1 hr2) ?_)
          rintro _ _ ⟨r38_p1, r38_c2, r38_p4, r38_c5, r38_b7, r38_b9, rfl, rfl, r38_h3, r38_h6⟩
          refine nw_H (H' := [imm I, pt b0 #[.pointer (some ⟨b1, 0, none⟩), .slice r38_p1 r38.2.1.leaf_.length r38_c2, .slice r38_p4 r38.2.1.nodes_.length r38_c5, .bool r38.2.1.bad_] 63, pt b1 #[.map (some r38_b7), .map (some r38_b9), .string r38.2.2.twins_.e0, .string r38.2.2.twins_.e1, .bool r38.2.2.found_, .bool r38.2.2.full_, .int .i64 r38.2.2.sums_] 60, mpo kStr kStr r38_b7 r38.2.2.table_, mpo kStr kStr r38_b9 r38.2.2.notes_] ++ F0) rfl (nw_ow ?_)
          refine ow_vals 1 (j := 6) [0, 1, 2, 10, 12, 13] [(0, .pointer (some ⟨b0, 0, none⟩)), (1, .int .i64 x1), (2, .int .i64 x2), (10, .int .i64 r34), (12, .slice r36_p4 r36.2.length r36_c5), (13, .string r38.1)] rfl (by kernel_rfl) ?_
          refine ow_end rfl ?_
          refine ew_then ?_
          refine cw_seq ?_
          refine cw_region ?_
          refine ow_vals 8 (j := 8) [0, 13, 59, 62, 65, 66] [(0, .pointer (some ⟨b0, 0, none⟩)), (13, .string r38.1), (59, .pointer (some ⟨b0, 0, none⟩)), (62, .int .i64 (IntKind.i64.wrap (x1 + r34))), (65, .int .i64 (IntKind.i64.wrap (x2 - r34))), (66, .slice r36_p4 r36.2.length r36_c5)] rfl (by kernel_rfl) ?_
          obtain ⟨r42, h43, hF⟩ := bind_some hF
          refine ow_pw rfl (pw_call (F := [] ++ F0) rfl rfl rfl rfl rfl rfl rfl (by kernel_rfl) (perm_of_pulls [0, 0, 0, 0, 0] rfl) (ih _ (IntKind.i64.wrap (x1 + r34)) (IntKind.i64.wrap (x2 - r34)) r36.2 r38.2.1 r38.2.2 r36_p4 r36_c5 r38_p1 r38_c2 r38_p4 r38_c5 b0 r38_b7 r38_b9 b1 r42 h43 r36_h6 r38_h3 r38_h6) ?_)
          rintro _ _ ⟨r42_p1, r42_c2, r42_p4, r42_c5, r42_b7, r42_b9, rfl, rfl, r42_h3, r42_h6⟩
          refine nw_H (H' := [imm I, pt b0 #[.pointer (some ⟨b1, 0, none⟩), .slice r42_p1 r42.2.1.leaf_.length r42_c2, .slice r42_p4 r42.2.1.nodes_.length r42_c5, .bool r42.2.1.bad_] 63, pt b1 #[.map (some r42_b7), .map (some r42_b9), .string r42.2.2.twins_.e0, .string r42.2.2.twins_.e1, .bool r42.2.2.found_, .bool r42.2.2.full_, .int .i64 r42.2.2.sums_] 60, mpo kStr kStr r42_b7 r42.2.2.table_, mpo kStr kStr r42_b9 r42.2.2.notes_] ++ F0) rfl (nw_ow ?_)
          refine ow_vals 1 (j := 10) [0, 13, 14] [(0, .pointer (some ⟨b0, 0, none⟩)), (13, .string r38.1), (14, .string r42.1)] rfl (by kernel_rfl) ?_
          refine ow_end rfl ?_
          refine ew_then ?_
          refine cw_seq ?_
          refine cw_seq ?_
          refine cw_region ?_
          refine ow_vals 3 (j := 3) [0, 13, 14, 70] [(0, .pointer (some ⟨b0, 0, none⟩)), (13, .string r38.1), (14, .string r42.1), (70, .pointer (some ⟨b0, 3, none⟩))] rfl (by kernel_rfl) ?_
          refine ow_pw rfl (pw_quiet (v := .bool r42.2.1.bad_) rfl rfl rfl rfl (q_load 1 rfl rfl rfl (by kernel_rfl)) (nw_ow ?_))
          refine ow_end rfl ?_
          refine ew_then ?_
          rcases if_some hF with ⟨h46, hF⟩ | ⟨h46, hF⟩
          · refine cw_cond_t rfl rfl h46 ?_
            refine cw_seq ?_
            refine cw_region ?_
            refine ow_vals 1 (j := 1) [8] [(8, .string (ByteArray.mk #[]))] rfl (by kernel_rfl) ?_
            refine ow_end rfl ?_
            refine ew_then ?_
            refine cw_ret ?_
            refine ew_then_ret ?_
            have hR := Option.some.inj hF
            subst hR
            exact fin1 (H1 := [imm I, pt b0 #[.pointer (some ⟨b1, 0, none⟩), .slice r42_p1 r42.2.1.leaf_.length r42_c2, .slice r42_p4 r42.2.1.nodes_.length r42_c5, .bool r42.2.1.bad_] 63, pt b1 #[.map (some r42_b7), .map (some r42_b9), .string r42.2.2.twins_.e0, .string r42.2.2.twins_.e1, .bool r42.2.2.found_, .bool r42.2.2.full_, .int .i64 r42.2.2.sums_] 60, mpo kStr kStr r42_b7 r42.2.2.table_, mpo kStr kStr r42_b9 r42.2.2.notes_]) (fun w hs => sat_to [0, 0, 0, 0, 0] 0 rfl hs) rfl (rr_tmp rfl) ⟨r42_p1, r42_c2, r42_p4, r42_c5, r42_b7, r42_b9, rfl, rfl, r42_h3, r42_h6⟩
          · refine cw_cond_f rfl rfl h46 ?_
            refine cw_skip ?_
            refine ew_then ?_
            refine cw_seq ?_
            refine cw_region ?_
            refine ow_vals 3 (j := 3) [13, 14, 74] [(13, .string r38.1), (14, .string r42.1), (74, .pointer (some ⟨b0, 0, none⟩))] rfl (by kernel_rfl) ?_
            refine ow_pw rfl (pw_quiet (v := .pointer (some ⟨b1, 0, none⟩)) rfl rfl rfl rfl (q_load 1 rfl rfl rfl (by kernel_rfl)) (nw_ow ?_))
            refine ow_vals 2 (j := 6) [75, 76, 77] [(75, .pointer (some ⟨b1, 0, none⟩)), (76, .string r38.1), (77, .string r42.1)] rfl (by kernel_rfl) ?_
            obtain ⟨r47, h48, hF⟩ := bind_some hF
            refine ow_pw rfl (pw_call (F := [pt b0 #[.pointer (some ⟨b1, 0, none⟩), .slice r42_p1 r42.2.1.leaf_.length r42_c2, .slice r42_p4 r42.2.1.nodes_.length r42_c5, .bool r42.2.1.bad_] 63] ++ F0) rfl rfl rfl rfl rfl rfl rfl (by kernel_rfl) (perm_of_pulls [0, 1, 1, 1] rfl) (c_pledge_Node _ r38.1 r42.1 r42.2.2 r42_b7 r42_b9 b1 r47 h48) ?_)
            rintro _ _ ⟨r47_b1, r47_b3, rfl, rfl⟩
            refine nw_H (H' := [imm I, pt b1 #[.map (some r47_b1), .map (some r47_b3), .string r47.2.twins_.e0, .string r47.2.twins_.e1, .bool r47.2.found_, .bool r47.2.full_, .int .i64 r47.2.sums_] 60, mpo kStr kStr r47_b1 r47.2.table_, mpo kStr kStr r47_b3 r47.2.notes_, pt b0 #[.pointer (some ⟨b1, 0, none⟩), .slice r42_p1 r42.2.1.leaf_.length r42_c2, .slice r42_p4 r42.2.1.nodes_.length r42_c5, .bool r42.2.1.bad_] 63] ++ F0) rfl (nw_ow ?_)
            refine ow_vals 1 (j := 8) [8] [(8, .string r47.1)] rfl (by kernel_rfl) ?_
            refine ow_end rfl ?_
            refine ew_then ?_
            refine cw_ret ?_
            have hR := Option.some.inj hF
            subst hR
            exact fin1 (H1 := [imm I, pt b0 #[.pointer (some ⟨b1, 0, none⟩), .slice r42_p1 r42.2.1.leaf_.length r42_c2, .slice r42_p4 r42.2.1.nodes_.length r42_c5, .bool r42.2.1.bad_] 63, pt b1 #[.map (some r47_b1), .map (some r47_b3), .string r47.2.twins_.e0, .string r47.2.twins_.e1, .bool r47.2.found_, .bool r47.2.full_, .int .i64 r47.2.sums_] 60, mpo kStr kStr r47_b1 r47.2.table_, mpo kStr kStr r47_b3 r47.2.notes_]) (fun w hs => sat_to [0, 3, 0, 0, 0] 0 rfl hs) rfl (rr_tmp rfl) ⟨r42_p1, r42_c2, r42_p4, r42_c5, r47_b1, r47_b3, rfl, rfl, r42_h3, r42_h6⟩


def F.batch_Root (x1 : batch_Proof) (m0 : mill_Mill) : Option (ByteArray × Int × mill_Mill) :=
  Option.bind (F.batch_Right x1) (fun (r23 : Bool) => if !r23 then (some (((ByteArray.mk #[]), 4, m0))) else (Option.bind (F.batch_climber_root FUEL 0 x1.Size x1.Picks (⟨x1.Leaf, x1.Nodes, false⟩ : batch_climber) m0) (fun (r28 : ByteArray × batch_climber × mill_Mill) => if r28.2.1.bad_ then (some (((ByteArray.mk #[]), 20, r28.2.2))) else (if decide ((r28.2.1.nodes_.length : Int) > 0) then (some (((ByteArray.mk #[]), 20, r28.2.2))) else (some ((r28.1, 0, r28.2.2)))))))
set_option maxRecDepth 100000 in
set_option maxHeartbeats 4000000 in
theorem c_batch_Root (I : Hl) (x1 : batch_Proof) (m0 : mill_Mill) (p0 : Option Addr) (c0 : Nat) (p1 : Option Addr) (c1 : Nat) (p2 : Option Addr) (c2 : Nat) (p3 : Nat) (p4 : Nat) (b0 : Nat) (res : ByteArray × Int × mill_Mill) (hF : F.batch_Root x1 m0 = some res) (hr0 : ro I (eInt .i64) p0 c0 x1.Picks) (hr1 : ro I eStr p1 c1 x1.Leaf) (hr2 : ro I eStr p2 c2 x1.Nodes) : Tr Try.prog 10 [.pointer (some ⟨b0, 0, none⟩), .agg #[.int .i64 x1.Size, .slice p0 x1.Picks.length c0, .slice p1 x1.Leaf.length c1, .slice p2 x1.Nodes.length c2]] [imm I, pt b0 #[.map (some p3), .map (some p4), .string m0.twins_.e0, .string m0.twins_.e1, .bool m0.found_, .bool m0.full_, .int .i64 m0.sums_] 60, mpo kStr kStr p3 m0.table_, mpo kStr kStr p4 m0.notes_] (fun r H' => ∃ (b1 : Nat), ∃ (b3 : Nat), r = .tuple #[.string res.1, .int .i64 res.2.1] ∧ H' = [imm I, pt b0 #[.map (some b1), .map (some b3), .string res.2.2.twins_.e0, .string res.2.2.twins_.e1, .bool res.2.2.found_, .bool res.2.2.full_, .int .i64 res.2.2.sums_] 60, mpo kStr kStr b1 res.2.2.table_, mpo kStr kStr b3 res.2.2.notes_]) := by
  unfold F.batch_Root at hF
  refine tr_of_cw (fn := Try.f10) Try.func10 rfl (Nat.le_of_ble_eq_true rfl) 37 rfl fun F0 w0 => ?_
  refine cw_keep [0, 1] (L' := [(0, .pointer (some ⟨b0, 0, none⟩)), (1, .agg #[.int .i64 x1.Size, .slice p0 x1.Picks.length c0, .slice p1 x1.Leaf.length c1, .slice p2 x1.Nodes.length c2])]) rfl ?_
  refine cw_state (S' := SAT w0 ([imm I, pt b0 #[.map (some p3), .map (some p4), .string m0.twins_.e0, .string m0.twins_.e1, .bool m0.found_, .bool m0.full_, .int .i64 m0.sums_] 60, mpo kStr kStr p3 m0.table_, mpo kStr kStr p4 m0.notes_] ++ F0)) (fun w hs => hs) ?_
  refine cw_seq ?_
  refine cw_region ?_
  refine ow_pw rfl (pw_box (cs := #[.int .i64 x1.Size, .slice p0 x1.Picks.length c0, .slice p1 x1.Leaf.length c1, .slice p2 x1.Nodes.length c2]) rfl rfl rfl rfl rfl rfl fun b21 => nw_ow ?_)
  refine ow_vals 2 (j := 3) [0, 3] [(0, .pointer (some ⟨b0, 0, none⟩)), (3, .pointer (some ⟨b21, 0, none⟩))] rfl (by kernel_rfl) ?_
  refine ow_end rfl ?_
  refine ew_then ?_
  refine cw_seq ?_
  refine cw_seq ?_
  refine cw_region ?_
  refine ow_pw rfl (pw_quiet (v := .agg #[.int .i64 x1.Size, .slice p0 x1.Picks.length c0, .slice p1 x1.Leaf.length c1, .slice p2 x1.Nodes.length c2]) rfl rfl rfl rfl (q_load 0 rfl rfl rfl (by kernel_rfl)) (nw_ow ?_))
  obtain ⟨r23, h24, hF⟩ := bind_some hF
  refine ow_pw rfl (pw_call (F := [pt b21 #[.int .i64 x1.Size, .slice p0 x1.Picks.length c0, .slice p1 x1.Leaf.length c1, .slice p2 x1.Nodes.length c2] 25, pt b0 #[.map (some p3), .map (some p4), .string m0.twins_.e0, .string m0.twins_.e1, .bool m0.found_, .bool m0.full_, .int .i64 m0.sums_] 60, mpo kStr kStr p3 m0.table_, mpo kStr kStr p4 m0.notes_] ++ F0) rfl rfl rfl rfl rfl rfl rfl (by kernel_rfl) (perm_of_pulls [1] rfl) (c_batch_Right _ x1 p0 c0 p1 c1 p2 c2 r23 h24 hr0 hr1 hr2) ?_)
  rintro _ _ ⟨rfl, rfl⟩
  refine nw_H (H' := [imm I, pt b21 #[.int .i64 x1.Size, .slice p0 x1.Picks.length c0, .slice p1 x1.Leaf.length c1, .slice p2 x1.Nodes.length c2] 25, pt b0 #[.map (some p3), .map (some p4), .string m0.twins_.e0, .string m0.twins_.e1, .bool m0.found_, .bool m0.full_, .int .i64 m0.sums_] 60, mpo kStr kStr p3 m0.table_, mpo kStr kStr p4 m0.notes_] ++ F0) rfl (nw_ow ?_)
  refine ow_vals 1 (j := 3) [0, 3, 10] [(0, .pointer (some ⟨b0, 0, none⟩)), (3, .pointer (some ⟨b21, 0, none⟩)), (10, .bool (!r23))] rfl (by kernel_rfl) ?_
  refine ow_end rfl ?_
  refine ew_then ?_
  rcases if_some hF with ⟨h25, hF⟩ | ⟨h25, hF⟩
  · refine cw_cond_t rfl rfl h25 ?_
    refine cw_seq ?_
    refine cw_region ?_
    refine ow_vals 2 (j := 2) [4, 5] [(4, .string (ByteArray.mk #[])), (5, .int .i64 4)] rfl (by kernel_rfl) ?_
    refine ow_end rfl ?_
    refine ew_then ?_
    refine cw_ret ?_
    refine ew_then_ret ?_
    have hR := Option.some.inj hF
    subst hR
    exact fin2 (H1 := [imm I, pt b0 #[.map (some p3), .map (some p4), .string m0.twins_.e0, .string m0.twins_.e1, .bool m0.found_, .bool m0.full_, .int .i64 m0.sums_] 60, mpo kStr kStr p3 m0.table_, mpo kStr kStr p4 m0.notes_]) (fun w hs => sat_to [1, 0, 0, 0, 0] 1 rfl hs) rfl (rr_tmp rfl) (rr_tmp rfl) ⟨p3, p4, rfl, rfl⟩
  · refine cw_cond_f rfl rfl h25 ?_
    refine cw_skip ?_
    refine ew_then ?_
    refine cw_seq ?_
    refine cw_region ?_
    refine ow_vals 2 (j := 2) [3, 11, 12] [(3, .pointer (some ⟨b21, 0, none⟩)), (11, .pointer (some ⟨b0, 0, none⟩)), (12, .pointer (some ⟨b21, 2, none⟩))] rfl (by kernel_rfl) ?_
    refine ow_pw rfl (pw_quiet (v := .slice p1 x1.Leaf.length c1) rfl rfl rfl rfl (q_load 1 rfl rfl rfl (by kernel_rfl)) (nw_ow ?_))
    refine ow_vals 1 (j := 4) [3, 11, 13, 14] [(3, .pointer (some ⟨b21, 0, none⟩)), (11, .pointer (some ⟨b0, 0, none⟩)), (13, .slice p1 x1.Leaf.length c1), (14, .pointer (some ⟨b21, 3, none⟩))] rfl (by kernel_rfl) ?_
    refine ow_pw rfl (pw_quiet (v := .slice p2 x1.Nodes.length c2) rfl rfl rfl rfl (q_load 1 rfl rfl rfl (by kernel_rfl)) (nw_ow ?_))
    refine ow_vals 1 (j := 6) [3, 16] [(3, .pointer (some ⟨b21, 0, none⟩)), (16, .agg #[.pointer (some ⟨b0, 0, none⟩), .slice p1 x1.Leaf.length c1, .slice p2 x1.Nodes.length c2, .bool false])] rfl (by kernel_rfl) ?_
    refine ow_pw rfl (pw_box (cs := #[.pointer (some ⟨b0, 0, none⟩), .slice p1 x1.Leaf.length c1, .slice p2 x1.Nodes.length c2, .bool false]) rfl rfl rfl rfl rfl rfl fun b26 => nw_ow ?_)
    refine ow_vals 1 (j := 8) [3, 6] [(3, .pointer (some ⟨b21, 0, none⟩)), (6, .pointer (some ⟨b26, 0, none⟩))] rfl (by kernel_rfl) ?_
    refine ow_end rfl ?_
    refine ew_then ?_
    refine cw_seq ?_
    refine cw_region ?_
    refine ow_vals 2 (j := 2) [3, 6, 18, 19] [(3, .pointer (some ⟨b21, 0, none⟩)), (6, .pointer (some ⟨b26, 0, none⟩)), (18, .pointer (some ⟨b26, 0, none⟩)), (19, .pointer (some ⟨b21, 0, none⟩))] rfl (by kernel_rfl) ?_
    refine ow_pw rfl (pw_quiet (v := .int .i64 x1.Size) rfl rfl rfl rfl (q_load 2 rfl rfl rfl (by kernel_rfl)) (nw_ow ?_))
    refine ow_vals 1 (j := 4) [6, 18, 20, 21] [(6, .pointer (some ⟨b26, 0, none⟩)), (18, .pointer (some ⟨b26, 0, none⟩)), (20, .int .i64 x1.Size), (21, .pointer (some ⟨b21, 1, none⟩))] rfl (by kernel_rfl) ?_
    refine ow_pw rfl (pw_quiet (v := .slice p0 x1.Picks.length c0) rfl rfl rfl rfl (q_load 2 rfl rfl rfl (by kernel_rfl)) (nw_ow ?_))
    obtain ⟨r28, h29, hF⟩ := bind_some hF
    refine ow_pw rfl (pw_call (F := [pt b21 #[.int .i64 x1.Size, .slice p0 x1.Picks.length c0, .slice p1 x1.Leaf.length c1, .slice p2 x1.Nodes.length c2] 25] ++ F0) rfl rfl rfl rfl rfl rfl rfl (by kernel_rfl) (perm_of_pulls [1, 0, 1, 1, 1] rfl) (c_batch_climber_root FUEL _ 0 x1.Size x1.Picks (⟨x1.Leaf, x1.Nodes, false⟩ : batch_climber) m0 p0 c0 p1 c1 p2 c2 b26 p3 p4 b0 r28 h29 hr0 hr1 hr2) ?_)
    rintro _ _ ⟨r28_p1, r28_c2, r28_p4, r28_c5, r28_b7, r28_b9, rfl, rfl, r28_h3, r28_h6⟩
    refine nw_H (H' := [imm I, pt b26 #[.pointer (some ⟨b0, 0, none⟩), .slice r28_p1 r28.2.1.leaf_.length r28_c2, .slice r28_p4 r28.2.1.nodes_.length r28_c5, .bool r28.2.1.bad_] 63, pt b0 #[.map (some r28_b7), .map (some r28_b9), .string r28.2.2.twins_.e0, .string r28.2.2.twins_.e1, .bool r28.2.2.found_, .bool r28.2.2.full_, .int .i64 r28.2.2.sums_] 60, mpo kStr kStr r28_b7 r28.2.2.table_, mpo kStr kStr r28_b9 r28.2.2.notes_, pt b21 #[.int .i64 x1.Size, .slice p0 x1.Picks.length c0, .slice p1 x1.Leaf.length c1, .slice p2 x1.Nodes.length c2] 25] ++ F0) rfl (nw_ow ?_)
    refine ow_vals 1 (j := 7) [6, 7] [(6, .pointer (some ⟨b26, 0, none⟩)), (7, .string r28.1)] rfl (by kernel_rfl) ?_
    refine ow_end rfl ?_
    refine ew_then ?_
    refine cw_seq ?_
    refine cw_seq ?_
    refine cw_region ?_
    refine ow_vals 3 (j := 3) [6, 7, 26] [(6, .pointer (some ⟨b26, 0, none⟩)), (7, .string r28.1), (26, .pointer (some ⟨b26, 3, none⟩))] rfl (by kernel_rfl) ?_
    refine ow_pw rfl (pw_quiet (v := .bool r28.2.1.bad_) rfl rfl rfl rfl (q_load 1 rfl rfl rfl (by kernel_rfl)) (nw_ow ?_))
    refine ow_vals 1 (j := 5) [6, 7, 28] [(6, .pointer (some ⟨b26, 0, none⟩)), (7, .string r28.1), (28, .bool r28.2.1.bad_)] rfl (by kernel_rfl) ?_
    rcases if_some hF with ⟨h32, hF⟩ | ⟨h32, hF⟩
    · refine ow_slots (L' := [(6, .pointer (some ⟨b26, 0, none⟩)), (7, .string r28.1), (28, .bool true)]) (by rw [h32]) ?_
      refine ow_vals 7 (j := 12) [7, 35] [(7, .string r28.1), (35, .bool true)] rfl (by kernel_rfl) ?_
      refine ow_end rfl ?_
      refine ew_then ?_
      refine cw_cond_t rfl rfl rfl ?_
      refine cw_seq ?_
      refine cw_region ?_
      refine ow_vals 2 (j := 2) [4, 5] [(4, .string (ByteArray.mk #[])), (5, .int .i64 20)] rfl (by kernel_rfl) ?_
      refine ow_end rfl ?_
      refine ew_then ?_
      refine cw_ret ?_
      refine ew_then_ret ?_
      have hR := Option.some.inj hF
      subst hR
      exact fin2 (H1 := [imm I, pt b0 #[.map (some r28_b7), .map (some r28_b9), .string r28.2.2.twins_.e0, .string r28.2.2.twins_.e1, .bool r28.2.2.found_, .bool r28.2.2.full_, .int .i64 r28.2.2.sums_] 60, mpo kStr kStr r28_b7 r28.2.2.table_, mpo kStr kStr r28_b9 r28.2.2.notes_]) (fun w hs => sat_to [1, 4, 0, 0, 0, 0] 2 rfl hs) rfl (rr_tmp rfl) (rr_tmp rfl) ⟨r28_b7, r28_b9, rfl, rfl⟩
    · refine ow_slots (L' := [(6, .pointer (some ⟨b26, 0, none⟩)), (7, .string r28.1), (28, .bool false)]) (by rw [h32]) ?_
      refine ow_vals 3 (j := 8) [7, 28, 31] [(7, .string r28.1), (28, .bool false), (31, .pointer (some ⟨b26, 2, none⟩))] rfl (by kernel_rfl) ?_
      refine ow_pw rfl (pw_quiet (v := .slice r28_p4 r28.2.1.nodes_.length r28_c5) rfl rfl rfl rfl (q_load 1 rfl rfl rfl (by kernel_rfl)) (nw_ow ?_))
      refine ow_vals 3 (j := 12) [7, 35] [(7, .string r28.1), (35, .bool (decide ((r28.2.1.nodes_.length : Int) > 0)))] rfl (by kernel_rfl) ?_
      refine ow_end rfl ?_
      refine ew_then ?_
      rcases if_some hF with ⟨h33, hF⟩ | ⟨h33, hF⟩
      · refine cw_cond_t rfl rfl h33 ?_
        refine cw_seq ?_
        refine cw_region ?_
        refine ow_vals 2 (j := 2) [4, 5] [(4, .string (ByteArray.mk #[])), (5, .int .i64 20)] rfl (by kernel_rfl) ?_
        refine ow_end rfl ?_
        refine ew_then ?_
        refine cw_ret ?_
        refine ew_then_ret ?_
        have hR := Option.some.inj hF
        subst hR
        exact fin2 (H1 := [imm I, pt b0 #[.map (some r28_b7), .map (some r28_b9), .string r28.2.2.twins_.e0, .string r28.2.2.twins_.e1, .bool r28.2.2.found_, .bool r28.2.2.full_, .int .i64 r28.2.2.sums_] 60, mpo kStr kStr r28_b7 r28.2.2.table_, mpo kStr kStr r28_b9 r28.2.2.notes_]) (fun w hs => sat_to [1, 4, 0, 0, 0, 0] 2 rfl hs) rfl (rr_tmp rfl) (rr_tmp rfl) ⟨r28_b7, r28_b9, rfl, rfl⟩
      · refine cw_cond_f rfl rfl h33 ?_
        refine cw_skip ?_
        refine ew_then ?_
        refine cw_seq ?_
        refine cw_region ?_
        refine ow_vals 3 (j := 3) [4, 5] [(4, .string r28.1), (5, .int .i64 0)] rfl (by kernel_rfl) ?_
        refine ow_end rfl ?_
        refine ew_then ?_
        refine cw_ret ?_
        have hR := Option.some.inj hF
        subst hR
        exact fin2 (H1 := [imm I, pt b0 #[.map (some r28_b7), .map (some r28_b9), .string r28.2.2.twins_.e0, .string r28.2.2.twins_.e1, .bool r28.2.2.found_, .bool r28.2.2.full_, .int .i64 r28.2.2.sums_] 60, mpo kStr kStr r28_b7 r28.2.2.table_, mpo kStr kStr r28_b9 r28.2.2.notes_]) (fun w hs => sat_to [1, 4, 0, 0, 0, 0] 2 rfl hs) rfl (rr_tmp rfl) (rr_tmp rfl) ⟨r28_b7, r28_b9, rfl, rfl⟩


def F.merkle_split.l1 (x0 : Int) (x23 : Int) : Option ((Int) ⊕ (Int)) :=
  if decide (x23 < (IntKind.i64.wrap (x0 - x23))) then (some (.inl (IntKind.i64.wrap (x23 * 2)))) else (some (.inr (x23)))
def F.merkle_split.r2 (x25 : Int) : Option (Int) :=
  some (x25)
def F.merkle_split (x0 : Int) : Option Int :=
  Option.bind (iter (fun x => F.merkle_split.l1 x0 x) FUEL 1) (fun x => F.merkle_split.r2 x)
set_option maxRecDepth 100000 in
set_option maxHeartbeats 4000000 in
theorem c_merkle_split (I : Hl) (x0 : Int) (res : Int) (hF : F.merkle_split x0 = some res) : Tr Try.prog 58 [.int .i64 x0] [imm I] (fun r H' => r = .int .i64 res ∧ H' = [imm I]) := by
  unfold F.merkle_split at hF
  refine tr_of_cw (fn := Try.f58) Try.func58 rfl (Nat.le_of_ble_eq_true rfl) 12 rfl fun F0 w0 => ?_
  refine cw_keep [0] (L' := [(0, .int .i64 x0)]) rfl ?_
  refine cw_state (S' := SAT w0 ([imm I] ++ F0)) (fun w hs => hs) ?_
  refine cw_seq ?_
  refine cw_region ?_
  refine ow_vals 1 (j := 1) [0] [(0, .int .i64 x0)] rfl (by kernel_rfl) ?_
  refine ow_end rfl ?_
  refine ew_then ?_
  refine cw_seq ?_
  refine cw_region ?_
  refine ow_vals 1 (j := 1) [0, 3] [(0, .int .i64 x0), (3, .int .i64 1)] rfl (by kernel_rfl) ?_
  refine ow_end rfl ?_
  refine ew_then ?_
  obtain ⟨v21, hF, hK21⟩ := bind_some hF
  refine cw_mid (fun a w => ∃ (x25 : Int), x25 = v21 ∧ Fr 12 [(3, .int .i64 x25)] a ∧ SAT w0 ([imm I] ++ F0) w) ?_ ?_
  · refine cw_block ?_
    refine fun a w hf hs => wp_rounds (fun k a w => ∃ (x23 : Int), iter (fun x => F.merkle_split.l1 x0 x) k x23 = some v21 ∧ Fr 12 [(0, .int .i64 x0), (3, .int .i64 x23)] a ∧ SAT w0 ([imm I] ++ F0) w) ?_ FUEL a w ⟨1, hF, hf.keep [0, 3], sat_to [0] 0 rfl hs⟩
    clear hf hs
    clear a w hF
    rintro k a w ⟨x23, hF2, hf, hs⟩
    obtain ⟨k, r22, rfl, hF, hL22⟩ := iter_some hF2
    clear hF2
    revert a w
    show CW _ _ _ 12 [(0, .int .i64 x0), (3, .int .i64 x23)] (SAT w0 ([imm I] ++ F0))
    try dsimp only at hF
    unfold F.merkle_split.l1 at hF
    refine cw_seq ?_
    refine cw_seq ?_
    refine cw_region ?_
    refine ow_vals 5 (j := 5) [0, 3, 8] [(0, .int .i64 x0), (3, .int .i64 x23), (8, .bool (decide (x23 < (IntKind.i64.wrap (x0 - x23)))))] rfl (by kernel_rfl) ?_
    refine ow_end rfl ?_
    refine ew_then ?_
    rcases if_some hF with ⟨h24, hF⟩ | ⟨h24, hF⟩
    · refine cw_cond_t rfl rfl h24 ?_
      refine cw_skip ?_
      refine ew_then ?_
      refine cw_block ?_
      refine cw_region ?_
      refine ow_vals 3 (j := 3) [0, 3] [(0, .int .i64 x0), (3, .int .i64 (IntKind.i64.wrap (x23 * 2)))] rfl (by kernel_rfl) ?_
      refine ow_end rfl ?_
      refine ew_blk ?_
      have hR := Option.some.inj hF
      subst hR
      have hR := hL22
      try dsimp only at hR
      exact fun a w hf hs => ⟨k, Nat.lt_succ_self k, IntKind.i64.wrap (x23 * 2), hR, hf.keep [0, 3], sat_to [0] 0 rfl hs⟩
    · refine cw_cond_f rfl rfl h24 ?_
      refine cw_exit ?_
      refine ew_then_exit ?_
      refine ew_then_exit ?_
      refine ew_blk_exit ?_
      have hR := Option.some.inj hF
      subst hR
      have hR := hL22
      try dsimp only at hR
      exact fun a w hf hs => ⟨x23, hR, hf.keep [3], sat_to [0] 0 rfl hs⟩
  · rintro a w ⟨x25, hv, hf, hs⟩
    subst hv
    replace hF := hK21
    clear hK21
    try dsimp only at hF
    revert a w
    show CW _ _ _ 12 [(3, .int .i64 x25)] (SAT w0 ([imm I] ++ F0))
    unfold F.merkle_split.r2 at hF
    refine cw_seq ?_
    refine cw_region ?_
    refine ow_vals 2 (j := 2) [2] [(2, .int .i64 x25)] rfl (by kernel_rfl) ?_
    refine ow_end rfl ?_
    refine ew_then ?_
    refine cw_ret ?_
    have hR := Option.some.inj hF
    subst hR
    exact fin1 (H1 := [imm I]) (fun w hs => sat_to [0] 0 rfl hs) rfl (rr_tmp rfl) ⟨rfl, rfl⟩


def F.merkle_Root : Nat → (List ByteArray) → mill_Mill → Option (ByteArray × mill_Mill)
  | 0, _, _ => none
  | k + 1, x1, m0 => if (x1.length : Int) == 0 then (Option.bind (F.pledge_None m0) (fun (r22 : ByteArray × mill_Mill) => some ((r22.1, r22.2)))) else (if (x1.length : Int) == 1 then (Option.bind (at_ x1 0) (fun (y27 : ByteArray) => some ((y27, m0)))) else (Option.bind (F.merkle_split (x1.length : Int)) (fun (r31 : Int) => chk (0 ≤ (0 : Int) ∧ (0 : Int) ≤ r31 ∧ r31 ≤ r31 ∧ r31 ≤ (x1.length : Int)) (chk (0 ≤ r31 ∧ r31 ≤ (x1.length : Int) ∧ (x1.length : Int) ≤ (x1.length : Int)) (Option.bind ((F.merkle_Root k) ((x1.drop (0 : Int).toNat).take (r31.toNat - (0 : Int).toNat)) m0) (fun (r41 : ByteArray × mill_Mill) => Option.bind ((F.merkle_Root k) ((x1.drop r31.toNat).take ((x1.length : Int).toNat - r31.toNat)) r41.2) (fun (r45 : ByteArray × mill_Mill) => Option.bind (F.pledge_Node r41.1 r45.1 r45.2) (fun (r49 : ByteArray × mill_Mill) => some ((r49.1, r49.2))))))))))
set_option maxRecDepth 100000 in
set_option maxHeartbeats 4000000 in
theorem c_merkle_Root (k : Nat) : ∀ (I : Hl) (x1 : List ByteArray) (m0 : mill_Mill) (p0 : Option Addr) (c0 : Nat) (p1 : Nat) (p2 : Nat) (b0 : Nat) (res : ByteArray × mill_Mill) (hF : F.merkle_Root k x1 m0 = some res) (hr0 : ro I eStr p0 c0 x1), Tr Try.prog 52 [.pointer (some ⟨b0, 0, none⟩), .slice p0 x1.length c0] [imm I, pt b0 #[.map (some p1), .map (some p2), .string m0.twins_.e0, .string m0.twins_.e1, .bool m0.found_, .bool m0.full_, .int .i64 m0.sums_] 60, mpo kStr kStr p1 m0.table_, mpo kStr kStr p2 m0.notes_] (fun r H' => ∃ (b1 : Nat), ∃ (b3 : Nat), r = .string res.1 ∧ H' = [imm I, pt b0 #[.map (some b1), .map (some b3), .string res.2.twins_.e0, .string res.2.twins_.e1, .bool res.2.found_, .bool res.2.full_, .int .i64 res.2.sums_] 60, mpo kStr kStr b1 res.2.table_, mpo kStr kStr b3 res.2.notes_]) := by
  induction k with
  | zero => intro I x1 m0 p0 c0 p1 p2 b0 res hF hr0; cases hF
  | succ k ih =>
    intro I x1 m0 p0 c0 p1 p2 b0 res hF hr0
    rw [F.merkle_Root] at hF
    refine tr_of_cw (fn := Try.f52) Try.func52 rfl (Nat.le_of_ble_eq_true rfl) 33 rfl fun F0 w0 => ?_
    refine cw_keep [0, 1] (L' := [(0, .pointer (some ⟨b0, 0, none⟩)), (1, .slice p0 x1.length c0)]) rfl ?_
    refine cw_state (S' := SAT w0 ([imm I, pt b0 #[.map (some p1), .map (some p2), .string m0.twins_.e0, .string m0.twins_.e1, .bool m0.found_, .bool m0.full_, .int .i64 m0.sums_] 60, mpo kStr kStr p1 m0.table_, mpo kStr kStr p2 m0.notes_] ++ F0)) (fun w hs => hs) ?_
    refine cw_seq ?_
    refine cw_region ?_
    refine ow_vals 1 (j := 1) [0, 1] [(0, .pointer (some ⟨b0, 0, none⟩)), (1, .slice p0 x1.length c0)] rfl (by kernel_rfl) ?_
    refine ow_end rfl ?_
    refine ew_then ?_
    refine cw_seq ?_
    refine cw_seq ?_
    refine cw_region ?_
    refine ow_vals 2 (j := 2) [0, 1, 7] [(0, .pointer (some ⟨b0, 0, none⟩)), (1, .slice p0 x1.length c0), (7, .int .i64 (x1.length : Int))] rfl (by kernel_rfl) ?_
    refine ow_end rfl ?_
    refine ew_then ?_
    refine cw_block ?_
    refine cw_seq ?_
    refine cw_region ?_
    refine ow_vals 2 (j := 2) [0, 1, 7, 8] [(0, .pointer (some ⟨b0, 0, none⟩)), (1, .slice p0 x1.length c0), (7, .int .i64 (x1.length : Int)), (8, .bool ((x1.length : Int) == 0))] rfl (by kernel_rfl) ?_
    refine ow_end rfl ?_
    refine ew_then ?_
    rcases if_some hF with ⟨h21, hF⟩ | ⟨h21, hF⟩
    · refine cw_cond_t rfl rfl h21 ?_
      refine cw_seq ?_
      refine cw_region ?_
      refine ow_vals 1 (j := 1) [10] [(10, .pointer (some ⟨b0, 0, none⟩))] rfl (by kernel_rfl) ?_
      obtain ⟨r22, h23, hF⟩ := bind_some hF
      refine ow_pw rfl (pw_call (F := [] ++ F0) rfl rfl rfl rfl rfl rfl rfl (by kernel_rfl) (perm_of_pulls [0, 0, 0, 0] rfl) (c_pledge_None _ m0 p1 p2 b0 r22 h23) ?_)
      rintro _ _ ⟨r22_b1, r22_b3, rfl, rfl⟩
      refine nw_H (H' := [imm I, pt b0 #[.map (some r22_b1), .map (some r22_b3), .string r22.2.twins_.e0, .string r22.2.twins_.e1, .bool r22.2.found_, .bool r22.2.full_, .int .i64 r22.2.sums_] 60, mpo kStr kStr r22_b1 r22.2.table_, mpo kStr kStr r22_b3 r22.2.notes_] ++ F0) rfl (nw_ow ?_)
      refine ow_vals 1 (j := 3) [4] [(4, .string r22.1)] rfl (by kernel_rfl) ?_
      refine ow_end rfl ?_
      refine ew_then ?_
      refine cw_ret ?_
      refine ew_blk_ret ?_
      refine ew_then_ret ?_
      have hR := Option.some.inj hF
      subst hR
      exact fin1 (H1 := [imm I, pt b0 #[.map (some r22_b1), .map (some r22_b3), .string r22.2.twins_.e0, .string r22.2.twins_.e1, .bool r22.2.found_, .bool r22.2.full_, .int .i64 r22.2.sums_] 60, mpo kStr kStr r22_b1 r22.2.table_, mpo kStr kStr r22_b3 r22.2.notes_]) (fun w hs => sat_to [0, 0, 0, 0] 0 rfl hs) rfl (rr_tmp rfl) ⟨r22_b1, r22_b3, rfl, rfl⟩
    · refine cw_cond_f rfl rfl h21 ?_
      refine cw_seq ?_
      refine cw_region ?_
      refine ow_vals 2 (j := 2) [0, 1, 12] [(0, .pointer (some ⟨b0, 0, none⟩)), (1, .slice p0 x1.length c0), (12, .bool ((x1.length : Int) == 1))] rfl (by kernel_rfl) ?_
      refine ow_end rfl ?_
      refine ew_then ?_
      rcases if_some hF with ⟨h26, hF⟩ | ⟨h26, hF⟩
      · refine cw_cond_t rfl rfl h26 ?_
        refine cw_seq ?_
        refine cw_region ?_
        refine ow_vals 1 (j := 1) [14] [(14, .slice p0 x1.length c0)] rfl (by kernel_rfl) ?_
        obtain ⟨y27, h28, hF⟩ := bind_some hF
        refine ow_pw rfl (pw_index_ro (E := 9) 1 hr0 rfl rfl rfl rfl rfl (by kernel_rfl) rfl rfl rfl h28 fun q29 h30 => nw_ow ?_)
        refine ow_pw rfl (pw_quiet (v := .string y27) rfl rfl rfl rfl (q_load_el0 0 rfl h30 rfl rfl (by kernel_rfl)) (nw_ow ?_))
        refine ow_vals 1 (j := 4) [4] [(4, .string y27)] rfl (by kernel_rfl) ?_
        refine ow_end rfl ?_
        refine ew_then ?_
        refine cw_ret ?_
        refine ew_blk_ret ?_
        refine ew_then_ret ?_
        have hR := Option.some.inj hF
        subst hR
        exact fin1 (H1 := [imm I, pt b0 #[.map (some p1), .map (some p2), .string m0.twins_.e0, .string m0.twins_.e1, .bool m0.found_, .bool m0.full_, .int .i64 m0.sums_] 60, mpo kStr kStr p1 m0.table_, mpo kStr kStr p2 m0.notes_]) (fun w hs => sat_to [0, 0, 0, 0] 0 rfl hs) rfl (rr_tmp rfl) ⟨p1, p2, rfl, rfl⟩
      · refine cw_cond_f rfl rfl h26 ?_
        refine cw_skip ?_
        refine ew_blk ?_
        refine ew_then ?_
        refine cw_seq ?_
        refine cw_region ?_
        refine ow_vals 2 (j := 2) [0, 1, 18] [(0, .pointer (some ⟨b0, 0, none⟩)), (1, .slice p0 x1.length c0), (18, .int .i64 (x1.length : Int))] rfl (by kernel_rfl) ?_
        obtain ⟨r31, h32, hF⟩ := bind_some hF
        refine ow_pw rfl (pw_call (F := [pt b0 #[.map (some p1), .map (some p2), .string m0.twins_.e0, .string m0.twins_.e1, .bool m0.found_, .bool m0.full_, .int .i64 m0.sums_] 60, mpo kStr kStr p1 m0.table_, mpo kStr kStr p2 m0.notes_] ++ F0) rfl rfl rfl rfl rfl rfl rfl (by kernel_rfl) (perm_of_pulls [0] rfl) (c_merkle_split _ (x1.length : Int) r31 h32) ?_)
        rintro _ _ ⟨rfl, rfl⟩
        refine nw_H (H' := [imm I, pt b0 #[.map (some p1), .map (some p2), .string m0.twins_.e0, .string m0.twins_.e1, .bool m0.found_, .bool m0.full_, .int .i64 m0.sums_] 60, mpo kStr kStr p1 m0.table_, mpo kStr kStr p2 m0.notes_] ++ F0) rfl (nw_ow ?_)
        refine ow_vals 1 (j := 4) [0, 1, 5] [(0, .pointer (some ⟨b0, 0, none⟩)), (1, .slice p0 x1.length c0), (5, .int .i64 r31)] rfl (by kernel_rfl) ?_
        refine ow_end rfl ?_
        refine ew_then ?_
        refine cw_seq ?_
        refine cw_open 12 (SAT w0 ([imm I])) (by kernel_rfl) (f := 14) rfl (fun w hs => sat_drew hs) ?_
        refine aw_vals [0, 1, 2, 3, 4, 7, 8, 9] (f' := 6) (m' := 927) [20, 21, 22, 23, 24, 27, 28, 29] [(20, .pointer (some ⟨b0, 0, none⟩)), (21, .pointer (some ⟨b0, 0, none⟩)), (22, .slice p0 x1.length c0), (23, .int .i64 r31), (24, .int .i64 r31), (27, .pointer (some ⟨b0, 0, none⟩)), (28, .slice p0 x1.length c0), (29, .int .i64 r31)] (fun _ _ _ _ _ h => calm_fin (P := Try.prog) (fn := Try.f52) _ _ _ _ _ h) (fun w hs => sat_pulls [0] (G := [pt b0 #[.map (some p1), .map (some p2), .string m0.twins_.e0, .string m0.twins_.e1, .bool m0.found_, .bool m0.full_, .int .i64 m0.sums_] 60, mpo kStr kStr p1 m0.table_, mpo kStr kStr p2 m0.notes_] ++ F0) rfl hs) rfl (by kernel_rfl) ?_
        obtain ⟨h33, hF⟩ := chk_some hF
        refine aw_slice3_ro (E := 9) 5 (mm' := 959) 1 hr0 rfl rfl rfl rfl rfl (by kernel_rfl) (by kernel_rfl) (fun _ _ _ _ _ h => calm_fin (P := Try.prog) (fn := Try.f52) _ _ _ _ _ h) (fun w hs => sat_pulls [0] (G := [pt b0 #[.map (some p1), .map (some p2), .string m0.twins_.e0, .string m0.twins_.e1, .bool m0.found_, .bool m0.full_, .int .i64 m0.sums_] 60, mpo kStr kStr p1 m0.table_, mpo kStr kStr p2 m0.notes_] ++ F0) rfl hs) (by kernel_rfl) rfl rfl rfl rfl rfl h33 fun p34 c35 h36 => ?_
        obtain ⟨h37, hF⟩ := chk_some hF
        refine aw_slice_ro (E := 9) 10 (m' := 1983) 1 hr0 rfl rfl rfl rfl rfl (by kernel_rfl) (by kernel_rfl) (fun _ _ _ _ _ h => calm_fin (P := Try.prog) (fn := Try.f52) _ _ _ _ _ h) (fun w hs => sat_pulls [0] (G := [pt b0 #[.map (some p1), .map (some p2), .string m0.twins_.e0, .string m0.twins_.e1, .bool m0.found_, .bool m0.full_, .int .i64 m0.sums_] 60, mpo kStr kStr p1 m0.table_, mpo kStr kStr p2 m0.notes_] ++ F0) rfl hs) (by kernel_rfl) rfl rfl rfl rfl h37 fun p38 c39 h40 => ?_
        obtain ⟨r41, h42, hF⟩ := bind_some hF
        refine aw_only 6 (m' := 2047) (by kernel_rfl) (by kernel_rfl) (pw_call (F := [] ++ F0) rfl rfl rfl rfl rfl rfl rfl (by kernel_rfl) (perm_of_pulls [0, 0, 0, 0] rfl) (ih _ ((x1.drop (0 : Int).toNat).take (r31.toNat - (0 : Int).toNat)) m0 p34 c35 p1 p2 b0 r41 h42 h36) ?_)
        rintro _ _ ⟨r41_b1, r41_b3, rfl, rfl⟩
        refine nw_H (H' := [imm I, pt b0 #[.map (some r41_b1), .map (some r41_b3), .string r41.2.twins_.e0, .string r41.2.twins_.e1, .bool r41.2.found_, .bool r41.2.full_, .int .i64 r41.2.sums_] 60, mpo kStr kStr r41_b1 r41.2.table_, mpo kStr kStr r41_b3 r41.2.notes_] ++ F0) rfl (aw_next (fun w hs => sat_pulls [0] (G := [pt b0 #[.map (some r41_b1), .map (some r41_b3), .string r41.2.twins_.e0, .string r41.2.twins_.e1, .bool r41.2.found_, .bool r41.2.full_, .int .i64 r41.2.sums_] 60, mpo kStr kStr r41_b1 r41.2.table_, mpo kStr kStr r41_b3 r41.2.notes_] ++ F0) rfl hs) ?_)
        obtain ⟨r45, h46, hF⟩ := bind_some hF
        refine aw_only 11 (m' := 4095) (by kernel_rfl) (by kernel_rfl) (pw_call (F := [] ++ F0) rfl rfl rfl rfl rfl rfl rfl (by kernel_rfl) (perm_of_pulls [0, 0, 0, 0] rfl) (ih _ ((x1.drop r31.toNat).take ((x1.length : Int).toNat - r31.toNat)) r41.2 p38 c39 r41_b1 r41_b3 b0 r45 h46 h40) ?_)
        rintro _ _ ⟨r45_b1, r45_b3, rfl, rfl⟩
        refine nw_H (H' := [imm I, pt b0 #[.map (some r45_b1), .map (some r45_b3), .string r45.2.twins_.e0, .string r45.2.twins_.e1, .bool r45.2.found_, .bool r45.2.full_, .int .i64 r45.2.sums_] 60, mpo kStr kStr r45_b1 r45.2.table_, mpo kStr kStr r45_b3 r45.2.notes_] ++ F0) rfl (aw_next (fun w hs => sat_pulls [0] (G := [pt b0 #[.map (some r45_b1), .map (some r45_b3), .string r45.2.twins_.e0, .string r45.2.twins_.e1, .bool r45.2.found_, .bool r45.2.full_, .int .i64 r45.2.sums_] 60, mpo kStr kStr r45_b1 r45.2.table_, mpo kStr kStr r45_b3 r45.2.notes_] ++ F0) rfl hs) ?_)
        obtain ⟨r49, h50, hF⟩ := bind_some hF
        refine aw_only 12 (m' := 8191) (by kernel_rfl) (by kernel_rfl) (pw_call (F := [] ++ F0) rfl rfl rfl rfl rfl rfl rfl (by kernel_rfl) (perm_of_pulls [0, 0, 0, 0] rfl) (c_pledge_Node _ r41.1 r45.1 r45.2 r45_b1 r45_b3 b0 r49 h50) ?_)
        rintro _ _ ⟨r49_b1, r49_b3, rfl, rfl⟩
        refine nw_H (H' := [imm I, pt b0 #[.map (some r49_b1), .map (some r49_b3), .string r49.2.twins_.e0, .string r49.2.twins_.e1, .bool r49.2.found_, .bool r49.2.full_, .int .i64 r49.2.sums_] 60, mpo kStr kStr r49_b1 r49.2.table_, mpo kStr kStr r49_b3 r49.2.notes_] ++ F0) rfl (aw_last (by kernel_rfl) ?_)
        refine aw_past (by kernel_rfl) ?_
        refine aw_vals [13] (f' := 0) (m' := 16383) [4] [(4, .string r49.1)] (fun _ _ _ _ _ h => calm_fin (P := Try.prog) (fn := Try.f52) _ _ _ _ _ h) (fun _ _ => trivial) rfl (by kernel_rfl) ?_
        refine aw_keep [4] (L' := [(4, .string r49.1)]) rfl ?_
        refine aw_end (by kernel_rfl) ?_
        refine ew_then ?_
        refine cw_ret ?_
        have hR := Option.some.inj hF
        subst hR
        exact fin1 (H1 := [imm I, pt b0 #[.map (some r49_b1), .map (some r49_b3), .string r49.2.twins_.e0, .string r49.2.twins_.e1, .bool r49.2.found_, .bool r49.2.full_, .int .i64 r49.2.sums_] 60, mpo kStr kStr r49_b1 r49.2.table_, mpo kStr kStr r49_b3 r49.2.notes_]) (fun w hs => sat_to [0, 0, 0, 0] 0 rfl hs) rfl (rr_tmp rfl) ⟨r49_b1, r49_b3, rfl, rfl⟩


def F.batch_gather : Nat → (List ByteArray) → Int → (List Int) → mill_Mill → Option ((List ByteArray) × mill_Mill)
  | 0, _, _, _, _ => none
  | k + 1, x1, x2, x3, m0 => if (x3.length : Int) == 0 then (Option.bind (F.merkle_Root FUEL x1 m0) (fun (r22 : ByteArray × mill_Mill) => some ((([r22.1] : List ByteArray), r22.2)))) else (if (x1.length : Int) == 1 then (some ((([] : List ByteArray), m0))) else (Option.bind (F.batch_split (x1.length : Int)) (fun (r29 : Int) => Option.bind (F.batch_part x3 (IntKind.i64.wrap (x2 + r29))) (fun (r31 : (List Int) × (List Int)) => chk (0 ≤ (0 : Int) ∧ (0 : Int) ≤ r29 ∧ r29 ≤ (x1.length : Int)) (chk (0 ≤ r29 ∧ r29 ≤ (x1.length : Int) ∧ (x1.length : Int) ≤ (x1.length : Int)) (Option.bind ((F.batch_gather k) ((x1.drop (0 : Int).toNat).take (r29.toNat - (0 : Int).toNat)) x2 r31.1 m0) (fun (r41 : (List ByteArray) × mill_Mill) => Option.bind ((F.batch_gather k) ((x1.drop r29.toNat).take ((x1.length : Int).toNat - r29.toNat)) (IntKind.i64.wrap (x2 + r29)) r31.2 r41.2) (fun (r46 : (List ByteArray) × mill_Mill) => chk (room (r41.1.length + r46.1.length) 16) (some ((r41.1 ++ r46.1, r46.2)))))))))))
set_option maxRecDepth 100000 in
set_option maxHeartbeats 4000000 in
theorem c_batch_gather (k : Nat) : ∀ (I : Hl) (x1 : List ByteArray) (x2 : Int) (x3 : List Int) (m0 : mill_Mill) (p0 : Option Addr) (c0 : Nat) (p1 : Option Addr) (c1 : Nat) (p2 : Nat) (p3 : Nat) (b0 : Nat) (res : (List ByteArray) × mill_Mill) (hF : F.batch_gather k x1 x2 x3 m0 = some res) (hr0 : ro I eStr p0 c0 x1) (hr1 : ro I (eInt .i64) p1 c1 x3), Tr Try.prog 34 [.pointer (some ⟨b0, 0, none⟩), .slice p0 x1.length c0, .int .i64 x2, .slice p1 x3.length c1] [imm I, pt b0 #[.map (some p2), .map (some p3), .string m0.twins_.e0, .string m0.twins_.e1, .bool m0.found_, .bool m0.full_, .int .i64 m0.sums_] 60, mpo kStr kStr p2 m0.table_, mpo kStr kStr p3 m0.notes_] (fun r H' => ∃ (p1 : Option Addr), ∃ (c2 : Nat), ∃ (b4 : Nat), ∃ (b6 : Nat), r = .slice p1 res.1.length c2 ∧ H' = [imm I, pt b0 #[.map (some b4), .map (some b6), .string res.2.twins_.e0, .string res.2.twins_.e1, .bool res.2.found_, .bool res.2.full_, .int .i64 res.2.sums_] 60, own eStr 9 p1 c2 res.1, mpo kStr kStr b4 res.2.table_, mpo kStr kStr b6 res.2.notes_]) := by
  induction k with
  | zero => intro I x1 x2 x3 m0 p0 c0 p1 c1 p2 p3 b0 res hF hr0 hr1; cases hF
  | succ k ih =>
    intro I x1 x2 x3 m0 p0 c0 p1 c1 p2 p3 b0 res hF hr0 hr1
    rw [F.batch_gather] at hF
    refine tr_of_cw (fn := Try.f34) Try.func34 rfl (Nat.le_of_ble_eq_true rfl) 52 rfl fun F0 w0 => ?_
    refine cw_keep [0, 1, 2, 3] (L' := [(0, .pointer (some ⟨b0, 0, none⟩)), (1, .slice p0 x1.length c0), (2, .int .i64 x2), (3, .slice p1 x3.length c1)]) rfl ?_
    refine cw_state (S' := SAT w0 ([imm I, pt b0 #[.map (some p2), .map (some p3), .string m0.twins_.e0, .string m0.twins_.e1, .bool m0.found_, .bool m0.full_, .int .i64 m0.sums_] 60, mpo kStr kStr p2 m0.table_, mpo kStr kStr p3 m0.notes_] ++ F0)) (fun w hs => hs) ?_
    refine cw_seq ?_
    refine cw_region ?_
    refine ow_vals 1 (j := 1) [0, 1, 2, 3] [(0, .pointer (some ⟨b0, 0, none⟩)), (1, .slice p0 x1.length c0), (2, .int .i64 x2), (3, .slice p1 x3.length c1)] rfl (by kernel_rfl) ?_
    refine ow_end rfl ?_
    refine ew_then ?_
    refine cw_seq ?_
    refine cw_block ?_
    refine cw_seq ?_
    refine cw_region ?_
    refine ow_vals 4 (j := 4) [0, 1, 2, 3, 12] [(0, .pointer (some ⟨b0, 0, none⟩)), (1, .slice p0 x1.length c0), (2, .int .i64 x2), (3, .slice p1 x3.length c1), (12, .bool ((x3.length : Int) == 0))] rfl (by kernel_rfl) ?_
    refine ow_end rfl ?_
    refine ew_then ?_
    rcases if_some hF with ⟨h21, hF⟩ | ⟨h21, hF⟩
    · refine cw_cond_t rfl rfl h21 ?_
      refine cw_seq ?_
      refine cw_region ?_
      refine ow_vals 2 (j := 2) [16, 17] [(16, .pointer (some ⟨b0, 0, none⟩)), (17, .slice p0 x1.length c0)] rfl (by kernel_rfl) ?_
      obtain ⟨r22, h23, hF⟩ := bind_some hF
      refine ow_pw rfl (pw_call (F := [] ++ F0) rfl rfl rfl rfl rfl rfl rfl (by kernel_rfl) (perm_of_pulls [0, 0, 0, 0] rfl) (c_merkle_Root FUEL _ x1 m0 p0 c0 p2 p3 b0 r22 h23 hr0) ?_)
      rintro _ _ ⟨r22_b1, r22_b3, rfl, rfl⟩
      refine nw_H (H' := [imm I, pt b0 #[.map (some r22_b1), .map (some r22_b3), .string r22.2.twins_.e0, .string r22.2.twins_.e1, .bool r22.2.found_, .bool r22.2.full_, .int .i64 r22.2.sums_] 60, mpo kStr kStr r22_b1 r22.2.table_, mpo kStr kStr r22_b3 r22.2.notes_] ++ F0) rfl (nw_ow ?_)
      refine ow_pw rfl (pw_buildSlice (E := 9) eStr ([r22.1] : List ByteArray) rfl rfl rfl rfl rfl (by kernel_rfl) rfl (by kernel_rfl) rfl (by decide) rfl fun p26 => nw_ow ?_)
      refine ow_vals 1 (j := 5) [8] [(8, .slice p26 ([r22.1] : List ByteArray).length 1)] rfl (by kernel_rfl) ?_
      refine ow_end rfl ?_
      refine ew_then ?_
      refine cw_ret ?_
      refine ew_blk_ret ?_
      refine ew_then_ret ?_
      have hR := Option.some.inj hF
      subst hR
      exact fin1 (H1 := [imm I, pt b0 #[.map (some r22_b1), .map (some r22_b3), .string r22.2.twins_.e0, .string r22.2.twins_.e1, .bool r22.2.found_, .bool r22.2.full_, .int .i64 r22.2.sums_] 60, own eStr 9 p26 1 ([r22.1] : List ByteArray), mpo kStr kStr r22_b1 r22.2.table_, mpo kStr kStr r22_b3 r22.2.notes_]) (fun w hs => sat_to [1, 1, 0, 0, 0] 0 rfl hs) rfl (rr_tmp rfl) ⟨p26, 1, r22_b1, r22_b3, rfl, rfl⟩
    · refine cw_cond_f rfl rfl h21 ?_
      refine cw_seq ?_
      refine cw_region ?_
      refine ow_vals 4 (j := 4) [0, 1, 2, 3, 20] [(0, .pointer (some ⟨b0, 0, none⟩)), (1, .slice p0 x1.length c0), (2, .int .i64 x2), (3, .slice p1 x3.length c1), (20, .bool ((x1.length : Int) == 1))] rfl (by kernel_rfl) ?_
      refine ow_end rfl ?_
      refine ew_then ?_
      rcases if_some hF with ⟨h28, hF⟩ | ⟨h28, hF⟩
      · refine cw_cond_t rfl rfl h28 ?_
        refine cw_seq ?_
        refine cw_region ?_
        refine ow_vals 1 (j := 1) [8] [(8, .slice none 0 0)] rfl (by kernel_rfl) ?_
        refine ow_end rfl ?_
        refine ew_then ?_
        refine cw_ret ?_
        refine ew_blk_ret ?_
        refine ew_then_ret ?_
        have hR := Option.some.inj hF
        subst hR
        exact fin1 (H1 := [imm I, pt b0 #[.map (some p2), .map (some p3), .string m0.twins_.e0, .string m0.twins_.e1, .bool m0.found_, .bool m0.full_, .int .i64 m0.sums_] 60, own eStr 9 none 0 ([] : List ByteArray), mpo kStr kStr p2 m0.table_, mpo kStr kStr p3 m0.notes_]) (fun w hs => sat_to [1, 1, 0, 0, 0] 0 rfl (sat_own_nil eStr 9 hs)) rfl (rr_tmp rfl) ⟨none, 0, p2, p3, rfl, rfl⟩
      · refine cw_cond_f rfl rfl h28 ?_
        refine cw_skip ?_
        refine ew_blk ?_
        refine ew_then ?_
        refine cw_seq ?_
        refine cw_region ?_
        refine ow_vals 2 (j := 2) [0, 1, 2, 3, 25] [(0, .pointer (some ⟨b0, 0, none⟩)), (1, .slice p0 x1.length c0), (2, .int .i64 x2), (3, .slice p1 x3.length c1), (25, .int .i64 (x1.length : Int))] rfl (by kernel_rfl) ?_
        obtain ⟨r29, h30, hF⟩ := bind_some hF
        refine ow_pw rfl (pw_call (F := [pt b0 #[.map (some p2), .map (some p3), .string m0.twins_.e0, .string m0.twins_.e1, .bool m0.found_, .bool m0.full_, .int .i64 m0.sums_] 60, mpo kStr kStr p2 m0.table_, mpo kStr kStr p3 m0.notes_] ++ F0) rfl rfl rfl rfl rfl rfl rfl (by kernel_rfl) (perm_of_pulls [0] rfl) (c_batch_split _ (x1.length : Int) r29 h30) ?_)
        rintro _ _ ⟨rfl, rfl⟩
        refine nw_H (H' := [imm I, pt b0 #[.map (some p2), .map (some p3), .string m0.twins_.e0, .string m0.twins_.e1, .bool m0.found_, .bool m0.full_, .int .i64 m0.sums_] 60, mpo kStr kStr p2 m0.table_, mpo kStr kStr p3 m0.notes_] ++ F0) rfl (nw_ow ?_)
        refine ow_vals 1 (j := 4) [0, 1, 2, 3, 9] [(0, .pointer (some ⟨b0, 0, none⟩)), (1, .slice p0 x1.length c0), (2, .int .i64 x2), (3, .slice p1 x3.length c1), (9, .int .i64 r29)] rfl (by kernel_rfl) ?_
        refine ow_end rfl ?_
        refine ew_then ?_
        refine cw_seq ?_
        refine cw_region ?_
        refine ow_vals 4 (j := 4) [0, 1, 2, 9, 28, 31] [(0, .pointer (some ⟨b0, 0, none⟩)), (1, .slice p0 x1.length c0), (2, .int .i64 x2), (9, .int .i64 r29), (28, .slice p1 x3.length c1), (31, .int .i64 (IntKind.i64.wrap (x2 + r29)))] rfl (by kernel_rfl) ?_
        obtain ⟨r31, h32, hF⟩ := bind_some hF
        refine ow_pw rfl (pw_call (F := [pt b0 #[.map (some p2), .map (some p3), .string m0.twins_.e0, .string m0.twins_.e1, .bool m0.found_, .bool m0.full_, .int .i64 m0.sums_] 60, mpo kStr kStr p2 m0.table_, mpo kStr kStr p3 m0.notes_] ++ F0) rfl rfl rfl rfl rfl rfl rfl (by kernel_rfl) (perm_of_pulls [0] rfl) (c_batch_part _ x3 (IntKind.i64.wrap (x2 + r29)) p1 c1 r31 h32 hr1) ?_)
        rintro _ _ ⟨r31_p1, r31_c2, r31_p4, r31_c5, rfl, rfl, r31_h3, r31_h6⟩
        refine nw_H (H' := [imm I, pt b0 #[.map (some p2), .map (some p3), .string m0.twins_.e0, .string m0.twins_.e1, .bool m0.found_, .bool m0.full_, .int .i64 m0.sums_] 60, mpo kStr kStr p2 m0.table_, mpo kStr kStr p3 m0.notes_] ++ F0) rfl (nw_ow ?_)
        refine ow_vals 5 (j := 10) [0, 1, 2, 9, 10, 11] [(0, .pointer (some ⟨b0, 0, none⟩)), (1, .slice p0 x1.length c0), (2, .int .i64 x2), (9, .int .i64 r29), (10, .slice r31_p1 r31.1.length r31_c2), (11, .slice r31_p4 r31.2.length r31_c5)] rfl (by kernel_rfl) ?_
        refine ow_end rfl ?_
        refine ew_then ?_
        refine cw_seq ?_
        refine cw_open 16 (SAT w0 ([imm I])) (by kernel_rfl) (f := 18) rfl (fun w hs => sat_drew hs) ?_
        refine aw_vals [0, 1, 2, 4, 5, 7, 8, 9, 11, 12, 13, 14] (f' := 6) (m' := 31671) [35, 36, 37, 39, 40, 42, 43, 44, 48, 49] [(35, .pointer (some ⟨b0, 0, none⟩)), (36, .slice p0 x1.length c0), (37, .int .i64 r29), (39, .int .i64 x2), (40, .slice r31_p1 r31.1.length r31_c2), (42, .pointer (some ⟨b0, 0, none⟩)), (43, .slice p0 x1.length c0), (44, .int .i64 r29), (48, .int .i64 (IntKind.i64.wrap (x2 + r29))), (49, .slice r31_p4 r31.2.length r31_c5)] (fun _ _ _ _ _ h => calm_fin (P := Try.prog) (fn := Try.f34) _ _ _ _ _ h) (fun w hs => sat_pulls [0] (G := [pt b0 #[.map (some p2), .map (some p3), .string m0.twins_.e0, .string m0.twins_.e1, .bool m0.found_, .bool m0.full_, .int .i64 m0.sums_] 60, mpo kStr kStr p2 m0.table_, mpo kStr kStr p3 m0.notes_] ++ F0) rfl hs) rfl (by kernel_rfl) ?_
        obtain ⟨h33, hF⟩ := chk_some hF
        refine aw_slice_ro (E := 9) 3 (m' := 31679) 1 hr0 rfl rfl rfl rfl rfl (by kernel_rfl) (by kernel_rfl) (fun _ _ _ _ _ h => calm_fin (P := Try.prog) (fn := Try.f34) _ _ _ _ _ h) (fun w hs => sat_pulls [0] (G := [pt b0 #[.map (some p2), .map (some p3), .string m0.twins_.e0, .string m0.twins_.e1, .bool m0.found_, .bool m0.full_, .int .i64 m0.sums_] 60, mpo kStr kStr p2 m0.table_, mpo kStr kStr p3 m0.notes_] ++ F0) rfl hs) (by kernel_rfl) rfl rfl rfl rfl h33 fun p34 c35 h36 => ?_
        obtain ⟨h37, hF⟩ := chk_some hF
        refine aw_slice_ro (E := 9) 10 (m' := 32703) 1 hr0 rfl rfl rfl rfl rfl (by kernel_rfl) (by kernel_rfl) (fun _ _ _ _ _ h => calm_fin (P := Try.prog) (fn := Try.f34) _ _ _ _ _ h) (fun w hs => sat_pulls [0] (G := [pt b0 #[.map (some p2), .map (some p3), .string m0.twins_.e0, .string m0.twins_.e1, .bool m0.found_, .bool m0.full_, .int .i64 m0.sums_] 60, mpo kStr kStr p2 m0.table_, mpo kStr kStr p3 m0.notes_] ++ F0) rfl hs) (by kernel_rfl) rfl rfl rfl rfl h37 fun p38 c39 h40 => ?_
        obtain ⟨r41, h42, hF⟩ := bind_some hF
        refine aw_only 6 (m' := 32767) (by kernel_rfl) (by kernel_rfl) (pw_call (F := [] ++ F0) rfl rfl rfl rfl rfl rfl rfl (by kernel_rfl) (perm_of_pulls [0, 0, 0, 0] rfl) (ih _ ((x1.drop (0 : Int).toNat).take (r29.toNat - (0 : Int).toNat)) x2 r31.1 m0 p34 c35 r31_p1 r31_c2 p2 p3 b0 r41 h42 h36 r31_h3) ?_)
        rintro _ _ ⟨r41_p1, r41_c2, r41_b4, r41_b6, rfl, rfl⟩
        refine nw_H (H' := [imm I, pt b0 #[.map (some r41_b4), .map (some r41_b6), .string r41.2.twins_.e0, .string r41.2.twins_.e1, .bool r41.2.found_, .bool r41.2.full_, .int .i64 r41.2.sums_] 60, own eStr 9 r41_p1 r41_c2 r41.1, mpo kStr kStr r41_b4 r41.2.table_, mpo kStr kStr r41_b6 r41.2.notes_] ++ F0) rfl (aw_next (fun w hs => sat_pulls [0] (G := [pt b0 #[.map (some r41_b4), .map (some r41_b6), .string r41.2.twins_.e0, .string r41.2.twins_.e1, .bool r41.2.found_, .bool r41.2.full_, .int .i64 r41.2.sums_] 60, own eStr 9 r41_p1 r41_c2 r41.1, mpo kStr kStr r41_b4 r41.2.table_, mpo kStr kStr r41_b6 r41.2.notes_] ++ F0) rfl hs) ?_)
        obtain ⟨r46, h47, hF⟩ := bind_some hF
        refine aw_only 15 (m' := 65535) (by kernel_rfl) (by kernel_rfl) (pw_call (F := [own eStr 9 r41_p1 r41_c2 r41.1] ++ F0) rfl rfl rfl rfl rfl rfl rfl (by kernel_rfl) (perm_of_pulls [0, 0, 1, 1] rfl) (ih _ ((x1.drop r29.toNat).take ((x1.length : Int).toNat - r29.toNat)) (IntKind.i64.wrap (x2 + r29)) r31.2 r41.2 p38 c39 r31_p4 r31_c5 r41_b4 r41_b6 b0 r46 h47 h40 r31_h6) ?_)
        rintro _ _ ⟨r46_p1, r46_c2, r46_b4, r46_b6, rfl, rfl⟩
        refine nw_H (H' := [imm I, pt b0 #[.map (some r46_b4), .map (some r46_b6), .string r46.2.twins_.e0, .string r46.2.twins_.e1, .bool r46.2.found_, .bool r46.2.full_, .int .i64 r46.2.sums_] 60, own eStr 9 r46_p1 r46_c2 r46.1, mpo kStr kStr r46_b4 r46.2.table_, mpo kStr kStr r46_b6 r46.2.notes_, own eStr 9 r41_p1 r41_c2 r41.1] ++ F0) rfl (aw_next (fun w hs => sat_pulls [0] (G := [pt b0 #[.map (some r46_b4), .map (some r46_b6), .string r46.2.twins_.e0, .string r46.2.twins_.e1, .bool r46.2.found_, .bool r46.2.full_, .int .i64 r46.2.sums_] 60, own eStr 9 r46_p1 r46_c2 r46.1, mpo kStr kStr r46_b4 r46.2.table_, mpo kStr kStr r46_b6 r46.2.notes_, own eStr 9 r41_p1 r41_c2 r41.1] ++ F0) rfl hs) ?_)
        obtain ⟨h51, hF⟩ := chk_some hF
        refine aw_only 16 (m' := 131071) (by kernel_rfl) (by kernel_rfl) (pw_append 5 (l' := r46.1) rfl rfl rfl rfl rfl rfl (by kernel_rfl) (by kernel_rfl) rfl rfl rfl (src_own (E' := 9) 2 rfl (by kernel_rfl) rfl) rfl h51.1 h51.2 fun p52 c53 => nw_H (H' := [imm I, pt b0 #[.map (some r46_b4), .map (some r46_b6), .string r46.2.twins_.e0, .string r46.2.twins_.e1, .bool r46.2.found_, .bool r46.2.full_, .int .i64 r46.2.sums_] 60, own eStr 9 r46_p1 r46_c2 r46.1, mpo kStr kStr r46_b4 r46.2.table_, mpo kStr kStr r46_b6 r46.2.notes_, own eStr 9 p52 c53 (r41.1 ++ r46.1)] ++ F0) rfl (aw_last (by kernel_rfl) ?_))
        refine aw_past (by kernel_rfl) ?_
        refine aw_vals [17] (f' := 0) (m' := 262143) [8] [(8, .slice p52 (r41.1 ++ r46.1).length c53)] (fun _ _ _ _ _ h => calm_fin (P := Try.prog) (fn := Try.f34) _ _ _ _ _ h) (fun _ _ => trivial) rfl (by kernel_rfl) ?_
        refine aw_keep [8] (L' := [(8, .slice p52 (r41.1 ++ r46.1).length c53)]) rfl ?_
        refine aw_end (by kernel_rfl) ?_
        refine ew_then ?_
        refine cw_ret ?_
        have hR := Option.some.inj hF
        subst hR
        exact fin1 (H1 := [imm I, pt b0 #[.map (some r46_b4), .map (some r46_b6), .string r46.2.twins_.e0, .string r46.2.twins_.e1, .bool r46.2.found_, .bool r46.2.full_, .int .i64 r46.2.sums_] 60, own eStr 9 p52 c53 (r41.1 ++ r46.1), mpo kStr kStr r46_b4 r46.2.table_, mpo kStr kStr r46_b6 r46.2.notes_]) (fun w hs => sat_to [2, 0, 0, 2, 0, 0] 1 rfl hs) rfl (rr_tmp rfl) ⟨p52, c53, r46_b4, r46_b6, rfl, rfl⟩


def F.batch_Prove.r1 (x1 : List ByteArray) (x2 : List Int) (m0 : mill_Mill) (x26 : Bool) : Option ((Unit) ⊕ (batch_Proof × Int × mill_Mill)) :=
  if x26 then (some (.inr (((⟨0, ([] : List Int), ([] : List ByteArray), ([] : List ByteArray)⟩ : batch_Proof), 5, m0)))) else (if decide ((x1.length : Int) > 65536) then (some (.inr (((⟨0, ([] : List Int), ([] : List ByteArray), ([] : List ByteArray)⟩ : batch_Proof), 21, m0)))) else (Option.bind (F.batch_rising x2 (x1.length : Int)) (fun (r29 : Bool) => if !r29 then (some (.inr (((⟨0, ([] : List Int), ([] : List ByteArray), ([] : List ByteArray)⟩ : batch_Proof), 21, m0)))) else (some (.inl ())))))
def F.batch_Prove.l3 (x1 : List ByteArray) (x2 : List Int) (x40 : Int) (l41 : List ByteArray) : Option ((Int × (List ByteArray)) ⊕ ((List ByteArray))) :=
  if decide (x40 < (x2.length : Int)) then (Option.bind (at_ x2 x40) (fun (y46 : Int) => Option.bind (at_ x1 y46) (fun (y50 : ByteArray) => chk (room (l41.length + ([y50] : List ByteArray).length) 16) (some (.inl (IntKind.i64.wrap (x40 + 1), l41 ++ ([y50] : List ByteArray))))))) else (some (.inr (l41)))
def F.batch_Prove.r4 (x1 : List ByteArray) (x2 : List Int) (m0 : mill_Mill) (l59 : List ByteArray) : Option (batch_Proof × Int × mill_Mill) :=
  Option.bind (F.batch_gather FUEL x1 0 x2 m0) (fun (r63 : (List ByteArray) × mill_Mill) => some (((⟨(x1.length : Int), ([] : List Int) ++ x2, l59, r63.1⟩ : batch_Proof), 0, r63.2)))
def F.batch_Prove.r2 (x1 : List ByteArray) (x2 : List Int) (m0 : mill_Mill) : Option (batch_Proof × Int × mill_Mill) :=
  chk (room (([] : List Int).length + x2.length) 8) (Option.bind (iter (fun x => F.batch_Prove.l3 x1 x2 x.1 x.2) FUEL (0, [])) (fun x => F.batch_Prove.r4 x1 x2 m0 x))
def F.batch_Prove (x1 : List ByteArray) (x2 : List Int) (m0 : mill_Mill) : Option (batch_Proof × Int × mill_Mill) :=
  thru (Option.bind (if decide ((x2.length : Int) < 1) then (some (true)) else (some ((decide ((x2.length : Int) > 64))))) (fun x => F.batch_Prove.r1 x1 x2 m0 x)) (fun x => F.batch_Prove.r2 x1 x2 m0)
set_option maxRecDepth 100000 in
set_option maxHeartbeats 4000000 in
theorem c_batch_Prove (I : Hl) (x1 : List ByteArray) (x2 : List Int) (m0 : mill_Mill) (p0 : Option Addr) (c0 : Nat) (p1 : Option Addr) (c1 : Nat) (p2 : Nat) (p3 : Nat) (b0 : Nat) (res : batch_Proof × Int × mill_Mill) (hF : F.batch_Prove x1 x2 m0 = some res) (hr0 : ro I eStr p0 c0 x1) (hr1 : ro I (eInt .i64) p1 c1 x2) : Tr Try.prog 17 [.pointer (some ⟨b0, 0, none⟩), .slice p0 x1.length c0, .slice p1 x2.length c1] [imm I, pt b0 #[.map (some p2), .map (some p3), .string m0.twins_.e0, .string m0.twins_.e1, .bool m0.found_, .bool m0.full_, .int .i64 m0.sums_] 60, mpo kStr kStr p2 m0.table_, mpo kStr kStr p3 m0.notes_] (fun r H' => ∃ (p1 : Option Addr), ∃ (c2 : Nat), ∃ (p4 : Option Addr), ∃ (c5 : Nat), ∃ (p7 : Option Addr), ∃ (c8 : Nat), ∃ (b10 : Nat), ∃ (b12 : Nat), r = .tuple #[.agg #[.int .i64 res.1.Size, .slice p1 res.1.Picks.length c2, .slice p4 res.1.Leaf.length c5, .slice p7 res.1.Nodes.length c8], .int .i64 res.2.1] ∧ H' = [imm I, pt b0 #[.map (some b10), .map (some b12), .string res.2.2.twins_.e0, .string res.2.2.twins_.e1, .bool res.2.2.found_, .bool res.2.2.full_, .int .i64 res.2.2.sums_] 60, own (eInt .i64) 3 p1 c2 res.1.Picks, own eStr 9 p4 c5 res.1.Leaf, own eStr 9 p7 c8 res.1.Nodes, mpo kStr kStr b10 res.2.2.table_, mpo kStr kStr b12 res.2.2.notes_]) := by
  unfold F.batch_Prove at hF
  refine tr_of_cw (fn := Try.f17) Try.func17 rfl (Nat.le_of_ble_eq_true rfl) 60 rfl fun F0 w0 => ?_
  refine cw_keep [0, 1, 2] (L' := [(0, .pointer (some ⟨b0, 0, none⟩)), (1, .slice p0 x1.length c0), (2, .slice p1 x2.length c1)]) rfl ?_
  refine cw_state (S' := SAT w0 ([imm I, pt b0 #[.map (some p2), .map (some p3), .string m0.twins_.e0, .string m0.twins_.e1, .bool m0.found_, .bool m0.full_, .int .i64 m0.sums_] 60, mpo kStr kStr p2 m0.table_, mpo kStr kStr p3 m0.notes_] ++ F0)) (fun w hs => hs) ?_
  refine cw_seq ?_
  refine cw_region ?_
  refine ow_pw rfl (pw_alloc (cs := #[.int .i64 0, .slice none 0 0, .slice none 0 0, .slice none 0 0]) rfl rfl rfl rfl rfl (by kernel_rfl) fun b21 => nw_ow ?_)
  refine ow_vals 1 (j := 2) [0, 1, 2, 6] [(0, .pointer (some ⟨b0, 0, none⟩)), (1, .slice p0 x1.length c0), (2, .slice p1 x2.length c1), (6, .pointer (some ⟨b21, 0, none⟩))] rfl (by kernel_rfl) ?_
  refine ow_end rfl ?_
  refine ew_then ?_
  obtain ⟨v23, hF, hK23⟩ := thru_some hF
  refine cw_mid (fun a w => .inl () = v23 ∧ Fr 60 [(0, .pointer (some ⟨b0, 0, none⟩)), (1, .slice p0 x1.length c0), (2, .slice p1 x2.length c1), (6, .pointer (some ⟨b21, 0, none⟩))] a ∧ SAT w0 ([imm I, pt b21 #[.int .i64 0, .slice none 0 0, .slice none 0 0, .slice none 0 0] 25, pt b0 #[.map (some p2), .map (some p3), .string m0.twins_.e0, .string m0.twins_.e1, .bool m0.found_, .bool m0.full_, .int .i64 m0.sums_] 60, mpo kStr kStr p2 m0.table_, mpo kStr kStr p3 m0.notes_] ++ F0) w) ?_ ?_
  · refine cw_block ?_
    obtain ⟨v24, hF, hK24⟩ := bind_some hF
    refine cw_mid (fun a w => ∃ (x26 : Bool), x26 = v24 ∧ Fr 60 [(0, .pointer (some ⟨b0, 0, none⟩)), (1, .slice p0 x1.length c0), (2, .slice p1 x2.length c1), (6, .pointer (some ⟨b21, 0, none⟩)), (11, .bool x26)] a ∧ SAT w0 ([imm I, pt b21 #[.int .i64 0, .slice none 0 0, .slice none 0 0, .slice none 0 0] 25, pt b0 #[.map (some p2), .map (some p3), .string m0.twins_.e0, .string m0.twins_.e1, .bool m0.found_, .bool m0.full_, .int .i64 m0.sums_] 60, mpo kStr kStr p2 m0.table_, mpo kStr kStr p3 m0.notes_] ++ F0) w) ?_ ?_
    · refine cw_region ?_
      refine ow_vals 4 (j := 4) [0, 1, 2, 6, 15] [(0, .pointer (some ⟨b0, 0, none⟩)), (1, .slice p0 x1.length c0), (2, .slice p1 x2.length c1), (6, .pointer (some ⟨b21, 0, none⟩)), (15, .bool (decide ((x2.length : Int) < 1)))] rfl (by kernel_rfl) ?_
      rcases if_some hF with ⟨h25, hF⟩ | ⟨h25, hF⟩
      · refine ow_slots (L' := [(0, .pointer (some ⟨b0, 0, none⟩)), (1, .slice p0 x1.length c0), (2, .slice p1 x2.length c1), (6, .pointer (some ⟨b21, 0, none⟩)), (15, .bool true)]) (by rw [h25]) ?_
        refine ow_vals 5 (j := 9) [0, 1, 2, 6, 11] [(0, .pointer (some ⟨b0, 0, none⟩)), (1, .slice p0 x1.length c0), (2, .slice p1 x2.length c1), (6, .pointer (some ⟨b21, 0, none⟩)), (11, .bool true)] rfl (by kernel_rfl) ?_
        refine ow_end rfl ?_
        have hR := Option.some.inj hF
        exact fun a w hf hs => ⟨true, hR, hf.keep [0, 1, 2, 6, 11], sat_to [1, 0, 0, 0, 0] 0 rfl hs⟩
      · refine ow_slots (L' := [(0, .pointer (some ⟨b0, 0, none⟩)), (1, .slice p0 x1.length c0), (2, .slice p1 x2.length c1), (6, .pointer (some ⟨b21, 0, none⟩)), (15, .bool false)]) (by rw [h25]) ?_
        refine ow_vals 5 (j := 9) [0, 1, 2, 6, 11] [(0, .pointer (some ⟨b0, 0, none⟩)), (1, .slice p0 x1.length c0), (2, .slice p1 x2.length c1), (6, .pointer (some ⟨b21, 0, none⟩)), (11, .bool (decide ((x2.length : Int) > 64)))] rfl (by kernel_rfl) ?_
        refine ow_end rfl ?_
        have hR := Option.some.inj hF
        exact fun a w hf hs => ⟨decide ((x2.length : Int) > 64), hR, hf.keep [0, 1, 2, 6, 11], sat_to [1, 0, 0, 0, 0] 0 rfl hs⟩
    · rintro a w ⟨x26, hv, hf, hs⟩
      subst hv
      replace hF := hK24
      clear hK24
      try dsimp only at hF
      revert a w
      show CW _ _ _ 60 [(0, .pointer (some ⟨b0, 0, none⟩)), (1, .slice p0 x1.length c0), (2, .slice p1 x2.length c1), (6, .pointer (some ⟨b21, 0, none⟩)), (11, .bool x26)] (SAT w0 ([imm I, pt b21 #[.int .i64 0, .slice none 0 0, .slice none 0 0, .slice none 0 0] 25, pt b0 #[.map (some p2), .map (some p3), .string m0.twins_.e0, .string m0.twins_.e1, .bool m0.found_, .bool m0.full_, .int .i64 m0.sums_] 60, mpo kStr kStr p2 m0.table_, mpo kStr kStr p3 m0.notes_] ++ F0))
      unfold F.batch_Prove.r1 at hF
      rcases if_some hF with ⟨h27, hF⟩ | ⟨h27, hF⟩
      · refine cw_cond_t rfl rfl h27 ?_
        refine cw_seq ?_
        refine cw_region ?_
        refine ow_vals 1 (j := 1) [6, 20] [(6, .pointer (some ⟨b21, 0, none⟩)), (20, .agg #[.int .i64 0, .slice none 0 0, .slice none 0 0, .slice none 0 0])] rfl (by kernel_rfl) ?_
        refine ow_pw rfl (pw_store 1 #[.int .i64 0, .slice none 0 0, .slice none 0 0, .slice none 0 0] rfl rfl rfl rfl rfl rfl rfl (by kernel_rfl) (nw_H (H' := [imm I, pt b21 #[.int .i64 0, .slice none 0 0, .slice none 0 0, .slice none 0 0] 25, pt b0 #[.map (some p2), .map (some p3), .string m0.twins_.e0, .string m0.twins_.e1, .bool m0.found_, .bool m0.full_, .int .i64 m0.sums_] 60, mpo kStr kStr p2 m0.table_, mpo kStr kStr p3 m0.notes_] ++ F0) rfl (nw_ow ?_)))
        refine ow_vals 1 (j := 3) [6, 7] [(6, .pointer (some ⟨b21, 0, none⟩)), (7, .int .i64 5)] rfl (by kernel_rfl) ?_
        refine ow_end rfl ?_
        refine ew_then ?_
        refine cw_ret ?_
        refine ew_blk_ret ?_
        refine ew_then_ret ?_
        have hR := Option.some.inj hF
        subst hR
        have hR := hK23
        try dsimp only [Thru] at hR
        subst hR
        exact fin2 (H1 := [imm I, pt b0 #[.map (some p2), .map (some p3), .string m0.twins_.e0, .string m0.twins_.e1, .bool m0.found_, .bool m0.full_, .int .i64 m0.sums_] 60, own (eInt .i64) 3 none 0 ((⟨0, ([] : List Int), ([] : List ByteArray), ([] : List ByteArray)⟩ : batch_Proof).Picks), own eStr 9 none 0 ((⟨0, ([] : List Int), ([] : List ByteArray), ([] : List ByteArray)⟩ : batch_Proof).Leaf), own eStr 9 none 0 ((⟨0, ([] : List Int), ([] : List ByteArray), ([] : List ByteArray)⟩ : batch_Proof).Nodes), mpo kStr kStr p2 m0.table_, mpo kStr kStr p3 m0.notes_]) (fun w hs => sat_to [4, 3, 3, 2, 1, 0, 0, 0] 1 rfl (sat_own_nil eStr 9 (sat_own_nil eStr 9 (sat_own_nil (eInt .i64) 3 hs)))) rfl (rr_cell 1 rfl rfl (by kernel_rfl)) (rr_tmp rfl) ⟨none, 0, none, 0, none, 0, p2, p3, rfl, rfl⟩
      · refine cw_cond_f rfl rfl h27 ?_
        refine cw_seq ?_
        refine cw_region ?_
        refine ow_vals 4 (j := 4) [0, 1, 2, 6, 25] [(0, .pointer (some ⟨b0, 0, none⟩)), (1, .slice p0 x1.length c0), (2, .slice p1 x2.length c1), (6, .pointer (some ⟨b21, 0, none⟩)), (25, .bool (decide ((x1.length : Int) > 65536)))] rfl (by kernel_rfl) ?_
        rcases if_some hF with ⟨h28, hF⟩ | ⟨h28, hF⟩
        · refine ow_slots (L' := [(0, .pointer (some ⟨b0, 0, none⟩)), (1, .slice p0 x1.length c0), (2, .slice p1 x2.length c1), (6, .pointer (some ⟨b21, 0, none⟩)), (25, .bool true)]) (by rw [h28]) ?_
          refine ow_vals 7 (j := 11) [0, 1, 2, 6, 21] [(0, .pointer (some ⟨b0, 0, none⟩)), (1, .slice p0 x1.length c0), (2, .slice p1 x2.length c1), (6, .pointer (some ⟨b21, 0, none⟩)), (21, .bool true)] rfl (by kernel_rfl) ?_
          refine ow_end rfl ?_
          refine ew_then ?_
          refine cw_cond_t rfl rfl rfl ?_
          refine cw_seq ?_
          refine cw_region ?_
          refine ow_vals 1 (j := 1) [6, 32] [(6, .pointer (some ⟨b21, 0, none⟩)), (32, .agg #[.int .i64 0, .slice none 0 0, .slice none 0 0, .slice none 0 0])] rfl (by kernel_rfl) ?_
          refine ow_pw rfl (pw_store 1 #[.int .i64 0, .slice none 0 0, .slice none 0 0, .slice none 0 0] rfl rfl rfl rfl rfl rfl rfl (by kernel_rfl) (nw_H (H' := [imm I, pt b21 #[.int .i64 0, .slice none 0 0, .slice none 0 0, .slice none 0 0] 25, pt b0 #[.map (some p2), .map (some p3), .string m0.twins_.e0, .string m0.twins_.e1, .bool m0.found_, .bool m0.full_, .int .i64 m0.sums_] 60, mpo kStr kStr p2 m0.table_, mpo kStr kStr p3 m0.notes_] ++ F0) rfl (nw_ow ?_)))
          refine ow_vals 1 (j := 3) [6, 7] [(6, .pointer (some ⟨b21, 0, none⟩)), (7, .int .i64 21)] rfl (by kernel_rfl) ?_
          refine ow_end rfl ?_
          refine ew_then ?_
          refine cw_ret ?_
          refine ew_blk_ret ?_
          refine ew_then_ret ?_
          have hR := Option.some.inj hF
          subst hR
          have hR := hK23
          try dsimp only [Thru] at hR
          subst hR
          exact fin2 (H1 := [imm I, pt b0 #[.map (some p2), .map (some p3), .string m0.twins_.e0, .string m0.twins_.e1, .bool m0.found_, .bool m0.full_, .int .i64 m0.sums_] 60, own (eInt .i64) 3 none 0 ((⟨0, ([] : List Int), ([] : List ByteArray), ([] : List ByteArray)⟩ : batch_Proof).Picks), own eStr 9 none 0 ((⟨0, ([] : List Int), ([] : List ByteArray), ([] : List ByteArray)⟩ : batch_Proof).Leaf), own eStr 9 none 0 ((⟨0, ([] : List Int), ([] : List ByteArray), ([] : List ByteArray)⟩ : batch_Proof).Nodes), mpo kStr kStr p2 m0.table_, mpo kStr kStr p3 m0.notes_]) (fun w hs => sat_to [4, 3, 3, 2, 1, 0, 0, 0] 1 rfl (sat_own_nil eStr 9 (sat_own_nil eStr 9 (sat_own_nil (eInt .i64) 3 hs)))) rfl (rr_cell 1 rfl rfl (by kernel_rfl)) (rr_tmp rfl) ⟨none, 0, none, 0, none, 0, p2, p3, rfl, rfl⟩
        · refine ow_slots (L' := [(0, .pointer (some ⟨b0, 0, none⟩)), (1, .slice p0 x1.length c0), (2, .slice p1 x2.length c1), (6, .pointer (some ⟨b21, 0, none⟩)), (25, .bool false)]) (by rw [h28]) ?_
          refine ow_vals 3 (j := 7) [0, 1, 2, 6, 25, 26, 28] [(0, .pointer (some ⟨b0, 0, none⟩)), (1, .slice p0 x1.length c0), (2, .slice p1 x2.length c1), (6, .pointer (some ⟨b21, 0, none⟩)), (25, .bool false), (26, .slice p1 x2.length c1), (28, .int .i64 (x1.length : Int))] rfl (by kernel_rfl) ?_
          obtain ⟨r29, h30, hF⟩ := bind_some hF
          refine ow_pw rfl (pw_call (F := [pt b21 #[.int .i64 0, .slice none 0 0, .slice none 0 0, .slice none 0 0] 25, pt b0 #[.map (some p2), .map (some p3), .string m0.twins_.e0, .string m0.twins_.e1, .bool m0.found_, .bool m0.full_, .int .i64 m0.sums_] 60, mpo kStr kStr p2 m0.table_, mpo kStr kStr p3 m0.notes_] ++ F0) rfl rfl rfl rfl rfl rfl rfl (by kernel_rfl) (perm_of_pulls [0] rfl) (c_batch_rising _ x2 (x1.length : Int) p1 c1 r29 h30 hr1) ?_)
          rintro _ _ ⟨rfl, rfl⟩
          refine nw_H (H' := [imm I, pt b21 #[.int .i64 0, .slice none 0 0, .slice none 0 0, .slice none 0 0] 25, pt b0 #[.map (some p2), .map (some p3), .string m0.twins_.e0, .string m0.twins_.e1, .bool m0.found_, .bool m0.full_, .int .i64 m0.sums_] 60, mpo kStr kStr p2 m0.table_, mpo kStr kStr p3 m0.notes_] ++ F0) rfl (nw_ow ?_)
          refine ow_vals 3 (j := 11) [0, 1, 2, 6, 21] [(0, .pointer (some ⟨b0, 0, none⟩)), (1, .slice p0 x1.length c0), (2, .slice p1 x2.length c1), (6, .pointer (some ⟨b21, 0, none⟩)), (21, .bool (!r29))] rfl (by kernel_rfl) ?_
          refine ow_end rfl ?_
          refine ew_then ?_
          rcases if_some hF with ⟨h31, hF⟩ | ⟨h31, hF⟩
          · refine cw_cond_t rfl rfl h31 ?_
            refine cw_seq ?_
            refine cw_region ?_
            refine ow_vals 1 (j := 1) [6, 32] [(6, .pointer (some ⟨b21, 0, none⟩)), (32, .agg #[.int .i64 0, .slice none 0 0, .slice none 0 0, .slice none 0 0])] rfl (by kernel_rfl) ?_
            refine ow_pw rfl (pw_store 1 #[.int .i64 0, .slice none 0 0, .slice none 0 0, .slice none 0 0] rfl rfl rfl rfl rfl rfl rfl (by kernel_rfl) (nw_H (H' := [imm I, pt b21 #[.int .i64 0, .slice none 0 0, .slice none 0 0, .slice none 0 0] 25, pt b0 #[.map (some p2), .map (some p3), .string m0.twins_.e0, .string m0.twins_.e1, .bool m0.found_, .bool m0.full_, .int .i64 m0.sums_] 60, mpo kStr kStr p2 m0.table_, mpo kStr kStr p3 m0.notes_] ++ F0) rfl (nw_ow ?_)))
            refine ow_vals 1 (j := 3) [6, 7] [(6, .pointer (some ⟨b21, 0, none⟩)), (7, .int .i64 21)] rfl (by kernel_rfl) ?_
            refine ow_end rfl ?_
            refine ew_then ?_
            refine cw_ret ?_
            refine ew_blk_ret ?_
            refine ew_then_ret ?_
            have hR := Option.some.inj hF
            subst hR
            have hR := hK23
            try dsimp only [Thru] at hR
            subst hR
            exact fin2 (H1 := [imm I, pt b0 #[.map (some p2), .map (some p3), .string m0.twins_.e0, .string m0.twins_.e1, .bool m0.found_, .bool m0.full_, .int .i64 m0.sums_] 60, own (eInt .i64) 3 none 0 ((⟨0, ([] : List Int), ([] : List ByteArray), ([] : List ByteArray)⟩ : batch_Proof).Picks), own eStr 9 none 0 ((⟨0, ([] : List Int), ([] : List ByteArray), ([] : List ByteArray)⟩ : batch_Proof).Leaf), own eStr 9 none 0 ((⟨0, ([] : List Int), ([] : List ByteArray), ([] : List ByteArray)⟩ : batch_Proof).Nodes), mpo kStr kStr p2 m0.table_, mpo kStr kStr p3 m0.notes_]) (fun w hs => sat_to [4, 3, 3, 2, 1, 0, 0, 0] 1 rfl (sat_own_nil eStr 9 (sat_own_nil eStr 9 (sat_own_nil (eInt .i64) 3 hs)))) rfl (rr_cell 1 rfl rfl (by kernel_rfl)) (rr_tmp rfl) ⟨none, 0, none, 0, none, 0, p2, p3, rfl, rfl⟩
          · refine cw_cond_f rfl rfl h31 ?_
            refine cw_skip ?_
            refine ew_blk ?_
            have hR := Option.some.inj hF
            exact fun a w hf hs => ⟨hR, hf.keep [0, 1, 2, 6], sat_to [0, 0, 0, 0, 0] 0 rfl hs⟩
  · rintro a w ⟨hv, hf, hs⟩
    subst hv
    replace hF := hK23
    clear hK23
    try dsimp only [Thru] at hF
    revert a w
    show CW _ _ _ 60 [(0, .pointer (some ⟨b0, 0, none⟩)), (1, .slice p0 x1.length c0), (2, .slice p1 x2.length c1), (6, .pointer (some ⟨b21, 0, none⟩))] (SAT w0 ([imm I, pt b21 #[.int .i64 0, .slice none 0 0, .slice none 0 0, .slice none 0 0] 25, pt b0 #[.map (some p2), .map (some p3), .string m0.twins_.e0, .string m0.twins_.e1, .bool m0.found_, .bool m0.full_, .int .i64 m0.sums_] 60, mpo kStr kStr p2 m0.table_, mpo kStr kStr p3 m0.notes_] ++ F0))
    unfold F.batch_Prove.r2 at hF
    refine cw_seq ?_
    refine cw_region ?_
    refine ow_vals 3 (j := 3) [0, 1, 2, 6, 34, 35] [(0, .pointer (some ⟨b0, 0, none⟩)), (1, .slice p0 x1.length c0), (2, .slice p1 x2.length c1), (6, .pointer (some ⟨b21, 0, none⟩)), (34, .int .i64 (x1.length : Int)), (35, .slice p1 x2.length c1)] rfl (by kernel_rfl) ?_
    refine ow_state (S' := SAT w0 ([own (eInt .i64) 3 none 0 ([] : List Int), imm I, pt b21 #[.int .i64 0, .slice none 0 0, .slice none 0 0, .slice none 0 0] 25, pt b0 #[.map (some p2), .map (some p3), .string m0.twins_.e0, .string m0.twins_.e1, .bool m0.found_, .bool m0.full_, .int .i64 m0.sums_] 60, mpo kStr kStr p2 m0.table_, mpo kStr kStr p3 m0.notes_] ++ F0)) (fun w hs => sat_own_nil (eInt .i64) 3 hs) ?_
    obtain ⟨h33, hF⟩ := chk_some hF
    refine ow_pw rfl (pw_append 0 (l' := x2) rfl rfl rfl rfl rfl rfl (by kernel_rfl) (by kernel_rfl) rfl rfl rfl (src_ro (E' := 3) 1 rfl hr1 (by kernel_rfl) rfl) rfl h33.1 h33.2 fun p34 c35 => nw_H (H' := [own (eInt .i64) 3 p34 c35 (([] : List Int) ++ x2), imm I, pt b21 #[.int .i64 0, .slice none 0 0, .slice none 0 0, .slice none 0 0] 25, pt b0 #[.map (some p2), .map (some p3), .string m0.twins_.e0, .string m0.twins_.e1, .bool m0.found_, .bool m0.full_, .int .i64 m0.sums_] 60, mpo kStr kStr p2 m0.table_, mpo kStr kStr p3 m0.notes_] ++ F0) rfl (nw_ow ?_))
    refine ow_vals 1 (j := 5) [0, 1, 2, 6, 37] [(0, .pointer (some ⟨b0, 0, none⟩)), (1, .slice p0 x1.length c0), (2, .slice p1 x2.length c1), (6, .pointer (some ⟨b21, 0, none⟩)), (37, .agg #[.int .i64 (x1.length : Int), .slice p34 (([] : List Int) ++ x2).length c35, .slice none 0 0, .slice none 0 0])] rfl (by kernel_rfl) ?_
    refine ow_pw rfl (pw_alloc (cs := #[.int .i64 0, .slice none 0 0, .slice none 0 0, .slice none 0 0]) rfl rfl rfl rfl rfl (by kernel_rfl) fun b36 => nw_ow ?_)
    refine ow_pw rfl (pw_store 0 #[.int .i64 (x1.length : Int), .slice p34 (([] : List Int) ++ x2).length c35, .slice none 0 0, .slice none 0 0] rfl rfl rfl rfl rfl rfl rfl (by kernel_rfl) (nw_H (H' := [pt b36 #[.int .i64 (x1.length : Int), .slice p34 (([] : List Int) ++ x2).length c35, .slice none 0 0, .slice none 0 0] 25, own (eInt .i64) 3 p34 c35 (([] : List Int) ++ x2), imm I, pt b21 #[.int .i64 0, .slice none 0 0, .slice none 0 0, .slice none 0 0] 25, pt b0 #[.map (some p2), .map (some p3), .string m0.twins_.e0, .string m0.twins_.e1, .bool m0.found_, .bool m0.full_, .int .i64 m0.sums_] 60, mpo kStr kStr p2 m0.table_, mpo kStr kStr p3 m0.notes_] ++ F0) rfl (nw_ow ?_)))
    refine ow_end rfl ?_
    refine ew_then ?_
    obtain ⟨v38, hF, hK38⟩ := bind_some hF
    refine cw_mid (fun a w => ∃ (l59 : List ByteArray), ∃ (p60 : Option Addr), ∃ (c61 : Nat), l59 = v38 ∧ Fr 60 [(0, .pointer (some ⟨b0, 0, none⟩)), (1, .slice p0 x1.length c0), (2, .slice p1 x2.length c1), (6, .pointer (some ⟨b21, 0, none⟩)), (8, .pointer (some ⟨b36, 0, none⟩))] a ∧ SAT w0 ([imm I, pt b36 #[.int .i64 (x1.length : Int), .slice p34 (([] : List Int) ++ x2).length c35, .slice p60 l59.length c61, .slice none 0 0] 25, pt b21 #[.int .i64 0, .slice none 0 0, .slice none 0 0, .slice none 0 0] 25, pt b0 #[.map (some p2), .map (some p3), .string m0.twins_.e0, .string m0.twins_.e1, .bool m0.found_, .bool m0.full_, .int .i64 m0.sums_] 60, own (eInt .i64) 3 p34 c35 (([] : List Int) ++ x2), own eStr 9 p60 c61 l59, mpo kStr kStr p2 m0.table_, mpo kStr kStr p3 m0.notes_] ++ F0) w) ?_ ?_
    · refine cw_seq ?_
      refine cw_region ?_
      refine ow_vals 3 (j := 3) [0, 1, 2, 6, 8, 38, 39, 40] [(0, .pointer (some ⟨b0, 0, none⟩)), (1, .slice p0 x1.length c0), (2, .slice p1 x2.length c1), (6, .pointer (some ⟨b21, 0, none⟩)), (8, .pointer (some ⟨b36, 0, none⟩)), (38, .slice p1 x2.length c1), (39, .int .i64 (x2.length : Int)), (40, .int .i64 0)] rfl (by kernel_rfl) ?_
      refine ow_end rfl ?_
      refine ew_then ?_
      refine cw_block ?_
      refine fun a w hf hs => wp_rounds (fun k a w => ∃ (x40 : Int), ∃ (l41 : List ByteArray), ∃ (p42 : Option Addr), ∃ (c43 : Nat), iter (fun x => F.batch_Prove.l3 x1 x2 x.1 x.2) k (x40, l41) = some v38 ∧ Fr 60 [(0, .pointer (some ⟨b0, 0, none⟩)), (1, .slice p0 x1.length c0), (2, .slice p1 x2.length c1), (6, .pointer (some ⟨b21, 0, none⟩)), (8, .pointer (some ⟨b36, 0, none⟩)), (38, .slice p1 x2.length c1), (39, .int .i64 (x2.length : Int)), (40, .int .i64 x40)] a ∧ SAT w0 ([imm I, pt b36 #[.int .i64 (x1.length : Int), .slice p34 (([] : List Int) ++ x2).length c35, .slice p42 l41.length c43, .slice none 0 0] 25, pt b21 #[.int .i64 0, .slice none 0 0, .slice none 0 0, .slice none 0 0] 25, pt b0 #[.map (some p2), .map (some p3), .string m0.twins_.e0, .string m0.twins_.e1, .bool m0.found_, .bool m0.full_, .int .i64 m0.sums_] 60, own (eInt .i64) 3 p34 c35 (([] : List Int) ++ x2), own eStr 9 p42 c43 l41, mpo kStr kStr p2 m0.table_, mpo kStr kStr p3 m0.notes_] ++ F0) w) ?_ FUEL a w ⟨0, [], none, 0, hF, hf.keep [0, 1, 2, 6, 8, 38, 39, 40], sat_to [3, 1, 2, 2, 1, 0, 0, 0] 0 rfl (sat_own_nil eStr 9 hs)⟩
      clear hf hs
      clear a w hF
      rintro k a w ⟨x40, l41, p42, c43, hF2, hf, hs⟩
      obtain ⟨k, r39, rfl, hF, hL39⟩ := iter_some hF2
      clear hF2
      revert a w
      show CW _ _ _ 60 [(0, .pointer (some ⟨b0, 0, none⟩)), (1, .slice p0 x1.length c0), (2, .slice p1 x2.length c1), (6, .pointer (some ⟨b21, 0, none⟩)), (8, .pointer (some ⟨b36, 0, none⟩)), (38, .slice p1 x2.length c1), (39, .int .i64 (x2.length : Int)), (40, .int .i64 x40)] (SAT w0 ([imm I, pt b36 #[.int .i64 (x1.length : Int), .slice p34 (([] : List Int) ++ x2).length c35, .slice p42 l41.length c43, .slice none 0 0] 25, pt b21 #[.int .i64 0, .slice none 0 0, .slice none 0 0, .slice none 0 0] 25, pt b0 #[.map (some p2), .map (some p3), .string m0.twins_.e0, .string m0.twins_.e1, .bool m0.found_, .bool m0.full_, .int .i64 m0.sums_] 60, own (eInt .i64) 3 p34 c35 (([] : List Int) ++ x2), own eStr 9 p42 c43 l41, mpo kStr kStr p2 m0.table_, mpo kStr kStr p3 m0.notes_] ++ F0))
      try dsimp only at hF
      unfold F.batch_Prove.l3 at hF
      refine cw_seq ?_
      refine cw_region ?_
      refine ow_vals 1 (j := 1) [0, 1, 2, 6, 8, 38, 39, 40, 41] [(0, .pointer (some ⟨b0, 0, none⟩)), (1, .slice p0 x1.length c0), (2, .slice p1 x2.length c1), (6, .pointer (some ⟨b21, 0, none⟩)), (8, .pointer (some ⟨b36, 0, none⟩)), (38, .slice p1 x2.length c1), (39, .int .i64 (x2.length : Int)), (40, .int .i64 x40), (41, .bool (decide (x40 < (x2.length : Int))))] rfl (by kernel_rfl) ?_
      refine ow_end rfl ?_
      refine ew_then ?_
      refine cw_seq ?_
      rcases if_some hF with ⟨h45, hF⟩ | ⟨h45, hF⟩
      · refine cw_cond_t rfl rfl h45 ?_
        refine cw_skip ?_
        refine ew_then ?_
        refine cw_seq ?_
        refine cw_block ?_
        refine cw_seq ?_
        refine cw_region ?_
        obtain ⟨y46, h47, hF⟩ := bind_some hF
        refine ow_pw rfl (pw_index_ro (E := 3) 1 hr1 rfl rfl rfl rfl rfl (by kernel_rfl) rfl rfl rfl h47 fun q48 h49 => nw_ow ?_)
        refine ow_pw rfl (pw_quiet (v := .int .i64 y46) rfl rfl rfl rfl (q_load_el0 0 rfl h49 rfl rfl (by kernel_rfl)) (nw_ow ?_))
        refine ow_vals 1 (j := 3) [0, 1, 2, 6, 8, 10, 38, 39, 40] [(0, .pointer (some ⟨b0, 0, none⟩)), (1, .slice p0 x1.length c0), (2, .slice p1 x2.length c1), (6, .pointer (some ⟨b21, 0, none⟩)), (8, .pointer (some ⟨b36, 0, none⟩)), (10, .int .i64 y46), (38, .slice p1 x2.length c1), (39, .int .i64 (x2.length : Int)), (40, .int .i64 x40)] rfl (by kernel_rfl) ?_
        refine ow_end rfl ?_
        refine ew_then ?_
        refine cw_open 9 (SAT w0 ([imm I, pt b36 #[.int .i64 (x1.length : Int), .slice p34 (([] : List Int) ++ x2).length c35, .slice p42 l41.length c43, .slice none 0 0] 25, pt b21 #[.int .i64 0, .slice none 0 0, .slice none 0 0, .slice none 0 0] 25, pt b0 #[.map (some p2), .map (some p3), .string m0.twins_.e0, .string m0.twins_.e1, .bool m0.found_, .bool m0.full_, .int .i64 m0.sums_] 60, own (eInt .i64) 3 p34 c35 (([] : List Int) ++ x2), mpo kStr kStr p2 m0.table_, mpo kStr kStr p3 m0.notes_])) (by kernel_rfl) (f := 10) rfl (fun w hs => sat_drew hs) ?_
        refine aw_vals [0, 2, 3] (f' := 7) (m' := 13) [0, 1, 2, 6, 8, 38, 39, 40, 44, 46, 47] [(0, .pointer (some ⟨b0, 0, none⟩)), (1, .slice p0 x1.length c0), (2, .slice p1 x2.length c1), (6, .pointer (some ⟨b21, 0, none⟩)), (8, .pointer (some ⟨b36, 0, none⟩)), (38, .slice p1 x2.length c1), (39, .int .i64 (x2.length : Int)), (40, .int .i64 x40), (44, .pointer (some ⟨b36, 2, none⟩)), (46, .slice p0 x1.length c0), (47, .int .i64 y46)] (fun _ _ _ _ _ h => calm_fin (P := Try.prog) (fn := Try.f17) _ _ _ _ _ h) (fun w hs => sat_pulls [0, 0, 0, 0, 0, 1, 1] (G := [own eStr 9 p42 c43 l41] ++ F0) rfl hs) rfl (by kernel_rfl) ?_
        refine aw_quiet 1 (m' := 15) (v := .slice p42 l41.length c43) 1 [] rfl rfl rfl rfl (by kernel_rfl) (by kernel_rfl) (by kernel_rfl) (fun _ _ _ _ _ h => calm_fin (P := Try.prog) (fn := Try.f17) _ _ _ _ _ h) (fun w hs => sat_pulls [0, 0, 0, 0, 0, 1, 1] (G := [own eStr 9 p42 c43 l41] ++ F0) rfl hs) (q_load 1 rfl rfl rfl (by kernel_rfl)) ?_
        obtain ⟨y50, h51, hF⟩ := bind_some hF
        refine aw_index_ro (E := 9) 4 (m' := 31) 1 hr0 rfl rfl rfl rfl rfl (by kernel_rfl) (by kernel_rfl) (fun _ _ _ _ _ h => calm_fin (P := Try.prog) (fn := Try.f17) _ _ _ _ _ h) (fun w hs => sat_pulls [0, 0, 0, 0, 0, 1, 1] (G := [own eStr 9 p42 c43 l41] ++ F0) rfl hs) (by kernel_rfl) rfl rfl rfl h51 fun q52 h53 => ?_
        refine aw_quiet 5 (m' := 63) (v := .string y50) 5 [] rfl rfl rfl rfl (by kernel_rfl) (by kernel_rfl) (by kernel_rfl) (fun _ _ _ _ _ h => calm_fin (P := Try.prog) (fn := Try.f17) _ _ _ _ _ h) (fun w hs => sat_pulls [0, 0, 0, 0, 0, 1, 1] (G := [own eStr 9 p42 c43 l41] ++ F0) rfl hs) (q_load_el0 0 rfl h53 rfl rfl (by kernel_rfl)) ?_
        refine aw_only 6 (m' := 127) (by kernel_rfl) (by kernel_rfl) (pw_buildSlice (E := 9) eStr ([y50] : List ByteArray) rfl rfl rfl rfl rfl (by kernel_rfl) rfl (by kernel_rfl) rfl (by decide) rfl fun p54 => aw_next (fun w hs => sat_pulls [1, 1, 1, 1, 1, 2, 2] (G := [own eStr 9 p54 1 ([y50] : List ByteArray), own eStr 9 p42 c43 l41] ++ F0) rfl hs) ?_)
        obtain ⟨h56, hF⟩ := chk_some hF
        refine aw_only 7 (m' := 255) (by kernel_rfl) (by kernel_rfl) (pw_append 6 (l' := ([y50] : List ByteArray)) rfl rfl rfl rfl rfl rfl (by kernel_rfl) (by kernel_rfl) rfl rfl rfl (src_own (E' := 9) 0 rfl (by kernel_rfl) rfl) rfl h56.1 h56.2 fun p57 c58 => nw_H (H' := [own eStr 9 p54 1 ([y50] : List ByteArray), imm I, pt b36 #[.int .i64 (x1.length : Int), .slice p34 (([] : List Int) ++ x2).length c35, .slice p42 l41.length c43, .slice none 0 0] 25, pt b21 #[.int .i64 0, .slice none 0 0, .slice none 0 0, .slice none 0 0] 25, pt b0 #[.map (some p2), .map (some p3), .string m0.twins_.e0, .string m0.twins_.e1, .bool m0.found_, .bool m0.full_, .int .i64 m0.sums_] 60, own (eInt .i64) 3 p34 c35 (([] : List Int) ++ x2), own eStr 9 p57 c58 (l41 ++ ([y50] : List ByteArray)), mpo kStr kStr p2 m0.table_, mpo kStr kStr p3 m0.notes_] ++ F0) rfl (aw_next (fun w hs => sat_pulls [1, 1, 1, 1, 1, 2, 2] (G := [own eStr 9 p54 1 ([y50] : List ByteArray), own eStr 9 p57 c58 (l41 ++ ([y50] : List ByteArray))] ++ F0) rfl hs) ?_))
        refine aw_vals [8] (f' := 1) (m' := 511) [0, 1, 2, 6, 8, 38, 39, 40, 51, 52] [(0, .pointer (some ⟨b0, 0, none⟩)), (1, .slice p0 x1.length c0), (2, .slice p1 x2.length c1), (6, .pointer (some ⟨b21, 0, none⟩)), (8, .pointer (some ⟨b36, 0, none⟩)), (38, .slice p1 x2.length c1), (39, .int .i64 (x2.length : Int)), (40, .int .i64 x40), (51, .slice p57 (l41 ++ ([y50] : List ByteArray)).length c58), (52, .pointer (some ⟨b36, 2, none⟩))] (fun _ _ _ _ _ h => calm_fin (P := Try.prog) (fn := Try.f17) _ _ _ _ _ h) (fun w hs => sat_pulls [1, 1, 1, 1, 1, 2, 2] (G := [own eStr 9 p54 1 ([y50] : List ByteArray), own eStr 9 p57 c58 (l41 ++ ([y50] : List ByteArray))] ++ F0) rfl hs) rfl (by kernel_rfl) ?_
        refine aw_only 9 (m' := 1023) (by kernel_rfl) (by kernel_rfl) (pw_store 2 #[.int .i64 (x1.length : Int), .slice p34 (([] : List Int) ++ x2).length c35, .slice p57 (l41 ++ ([y50] : List ByteArray)).length c58, .slice none 0 0] rfl rfl rfl rfl rfl rfl rfl (by kernel_rfl) (nw_H (H' := [own eStr 9 p54 1 ([y50] : List ByteArray), imm I, pt b36 #[.int .i64 (x1.length : Int), .slice p34 (([] : List Int) ++ x2).length c35, .slice p57 (l41 ++ ([y50] : List ByteArray)).length c58, .slice none 0 0] 25, pt b21 #[.int .i64 0, .slice none 0 0, .slice none 0 0, .slice none 0 0] 25, pt b0 #[.map (some p2), .map (some p3), .string m0.twins_.e0, .string m0.twins_.e1, .bool m0.found_, .bool m0.full_, .int .i64 m0.sums_] 60, own (eInt .i64) 3 p34 c35 (([] : List Int) ++ x2), own eStr 9 p57 c58 (l41 ++ ([y50] : List ByteArray)), mpo kStr kStr p2 m0.table_, mpo kStr kStr p3 m0.notes_] ++ F0) rfl (aw_last (by kernel_rfl) ?_)))
        refine aw_keep [0, 1, 2, 6, 8, 38, 39, 40] (L' := [(0, .pointer (some ⟨b0, 0, none⟩)), (1, .slice p0 x1.length c0), (2, .slice p1 x2.length c1), (6, .pointer (some ⟨b21, 0, none⟩)), (8, .pointer (some ⟨b36, 0, none⟩)), (38, .slice p1 x2.length c1), (39, .int .i64 (x2.length : Int)), (40, .int .i64 x40)]) rfl ?_
        refine aw_end (by kernel_rfl) ?_
        refine ew_blk ?_
        refine ew_then ?_
        refine cw_region ?_
        refine ow_vals 2 (j := 2) [0, 1, 2, 6, 8, 38, 39, 40] [(0, .pointer (some ⟨b0, 0, none⟩)), (1, .slice p0 x1.length c0), (2, .slice p1 x2.length c1), (6, .pointer (some ⟨b21, 0, none⟩)), (8, .pointer (some ⟨b36, 0, none⟩)), (38, .slice p1 x2.length c1), (39, .int .i64 (x2.length : Int)), (40, .int .i64 (IntKind.i64.wrap (x40 + 1)))] rfl (by kernel_rfl) ?_
        refine ow_end rfl ?_
        have hR := Option.some.inj hF
        subst hR
        have hR := hL39
        try dsimp only at hR
        exact fun a w hf hs => ⟨k, Nat.lt_succ_self k, IntKind.i64.wrap (x40 + 1), l41 ++ ([y50] : List ByteArray), p57, c58, hR, hf.keep [0, 1, 2, 6, 8, 38, 39, 40], sat_to [0, 0, 0, 0, 0, 0, 0, 0, 0] 1 rfl hs⟩
      · refine cw_cond_f rfl rfl h45 ?_
        refine cw_exit ?_
        refine ew_then_exit ?_
        refine ew_then_exit ?_
        refine ew_blk_exit ?_
        have hR := Option.some.inj hF
        subst hR
        have hR := hL39
        try dsimp only at hR
        exact fun a w hf hs => ⟨l41, p42, c43, hR, hf.keep [0, 1, 2, 6, 8], sat_to [0, 0, 0, 0, 0, 0, 0, 0] 0 rfl hs⟩
    · rintro a w ⟨l59, p60, c61, hv, hf, hs⟩
      subst hv
      replace hF := hK38
      clear hK38
      try dsimp only at hF
      revert a w
      show CW _ _ _ 60 [(0, .pointer (some ⟨b0, 0, none⟩)), (1, .slice p0 x1.length c0), (2, .slice p1 x2.length c1), (6, .pointer (some ⟨b21, 0, none⟩)), (8, .pointer (some ⟨b36, 0, none⟩))] (SAT w0 ([imm I, pt b36 #[.int .i64 (x1.length : Int), .slice p34 (([] : List Int) ++ x2).length c35, .slice p60 l59.length c61, .slice none 0 0] 25, pt b21 #[.int .i64 0, .slice none 0 0, .slice none 0 0, .slice none 0 0] 25, pt b0 #[.map (some p2), .map (some p3), .string m0.twins_.e0, .string m0.twins_.e1, .bool m0.found_, .bool m0.full_, .int .i64 m0.sums_] 60, own (eInt .i64) 3 p34 c35 (([] : List Int) ++ x2), own eStr 9 p60 c61 l59, mpo kStr kStr p2 m0.table_, mpo kStr kStr p3 m0.notes_] ++ F0))
      unfold F.batch_Prove.r4 at hF
      refine cw_seq ?_
      refine cw_region ?_
      refine ow_vals 3 (j := 3) [6, 8, 54, 55, 56] [(6, .pointer (some ⟨b21, 0, none⟩)), (8, .pointer (some ⟨b36, 0, none⟩)), (54, .pointer (some ⟨b0, 0, none⟩)), (55, .slice p0 x1.length c0), (56, .slice p1 x2.length c1)] rfl (by kernel_rfl) ?_
      obtain ⟨r63, h64, hF⟩ := bind_some hF
      refine ow_pw rfl (pw_call (F := [pt b36 #[.int .i64 (x1.length : Int), .slice p34 (([] : List Int) ++ x2).length c35, .slice p60 l59.length c61, .slice none 0 0] 25, pt b21 #[.int .i64 0, .slice none 0 0, .slice none 0 0, .slice none 0 0] 25, own (eInt .i64) 3 p34 c35 (([] : List Int) ++ x2), own eStr 9 p60 c61 l59] ++ F0) rfl rfl rfl rfl rfl rfl rfl (by kernel_rfl) (perm_of_pulls [0, 2, 4, 4] rfl) (c_batch_gather FUEL _ x1 0 x2 m0 p0 c0 p1 c1 p2 p3 b0 r63 h64 hr0 hr1) ?_)
      rintro _ _ ⟨r63_p1, r63_c2, r63_b4, r63_b6, rfl, rfl⟩
      refine nw_H (H' := [imm I, pt b0 #[.map (some r63_b4), .map (some r63_b6), .string r63.2.twins_.e0, .string r63.2.twins_.e1, .bool r63.2.found_, .bool r63.2.full_, .int .i64 r63.2.sums_] 60, own eStr 9 r63_p1 r63_c2 r63.1, mpo kStr kStr r63_b4 r63.2.table_, mpo kStr kStr r63_b6 r63.2.notes_, pt b36 #[.int .i64 (x1.length : Int), .slice p34 (([] : List Int) ++ x2).length c35, .slice p60 l59.length c61, .slice none 0 0] 25, pt b21 #[.int .i64 0, .slice none 0 0, .slice none 0 0, .slice none 0 0] 25, own (eInt .i64) 3 p34 c35 (([] : List Int) ++ x2), own eStr 9 p60 c61 l59] ++ F0) rfl (nw_ow ?_)
      refine ow_vals 1 (j := 5) [6, 8, 57, 58] [(6, .pointer (some ⟨b21, 0, none⟩)), (8, .pointer (some ⟨b36, 0, none⟩)), (57, .slice r63_p1 r63.1.length r63_c2), (58, .pointer (some ⟨b36, 3, none⟩))] rfl (by kernel_rfl) ?_
      refine ow_pw rfl (pw_store 5 #[.int .i64 (x1.length : Int), .slice p34 (([] : List Int) ++ x2).length c35, .slice p60 l59.length c61, .slice r63_p1 r63.1.length r63_c2] rfl rfl rfl rfl rfl rfl rfl (by kernel_rfl) (nw_H (H' := [imm I, pt b0 #[.map (some r63_b4), .map (some r63_b6), .string r63.2.twins_.e0, .string r63.2.twins_.e1, .bool r63.2.found_, .bool r63.2.full_, .int .i64 r63.2.sums_] 60, own eStr 9 r63_p1 r63_c2 r63.1, mpo kStr kStr r63_b4 r63.2.table_, mpo kStr kStr r63_b6 r63.2.notes_, pt b36 #[.int .i64 (x1.length : Int), .slice p34 (([] : List Int) ++ x2).length c35, .slice p60 l59.length c61, .slice r63_p1 r63.1.length r63_c2] 25, pt b21 #[.int .i64 0, .slice none 0 0, .slice none 0 0, .slice none 0 0] 25, own (eInt .i64) 3 p34 c35 (([] : List Int) ++ x2), own eStr 9 p60 c61 l59] ++ F0) rfl (nw_ow ?_)))
      refine ow_end rfl ?_
      refine ew_then ?_
      refine cw_seq ?_
      refine cw_region ?_
      refine ow_pw rfl (pw_quiet (v := .agg #[.int .i64 (x1.length : Int), .slice p34 (([] : List Int) ++ x2).length c35, .slice p60 l59.length c61, .slice r63_p1 r63.1.length r63_c2]) rfl rfl rfl rfl (q_load 5 rfl rfl rfl (by kernel_rfl)) (nw_ow ?_))
      refine ow_pw rfl (pw_store 6 #[.int .i64 (x1.length : Int), .slice p34 (([] : List Int) ++ x2).length c35, .slice p60 l59.length c61, .slice r63_p1 r63.1.length r63_c2] rfl rfl rfl rfl rfl rfl rfl (by kernel_rfl) (nw_H (H' := [imm I, pt b0 #[.map (some r63_b4), .map (some r63_b6), .string r63.2.twins_.e0, .string r63.2.twins_.e1, .bool r63.2.found_, .bool r63.2.full_, .int .i64 r63.2.sums_] 60, own eStr 9 r63_p1 r63_c2 r63.1, mpo kStr kStr r63_b4 r63.2.table_, mpo kStr kStr r63_b6 r63.2.notes_, pt b36 #[.int .i64 (x1.length : Int), .slice p34 (([] : List Int) ++ x2).length c35, .slice p60 l59.length c61, .slice r63_p1 r63.1.length r63_c2] 25, pt b21 #[.int .i64 (x1.length : Int), .slice p34 (([] : List Int) ++ x2).length c35, .slice p60 l59.length c61, .slice r63_p1 r63.1.length r63_c2] 25, own (eInt .i64) 3 p34 c35 (([] : List Int) ++ x2), own eStr 9 p60 c61 l59] ++ F0) rfl (nw_ow ?_)))
      refine ow_vals 1 (j := 3) [6, 7] [(6, .pointer (some ⟨b21, 0, none⟩)), (7, .int .i64 0)] rfl (by kernel_rfl) ?_
      refine ow_end rfl ?_
      refine ew_then ?_
      refine cw_ret ?_
      have hR := Option.some.inj hF
      subst hR
      exact fin2 (H1 := [imm I, pt b0 #[.map (some r63_b4), .map (some r63_b6), .string r63.2.twins_.e0, .string r63.2.twins_.e1, .bool r63.2.found_, .bool r63.2.full_, .int .i64 r63.2.sums_] 60, own (eInt .i64) 3 p34 c35 ((⟨(x1.length : Int), ([] : List Int) ++ x2, l59, r63.1⟩ : batch_Proof).Picks), own eStr 9 p60 c61 ((⟨(x1.length : Int), ([] : List Int) ++ x2, l59, r63.1⟩ : batch_Proof).Leaf), own eStr 9 r63_p1 r63_c2 ((⟨(x1.length : Int), ([] : List Int) ++ x2, l59, r63.1⟩ : batch_Proof).Nodes), mpo kStr kStr r63_b4 r63.2.table_, mpo kStr kStr r63_b6 r63.2.notes_]) (fun w hs => sat_to [5, 5, 0, 0, 3, 3, 0, 0, 0] 2 rfl hs) rfl (rr_cell 6 rfl rfl (by kernel_rfl)) (rr_tmp rfl) ⟨p34, c35, p60, c61, r63_p1, r63_c2, r63_b4, r63_b6, rfl, rfl⟩


def F.law30_awake : Option Bool :=
  Option.bind (F.mill_New) (fun (r21 : mill_Mill) => Option.bind (F.pledge_Leaf (ByteArray.mk #[97]) r21) (fun (r26 : ByteArray × mill_Mill) => Option.bind (F.pledge_Leaf (ByteArray.mk #[98]) r26.2) (fun (r30 : ByteArray × mill_Mill) => Option.bind (F.batch_Prove ([r26.1, r30.1] : List ByteArray) ([0, 1] : List Int) r30.2) (fun (r44 : batch_Proof × Int × mill_Mill) => Option.bind (F.batch_Root r44.1 r44.2.2) (fun (r62 : ByteArray × Int × mill_Mill) => if r44.2.1 == 0 then (if (r44.1.Nodes.length : Int) == 0 then (if (r44.1.Leaf.length : Int) == 2 then (if r62.2.1 == 0 then (if (r62.1.size : Int) == 32 then (Option.bind (at_ ([r26.1, r30.1] : List ByteArray) 0) (fun (y71 : ByteArray) => Option.bind (at_ ([r26.1, r30.1] : List ByteArray) 1) (fun (y75 : ByteArray) => Option.bind (F.pledge_Node y71 y75 r62.2.2) (fun (r79 : ByteArray × mill_Mill) => some ((seqB r62.1 r79.1)))))) else (some (false))) else (some (false))) else (some (false))) else (some (false))) else (some (false)))))))
set_option maxRecDepth 100000 in
set_option maxHeartbeats 4000000 in
theorem c_law30_awake (I : Hl) (res : Bool) (hF : F.law30_awake = some res) : Tr Try.prog 13 [] [imm I] (fun r H' => ∃ (J : Hl), r = .bool res ∧ H' = [imm J] ∧ Hl.sub I J) := by
  unfold F.law30_awake at hF
  refine tr_of_cw (fn := Try.f13) Try.func13 rfl (Nat.le_of_ble_eq_true rfl) 61 rfl fun F0 w0 => ?_
  refine cw_keep [] (L' := []) rfl ?_
  refine cw_state (S' := SAT w0 ([imm I] ++ F0)) (fun w hs => hs) ?_
  refine cw_seq ?_
  refine cw_region ?_
  refine ow_vals 1 (j := 1) [] [] rfl (by kernel_rfl) ?_
  refine ow_end rfl ?_
  refine ew_then ?_
  refine cw_seq ?_
  refine cw_region ?_
  obtain ⟨r21, h22, hF⟩ := bind_some hF
  refine ow_pw rfl (pw_call (F := [] ++ F0) rfl rfl rfl rfl rfl rfl rfl (by kernel_rfl) (perm_of_pulls [0] rfl) (c_mill_New _ r21 h22) ?_)
  rintro _ _ ⟨r21_b1, r21_b3, r21_b5, rfl, rfl⟩
  refine nw_H (H' := [imm I, pt r21_b1 #[.map (some r21_b3), .map (some r21_b5), .string r21.twins_.e0, .string r21.twins_.e1, .bool r21.found_, .bool r21.full_, .int .i64 r21.sums_] 60, mpo kStr kStr r21_b3 r21.table_, mpo kStr kStr r21_b5 r21.notes_] ++ F0) rfl (nw_ow ?_)
  refine ow_vals 1 (j := 2) [1] [(1, .pointer (some ⟨r21_b1, 0, none⟩))] rfl (by kernel_rfl) ?_
  refine ow_end rfl ?_
  refine ew_then ?_
  refine cw_seq ?_
  refine cw_region ?_
  refine ow_vals 1 (j := 1) [1, 8] [(1, .pointer (some ⟨r21_b1, 0, none⟩)), (8, .pointer (some ⟨r21_b1, 0, none⟩))] rfl (by kernel_rfl) ?_
  obtain ⟨r26, h27, hF⟩ := bind_some hF
  refine ow_pw rfl (pw_call (F := [] ++ F0) rfl rfl rfl rfl rfl rfl rfl (by kernel_rfl) (perm_of_pulls [0, 0, 0, 0] rfl) (c_pledge_Leaf _ (ByteArray.mk #[97]) r21 r21_b3 r21_b5 r21_b1 r26 h27) ?_)
  rintro _ _ ⟨r26_b1, r26_b3, rfl, rfl⟩
  refine nw_H (H' := [imm I, pt r21_b1 #[.map (some r26_b1), .map (some r26_b3), .string r26.2.twins_.e0, .string r26.2.twins_.e1, .bool r26.2.found_, .bool r26.2.full_, .int .i64 r26.2.sums_] 60, mpo kStr kStr r26_b1 r26.2.table_, mpo kStr kStr r26_b3 r26.2.notes_] ++ F0) rfl (nw_ow ?_)
  refine ow_vals 1 (j := 3) [1, 9, 10] [(1, .pointer (some ⟨r21_b1, 0, none⟩)), (9, .string r26.1), (10, .pointer (some ⟨r21_b1, 0, none⟩))] rfl (by kernel_rfl) ?_
  obtain ⟨r30, h31, hF⟩ := bind_some hF
  refine ow_pw rfl (pw_call (F := [] ++ F0) rfl rfl rfl rfl rfl rfl rfl (by kernel_rfl) (perm_of_pulls [0, 0, 0, 0] rfl) (c_pledge_Leaf _ (ByteArray.mk #[98]) r26.2 r26_b1 r26_b3 r21_b1 r30 h31) ?_)
  rintro _ _ ⟨r30_b1, r30_b3, rfl, rfl⟩
  refine nw_H (H' := [imm I, pt r21_b1 #[.map (some r30_b1), .map (some r30_b3), .string r30.2.twins_.e0, .string r30.2.twins_.e1, .bool r30.2.found_, .bool r30.2.full_, .int .i64 r30.2.sums_] 60, mpo kStr kStr r30_b1 r30.2.table_, mpo kStr kStr r30_b3 r30.2.notes_] ++ F0) rfl (nw_ow ?_)
  refine ow_pw rfl (pw_buildSlice (E := 9) eStr ([r26.1, r30.1] : List ByteArray) rfl rfl rfl rfl rfl (by kernel_rfl) rfl (by kernel_rfl) rfl (by decide) rfl fun p34 => nw_ow ?_)
  refine ow_vals 1 (j := 6) [1, 2] [(1, .pointer (some ⟨r21_b1, 0, none⟩)), (2, .slice p34 ([r26.1, r30.1] : List ByteArray).length 2)] rfl (by kernel_rfl) ?_
  refine ow_end rfl ?_
  refine ew_then ?_
  refine cw_seq ?_
  refine cw_region ?_
  refine ow_vals 2 (j := 2) [1, 2, 14, 15] [(1, .pointer (some ⟨r21_b1, 0, none⟩)), (2, .slice p34 ([r26.1, r30.1] : List ByteArray).length 2), (14, .pointer (some ⟨r21_b1, 0, none⟩)), (15, .slice p34 ([r26.1, r30.1] : List ByteArray).length 2)] rfl (by kernel_rfl) ?_
  refine ow_pw rfl (pw_buildSlice (E := 3) (eInt .i64) ([0, 1] : List Int) rfl rfl rfl rfl rfl (by kernel_rfl) rfl (by kernel_rfl) rfl (by decide) rfl fun p36 => nw_ow ?_)
  refine ow_freeze (fun w hs => sat_to [2, 1] 0 (F := [imm I, own eStr 9 p34 2 ([r26.1, r30.1] : List ByteArray), own (eInt .i64) 3 p36 2 ([0, 1] : List Int), pt r21_b1 #[.map (some r30_b1), .map (some r30_b3), .string r30.2.twins_.e0, .string r30.2.twins_.e1, .bool r30.2.found_, .bool r30.2.full_, .int .i64 r30.2.sums_] 60, mpo kStr kStr r30_b1 r30.2.table_, mpo kStr kStr r30_b3 r30.2.notes_] ++ F0) rfl hs) fun J38 h39 h40 => ?_
  refine ow_H (H' := [imm J38, own (eInt .i64) 3 p36 2 ([0, 1] : List Int), pt r21_b1 #[.map (some r30_b1), .map (some r30_b3), .string r30.2.twins_.e0, .string r30.2.twins_.e1, .bool r30.2.found_, .bool r30.2.full_, .int .i64 r30.2.sums_] 60, mpo kStr kStr r30_b1 r30.2.table_, mpo kStr kStr r30_b3 r30.2.notes_] ++ F0) rfl ?_
  refine ow_freeze (fun w hs => sat_to [0, 0] 0 (F := [imm J38, own (eInt .i64) 3 p36 2 ([0, 1] : List Int), pt r21_b1 #[.map (some r30_b1), .map (some r30_b3), .string r30.2.twins_.e0, .string r30.2.twins_.e1, .bool r30.2.found_, .bool r30.2.full_, .int .i64 r30.2.sums_] 60, mpo kStr kStr r30_b1 r30.2.table_, mpo kStr kStr r30_b3 r30.2.notes_] ++ F0) rfl hs) fun J41 h42 h43 => ?_
  have h40 := ro.sub h42 h40
  refine ow_H (H' := [imm J41, pt r21_b1 #[.map (some r30_b1), .map (some r30_b3), .string r30.2.twins_.e0, .string r30.2.twins_.e1, .bool r30.2.found_, .bool r30.2.full_, .int .i64 r30.2.sums_] 60, mpo kStr kStr r30_b1 r30.2.table_, mpo kStr kStr r30_b3 r30.2.notes_] ++ F0) rfl ?_
  obtain ⟨r44, h45, hF⟩ := bind_some hF
  refine ow_pw rfl (pw_call (F := [] ++ F0) rfl rfl rfl rfl rfl rfl rfl (by kernel_rfl) (perm_of_pulls [0, 0, 0, 0] rfl) (c_batch_Prove _ ([r26.1, r30.1] : List ByteArray) ([0, 1] : List Int) r30.2 p34 2 p36 2 r30_b1 r30_b3 r21_b1 r44 h45 h40 h43) ?_)
  rintro _ _ ⟨r44_p1, r44_c2, r44_p4, r44_c5, r44_p7, r44_c8, r44_b10, r44_b12, rfl, rfl⟩
  refine nw_H (H' := [imm J41, pt r21_b1 #[.map (some r44_b10), .map (some r44_b12), .string r44.2.2.twins_.e0, .string r44.2.2.twins_.e1, .bool r44.2.2.found_, .bool r44.2.2.full_, .int .i64 r44.2.2.sums_] 60, own (eInt .i64) 3 r44_p1 r44_c2 r44.1.Picks, own eStr 9 r44_p4 r44_c5 r44.1.Leaf, own eStr 9 r44_p7 r44_c8 r44.1.Nodes, mpo kStr kStr r44_b10 r44.2.2.table_, mpo kStr kStr r44_b12 r44.2.2.notes_] ++ F0) rfl (nw_ow ?_)
  refine ow_vals 3 (j := 7) [1, 2, 18, 19] [(1, .pointer (some ⟨r21_b1, 0, none⟩)), (2, .slice p34 ([r26.1, r30.1] : List ByteArray).length 2), (18, .agg #[.int .i64 r44.1.Size, .slice r44_p1 r44.1.Picks.length r44_c2, .slice r44_p4 r44.1.Leaf.length r44_c5, .slice r44_p7 r44.1.Nodes.length r44_c8]), (19, .int .i64 r44.2.1)] rfl (by kernel_rfl) ?_
  refine ow_pw rfl (pw_alloc (cs := #[.int .i64 0, .slice none 0 0, .slice none 0 0, .slice none 0 0]) rfl rfl rfl rfl rfl (by kernel_rfl) fun b51 => nw_ow ?_)
  refine ow_pw rfl (pw_store 0 #[.int .i64 r44.1.Size, .slice r44_p1 r44.1.Picks.length r44_c2, .slice r44_p4 r44.1.Leaf.length r44_c5, .slice r44_p7 r44.1.Nodes.length r44_c8] rfl rfl rfl rfl rfl rfl rfl (by kernel_rfl) (nw_H (H' := [pt b51 #[.int .i64 r44.1.Size, .slice r44_p1 r44.1.Picks.length r44_c2, .slice r44_p4 r44.1.Leaf.length r44_c5, .slice r44_p7 r44.1.Nodes.length r44_c8] 25, imm J41, pt r21_b1 #[.map (some r44_b10), .map (some r44_b12), .string r44.2.2.twins_.e0, .string r44.2.2.twins_.e1, .bool r44.2.2.found_, .bool r44.2.2.full_, .int .i64 r44.2.2.sums_] 60, own (eInt .i64) 3 r44_p1 r44_c2 r44.1.Picks, own eStr 9 r44_p4 r44_c5 r44.1.Leaf, own eStr 9 r44_p7 r44_c8 r44.1.Nodes, mpo kStr kStr r44_b10 r44.2.2.table_, mpo kStr kStr r44_b12 r44.2.2.notes_] ++ F0) rfl (nw_ow ?_)))
  refine ow_vals 1 (j := 10) [1, 2, 3, 4] [(1, .pointer (some ⟨r21_b1, 0, none⟩)), (2, .slice p34 ([r26.1, r30.1] : List ByteArray).length 2), (3, .pointer (some ⟨b51, 0, none⟩)), (4, .int .i64 r44.2.1)] rfl (by kernel_rfl) ?_
  refine ow_end rfl ?_
  refine ew_then ?_
  refine cw_seq ?_
  refine cw_region ?_
  refine ow_vals 1 (j := 1) [1, 2, 3, 4, 21] [(1, .pointer (some ⟨r21_b1, 0, none⟩)), (2, .slice p34 ([r26.1, r30.1] : List ByteArray).length 2), (3, .pointer (some ⟨b51, 0, none⟩)), (4, .int .i64 r44.2.1), (21, .pointer (some ⟨r21_b1, 0, none⟩))] rfl (by kernel_rfl) ?_
  refine ow_pw rfl (pw_quiet (v := .agg #[.int .i64 r44.1.Size, .slice r44_p1 r44.1.Picks.length r44_c2, .slice r44_p4 r44.1.Leaf.length r44_c5, .slice r44_p7 r44.1.Nodes.length r44_c8]) rfl rfl rfl rfl (q_load 0 rfl rfl rfl (by kernel_rfl)) (nw_ow ?_))
  refine ow_freeze (fun w hs => sat_to [1, 2] 0 (F := [imm J41, own (eInt .i64) 3 r44_p1 r44_c2 r44.1.Picks, pt b51 #[.int .i64 r44.1.Size, .slice r44_p1 r44.1.Picks.length r44_c2, .slice r44_p4 r44.1.Leaf.length r44_c5, .slice r44_p7 r44.1.Nodes.length r44_c8] 25, pt r21_b1 #[.map (some r44_b10), .map (some r44_b12), .string r44.2.2.twins_.e0, .string r44.2.2.twins_.e1, .bool r44.2.2.found_, .bool r44.2.2.full_, .int .i64 r44.2.2.sums_] 60, own eStr 9 r44_p4 r44_c5 r44.1.Leaf, own eStr 9 r44_p7 r44_c8 r44.1.Nodes, mpo kStr kStr r44_b10 r44.2.2.table_, mpo kStr kStr r44_b12 r44.2.2.notes_] ++ F0) rfl hs) fun J53 h54 h55 => ?_
  have h40 := ro.sub h54 h40
  refine ow_H (H' := [imm J53, pt b51 #[.int .i64 r44.1.Size, .slice r44_p1 r44.1.Picks.length r44_c2, .slice r44_p4 r44.1.Leaf.length r44_c5, .slice r44_p7 r44.1.Nodes.length r44_c8] 25, pt r21_b1 #[.map (some r44_b10), .map (some r44_b12), .string r44.2.2.twins_.e0, .string r44.2.2.twins_.e1, .bool r44.2.2.found_, .bool r44.2.2.full_, .int .i64 r44.2.2.sums_] 60, own eStr 9 r44_p4 r44_c5 r44.1.Leaf, own eStr 9 r44_p7 r44_c8 r44.1.Nodes, mpo kStr kStr r44_b10 r44.2.2.table_, mpo kStr kStr r44_b12 r44.2.2.notes_] ++ F0) rfl ?_
  refine ow_freeze (fun w hs => sat_to [0, 2] 0 (F := [imm J53, own eStr 9 r44_p4 r44_c5 r44.1.Leaf, pt b51 #[.int .i64 r44.1.Size, .slice r44_p1 r44.1.Picks.length r44_c2, .slice r44_p4 r44.1.Leaf.length r44_c5, .slice r44_p7 r44.1.Nodes.length r44_c8] 25, pt r21_b1 #[.map (some r44_b10), .map (some r44_b12), .string r44.2.2.twins_.e0, .string r44.2.2.twins_.e1, .bool r44.2.2.found_, .bool r44.2.2.full_, .int .i64 r44.2.2.sums_] 60, own eStr 9 r44_p7 r44_c8 r44.1.Nodes, mpo kStr kStr r44_b10 r44.2.2.table_, mpo kStr kStr r44_b12 r44.2.2.notes_] ++ F0) rfl hs) fun J56 h57 h58 => ?_
  have h40 := ro.sub h57 h40
  have h55 := ro.sub h57 h55
  refine ow_H (H' := [imm J56, pt b51 #[.int .i64 r44.1.Size, .slice r44_p1 r44.1.Picks.length r44_c2, .slice r44_p4 r44.1.Leaf.length r44_c5, .slice r44_p7 r44.1.Nodes.length r44_c8] 25, pt r21_b1 #[.map (some r44_b10), .map (some r44_b12), .string r44.2.2.twins_.e0, .string r44.2.2.twins_.e1, .bool r44.2.2.found_, .bool r44.2.2.full_, .int .i64 r44.2.2.sums_] 60, own eStr 9 r44_p7 r44_c8 r44.1.Nodes, mpo kStr kStr r44_b10 r44.2.2.table_, mpo kStr kStr r44_b12 r44.2.2.notes_] ++ F0) rfl ?_
  refine ow_freeze (fun w hs => sat_to [0, 2] 0 (F := [imm J56, own eStr 9 r44_p7 r44_c8 r44.1.Nodes, pt b51 #[.int .i64 r44.1.Size, .slice r44_p1 r44.1.Picks.length r44_c2, .slice r44_p4 r44.1.Leaf.length r44_c5, .slice r44_p7 r44.1.Nodes.length r44_c8] 25, pt r21_b1 #[.map (some r44_b10), .map (some r44_b12), .string r44.2.2.twins_.e0, .string r44.2.2.twins_.e1, .bool r44.2.2.found_, .bool r44.2.2.full_, .int .i64 r44.2.2.sums_] 60, mpo kStr kStr r44_b10 r44.2.2.table_, mpo kStr kStr r44_b12 r44.2.2.notes_] ++ F0) rfl hs) fun J59 h60 h61 => ?_
  have h40 := ro.sub h60 h40
  have h55 := ro.sub h60 h55
  have h58 := ro.sub h60 h58
  refine ow_H (H' := [imm J59, pt b51 #[.int .i64 r44.1.Size, .slice r44_p1 r44.1.Picks.length r44_c2, .slice r44_p4 r44.1.Leaf.length r44_c5, .slice r44_p7 r44.1.Nodes.length r44_c8] 25, pt r21_b1 #[.map (some r44_b10), .map (some r44_b12), .string r44.2.2.twins_.e0, .string r44.2.2.twins_.e1, .bool r44.2.2.found_, .bool r44.2.2.full_, .int .i64 r44.2.2.sums_] 60, mpo kStr kStr r44_b10 r44.2.2.table_, mpo kStr kStr r44_b12 r44.2.2.notes_] ++ F0) rfl ?_
  obtain ⟨r62, h63, hF⟩ := bind_some hF
  refine ow_pw rfl (pw_call (F := [pt b51 #[.int .i64 r44.1.Size, .slice r44_p1 r44.1.Picks.length r44_c2, .slice r44_p4 r44.1.Leaf.length r44_c5, .slice r44_p7 r44.1.Nodes.length r44_c8] 25] ++ F0) rfl rfl rfl rfl rfl rfl rfl (by kernel_rfl) (perm_of_pulls [0, 1, 1, 1] rfl) (c_batch_Root _ r44.1 r44.2.2 r44_p1 r44_c2 r44_p4 r44_c5 r44_p7 r44_c8 r44_b10 r44_b12 r21_b1 r62 h63 h55 h58 h61) ?_)
  rintro _ _ ⟨r62_b1, r62_b3, rfl, rfl⟩
  refine nw_H (H' := [imm J59, pt r21_b1 #[.map (some r62_b1), .map (some r62_b3), .string r62.2.2.twins_.e0, .string r62.2.2.twins_.e1, .bool r62.2.2.found_, .bool r62.2.2.full_, .int .i64 r62.2.2.sums_] 60, mpo kStr kStr r62_b1 r62.2.2.table_, mpo kStr kStr r62_b3 r62.2.2.notes_, pt b51 #[.int .i64 r44.1.Size, .slice r44_p1 r44.1.Picks.length r44_c2, .slice r44_p4 r44.1.Leaf.length r44_c5, .slice r44_p7 r44.1.Nodes.length r44_c8] 25] ++ F0) rfl (nw_ow ?_)
  refine ow_vals 5 (j := 8) [1, 2, 3, 4, 5, 6] [(1, .pointer (some ⟨r21_b1, 0, none⟩)), (2, .slice p34 ([r26.1, r30.1] : List ByteArray).length 2), (3, .pointer (some ⟨b51, 0, none⟩)), (4, .int .i64 r44.2.1), (5, .string r62.1), (6, .int .i64 r62.2.1)] rfl (by kernel_rfl) ?_
  refine ow_end rfl ?_
  refine ew_then ?_
  refine cw_seq ?_
  refine cw_open 32 (SAT w0 ([imm J59, pt r21_b1 #[.map (some r62_b1), .map (some r62_b3), .string r62.2.2.twins_.e0, .string r62.2.2.twins_.e1, .bool r62.2.2.found_, .bool r62.2.2.full_, .int .i64 r62.2.2.sums_] 60, mpo kStr kStr r62_b1 r62.2.2.table_, mpo kStr kStr r62_b3 r62.2.2.notes_, pt b51 #[.int .i64 r44.1.Size, .slice r44_p1 r44.1.Picks.length r44_c2, .slice r44_p4 r44.1.Leaf.length r44_c5, .slice r44_p7 r44.1.Nodes.length r44_c8] 25])) (by kernel_rfl) (f := 36) rfl (fun w hs => sat_drew hs) ?_
  refine aw_vals [0, 1, 2] (f' := 33) (m' := 7) [1, 2, 3, 5, 6, 28] [(1, .pointer (some ⟨r21_b1, 0, none⟩)), (2, .slice p34 ([r26.1, r30.1] : List ByteArray).length 2), (3, .pointer (some ⟨b51, 0, none⟩)), (5, .string r62.1), (6, .int .i64 r62.2.1), (28, .bool (r44.2.1 == 0))] (fun _ _ _ _ _ h => calm_fin (P := Try.prog) (fn := Try.f13) _ _ _ _ _ h) (fun w hs => sat_pulls [0, 0, 0, 0, 0] (G := [] ++ F0) rfl hs) rfl (by kernel_rfl) ?_
  rcases if_some hF with ⟨h66, hF⟩ | ⟨h66, hF⟩
  · refine aw_slots (L' := [(1, .pointer (some ⟨r21_b1, 0, none⟩)), (2, .slice p34 ([r26.1, r30.1] : List ByteArray).length 2), (3, .pointer (some ⟨b51, 0, none⟩)), (5, .string r62.1), (6, .int .i64 r62.2.1), (28, .bool true)]) (by rw [h66]) ?_
    refine aw_vals [3] (f' := 32) (m' := 15) [1, 2, 3, 5, 6, 28, 29] [(1, .pointer (some ⟨r21_b1, 0, none⟩)), (2, .slice p34 ([r26.1, r30.1] : List ByteArray).length 2), (3, .pointer (some ⟨b51, 0, none⟩)), (5, .string r62.1), (6, .int .i64 r62.2.1), (28, .bool true), (29, .pointer (some ⟨b51, 3, none⟩))] (fun _ _ _ _ _ h => calm_fin (P := Try.prog) (fn := Try.f13) _ _ _ _ _ h) (fun w hs => sat_pulls [0, 0, 0, 0, 0] (G := [] ++ F0) rfl hs) rfl (by kernel_rfl) ?_
    refine aw_quiet 4 (m' := 31) (v := .slice r44_p7 r44.1.Nodes.length r44_c8) 23 [18, 14, 8, 7, 6, 5, 4] rfl rfl rfl rfl (by kernel_rfl) (by kernel_rfl) (by kernel_rfl) (fun _ _ _ _ _ h => calm_fin (P := Try.prog) (fn := Try.f13) _ _ _ _ _ h) (fun w hs => sat_pulls [0, 0, 0, 0, 0] (G := [] ++ F0) rfl hs) (q_load 4 rfl rfl rfl (by kernel_rfl)) ?_
    refine aw_vals [5, 6, 7, 8] (f' := 27) (m' := 511) [1, 2, 3, 5, 6, 34] [(1, .pointer (some ⟨r21_b1, 0, none⟩)), (2, .slice p34 ([r26.1, r30.1] : List ByteArray).length 2), (3, .pointer (some ⟨b51, 0, none⟩)), (5, .string r62.1), (6, .int .i64 r62.2.1), (34, .bool ((r44.1.Nodes.length : Int) == 0))] (fun _ _ _ _ _ h => calm_fin (P := Try.prog) (fn := Try.f13) _ _ _ _ _ h) (fun w hs => sat_pulls [0, 0, 0, 0, 0] (G := [] ++ F0) rfl hs) rfl (by kernel_rfl) ?_
    rcases if_some hF with ⟨h67, hF⟩ | ⟨h67, hF⟩
    · refine aw_slots (L' := [(1, .pointer (some ⟨r21_b1, 0, none⟩)), (2, .slice p34 ([r26.1, r30.1] : List ByteArray).length 2), (3, .pointer (some ⟨b51, 0, none⟩)), (5, .string r62.1), (6, .int .i64 r62.2.1), (34, .bool true)]) (by rw [h67]) ?_
      refine aw_vals [9] (f' := 26) (m' := 1023) [1, 2, 5, 6, 34, 35] [(1, .pointer (some ⟨r21_b1, 0, none⟩)), (2, .slice p34 ([r26.1, r30.1] : List ByteArray).length 2), (5, .string r62.1), (6, .int .i64 r62.2.1), (34, .bool true), (35, .pointer (some ⟨b51, 2, none⟩))] (fun _ _ _ _ _ h => calm_fin (P := Try.prog) (fn := Try.f13) _ _ _ _ _ h) (fun w hs => sat_pulls [0, 0, 0, 0, 0] (G := [] ++ F0) rfl hs) rfl (by kernel_rfl) ?_
      refine aw_quiet 10 (m' := 2047) (v := .slice r44_p4 r44.1.Leaf.length r44_c5) 23 [18, 14, 13, 12, 11, 10] rfl rfl rfl rfl (by kernel_rfl) (by kernel_rfl) (by kernel_rfl) (fun _ _ _ _ _ h => calm_fin (P := Try.prog) (fn := Try.f13) _ _ _ _ _ h) (fun w hs => sat_pulls [0, 0, 0, 0, 0] (G := [] ++ F0) rfl hs) (q_load 4 rfl rfl rfl (by kernel_rfl)) ?_
      refine aw_vals [11, 12, 13, 14] (f' := 21) (m' := 32767) [1, 2, 5, 6, 40] [(1, .pointer (some ⟨r21_b1, 0, none⟩)), (2, .slice p34 ([r26.1, r30.1] : List ByteArray).length 2), (5, .string r62.1), (6, .int .i64 r62.2.1), (40, .bool ((r44.1.Leaf.length : Int) == 2))] (fun _ _ _ _ _ h => calm_fin (P := Try.prog) (fn := Try.f13) _ _ _ _ _ h) (fun w hs => sat_pulls [0, 0, 0, 0, 0] (G := [] ++ F0) rfl hs) rfl (by kernel_rfl) ?_
      rcases if_some hF with ⟨h68, hF⟩ | ⟨h68, hF⟩
      · refine aw_slots (L' := [(1, .pointer (some ⟨r21_b1, 0, none⟩)), (2, .slice p34 ([r26.1, r30.1] : List ByteArray).length 2), (5, .string r62.1), (6, .int .i64 r62.2.1), (40, .bool true)]) (by rw [h68]) ?_
        refine aw_vals [15, 16, 17, 18] (f' := 17) (m' := 524287) [1, 2, 5, 44] [(1, .pointer (some ⟨r21_b1, 0, none⟩)), (2, .slice p34 ([r26.1, r30.1] : List ByteArray).length 2), (5, .string r62.1), (44, .bool (r62.2.1 == 0))] (fun _ _ _ _ _ h => calm_fin (P := Try.prog) (fn := Try.f13) _ _ _ _ _ h) (fun w hs => sat_pulls [0, 0, 0, 0, 0] (G := [] ++ F0) rfl hs) rfl (by kernel_rfl) ?_
        rcases if_some hF with ⟨h69, hF⟩ | ⟨h69, hF⟩
        · refine aw_slots (L' := [(1, .pointer (some ⟨r21_b1, 0, none⟩)), (2, .slice p34 ([r26.1, r30.1] : List ByteArray).length 2), (5, .string r62.1), (44, .bool true)]) (by rw [h69]) ?_
          refine aw_vals [19, 20, 21, 22, 23] (f' := 12) (m' := 16777215) [1, 2, 5, 49] [(1, .pointer (some ⟨r21_b1, 0, none⟩)), (2, .slice p34 ([r26.1, r30.1] : List ByteArray).length 2), (5, .string r62.1), (49, .bool ((r62.1.size : Int) == 32))] (fun _ _ _ _ _ h => calm_fin (P := Try.prog) (fn := Try.f13) _ _ _ _ _ h) (fun w hs => sat_pulls [0, 0, 0, 0, 0] (G := [] ++ F0) rfl hs) rfl (by kernel_rfl) ?_
          rcases if_some hF with ⟨h70, hF⟩ | ⟨h70, hF⟩
          · refine aw_slots (L' := [(1, .pointer (some ⟨r21_b1, 0, none⟩)), (2, .slice p34 ([r26.1, r30.1] : List ByteArray).length 2), (5, .string r62.1), (49, .bool true)]) (by rw [h70]) ?_
            refine aw_vals [24, 25, 26, 29] (f' := 8) (m' := 671088639) [49, 50, 51, 52, 55] [(49, .bool true), (50, .string r62.1), (51, .pointer (some ⟨r21_b1, 0, none⟩)), (52, .slice p34 ([r26.1, r30.1] : List ByteArray).length 2), (55, .slice p34 ([r26.1, r30.1] : List ByteArray).length 2)] (fun _ _ _ _ _ h => calm_fin (P := Try.prog) (fn := Try.f13) _ _ _ _ _ h) (fun w hs => sat_pulls [0, 0, 0, 0, 0] (G := [] ++ F0) rfl hs) rfl (by kernel_rfl) ?_
            obtain ⟨y71, h72, hF⟩ := bind_some hF
            refine aw_index_ro (E := 9) 27 (m' := 805306367) 1 h40 rfl rfl rfl rfl rfl (by kernel_rfl) (by kernel_rfl) (fun _ _ _ _ _ h => calm_fin (P := Try.prog) (fn := Try.f13) _ _ _ _ _ h) (fun w hs => sat_pulls [0, 0, 0, 0, 0] (G := [] ++ F0) rfl hs) (by kernel_rfl) rfl rfl rfl h72 fun q73 h74 => ?_
            refine aw_quiet 28 (m' := 1073741823) (v := .string y71) 28 [] rfl rfl rfl rfl (by kernel_rfl) (by kernel_rfl) (by kernel_rfl) (fun _ _ _ _ _ h => calm_fin (P := Try.prog) (fn := Try.f13) _ _ _ _ _ h) (fun w hs => sat_pulls [0, 0, 0, 0, 0] (G := [] ++ F0) rfl hs) (q_load_el0 0 rfl h74 rfl rfl (by kernel_rfl)) ?_
            obtain ⟨y75, h76, hF⟩ := bind_some hF
            refine aw_index_ro (E := 9) 30 (m' := 2147483647) 1 h40 rfl rfl rfl rfl rfl (by kernel_rfl) (by kernel_rfl) (fun _ _ _ _ _ h => calm_fin (P := Try.prog) (fn := Try.f13) _ _ _ _ _ h) (fun w hs => sat_pulls [0, 0, 0, 0, 0] (G := [] ++ F0) rfl hs) (by kernel_rfl) rfl rfl rfl h76 fun q77 h78 => ?_
            refine aw_quiet 31 (m' := 4294967295) (v := .string y75) 31 [] rfl rfl rfl rfl (by kernel_rfl) (by kernel_rfl) (by kernel_rfl) (fun _ _ _ _ _ h => calm_fin (P := Try.prog) (fn := Try.f13) _ _ _ _ _ h) (fun w hs => sat_pulls [0, 0, 0, 0, 0] (G := [] ++ F0) rfl hs) (q_load_el0 0 rfl h78 rfl rfl (by kernel_rfl)) ?_
            obtain ⟨r79, h80, hF⟩ := bind_some hF
            refine aw_only 32 (m' := 8589934591) (by kernel_rfl) (by kernel_rfl) (pw_call (F := [pt b51 #[.int .i64 r44.1.Size, .slice r44_p1 r44.1.Picks.length r44_c2, .slice r44_p4 r44.1.Leaf.length r44_c5, .slice r44_p7 r44.1.Nodes.length r44_c8] 25] ++ F0) rfl rfl rfl rfl rfl rfl rfl (by kernel_rfl) (perm_of_pulls [0, 0, 0, 0] rfl) (c_pledge_Node _ y71 y75 r62.2.2 r62_b1 r62_b3 r21_b1 r79 h80) ?_)
            rintro _ _ ⟨r79_b1, r79_b3, rfl, rfl⟩
            refine nw_H (H' := [imm J59, pt r21_b1 #[.map (some r79_b1), .map (some r79_b3), .string r79.2.twins_.e0, .string r79.2.twins_.e1, .bool r79.2.found_, .bool r79.2.full_, .int .i64 r79.2.sums_] 60, mpo kStr kStr r79_b1 r79.2.table_, mpo kStr kStr r79_b3 r79.2.notes_, pt b51 #[.int .i64 r44.1.Size, .slice r44_p1 r44.1.Picks.length r44_c2, .slice r44_p4 r44.1.Leaf.length r44_c5, .slice r44_p7 r44.1.Nodes.length r44_c8] 25] ++ F0) rfl (aw_last (by kernel_rfl) ?_)
            refine aw_past (by kernel_rfl) ?_
            refine aw_vals [33, 34, 35] (f' := 0) (m' := 68719476735) [0] [(0, .bool (seqB r62.1 r79.1))] (fun _ _ _ _ _ h => calm_fin (P := Try.prog) (fn := Try.f13) _ _ _ _ _ h) (fun _ _ => trivial) rfl (by kernel_rfl) ?_
            refine aw_keep [0] (L' := [(0, .bool (seqB r62.1 r79.1))]) rfl ?_
            refine aw_end (by kernel_rfl) ?_
            refine ew_then ?_
            refine cw_ret ?_
            have hR := Option.some.inj hF
            subst hR
            exact fin1 (H1 := [imm J59]) (fun w hs => sat_to [1, 1, 1, 1, 0] 4 rfl hs) rfl (rr_tmp rfl) ⟨J59, rfl, rfl, (Hl.sub_trans (Hl.sub_trans (Hl.sub_trans (Hl.sub_trans h39 h42) h54) h57) h60)⟩
          · refine aw_slots (L' := [(1, .pointer (some ⟨r21_b1, 0, none⟩)), (2, .slice p34 ([r26.1, r30.1] : List ByteArray).length 2), (5, .string r62.1), (49, .bool false)]) (by rw [h70]) ?_
            refine aw_vals [24, 25, 26, 27, 28, 29, 30, 31] (f' := 4) (m' := 4294967295) [49, 50, 51, 54, 57] [(49, .bool false), (50, undef), (51, undef), (54, undef), (57, undef)] (fun _ _ _ _ _ h => calm_fin (P := Try.prog) (fn := Try.f13) _ _ _ _ _ h) (fun w hs => sat_pulls [0, 0, 0, 0, 0] (G := [] ++ F0) rfl hs) rfl (by kernel_rfl) ?_
            refine aw_only 32 (m' := 8589934591) (by kernel_rfl) (by kernel_rfl) (pw_skip rfl rfl rfl (aw_last (by kernel_rfl) ?_))
            refine aw_past (by kernel_rfl) ?_
            refine aw_vals [33, 34, 35] (f' := 0) (m' := 68719476735) [0] [(0, .bool false)] (fun _ _ _ _ _ h => calm_fin (P := Try.prog) (fn := Try.f13) _ _ _ _ _ h) (fun _ _ => trivial) rfl (by kernel_rfl) ?_
            refine aw_keep [0] (L' := [(0, .bool false)]) rfl ?_
            refine aw_end (by kernel_rfl) ?_
            refine ew_then ?_
            refine cw_ret ?_
            have hR := Option.some.inj hF
            subst hR
            exact fin1 (H1 := [imm J59]) (fun w hs => sat_to [1, 1, 1, 1, 0] 4 rfl hs) rfl (rr_tmp rfl) ⟨J59, rfl, rfl, (Hl.sub_trans (Hl.sub_trans (Hl.sub_trans (Hl.sub_trans h39 h42) h54) h57) h60)⟩
        · refine aw_slots (L' := [(1, .pointer (some ⟨r21_b1, 0, none⟩)), (2, .slice p34 ([r26.1, r30.1] : List ByteArray).length 2), (5, .string r62.1), (44, .bool false)]) (by rw [h69]) ?_
          refine aw_vals [19, 20, 21, 22, 23, 24, 25, 26, 27, 28, 29, 30, 31] (f' := 4) (m' := 4294967295) [49, 50, 51, 54, 57] [(49, .bool false), (50, undef), (51, undef), (54, undef), (57, undef)] (fun _ _ _ _ _ h => calm_fin (P := Try.prog) (fn := Try.f13) _ _ _ _ _ h) (fun w hs => sat_pulls [0, 0, 0, 0, 0] (G := [] ++ F0) rfl hs) rfl (by kernel_rfl) ?_
          refine aw_only 32 (m' := 8589934591) (by kernel_rfl) (by kernel_rfl) (pw_skip rfl rfl rfl (aw_last (by kernel_rfl) ?_))
          refine aw_past (by kernel_rfl) ?_
          refine aw_vals [33, 34, 35] (f' := 0) (m' := 68719476735) [0] [(0, .bool false)] (fun _ _ _ _ _ h => calm_fin (P := Try.prog) (fn := Try.f13) _ _ _ _ _ h) (fun _ _ => trivial) rfl (by kernel_rfl) ?_
          refine aw_keep [0] (L' := [(0, .bool false)]) rfl ?_
          refine aw_end (by kernel_rfl) ?_
          refine ew_then ?_
          refine cw_ret ?_
          have hR := Option.some.inj hF
          subst hR
          exact fin1 (H1 := [imm J59]) (fun w hs => sat_to [1, 1, 1, 1, 0] 4 rfl hs) rfl (rr_tmp rfl) ⟨J59, rfl, rfl, (Hl.sub_trans (Hl.sub_trans (Hl.sub_trans (Hl.sub_trans h39 h42) h54) h57) h60)⟩
      · refine aw_slots (L' := [(1, .pointer (some ⟨r21_b1, 0, none⟩)), (2, .slice p34 ([r26.1, r30.1] : List ByteArray).length 2), (5, .string r62.1), (6, .int .i64 r62.2.1), (40, .bool false)]) (by rw [h68]) ?_
        refine aw_vals [15, 16, 17, 18, 19, 20, 21, 22, 23, 24, 25, 26, 27, 28, 29, 30, 31] (f' := 4) (m' := 4294967295) [49, 50, 51, 54, 57] [(49, .bool false), (50, undef), (51, undef), (54, undef), (57, undef)] (fun _ _ _ _ _ h => calm_fin (P := Try.prog) (fn := Try.f13) _ _ _ _ _ h) (fun w hs => sat_pulls [0, 0, 0, 0, 0] (G := [] ++ F0) rfl hs) rfl (by kernel_rfl) ?_
        refine aw_only 32 (m' := 8589934591) (by kernel_rfl) (by kernel_rfl) (pw_skip rfl rfl rfl (aw_last (by kernel_rfl) ?_))
        refine aw_past (by kernel_rfl) ?_
        refine aw_vals [33, 34, 35] (f' := 0) (m' := 68719476735) [0] [(0, .bool false)] (fun _ _ _ _ _ h => calm_fin (P := Try.prog) (fn := Try.f13) _ _ _ _ _ h) (fun _ _ => trivial) rfl (by kernel_rfl) ?_
        refine aw_keep [0] (L' := [(0, .bool false)]) rfl ?_
        refine aw_end (by kernel_rfl) ?_
        refine ew_then ?_
        refine cw_ret ?_
        have hR := Option.some.inj hF
        subst hR
        exact fin1 (H1 := [imm J59]) (fun w hs => sat_to [1, 1, 1, 1, 0] 4 rfl hs) rfl (rr_tmp rfl) ⟨J59, rfl, rfl, (Hl.sub_trans (Hl.sub_trans (Hl.sub_trans (Hl.sub_trans h39 h42) h54) h57) h60)⟩
    · refine aw_slots (L' := [(1, .pointer (some ⟨r21_b1, 0, none⟩)), (2, .slice p34 ([r26.1, r30.1] : List ByteArray).length 2), (3, .pointer (some ⟨b51, 0, none⟩)), (5, .string r62.1), (6, .int .i64 r62.2.1), (34, .bool false)]) (by rw [h67]) ?_
      refine aw_vals [9, 10, 11, 12, 13, 14, 15, 16, 17, 18, 19, 20, 21, 22, 23, 24, 25, 26, 27, 28, 29, 30, 31] (f' := 4) (m' := 4294967295) [49, 50, 51, 54, 57] [(49, .bool false), (50, undef), (51, undef), (54, undef), (57, undef)] (fun _ _ _ _ _ h => calm_fin (P := Try.prog) (fn := Try.f13) _ _ _ _ _ h) (fun w hs => sat_pulls [0, 0, 0, 0, 0] (G := [] ++ F0) rfl hs) rfl (by kernel_rfl) ?_
      refine aw_only 32 (m' := 8589934591) (by kernel_rfl) (by kernel_rfl) (pw_skip rfl rfl rfl (aw_last (by kernel_rfl) ?_))
      refine aw_past (by kernel_rfl) ?_
      refine aw_vals [33, 34, 35] (f' := 0) (m' := 68719476735) [0] [(0, .bool false)] (fun _ _ _ _ _ h => calm_fin (P := Try.prog) (fn := Try.f13) _ _ _ _ _ h) (fun _ _ => trivial) rfl (by kernel_rfl) ?_
      refine aw_keep [0] (L' := [(0, .bool false)]) rfl ?_
      refine aw_end (by kernel_rfl) ?_
      refine ew_then ?_
      refine cw_ret ?_
      have hR := Option.some.inj hF
      subst hR
      exact fin1 (H1 := [imm J59]) (fun w hs => sat_to [1, 1, 1, 1, 0] 4 rfl hs) rfl (rr_tmp rfl) ⟨J59, rfl, rfl, (Hl.sub_trans (Hl.sub_trans (Hl.sub_trans (Hl.sub_trans h39 h42) h54) h57) h60)⟩
  · refine aw_slots (L' := [(1, .pointer (some ⟨r21_b1, 0, none⟩)), (2, .slice p34 ([r26.1, r30.1] : List ByteArray).length 2), (3, .pointer (some ⟨b51, 0, none⟩)), (5, .string r62.1), (6, .int .i64 r62.2.1), (28, .bool false)]) (by rw [h66]) ?_
    refine aw_vals [3, 4, 5, 6, 7, 8, 9, 10, 11, 12, 13, 14, 15, 16, 17, 18, 19, 20, 21, 22, 23, 24, 25, 26, 27, 28, 29, 30, 31] (f' := 4) (m' := 4294967295) [49, 50, 51, 54, 57] [(49, .bool false), (50, undef), (51, undef), (54, undef), (57, undef)] (fun _ _ _ _ _ h => calm_fin (P := Try.prog) (fn := Try.f13) _ _ _ _ _ h) (fun w hs => sat_pulls [0, 0, 0, 0, 0] (G := [] ++ F0) rfl hs) rfl (by kernel_rfl) ?_
    refine aw_only 32 (m' := 8589934591) (by kernel_rfl) (by kernel_rfl) (pw_skip rfl rfl rfl (aw_last (by kernel_rfl) ?_))
    refine aw_past (by kernel_rfl) ?_
    refine aw_vals [33, 34, 35] (f' := 0) (m' := 68719476735) [0] [(0, .bool false)] (fun _ _ _ _ _ h => calm_fin (P := Try.prog) (fn := Try.f13) _ _ _ _ _ h) (fun _ _ => trivial) rfl (by kernel_rfl) ?_
    refine aw_keep [0] (L' := [(0, .bool false)]) rfl ?_
    refine aw_end (by kernel_rfl) ?_
    refine ew_then ?_
    refine cw_ret ?_
    have hR := Option.some.inj hF
    subst hR
    exact fin1 (H1 := [imm J59]) (fun w hs => sat_to [1, 1, 1, 1, 0] 4 rfl hs) rfl (rr_tmp rfl) ⟨J59, rfl, rfl, (Hl.sub_trans (Hl.sub_trans (Hl.sub_trans (Hl.sub_trans h39 h42) h54) h57) h60)⟩


def F.law30_few.r1 (x0 : batch_Proof) (l31 : List Int) : Option (batch_Proof) :=
  if decide ((x0.Leaf.length : Int) > 70) then (chk (0 ≤ (0 : Int) ∧ (0 : Int) ≤ (70 : Int) ∧ (70 : Int) ≤ (x0.Leaf.length : Int)) (if decide ((x0.Nodes.length : Int) > 70) then (chk (0 ≤ (0 : Int) ∧ (0 : Int) ≤ (70 : Int) ∧ (70 : Int) ≤ (x0.Nodes.length : Int)) (some ((⟨x0.Size, l31, (x0.Leaf.drop (0 : Int).toNat).take ((70 : Int).toNat - (0 : Int).toNat), (x0.Nodes.drop (0 : Int).toNat).take ((70 : Int).toNat - (0 : Int).toNat)⟩ : batch_Proof)))) else (some ((⟨x0.Size, l31, (x0.Leaf.drop (0 : Int).toNat).take ((70 : Int).toNat - (0 : Int).toNat), x0.Nodes⟩ : batch_Proof))))) else (if decide ((x0.Nodes.length : Int) > 70) then (chk (0 ≤ (0 : Int) ∧ (0 : Int) ≤ (70 : Int) ∧ (70 : Int) ≤ (x0.Nodes.length : Int)) (some ((⟨x0.Size, l31, x0.Leaf, (x0.Nodes.drop (0 : Int).toNat).take ((70 : Int).toNat - (0 : Int).toNat)⟩ : batch_Proof)))) else (some ((⟨x0.Size, l31, x0.Leaf, x0.Nodes⟩ : batch_Proof))))
def F.law30_few (x0 : batch_Proof) : Option batch_Proof :=
  Option.bind (if decide ((x0.Picks.length : Int) > 70) then (chk (0 ≤ (0 : Int) ∧ (0 : Int) ≤ (70 : Int) ∧ (70 : Int) ≤ (x0.Picks.length : Int)) (some (((x0.Picks.drop (0 : Int).toNat).take ((70 : Int).toNat - (0 : Int).toNat))))) else (some (x0.Picks))) (fun x => F.law30_few.r1 x0 x)
set_option maxRecDepth 100000 in
set_option maxHeartbeats 4000000 in
theorem c_law30_few (I : Hl) (x0 : batch_Proof) (p0 : Option Addr) (c0 : Nat) (p1 : Option Addr) (c1 : Nat) (p2 : Option Addr) (c2 : Nat) (res : batch_Proof) (hF : F.law30_few x0 = some res) (hr0 : ro I (eInt .i64) p0 c0 x0.Picks) (hr1 : ro I eStr p1 c1 x0.Leaf) (hr2 : ro I eStr p2 c2 x0.Nodes) : Tr Try.prog 8 [.agg #[.int .i64 x0.Size, .slice p0 x0.Picks.length c0, .slice p1 x0.Leaf.length c1, .slice p2 x0.Nodes.length c2]] [imm I] (fun r H' => ∃ (p1 : Option Addr), ∃ (c2 : Nat), ∃ (p4 : Option Addr), ∃ (c5 : Nat), ∃ (p7 : Option Addr), ∃ (c8 : Nat), r = .agg #[.int .i64 res.Size, .slice p1 res.Picks.length c2, .slice p4 res.Leaf.length c5, .slice p7 res.Nodes.length c8] ∧ H' = [imm I] ∧ ro I (eInt .i64) p1 c2 res.Picks ∧ ro I eStr p4 c5 res.Leaf ∧ ro I eStr p7 c8 res.Nodes) := by
  unfold F.law30_few at hF
  refine tr_of_cw (fn := Try.f8) Try.func8 rfl (Nat.le_of_ble_eq_true rfl) 28 rfl fun F0 w0 => ?_
  refine cw_keep [0] (L' := [(0, .agg #[.int .i64 x0.Size, .slice p0 x0.Picks.length c0, .slice p1 x0.Leaf.length c1, .slice p2 x0.Nodes.length c2])]) rfl ?_
  refine cw_state (S' := SAT w0 ([imm I] ++ F0)) (fun w hs => hs) ?_
  refine cw_seq ?_
  refine cw_region ?_
  refine ow_pw rfl (pw_box (cs := #[.int .i64 x0.Size, .slice p0 x0.Picks.length c0, .slice p1 x0.Leaf.length c1, .slice p2 x0.Nodes.length c2]) rfl rfl rfl rfl rfl rfl fun b21 => nw_ow ?_)
  refine ow_pw rfl (pw_alloc (cs := #[.int .i64 0, .slice none 0 0, .slice none 0 0, .slice none 0 0]) rfl rfl rfl rfl rfl (by kernel_rfl) fun b23 => nw_ow ?_)
  refine ow_end rfl ?_
  refine ew_then ?_
  obtain ⟨v25, hF, hK25⟩ := bind_some hF
  refine cw_mid (fun a w => ∃ (l31 : List Int), ∃ (p32 : Option Addr), ∃ (c33 : Nat), l31 = v25 ∧ ro I (eInt .i64) p32 c33 l31 ∧ Fr 28 [(1, .pointer (some ⟨b21, 0, none⟩)), (2, .pointer (some ⟨b23, 0, none⟩))] a ∧ SAT w0 ([imm I, pt b23 #[.int .i64 0, .slice none 0 0, .slice none 0 0, .slice none 0 0] 25, pt b21 #[.int .i64 x0.Size, .slice p32 l31.length c33, .slice p1 x0.Leaf.length c1, .slice p2 x0.Nodes.length c2] 25] ++ F0) w) ?_ ?_
  · refine cw_seq ?_
    refine cw_region ?_
    refine ow_vals 1 (j := 1) [1, 2, 3] [(1, .pointer (some ⟨b21, 0, none⟩)), (2, .pointer (some ⟨b23, 0, none⟩)), (3, .pointer (some ⟨b21, 1, none⟩))] rfl (by kernel_rfl) ?_
    refine ow_pw rfl (pw_quiet (v := .slice p0 x0.Picks.length c0) rfl rfl rfl rfl (q_load 1 rfl rfl rfl (by kernel_rfl)) (nw_ow ?_))
    refine ow_vals 2 (j := 4) [1, 2, 6] [(1, .pointer (some ⟨b21, 0, none⟩)), (2, .pointer (some ⟨b23, 0, none⟩)), (6, .bool (decide ((x0.Picks.length : Int) > 70)))] rfl (by kernel_rfl) ?_
    refine ow_end rfl ?_
    refine ew_then ?_
    rcases if_some hF with ⟨h26, hF⟩ | ⟨h26, hF⟩
    · refine cw_cond_t rfl rfl h26 ?_
      refine cw_region ?_
      refine ow_vals 1 (j := 1) [1, 2, 7] [(1, .pointer (some ⟨b21, 0, none⟩)), (2, .pointer (some ⟨b23, 0, none⟩)), (7, .pointer (some ⟨b21, 1, none⟩))] rfl (by kernel_rfl) ?_
      refine ow_pw rfl (pw_quiet (v := .slice p0 x0.Picks.length c0) rfl rfl rfl rfl (q_load 1 rfl rfl rfl (by kernel_rfl)) (nw_ow ?_))
      obtain ⟨h27, hF⟩ := chk_some hF
      refine ow_pw rfl (pw_slice_ro (E := 3) 1 hr0 rfl rfl rfl rfl rfl (by kernel_rfl) rfl rfl rfl rfl h27 fun p28 c29 h30 => nw_ow ?_)
      refine ow_vals 1 (j := 4) [1, 2, 9, 10] [(1, .pointer (some ⟨b21, 0, none⟩)), (2, .pointer (some ⟨b23, 0, none⟩)), (9, .slice p28 ((x0.Picks.drop (0 : Int).toNat).take ((70 : Int).toNat - (0 : Int).toNat)).length c29), (10, .pointer (some ⟨b21, 1, none⟩))] rfl (by kernel_rfl) ?_
      refine ow_pw rfl (pw_store 1 #[.int .i64 x0.Size, .slice p28 ((x0.Picks.drop (0 : Int).toNat).take ((70 : Int).toNat - (0 : Int).toNat)).length c29, .slice p1 x0.Leaf.length c1, .slice p2 x0.Nodes.length c2] rfl rfl rfl rfl rfl rfl rfl (by kernel_rfl) (nw_H (H' := [pt b23 #[.int .i64 0, .slice none 0 0, .slice none 0 0, .slice none 0 0] 25, pt b21 #[.int .i64 x0.Size, .slice p28 ((x0.Picks.drop (0 : Int).toNat).take ((70 : Int).toNat - (0 : Int).toNat)).length c29, .slice p1 x0.Leaf.length c1, .slice p2 x0.Nodes.length c2] 25, imm I] ++ F0) rfl (nw_ow ?_)))
      refine ow_end rfl ?_
      have hR := Option.some.inj hF
      exact fun a w hf hs => ⟨(x0.Picks.drop (0 : Int).toNat).take ((70 : Int).toNat - (0 : Int).toNat), p28, c29, hR, h30, hf.keep [1, 2], sat_to [2, 0, 0] 0 rfl hs⟩
    · refine cw_cond_f rfl rfl h26 ?_
      refine cw_skip ?_
      have hR := Option.some.inj hF
      exact fun a w hf hs => ⟨x0.Picks, p0, c0, hR, hr0, hf.keep [1, 2], sat_to [2, 0, 0] 0 rfl hs⟩
  · rintro a w ⟨l31, p32, c33, hv, h34, hf, hs⟩
    subst hv
    replace hF := hK25
    clear hK25
    try dsimp only at hF
    revert a w
    show CW _ _ _ 28 [(1, .pointer (some ⟨b21, 0, none⟩)), (2, .pointer (some ⟨b23, 0, none⟩))] (SAT w0 ([imm I, pt b23 #[.int .i64 0, .slice none 0 0, .slice none 0 0, .slice none 0 0] 25, pt b21 #[.int .i64 x0.Size, .slice p32 l31.length c33, .slice p1 x0.Leaf.length c1, .slice p2 x0.Nodes.length c2] 25] ++ F0))
    unfold F.law30_few.r1 at hF
    refine cw_seq ?_
    refine cw_seq ?_
    refine cw_region ?_
    refine ow_vals 1 (j := 1) [1, 2, 11] [(1, .pointer (some ⟨b21, 0, none⟩)), (2, .pointer (some ⟨b23, 0, none⟩)), (11, .pointer (some ⟨b21, 2, none⟩))] rfl (by kernel_rfl) ?_
    refine ow_pw rfl (pw_quiet (v := .slice p1 x0.Leaf.length c1) rfl rfl rfl rfl (q_load 2 rfl rfl rfl (by kernel_rfl)) (nw_ow ?_))
    refine ow_vals 2 (j := 4) [1, 2, 14] [(1, .pointer (some ⟨b21, 0, none⟩)), (2, .pointer (some ⟨b23, 0, none⟩)), (14, .bool (decide ((x0.Leaf.length : Int) > 70)))] rfl (by kernel_rfl) ?_
    refine ow_end rfl ?_
    refine ew_then ?_
    rcases if_some hF with ⟨h35, hF⟩ | ⟨h35, hF⟩
    · refine cw_cond_t rfl rfl h35 ?_
      refine cw_region ?_
      refine ow_vals 1 (j := 1) [1, 2, 15] [(1, .pointer (some ⟨b21, 0, none⟩)), (2, .pointer (some ⟨b23, 0, none⟩)), (15, .pointer (some ⟨b21, 2, none⟩))] rfl (by kernel_rfl) ?_
      refine ow_pw rfl (pw_quiet (v := .slice p1 x0.Leaf.length c1) rfl rfl rfl rfl (q_load 2 rfl rfl rfl (by kernel_rfl)) (nw_ow ?_))
      obtain ⟨h36, hF⟩ := chk_some hF
      refine ow_pw rfl (pw_slice_ro (E := 9) 1 hr1 rfl rfl rfl rfl rfl (by kernel_rfl) rfl rfl rfl rfl h36 fun p37 c38 h39 => nw_ow ?_)
      refine ow_vals 1 (j := 4) [1, 2, 17, 18] [(1, .pointer (some ⟨b21, 0, none⟩)), (2, .pointer (some ⟨b23, 0, none⟩)), (17, .slice p37 ((x0.Leaf.drop (0 : Int).toNat).take ((70 : Int).toNat - (0 : Int).toNat)).length c38), (18, .pointer (some ⟨b21, 2, none⟩))] rfl (by kernel_rfl) ?_
      refine ow_pw rfl (pw_store 2 #[.int .i64 x0.Size, .slice p32 l31.length c33, .slice p37 ((x0.Leaf.drop (0 : Int).toNat).take ((70 : Int).toNat - (0 : Int).toNat)).length c38, .slice p2 x0.Nodes.length c2] rfl rfl rfl rfl rfl rfl rfl (by kernel_rfl) (nw_H (H' := [imm I, pt b23 #[.int .i64 0, .slice none 0 0, .slice none 0 0, .slice none 0 0] 25, pt b21 #[.int .i64 x0.Size, .slice p32 l31.length c33, .slice p37 ((x0.Leaf.drop (0 : Int).toNat).take ((70 : Int).toNat - (0 : Int).toNat)).length c38, .slice p2 x0.Nodes.length c2] 25] ++ F0) rfl (nw_ow ?_)))
      refine ow_end rfl ?_
      refine ew_then ?_
      refine cw_seq ?_
      refine cw_seq ?_
      refine cw_region ?_
      refine ow_vals 1 (j := 1) [1, 2, 19] [(1, .pointer (some ⟨b21, 0, none⟩)), (2, .pointer (some ⟨b23, 0, none⟩)), (19, .pointer (some ⟨b21, 3, none⟩))] rfl (by kernel_rfl) ?_
      refine ow_pw rfl (pw_quiet (v := .slice p2 x0.Nodes.length c2) rfl rfl rfl rfl (q_load 2 rfl rfl rfl (by kernel_rfl)) (nw_ow ?_))
      refine ow_vals 2 (j := 4) [1, 2, 22] [(1, .pointer (some ⟨b21, 0, none⟩)), (2, .pointer (some ⟨b23, 0, none⟩)), (22, .bool (decide ((x0.Nodes.length : Int) > 70)))] rfl (by kernel_rfl) ?_
      refine ow_end rfl ?_
      refine ew_then ?_
      rcases if_some hF with ⟨h40, hF⟩ | ⟨h40, hF⟩
      · refine cw_cond_t rfl rfl h40 ?_
        refine cw_region ?_
        refine ow_vals 1 (j := 1) [1, 2, 23] [(1, .pointer (some ⟨b21, 0, none⟩)), (2, .pointer (some ⟨b23, 0, none⟩)), (23, .pointer (some ⟨b21, 3, none⟩))] rfl (by kernel_rfl) ?_
        refine ow_pw rfl (pw_quiet (v := .slice p2 x0.Nodes.length c2) rfl rfl rfl rfl (q_load 2 rfl rfl rfl (by kernel_rfl)) (nw_ow ?_))
        obtain ⟨h41, hF⟩ := chk_some hF
        refine ow_pw rfl (pw_slice_ro (E := 9) 1 hr2 rfl rfl rfl rfl rfl (by kernel_rfl) rfl rfl rfl rfl h41 fun p42 c43 h44 => nw_ow ?_)
        refine ow_vals 1 (j := 4) [1, 2, 25, 26] [(1, .pointer (some ⟨b21, 0, none⟩)), (2, .pointer (some ⟨b23, 0, none⟩)), (25, .slice p42 ((x0.Nodes.drop (0 : Int).toNat).take ((70 : Int).toNat - (0 : Int).toNat)).length c43), (26, .pointer (some ⟨b21, 3, none⟩))] rfl (by kernel_rfl) ?_
        refine ow_pw rfl (pw_store 2 #[.int .i64 x0.Size, .slice p32 l31.length c33, .slice p37 ((x0.Leaf.drop (0 : Int).toNat).take ((70 : Int).toNat - (0 : Int).toNat)).length c38, .slice p42 ((x0.Nodes.drop (0 : Int).toNat).take ((70 : Int).toNat - (0 : Int).toNat)).length c43] rfl rfl rfl rfl rfl rfl rfl (by kernel_rfl) (nw_H (H' := [imm I, pt b23 #[.int .i64 0, .slice none 0 0, .slice none 0 0, .slice none 0 0] 25, pt b21 #[.int .i64 x0.Size, .slice p32 l31.length c33, .slice p37 ((x0.Leaf.drop (0 : Int).toNat).take ((70 : Int).toNat - (0 : Int).toNat)).length c38, .slice p42 ((x0.Nodes.drop (0 : Int).toNat).take ((70 : Int).toNat - (0 : Int).toNat)).length c43] 25] ++ F0) rfl (nw_ow ?_)))
        refine ow_end rfl ?_
        refine ew_then ?_
        refine cw_seq ?_
        refine cw_region ?_
        refine ow_pw rfl (pw_quiet (v := .agg #[.int .i64 x0.Size, .slice p32 l31.length c33, .slice p37 ((x0.Leaf.drop (0 : Int).toNat).take ((70 : Int).toNat - (0 : Int).toNat)).length c38, .slice p42 ((x0.Nodes.drop (0 : Int).toNat).take ((70 : Int).toNat - (0 : Int).toNat)).length c43]) rfl rfl rfl rfl (q_load 2 rfl rfl rfl (by kernel_rfl)) (nw_ow ?_))
        refine ow_pw rfl (pw_store 1 #[.int .i64 x0.Size, .slice p32 l31.length c33, .slice p37 ((x0.Leaf.drop (0 : Int).toNat).take ((70 : Int).toNat - (0 : Int).toNat)).length c38, .slice p42 ((x0.Nodes.drop (0 : Int).toNat).take ((70 : Int).toNat - (0 : Int).toNat)).length c43] rfl rfl rfl rfl rfl rfl rfl (by kernel_rfl) (nw_H (H' := [imm I, pt b23 #[.int .i64 x0.Size, .slice p32 l31.length c33, .slice p37 ((x0.Leaf.drop (0 : Int).toNat).take ((70 : Int).toNat - (0 : Int).toNat)).length c38, .slice p42 ((x0.Nodes.drop (0 : Int).toNat).take ((70 : Int).toNat - (0 : Int).toNat)).length c43] 25, pt b21 #[.int .i64 x0.Size, .slice p32 l31.length c33, .slice p37 ((x0.Leaf.drop (0 : Int).toNat).take ((70 : Int).toNat - (0 : Int).toNat)).length c38, .slice p42 ((x0.Nodes.drop (0 : Int).toNat).take ((70 : Int).toNat - (0 : Int).toNat)).length c43] 25] ++ F0) rfl (nw_ow ?_)))
        refine ow_end rfl ?_
        refine ew_then ?_
        refine cw_ret ?_
        have hR := Option.some.inj hF
        subst hR
        exact fin1 (H1 := [imm I]) (fun w hs => sat_to [1, 1, 0] 2 rfl hs) rfl (rr_cell 1 rfl rfl (by kernel_rfl)) ⟨p32, c33, p37, c38, p42, c43, rfl, rfl, h34, h39, h44⟩
      · refine cw_cond_f rfl rfl h40 ?_
        refine cw_skip ?_
        refine ew_then ?_
        refine cw_seq ?_
        refine cw_region ?_
        refine ow_pw rfl (pw_quiet (v := .agg #[.int .i64 x0.Size, .slice p32 l31.length c33, .slice p37 ((x0.Leaf.drop (0 : Int).toNat).take ((70 : Int).toNat - (0 : Int).toNat)).length c38, .slice p2 x0.Nodes.length c2]) rfl rfl rfl rfl (q_load 2 rfl rfl rfl (by kernel_rfl)) (nw_ow ?_))
        refine ow_pw rfl (pw_store 1 #[.int .i64 x0.Size, .slice p32 l31.length c33, .slice p37 ((x0.Leaf.drop (0 : Int).toNat).take ((70 : Int).toNat - (0 : Int).toNat)).length c38, .slice p2 x0.Nodes.length c2] rfl rfl rfl rfl rfl rfl rfl (by kernel_rfl) (nw_H (H' := [imm I, pt b23 #[.int .i64 x0.Size, .slice p32 l31.length c33, .slice p37 ((x0.Leaf.drop (0 : Int).toNat).take ((70 : Int).toNat - (0 : Int).toNat)).length c38, .slice p2 x0.Nodes.length c2] 25, pt b21 #[.int .i64 x0.Size, .slice p32 l31.length c33, .slice p37 ((x0.Leaf.drop (0 : Int).toNat).take ((70 : Int).toNat - (0 : Int).toNat)).length c38, .slice p2 x0.Nodes.length c2] 25] ++ F0) rfl (nw_ow ?_)))
        refine ow_end rfl ?_
        refine ew_then ?_
        refine cw_ret ?_
        have hR := Option.some.inj hF
        subst hR
        exact fin1 (H1 := [imm I]) (fun w hs => sat_to [1, 1, 0] 2 rfl hs) rfl (rr_cell 1 rfl rfl (by kernel_rfl)) ⟨p32, c33, p37, c38, p2, c2, rfl, rfl, h34, h39, hr2⟩
    · refine cw_cond_f rfl rfl h35 ?_
      refine cw_skip ?_
      refine ew_then ?_
      refine cw_seq ?_
      refine cw_seq ?_
      refine cw_region ?_
      refine ow_vals 1 (j := 1) [1, 2, 19] [(1, .pointer (some ⟨b21, 0, none⟩)), (2, .pointer (some ⟨b23, 0, none⟩)), (19, .pointer (some ⟨b21, 3, none⟩))] rfl (by kernel_rfl) ?_
      refine ow_pw rfl (pw_quiet (v := .slice p2 x0.Nodes.length c2) rfl rfl rfl rfl (q_load 2 rfl rfl rfl (by kernel_rfl)) (nw_ow ?_))
      refine ow_vals 2 (j := 4) [1, 2, 22] [(1, .pointer (some ⟨b21, 0, none⟩)), (2, .pointer (some ⟨b23, 0, none⟩)), (22, .bool (decide ((x0.Nodes.length : Int) > 70)))] rfl (by kernel_rfl) ?_
      refine ow_end rfl ?_
      refine ew_then ?_
      rcases if_some hF with ⟨h45, hF⟩ | ⟨h45, hF⟩
      · refine cw_cond_t rfl rfl h45 ?_
        refine cw_region ?_
        refine ow_vals 1 (j := 1) [1, 2, 23] [(1, .pointer (some ⟨b21, 0, none⟩)), (2, .pointer (some ⟨b23, 0, none⟩)), (23, .pointer (some ⟨b21, 3, none⟩))] rfl (by kernel_rfl) ?_
        refine ow_pw rfl (pw_quiet (v := .slice p2 x0.Nodes.length c2) rfl rfl rfl rfl (q_load 2 rfl rfl rfl (by kernel_rfl)) (nw_ow ?_))
        obtain ⟨h46, hF⟩ := chk_some hF
        refine ow_pw rfl (pw_slice_ro (E := 9) 1 hr2 rfl rfl rfl rfl rfl (by kernel_rfl) rfl rfl rfl rfl h46 fun p47 c48 h49 => nw_ow ?_)
        refine ow_vals 1 (j := 4) [1, 2, 25, 26] [(1, .pointer (some ⟨b21, 0, none⟩)), (2, .pointer (some ⟨b23, 0, none⟩)), (25, .slice p47 ((x0.Nodes.drop (0 : Int).toNat).take ((70 : Int).toNat - (0 : Int).toNat)).length c48), (26, .pointer (some ⟨b21, 3, none⟩))] rfl (by kernel_rfl) ?_
        refine ow_pw rfl (pw_store 2 #[.int .i64 x0.Size, .slice p32 l31.length c33, .slice p1 x0.Leaf.length c1, .slice p47 ((x0.Nodes.drop (0 : Int).toNat).take ((70 : Int).toNat - (0 : Int).toNat)).length c48] rfl rfl rfl rfl rfl rfl rfl (by kernel_rfl) (nw_H (H' := [imm I, pt b23 #[.int .i64 0, .slice none 0 0, .slice none 0 0, .slice none 0 0] 25, pt b21 #[.int .i64 x0.Size, .slice p32 l31.length c33, .slice p1 x0.Leaf.length c1, .slice p47 ((x0.Nodes.drop (0 : Int).toNat).take ((70 : Int).toNat - (0 : Int).toNat)).length c48] 25] ++ F0) rfl (nw_ow ?_)))
        refine ow_end rfl ?_
        refine ew_then ?_
        refine cw_seq ?_
        refine cw_region ?_
        refine ow_pw rfl (pw_quiet (v := .agg #[.int .i64 x0.Size, .slice p32 l31.length c33, .slice p1 x0.Leaf.length c1, .slice p47 ((x0.Nodes.drop (0 : Int).toNat).take ((70 : Int).toNat - (0 : Int).toNat)).length c48]) rfl rfl rfl rfl (q_load 2 rfl rfl rfl (by kernel_rfl)) (nw_ow ?_))
        refine ow_pw rfl (pw_store 1 #[.int .i64 x0.Size, .slice p32 l31.length c33, .slice p1 x0.Leaf.length c1, .slice p47 ((x0.Nodes.drop (0 : Int).toNat).take ((70 : Int).toNat - (0 : Int).toNat)).length c48] rfl rfl rfl rfl rfl rfl rfl (by kernel_rfl) (nw_H (H' := [imm I, pt b23 #[.int .i64 x0.Size, .slice p32 l31.length c33, .slice p1 x0.Leaf.length c1, .slice p47 ((x0.Nodes.drop (0 : Int).toNat).take ((70 : Int).toNat - (0 : Int).toNat)).length c48] 25, pt b21 #[.int .i64 x0.Size, .slice p32 l31.length c33, .slice p1 x0.Leaf.length c1, .slice p47 ((x0.Nodes.drop (0 : Int).toNat).take ((70 : Int).toNat - (0 : Int).toNat)).length c48] 25] ++ F0) rfl (nw_ow ?_)))
        refine ow_end rfl ?_
        refine ew_then ?_
        refine cw_ret ?_
        have hR := Option.some.inj hF
        subst hR
        exact fin1 (H1 := [imm I]) (fun w hs => sat_to [1, 1, 0] 2 rfl hs) rfl (rr_cell 1 rfl rfl (by kernel_rfl)) ⟨p32, c33, p1, c1, p47, c48, rfl, rfl, h34, hr1, h49⟩
      · refine cw_cond_f rfl rfl h45 ?_
        refine cw_skip ?_
        refine ew_then ?_
        refine cw_seq ?_
        refine cw_region ?_
        refine ow_pw rfl (pw_quiet (v := .agg #[.int .i64 x0.Size, .slice p32 l31.length c33, .slice p1 x0.Leaf.length c1, .slice p2 x0.Nodes.length c2]) rfl rfl rfl rfl (q_load 2 rfl rfl rfl (by kernel_rfl)) (nw_ow ?_))
        refine ow_pw rfl (pw_store 1 #[.int .i64 x0.Size, .slice p32 l31.length c33, .slice p1 x0.Leaf.length c1, .slice p2 x0.Nodes.length c2] rfl rfl rfl rfl rfl rfl rfl (by kernel_rfl) (nw_H (H' := [imm I, pt b23 #[.int .i64 x0.Size, .slice p32 l31.length c33, .slice p1 x0.Leaf.length c1, .slice p2 x0.Nodes.length c2] 25, pt b21 #[.int .i64 x0.Size, .slice p32 l31.length c33, .slice p1 x0.Leaf.length c1, .slice p2 x0.Nodes.length c2] 25] ++ F0) rfl (nw_ow ?_)))
        refine ow_end rfl ?_
        refine ew_then ?_
        refine cw_ret ?_
        have hR := Option.some.inj hF
        subst hR
        exact fin1 (H1 := [imm I]) (fun w hs => sat_to [1, 1, 0] 2 rfl hs) rfl (rr_cell 1 rfl rfl (by kernel_rfl)) ⟨p32, c33, p1, c1, p2, c2, rfl, rfl, h34, hr1, hr2⟩


def F.law30_some.l1 (x0 : List Int) (x1 : Int) (x2 : Int) (x23 : Int) : Option ((Int) ⊕ ((Unit) ⊕ (Bool))) :=
  if decide (x23 < (x0.length : Int)) then (Option.bind (at_ x0 x23) (fun (y25 : Int) => if decide (y25 ≥ x1) then (Option.bind (at_ x0 x23) (fun (y30 : Int) => if decide (y30 < (IntKind.i64.wrap (x1 + x2))) then (some (.inr (.inr (true)))) else (some (.inl (IntKind.i64.wrap (x23 + 1)))))) else (some (.inl (IntKind.i64.wrap (x23 + 1)))))) else (some (.inr (.inl ())))
def F.law30_some.r2 : Option (Bool) :=
  some (false)
def F.law30_some (x0 : List Int) (x1 : Int) (x2 : Int) : Option Bool :=
  thru (iter (fun x => F.law30_some.l1 x0 x1 x2 x) FUEL 0) (fun x => F.law30_some.r2)
set_option maxRecDepth 100000 in
set_option maxHeartbeats 4000000 in
theorem c_law30_some (I : Hl) (x0 : List Int) (x1 : Int) (x2 : Int) (p0 : Option Addr) (c0 : Nat) (res : Bool) (hF : F.law30_some x0 x1 x2 = some res) (hr0 : ro I (eInt .i64) p0 c0 x0) : Tr Try.prog 32 [.slice p0 x0.length c0, .int .i64 x1, .int .i64 x2] [imm I] (fun r H' => r = .bool res ∧ H' = [imm I]) := by
  unfold F.law30_some at hF
  refine tr_of_cw (fn := Try.f32) Try.func32 rfl (Nat.le_of_ble_eq_true rfl) 30 rfl fun F0 w0 => ?_
  refine cw_keep [0, 1, 2] (L' := [(0, .slice p0 x0.length c0), (1, .int .i64 x1), (2, .int .i64 x2)]) rfl ?_
  refine cw_state (S' := SAT w0 ([imm I] ++ F0)) (fun w hs => hs) ?_
  refine cw_seq ?_
  refine cw_region ?_
  refine ow_vals 1 (j := 1) [0, 1, 2] [(0, .slice p0 x0.length c0), (1, .int .i64 x1), (2, .int .i64 x2)] rfl (by kernel_rfl) ?_
  refine ow_end rfl ?_
  refine ew_then ?_
  obtain ⟨v21, hF, hK21⟩ := thru_some hF
  refine cw_mid (fun a w => .inl () = v21 ∧ Fr 30 [] a ∧ SAT w0 ([imm I] ++ F0) w) ?_ ?_
  · refine cw_seq ?_
    refine cw_region ?_
    refine ow_vals 1 (j := 1) [0, 1, 2, 7] [(0, .slice p0 x0.length c0), (1, .int .i64 x1), (2, .int .i64 x2), (7, .int .i64 0)] rfl (by kernel_rfl) ?_
    refine ow_end rfl ?_
    refine ew_then ?_
    refine cw_block ?_
    refine fun a w hf hs => wp_rounds (fun k a w => ∃ (x23 : Int), iter (fun x => F.law30_some.l1 x0 x1 x2 x) k x23 = some v21 ∧ Fr 30 [(0, .slice p0 x0.length c0), (1, .int .i64 x1), (2, .int .i64 x2), (7, .int .i64 x23)] a ∧ SAT w0 ([imm I] ++ F0) w) ?_ FUEL a w ⟨0, hF, hf.keep [0, 1, 2, 7], sat_to [0] 0 rfl hs⟩
    clear hf hs
    clear a w hF
    rintro k a w ⟨x23, hF2, hf, hs⟩
    obtain ⟨k, r22, rfl, hF, hL22⟩ := iter_some hF2
    clear hF2
    revert a w
    show CW _ _ _ 30 [(0, .slice p0 x0.length c0), (1, .int .i64 x1), (2, .int .i64 x2), (7, .int .i64 x23)] (SAT w0 ([imm I] ++ F0))
    try dsimp only at hF
    unfold F.law30_some.l1 at hF
    refine cw_seq ?_
    refine cw_seq ?_
    refine cw_region ?_
    refine ow_vals 4 (j := 4) [0, 1, 2, 7, 11] [(0, .slice p0 x0.length c0), (1, .int .i64 x1), (2, .int .i64 x2), (7, .int .i64 x23), (11, .bool (decide (x23 < (x0.length : Int))))] rfl (by kernel_rfl) ?_
    refine ow_end rfl ?_
    refine ew_then ?_
    rcases if_some hF with ⟨h24, hF⟩ | ⟨h24, hF⟩
    · refine cw_cond_t rfl rfl h24 ?_
      refine cw_skip ?_
      refine ew_then ?_
      refine cw_seq ?_
      refine cw_block ?_
      refine cw_seq ?_
      refine cw_region ?_
      refine ow_vals 2 (j := 2) [0, 1, 2, 7, 14, 15] [(0, .slice p0 x0.length c0), (1, .int .i64 x1), (2, .int .i64 x2), (7, .int .i64 x23), (14, .slice p0 x0.length c0), (15, .int .i64 x23)] rfl (by kernel_rfl) ?_
      obtain ⟨y25, h26, hF⟩ := bind_some hF
      refine ow_pw rfl (pw_index_ro (E := 3) 1 hr0 rfl rfl rfl rfl rfl (by kernel_rfl) rfl rfl rfl h26 fun q27 h28 => nw_ow ?_)
      refine ow_pw rfl (pw_quiet (v := .int .i64 y25) rfl rfl rfl rfl (q_load_el0 0 rfl h28 rfl rfl (by kernel_rfl)) (nw_ow ?_))
      refine ow_vals 3 (j := 7) [0, 1, 2, 7, 20] [(0, .slice p0 x0.length c0), (1, .int .i64 x1), (2, .int .i64 x2), (7, .int .i64 x23), (20, .bool (decide (y25 ≥ x1)))] rfl (by kernel_rfl) ?_
      rcases if_some hF with ⟨h29, hF⟩ | ⟨h29, hF⟩
      · refine ow_slots (L' := [(0, .slice p0 x0.length c0), (1, .int .i64 x1), (2, .int .i64 x2), (7, .int .i64 x23), (20, .bool true)]) (by rw [h29]) ?_
        refine ow_vals 2 (j := 9) [0, 1, 2, 7, 20, 21, 22] [(0, .slice p0 x0.length c0), (1, .int .i64 x1), (2, .int .i64 x2), (7, .int .i64 x23), (20, .bool true), (21, .slice p0 x0.length c0), (22, .int .i64 x23)] rfl (by kernel_rfl) ?_
        obtain ⟨y30, h31, hF⟩ := bind_some hF
        refine ow_pw rfl (pw_index_ro (E := 3) 1 hr0 rfl rfl rfl rfl rfl (by kernel_rfl) rfl rfl rfl h31 fun q32 h33 => nw_ow ?_)
        refine ow_pw rfl (pw_quiet (v := .int .i64 y30) rfl rfl rfl rfl (q_load_el0 0 rfl h33 rfl rfl (by kernel_rfl)) (nw_ow ?_))
        refine ow_vals 5 (j := 16) [0, 1, 2, 7, 29] [(0, .slice p0 x0.length c0), (1, .int .i64 x1), (2, .int .i64 x2), (7, .int .i64 x23), (29, .bool (decide (y30 < (IntKind.i64.wrap (x1 + x2)))))] rfl (by kernel_rfl) ?_
        refine ow_end rfl ?_
        refine ew_then ?_
        rcases if_some hF with ⟨h34, hF⟩ | ⟨h34, hF⟩
        · refine cw_cond_t rfl rfl h34 ?_
          refine cw_seq ?_
          refine cw_region ?_
          refine ow_vals 1 (j := 1) [6] [(6, .bool true)] rfl (by kernel_rfl) ?_
          refine ow_end rfl ?_
          refine ew_then ?_
          refine cw_ret ?_
          refine ew_blk_ret ?_
          refine ew_then_ret ?_
          refine ew_then_ret ?_
          refine ew_blk_ret ?_
          refine ew_then_ret ?_
          have hR := Option.some.inj hF
          subst hR
          have hR := hL22
          try dsimp only at hR
          subst hR
          have hR := hK21
          try dsimp only [Thru] at hR
          subst hR
          exact fin1 (H1 := [imm I]) (fun w hs => sat_to [0] 0 rfl hs) rfl (rr_tmp rfl) ⟨rfl, rfl⟩
        · refine cw_cond_f rfl rfl h34 ?_
          refine cw_skip ?_
          refine ew_blk ?_
          refine ew_then ?_
          refine cw_region ?_
          refine ow_vals 3 (j := 3) [0, 1, 2, 7] [(0, .slice p0 x0.length c0), (1, .int .i64 x1), (2, .int .i64 x2), (7, .int .i64 (IntKind.i64.wrap (x23 + 1)))] rfl (by kernel_rfl) ?_
          refine ow_end rfl ?_
          have hR := Option.some.inj hF
          subst hR
          have hR := hL22
          try dsimp only at hR
          exact fun a w hf hs => ⟨k, Nat.lt_succ_self k, IntKind.i64.wrap (x23 + 1), hR, hf.keep [0, 1, 2, 7], sat_to [0] 0 rfl hs⟩
      · refine ow_slots (L' := [(0, .slice p0 x0.length c0), (1, .int .i64 x1), (2, .int .i64 x2), (7, .int .i64 x23), (20, .bool false)]) (by rw [h29]) ?_
        refine ow_vals 9 (j := 16) [0, 1, 2, 7, 29] [(0, .slice p0 x0.length c0), (1, .int .i64 x1), (2, .int .i64 x2), (7, .int .i64 x23), (29, .bool false)] rfl (by kernel_rfl) ?_
        refine ow_end rfl ?_
        refine ew_then ?_
        refine cw_cond_f rfl rfl rfl ?_
        refine cw_skip ?_
        refine ew_blk ?_
        refine ew_then ?_
        refine cw_region ?_
        refine ow_vals 3 (j := 3) [0, 1, 2, 7] [(0, .slice p0 x0.length c0), (1, .int .i64 x1), (2, .int .i64 x2), (7, .int .i64 (IntKind.i64.wrap (x23 + 1)))] rfl (by kernel_rfl) ?_
        refine ow_end rfl ?_
        have hR := Option.some.inj hF
        subst hR
        have hR := hL22
        try dsimp only at hR
        exact fun a w hf hs => ⟨k, Nat.lt_succ_self k, IntKind.i64.wrap (x23 + 1), hR, hf.keep [0, 1, 2, 7], sat_to [0] 0 rfl hs⟩
    · refine cw_cond_f rfl rfl h24 ?_
      refine cw_exit ?_
      refine ew_then_exit ?_
      refine ew_then_exit ?_
      refine ew_blk_exit ?_
      have hR := Option.some.inj hF
      subst hR
      have hR := hL22
      try dsimp only at hR
      exact fun a w hf hs => ⟨hR, hf.keep [], sat_to [0] 0 rfl hs⟩
  · rintro a w ⟨hv, hf, hs⟩
    subst hv
    replace hF := hK21
    clear hK21
    try dsimp only [Thru] at hF
    revert a w
    show CW _ _ _ 30 [] (SAT w0 ([imm I] ++ F0))
    unfold F.law30_some.r2 at hF
    refine cw_seq ?_
    refine cw_region ?_
    refine ow_vals 1 (j := 1) [6] [(6, .bool false)] rfl (by kernel_rfl) ?_
    refine ow_end rfl ?_
    refine ew_then ?_
    refine cw_ret ?_
    have hR := Option.some.inj hF
    subst hR
    exact fin1 (H1 := [imm I]) (fun w hs => sat_to [0] 0 rfl hs) rfl (rr_tmp rfl) ⟨rfl, rfl⟩


def F.law30_below.l1 (x0 : Int) (x23 : Int) : Option ((Int) ⊕ (Int)) :=
  if decide ((IntKind.i64.wrap (2 * x23)) < x0) then (some (.inl (IntKind.i64.wrap (2 * x23)))) else (some (.inr (x23)))
def F.law30_below.r2 (x25 : Int) : Option (Int) :=
  some (x25)
def F.law30_below (x0 : Int) : Option Int :=
  Option.bind (iter (fun x => F.law30_below.l1 x0 x) FUEL 1) (fun x => F.law30_below.r2 x)
set_option maxRecDepth 100000 in
set_option maxHeartbeats 4000000 in
theorem c_law30_below (I : Hl) (x0 : Int) (res : Int) (hF : F.law30_below x0 = some res) : Tr Try.prog 33 [.int .i64 x0] [imm I] (fun r H' => r = .int .i64 res ∧ H' = [imm I]) := by
  unfold F.law30_below at hF
  refine tr_of_cw (fn := Try.f33) Try.func33 rfl (Nat.le_of_ble_eq_true rfl) 11 rfl fun F0 w0 => ?_
  refine cw_keep [0] (L' := [(0, .int .i64 x0)]) rfl ?_
  refine cw_state (S' := SAT w0 ([imm I] ++ F0)) (fun w hs => hs) ?_
  refine cw_seq ?_
  refine cw_region ?_
  refine ow_vals 1 (j := 1) [0] [(0, .int .i64 x0)] rfl (by kernel_rfl) ?_
  refine ow_end rfl ?_
  refine ew_then ?_
  refine cw_seq ?_
  refine cw_region ?_
  refine ow_vals 1 (j := 1) [0, 3] [(0, .int .i64 x0), (3, .int .i64 1)] rfl (by kernel_rfl) ?_
  refine ow_end rfl ?_
  refine ew_then ?_
  obtain ⟨v21, hF, hK21⟩ := bind_some hF
  refine cw_mid (fun a w => ∃ (x25 : Int), x25 = v21 ∧ Fr 11 [(3, .int .i64 x25)] a ∧ SAT w0 ([imm I] ++ F0) w) ?_ ?_
  · refine cw_block ?_
    refine fun a w hf hs => wp_rounds (fun k a w => ∃ (x23 : Int), iter (fun x => F.law30_below.l1 x0 x) k x23 = some v21 ∧ Fr 11 [(0, .int .i64 x0), (3, .int .i64 x23)] a ∧ SAT w0 ([imm I] ++ F0) w) ?_ FUEL a w ⟨1, hF, hf.keep [0, 3], sat_to [0] 0 rfl hs⟩
    clear hf hs
    clear a w hF
    rintro k a w ⟨x23, hF2, hf, hs⟩
    obtain ⟨k, r22, rfl, hF, hL22⟩ := iter_some hF2
    clear hF2
    revert a w
    show CW _ _ _ 11 [(0, .int .i64 x0), (3, .int .i64 x23)] (SAT w0 ([imm I] ++ F0))
    try dsimp only at hF
    unfold F.law30_below.l1 at hF
    refine cw_seq ?_
    refine cw_seq ?_
    refine cw_region ?_
    refine ow_vals 4 (j := 4) [0, 3, 7] [(0, .int .i64 x0), (3, .int .i64 x23), (7, .bool (decide ((IntKind.i64.wrap (2 * x23)) < x0)))] rfl (by kernel_rfl) ?_
    refine ow_end rfl ?_
    refine ew_then ?_
    rcases if_some hF with ⟨h24, hF⟩ | ⟨h24, hF⟩
    · refine cw_cond_t rfl rfl h24 ?_
      refine cw_skip ?_
      refine ew_then ?_
      refine cw_block ?_
      refine cw_region ?_
      refine ow_vals 3 (j := 3) [0, 3] [(0, .int .i64 x0), (3, .int .i64 (IntKind.i64.wrap (2 * x23)))] rfl (by kernel_rfl) ?_
      refine ow_end rfl ?_
      refine ew_blk ?_
      have hR := Option.some.inj hF
      subst hR
      have hR := hL22
      try dsimp only at hR
      exact fun a w hf hs => ⟨k, Nat.lt_succ_self k, IntKind.i64.wrap (2 * x23), hR, hf.keep [0, 3], sat_to [0] 0 rfl hs⟩
    · refine cw_cond_f rfl rfl h24 ?_
      refine cw_exit ?_
      refine ew_then_exit ?_
      refine ew_then_exit ?_
      refine ew_blk_exit ?_
      have hR := Option.some.inj hF
      subst hR
      have hR := hL22
      try dsimp only at hR
      exact fun a w hf hs => ⟨x23, hR, hf.keep [3], sat_to [0] 0 rfl hs⟩
  · rintro a w ⟨x25, hv, hf, hs⟩
    subst hv
    replace hF := hK21
    clear hK21
    try dsimp only at hF
    revert a w
    show CW _ _ _ 11 [(3, .int .i64 x25)] (SAT w0 ([imm I] ++ F0))
    unfold F.law30_below.r2 at hF
    refine cw_seq ?_
    refine cw_region ?_
    refine ow_vals 2 (j := 2) [2] [(2, .int .i64 x25)] rfl (by kernel_rfl) ?_
    refine ow_end rfl ?_
    refine ew_then ?_
    refine cw_ret ?_
    have hR := Option.some.inj hF
    subst hR
    exact fin1 (H1 := [imm I]) (fun w hs => sat_to [0] 0 rfl hs) rfl (rr_tmp rfl) ⟨rfl, rfl⟩


def F.law30_rising.l1 (x0 : List Int) (x1 : Int) (x23 : Int) : Option ((Int) ⊕ ((Unit) ⊕ (Bool))) :=
  if decide (x23 < (x0.length : Int)) then (Option.bind (at_ x0 x23) (fun (y25 : Int) => if decide (y25 < 0) then (some (.inr (.inr (false)))) else (Option.bind (at_ x0 x23) (fun (y30 : Int) => if decide (y30 ≥ x1) then (some (.inr (.inr (false)))) else (if decide (x23 > 0) then (Option.bind (at_ x0 (IntKind.i64.wrap (x23 - 1))) (fun (y36 : Int) => Option.bind (at_ x0 x23) (fun (y40 : Int) => if decide (y36 ≥ y40) then (some (.inr (.inr (false)))) else (some (.inl (IntKind.i64.wrap (x23 + 1))))))) else (some (.inl (IntKind.i64.wrap (x23 + 1))))))))) else (some (.inr (.inl ())))
def F.law30_rising.r2 : Option (Bool) :=
  some (true)
def F.law30_rising (x0 : List Int) (x1 : Int) : Option Bool :=
  thru (iter (fun x => F.law30_rising.l1 x0 x1 x) FUEL 0) (fun x => F.law30_rising.r2)
set_option maxRecDepth 100000 in
set_option maxHeartbeats 4000000 in
theorem c_law30_rising (I : Hl) (x0 : List Int) (x1 : Int) (p0 : Option Addr) (c0 : Nat) (res : Bool) (hF : F.law30_rising x0 x1 = some res) (hr0 : ro I (eInt .i64) p0 c0 x0) : Tr Try.prog 18 [.slice p0 x0.length c0, .int .i64 x1] [imm I] (fun r H' => r = .bool res ∧ H' = [imm I]) := by
  unfold F.law30_rising at hF
  refine tr_of_cw (fn := Try.f18) Try.func18 rfl (Nat.le_of_ble_eq_true rfl) 41 rfl fun F0 w0 => ?_
  refine cw_keep [0, 1] (L' := [(0, .slice p0 x0.length c0), (1, .int .i64 x1)]) rfl ?_
  refine cw_state (S' := SAT w0 ([imm I] ++ F0)) (fun w hs => hs) ?_
  refine cw_seq ?_
  refine cw_region ?_
  refine ow_vals 1 (j := 1) [0, 1] [(0, .slice p0 x0.length c0), (1, .int .i64 x1)] rfl (by kernel_rfl) ?_
  refine ow_end rfl ?_
  refine ew_then ?_
  obtain ⟨v21, hF, hK21⟩ := thru_some hF
  refine cw_mid (fun a w => .inl () = v21 ∧ Fr 41 [] a ∧ SAT w0 ([imm I] ++ F0) w) ?_ ?_
  · refine cw_seq ?_
    refine cw_region ?_
    refine ow_vals 1 (j := 1) [0, 1, 5] [(0, .slice p0 x0.length c0), (1, .int .i64 x1), (5, .int .i64 0)] rfl (by kernel_rfl) ?_
    refine ow_end rfl ?_
    refine ew_then ?_
    refine cw_block ?_
    refine fun a w hf hs => wp_rounds (fun k a w => ∃ (x23 : Int), iter (fun x => F.law30_rising.l1 x0 x1 x) k x23 = some v21 ∧ Fr 41 [(0, .slice p0 x0.length c0), (1, .int .i64 x1), (5, .int .i64 x23)] a ∧ SAT w0 ([imm I] ++ F0) w) ?_ FUEL a w ⟨0, hF, hf.keep [0, 1, 5], sat_to [0] 0 rfl hs⟩
    clear hf hs
    clear a w hF
    rintro k a w ⟨x23, hF2, hf, hs⟩
    obtain ⟨k, r22, rfl, hF, hL22⟩ := iter_some hF2
    clear hF2
    revert a w
    show CW _ _ _ 41 [(0, .slice p0 x0.length c0), (1, .int .i64 x1), (5, .int .i64 x23)] (SAT w0 ([imm I] ++ F0))
    try dsimp only at hF
    unfold F.law30_rising.l1 at hF
    refine cw_seq ?_
    refine cw_seq ?_
    refine cw_region ?_
    refine ow_vals 4 (j := 4) [0, 1, 5, 9] [(0, .slice p0 x0.length c0), (1, .int .i64 x1), (5, .int .i64 x23), (9, .bool (decide (x23 < (x0.length : Int))))] rfl (by kernel_rfl) ?_
    refine ow_end rfl ?_
    refine ew_then ?_
    rcases if_some hF with ⟨h24, hF⟩ | ⟨h24, hF⟩
    · refine cw_cond_t rfl rfl h24 ?_
      refine cw_skip ?_
      refine ew_then ?_
      refine cw_seq ?_
      refine cw_block ?_
      refine cw_seq ?_
      refine cw_open 29 (SAT w0 ([imm I])) (by kernel_rfl) (f := 29) rfl (fun w hs => sat_drew hs) ?_
      refine aw_vals [0, 1] (f' := 27) (m' := 3) [0, 1, 5, 12, 13] [(0, .slice p0 x0.length c0), (1, .int .i64 x1), (5, .int .i64 x23), (12, .slice p0 x0.length c0), (13, .int .i64 x23)] (fun _ _ _ _ _ h => calm_fin (P := Try.prog) (fn := Try.f18) _ _ _ _ _ h) (fun w hs => sat_pulls [0] (G := [] ++ F0) rfl hs) rfl (by kernel_rfl) ?_
      obtain ⟨y25, h26, hF⟩ := bind_some hF
      refine aw_index_ro (E := 3) 2 (m' := 7) 1 hr0 rfl rfl rfl rfl rfl (by kernel_rfl) (by kernel_rfl) (fun _ _ _ _ _ h => calm_fin (P := Try.prog) (fn := Try.f18) _ _ _ _ _ h) (fun w hs => sat_pulls [0] (G := [] ++ F0) rfl hs) (by kernel_rfl) rfl rfl rfl h26 fun q27 h28 => ?_
      refine aw_quiet 3 (m' := 15) (v := .int .i64 y25) 0 [] rfl rfl rfl rfl (by kernel_rfl) (by kernel_rfl) (by kernel_rfl) (fun _ _ _ _ _ h => calm_fin (P := Try.prog) (fn := Try.f18) _ _ _ _ _ h) (fun w hs => sat_pulls [0] (G := [] ++ F0) rfl hs) (q_load_el0 0 rfl h28 rfl rfl (by kernel_rfl)) ?_
      refine aw_vals [4, 5] (f' := 23) (m' := 63) [0, 1, 5, 17] [(0, .slice p0 x0.length c0), (1, .int .i64 x1), (5, .int .i64 x23), (17, .bool (decide (y25 < 0)))] (fun _ _ _ _ _ h => calm_fin (P := Try.prog) (fn := Try.f18) _ _ _ _ _ h) (fun w hs => sat_pulls [0] (G := [] ++ F0) rfl hs) rfl (by kernel_rfl) ?_
      rcases if_some hF with ⟨h29, hF⟩ | ⟨h29, hF⟩
      · refine aw_slots (L' := [(0, .slice p0 x0.length c0), (1, .int .i64 x1), (5, .int .i64 x23), (17, .bool true)]) (by rw [h29]) ?_
        refine aw_vals [6, 7, 8, 9, 10, 11, 12, 13, 14, 15, 16, 17, 18, 19, 20, 21, 22, 23, 24, 25, 26, 27, 28] (f' := 0) (m' := 536870911) [0, 1, 5, 40] [(0, .slice p0 x0.length c0), (1, .int .i64 x1), (5, .int .i64 x23), (40, .bool true)] (fun _ _ _ _ _ h => calm_fin (P := Try.prog) (fn := Try.f18) _ _ _ _ _ h) (fun w hs => sat_pulls [0] (G := [] ++ F0) rfl hs) rfl (by kernel_rfl) ?_
        refine aw_keep [0, 1, 5, 40] (L' := [(0, .slice p0 x0.length c0), (1, .int .i64 x1), (5, .int .i64 x23), (40, .bool true)]) rfl ?_
        refine aw_end (by kernel_rfl) ?_
        refine ew_then ?_
        refine cw_cond_t rfl rfl rfl ?_
        refine cw_seq ?_
        refine cw_region ?_
        refine ow_vals 1 (j := 1) [4] [(4, .bool false)] rfl (by kernel_rfl) ?_
        refine ow_end rfl ?_
        refine ew_then ?_
        refine cw_ret ?_
        refine ew_blk_ret ?_
        refine ew_then_ret ?_
        refine ew_then_ret ?_
        refine ew_blk_ret ?_
        refine ew_then_ret ?_
        have hR := Option.some.inj hF
        subst hR
        have hR := hL22
        try dsimp only at hR
        subst hR
        have hR := hK21
        try dsimp only [Thru] at hR
        subst hR
        exact fin1 (H1 := [imm I]) (fun w hs => sat_to [0] 0 rfl hs) rfl (rr_tmp rfl) ⟨rfl, rfl⟩
      · refine aw_slots (L' := [(0, .slice p0 x0.length c0), (1, .int .i64 x1), (5, .int .i64 x23), (17, .bool false)]) (by rw [h29]) ?_
        refine aw_vals [6, 7, 10] (f' := 20) (m' := 1279) [0, 1, 5, 17, 18, 19, 22] [(0, .slice p0 x0.length c0), (1, .int .i64 x1), (5, .int .i64 x23), (17, .bool false), (18, .slice p0 x0.length c0), (19, .int .i64 x23), (22, .int .i64 x1)] (fun _ _ _ _ _ h => calm_fin (P := Try.prog) (fn := Try.f18) _ _ _ _ _ h) (fun w hs => sat_pulls [0] (G := [] ++ F0) rfl hs) rfl (by kernel_rfl) ?_
        obtain ⟨y30, h31, hF⟩ := bind_some hF
        refine aw_index_ro (E := 3) 8 (m' := 1535) 1 hr0 rfl rfl rfl rfl rfl (by kernel_rfl) (by kernel_rfl) (fun _ _ _ _ _ h => calm_fin (P := Try.prog) (fn := Try.f18) _ _ _ _ _ h) (fun w hs => sat_pulls [0] (G := [] ++ F0) rfl hs) (by kernel_rfl) rfl rfl rfl h31 fun q32 h33 => ?_
        refine aw_quiet 9 (m' := 2047) (v := .int .i64 y30) 0 [] rfl rfl rfl rfl (by kernel_rfl) (by kernel_rfl) (by kernel_rfl) (fun _ _ _ _ _ h => calm_fin (P := Try.prog) (fn := Try.f18) _ _ _ _ _ h) (fun w hs => sat_pulls [0] (G := [] ++ F0) rfl hs) (q_load_el0 0 rfl h33 rfl rfl (by kernel_rfl)) ?_
        refine aw_vals [11, 12, 13] (f' := 15) (m' := 16383) [0, 1, 5, 25] [(0, .slice p0 x0.length c0), (1, .int .i64 x1), (5, .int .i64 x23), (25, .bool (decide (y30 ≥ x1)))] (fun _ _ _ _ _ h => calm_fin (P := Try.prog) (fn := Try.f18) _ _ _ _ _ h) (fun w hs => sat_pulls [0] (G := [] ++ F0) rfl hs) rfl (by kernel_rfl) ?_
        rcases if_some hF with ⟨h34, hF⟩ | ⟨h34, hF⟩
        · refine aw_slots (L' := [(0, .slice p0 x0.length c0), (1, .int .i64 x1), (5, .int .i64 x23), (25, .bool true)]) (by rw [h34]) ?_
          refine aw_vals [14, 15, 16, 17, 18, 19, 20, 21, 22, 23, 24, 25, 26, 27, 28] (f' := 0) (m' := 536870911) [0, 1, 5, 40] [(0, .slice p0 x0.length c0), (1, .int .i64 x1), (5, .int .i64 x23), (40, .bool true)] (fun _ _ _ _ _ h => calm_fin (P := Try.prog) (fn := Try.f18) _ _ _ _ _ h) (fun w hs => sat_pulls [0] (G := [] ++ F0) rfl hs) rfl (by kernel_rfl) ?_
          refine aw_keep [0, 1, 5, 40] (L' := [(0, .slice p0 x0.length c0), (1, .int .i64 x1), (5, .int .i64 x23), (40, .bool true)]) rfl ?_
          refine aw_end (by kernel_rfl) ?_
          refine ew_then ?_
          refine cw_cond_t rfl rfl rfl ?_
          refine cw_seq ?_
          refine cw_region ?_
          refine ow_vals 1 (j := 1) [4] [(4, .bool false)] rfl (by kernel_rfl) ?_
          refine ow_end rfl ?_
          refine ew_then ?_
          refine cw_ret ?_
          refine ew_blk_ret ?_
          refine ew_then_ret ?_
          refine ew_then_ret ?_
          refine ew_blk_ret ?_
          refine ew_then_ret ?_
          have hR := Option.some.inj hF
          subst hR
          have hR := hL22
          try dsimp only at hR
          subst hR
          have hR := hK21
          try dsimp only [Thru] at hR
          subst hR
          exact fin1 (H1 := [imm I]) (fun w hs => sat_to [0] 0 rfl hs) rfl (rr_tmp rfl) ⟨rfl, rfl⟩
        · refine aw_slots (L' := [(0, .slice p0 x0.length c0), (1, .int .i64 x1), (5, .int .i64 x23), (25, .bool false)]) (by rw [h34]) ?_
          refine aw_vals [14, 15, 16] (f' := 12) (m' := 131071) [0, 1, 5, 25, 28] [(0, .slice p0 x0.length c0), (1, .int .i64 x1), (5, .int .i64 x23), (25, .bool false), (28, .bool (decide (x23 > 0)))] (fun _ _ _ _ _ h => calm_fin (P := Try.prog) (fn := Try.f18) _ _ _ _ _ h) (fun w hs => sat_pulls [0] (G := [] ++ F0) rfl hs) rfl (by kernel_rfl) ?_
          rcases if_some hF with ⟨h35, hF⟩ | ⟨h35, hF⟩
          · refine aw_slots (L' := [(0, .slice p0 x0.length c0), (1, .int .i64 x1), (5, .int .i64 x23), (25, .bool false), (28, .bool true)]) (by rw [h35]) ?_
            refine aw_vals [17, 18, 19, 22, 23] (f' := 7) (m' := 13631487) [0, 1, 5, 25, 28, 29, 31, 34, 35] [(0, .slice p0 x0.length c0), (1, .int .i64 x1), (5, .int .i64 x23), (25, .bool false), (28, .bool true), (29, .slice p0 x0.length c0), (31, .int .i64 (IntKind.i64.wrap (x23 - 1))), (34, .slice p0 x0.length c0), (35, .int .i64 x23)] (fun _ _ _ _ _ h => calm_fin (P := Try.prog) (fn := Try.f18) _ _ _ _ _ h) (fun w hs => sat_pulls [0] (G := [] ++ F0) rfl hs) rfl (by kernel_rfl) ?_
            obtain ⟨y36, h37, hF⟩ := bind_some hF
            refine aw_index_ro (E := 3) 20 (m' := 14680063) 1 hr0 rfl rfl rfl rfl rfl (by kernel_rfl) (by kernel_rfl) (fun _ _ _ _ _ h => calm_fin (P := Try.prog) (fn := Try.f18) _ _ _ _ _ h) (fun w hs => sat_pulls [0] (G := [] ++ F0) rfl hs) (by kernel_rfl) rfl rfl rfl h37 fun q38 h39 => ?_
            refine aw_quiet 21 (m' := 16777215) (v := .int .i64 y36) 0 [] rfl rfl rfl rfl (by kernel_rfl) (by kernel_rfl) (by kernel_rfl) (fun _ _ _ _ _ h => calm_fin (P := Try.prog) (fn := Try.f18) _ _ _ _ _ h) (fun w hs => sat_pulls [0] (G := [] ++ F0) rfl hs) (q_load_el0 0 rfl h39 rfl rfl (by kernel_rfl)) ?_
            obtain ⟨y40, h41, hF⟩ := bind_some hF
            refine aw_index_ro (E := 3) 24 (m' := 33554431) 1 hr0 rfl rfl rfl rfl rfl (by kernel_rfl) (by kernel_rfl) (fun _ _ _ _ _ h => calm_fin (P := Try.prog) (fn := Try.f18) _ _ _ _ _ h) (fun w hs => sat_pulls [0] (G := [] ++ F0) rfl hs) (by kernel_rfl) rfl rfl rfl h41 fun q42 h43 => ?_
            refine aw_quiet 25 (m' := 67108863) (v := .int .i64 y40) 0 [] rfl rfl rfl rfl (by kernel_rfl) (by kernel_rfl) (by kernel_rfl) (fun _ _ _ _ _ h => calm_fin (P := Try.prog) (fn := Try.f18) _ _ _ _ _ h) (fun w hs => sat_pulls [0] (G := [] ++ F0) rfl hs) (q_load_el0 0 rfl h43 rfl rfl (by kernel_rfl)) ?_
            refine aw_vals [26, 27, 28] (f' := 0) (m' := 536870911) [0, 1, 5, 40] [(0, .slice p0 x0.length c0), (1, .int .i64 x1), (5, .int .i64 x23), (40, .bool (decide (y36 ≥ y40)))] (fun _ _ _ _ _ h => calm_fin (P := Try.prog) (fn := Try.f18) _ _ _ _ _ h) (fun w hs => sat_pulls [0] (G := [] ++ F0) rfl hs) rfl (by kernel_rfl) ?_
            refine aw_keep [0, 1, 5, 40] (L' := [(0, .slice p0 x0.length c0), (1, .int .i64 x1), (5, .int .i64 x23), (40, .bool (decide (y36 ≥ y40)))]) rfl ?_
            refine aw_end (by kernel_rfl) ?_
            refine ew_then ?_
            rcases if_some hF with ⟨h44, hF⟩ | ⟨h44, hF⟩
            · refine cw_cond_t rfl rfl h44 ?_
              refine cw_seq ?_
              refine cw_region ?_
              refine ow_vals 1 (j := 1) [4] [(4, .bool false)] rfl (by kernel_rfl) ?_
              refine ow_end rfl ?_
              refine ew_then ?_
              refine cw_ret ?_
              refine ew_blk_ret ?_
              refine ew_then_ret ?_
              refine ew_then_ret ?_
              refine ew_blk_ret ?_
              refine ew_then_ret ?_
              have hR := Option.some.inj hF
              subst hR
              have hR := hL22
              try dsimp only at hR
              subst hR
              have hR := hK21
              try dsimp only [Thru] at hR
              subst hR
              exact fin1 (H1 := [imm I]) (fun w hs => sat_to [0] 0 rfl hs) rfl (rr_tmp rfl) ⟨rfl, rfl⟩
            · refine cw_cond_f rfl rfl h44 ?_
              refine cw_skip ?_
              refine ew_blk ?_
              refine ew_then ?_
              refine cw_region ?_
              refine ow_vals 3 (j := 3) [0, 1, 5] [(0, .slice p0 x0.length c0), (1, .int .i64 x1), (5, .int .i64 (IntKind.i64.wrap (x23 + 1)))] rfl (by kernel_rfl) ?_
              refine ow_end rfl ?_
              have hR := Option.some.inj hF
              subst hR
              have hR := hL22
              try dsimp only at hR
              exact fun a w hf hs => ⟨k, Nat.lt_succ_self k, IntKind.i64.wrap (x23 + 1), hR, hf.keep [0, 1, 5], sat_to [0] 0 rfl hs⟩
          · refine aw_slots (L' := [(0, .slice p0 x0.length c0), (1, .int .i64 x1), (5, .int .i64 x23), (25, .bool false), (28, .bool false)]) (by rw [h35]) ?_
            refine aw_vals [17, 18, 19, 20, 21, 22, 23, 24, 25, 26, 27, 28] (f' := 0) (m' := 536870911) [0, 1, 5, 40] [(0, .slice p0 x0.length c0), (1, .int .i64 x1), (5, .int .i64 x23), (40, .bool false)] (fun _ _ _ _ _ h => calm_fin (P := Try.prog) (fn := Try.f18) _ _ _ _ _ h) (fun w hs => sat_pulls [0] (G := [] ++ F0) rfl hs) rfl (by kernel_rfl) ?_
            refine aw_keep [0, 1, 5, 40] (L' := [(0, .slice p0 x0.length c0), (1, .int .i64 x1), (5, .int .i64 x23), (40, .bool false)]) rfl ?_
            refine aw_end (by kernel_rfl) ?_
            refine ew_then ?_
            refine cw_cond_f rfl rfl rfl ?_
            refine cw_skip ?_
            refine ew_blk ?_
            refine ew_then ?_
            refine cw_region ?_
            refine ow_vals 3 (j := 3) [0, 1, 5] [(0, .slice p0 x0.length c0), (1, .int .i64 x1), (5, .int .i64 (IntKind.i64.wrap (x23 + 1)))] rfl (by kernel_rfl) ?_
            refine ow_end rfl ?_
            have hR := Option.some.inj hF
            subst hR
            have hR := hL22
            try dsimp only at hR
            exact fun a w hf hs => ⟨k, Nat.lt_succ_self k, IntKind.i64.wrap (x23 + 1), hR, hf.keep [0, 1, 5], sat_to [0] 0 rfl hs⟩
    · refine cw_cond_f rfl rfl h24 ?_
      refine cw_exit ?_
      refine ew_then_exit ?_
      refine ew_then_exit ?_
      refine ew_blk_exit ?_
      have hR := Option.some.inj hF
      subst hR
      have hR := hL22
      try dsimp only at hR
      exact fun a w hf hs => ⟨hR, hf.keep [], sat_to [0] 0 rfl hs⟩
  · rintro a w ⟨hv, hf, hs⟩
    subst hv
    replace hF := hK21
    clear hK21
    try dsimp only [Thru] at hF
    revert a w
    show CW _ _ _ 41 [] (SAT w0 ([imm I] ++ F0))
    unfold F.law30_rising.r2 at hF
    refine cw_seq ?_
    refine cw_region ?_
    refine ow_vals 1 (j := 1) [4] [(4, .bool true)] rfl (by kernel_rfl) ?_
    refine ow_end rfl ?_
    refine ew_then ?_
    refine cw_ret ?_
    have hR := Option.some.inj hF
    subst hR
    exact fin1 (H1 := [imm I]) (fun w hs => sat_to [0] 0 rfl hs) rfl (rr_tmp rfl) ⟨rfl, rfl⟩


def F.law30_right.l2 (x0 : batch_Proof) (x34 : Int) : Option ((Int) ⊕ ((Unit) ⊕ (Bool))) :=
  if decide (x34 < (x0.Leaf.length : Int)) then (Option.bind (at_ x0.Leaf x34) (fun (y36 : ByteArray) => if (y36.size : Int) != 32 then (some (.inr (.inr (false)))) else (some (.inl (IntKind.i64.wrap (x34 + 1)))))) else (some (.inr (.inl ())))
def F.law30_right.l4 (x0 : batch_Proof) (x43 : Int) : Option ((Int) ⊕ ((Unit) ⊕ (Bool))) :=
  if decide (x43 < (x0.Nodes.length : Int)) then (Option.bind (at_ x0.Nodes x43) (fun (y45 : ByteArray) => if (y45.size : Int) != 32 then (some (.inr (.inr (false)))) else (some (.inl (IntKind.i64.wrap (x43 + 1)))))) else (some (.inr (.inl ())))
def F.law30_right.r5 (x0 : batch_Proof) : Option (Bool) :=
  some ((decide ((x0.Nodes.length : Int) ≤ 1024)))
def F.law30_right.r3 (x0 : batch_Proof) : Option (Bool) :=
  thru (iter (fun x => F.law30_right.l4 x0 x) FUEL 0) (fun x => F.law30_right.r5 x0)
def F.law30_right.r1 (x0 : batch_Proof) : Option (Bool) :=
  thru (iter (fun x => F.law30_right.l2 x0 x) FUEL 0) (fun x => F.law30_right.r3 x0)
def F.law30_right (x0 : batch_Proof) : Option Bool :=
  thru (if decide (x0.Size < 1) then (some (.inr (false))) else (if decide (x0.Size > 65536) then (some (.inr (false))) else (if decide ((x0.Picks.length : Int) < 1) then (some (.inr (false))) else (if decide ((x0.Picks.length : Int) > 64) then (some (.inr (false))) else (if (x0.Leaf.length : Int) != (x0.Picks.length : Int) then (some (.inr (false))) else (Option.bind (F.law30_rising x0.Picks x0.Size) (fun (r29 : Bool) => if !r29 then (some (.inr (false))) else (some (.inl ()))))))))) (fun x => F.law30_right.r1 x0)
set_option maxRecDepth 100000 in
set_option maxHeartbeats 4000000 in
theorem c_law30_right (I : Hl) (x0 : batch_Proof) (p0 : Option Addr) (c0 : Nat) (p1 : Option Addr) (c1 : Nat) (p2 : Option Addr) (c2 : Nat) (res : Bool) (hF : F.law30_right x0 = some res) (hr0 : ro I (eInt .i64) p0 c0 x0.Picks) (hr1 : ro I eStr p1 c1 x0.Leaf) (hr2 : ro I eStr p2 c2 x0.Nodes) : Tr Try.prog 12 [.agg #[.int .i64 x0.Size, .slice p0 x0.Picks.length c0, .slice p1 x0.Leaf.length c1, .slice p2 x0.Nodes.length c2]] [imm I] (fun r H' => r = .bool res ∧ H' = [imm I]) := by
  unfold F.law30_right at hF
  refine tr_of_cw (fn := Try.f12) Try.func12 rfl (Nat.le_of_ble_eq_true rfl) 74 rfl fun F0 w0 => ?_
  refine cw_keep [0] (L' := [(0, .agg #[.int .i64 x0.Size, .slice p0 x0.Picks.length c0, .slice p1 x0.Leaf.length c1, .slice p2 x0.Nodes.length c2])]) rfl ?_
  refine cw_state (S' := SAT w0 ([imm I] ++ F0)) (fun w hs => hs) ?_
  refine cw_seq ?_
  refine cw_region ?_
  refine ow_pw rfl (pw_box (cs := #[.int .i64 x0.Size, .slice p0 x0.Picks.length c0, .slice p1 x0.Leaf.length c1, .slice p2 x0.Nodes.length c2]) rfl rfl rfl rfl rfl rfl fun b21 => nw_ow ?_)
  refine ow_vals 1 (j := 2) [1] [(1, .pointer (some ⟨b21, 0, none⟩))] rfl (by kernel_rfl) ?_
  refine ow_end rfl ?_
  refine ew_then ?_
  obtain ⟨v23, hF, hK23⟩ := thru_some hF
  refine cw_mid (fun a w => .inl () = v23 ∧ Fr 74 [(1, .pointer (some ⟨b21, 0, none⟩))] a ∧ SAT w0 ([imm I, pt b21 #[.int .i64 x0.Size, .slice p0 x0.Picks.length c0, .slice p1 x0.Leaf.length c1, .slice p2 x0.Nodes.length c2] 25] ++ F0) w) ?_ ?_
  · refine cw_seq ?_
    refine cw_region ?_
    refine ow_vals 1 (j := 1) [1, 5] [(1, .pointer (some ⟨b21, 0, none⟩)), (5, .pointer (some ⟨b21, 0, none⟩))] rfl (by kernel_rfl) ?_
    refine ow_pw rfl (pw_quiet (v := .int .i64 x0.Size) rfl rfl rfl rfl (q_load 0 rfl rfl rfl (by kernel_rfl)) (nw_ow ?_))
    refine ow_vals 2 (j := 4) [1, 8] [(1, .pointer (some ⟨b21, 0, none⟩)), (8, .bool (decide (x0.Size < 1)))] rfl (by kernel_rfl) ?_
    rcases if_some hF with ⟨h24, hF⟩ | ⟨h24, hF⟩
    · refine ow_slots (L' := [(1, .pointer (some ⟨b21, 0, none⟩)), (8, .bool true)]) (by rw [h24]) ?_
      refine ow_vals 33 (j := 37) [1, 41] [(1, .pointer (some ⟨b21, 0, none⟩)), (41, .bool true)] rfl (by kernel_rfl) ?_
      refine ow_end rfl ?_
      refine ew_then ?_
      refine cw_cond_t rfl rfl rfl ?_
      refine cw_seq ?_
      refine cw_region ?_
      refine ow_vals 1 (j := 1) [2] [(2, .bool false)] rfl (by kernel_rfl) ?_
      refine ow_end rfl ?_
      refine ew_then ?_
      refine cw_ret ?_
      refine ew_then_ret ?_
      have hR := Option.some.inj hF
      subst hR
      have hR := hK23
      try dsimp only [Thru] at hR
      subst hR
      exact fin1 (H1 := [imm I]) (fun w hs => sat_to [0, 0] 1 rfl hs) rfl (rr_tmp rfl) ⟨rfl, rfl⟩
    · refine ow_slots (L' := [(1, .pointer (some ⟨b21, 0, none⟩)), (8, .bool false)]) (by rw [h24]) ?_
      refine ow_vals 1 (j := 5) [1, 8, 9] [(1, .pointer (some ⟨b21, 0, none⟩)), (8, .bool false), (9, .pointer (some ⟨b21, 0, none⟩))] rfl (by kernel_rfl) ?_
      refine ow_pw rfl (pw_quiet (v := .int .i64 x0.Size) rfl rfl rfl rfl (q_load 0 rfl rfl rfl (by kernel_rfl)) (nw_ow ?_))
      refine ow_vals 3 (j := 9) [1, 13] [(1, .pointer (some ⟨b21, 0, none⟩)), (13, .bool (decide (x0.Size > 65536)))] rfl (by kernel_rfl) ?_
      rcases if_some hF with ⟨h25, hF⟩ | ⟨h25, hF⟩
      · refine ow_slots (L' := [(1, .pointer (some ⟨b21, 0, none⟩)), (13, .bool true)]) (by rw [h25]) ?_
        refine ow_vals 28 (j := 37) [1, 41] [(1, .pointer (some ⟨b21, 0, none⟩)), (41, .bool true)] rfl (by kernel_rfl) ?_
        refine ow_end rfl ?_
        refine ew_then ?_
        refine cw_cond_t rfl rfl rfl ?_
        refine cw_seq ?_
        refine cw_region ?_
        refine ow_vals 1 (j := 1) [2] [(2, .bool false)] rfl (by kernel_rfl) ?_
        refine ow_end rfl ?_
        refine ew_then ?_
        refine cw_ret ?_
        refine ew_then_ret ?_
        have hR := Option.some.inj hF
        subst hR
        have hR := hK23
        try dsimp only [Thru] at hR
        subst hR
        exact fin1 (H1 := [imm I]) (fun w hs => sat_to [0, 0] 1 rfl hs) rfl (rr_tmp rfl) ⟨rfl, rfl⟩
      · refine ow_slots (L' := [(1, .pointer (some ⟨b21, 0, none⟩)), (13, .bool false)]) (by rw [h25]) ?_
        refine ow_vals 1 (j := 10) [1, 13, 14] [(1, .pointer (some ⟨b21, 0, none⟩)), (13, .bool false), (14, .pointer (some ⟨b21, 1, none⟩))] rfl (by kernel_rfl) ?_
        refine ow_pw rfl (pw_quiet (v := .slice p0 x0.Picks.length c0) rfl rfl rfl rfl (q_load 0 rfl rfl rfl (by kernel_rfl)) (nw_ow ?_))
        refine ow_vals 4 (j := 15) [1, 19] [(1, .pointer (some ⟨b21, 0, none⟩)), (19, .bool (decide ((x0.Picks.length : Int) < 1)))] rfl (by kernel_rfl) ?_
        rcases if_some hF with ⟨h26, hF⟩ | ⟨h26, hF⟩
        · refine ow_slots (L' := [(1, .pointer (some ⟨b21, 0, none⟩)), (19, .bool true)]) (by rw [h26]) ?_
          refine ow_vals 22 (j := 37) [1, 41] [(1, .pointer (some ⟨b21, 0, none⟩)), (41, .bool true)] rfl (by kernel_rfl) ?_
          refine ow_end rfl ?_
          refine ew_then ?_
          refine cw_cond_t rfl rfl rfl ?_
          refine cw_seq ?_
          refine cw_region ?_
          refine ow_vals 1 (j := 1) [2] [(2, .bool false)] rfl (by kernel_rfl) ?_
          refine ow_end rfl ?_
          refine ew_then ?_
          refine cw_ret ?_
          refine ew_then_ret ?_
          have hR := Option.some.inj hF
          subst hR
          have hR := hK23
          try dsimp only [Thru] at hR
          subst hR
          exact fin1 (H1 := [imm I]) (fun w hs => sat_to [0, 0] 1 rfl hs) rfl (rr_tmp rfl) ⟨rfl, rfl⟩
        · refine ow_slots (L' := [(1, .pointer (some ⟨b21, 0, none⟩)), (19, .bool false)]) (by rw [h26]) ?_
          refine ow_vals 1 (j := 16) [1, 19, 20] [(1, .pointer (some ⟨b21, 0, none⟩)), (19, .bool false), (20, .pointer (some ⟨b21, 1, none⟩))] rfl (by kernel_rfl) ?_
          refine ow_pw rfl (pw_quiet (v := .slice p0 x0.Picks.length c0) rfl rfl rfl rfl (q_load 0 rfl rfl rfl (by kernel_rfl)) (nw_ow ?_))
          refine ow_vals 4 (j := 21) [1, 25] [(1, .pointer (some ⟨b21, 0, none⟩)), (25, .bool (decide ((x0.Picks.length : Int) > 64)))] rfl (by kernel_rfl) ?_
          rcases if_some hF with ⟨h27, hF⟩ | ⟨h27, hF⟩
          · refine ow_slots (L' := [(1, .pointer (some ⟨b21, 0, none⟩)), (25, .bool true)]) (by rw [h27]) ?_
            refine ow_vals 16 (j := 37) [1, 41] [(1, .pointer (some ⟨b21, 0, none⟩)), (41, .bool true)] rfl (by kernel_rfl) ?_
            refine ow_end rfl ?_
            refine ew_then ?_
            refine cw_cond_t rfl rfl rfl ?_
            refine cw_seq ?_
            refine cw_region ?_
            refine ow_vals 1 (j := 1) [2] [(2, .bool false)] rfl (by kernel_rfl) ?_
            refine ow_end rfl ?_
            refine ew_then ?_
            refine cw_ret ?_
            refine ew_then_ret ?_
            have hR := Option.some.inj hF
            subst hR
            have hR := hK23
            try dsimp only [Thru] at hR
            subst hR
            exact fin1 (H1 := [imm I]) (fun w hs => sat_to [0, 0] 1 rfl hs) rfl (rr_tmp rfl) ⟨rfl, rfl⟩
          · refine ow_slots (L' := [(1, .pointer (some ⟨b21, 0, none⟩)), (25, .bool false)]) (by rw [h27]) ?_
            refine ow_vals 1 (j := 22) [1, 25, 26] [(1, .pointer (some ⟨b21, 0, none⟩)), (25, .bool false), (26, .pointer (some ⟨b21, 2, none⟩))] rfl (by kernel_rfl) ?_
            refine ow_pw rfl (pw_quiet (v := .slice p1 x0.Leaf.length c1) rfl rfl rfl rfl (q_load 0 rfl rfl rfl (by kernel_rfl)) (nw_ow ?_))
            refine ow_vals 2 (j := 25) [1, 25, 28, 29] [(1, .pointer (some ⟨b21, 0, none⟩)), (25, .bool false), (28, .int .i64 (x0.Leaf.length : Int)), (29, .pointer (some ⟨b21, 1, none⟩))] rfl (by kernel_rfl) ?_
            refine ow_pw rfl (pw_quiet (v := .slice p0 x0.Picks.length c0) rfl rfl rfl rfl (q_load 0 rfl rfl rfl (by kernel_rfl)) (nw_ow ?_))
            refine ow_vals 4 (j := 30) [1, 34] [(1, .pointer (some ⟨b21, 0, none⟩)), (34, .bool ((x0.Leaf.length : Int) != (x0.Picks.length : Int)))] rfl (by kernel_rfl) ?_
            rcases if_some hF with ⟨h28, hF⟩ | ⟨h28, hF⟩
            · refine ow_slots (L' := [(1, .pointer (some ⟨b21, 0, none⟩)), (34, .bool true)]) (by rw [h28]) ?_
              refine ow_vals 7 (j := 37) [1, 41] [(1, .pointer (some ⟨b21, 0, none⟩)), (41, .bool true)] rfl (by kernel_rfl) ?_
              refine ow_end rfl ?_
              refine ew_then ?_
              refine cw_cond_t rfl rfl rfl ?_
              refine cw_seq ?_
              refine cw_region ?_
              refine ow_vals 1 (j := 1) [2] [(2, .bool false)] rfl (by kernel_rfl) ?_
              refine ow_end rfl ?_
              refine ew_then ?_
              refine cw_ret ?_
              refine ew_then_ret ?_
              have hR := Option.some.inj hF
              subst hR
              have hR := hK23
              try dsimp only [Thru] at hR
              subst hR
              exact fin1 (H1 := [imm I]) (fun w hs => sat_to [0, 0] 1 rfl hs) rfl (rr_tmp rfl) ⟨rfl, rfl⟩
            · refine ow_slots (L' := [(1, .pointer (some ⟨b21, 0, none⟩)), (34, .bool false)]) (by rw [h28]) ?_
              refine ow_vals 1 (j := 31) [1, 34, 35] [(1, .pointer (some ⟨b21, 0, none⟩)), (34, .bool false), (35, .pointer (some ⟨b21, 1, none⟩))] rfl (by kernel_rfl) ?_
              refine ow_pw rfl (pw_quiet (v := .slice p0 x0.Picks.length c0) rfl rfl rfl rfl (q_load 0 rfl rfl rfl (by kernel_rfl)) (nw_ow ?_))
              refine ow_vals 1 (j := 33) [1, 34, 36, 37] [(1, .pointer (some ⟨b21, 0, none⟩)), (34, .bool false), (36, .slice p0 x0.Picks.length c0), (37, .pointer (some ⟨b21, 0, none⟩))] rfl (by kernel_rfl) ?_
              refine ow_pw rfl (pw_quiet (v := .int .i64 x0.Size) rfl rfl rfl rfl (q_load 0 rfl rfl rfl (by kernel_rfl)) (nw_ow ?_))
              obtain ⟨r29, h30, hF⟩ := bind_some hF
              refine ow_pw rfl (pw_call (F := [pt b21 #[.int .i64 x0.Size, .slice p0 x0.Picks.length c0, .slice p1 x0.Leaf.length c1, .slice p2 x0.Nodes.length c2] 25] ++ F0) rfl rfl rfl rfl rfl rfl rfl (by kernel_rfl) (perm_of_pulls [1] rfl) (c_law30_rising _ x0.Picks x0.Size p0 c0 r29 h30 hr0) ?_)
              rintro _ _ ⟨rfl, rfl⟩
              refine nw_H (H' := [imm I, pt b21 #[.int .i64 x0.Size, .slice p0 x0.Picks.length c0, .slice p1 x0.Leaf.length c1, .slice p2 x0.Nodes.length c2] 25] ++ F0) rfl (nw_ow ?_)
              refine ow_vals 2 (j := 37) [1, 41] [(1, .pointer (some ⟨b21, 0, none⟩)), (41, .bool (!r29))] rfl (by kernel_rfl) ?_
              refine ow_end rfl ?_
              refine ew_then ?_
              rcases if_some hF with ⟨h31, hF⟩ | ⟨h31, hF⟩
              · refine cw_cond_t rfl rfl h31 ?_
                refine cw_seq ?_
                refine cw_region ?_
                refine ow_vals 1 (j := 1) [2] [(2, .bool false)] rfl (by kernel_rfl) ?_
                refine ow_end rfl ?_
                refine ew_then ?_
                refine cw_ret ?_
                refine ew_then_ret ?_
                have hR := Option.some.inj hF
                subst hR
                have hR := hK23
                try dsimp only [Thru] at hR
                subst hR
                exact fin1 (H1 := [imm I]) (fun w hs => sat_to [1, 0] 1 rfl hs) rfl (rr_tmp rfl) ⟨rfl, rfl⟩
              · refine cw_cond_f rfl rfl h31 ?_
                refine cw_skip ?_
                have hR := Option.some.inj hF
                exact fun a w hf hs => ⟨hR, hf.keep [1], sat_to [0, 0] 0 rfl hs⟩
  · rintro a w ⟨hv, hf, hs⟩
    subst hv
    replace hF := hK23
    clear hK23
    try dsimp only [Thru] at hF
    revert a w
    show CW _ _ _ 74 [(1, .pointer (some ⟨b21, 0, none⟩))] (SAT w0 ([imm I, pt b21 #[.int .i64 x0.Size, .slice p0 x0.Picks.length c0, .slice p1 x0.Leaf.length c1, .slice p2 x0.Nodes.length c2] 25] ++ F0))
    unfold F.law30_right.r1 at hF
    obtain ⟨v32, hF, hK32⟩ := thru_some hF
    refine cw_mid (fun a w => .inl () = v32 ∧ Fr 74 [(1, .pointer (some ⟨b21, 0, none⟩))] a ∧ SAT w0 ([imm I, pt b21 #[.int .i64 x0.Size, .slice p0 x0.Picks.length c0, .slice p1 x0.Leaf.length c1, .slice p2 x0.Nodes.length c2] 25] ++ F0) w) ?_ ?_
    · refine cw_seq ?_
      refine cw_region ?_
      refine ow_vals 1 (j := 1) [1, 3] [(1, .pointer (some ⟨b21, 0, none⟩)), (3, .int .i64 0)] rfl (by kernel_rfl) ?_
      refine ow_end rfl ?_
      refine ew_then ?_
      refine cw_block ?_
      refine fun a w hf hs => wp_rounds (fun k a w => ∃ (x34 : Int), iter (fun x => F.law30_right.l2 x0 x) k x34 = some v32 ∧ Fr 74 [(1, .pointer (some ⟨b21, 0, none⟩)), (3, .int .i64 x34)] a ∧ SAT w0 ([imm I, pt b21 #[.int .i64 x0.Size, .slice p0 x0.Picks.length c0, .slice p1 x0.Leaf.length c1, .slice p2 x0.Nodes.length c2] 25] ++ F0) w) ?_ FUEL a w ⟨0, hF, hf.keep [1, 3], sat_to [0, 0] 0 rfl hs⟩
      clear hf hs
      clear a w hF
      rintro k a w ⟨x34, hF2, hf, hs⟩
      obtain ⟨k, r33, rfl, hF, hL33⟩ := iter_some hF2
      clear hF2
      revert a w
      show CW _ _ _ 74 [(1, .pointer (some ⟨b21, 0, none⟩)), (3, .int .i64 x34)] (SAT w0 ([imm I, pt b21 #[.int .i64 x0.Size, .slice p0 x0.Picks.length c0, .slice p1 x0.Leaf.length c1, .slice p2 x0.Nodes.length c2] 25] ++ F0))
      try dsimp only at hF
      unfold F.law30_right.l2 at hF
      refine cw_seq ?_
      refine cw_seq ?_
      refine cw_region ?_
      refine ow_vals 2 (j := 2) [1, 3, 42, 43] [(1, .pointer (some ⟨b21, 0, none⟩)), (3, .int .i64 x34), (42, .int .i64 x34), (43, .pointer (some ⟨b21, 2, none⟩))] rfl (by kernel_rfl) ?_
      refine ow_pw rfl (pw_quiet (v := .slice p1 x0.Leaf.length c1) rfl rfl rfl rfl (q_load 1 rfl rfl rfl (by kernel_rfl)) (nw_ow ?_))
      refine ow_vals 2 (j := 5) [1, 3, 46] [(1, .pointer (some ⟨b21, 0, none⟩)), (3, .int .i64 x34), (46, .bool (decide (x34 < (x0.Leaf.length : Int))))] rfl (by kernel_rfl) ?_
      refine ow_end rfl ?_
      refine ew_then ?_
      rcases if_some hF with ⟨h35, hF⟩ | ⟨h35, hF⟩
      · refine cw_cond_t rfl rfl h35 ?_
        refine cw_skip ?_
        refine ew_then ?_
        refine cw_seq ?_
        refine cw_block ?_
        refine cw_seq ?_
        refine cw_region ?_
        refine ow_vals 1 (j := 1) [1, 3, 49] [(1, .pointer (some ⟨b21, 0, none⟩)), (3, .int .i64 x34), (49, .pointer (some ⟨b21, 2, none⟩))] rfl (by kernel_rfl) ?_
        refine ow_pw rfl (pw_quiet (v := .slice p1 x0.Leaf.length c1) rfl rfl rfl rfl (q_load 1 rfl rfl rfl (by kernel_rfl)) (nw_ow ?_))
        refine ow_vals 1 (j := 3) [1, 3, 50, 51] [(1, .pointer (some ⟨b21, 0, none⟩)), (3, .int .i64 x34), (50, .slice p1 x0.Leaf.length c1), (51, .int .i64 x34)] rfl (by kernel_rfl) ?_
        obtain ⟨y36, h37, hF⟩ := bind_some hF
        refine ow_pw rfl (pw_index_ro (E := 9) 1 hr1 rfl rfl rfl rfl rfl (by kernel_rfl) rfl rfl rfl h37 fun q38 h39 => nw_ow ?_)
        refine ow_pw rfl (pw_quiet (v := .string y36) rfl rfl rfl rfl (q_load_el0 0 rfl h39 rfl rfl (by kernel_rfl)) (nw_ow ?_))
        refine ow_vals 2 (j := 7) [1, 3, 55] [(1, .pointer (some ⟨b21, 0, none⟩)), (3, .int .i64 x34), (55, .bool ((y36.size : Int) != 32))] rfl (by kernel_rfl) ?_
        refine ow_end rfl ?_
        refine ew_then ?_
        rcases if_some hF with ⟨h40, hF⟩ | ⟨h40, hF⟩
        · refine cw_cond_t rfl rfl h40 ?_
          refine cw_seq ?_
          refine cw_region ?_
          refine ow_vals 1 (j := 1) [2] [(2, .bool false)] rfl (by kernel_rfl) ?_
          refine ow_end rfl ?_
          refine ew_then ?_
          refine cw_ret ?_
          refine ew_blk_ret ?_
          refine ew_then_ret ?_
          refine ew_then_ret ?_
          refine ew_blk_ret ?_
          refine ew_then_ret ?_
          have hR := Option.some.inj hF
          subst hR
          have hR := hL33
          try dsimp only at hR
          subst hR
          have hR := hK32
          try dsimp only [Thru] at hR
          subst hR
          exact fin1 (H1 := [imm I]) (fun w hs => sat_to [1, 0] 1 rfl hs) rfl (rr_tmp rfl) ⟨rfl, rfl⟩
        · refine cw_cond_f rfl rfl h40 ?_
          refine cw_skip ?_
          refine ew_blk ?_
          refine ew_then ?_
          refine cw_region ?_
          refine ow_vals 3 (j := 3) [1, 3] [(1, .pointer (some ⟨b21, 0, none⟩)), (3, .int .i64 (IntKind.i64.wrap (x34 + 1)))] rfl (by kernel_rfl) ?_
          refine ow_end rfl ?_
          have hR := Option.some.inj hF
          subst hR
          have hR := hL33
          try dsimp only at hR
          exact fun a w hf hs => ⟨k, Nat.lt_succ_self k, IntKind.i64.wrap (x34 + 1), hR, hf.keep [1, 3], sat_to [0, 0] 0 rfl hs⟩
      · refine cw_cond_f rfl rfl h35 ?_
        refine cw_exit ?_
        refine ew_then_exit ?_
        refine ew_then_exit ?_
        refine ew_blk_exit ?_
        have hR := Option.some.inj hF
        subst hR
        have hR := hL33
        try dsimp only at hR
        exact fun a w hf hs => ⟨hR, hf.keep [1], sat_to [0, 0] 0 rfl hs⟩
    · rintro a w ⟨hv, hf, hs⟩
      subst hv
      replace hF := hK32
      clear hK32
      try dsimp only [Thru] at hF
      revert a w
      show CW _ _ _ 74 [(1, .pointer (some ⟨b21, 0, none⟩))] (SAT w0 ([imm I, pt b21 #[.int .i64 x0.Size, .slice p0 x0.Picks.length c0, .slice p1 x0.Leaf.length c1, .slice p2 x0.Nodes.length c2] 25] ++ F0))
      unfold F.law30_right.r3 at hF
      obtain ⟨v41, hF, hK41⟩ := thru_some hF
      refine cw_mid (fun a w => .inl () = v41 ∧ Fr 74 [(1, .pointer (some ⟨b21, 0, none⟩))] a ∧ SAT w0 ([imm I, pt b21 #[.int .i64 x0.Size, .slice p0 x0.Picks.length c0, .slice p1 x0.Leaf.length c1, .slice p2 x0.Nodes.length c2] 25] ++ F0) w) ?_ ?_
      · refine cw_seq ?_
        refine cw_region ?_
        refine ow_vals 1 (j := 1) [1, 4] [(1, .pointer (some ⟨b21, 0, none⟩)), (4, .int .i64 0)] rfl (by kernel_rfl) ?_
        refine ow_end rfl ?_
        refine ew_then ?_
        refine cw_block ?_
        refine fun a w hf hs => wp_rounds (fun k a w => ∃ (x43 : Int), iter (fun x => F.law30_right.l4 x0 x) k x43 = some v41 ∧ Fr 74 [(1, .pointer (some ⟨b21, 0, none⟩)), (4, .int .i64 x43)] a ∧ SAT w0 ([imm I, pt b21 #[.int .i64 x0.Size, .slice p0 x0.Picks.length c0, .slice p1 x0.Leaf.length c1, .slice p2 x0.Nodes.length c2] 25] ++ F0) w) ?_ FUEL a w ⟨0, hF, hf.keep [1, 4], sat_to [0, 0] 0 rfl hs⟩
        clear hf hs
        clear a w hF
        rintro k a w ⟨x43, hF2, hf, hs⟩
        obtain ⟨k, r42, rfl, hF, hL42⟩ := iter_some hF2
        clear hF2
        revert a w
        show CW _ _ _ 74 [(1, .pointer (some ⟨b21, 0, none⟩)), (4, .int .i64 x43)] (SAT w0 ([imm I, pt b21 #[.int .i64 x0.Size, .slice p0 x0.Picks.length c0, .slice p1 x0.Leaf.length c1, .slice p2 x0.Nodes.length c2] 25] ++ F0))
        try dsimp only at hF
        unfold F.law30_right.l4 at hF
        refine cw_seq ?_
        refine cw_seq ?_
        refine cw_region ?_
        refine ow_vals 2 (j := 2) [1, 4, 56, 57] [(1, .pointer (some ⟨b21, 0, none⟩)), (4, .int .i64 x43), (56, .int .i64 x43), (57, .pointer (some ⟨b21, 3, none⟩))] rfl (by kernel_rfl) ?_
        refine ow_pw rfl (pw_quiet (v := .slice p2 x0.Nodes.length c2) rfl rfl rfl rfl (q_load 1 rfl rfl rfl (by kernel_rfl)) (nw_ow ?_))
        refine ow_vals 2 (j := 5) [1, 4, 60] [(1, .pointer (some ⟨b21, 0, none⟩)), (4, .int .i64 x43), (60, .bool (decide (x43 < (x0.Nodes.length : Int))))] rfl (by kernel_rfl) ?_
        refine ow_end rfl ?_
        refine ew_then ?_
        rcases if_some hF with ⟨h44, hF⟩ | ⟨h44, hF⟩
        · refine cw_cond_t rfl rfl h44 ?_
          refine cw_skip ?_
          refine ew_then ?_
          refine cw_seq ?_
          refine cw_block ?_
          refine cw_seq ?_
          refine cw_region ?_
          refine ow_vals 1 (j := 1) [1, 4, 63] [(1, .pointer (some ⟨b21, 0, none⟩)), (4, .int .i64 x43), (63, .pointer (some ⟨b21, 3, none⟩))] rfl (by kernel_rfl) ?_
          refine ow_pw rfl (pw_quiet (v := .slice p2 x0.Nodes.length c2) rfl rfl rfl rfl (q_load 1 rfl rfl rfl (by kernel_rfl)) (nw_ow ?_))
          refine ow_vals 1 (j := 3) [1, 4, 64, 65] [(1, .pointer (some ⟨b21, 0, none⟩)), (4, .int .i64 x43), (64, .slice p2 x0.Nodes.length c2), (65, .int .i64 x43)] rfl (by kernel_rfl) ?_
          obtain ⟨y45, h46, hF⟩ := bind_some hF
          refine ow_pw rfl (pw_index_ro (E := 9) 1 hr2 rfl rfl rfl rfl rfl (by kernel_rfl) rfl rfl rfl h46 fun q47 h48 => nw_ow ?_)
          refine ow_pw rfl (pw_quiet (v := .string y45) rfl rfl rfl rfl (q_load_el0 0 rfl h48 rfl rfl (by kernel_rfl)) (nw_ow ?_))
          refine ow_vals 2 (j := 7) [1, 4, 69] [(1, .pointer (some ⟨b21, 0, none⟩)), (4, .int .i64 x43), (69, .bool ((y45.size : Int) != 32))] rfl (by kernel_rfl) ?_
          refine ow_end rfl ?_
          refine ew_then ?_
          rcases if_some hF with ⟨h49, hF⟩ | ⟨h49, hF⟩
          · refine cw_cond_t rfl rfl h49 ?_
            refine cw_seq ?_
            refine cw_region ?_
            refine ow_vals 1 (j := 1) [2] [(2, .bool false)] rfl (by kernel_rfl) ?_
            refine ow_end rfl ?_
            refine ew_then ?_
            refine cw_ret ?_
            refine ew_blk_ret ?_
            refine ew_then_ret ?_
            refine ew_then_ret ?_
            refine ew_blk_ret ?_
            refine ew_then_ret ?_
            have hR := Option.some.inj hF
            subst hR
            have hR := hL42
            try dsimp only at hR
            subst hR
            have hR := hK41
            try dsimp only [Thru] at hR
            subst hR
            exact fin1 (H1 := [imm I]) (fun w hs => sat_to [1, 0] 1 rfl hs) rfl (rr_tmp rfl) ⟨rfl, rfl⟩
          · refine cw_cond_f rfl rfl h49 ?_
            refine cw_skip ?_
            refine ew_blk ?_
            refine ew_then ?_
            refine cw_region ?_
            refine ow_vals 3 (j := 3) [1, 4] [(1, .pointer (some ⟨b21, 0, none⟩)), (4, .int .i64 (IntKind.i64.wrap (x43 + 1)))] rfl (by kernel_rfl) ?_
            refine ow_end rfl ?_
            have hR := Option.some.inj hF
            subst hR
            have hR := hL42
            try dsimp only at hR
            exact fun a w hf hs => ⟨k, Nat.lt_succ_self k, IntKind.i64.wrap (x43 + 1), hR, hf.keep [1, 4], sat_to [0, 0] 0 rfl hs⟩
        · refine cw_cond_f rfl rfl h44 ?_
          refine cw_exit ?_
          refine ew_then_exit ?_
          refine ew_then_exit ?_
          refine ew_blk_exit ?_
          have hR := Option.some.inj hF
          subst hR
          have hR := hL42
          try dsimp only at hR
          exact fun a w hf hs => ⟨hR, hf.keep [1], sat_to [0, 0] 0 rfl hs⟩
      · rintro a w ⟨hv, hf, hs⟩
        subst hv
        replace hF := hK41
        clear hK41
        try dsimp only [Thru] at hF
        revert a w
        show CW _ _ _ 74 [(1, .pointer (some ⟨b21, 0, none⟩))] (SAT w0 ([imm I, pt b21 #[.int .i64 x0.Size, .slice p0 x0.Picks.length c0, .slice p1 x0.Leaf.length c1, .slice p2 x0.Nodes.length c2] 25] ++ F0))
        unfold F.law30_right.r5 at hF
        refine cw_seq ?_
        refine cw_region ?_
        refine ow_vals 1 (j := 1) [70] [(70, .pointer (some ⟨b21, 3, none⟩))] rfl (by kernel_rfl) ?_
        refine ow_pw rfl (pw_quiet (v := .slice p2 x0.Nodes.length c2) rfl rfl rfl rfl (q_load 1 rfl rfl rfl (by kernel_rfl)) (nw_ow ?_))
        refine ow_vals 3 (j := 5) [2] [(2, .bool (decide ((x0.Nodes.length : Int) ≤ 1024)))] rfl (by kernel_rfl) ?_
        refine ow_end rfl ?_
        refine ew_then ?_
        refine cw_ret ?_
        have hR := Option.some.inj hF
        subst hR
        exact fin1 (H1 := [imm I]) (fun w hs => sat_to [1, 0] 1 rfl hs) rfl (rr_tmp rfl) ⟨rfl, rfl⟩

end Go.Proofs.Ytoamnhmdhficiaa
