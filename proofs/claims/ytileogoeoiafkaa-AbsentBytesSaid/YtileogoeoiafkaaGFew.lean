/- What the functions compute, and that the code computes it: printed by a program of this claim (wip/tools), for the group Few. -/
import Derived.Test.YtileogoeoiafkaaGAbs
import Derived.Test.YtileogoeoiafkaaFw2
namespace Go.Proofs.Ytileogoeoiafkaa
set_option linter.all false
open Go Go.RowKit Go.Fw
set_option linter.unusedVariables false

def F.law24_Few.r1 (x0 : absent_Proof) (x31 : Int) (l32 : List absent_Side) : Option ((Int × (List absent_Side)) ⊕ ((List absent_Side))) :=
  Option.bind (at_ x0.Sides x31) (fun (y39 : absent_Side) => if decide ((y39.ID.size : Int) > 100) then (chk (0 ≤ (0 : Int) ∧ (0 : Int) ≤ (100 : Int) ∧ (100 : Int) ≤ (y39.ID.size : Int)) (Option.bind (F.law24_few y39.Path) (fun (r52 : (List ByteArray)) => chk (room (l32.length + ([(⟨y39.Index, y39.ID.extract (0 : Int).toNat (100 : Int).toNat, r52⟩ : absent_Side)] : List absent_Side).length) 48) (some (.inl (IntKind.i64.wrap (x31 + 1), l32 ++ ([(⟨y39.Index, y39.ID.extract (0 : Int).toNat (100 : Int).toNat, r52⟩ : absent_Side)] : List absent_Side))))))) else (Option.bind (F.law24_few y39.Path) (fun (r72 : (List ByteArray)) => chk (room (l32.length + ([(⟨y39.Index, y39.ID, r72⟩ : absent_Side)] : List absent_Side).length) 48) (some (.inl (IntKind.i64.wrap (x31 + 1), l32 ++ ([(⟨y39.Index, y39.ID, r72⟩ : absent_Side)] : List absent_Side)))))))
def F.law24_Few.l2 (x0 : absent_Proof) (x31 : Int) (l32 : List absent_Side) : Option ((Int × (List absent_Side)) ⊕ ((List absent_Side))) :=
  thru (if decide (x31 < (x0.Sides.length : Int)) then (if decide (x31 < 5) then (some (.inl ())) else (some (.inr (.inr (l32))))) else (some (.inr (.inr (l32))))) (fun x => F.law24_Few.r1 x0 x31 l32)
def F.law24_Few.r3 (x0 : absent_Proof) (l94 : List absent_Side) : Option (absent_Proof) :=
  some ((⟨x0.Size, l94⟩ : absent_Proof))
def F.law24_Few (x0 : absent_Proof) : Option absent_Proof :=
  Option.bind (iter (fun x => F.law24_Few.l2 x0 x.1 x.2) FUEL (0, [])) (fun x => F.law24_Few.r3 x0 x)
set_option maxRecDepth 100000 in
set_option maxHeartbeats 4000000 in
theorem c_law24_Few (I : Hl) (x0 : absent_Proof) (p0 : Option Addr) (c0 : Nat) (res : absent_Proof) (hF : F.law24_Few x0 = some res) (hr0 : roN I n_absent_Side p0 c0 x0.Sides) : Tr Try.prog 22 [.agg #[.int .i64 x0.Size, .slice p0 x0.Sides.length c0]] [imm I] (fun r H' => ∃ (J : Hl), ∃ (pq1 : Option Addr), ∃ (cq2 : Nat), r = .agg #[.int .i64 res.Size, .slice pq1 res.Sides.length cq2] ∧ H' = [imm J, ownN J n_absent_Side 43 pq1 cq2 res.Sides] ∧ Hl.sub I J) := by
  unfold F.law24_Few at hF
  refine tr_of_cw (fn := Try.f22) Try.func22 rfl (Nat.le_of_ble_eq_true rfl) 44 rfl fun F0 w0 => ?_
  refine cw_keep [0] (L' := [(0, .agg #[.int .i64 x0.Size, .slice p0 x0.Sides.length c0])]) rfl ?_
  refine cw_state (S' := SAT w0 ([imm I] ++ F0)) (fun w hs => hs) ?_
  refine cw_seq ?_
  refine cw_region ?_
  refine ow_pw rfl (pw_box (cs := #[.int .i64 x0.Size, .slice p0 x0.Sides.length c0]) rfl rfl rfl rfl rfl rfl fun b21 => nw_ow ?_)
  refine ow_pw rfl (pw_alloc (cs := #[.int .i64 0, .slice none 0 0]) rfl rfl rfl rfl rfl (by kernel_rfl) fun b23 => nw_ow ?_)
  refine ow_end rfl ?_
  refine ew_then ?_
  refine cw_seq ?_
  refine cw_region ?_
  refine ow_vals 1 (j := 1) [1, 2, 6] [(1, .pointer (some ⟨b21, 0, none⟩)), (2, .pointer (some ⟨b23, 0, none⟩)), (6, .pointer (some ⟨b21, 0, none⟩))] rfl (by kernel_rfl) ?_
  refine ow_pw rfl (pw_quiet (v := .int .i64 x0.Size) rfl rfl rfl rfl (q_load 1 rfl rfl rfl (by kernel_rfl)) (nw_ow ?_))
  refine ow_vals 1 (j := 3) [1, 2, 8] [(1, .pointer (some ⟨b21, 0, none⟩)), (2, .pointer (some ⟨b23, 0, none⟩)), (8, .agg #[.int .i64 x0.Size, .slice none 0 0])] rfl (by kernel_rfl) ?_
  refine ow_pw rfl (pw_alloc (cs := #[.int .i64 0, .slice none 0 0]) rfl rfl rfl rfl rfl (by kernel_rfl) fun b25 => nw_ow ?_)
  refine ow_pw rfl (pw_store 0 #[.int .i64 x0.Size, .slice none 0 0] rfl rfl rfl rfl rfl rfl rfl (by kernel_rfl) (nw_H (H' := [pt b25 #[.int .i64 x0.Size, .slice none 0 0] 35, pt b23 #[.int .i64 0, .slice none 0 0] 35, pt b21 #[.int .i64 x0.Size, .slice p0 x0.Sides.length c0] 35, imm I] ++ F0) rfl (nw_ow ?_)))
  refine ow_end rfl ?_
  refine ew_then ?_
  obtain ⟨v27, hF, hK27⟩ := bind_some hF
  refine cw_mid (fun a w => ∃ (l94 : List absent_Side), ∃ (J92 : Hl), ∃ (p95 : Option Addr), ∃ (c96 : Nat), l94 = v27 ∧ Hl.sub I J92 ∧ Fr 44 [(2, .pointer (some ⟨b23, 0, none⟩)), (3, .pointer (some ⟨b25, 0, none⟩))] a ∧ SAT w0 ([imm J92, pt b25 #[.int .i64 x0.Size, .slice p95 l94.length c96] 35, pt b23 #[.int .i64 0, .slice none 0 0] 35, pt b21 #[.int .i64 x0.Size, .slice p0 x0.Sides.length c0] 35, ownN J92 n_absent_Side 43 p95 c96 l94] ++ F0) w) ?_ ?_
  · refine cw_seq ?_
    refine cw_region ?_
    refine ow_vals 1 (j := 1) [1, 2, 3, 4] [(1, .pointer (some ⟨b21, 0, none⟩)), (2, .pointer (some ⟨b23, 0, none⟩)), (3, .pointer (some ⟨b25, 0, none⟩)), (4, .int .i64 0)] rfl (by kernel_rfl) ?_
    refine ow_end rfl ?_
    refine ew_then ?_
    refine cw_block ?_
    refine fun a w hf hs => wp_rounds (fun k a w => ∃ (x31 : Int), ∃ (l32 : List absent_Side), ∃ (J29 : Hl), ∃ (p33 : Option Addr), ∃ (c34 : Nat), iter (fun x => F.law24_Few.l2 x0 x.1 x.2) k (x31, l32) = some v27 ∧ Hl.sub I J29 ∧ Fr 44 [(1, .pointer (some ⟨b21, 0, none⟩)), (2, .pointer (some ⟨b23, 0, none⟩)), (3, .pointer (some ⟨b25, 0, none⟩)), (4, .int .i64 x31)] a ∧ SAT w0 ([imm J29, pt b25 #[.int .i64 x0.Size, .slice p33 l32.length c34] 35, pt b23 #[.int .i64 0, .slice none 0 0] 35, pt b21 #[.int .i64 x0.Size, .slice p0 x0.Sides.length c0] 35, ownN J29 n_absent_Side 43 p33 c34 l32] ++ F0) w) ?_ FUEL a w ⟨0, [], I, none, 0, hF, Hl.sub_refl _, hf.keep [1, 2, 3, 4], sat_to [4, 1, 1, 1, 0] 0 rfl (sat_ownN_nil I n_absent_Side 43 hs)⟩
    clear hf hs
    clear a w hF
    rintro k a w ⟨x31, l32, J29, p33, c34, hF2, h30, hf, hs⟩
    obtain ⟨k, r28, rfl, hF, hL28⟩ := iter_some hF2
    clear hF2
    revert a w
    show CW _ _ _ 44 [(1, .pointer (some ⟨b21, 0, none⟩)), (2, .pointer (some ⟨b23, 0, none⟩)), (3, .pointer (some ⟨b25, 0, none⟩)), (4, .int .i64 x31)] (SAT w0 ([imm J29, pt b25 #[.int .i64 x0.Size, .slice p33 l32.length c34] 35, pt b23 #[.int .i64 0, .slice none 0 0] 35, pt b21 #[.int .i64 x0.Size, .slice p0 x0.Sides.length c0] 35, ownN J29 n_absent_Side 43 p33 c34 l32] ++ F0))
    try dsimp only at hF
    unfold F.law24_Few.l2 at hF
    have hr0 := roN.sub h30 hr0
    obtain ⟨v36, hF, hK36⟩ := thru_some hF
    refine cw_mid (fun a w => .inl () = v36 ∧ Fr 44 [(1, .pointer (some ⟨b21, 0, none⟩)), (2, .pointer (some ⟨b23, 0, none⟩)), (3, .pointer (some ⟨b25, 0, none⟩)), (4, .int .i64 x31)] a ∧ SAT w0 ([imm J29, pt b25 #[.int .i64 x0.Size, .slice p33 l32.length c34] 35, pt b23 #[.int .i64 0, .slice none 0 0] 35, pt b21 #[.int .i64 x0.Size, .slice p0 x0.Sides.length c0] 35, ownN J29 n_absent_Side 43 p33 c34 l32] ++ F0) w) ?_ ?_
    · refine cw_seq ?_
      refine cw_region ?_
      refine ow_vals 2 (j := 2) [1, 2, 3, 4, 9, 10] [(1, .pointer (some ⟨b21, 0, none⟩)), (2, .pointer (some ⟨b23, 0, none⟩)), (3, .pointer (some ⟨b25, 0, none⟩)), (4, .int .i64 x31), (9, .int .i64 x31), (10, .pointer (some ⟨b21, 1, none⟩))] rfl (by kernel_rfl) ?_
      refine ow_pw rfl (pw_quiet (v := .slice p0 x0.Sides.length c0) rfl rfl rfl rfl (q_load 3 rfl rfl rfl (by kernel_rfl)) (nw_ow ?_))
      refine ow_vals 3 (j := 6) [1, 2, 3, 4, 14] [(1, .pointer (some ⟨b21, 0, none⟩)), (2, .pointer (some ⟨b23, 0, none⟩)), (3, .pointer (some ⟨b25, 0, none⟩)), (4, .int .i64 x31), (14, .bool (decide (x31 < (x0.Sides.length : Int))))] rfl (by kernel_rfl) ?_
      rcases if_some hF with ⟨h37, hF⟩ | ⟨h37, hF⟩
      · refine ow_slots (L' := [(1, .pointer (some ⟨b21, 0, none⟩)), (2, .pointer (some ⟨b23, 0, none⟩)), (3, .pointer (some ⟨b25, 0, none⟩)), (4, .int .i64 x31), (14, .bool true)]) (by rw [h37]) ?_
        refine ow_vals 3 (j := 9) [1, 2, 3, 4, 17] [(1, .pointer (some ⟨b21, 0, none⟩)), (2, .pointer (some ⟨b23, 0, none⟩)), (3, .pointer (some ⟨b25, 0, none⟩)), (4, .int .i64 x31), (17, .bool (decide (x31 < 5)))] rfl (by kernel_rfl) ?_
        refine ow_end rfl ?_
        refine ew_then ?_
        rcases if_some hF with ⟨h38, hF⟩ | ⟨h38, hF⟩
        · refine cw_cond_t rfl rfl h38 ?_
          refine cw_skip ?_
          have hR := Option.some.inj hF
          exact fun a w hf hs => ⟨hR, hf.keep [1, 2, 3, 4], sat_to [0, 0, 0, 0, 0] 0 rfl hs⟩
        refine cw_cond_f rfl rfl h38 ?_
        refine cw_exit ?_
        refine ew_then_exit ?_
        refine ew_then_exit ?_
        refine ew_blk_exit ?_
        have hR := Option.some.inj hF
        subst hR
        have hR := hK36
        try dsimp only [Thru] at hR
        subst hR
        have hR := hL28
        try dsimp only at hR
        exact fun a w hf hs => ⟨l32, J29, p33, c34, hR, h30, hf.keep [2, 3], sat_to [0, 0, 0, 0, 0] 0 rfl hs⟩
      refine ow_slots (L' := [(1, .pointer (some ⟨b21, 0, none⟩)), (2, .pointer (some ⟨b23, 0, none⟩)), (3, .pointer (some ⟨b25, 0, none⟩)), (4, .int .i64 x31), (14, .bool false)]) (by rw [h37]) ?_
      refine ow_vals 3 (j := 9) [1, 2, 3, 4, 17] [(1, .pointer (some ⟨b21, 0, none⟩)), (2, .pointer (some ⟨b23, 0, none⟩)), (3, .pointer (some ⟨b25, 0, none⟩)), (4, .int .i64 x31), (17, .bool false)] rfl (by kernel_rfl) ?_
      refine ow_end rfl ?_
      refine ew_then ?_
      refine cw_cond_f rfl rfl rfl ?_
      refine cw_exit ?_
      refine ew_then_exit ?_
      refine ew_then_exit ?_
      refine ew_blk_exit ?_
      have hR := Option.some.inj hF
      subst hR
      have hR := hK36
      try dsimp only [Thru] at hR
      subst hR
      have hR := hL28
      try dsimp only at hR
      exact fun a w hf hs => ⟨l32, J29, p33, c34, hR, h30, hf.keep [2, 3], sat_to [0, 0, 0, 0, 0] 0 rfl hs⟩
    rintro a w ⟨hv, hf, hs⟩
    subst hv
    replace hF := hK36
    clear hK36
    try dsimp only [Thru] at hF
    revert a w
    show CW _ _ _ 44 [(1, .pointer (some ⟨b21, 0, none⟩)), (2, .pointer (some ⟨b23, 0, none⟩)), (3, .pointer (some ⟨b25, 0, none⟩)), (4, .int .i64 x31)] (SAT w0 ([imm J29, pt b25 #[.int .i64 x0.Size, .slice p33 l32.length c34] 35, pt b23 #[.int .i64 0, .slice none 0 0] 35, pt b21 #[.int .i64 x0.Size, .slice p0 x0.Sides.length c0] 35, ownN J29 n_absent_Side 43 p33 c34 l32] ++ F0))
    unfold F.law24_Few.r1 at hF
    refine cw_seq ?_
    refine cw_block ?_
    refine cw_seq ?_
    refine cw_region ?_
    refine ow_vals 1 (j := 1) [1, 2, 3, 4, 20] [(1, .pointer (some ⟨b21, 0, none⟩)), (2, .pointer (some ⟨b23, 0, none⟩)), (3, .pointer (some ⟨b25, 0, none⟩)), (4, .int .i64 x31), (20, .pointer (some ⟨b21, 1, none⟩))] rfl (by kernel_rfl) ?_
    refine ow_pw rfl (pw_quiet (v := .slice p0 x0.Sides.length c0) rfl rfl rfl rfl (q_load 3 rfl rfl rfl (by kernel_rfl)) (nw_ow ?_))
    refine ow_vals 1 (j := 3) [1, 2, 3, 4, 21, 22] [(1, .pointer (some ⟨b21, 0, none⟩)), (2, .pointer (some ⟨b23, 0, none⟩)), (3, .pointer (some ⟨b25, 0, none⟩)), (4, .int .i64 x31), (21, .slice p0 x0.Sides.length c0), (22, .int .i64 x31)] rfl (by kernel_rfl) ?_
    obtain ⟨y39, h40, hF⟩ := bind_some hF
    refine ow_pw rfl (pw_index_roN (E := 43) 3 hr0 rfl rfl rfl rfl rfl (by kernel_rfl) rfl rfl rfl h40 fun q41 h42 => nw_ow ?_)
    obtain ⟨r43, h44, h45, h46⟩ := (id h42)
    have h47 : ro J29 eStr r43.Path.p r43.Path.c y39.Path := by subst h45; exact h46
    refine ow_pw rfl (pw_quiet (v := .agg #[.int .i64 y39.Index, .string y39.ID, .slice r43.Path.p y39.Path.length r43.Path.c]) rfl rfl rfl rfl (q_load_el0 0 rfl h44 rfl rfl (by subst h45; kernel_rfl)) (nw_ow ?_))
    refine ow_pw rfl (pw_alloc (cs := #[.int .i64 0, .string (ByteArray.mk #[]), .slice none 0 0]) rfl rfl rfl rfl rfl (by kernel_rfl) fun b48 => nw_ow ?_)
    refine ow_pw rfl (pw_store 0 #[.int .i64 y39.Index, .string y39.ID, .slice r43.Path.p y39.Path.length r43.Path.c] rfl rfl rfl rfl rfl rfl rfl (by kernel_rfl) (nw_H (H' := [pt b48 #[.int .i64 y39.Index, .string y39.ID, .slice r43.Path.p y39.Path.length r43.Path.c] 43, imm J29, pt b25 #[.int .i64 x0.Size, .slice p33 l32.length c34] 35, pt b23 #[.int .i64 0, .slice none 0 0] 35, pt b21 #[.int .i64 x0.Size, .slice p0 x0.Sides.length c0] 35, ownN J29 n_absent_Side 43 p33 c34 l32] ++ F0) rfl (nw_ow ?_)))
    refine ow_end rfl ?_
    refine ew_then ?_
    refine cw_seq ?_
    refine cw_seq ?_
    refine cw_region ?_
    refine ow_vals 1 (j := 1) [1, 2, 3, 4, 5, 25] [(1, .pointer (some ⟨b21, 0, none⟩)), (2, .pointer (some ⟨b23, 0, none⟩)), (3, .pointer (some ⟨b25, 0, none⟩)), (4, .int .i64 x31), (5, .pointer (some ⟨b48, 0, none⟩)), (25, .pointer (some ⟨b48, 1, none⟩))] rfl (by kernel_rfl) ?_
    refine ow_pw rfl (pw_quiet (v := .string y39.ID) rfl rfl rfl rfl (q_load 0 rfl rfl rfl (by kernel_rfl)) (nw_ow ?_))
    refine ow_vals 2 (j := 4) [1, 2, 3, 4, 5, 28] [(1, .pointer (some ⟨b21, 0, none⟩)), (2, .pointer (some ⟨b23, 0, none⟩)), (3, .pointer (some ⟨b25, 0, none⟩)), (4, .int .i64 x31), (5, .pointer (some ⟨b48, 0, none⟩)), (28, .bool (decide ((y39.ID.size : Int) > 100)))] rfl (by kernel_rfl) ?_
    refine ow_end rfl ?_
    refine ew_then ?_
    rcases if_some hF with ⟨h50, hF⟩ | ⟨h50, hF⟩
    · refine cw_cond_t rfl rfl h50 ?_
      refine cw_region ?_
      refine ow_vals 1 (j := 1) [1, 2, 3, 4, 5, 29] [(1, .pointer (some ⟨b21, 0, none⟩)), (2, .pointer (some ⟨b23, 0, none⟩)), (3, .pointer (some ⟨b25, 0, none⟩)), (4, .int .i64 x31), (5, .pointer (some ⟨b48, 0, none⟩)), (29, .pointer (some ⟨b48, 1, none⟩))] rfl (by kernel_rfl) ?_
      refine ow_pw rfl (pw_quiet (v := .string y39.ID) rfl rfl rfl rfl (q_load 0 rfl rfl rfl (by kernel_rfl)) (nw_ow ?_))
      obtain ⟨h51, hF⟩ := chk_some hF
      refine ow_pw rfl (pw_quiet (v := .string (y39.ID.extract (0 : Int).toNat (100 : Int).toNat)) rfl rfl rfl rfl (q_slice_str rfl (by kernel_rfl) rfl rfl rfl h51.1 h51.2.1 h51.2.2) (nw_ow ?_))
      refine ow_vals 1 (j := 4) [1, 2, 3, 4, 5, 31, 32] [(1, .pointer (some ⟨b21, 0, none⟩)), (2, .pointer (some ⟨b23, 0, none⟩)), (3, .pointer (some ⟨b25, 0, none⟩)), (4, .int .i64 x31), (5, .pointer (some ⟨b48, 0, none⟩)), (31, .string (y39.ID.extract (0 : Int).toNat (100 : Int).toNat)), (32, .pointer (some ⟨b48, 1, none⟩))] rfl (by kernel_rfl) ?_
      refine ow_pw rfl (pw_store 0 #[.int .i64 y39.Index, .string (y39.ID.extract (0 : Int).toNat (100 : Int).toNat), .slice r43.Path.p y39.Path.length r43.Path.c] rfl rfl rfl rfl rfl rfl rfl (by kernel_rfl) (nw_H (H' := [pt b48 #[.int .i64 y39.Index, .string (y39.ID.extract (0 : Int).toNat (100 : Int).toNat), .slice r43.Path.p y39.Path.length r43.Path.c] 43, imm J29, pt b25 #[.int .i64 x0.Size, .slice p33 l32.length c34] 35, pt b23 #[.int .i64 0, .slice none 0 0] 35, pt b21 #[.int .i64 x0.Size, .slice p0 x0.Sides.length c0] 35, ownN J29 n_absent_Side 43 p33 c34 l32] ++ F0) rfl (nw_ow ?_)))
      refine ow_end rfl ?_
      refine ew_then ?_
      refine cw_seq ?_
      refine cw_region ?_
      refine ow_vals 1 (j := 1) [1, 2, 3, 4, 5, 33] [(1, .pointer (some ⟨b21, 0, none⟩)), (2, .pointer (some ⟨b23, 0, none⟩)), (3, .pointer (some ⟨b25, 0, none⟩)), (4, .int .i64 x31), (5, .pointer (some ⟨b48, 0, none⟩)), (33, .pointer (some ⟨b48, 2, none⟩))] rfl (by kernel_rfl) ?_
      refine ow_pw rfl (pw_quiet (v := .slice r43.Path.p y39.Path.length r43.Path.c) rfl rfl rfl rfl (q_load 0 rfl rfl rfl (by kernel_rfl)) (nw_ow ?_))
      obtain ⟨r52, h53, hF⟩ := bind_some hF
      refine ow_pw rfl (pw_call (F := [pt b48 #[.int .i64 y39.Index, .string (y39.ID.extract (0 : Int).toNat (100 : Int).toNat), .slice r43.Path.p y39.Path.length r43.Path.c] 43, pt b25 #[.int .i64 x0.Size, .slice p33 l32.length c34] 35, pt b23 #[.int .i64 0, .slice none 0 0] 35, pt b21 #[.int .i64 x0.Size, .slice p0 x0.Sides.length c0] 35, ownN J29 n_absent_Side 43 p33 c34 l32] ++ F0) rfl rfl rfl rfl rfl rfl rfl (by kernel_rfl) (perm_of_pulls [1] rfl) (c_law24_few _ y39.Path r43.Path.p r43.Path.c r52 h53 h47) ?_)
      rintro _ _ ⟨r52_p1, r52_c2, rfl, rfl⟩
      refine nw_H (H' := [imm J29, own eStr 9 r52_p1 r52_c2 r52, pt b48 #[.int .i64 y39.Index, .string (y39.ID.extract (0 : Int).toNat (100 : Int).toNat), .slice r43.Path.p y39.Path.length r43.Path.c] 43, pt b25 #[.int .i64 x0.Size, .slice p33 l32.length c34] 35, pt b23 #[.int .i64 0, .slice none 0 0] 35, pt b21 #[.int .i64 x0.Size, .slice p0 x0.Sides.length c0] 35, ownN J29 n_absent_Side 43 p33 c34 l32] ++ F0) rfl (nw_ow ?_)
      refine ow_vals 1 (j := 4) [1, 2, 3, 4, 5, 35, 36] [(1, .pointer (some ⟨b21, 0, none⟩)), (2, .pointer (some ⟨b23, 0, none⟩)), (3, .pointer (some ⟨b25, 0, none⟩)), (4, .int .i64 x31), (5, .pointer (some ⟨b48, 0, none⟩)), (35, .slice r52_p1 r52.length r52_c2), (36, .pointer (some ⟨b48, 2, none⟩))] rfl (by kernel_rfl) ?_
      refine ow_pw rfl (pw_store 2 #[.int .i64 y39.Index, .string (y39.ID.extract (0 : Int).toNat (100 : Int).toNat), .slice r52_p1 r52.length r52_c2] rfl rfl rfl rfl rfl rfl rfl (by kernel_rfl) (nw_H (H' := [imm J29, own eStr 9 r52_p1 r52_c2 r52, pt b48 #[.int .i64 y39.Index, .string (y39.ID.extract (0 : Int).toNat (100 : Int).toNat), .slice r52_p1 r52.length r52_c2] 43, pt b25 #[.int .i64 x0.Size, .slice p33 l32.length c34] 35, pt b23 #[.int .i64 0, .slice none 0 0] 35, pt b21 #[.int .i64 x0.Size, .slice p0 x0.Sides.length c0] 35, ownN J29 n_absent_Side 43 p33 c34 l32] ++ F0) rfl (nw_ow ?_)))
      refine ow_end rfl ?_
      refine ew_then ?_
      refine cw_region ?_
      refine ow_vals 1 (j := 1) [1, 2, 3, 4, 5, 37] [(1, .pointer (some ⟨b21, 0, none⟩)), (2, .pointer (some ⟨b23, 0, none⟩)), (3, .pointer (some ⟨b25, 0, none⟩)), (4, .int .i64 x31), (5, .pointer (some ⟨b48, 0, none⟩)), (37, .pointer (some ⟨b25, 1, none⟩))] rfl (by kernel_rfl) ?_
      refine ow_pw rfl (pw_quiet (v := .slice p33 l32.length c34) rfl rfl rfl rfl (q_load 3 rfl rfl rfl (by kernel_rfl)) (nw_ow ?_))
      refine ow_pw rfl (pw_quiet (v := .agg #[.int .i64 y39.Index, .string (y39.ID.extract (0 : Int).toNat (100 : Int).toNat), .slice r52_p1 r52.length r52_c2]) rfl rfl rfl rfl (q_load 2 rfl rfl rfl (by kernel_rfl)) (nw_ow ?_))
      refine ow_freeze (fun w hs => sat_to [0, 0] 0 (F := [imm J29, own eStr 9 r52_p1 r52_c2 r52, pt b48 #[.int .i64 y39.Index, .string (y39.ID.extract (0 : Int).toNat (100 : Int).toNat), .slice r52_p1 r52.length r52_c2] 43, pt b25 #[.int .i64 x0.Size, .slice p33 l32.length c34] 35, pt b23 #[.int .i64 0, .slice none 0 0] 35, pt b21 #[.int .i64 x0.Size, .slice p0 x0.Sides.length c0] 35, ownN J29 n_absent_Side 43 p33 c34 l32] ++ F0) rfl hs) fun J55 h56 h57 => ?_
      have hr0 := roN.sub h56 hr0
      refine ow_H (H' := [imm J55, pt b48 #[.int .i64 y39.Index, .string (y39.ID.extract (0 : Int).toNat (100 : Int).toNat), .slice r52_p1 r52.length r52_c2] 43, pt b25 #[.int .i64 x0.Size, .slice p33 l32.length c34] 35, pt b23 #[.int .i64 0, .slice none 0 0] 35, pt b21 #[.int .i64 x0.Size, .slice p0 x0.Sides.length c0] 35, ownN J29 n_absent_Side 43 p33 c34 l32] ++ F0) rfl ?_
      refine ow_pw rfl (pw_buildSlice (E := 43) n_absent_Side.e ([⟨y39.Index, y39.ID.extract (0 : Int).toNat (100 : Int).toNat, ⟨r52_p1, r52_c2, r52⟩⟩] : List absent_Side_r) rfl rfl rfl rfl rfl (by kernel_rfl) rfl (by kernel_rfl) rfl (by decide) rfl fun p58 => nw_ow ?_)
      refine ow_state (S' := SAT w0 ([ownN J55 n_absent_Side 43 p58 1 ([(⟨y39.Index, y39.ID.extract (0 : Int).toNat (100 : Int).toNat, r52⟩ : absent_Side)] : List absent_Side), imm J55, pt b48 #[.int .i64 y39.Index, .string (y39.ID.extract (0 : Int).toNat (100 : Int).toNat), .slice r52_p1 r52.length r52_c2] 43, pt b25 #[.int .i64 x0.Size, .slice p33 l32.length c34] 35, pt b23 #[.int .i64 0, .slice none 0 0] 35, pt b21 #[.int .i64 x0.Size, .slice p0 x0.Sides.length c0] 35, ownN J29 n_absent_Side 43 p33 c34 l32] ++ F0)) (fun w hs => sat_closeN 0 rfl (show List.map n_absent_Side.log ([⟨y39.Index, y39.ID.extract (0 : Int).toNat (100 : Int).toNat, ⟨r52_p1, r52_c2, r52⟩⟩] : List absent_Side_r) = ([(⟨y39.Index, y39.ID.extract (0 : Int).toNat (100 : Int).toNat, r52⟩ : absent_Side)] : List absent_Side) from rfl) (show ∀ r ∈ ([⟨y39.Index, y39.ID.extract (0 : Int).toNat (100 : Int).toNat, ⟨r52_p1, r52_c2, r52⟩⟩] : List absent_Side_r), n_absent_Side.ok J55 r from (List.forall_mem_cons.2 ⟨h57, (fun r hr => by cases hr)⟩)) hs) ?_
      obtain ⟨h60, hF⟩ := chk_some hF
      refine ow_openN 6 rfl fun R61 h62 h63 => ?_
      have h64 : R61.length = l32.length := by rw [← h62, List.length_map]
      refine ow_openN 0 rfl fun R65 h66 h67 => ?_
      have h68 : R65.length = ([(⟨y39.Index, y39.ID.extract (0 : Int).toNat (100 : Int).toNat, r52⟩ : absent_Side)] : List absent_Side).length := by rw [← h66, List.length_map]
      have h69 : room (R61.length + R65.length) 48 := by rw [h64, h68]; exact h60
      refine ow_slots (L' := [(40, .slice p58 R65.length 1), (39, .agg #[.int .i64 y39.Index, .string (y39.ID.extract (0 : Int).toNat (100 : Int).toNat), .slice r52_p1 r52.length r52_c2]), (38, .slice p33 R61.length c34), (1, .pointer (some ⟨b21, 0, none⟩)), (2, .pointer (some ⟨b23, 0, none⟩)), (3, .pointer (some ⟨b25, 0, none⟩)), (4, .int .i64 x31), (5, .pointer (some ⟨b48, 0, none⟩)), (37, .pointer (some ⟨b25, 1, none⟩))]) (by simp only [h64, h68] <;> rfl) ?_
      refine ow_pw rfl (pw_append 6 (l' := R65) rfl rfl rfl rfl rfl rfl (by kernel_rfl) (by kernel_rfl) rfl rfl rfl (src_own (E' := 43) 0 rfl (by kernel_rfl) rfl) rfl h69.1 h69.2 fun p70 c71 => nw_H (H' := [own n_absent_Side.e 43 p58 1 R65, imm J55, pt b48 #[.int .i64 y39.Index, .string (y39.ID.extract (0 : Int).toNat (100 : Int).toNat), .slice r52_p1 r52.length r52_c2] 43, pt b25 #[.int .i64 x0.Size, .slice p33 l32.length c34] 35, pt b23 #[.int .i64 0, .slice none 0 0] 35, pt b21 #[.int .i64 x0.Size, .slice p0 x0.Sides.length c0] 35, own n_absent_Side.e 43 p70 c71 (R61 ++ R65)] ++ F0) rfl (nw_ow ?_))
      refine ow_state (S' := SAT w0 ([own n_absent_Side.e 43 p58 1 R65, imm J55, pt b48 #[.int .i64 y39.Index, .string (y39.ID.extract (0 : Int).toNat (100 : Int).toNat), .slice r52_p1 r52.length r52_c2] 43, pt b25 #[.int .i64 x0.Size, .slice p33 l32.length c34] 35, pt b23 #[.int .i64 0, .slice none 0 0] 35, pt b21 #[.int .i64 x0.Size, .slice p0 x0.Sides.length c0] 35, ownN J55 n_absent_Side 43 p70 c71 (l32 ++ ([(⟨y39.Index, y39.ID.extract (0 : Int).toNat (100 : Int).toNat, r52⟩ : absent_Side)] : List absent_Side))] ++ F0)) (fun w hs => sat_closeN 6 rfl (by rw [List.map_append, h62, h66]) (fun r hr => (List.mem_append.1 hr).elim (fun hr => n_absent_Side.sub h56 r (h63 r hr)) (fun hr => n_absent_Side.sub (Hl.sub_refl _) r (h67 r hr))) hs) ?_
      refine ow_state (S' := SAT w0 ([emp, imm J55, pt b48 #[.int .i64 y39.Index, .string (y39.ID.extract (0 : Int).toNat (100 : Int).toNat), .slice r52_p1 r52.length r52_c2] 43, pt b25 #[.int .i64 x0.Size, .slice p33 l32.length c34] 35, pt b23 #[.int .i64 0, .slice none 0 0] 35, pt b21 #[.int .i64 x0.Size, .slice p0 x0.Sides.length c0] 35, ownN J55 n_absent_Side 43 p70 c71 (l32 ++ ([(⟨y39.Index, y39.ID.extract (0 : Int).toNat (100 : Int).toNat, r52⟩ : absent_Side)] : List absent_Side))] ++ F0)) (fun w hs => sat_junk 0 rfl hs) ?_
      refine ow_keep [41, 39, 1, 2, 3, 4, 5, 37] (L' := [(41, .slice p70 (R61 ++ R65).length c71), (39, .agg #[.int .i64 y39.Index, .string (y39.ID.extract (0 : Int).toNat (100 : Int).toNat), .slice r52_p1 r52.length r52_c2]), (1, .pointer (some ⟨b21, 0, none⟩)), (2, .pointer (some ⟨b23, 0, none⟩)), (3, .pointer (some ⟨b25, 0, none⟩)), (4, .int .i64 x31), (5, .pointer (some ⟨b48, 0, none⟩)), (37, .pointer (some ⟨b25, 1, none⟩))]) rfl ?_
      refine ow_slots (L' := [(41, .slice p70 (l32 ++ ([(⟨y39.Index, y39.ID.extract (0 : Int).toNat (100 : Int).toNat, r52⟩ : absent_Side)] : List absent_Side)).length c71), (39, .agg #[.int .i64 y39.Index, .string (y39.ID.extract (0 : Int).toNat (100 : Int).toNat), .slice r52_p1 r52.length r52_c2]), (1, .pointer (some ⟨b21, 0, none⟩)), (2, .pointer (some ⟨b23, 0, none⟩)), (3, .pointer (some ⟨b25, 0, none⟩)), (4, .int .i64 x31), (5, .pointer (some ⟨b48, 0, none⟩)), (37, .pointer (some ⟨b25, 1, none⟩))]) (by simp only [List.length_append, h64, h68] <;> rfl) ?_
      refine ow_vals 1 (j := 6) [1, 2, 3, 4, 41, 42] [(1, .pointer (some ⟨b21, 0, none⟩)), (2, .pointer (some ⟨b23, 0, none⟩)), (3, .pointer (some ⟨b25, 0, none⟩)), (4, .int .i64 x31), (41, .slice p70 (l32 ++ ([(⟨y39.Index, y39.ID.extract (0 : Int).toNat (100 : Int).toNat, r52⟩ : absent_Side)] : List absent_Side)).length c71), (42, .pointer (some ⟨b25, 1, none⟩))] rfl (by kernel_rfl) ?_
      refine ow_pw rfl (pw_store 3 #[.int .i64 x0.Size, .slice p70 (l32 ++ ([(⟨y39.Index, y39.ID.extract (0 : Int).toNat (100 : Int).toNat, r52⟩ : absent_Side)] : List absent_Side)).length c71] rfl rfl rfl rfl rfl rfl rfl (by kernel_rfl) (nw_H (H' := [emp, imm J55, pt b48 #[.int .i64 y39.Index, .string (y39.ID.extract (0 : Int).toNat (100 : Int).toNat), .slice r52_p1 r52.length r52_c2] 43, pt b25 #[.int .i64 x0.Size, .slice p70 (l32 ++ ([(⟨y39.Index, y39.ID.extract (0 : Int).toNat (100 : Int).toNat, r52⟩ : absent_Side)] : List absent_Side)).length c71] 35, pt b23 #[.int .i64 0, .slice none 0 0] 35, pt b21 #[.int .i64 x0.Size, .slice p0 x0.Sides.length c0] 35, ownN J55 n_absent_Side 43 p70 c71 (l32 ++ ([(⟨y39.Index, y39.ID.extract (0 : Int).toNat (100 : Int).toNat, r52⟩ : absent_Side)] : List absent_Side))] ++ F0) rfl (nw_ow ?_)))
      refine ow_end rfl ?_
      refine ew_blk ?_
      refine ew_then ?_
      refine cw_region ?_
      refine ow_vals 3 (j := 3) [1, 2, 3, 4] [(1, .pointer (some ⟨b21, 0, none⟩)), (2, .pointer (some ⟨b23, 0, none⟩)), (3, .pointer (some ⟨b25, 0, none⟩)), (4, .int .i64 (IntKind.i64.wrap (x31 + 1)))] rfl (by kernel_rfl) ?_
      refine ow_end rfl ?_
      have hR := Option.some.inj hF
      subst hR
      have hR := hL28
      try dsimp only at hR
      exact fun a w hf hs => ⟨k, Nat.lt_succ_self k, IntKind.i64.wrap (x31 + 1), l32 ++ ([(⟨y39.Index, y39.ID.extract (0 : Int).toNat (100 : Int).toNat, r52⟩ : absent_Side)] : List absent_Side), J55, p70, c71, hR, (Hl.sub_trans h30 h56), hf.keep [1, 2, 3, 4], sat_to [0, 1, 0, 0, 0, 0, 0] 2 rfl hs⟩
    refine cw_cond_f rfl rfl h50 ?_
    refine cw_skip ?_
    refine ew_then ?_
    refine cw_seq ?_
    refine cw_region ?_
    refine ow_vals 1 (j := 1) [1, 2, 3, 4, 5, 33] [(1, .pointer (some ⟨b21, 0, none⟩)), (2, .pointer (some ⟨b23, 0, none⟩)), (3, .pointer (some ⟨b25, 0, none⟩)), (4, .int .i64 x31), (5, .pointer (some ⟨b48, 0, none⟩)), (33, .pointer (some ⟨b48, 2, none⟩))] rfl (by kernel_rfl) ?_
    refine ow_pw rfl (pw_quiet (v := .slice r43.Path.p y39.Path.length r43.Path.c) rfl rfl rfl rfl (q_load 0 rfl rfl rfl (by kernel_rfl)) (nw_ow ?_))
    obtain ⟨r72, h73, hF⟩ := bind_some hF
    refine ow_pw rfl (pw_call (F := [pt b48 #[.int .i64 y39.Index, .string y39.ID, .slice r43.Path.p y39.Path.length r43.Path.c] 43, pt b25 #[.int .i64 x0.Size, .slice p33 l32.length c34] 35, pt b23 #[.int .i64 0, .slice none 0 0] 35, pt b21 #[.int .i64 x0.Size, .slice p0 x0.Sides.length c0] 35, ownN J29 n_absent_Side 43 p33 c34 l32] ++ F0) rfl rfl rfl rfl rfl rfl rfl (by kernel_rfl) (perm_of_pulls [1] rfl) (c_law24_few _ y39.Path r43.Path.p r43.Path.c r72 h73 h47) ?_)
    rintro _ _ ⟨r72_p1, r72_c2, rfl, rfl⟩
    refine nw_H (H' := [imm J29, own eStr 9 r72_p1 r72_c2 r72, pt b48 #[.int .i64 y39.Index, .string y39.ID, .slice r43.Path.p y39.Path.length r43.Path.c] 43, pt b25 #[.int .i64 x0.Size, .slice p33 l32.length c34] 35, pt b23 #[.int .i64 0, .slice none 0 0] 35, pt b21 #[.int .i64 x0.Size, .slice p0 x0.Sides.length c0] 35, ownN J29 n_absent_Side 43 p33 c34 l32] ++ F0) rfl (nw_ow ?_)
    refine ow_vals 1 (j := 4) [1, 2, 3, 4, 5, 35, 36] [(1, .pointer (some ⟨b21, 0, none⟩)), (2, .pointer (some ⟨b23, 0, none⟩)), (3, .pointer (some ⟨b25, 0, none⟩)), (4, .int .i64 x31), (5, .pointer (some ⟨b48, 0, none⟩)), (35, .slice r72_p1 r72.length r72_c2), (36, .pointer (some ⟨b48, 2, none⟩))] rfl (by kernel_rfl) ?_
    refine ow_pw rfl (pw_store 2 #[.int .i64 y39.Index, .string y39.ID, .slice r72_p1 r72.length r72_c2] rfl rfl rfl rfl rfl rfl rfl (by kernel_rfl) (nw_H (H' := [imm J29, own eStr 9 r72_p1 r72_c2 r72, pt b48 #[.int .i64 y39.Index, .string y39.ID, .slice r72_p1 r72.length r72_c2] 43, pt b25 #[.int .i64 x0.Size, .slice p33 l32.length c34] 35, pt b23 #[.int .i64 0, .slice none 0 0] 35, pt b21 #[.int .i64 x0.Size, .slice p0 x0.Sides.length c0] 35, ownN J29 n_absent_Side 43 p33 c34 l32] ++ F0) rfl (nw_ow ?_)))
    refine ow_end rfl ?_
    refine ew_then ?_
    refine cw_region ?_
    refine ow_vals 1 (j := 1) [1, 2, 3, 4, 5, 37] [(1, .pointer (some ⟨b21, 0, none⟩)), (2, .pointer (some ⟨b23, 0, none⟩)), (3, .pointer (some ⟨b25, 0, none⟩)), (4, .int .i64 x31), (5, .pointer (some ⟨b48, 0, none⟩)), (37, .pointer (some ⟨b25, 1, none⟩))] rfl (by kernel_rfl) ?_
    refine ow_pw rfl (pw_quiet (v := .slice p33 l32.length c34) rfl rfl rfl rfl (q_load 3 rfl rfl rfl (by kernel_rfl)) (nw_ow ?_))
    refine ow_pw rfl (pw_quiet (v := .agg #[.int .i64 y39.Index, .string y39.ID, .slice r72_p1 r72.length r72_c2]) rfl rfl rfl rfl (q_load 2 rfl rfl rfl (by kernel_rfl)) (nw_ow ?_))
    refine ow_freeze (fun w hs => sat_to [0, 0] 0 (F := [imm J29, own eStr 9 r72_p1 r72_c2 r72, pt b48 #[.int .i64 y39.Index, .string y39.ID, .slice r72_p1 r72.length r72_c2] 43, pt b25 #[.int .i64 x0.Size, .slice p33 l32.length c34] 35, pt b23 #[.int .i64 0, .slice none 0 0] 35, pt b21 #[.int .i64 x0.Size, .slice p0 x0.Sides.length c0] 35, ownN J29 n_absent_Side 43 p33 c34 l32] ++ F0) rfl hs) fun J75 h76 h77 => ?_
    have hr0 := roN.sub h76 hr0
    refine ow_H (H' := [imm J75, pt b48 #[.int .i64 y39.Index, .string y39.ID, .slice r72_p1 r72.length r72_c2] 43, pt b25 #[.int .i64 x0.Size, .slice p33 l32.length c34] 35, pt b23 #[.int .i64 0, .slice none 0 0] 35, pt b21 #[.int .i64 x0.Size, .slice p0 x0.Sides.length c0] 35, ownN J29 n_absent_Side 43 p33 c34 l32] ++ F0) rfl ?_
    refine ow_pw rfl (pw_buildSlice (E := 43) n_absent_Side.e ([⟨y39.Index, y39.ID, ⟨r72_p1, r72_c2, r72⟩⟩] : List absent_Side_r) rfl rfl rfl rfl rfl (by kernel_rfl) rfl (by kernel_rfl) rfl (by decide) rfl fun p78 => nw_ow ?_)
    refine ow_state (S' := SAT w0 ([ownN J75 n_absent_Side 43 p78 1 ([(⟨y39.Index, y39.ID, r72⟩ : absent_Side)] : List absent_Side), imm J75, pt b48 #[.int .i64 y39.Index, .string y39.ID, .slice r72_p1 r72.length r72_c2] 43, pt b25 #[.int .i64 x0.Size, .slice p33 l32.length c34] 35, pt b23 #[.int .i64 0, .slice none 0 0] 35, pt b21 #[.int .i64 x0.Size, .slice p0 x0.Sides.length c0] 35, ownN J29 n_absent_Side 43 p33 c34 l32] ++ F0)) (fun w hs => sat_closeN 0 rfl (show List.map n_absent_Side.log ([⟨y39.Index, y39.ID, ⟨r72_p1, r72_c2, r72⟩⟩] : List absent_Side_r) = ([(⟨y39.Index, y39.ID, r72⟩ : absent_Side)] : List absent_Side) from rfl) (show ∀ r ∈ ([⟨y39.Index, y39.ID, ⟨r72_p1, r72_c2, r72⟩⟩] : List absent_Side_r), n_absent_Side.ok J75 r from (List.forall_mem_cons.2 ⟨h77, (fun r hr => by cases hr)⟩)) hs) ?_
    obtain ⟨h80, hF⟩ := chk_some hF
    refine ow_openN 6 rfl fun R81 h82 h83 => ?_
    have h84 : R81.length = l32.length := by rw [← h82, List.length_map]
    refine ow_openN 0 rfl fun R85 h86 h87 => ?_
    have h88 : R85.length = ([(⟨y39.Index, y39.ID, r72⟩ : absent_Side)] : List absent_Side).length := by rw [← h86, List.length_map]
    have h89 : room (R81.length + R85.length) 48 := by rw [h84, h88]; exact h80
    refine ow_slots (L' := [(40, .slice p78 R85.length 1), (39, .agg #[.int .i64 y39.Index, .string y39.ID, .slice r72_p1 r72.length r72_c2]), (38, .slice p33 R81.length c34), (1, .pointer (some ⟨b21, 0, none⟩)), (2, .pointer (some ⟨b23, 0, none⟩)), (3, .pointer (some ⟨b25, 0, none⟩)), (4, .int .i64 x31), (5, .pointer (some ⟨b48, 0, none⟩)), (37, .pointer (some ⟨b25, 1, none⟩))]) (by simp only [h84, h88] <;> rfl) ?_
    refine ow_pw rfl (pw_append 6 (l' := R85) rfl rfl rfl rfl rfl rfl (by kernel_rfl) (by kernel_rfl) rfl rfl rfl (src_own (E' := 43) 0 rfl (by kernel_rfl) rfl) rfl h89.1 h89.2 fun p90 c91 => nw_H (H' := [own n_absent_Side.e 43 p78 1 R85, imm J75, pt b48 #[.int .i64 y39.Index, .string y39.ID, .slice r72_p1 r72.length r72_c2] 43, pt b25 #[.int .i64 x0.Size, .slice p33 l32.length c34] 35, pt b23 #[.int .i64 0, .slice none 0 0] 35, pt b21 #[.int .i64 x0.Size, .slice p0 x0.Sides.length c0] 35, own n_absent_Side.e 43 p90 c91 (R81 ++ R85)] ++ F0) rfl (nw_ow ?_))
    refine ow_state (S' := SAT w0 ([own n_absent_Side.e 43 p78 1 R85, imm J75, pt b48 #[.int .i64 y39.Index, .string y39.ID, .slice r72_p1 r72.length r72_c2] 43, pt b25 #[.int .i64 x0.Size, .slice p33 l32.length c34] 35, pt b23 #[.int .i64 0, .slice none 0 0] 35, pt b21 #[.int .i64 x0.Size, .slice p0 x0.Sides.length c0] 35, ownN J75 n_absent_Side 43 p90 c91 (l32 ++ ([(⟨y39.Index, y39.ID, r72⟩ : absent_Side)] : List absent_Side))] ++ F0)) (fun w hs => sat_closeN 6 rfl (by rw [List.map_append, h82, h86]) (fun r hr => (List.mem_append.1 hr).elim (fun hr => n_absent_Side.sub h76 r (h83 r hr)) (fun hr => n_absent_Side.sub (Hl.sub_refl _) r (h87 r hr))) hs) ?_
    refine ow_state (S' := SAT w0 ([emp, imm J75, pt b48 #[.int .i64 y39.Index, .string y39.ID, .slice r72_p1 r72.length r72_c2] 43, pt b25 #[.int .i64 x0.Size, .slice p33 l32.length c34] 35, pt b23 #[.int .i64 0, .slice none 0 0] 35, pt b21 #[.int .i64 x0.Size, .slice p0 x0.Sides.length c0] 35, ownN J75 n_absent_Side 43 p90 c91 (l32 ++ ([(⟨y39.Index, y39.ID, r72⟩ : absent_Side)] : List absent_Side))] ++ F0)) (fun w hs => sat_junk 0 rfl hs) ?_
    refine ow_keep [41, 39, 1, 2, 3, 4, 5, 37] (L' := [(41, .slice p90 (R81 ++ R85).length c91), (39, .agg #[.int .i64 y39.Index, .string y39.ID, .slice r72_p1 r72.length r72_c2]), (1, .pointer (some ⟨b21, 0, none⟩)), (2, .pointer (some ⟨b23, 0, none⟩)), (3, .pointer (some ⟨b25, 0, none⟩)), (4, .int .i64 x31), (5, .pointer (some ⟨b48, 0, none⟩)), (37, .pointer (some ⟨b25, 1, none⟩))]) rfl ?_
    refine ow_slots (L' := [(41, .slice p90 (l32 ++ ([(⟨y39.Index, y39.ID, r72⟩ : absent_Side)] : List absent_Side)).length c91), (39, .agg #[.int .i64 y39.Index, .string y39.ID, .slice r72_p1 r72.length r72_c2]), (1, .pointer (some ⟨b21, 0, none⟩)), (2, .pointer (some ⟨b23, 0, none⟩)), (3, .pointer (some ⟨b25, 0, none⟩)), (4, .int .i64 x31), (5, .pointer (some ⟨b48, 0, none⟩)), (37, .pointer (some ⟨b25, 1, none⟩))]) (by simp only [List.length_append, h84, h88] <;> rfl) ?_
    refine ow_vals 1 (j := 6) [1, 2, 3, 4, 41, 42] [(1, .pointer (some ⟨b21, 0, none⟩)), (2, .pointer (some ⟨b23, 0, none⟩)), (3, .pointer (some ⟨b25, 0, none⟩)), (4, .int .i64 x31), (41, .slice p90 (l32 ++ ([(⟨y39.Index, y39.ID, r72⟩ : absent_Side)] : List absent_Side)).length c91), (42, .pointer (some ⟨b25, 1, none⟩))] rfl (by kernel_rfl) ?_
    refine ow_pw rfl (pw_store 3 #[.int .i64 x0.Size, .slice p90 (l32 ++ ([(⟨y39.Index, y39.ID, r72⟩ : absent_Side)] : List absent_Side)).length c91] rfl rfl rfl rfl rfl rfl rfl (by kernel_rfl) (nw_H (H' := [emp, imm J75, pt b48 #[.int .i64 y39.Index, .string y39.ID, .slice r72_p1 r72.length r72_c2] 43, pt b25 #[.int .i64 x0.Size, .slice p90 (l32 ++ ([(⟨y39.Index, y39.ID, r72⟩ : absent_Side)] : List absent_Side)).length c91] 35, pt b23 #[.int .i64 0, .slice none 0 0] 35, pt b21 #[.int .i64 x0.Size, .slice p0 x0.Sides.length c0] 35, ownN J75 n_absent_Side 43 p90 c91 (l32 ++ ([(⟨y39.Index, y39.ID, r72⟩ : absent_Side)] : List absent_Side))] ++ F0) rfl (nw_ow ?_)))
    refine ow_end rfl ?_
    refine ew_blk ?_
    refine ew_then ?_
    refine cw_region ?_
    refine ow_vals 3 (j := 3) [1, 2, 3, 4] [(1, .pointer (some ⟨b21, 0, none⟩)), (2, .pointer (some ⟨b23, 0, none⟩)), (3, .pointer (some ⟨b25, 0, none⟩)), (4, .int .i64 (IntKind.i64.wrap (x31 + 1)))] rfl (by kernel_rfl) ?_
    refine ow_end rfl ?_
    have hR := Option.some.inj hF
    subst hR
    have hR := hL28
    try dsimp only at hR
    exact fun a w hf hs => ⟨k, Nat.lt_succ_self k, IntKind.i64.wrap (x31 + 1), l32 ++ ([(⟨y39.Index, y39.ID, r72⟩ : absent_Side)] : List absent_Side), J75, p90, c91, hR, (Hl.sub_trans h30 h76), hf.keep [1, 2, 3, 4], sat_to [0, 1, 0, 0, 0, 0, 0] 2 rfl hs⟩
  rintro a w ⟨l94, J92, p95, c96, hv, h93, hf, hs⟩
  subst hv
  replace hF := hK27
  clear hK27
  try dsimp only at hF
  revert a w
  show CW _ _ _ 44 [(2, .pointer (some ⟨b23, 0, none⟩)), (3, .pointer (some ⟨b25, 0, none⟩))] (SAT w0 ([imm J92, pt b25 #[.int .i64 x0.Size, .slice p95 l94.length c96] 35, pt b23 #[.int .i64 0, .slice none 0 0] 35, pt b21 #[.int .i64 x0.Size, .slice p0 x0.Sides.length c0] 35, ownN J92 n_absent_Side 43 p95 c96 l94] ++ F0))
  unfold F.law24_Few.r3 at hF
  have hr0 := roN.sub h93 hr0
  refine cw_seq ?_
  refine cw_region ?_
  refine ow_pw rfl (pw_quiet (v := .agg #[.int .i64 x0.Size, .slice p95 l94.length c96]) rfl rfl rfl rfl (q_load 1 rfl rfl rfl (by kernel_rfl)) (nw_ow ?_))
  refine ow_pw rfl (pw_store 2 #[.int .i64 x0.Size, .slice p95 l94.length c96] rfl rfl rfl rfl rfl rfl rfl (by kernel_rfl) (nw_H (H' := [imm J92, pt b25 #[.int .i64 x0.Size, .slice p95 l94.length c96] 35, pt b23 #[.int .i64 x0.Size, .slice p95 l94.length c96] 35, pt b21 #[.int .i64 x0.Size, .slice p0 x0.Sides.length c0] 35, ownN J92 n_absent_Side 43 p95 c96 l94] ++ F0) rfl (nw_ow ?_)))
  refine ow_end rfl ?_
  refine ew_then ?_
  refine cw_ret ?_
  have hR := Option.some.inj hF
  subst hR
  exact fin1 (H1 := [imm J92, ownN J92 n_absent_Side 43 p95 c96 ((⟨x0.Size, l94⟩ : absent_Proof).Sides)]) (fun w hs => sat_to [1, 1, 1, 0, 0] 3 rfl hs) rfl (rr_cell 2 rfl rfl (by kernel_rfl)) ⟨J92, p95, c96, rfl, rfl, h93⟩

end Go.Proofs.Ytileogoeoiafkaa
