/- What the functions compute, and that the code computes it: printed by a program of this claim (wip/tools), for the group Abs. -/
import Derived.Test.YtileogoeoiafkaaGOct
import Derived.Test.YtileogoeoiafkaaFw2
namespace Go.Proofs.Ytileogoeoiafkaa
set_option linter.all false
open Go Go.RowKit Go.Fw
set_option linter.unusedVariables false

structure absent_Side where
  Index : Int
  ID : ByteArray
  Path : List ByteArray

structure absent_Side_r where
  Index : Int
  ID : ByteArray
  Path : Rs ByteArray
def rc_absent_Side (x : absent_Side_r) : _root_.List Go.Value := [.int .i64 x.Index, .string x.ID, .slice x.Path.p x.Path.l.length x.Path.c]
def rl_absent_Side (x : absent_Side_r) : absent_Side := ⟨x.Index, x.ID, x.Path.l⟩
def rk_absent_Side (I : Hl) (x : absent_Side_r) : Prop := ro I eStr x.Path.p x.Path.c x.Path.l
def n_absent_Side : NEnc absent_Side := ⟨absent_Side_r, ⟨rc_absent_Side, 3, fun _ => rfl, fun _ => rfl, by decide⟩, rl_absent_Side, rk_absent_Side, fun h r k => ro.sub h k⟩

structure absent_Proof where
  Size : Int
  Sides : List absent_Side

def F.absent_Tidy.l1 (x0 : List ByteArray) (l23 : List ByteArray) (x27 : Int) : Option (((List ByteArray) × Int) ⊕ ((List ByteArray))) :=
  if decide (x27 < (x0.length : Int)) then (Option.bind (at_ x0 x27) (fun (y29 : ByteArray) => Option.bind (F.paper_IsID y29) (fun (r33 : Bool) => if r33 then (chk (room (l23.length + ([y29] : List ByteArray).length) 16) (some (.inl (l23 ++ ([y29] : List ByteArray), IntKind.i64.wrap (x27 + 1))))) else (some (.inl (l23, IntKind.i64.wrap (x27 + 1))))))) else (some (.inr (l23)))
def F.absent_Tidy.r2 (l41 : List ByteArray) : Option ((List ByteArray)) :=
  chk (l41.length < 4611686018427387904) (chk ((sortS l41).length < 4611686018427387904) (some ((compS (sortS l41)))))
def F.absent_Tidy (x0 : List ByteArray) : Option (List ByteArray) :=
  Option.bind (iter (fun x => F.absent_Tidy.l1 x0 x.1 x.2) FUEL ([], 0)) (fun x => F.absent_Tidy.r2 x)
set_option maxRecDepth 100000 in
set_option maxHeartbeats 4000000 in
theorem c_absent_Tidy (I : Hl) (x0 : List ByteArray) (p0 : Option Addr) (c0 : Nat) (res : (List ByteArray)) (hF : F.absent_Tidy x0 = some res) (hr0 : ro I eStr p0 c0 x0) : Tr Try.prog 13 [.slice p0 x0.length c0] [imm I] (fun r H' => ∃ (pq1 : Option Addr), ∃ (cq2 : Nat), r = .slice pq1 res.length cq2 ∧ H' = [imm I, own eStr 9 pq1 cq2 res]) := by
  unfold F.absent_Tidy at hF
  refine tr_of_cw (fn := Try.f13) Try.func13 rfl (Nat.le_of_ble_eq_true rfl) 23 rfl fun F0 w0 => ?_
  refine cw_keep [0] (L' := [(0, .slice p0 x0.length c0)]) rfl ?_
  refine cw_state (S' := SAT w0 ([imm I] ++ F0)) (fun w hs => hs) ?_
  refine cw_seq ?_
  refine cw_region ?_
  refine ow_vals 1 (j := 1) [0] [(0, .slice p0 x0.length c0)] rfl (by kernel_rfl) ?_
  refine ow_end rfl ?_
  refine ew_then ?_
  refine cw_seq ?_
  refine cw_region ?_
  refine ow_vals 1 (j := 1) [0, 3] [(0, .slice p0 x0.length c0), (3, .slice none 0 0)] rfl (by kernel_rfl) ?_
  refine ow_end rfl ?_
  refine ew_then ?_
  obtain ⟨v21, hF, hK21⟩ := bind_some hF
  refine cw_mid (fun a w => ∃ (l41 : List ByteArray), ∃ (p42 : Option Addr), ∃ (c43 : Nat), l41 = v21 ∧ Fr 23 [(3, .slice p42 l41.length c43)] a ∧ SAT w0 ([imm I, own eStr 9 p42 c43 l41] ++ F0) w) ?_ ?_
  · refine cw_seq ?_
    refine cw_region ?_
    refine ow_vals 3 (j := 3) [3, 6, 7, 8] [(3, .slice none 0 0), (6, .slice p0 x0.length c0), (7, .int .i64 (x0.length : Int)), (8, .int .i64 0)] rfl (by kernel_rfl) ?_
    refine ow_end rfl ?_
    refine ew_then ?_
    refine cw_block ?_
    refine fun a w hf hs => wp_rounds (fun k a w => ∃ (l23 : List ByteArray), ∃ (x27 : Int), ∃ (p24 : Option Addr), ∃ (c25 : Nat), iter (fun x => F.absent_Tidy.l1 x0 x.1 x.2) k (l23, x27) = some v21 ∧ Fr 23 [(3, .slice p24 l23.length c25), (6, .slice p0 x0.length c0), (7, .int .i64 (x0.length : Int)), (8, .int .i64 x27)] a ∧ SAT w0 ([imm I, own eStr 9 p24 c25 l23] ++ F0) w) ?_ FUEL a w ⟨[], 0, none, 0, hF, hf.keep [3, 6, 7, 8], sat_to [1, 0] 0 rfl (sat_own_nil eStr 9 hs)⟩
    clear hf hs
    clear a w hF
    rintro k a w ⟨l23, x27, p24, c25, hF2, hf, hs⟩
    obtain ⟨k, r22, rfl, hF, hL22⟩ := iter_some hF2
    clear hF2
    revert a w
    show CW _ _ _ 23 [(3, .slice p24 l23.length c25), (6, .slice p0 x0.length c0), (7, .int .i64 (x0.length : Int)), (8, .int .i64 x27)] (SAT w0 ([imm I, own eStr 9 p24 c25 l23] ++ F0))
    try dsimp only at hF
    unfold F.absent_Tidy.l1 at hF
    refine cw_seq ?_
    refine cw_region ?_
    refine ow_vals 1 (j := 1) [3, 6, 7, 8, 9] [(3, .slice p24 l23.length c25), (6, .slice p0 x0.length c0), (7, .int .i64 (x0.length : Int)), (8, .int .i64 x27), (9, .bool (decide (x27 < (x0.length : Int))))] rfl (by kernel_rfl) ?_
    refine ow_end rfl ?_
    refine ew_then ?_
    refine cw_seq ?_
    rcases if_some hF with ⟨h28, hF⟩ | ⟨h28, hF⟩
    · refine cw_cond_t rfl rfl h28 ?_
      refine cw_skip ?_
      refine ew_then ?_
      refine cw_seq ?_
      refine cw_block ?_
      refine cw_seq ?_
      refine cw_region ?_
      obtain ⟨y29, h30, hF⟩ := bind_some hF
      refine ow_pw rfl (pw_index_ro (E := 9) 1 hr0 rfl rfl rfl rfl rfl (by kernel_rfl) rfl rfl rfl h30 fun q31 h32 => nw_ow ?_)
      refine ow_pw rfl (pw_quiet (v := .string y29) rfl rfl rfl rfl (q_load_el0 0 rfl h32 rfl rfl (by kernel_rfl)) (nw_ow ?_))
      refine ow_vals 1 (j := 3) [3, 5, 6, 7, 8] [(3, .slice p24 l23.length c25), (5, .string y29), (6, .slice p0 x0.length c0), (7, .int .i64 (x0.length : Int)), (8, .int .i64 x27)] rfl (by kernel_rfl) ?_
      refine ow_end rfl ?_
      refine ew_then ?_
      refine cw_seq ?_
      refine cw_region ?_
      refine ow_vals 1 (j := 1) [3, 5, 6, 7, 8, 12] [(3, .slice p24 l23.length c25), (5, .string y29), (6, .slice p0 x0.length c0), (7, .int .i64 (x0.length : Int)), (8, .int .i64 x27), (12, .string y29)] rfl (by kernel_rfl) ?_
      obtain ⟨r33, h34, hF⟩ := bind_some hF
      refine ow_pw rfl (pw_call (F := [own eStr 9 p24 c25 l23] ++ F0) rfl rfl rfl rfl rfl rfl rfl (by kernel_rfl) (perm_of_pulls [0] rfl) (c_paper_IsID _ y29 r33 h34) ?_)
      rintro _ _ ⟨rfl, rfl⟩
      refine nw_H (H' := [imm I, own eStr 9 p24 c25 l23] ++ F0) rfl (nw_ow ?_)
      refine ow_end rfl ?_
      refine ew_then ?_
      rcases if_some hF with ⟨h35, hF⟩ | ⟨h35, hF⟩
      · refine cw_cond_t rfl rfl h35 ?_
        refine cw_region ?_
        refine ow_vals 2 (j := 2) [6, 7, 8, 14, 15] [(6, .slice p0 x0.length c0), (7, .int .i64 (x0.length : Int)), (8, .int .i64 x27), (14, .slice p24 l23.length c25), (15, .string y29)] rfl (by kernel_rfl) ?_
        refine ow_pw rfl (pw_buildSlice (E := 9) eStr ([y29] : List ByteArray) rfl rfl rfl rfl rfl (by kernel_rfl) rfl (by kernel_rfl) rfl (by decide) rfl fun p36 => nw_ow ?_)
        obtain ⟨h38, hF⟩ := chk_some hF
        refine ow_pw rfl (pw_append 2 (l' := ([y29] : List ByteArray)) rfl rfl rfl rfl rfl rfl (by kernel_rfl) (by kernel_rfl) rfl rfl rfl (src_own (E' := 9) 0 rfl (by kernel_rfl) rfl) rfl h38.1 h38.2 fun p39 c40 => nw_H (H' := [own eStr 9 p36 1 ([y29] : List ByteArray), imm I, own eStr 9 p39 c40 (l23 ++ ([y29] : List ByteArray))] ++ F0) rfl (nw_ow ?_))
        refine ow_vals 1 (j := 5) [3, 6, 7, 8] [(3, .slice p39 (l23 ++ ([y29] : List ByteArray)).length c40), (6, .slice p0 x0.length c0), (7, .int .i64 (x0.length : Int)), (8, .int .i64 x27)] rfl (by kernel_rfl) ?_
        refine ow_end rfl ?_
        refine ew_blk ?_
        refine ew_then ?_
        refine cw_region ?_
        refine ow_vals 2 (j := 2) [3, 6, 7, 8] [(3, .slice p39 (l23 ++ ([y29] : List ByteArray)).length c40), (6, .slice p0 x0.length c0), (7, .int .i64 (x0.length : Int)), (8, .int .i64 (IntKind.i64.wrap (x27 + 1)))] rfl (by kernel_rfl) ?_
        refine ow_end rfl ?_
        have hR := Option.some.inj hF
        subst hR
        have hR := hL22
        try dsimp only at hR
        exact fun a w hf hs => ⟨k, Nat.lt_succ_self k, l23 ++ ([y29] : List ByteArray), IntKind.i64.wrap (x27 + 1), p39, c40, hR, hf.keep [3, 6, 7, 8], sat_to [0, 0, 0] 1 rfl hs⟩
      refine cw_cond_f rfl rfl h35 ?_
      refine cw_skip ?_
      refine ew_blk ?_
      refine ew_then ?_
      refine cw_region ?_
      refine ow_vals 2 (j := 2) [3, 6, 7, 8] [(3, .slice p24 l23.length c25), (6, .slice p0 x0.length c0), (7, .int .i64 (x0.length : Int)), (8, .int .i64 (IntKind.i64.wrap (x27 + 1)))] rfl (by kernel_rfl) ?_
      refine ow_end rfl ?_
      have hR := Option.some.inj hF
      subst hR
      have hR := hL22
      try dsimp only at hR
      exact fun a w hf hs => ⟨k, Nat.lt_succ_self k, l23, IntKind.i64.wrap (x27 + 1), p24, c25, hR, hf.keep [3, 6, 7, 8], sat_to [0, 0] 0 rfl hs⟩
    refine cw_cond_f rfl rfl h28 ?_
    refine cw_exit ?_
    refine ew_then_exit ?_
    refine ew_then_exit ?_
    refine ew_blk_exit ?_
    have hR := Option.some.inj hF
    subst hR
    have hR := hL22
    try dsimp only at hR
    exact fun a w hf hs => ⟨l23, p24, c25, hR, hf.keep [3], sat_to [0, 0] 0 rfl hs⟩
  rintro a w ⟨l41, p42, c43, hv, hf, hs⟩
  subst hv
  replace hF := hK21
  clear hK21
  try dsimp only at hF
  revert a w
  show CW _ _ _ 23 [(3, .slice p42 l41.length c43)] (SAT w0 ([imm I, own eStr 9 p42 c43 l41] ++ F0))
  unfold F.absent_Tidy.r2 at hF
  refine cw_seq ?_
  refine cw_region ?_
  refine ow_vals 1 (j := 1) [3, 19] [(3, .slice p42 l41.length c43), (19, .slice p42 l41.length c43)] rfl (by kernel_rfl) ?_
  obtain ⟨h45, hF⟩ := chk_some hF
  refine ow_pw rfl (pw_call (F := [imm I] ++ F0) rfl rfl rfl rfl rfl rfl rfl (by kernel_rfl) (perm_of_pulls [1] rfl) (Try.tr_sortS 9 p42 c43 l41 h45) ?_)
  rintro _ _ ⟨rfl, rfl⟩
  refine nw_H (H' := [own eStr 9 p42 c43 (sortS l41), imm I] ++ F0) rfl (nw_ow ?_)
  refine ow_slots (L' := [(20, .tuple #[]), (3, .slice p42 (sortS l41).length c43), (19, .slice p42 (sortS l41).length c43)]) (by simp only [sortS_len]; rfl) ?_
  refine ow_end rfl ?_
  refine ew_then ?_
  refine cw_seq ?_
  refine cw_region ?_
  refine ow_vals 1 (j := 1) [21] [(21, .slice p42 (sortS l41).length c43)] rfl (by kernel_rfl) ?_
  obtain ⟨h46, hF⟩ := chk_some hF
  refine ow_pw rfl (pw_call (F := [imm I] ++ F0) rfl rfl rfl rfl rfl rfl rfl (by kernel_rfl) (perm_of_pulls [0] rfl) (Try.tr_compS 9 p42 c43 (sortS l41) h46) ?_)
  rintro _ _ ⟨rfl, rfl⟩
  refine nw_H (H' := [own eStr 9 p42 c43 (compS (sortS l41)), imm I] ++ F0) rfl (nw_ow ?_)
  refine ow_vals 1 (j := 3) [2] [(2, .slice p42 (compS (sortS l41)).length c43)] rfl (by kernel_rfl) ?_
  refine ow_end rfl ?_
  refine ew_then ?_
  refine cw_ret ?_
  have hR := Option.some.inj hF
  subst hR
  exact fin1 (H1 := [imm I, own eStr 9 p42 c43 (compS (sortS l41))]) (fun w hs => sat_to [1, 0] 0 rfl hs) rfl (rr_tmp rfl) ⟨p42, c43, rfl, rfl⟩


def F.cmp_isNaN_string (x0 : ByteArray) : Option Bool :=
  some ((!(seqB x0 x0)))
set_option maxRecDepth 100000 in
set_option maxHeartbeats 4000000 in
theorem c_cmp_isNaN_string (I : Hl) (x0 : ByteArray) (res : Bool) (hF : F.cmp_isNaN_string x0 = some res) : Tr Try.prog 85 [.string x0] [imm I] (fun r H' => r = .bool res ∧ H' = [imm I]) := by
  unfold F.cmp_isNaN_string at hF
  refine tr_of_cw (fn := Try.f85) Try.func85 rfl (Nat.le_of_ble_eq_true rfl) 6 rfl fun F0 w0 => ?_
  refine cw_keep [0] (L' := [(0, .string x0)]) rfl ?_
  refine cw_state (S' := SAT w0 ([imm I] ++ F0)) (fun w hs => hs) ?_
  refine cw_seq ?_
  refine cw_region ?_
  refine ow_vals 1 (j := 1) [0] [(0, .string x0)] rfl (by kernel_rfl) ?_
  refine ow_end rfl ?_
  refine ew_then ?_
  refine cw_seq ?_
  refine cw_region ?_
  refine ow_vals 4 (j := 4) [2] [(2, .bool (!(seqB x0 x0)))] rfl (by kernel_rfl) ?_
  refine ow_end rfl ?_
  refine ew_then ?_
  refine cw_ret ?_
  have hR := Option.some.inj hF
  subst hR
  exact fin1 (H1 := [imm I]) (fun w hs => sat_to [0] 0 rfl hs) rfl (rr_tmp rfl) ⟨rfl, rfl⟩


def F.cmp_Less_string (x0 : ByteArray) (x1 : ByteArray) : Option Bool :=
  Option.bind (F.cmp_isNaN_string x0) (fun (r21 : Bool) => if r21 then (Option.bind (F.cmp_isNaN_string x1) (fun (r24 : Bool) => if !r24 then (some (true)) else (some ((sltB x0 x1))))) else (some ((sltB x0 x1))))
set_option maxRecDepth 100000 in
set_option maxHeartbeats 4000000 in
theorem c_cmp_Less_string (I : Hl) (x0 : ByteArray) (x1 : ByteArray) (res : Bool) (hF : F.cmp_Less_string x0 x1 = some res) : Tr Try.prog 63 [.string x0, .string x1] [imm I] (fun r H' => r = .bool res ∧ H' = [imm I]) := by
  unfold F.cmp_Less_string at hF
  refine tr_of_cw (fn := Try.f63) Try.func63 rfl (Nat.le_of_ble_eq_true rfl) 17 rfl fun F0 w0 => ?_
  refine cw_keep [0, 1] (L' := [(0, .string x0), (1, .string x1)]) rfl ?_
  refine cw_state (S' := SAT w0 ([imm I] ++ F0)) (fun w hs => hs) ?_
  refine cw_seq ?_
  refine cw_region ?_
  refine ow_vals 1 (j := 1) [0, 1] [(0, .string x0), (1, .string x1)] rfl (by kernel_rfl) ?_
  refine ow_end rfl ?_
  refine ew_then ?_
  refine cw_seq ?_
  refine cw_region ?_
  refine ow_vals 1 (j := 1) [0, 1, 5] [(0, .string x0), (1, .string x1), (5, .string x0)] rfl (by kernel_rfl) ?_
  obtain ⟨r21, h22, hF⟩ := bind_some hF
  refine ow_pw rfl (pw_call (F := [] ++ F0) rfl rfl rfl rfl rfl rfl rfl (by kernel_rfl) (perm_of_pulls [0] rfl) (c_cmp_isNaN_string _ x0 r21 h22) ?_)
  rintro _ _ ⟨rfl, rfl⟩
  refine nw_H (H' := [imm I] ++ F0) rfl (nw_ow ?_)
  refine ow_vals 1 (j := 3) [0, 1, 7] [(0, .string x0), (1, .string x1), (7, .bool r21)] rfl (by kernel_rfl) ?_
  rcases if_some hF with ⟨h23, hF⟩ | ⟨h23, hF⟩
  · refine ow_slots (L' := [(0, .string x0), (1, .string x1), (7, .bool true)]) (by rw [h23]) ?_
    refine ow_vals 1 (j := 4) [0, 1, 7, 8] [(0, .string x0), (1, .string x1), (7, .bool true), (8, .string x1)] rfl (by kernel_rfl) ?_
    obtain ⟨r24, h25, hF⟩ := bind_some hF
    refine ow_pw rfl (pw_call (F := [] ++ F0) rfl rfl rfl rfl rfl rfl rfl (by kernel_rfl) (perm_of_pulls [0] rfl) (c_cmp_isNaN_string _ x1 r24 h25) ?_)
    rintro _ _ ⟨rfl, rfl⟩
    refine nw_H (H' := [imm I] ++ F0) rfl (nw_ow ?_)
    refine ow_vals 3 (j := 8) [0, 1, 12] [(0, .string x0), (1, .string x1), (12, .bool (!r24))] rfl (by kernel_rfl) ?_
    rcases if_some hF with ⟨h26, hF⟩ | ⟨h26, hF⟩
    · refine ow_slots (L' := [(0, .string x0), (1, .string x1), (12, .bool true)]) (by rw [h26]) ?_
      refine ow_vals 5 (j := 13) [4] [(4, .bool true)] rfl (by kernel_rfl) ?_
      refine ow_end rfl ?_
      refine ew_then ?_
      refine cw_ret ?_
      have hR := Option.some.inj hF
      subst hR
      exact fin1 (H1 := [imm I]) (fun w hs => sat_to [0] 0 rfl hs) rfl (rr_tmp rfl) ⟨rfl, rfl⟩
    refine ow_slots (L' := [(0, .string x0), (1, .string x1), (12, .bool false)]) (by rw [h26]) ?_
    refine ow_vals 5 (j := 13) [4] [(4, .bool (sltB x0 x1))] rfl (by kernel_rfl) ?_
    refine ow_end rfl ?_
    refine ew_then ?_
    refine cw_ret ?_
    have hR := Option.some.inj hF
    subst hR
    exact fin1 (H1 := [imm I]) (fun w hs => sat_to [0] 0 rfl hs) rfl (rr_tmp rfl) ⟨rfl, rfl⟩
  refine ow_slots (L' := [(0, .string x0), (1, .string x1), (7, .bool false)]) (by rw [h23]) ?_
  refine ow_vals 10 (j := 13) [4] [(4, .bool (sltB x0 x1))] rfl (by kernel_rfl) ?_
  refine ow_end rfl ?_
  refine ew_then ?_
  refine cw_ret ?_
  have hR := Option.some.inj hF
  subst hR
  exact fin1 (H1 := [imm I]) (fun w hs => sat_to [0] 0 rfl hs) rfl (rr_tmp rfl) ⟨rfl, rfl⟩


def F.slices_isNaN_string (x0 : ByteArray) : Option Bool :=
  some ((!(seqB x0 x0)))
set_option maxRecDepth 100000 in
set_option maxHeartbeats 4000000 in
theorem c_slices_isNaN_string (I : Hl) (x0 : ByteArray) (res : Bool) (hF : F.slices_isNaN_string x0 = some res) : Tr Try.prog 64 [.string x0] [imm I] (fun r H' => r = .bool res ∧ H' = [imm I]) := by
  unfold F.slices_isNaN_string at hF
  refine tr_of_cw (fn := Try.f64) Try.func64 rfl (Nat.le_of_ble_eq_true rfl) 6 rfl fun F0 w0 => ?_
  refine cw_keep [0] (L' := [(0, .string x0)]) rfl ?_
  refine cw_state (S' := SAT w0 ([imm I] ++ F0)) (fun w hs => hs) ?_
  refine cw_seq ?_
  refine cw_region ?_
  refine ow_vals 1 (j := 1) [0] [(0, .string x0)] rfl (by kernel_rfl) ?_
  refine ow_end rfl ?_
  refine ew_then ?_
  refine cw_seq ?_
  refine cw_region ?_
  refine ow_vals 4 (j := 4) [2] [(2, .bool (!(seqB x0 x0)))] rfl (by kernel_rfl) ?_
  refine ow_end rfl ?_
  refine ew_then ?_
  refine cw_ret ?_
  have hR := Option.some.inj hF
  subst hR
  exact fin1 (H1 := [imm I]) (fun w hs => sat_to [0] 0 rfl hs) rfl (rr_tmp rfl) ⟨rfl, rfl⟩


def F.slices_BinarySearch_string_string.l1 (x0 : List ByteArray) (x1 : ByteArray) (x23 : Int) (x24 : Int) : Option ((Int × Int) ⊕ (Int)) :=
  if decide (x23 < x24) then (Option.bind (at_ x0 (IntKind.i64.wrap ((IntKind.u64.wrap (IntKind.i64.wrap (x23 + x24))).fdiv (2 ^ 1)))) (fun (y26 : ByteArray) => Option.bind (F.cmp_Less_string y26 x1) (fun (r30 : Bool) => if r30 then (some (.inl (IntKind.i64.wrap ((IntKind.i64.wrap ((IntKind.u64.wrap (IntKind.i64.wrap (x23 + x24))).fdiv (2 ^ 1))) + 1), x24))) else (some (.inl (x23, IntKind.i64.wrap ((IntKind.u64.wrap (IntKind.i64.wrap (x23 + x24))).fdiv (2 ^ 1)))))))) else (some (.inr (x23)))
def F.slices_BinarySearch_string_string.r2 (x0 : List ByteArray) (x1 : ByteArray) (x33 : Int) : Option (Int × Bool) :=
  if decide (x33 < (x0.length : Int)) then (Option.bind (at_ x0 x33) (fun (y35 : ByteArray) => if seqB y35 x1 then (some ((x33, true))) else (Option.bind (at_ x0 x33) (fun (y40 : ByteArray) => Option.bind (F.slices_isNaN_string y40) (fun (r44 : Bool) => if r44 then (Option.bind (F.slices_isNaN_string x1) (fun (r47 : Bool) => some ((x33, r47)))) else (some ((x33, false)))))))) else (some ((x33, false)))
def F.slices_BinarySearch_string_string (x0 : List ByteArray) (x1 : ByteArray) : Option (Int × Bool) :=
  Option.bind (iter (fun x => F.slices_BinarySearch_string_string.l1 x0 x1 x.1 x.2) FUEL (0, (x0.length : Int))) (fun x => F.slices_BinarySearch_string_string.r2 x0 x1 x)
set_option maxRecDepth 100000 in
set_option maxHeartbeats 4000000 in
theorem c_slices_BinarySearch_string_string (I : Hl) (x0 : List ByteArray) (x1 : ByteArray) (p0 : Option Addr) (c0 : Nat) (res : Int × Bool) (hF : F.slices_BinarySearch_string_string x0 x1 = some res) (hr0 : ro I eStr p0 c0 x0) : Tr Try.prog 39 [.slice p0 x0.length c0, .string x1] [imm I] (fun r H' => r = .tuple #[.int .i64 res.1, .bool res.2] ∧ H' = [imm I]) := by
  unfold F.slices_BinarySearch_string_string at hF
  refine tr_of_cw (fn := Try.f39) Try.func39 rfl (Nat.le_of_ble_eq_true rfl) 54 rfl fun F0 w0 => ?_
  refine cw_keep [0, 1] (L' := [(0, .slice p0 x0.length c0), (1, .string x1)]) rfl ?_
  refine cw_state (S' := SAT w0 ([imm I] ++ F0)) (fun w hs => hs) ?_
  refine cw_seq ?_
  refine cw_region ?_
  refine ow_vals 2 (j := 2) [0, 1] [(0, .slice p0 x0.length c0), (1, .string x1)] rfl (by kernel_rfl) ?_
  refine ow_end rfl ?_
  refine ew_then ?_
  refine cw_seq ?_
  refine cw_region ?_
  refine ow_vals 3 (j := 3) [0, 1, 6] [(0, .slice p0 x0.length c0), (1, .string x1), (6, .int .i64 (x0.length : Int))] rfl (by kernel_rfl) ?_
  refine ow_end rfl ?_
  refine ew_then ?_
  refine cw_seq ?_
  refine cw_region ?_
  refine ow_vals 3 (j := 3) [0, 1, 6, 7, 8] [(0, .slice p0 x0.length c0), (1, .string x1), (6, .int .i64 (x0.length : Int)), (7, .int .i64 0), (8, .int .i64 (x0.length : Int))] rfl (by kernel_rfl) ?_
  refine ow_end rfl ?_
  refine ew_then ?_
  obtain ⟨v21, hF, hK21⟩ := bind_some hF
  refine cw_mid (fun a w => ∃ (x33 : Int), x33 = v21 ∧ Fr 54 [(0, .slice p0 x0.length c0), (1, .string x1), (6, .int .i64 (x0.length : Int)), (7, .int .i64 x33)] a ∧ SAT w0 ([imm I] ++ F0) w) ?_ ?_
  · refine cw_block ?_
    refine fun a w hf hs => wp_rounds (fun k a w => ∃ (x23 : Int), ∃ (x24 : Int), iter (fun x => F.slices_BinarySearch_string_string.l1 x0 x1 x.1 x.2) k (x23, x24) = some v21 ∧ Fr 54 [(0, .slice p0 x0.length c0), (1, .string x1), (6, .int .i64 (x0.length : Int)), (7, .int .i64 x23), (8, .int .i64 x24)] a ∧ SAT w0 ([imm I] ++ F0) w) ?_ FUEL a w ⟨0, (x0.length : Int), hF, hf.keep [0, 1, 6, 7, 8], sat_to [0] 0 rfl hs⟩
    clear hf hs
    clear a w hF
    rintro k a w ⟨x23, x24, hF2, hf, hs⟩
    obtain ⟨k, r22, rfl, hF, hL22⟩ := iter_some hF2
    clear hF2
    revert a w
    show CW _ _ _ 54 [(0, .slice p0 x0.length c0), (1, .string x1), (6, .int .i64 (x0.length : Int)), (7, .int .i64 x23), (8, .int .i64 x24)] (SAT w0 ([imm I] ++ F0))
    try dsimp only at hF
    unfold F.slices_BinarySearch_string_string.l1 at hF
    refine cw_seq ?_
    refine cw_seq ?_
    refine cw_region ?_
    refine ow_vals 3 (j := 3) [0, 1, 6, 7, 8, 15] [(0, .slice p0 x0.length c0), (1, .string x1), (6, .int .i64 (x0.length : Int)), (7, .int .i64 x23), (8, .int .i64 x24), (15, .bool (decide (x23 < x24)))] rfl (by kernel_rfl) ?_
    refine ow_end rfl ?_
    refine ew_then ?_
    rcases if_some hF with ⟨h25, hF⟩ | ⟨h25, hF⟩
    · refine cw_cond_t rfl rfl h25 ?_
      refine cw_skip ?_
      refine ew_then ?_
      refine cw_block ?_
      refine cw_seq ?_
      refine cw_region ?_
      refine ow_vals 7 (j := 7) [0, 1, 6, 7, 8, 9] [(0, .slice p0 x0.length c0), (1, .string x1), (6, .int .i64 (x0.length : Int)), (7, .int .i64 x23), (8, .int .i64 x24), (9, .int .i64 (IntKind.i64.wrap ((IntKind.u64.wrap (IntKind.i64.wrap (x23 + x24))).fdiv (2 ^ 1))))] rfl (by kernel_rfl) ?_
      refine ow_end rfl ?_
      refine ew_then ?_
      refine cw_seq ?_
      refine cw_region ?_
      refine ow_vals 2 (j := 2) [0, 1, 6, 7, 8, 9, 22, 23] [(0, .slice p0 x0.length c0), (1, .string x1), (6, .int .i64 (x0.length : Int)), (7, .int .i64 x23), (8, .int .i64 x24), (9, .int .i64 (IntKind.i64.wrap ((IntKind.u64.wrap (IntKind.i64.wrap (x23 + x24))).fdiv (2 ^ 1)))), (22, .slice p0 x0.length c0), (23, .int .i64 (IntKind.i64.wrap ((IntKind.u64.wrap (IntKind.i64.wrap (x23 + x24))).fdiv (2 ^ 1))))] rfl (by kernel_rfl) ?_
      obtain ⟨y26, h27, hF⟩ := bind_some hF
      refine ow_pw rfl (pw_index_ro (E := 9) 1 hr0 rfl rfl rfl rfl rfl (by kernel_rfl) rfl rfl rfl h27 fun q28 h29 => nw_ow ?_)
      refine ow_pw rfl (pw_quiet (v := .string y26) rfl rfl rfl rfl (q_load_el0 0 rfl h29 rfl rfl (by kernel_rfl)) (nw_ow ?_))
      refine ow_vals 1 (j := 5) [0, 1, 6, 7, 8, 9, 25, 26] [(0, .slice p0 x0.length c0), (1, .string x1), (6, .int .i64 (x0.length : Int)), (7, .int .i64 x23), (8, .int .i64 x24), (9, .int .i64 (IntKind.i64.wrap ((IntKind.u64.wrap (IntKind.i64.wrap (x23 + x24))).fdiv (2 ^ 1)))), (25, .string y26), (26, .string x1)] rfl (by kernel_rfl) ?_
      obtain ⟨r30, h31, hF⟩ := bind_some hF
      refine ow_pw rfl (pw_call (F := [] ++ F0) rfl rfl rfl rfl rfl rfl rfl (by kernel_rfl) (perm_of_pulls [0] rfl) (c_cmp_Less_string _ y26 x1 r30 h31) ?_)
      rintro _ _ ⟨rfl, rfl⟩
      refine nw_H (H' := [imm I] ++ F0) rfl (nw_ow ?_)
      refine ow_end rfl ?_
      refine ew_then ?_
      rcases if_some hF with ⟨h32, hF⟩ | ⟨h32, hF⟩
      · refine cw_cond_t rfl rfl h32 ?_
        refine cw_region ?_
        refine ow_vals 3 (j := 3) [0, 1, 6, 7, 8] [(0, .slice p0 x0.length c0), (1, .string x1), (6, .int .i64 (x0.length : Int)), (7, .int .i64 (IntKind.i64.wrap ((IntKind.i64.wrap ((IntKind.u64.wrap (IntKind.i64.wrap (x23 + x24))).fdiv (2 ^ 1))) + 1))), (8, .int .i64 x24)] rfl (by kernel_rfl) ?_
        refine ow_end rfl ?_
        refine ew_blk ?_
        have hR := Option.some.inj hF
        subst hR
        have hR := hL22
        try dsimp only at hR
        exact fun a w hf hs => ⟨k, Nat.lt_succ_self k, IntKind.i64.wrap ((IntKind.i64.wrap ((IntKind.u64.wrap (IntKind.i64.wrap (x23 + x24))).fdiv (2 ^ 1))) + 1), x24, hR, hf.keep [0, 1, 6, 7, 8], sat_to [0] 0 rfl hs⟩
      refine cw_cond_f rfl rfl h32 ?_
      refine cw_region ?_
      refine ow_vals 2 (j := 2) [0, 1, 6, 7, 8] [(0, .slice p0 x0.length c0), (1, .string x1), (6, .int .i64 (x0.length : Int)), (7, .int .i64 x23), (8, .int .i64 (IntKind.i64.wrap ((IntKind.u64.wrap (IntKind.i64.wrap (x23 + x24))).fdiv (2 ^ 1))))] rfl (by kernel_rfl) ?_
      refine ow_end rfl ?_
      refine ew_blk ?_
      have hR := Option.some.inj hF
      subst hR
      have hR := hL22
      try dsimp only at hR
      exact fun a w hf hs => ⟨k, Nat.lt_succ_self k, x23, IntKind.i64.wrap ((IntKind.u64.wrap (IntKind.i64.wrap (x23 + x24))).fdiv (2 ^ 1)), hR, hf.keep [0, 1, 6, 7, 8], sat_to [0] 0 rfl hs⟩
    refine cw_cond_f rfl rfl h25 ?_
    refine cw_exit ?_
    refine ew_then_exit ?_
    refine ew_then_exit ?_
    refine ew_blk_exit ?_
    have hR := Option.some.inj hF
    subst hR
    have hR := hL22
    try dsimp only at hR
    exact fun a w hf hs => ⟨x23, hR, hf.keep [0, 1, 6, 7], sat_to [0] 0 rfl hs⟩
  rintro a w ⟨x33, hv, hf, hs⟩
  subst hv
  replace hF := hK21
  clear hK21
  try dsimp only at hF
  revert a w
  show CW _ _ _ 54 [(0, .slice p0 x0.length c0), (1, .string x1), (6, .int .i64 (x0.length : Int)), (7, .int .i64 x33)] (SAT w0 ([imm I] ++ F0))
  unfold F.slices_BinarySearch_string_string.r2 at hF
  refine cw_seq ?_
  refine cw_region ?_
  refine ow_vals 5 (j := 5) [0, 1, 7, 31, 35] [(0, .slice p0 x0.length c0), (1, .string x1), (7, .int .i64 x33), (31, .int .i64 x33), (35, .bool (decide (x33 < (x0.length : Int))))] rfl (by kernel_rfl) ?_
  rcases if_some hF with ⟨h34, hF⟩ | ⟨h34, hF⟩
  · refine ow_slots (L' := [(0, .slice p0 x0.length c0), (1, .string x1), (7, .int .i64 x33), (31, .int .i64 x33), (35, .bool true)]) (by rw [h34]) ?_
    refine ow_vals 2 (j := 7) [0, 1, 7, 31, 35, 36, 37] [(0, .slice p0 x0.length c0), (1, .string x1), (7, .int .i64 x33), (31, .int .i64 x33), (35, .bool true), (36, .slice p0 x0.length c0), (37, .int .i64 x33)] rfl (by kernel_rfl) ?_
    obtain ⟨y35, h36, hF⟩ := bind_some hF
    refine ow_pw rfl (pw_index_ro (E := 9) 1 hr0 rfl rfl rfl rfl rfl (by kernel_rfl) rfl rfl rfl h36 fun q37 h38 => nw_ow ?_)
    refine ow_pw rfl (pw_quiet (v := .string y35) rfl rfl rfl rfl (q_load_el0 0 rfl h38 rfl rfl (by kernel_rfl)) (nw_ow ?_))
    refine ow_vals 3 (j := 12) [0, 1, 7, 31, 35, 42] [(0, .slice p0 x0.length c0), (1, .string x1), (7, .int .i64 x33), (31, .int .i64 x33), (35, .bool true), (42, .bool (seqB y35 x1))] rfl (by kernel_rfl) ?_
    rcases if_some hF with ⟨h39, hF⟩ | ⟨h39, hF⟩
    · refine ow_slots (L' := [(0, .slice p0 x0.length c0), (1, .string x1), (7, .int .i64 x33), (31, .int .i64 x33), (35, .bool true), (42, .bool true)]) (by rw [h39]) ?_
      refine ow_vals 13 (j := 25) [4, 5] [(4, .int .i64 x33), (5, .bool true)] rfl (by kernel_rfl) ?_
      refine ow_end rfl ?_
      refine ew_then ?_
      refine cw_ret ?_
      have hR := Option.some.inj hF
      subst hR
      exact fin2 (H1 := [imm I]) (fun w hs => sat_to [0] 0 rfl hs) rfl (rr_tmp rfl) (rr_tmp rfl) ⟨rfl, rfl⟩
    refine ow_slots (L' := [(0, .slice p0 x0.length c0), (1, .string x1), (7, .int .i64 x33), (31, .int .i64 x33), (35, .bool true), (42, .bool false)]) (by rw [h39]) ?_
    refine ow_vals 2 (j := 14) [1, 31, 35, 42, 43, 44] [(1, .string x1), (31, .int .i64 x33), (35, .bool true), (42, .bool false), (43, .slice p0 x0.length c0), (44, .int .i64 x33)] rfl (by kernel_rfl) ?_
    obtain ⟨y40, h41, hF⟩ := bind_some hF
    refine ow_pw rfl (pw_index_ro (E := 9) 1 hr0 rfl rfl rfl rfl rfl (by kernel_rfl) rfl rfl rfl h41 fun q42 h43 => nw_ow ?_)
    refine ow_pw rfl (pw_quiet (v := .string y40) rfl rfl rfl rfl (q_load_el0 0 rfl h43 rfl rfl (by kernel_rfl)) (nw_ow ?_))
    obtain ⟨r44, h45, hF⟩ := bind_some hF
    refine ow_pw rfl (pw_call (F := [] ++ F0) rfl rfl rfl rfl rfl rfl rfl (by kernel_rfl) (perm_of_pulls [0] rfl) (c_slices_isNaN_string _ y40 r44 h45) ?_)
    rintro _ _ ⟨rfl, rfl⟩
    refine nw_H (H' := [imm I] ++ F0) rfl (nw_ow ?_)
    refine ow_vals 1 (j := 18) [1, 31, 35, 42, 48] [(1, .string x1), (31, .int .i64 x33), (35, .bool true), (42, .bool false), (48, .bool r44)] rfl (by kernel_rfl) ?_
    rcases if_some hF with ⟨h46, hF⟩ | ⟨h46, hF⟩
    · refine ow_slots (L' := [(1, .string x1), (31, .int .i64 x33), (35, .bool true), (42, .bool false), (48, .bool true)]) (by rw [h46]) ?_
      refine ow_vals 1 (j := 19) [31, 35, 42, 48, 49] [(31, .int .i64 x33), (35, .bool true), (42, .bool false), (48, .bool true), (49, .string x1)] rfl (by kernel_rfl) ?_
      obtain ⟨r47, h48, hF⟩ := bind_some hF
      refine ow_pw rfl (pw_call (F := [] ++ F0) rfl rfl rfl rfl rfl rfl rfl (by kernel_rfl) (perm_of_pulls [0] rfl) (c_slices_isNaN_string _ x1 r47 h48) ?_)
      rintro _ _ ⟨rfl, rfl⟩
      refine nw_H (H' := [imm I] ++ F0) rfl (nw_ow ?_)
      refine ow_vals 5 (j := 25) [4, 5] [(4, .int .i64 x33), (5, .bool r47)] rfl (by kernel_rfl) ?_
      refine ow_end rfl ?_
      refine ew_then ?_
      refine cw_ret ?_
      have hR := Option.some.inj hF
      subst hR
      exact fin2 (H1 := [imm I]) (fun w hs => sat_to [0] 0 rfl hs) rfl (rr_tmp rfl) (rr_tmp rfl) ⟨rfl, rfl⟩
    refine ow_slots (L' := [(1, .string x1), (31, .int .i64 x33), (35, .bool true), (42, .bool false), (48, .bool false)]) (by rw [h46]) ?_
    refine ow_vals 7 (j := 25) [4, 5] [(4, .int .i64 x33), (5, .bool false)] rfl (by kernel_rfl) ?_
    refine ow_end rfl ?_
    refine ew_then ?_
    refine cw_ret ?_
    have hR := Option.some.inj hF
    subst hR
    exact fin2 (H1 := [imm I]) (fun w hs => sat_to [0] 0 rfl hs) rfl (rr_tmp rfl) (rr_tmp rfl) ⟨rfl, rfl⟩
  refine ow_slots (L' := [(0, .slice p0 x0.length c0), (1, .string x1), (7, .int .i64 x33), (31, .int .i64 x33), (35, .bool false)]) (by rw [h34]) ?_
  refine ow_vals 20 (j := 25) [4, 5] [(4, .int .i64 x33), (5, .bool false)] rfl (by kernel_rfl) ?_
  refine ow_end rfl ?_
  refine ew_then ?_
  refine cw_ret ?_
  have hR := Option.some.inj hF
  subst hR
  exact fin2 (H1 := [imm I]) (fun w hs => sat_to [0] 0 rfl hs) rfl (rr_tmp rfl) (rr_tmp rfl) ⟨rfl, rfl⟩


def F.absent_leaf (x1 : ByteArray) (m0 : mill_Mill) : Option (ByteArray × mill_Mill) :=
  Option.bind (F.octet_Text x1) (fun (r21 : ByteArray) => chk ((ByteArray.mk #[105, 100]).size + r21.size ≤ 9223372036854775807) (Option.bind (F.pledge_Leaf ((ByteArray.mk #[105, 100]) ++ r21) m0) (fun (r24 : ByteArray × mill_Mill) => some ((r24.1, r24.2)))))
set_option maxRecDepth 100000 in
set_option maxHeartbeats 4000000 in
theorem c_absent_leaf (I : Hl) (x1 : ByteArray) (m0 : mill_Mill) (p0 : Nat) (p1 : Nat) (b0 : Nat) (res : ByteArray × mill_Mill) (hF : F.absent_leaf x1 m0 = some res) : Tr Try.prog 59 [.pointer (some ⟨b0, 0, none⟩), .string x1] [imm I, pt b0 #[.map (some p0), .map (some p1), .string m0.twins_.e0, .string m0.twins_.e1, .bool m0.found_, .bool m0.full_, .int .i64 m0.sums_] 64, mpo kStr kStr p0 m0.table_, mpo kStr kStr p1 m0.notes_] (fun r H' => ∃ (bq1 : Nat), ∃ (bq3 : Nat), r = .string res.1 ∧ H' = [imm I, pt b0 #[.map (some bq1), .map (some bq3), .string res.2.twins_.e0, .string res.2.twins_.e1, .bool res.2.found_, .bool res.2.full_, .int .i64 res.2.sums_] 64, mpo kStr kStr bq1 res.2.table_, mpo kStr kStr bq3 res.2.notes_]) := by
  unfold F.absent_leaf at hF
  refine tr_of_cw (fn := Try.f59) Try.func59 rfl (Nat.le_of_ble_eq_true rfl) 10 rfl fun F0 w0 => ?_
  refine cw_keep [0, 1] (L' := [(0, .pointer (some ⟨b0, 0, none⟩)), (1, .string x1)]) rfl ?_
  refine cw_state (S' := SAT w0 ([imm I, pt b0 #[.map (some p0), .map (some p1), .string m0.twins_.e0, .string m0.twins_.e1, .bool m0.found_, .bool m0.full_, .int .i64 m0.sums_] 64, mpo kStr kStr p0 m0.table_, mpo kStr kStr p1 m0.notes_] ++ F0)) (fun w hs => hs) ?_
  refine cw_seq ?_
  refine cw_region ?_
  refine ow_vals 1 (j := 1) [0, 1] [(0, .pointer (some ⟨b0, 0, none⟩)), (1, .string x1)] rfl (by kernel_rfl) ?_
  refine ow_end rfl ?_
  refine ew_then ?_
  refine cw_seq ?_
  refine cw_region ?_
  refine ow_vals 2 (j := 2) [5, 6] [(5, .pointer (some ⟨b0, 0, none⟩)), (6, .string x1)] rfl (by kernel_rfl) ?_
  obtain ⟨r21, h22, hF⟩ := bind_some hF
  refine ow_pw rfl (pw_call (F := [pt b0 #[.map (some p0), .map (some p1), .string m0.twins_.e0, .string m0.twins_.e1, .bool m0.found_, .bool m0.full_, .int .i64 m0.sums_] 64, mpo kStr kStr p0 m0.table_, mpo kStr kStr p1 m0.notes_] ++ F0) rfl rfl rfl rfl rfl rfl rfl (by kernel_rfl) (perm_of_pulls [0] rfl) (c_octet_Text _ x1 r21 h22) ?_)
  rintro _ _ ⟨rfl, rfl⟩
  refine nw_H (H' := [imm I, pt b0 #[.map (some p0), .map (some p1), .string m0.twins_.e0, .string m0.twins_.e1, .bool m0.found_, .bool m0.full_, .int .i64 m0.sums_] 64, mpo kStr kStr p0 m0.table_, mpo kStr kStr p1 m0.notes_] ++ F0) rfl (nw_ow ?_)
  obtain ⟨h23, hF⟩ := chk_some hF
  refine ow_pw rfl (pw_quiet (v := .string ((ByteArray.mk #[105, 100]) ++ r21)) rfl rfl rfl rfl (q_concat rfl rfl rfl h23) (nw_ow ?_))
  obtain ⟨r24, h25, hF⟩ := bind_some hF
  refine ow_pw rfl (pw_call (F := [] ++ F0) rfl rfl rfl rfl rfl rfl rfl (by kernel_rfl) (perm_of_pulls [0, 0, 0, 0] rfl) (c_pledge_Leaf _ ((ByteArray.mk #[105, 100]) ++ r21) m0 p0 p1 b0 r24 h25) ?_)
  rintro _ _ ⟨r24_b1, r24_b3, rfl, rfl⟩
  refine nw_H (H' := [imm I, pt b0 #[.map (some r24_b1), .map (some r24_b3), .string r24.2.twins_.e0, .string r24.2.twins_.e1, .bool r24.2.found_, .bool r24.2.full_, .int .i64 r24.2.sums_] 64, mpo kStr kStr r24_b1 r24.2.table_, mpo kStr kStr r24_b3 r24.2.notes_] ++ F0) rfl (nw_ow ?_)
  refine ow_vals 1 (j := 6) [4] [(4, .string r24.1)] rfl (by kernel_rfl) ?_
  refine ow_end rfl ?_
  refine ew_then ?_
  refine cw_ret ?_
  have hR := Option.some.inj hF
  subst hR
  exact fin1 (H1 := [imm I, pt b0 #[.map (some r24_b1), .map (some r24_b3), .string r24.2.twins_.e0, .string r24.2.twins_.e1, .bool r24.2.found_, .bool r24.2.full_, .int .i64 r24.2.sums_] 64, mpo kStr kStr r24_b1 r24.2.table_, mpo kStr kStr r24_b3 r24.2.notes_]) (fun w hs => sat_to [0, 0, 0, 0] 0 rfl hs) rfl (rr_tmp rfl) ⟨r24_b1, r24_b3, rfl, rfl⟩


def F.absent_leaves.l1 (x1 : List ByteArray) (l23 : List ByteArray) (x27 : Int) (l28 : List (ByteArray × ByteArray)) (l31 : List (ByteArray × ByteArray)) (s34 : ByteArray) (s35 : ByteArray) (x36 : Bool) (x37 : Bool) (x38 : Int) : Option (((List ByteArray) × Int × (List (ByteArray × ByteArray)) × (List (ByteArray × ByteArray)) × ByteArray × ByteArray × Bool × Bool × Int) ⊕ ((List ByteArray) × (List (ByteArray × ByteArray)) × (List (ByteArray × ByteArray)) × ByteArray × ByteArray × Bool × Bool × Int)) :=
  if decide (x27 < (x1.length : Int)) then (Option.bind (at_ x1 x27) (fun (y40 : ByteArray) => Option.bind (F.absent_leaf y40 (⟨l28, l31, (⟨s34, s35⟩ : A2_ByteArray), x36, x37, x38⟩ : mill_Mill)) (fun (r44 : ByteArray × mill_Mill) => chk (room (l23.length + ([r44.1] : List ByteArray).length) 16) (some (.inl (l23 ++ ([r44.1] : List ByteArray), IntKind.i64.wrap (x27 + 1), r44.2.table_, r44.2.notes_, r44.2.twins_.e0, r44.2.twins_.e1, r44.2.found_, r44.2.full_, r44.2.sums_)))))) else (some (.inr ((l23, l28, l31, s34, s35, x36, x37, x38))))
def F.absent_leaves.r2 (l53 : List ByteArray) (l57 : List (ByteArray × ByteArray)) (l60 : List (ByteArray × ByteArray)) (s63 : ByteArray) (s64 : ByteArray) (x65 : Bool) (x66 : Bool) (x67 : Int) : Option ((List ByteArray) × mill_Mill) :=
  some ((l53, (⟨l57, l60, (⟨s63, s64⟩ : A2_ByteArray), x65, x66, x67⟩ : mill_Mill)))
def F.absent_leaves (x1 : List ByteArray) (m0 : mill_Mill) : Option ((List ByteArray) × mill_Mill) :=
  Option.bind (iter (fun x => F.absent_leaves.l1 x1 x.1 x.2.1 x.2.2.1 x.2.2.2.1 x.2.2.2.2.1 x.2.2.2.2.2.1 x.2.2.2.2.2.2.1 x.2.2.2.2.2.2.2.1 x.2.2.2.2.2.2.2.2) FUEL ([], 0, m0.table_, m0.notes_, m0.twins_.e0, m0.twins_.e1, m0.found_, m0.full_, m0.sums_)) (fun x => F.absent_leaves.r2 x.1 x.2.1 x.2.2.1 x.2.2.2.1 x.2.2.2.2.1 x.2.2.2.2.2.1 x.2.2.2.2.2.2.1 x.2.2.2.2.2.2.2)
set_option maxRecDepth 100000 in
set_option maxHeartbeats 4000000 in
theorem c_absent_leaves (I : Hl) (x1 : List ByteArray) (m0 : mill_Mill) (p0 : Option Addr) (c0 : Nat) (p1 : Nat) (p2 : Nat) (b0 : Nat) (res : (List ByteArray) × mill_Mill) (hF : F.absent_leaves x1 m0 = some res) (hr0 : ro I eStr p0 c0 x1) : Tr Try.prog 31 [.pointer (some ⟨b0, 0, none⟩), .slice p0 x1.length c0] [imm I, pt b0 #[.map (some p1), .map (some p2), .string m0.twins_.e0, .string m0.twins_.e1, .bool m0.found_, .bool m0.full_, .int .i64 m0.sums_] 64, mpo kStr kStr p1 m0.table_, mpo kStr kStr p2 m0.notes_] (fun r H' => ∃ (pq1 : Option Addr), ∃ (cq2 : Nat), ∃ (bq4 : Nat), ∃ (bq6 : Nat), r = .slice pq1 res.1.length cq2 ∧ H' = [imm I, pt b0 #[.map (some bq4), .map (some bq6), .string res.2.twins_.e0, .string res.2.twins_.e1, .bool res.2.found_, .bool res.2.full_, .int .i64 res.2.sums_] 64, own eStr 9 pq1 cq2 res.1, mpo kStr kStr bq4 res.2.table_, mpo kStr kStr bq6 res.2.notes_]) := by
  unfold F.absent_leaves at hF
  refine tr_of_cw (fn := Try.f31) Try.func31 rfl (Nat.le_of_ble_eq_true rfl) 22 rfl fun F0 w0 => ?_
  refine cw_keep [0, 1] (L' := [(0, .pointer (some ⟨b0, 0, none⟩)), (1, .slice p0 x1.length c0)]) rfl ?_
  refine cw_state (S' := SAT w0 ([imm I, pt b0 #[.map (some p1), .map (some p2), .string m0.twins_.e0, .string m0.twins_.e1, .bool m0.found_, .bool m0.full_, .int .i64 m0.sums_] 64, mpo kStr kStr p1 m0.table_, mpo kStr kStr p2 m0.notes_] ++ F0)) (fun w hs => hs) ?_
  refine cw_seq ?_
  refine cw_region ?_
  refine ow_vals 1 (j := 1) [0, 1] [(0, .pointer (some ⟨b0, 0, none⟩)), (1, .slice p0 x1.length c0)] rfl (by kernel_rfl) ?_
  refine ow_end rfl ?_
  refine ew_then ?_
  refine cw_seq ?_
  refine cw_region ?_
  refine ow_vals 1 (j := 1) [0, 1, 5] [(0, .pointer (some ⟨b0, 0, none⟩)), (1, .slice p0 x1.length c0), (5, .slice none 0 0)] rfl (by kernel_rfl) ?_
  refine ow_end rfl ?_
  refine ew_then ?_
  obtain ⟨v21, hF, hK21⟩ := bind_some hF
  refine cw_mid (fun a w => ∃ (l53 : List ByteArray), ∃ (l57 : List (ByteArray × ByteArray)), ∃ (l60 : List (ByteArray × ByteArray)), ∃ (s63 : ByteArray), ∃ (s64 : ByteArray), ∃ (x65 : Bool), ∃ (x66 : Bool), ∃ (x67 : Int), ∃ (p54 : Option Addr), ∃ (c55 : Nat), ∃ (b59 : Nat), ∃ (b62 : Nat), (l53, l57, l60, s63, s64, x65, x66, x67) = v21 ∧ Fr 22 [(5, .slice p54 l53.length c55)] a ∧ SAT w0 ([imm I, pt b0 #[.map (some b59), .map (some b62), .string s63, .string s64, .bool x65, .bool x66, .int .i64 x67] 64, own eStr 9 p54 c55 l53, mpo kStr kStr b59 l57, mpo kStr kStr b62 l60] ++ F0) w) ?_ ?_
  · refine cw_seq ?_
    refine cw_region ?_
    refine ow_vals 3 (j := 3) [0, 5, 8, 9, 10] [(0, .pointer (some ⟨b0, 0, none⟩)), (5, .slice none 0 0), (8, .slice p0 x1.length c0), (9, .int .i64 (x1.length : Int)), (10, .int .i64 0)] rfl (by kernel_rfl) ?_
    refine ow_end rfl ?_
    refine ew_then ?_
    refine cw_block ?_
    refine fun a w hf hs => wp_rounds (fun k a w => ∃ (l23 : List ByteArray), ∃ (x27 : Int), ∃ (l28 : List (ByteArray × ByteArray)), ∃ (l31 : List (ByteArray × ByteArray)), ∃ (s34 : ByteArray), ∃ (s35 : ByteArray), ∃ (x36 : Bool), ∃ (x37 : Bool), ∃ (x38 : Int), ∃ (p24 : Option Addr), ∃ (c25 : Nat), ∃ (b30 : Nat), ∃ (b33 : Nat), iter (fun x => F.absent_leaves.l1 x1 x.1 x.2.1 x.2.2.1 x.2.2.2.1 x.2.2.2.2.1 x.2.2.2.2.2.1 x.2.2.2.2.2.2.1 x.2.2.2.2.2.2.2.1 x.2.2.2.2.2.2.2.2) k (l23, x27, l28, l31, s34, s35, x36, x37, x38) = some v21 ∧ Fr 22 [(0, .pointer (some ⟨b0, 0, none⟩)), (5, .slice p24 l23.length c25), (8, .slice p0 x1.length c0), (9, .int .i64 (x1.length : Int)), (10, .int .i64 x27)] a ∧ SAT w0 ([imm I, pt b0 #[.map (some b30), .map (some b33), .string s34, .string s35, .bool x36, .bool x37, .int .i64 x38] 64, own eStr 9 p24 c25 l23, mpo kStr kStr b30 l28, mpo kStr kStr b33 l31] ++ F0) w) ?_ FUEL a w ⟨[], 0, m0.table_, m0.notes_, m0.twins_.e0, m0.twins_.e1, m0.found_, m0.full_, m0.sums_, none, 0, p1, p2, hF, hf.keep [0, 5, 8, 9, 10], sat_to [1, 1, 0, 0, 0] 0 rfl (sat_own_nil eStr 9 hs)⟩
    clear hf hs
    clear a w hF
    rintro k a w ⟨l23, x27, l28, l31, s34, s35, x36, x37, x38, p24, c25, b30, b33, hF2, hf, hs⟩
    obtain ⟨k, r22, rfl, hF, hL22⟩ := iter_some hF2
    clear hF2
    revert a w
    show CW _ _ _ 22 [(0, .pointer (some ⟨b0, 0, none⟩)), (5, .slice p24 l23.length c25), (8, .slice p0 x1.length c0), (9, .int .i64 (x1.length : Int)), (10, .int .i64 x27)] (SAT w0 ([imm I, pt b0 #[.map (some b30), .map (some b33), .string s34, .string s35, .bool x36, .bool x37, .int .i64 x38] 64, own eStr 9 p24 c25 l23, mpo kStr kStr b30 l28, mpo kStr kStr b33 l31] ++ F0))
    try dsimp only at hF
    unfold F.absent_leaves.l1 at hF
    refine cw_seq ?_
    refine cw_region ?_
    refine ow_vals 1 (j := 1) [0, 5, 8, 9, 10, 11] [(0, .pointer (some ⟨b0, 0, none⟩)), (5, .slice p24 l23.length c25), (8, .slice p0 x1.length c0), (9, .int .i64 (x1.length : Int)), (10, .int .i64 x27), (11, .bool (decide (x27 < (x1.length : Int))))] rfl (by kernel_rfl) ?_
    refine ow_end rfl ?_
    refine ew_then ?_
    refine cw_seq ?_
    rcases if_some hF with ⟨h39, hF⟩ | ⟨h39, hF⟩
    · refine cw_cond_t rfl rfl h39 ?_
      refine cw_skip ?_
      refine ew_then ?_
      refine cw_seq ?_
      refine cw_block ?_
      refine cw_seq ?_
      refine cw_region ?_
      obtain ⟨y40, h41, hF⟩ := bind_some hF
      refine ow_pw rfl (pw_index_ro (E := 9) 1 hr0 rfl rfl rfl rfl rfl (by kernel_rfl) rfl rfl rfl h41 fun q42 h43 => nw_ow ?_)
      refine ow_pw rfl (pw_quiet (v := .string y40) rfl rfl rfl rfl (q_load_el0 0 rfl h43 rfl rfl (by kernel_rfl)) (nw_ow ?_))
      refine ow_vals 1 (j := 3) [0, 5, 7, 8, 9, 10] [(0, .pointer (some ⟨b0, 0, none⟩)), (5, .slice p24 l23.length c25), (7, .string y40), (8, .slice p0 x1.length c0), (9, .int .i64 (x1.length : Int)), (10, .int .i64 x27)] rfl (by kernel_rfl) ?_
      refine ow_end rfl ?_
      refine ew_then ?_
      refine cw_region ?_
      refine ow_vals 3 (j := 3) [0, 8, 9, 10, 14, 15, 16] [(0, .pointer (some ⟨b0, 0, none⟩)), (8, .slice p0 x1.length c0), (9, .int .i64 (x1.length : Int)), (10, .int .i64 x27), (14, .slice p24 l23.length c25), (15, .pointer (some ⟨b0, 0, none⟩)), (16, .string y40)] rfl (by kernel_rfl) ?_
      obtain ⟨r44, h45, hF⟩ := bind_some hF
      refine ow_pw rfl (pw_call (F := [own eStr 9 p24 c25 l23] ++ F0) rfl rfl rfl rfl rfl rfl rfl (by kernel_rfl) (perm_of_pulls [0, 0, 1, 1] rfl) (c_absent_leaf _ y40 (⟨l28, l31, (⟨s34, s35⟩ : A2_ByteArray), x36, x37, x38⟩ : mill_Mill) b30 b33 b0 r44 h45) ?_)
      rintro _ _ ⟨r44_b1, r44_b3, rfl, rfl⟩
      refine nw_H (H' := [imm I, pt b0 #[.map (some r44_b1), .map (some r44_b3), .string r44.2.twins_.e0, .string r44.2.twins_.e1, .bool r44.2.found_, .bool r44.2.full_, .int .i64 r44.2.sums_] 64, mpo kStr kStr r44_b1 r44.2.table_, mpo kStr kStr r44_b3 r44.2.notes_, own eStr 9 p24 c25 l23] ++ F0) rfl (nw_ow ?_)
      refine ow_pw rfl (pw_buildSlice (E := 9) eStr ([r44.1] : List ByteArray) rfl rfl rfl rfl rfl (by kernel_rfl) rfl (by kernel_rfl) rfl (by decide) rfl fun p48 => nw_ow ?_)
      obtain ⟨h50, hF⟩ := chk_some hF
      refine ow_pw rfl (pw_append 5 (l' := ([r44.1] : List ByteArray)) rfl rfl rfl rfl rfl rfl (by kernel_rfl) (by kernel_rfl) rfl rfl rfl (src_own (E' := 9) 0 rfl (by kernel_rfl) rfl) rfl h50.1 h50.2 fun p51 c52 => nw_H (H' := [own eStr 9 p48 1 ([r44.1] : List ByteArray), imm I, pt b0 #[.map (some r44_b1), .map (some r44_b3), .string r44.2.twins_.e0, .string r44.2.twins_.e1, .bool r44.2.found_, .bool r44.2.full_, .int .i64 r44.2.sums_] 64, mpo kStr kStr r44_b1 r44.2.table_, mpo kStr kStr r44_b3 r44.2.notes_, own eStr 9 p51 c52 (l23 ++ ([r44.1] : List ByteArray))] ++ F0) rfl (nw_ow ?_))
      refine ow_vals 1 (j := 7) [0, 5, 8, 9, 10] [(0, .pointer (some ⟨b0, 0, none⟩)), (5, .slice p51 (l23 ++ ([r44.1] : List ByteArray)).length c52), (8, .slice p0 x1.length c0), (9, .int .i64 (x1.length : Int)), (10, .int .i64 x27)] rfl (by kernel_rfl) ?_
      refine ow_end rfl ?_
      refine ew_blk ?_
      refine ew_then ?_
      refine cw_region ?_
      refine ow_vals 2 (j := 2) [0, 5, 8, 9, 10] [(0, .pointer (some ⟨b0, 0, none⟩)), (5, .slice p51 (l23 ++ ([r44.1] : List ByteArray)).length c52), (8, .slice p0 x1.length c0), (9, .int .i64 (x1.length : Int)), (10, .int .i64 (IntKind.i64.wrap (x27 + 1)))] rfl (by kernel_rfl) ?_
      refine ow_end rfl ?_
      have hR := Option.some.inj hF
      subst hR
      have hR := hL22
      try dsimp only at hR
      exact fun a w hf hs => ⟨k, Nat.lt_succ_self k, l23 ++ ([r44.1] : List ByteArray), IntKind.i64.wrap (x27 + 1), r44.2.table_, r44.2.notes_, r44.2.twins_.e0, r44.2.twins_.e1, r44.2.found_, r44.2.full_, r44.2.sums_, p51, c52, r44_b1, r44_b3, hR, hf.keep [0, 5, 8, 9, 10], sat_to [0, 0, 0, 2, 0, 0] 1 rfl hs⟩
    refine cw_cond_f rfl rfl h39 ?_
    refine cw_exit ?_
    refine ew_then_exit ?_
    refine ew_then_exit ?_
    refine ew_blk_exit ?_
    have hR := Option.some.inj hF
    subst hR
    have hR := hL22
    try dsimp only at hR
    exact fun a w hf hs => ⟨l23, l28, l31, s34, s35, x36, x37, x38, p24, c25, b30, b33, hR, hf.keep [5], sat_to [0, 0, 0, 0, 0] 0 rfl hs⟩
  rintro a w ⟨l53, l57, l60, s63, s64, x65, x66, x67, p54, c55, b59, b62, hv, hf, hs⟩
  subst hv
  replace hF := hK21
  clear hK21
  try dsimp only at hF
  revert a w
  show CW _ _ _ 22 [(5, .slice p54 l53.length c55)] (SAT w0 ([imm I, pt b0 #[.map (some b59), .map (some b62), .string s63, .string s64, .bool x65, .bool x66, .int .i64 x67] 64, own eStr 9 p54 c55 l53, mpo kStr kStr b59 l57, mpo kStr kStr b62 l60] ++ F0))
  unfold F.absent_leaves.r2 at hF
  refine cw_seq ?_
  refine cw_region ?_
  refine ow_vals 2 (j := 2) [4] [(4, .slice p54 l53.length c55)] rfl (by kernel_rfl) ?_
  refine ow_end rfl ?_
  refine ew_then ?_
  refine cw_ret ?_
  have hR := Option.some.inj hF
  subst hR
  exact fin1 (H1 := [imm I, pt b0 #[.map (some b59), .map (some b62), .string (((⟨l57, l60, (⟨s63, s64⟩ : A2_ByteArray), x65, x66, x67⟩ : mill_Mill).twins_).e0), .string (((⟨l57, l60, (⟨s63, s64⟩ : A2_ByteArray), x65, x66, x67⟩ : mill_Mill).twins_).e1), .bool ((⟨l57, l60, (⟨s63, s64⟩ : A2_ByteArray), x65, x66, x67⟩ : mill_Mill).found_), .bool ((⟨l57, l60, (⟨s63, s64⟩ : A2_ByteArray), x65, x66, x67⟩ : mill_Mill).full_), .int .i64 ((⟨l57, l60, (⟨s63, s64⟩ : A2_ByteArray), x65, x66, x67⟩ : mill_Mill).sums_)] 64, own eStr 9 p54 c55 l53, mpo kStr kStr b59 ((⟨l57, l60, (⟨s63, s64⟩ : A2_ByteArray), x65, x66, x67⟩ : mill_Mill).table_), mpo kStr kStr b62 ((⟨l57, l60, (⟨s63, s64⟩ : A2_ByteArray), x65, x66, x67⟩ : mill_Mill).notes_)]) (fun w hs => sat_to [0, 0, 0, 0, 0] 0 rfl hs) rfl (rr_tmp rfl) ⟨p54, c55, b59, b62, rfl, rfl⟩


def F.merkle_split.l1 (x0 : Int) (x23 : Int) : Option ((Int) ⊕ (Int)) :=
  if decide (x23 < (IntKind.i64.wrap (x0 - x23))) then (some (.inl (IntKind.i64.wrap (x23 * 2)))) else (some (.inr (x23)))
def F.merkle_split.r2 (x25 : Int) : Option (Int) :=
  some (x25)
def F.merkle_split (x0 : Int) : Option Int :=
  Option.bind (iter (fun x => F.merkle_split.l1 x0 x) FUEL 1) (fun x => F.merkle_split.r2 x)
set_option maxRecDepth 100000 in
set_option maxHeartbeats 4000000 in
theorem c_merkle_split (I : Hl) (x0 : Int) (res : Int) (hF : F.merkle_split x0 = some res) : Tr Try.prog 58 [.int .i64 x0] [imm I] (fun r H' => r = .int .i64 res ∧ H' = [imm I]) := by
  unfold F.merkle_split at hF
  refine tr_of_cw (fn := Try.f58) Try.func58 rfl (Nat.le_of_ble_eq_true rfl) 12 rfl fun F0 w0 => ?_
  refine cw_keep [0] (L' := [(0, .int .i64 x0)]) rfl ?_
  refine cw_state (S' := SAT w0 ([imm I] ++ F0)) (fun w hs => hs) ?_
  refine cw_seq ?_
  refine cw_region ?_
  refine ow_vals 1 (j := 1) [0] [(0, .int .i64 x0)] rfl (by kernel_rfl) ?_
  refine ow_end rfl ?_
  refine ew_then ?_
  refine cw_seq ?_
  refine cw_region ?_
  refine ow_vals 1 (j := 1) [0, 3] [(0, .int .i64 x0), (3, .int .i64 1)] rfl (by kernel_rfl) ?_
  refine ow_end rfl ?_
  refine ew_then ?_
  obtain ⟨v21, hF, hK21⟩ := bind_some hF
  refine cw_mid (fun a w => ∃ (x25 : Int), x25 = v21 ∧ Fr 12 [(3, .int .i64 x25)] a ∧ SAT w0 ([imm I] ++ F0) w) ?_ ?_
  · refine cw_block ?_
    refine fun a w hf hs => wp_rounds (fun k a w => ∃ (x23 : Int), iter (fun x => F.merkle_split.l1 x0 x) k x23 = some v21 ∧ Fr 12 [(0, .int .i64 x0), (3, .int .i64 x23)] a ∧ SAT w0 ([imm I] ++ F0) w) ?_ FUEL a w ⟨1, hF, hf.keep [0, 3], sat_to [0] 0 rfl hs⟩
    clear hf hs
    clear a w hF
    rintro k a w ⟨x23, hF2, hf, hs⟩
    obtain ⟨k, r22, rfl, hF, hL22⟩ := iter_some hF2
    clear hF2
    revert a w
    show CW _ _ _ 12 [(0, .int .i64 x0), (3, .int .i64 x23)] (SAT w0 ([imm I] ++ F0))
    try dsimp only at hF
    unfold F.merkle_split.l1 at hF
    refine cw_seq ?_
    refine cw_seq ?_
    refine cw_region ?_
    refine ow_vals 5 (j := 5) [0, 3, 8] [(0, .int .i64 x0), (3, .int .i64 x23), (8, .bool (decide (x23 < (IntKind.i64.wrap (x0 - x23)))))] rfl (by kernel_rfl) ?_
    refine ow_end rfl ?_
    refine ew_then ?_
    rcases if_some hF with ⟨h24, hF⟩ | ⟨h24, hF⟩
    · refine cw_cond_t rfl rfl h24 ?_
      refine cw_skip ?_
      refine ew_then ?_
      refine cw_block ?_
      refine cw_region ?_
      refine ow_vals 3 (j := 3) [0, 3] [(0, .int .i64 x0), (3, .int .i64 (IntKind.i64.wrap (x23 * 2)))] rfl (by kernel_rfl) ?_
      refine ow_end rfl ?_
      refine ew_blk ?_
      have hR := Option.some.inj hF
      subst hR
      have hR := hL22
      try dsimp only at hR
      exact fun a w hf hs => ⟨k, Nat.lt_succ_self k, IntKind.i64.wrap (x23 * 2), hR, hf.keep [0, 3], sat_to [0] 0 rfl hs⟩
    refine cw_cond_f rfl rfl h24 ?_
    refine cw_exit ?_
    refine ew_then_exit ?_
    refine ew_then_exit ?_
    refine ew_blk_exit ?_
    have hR := Option.some.inj hF
    subst hR
    have hR := hL22
    try dsimp only at hR
    exact fun a w hf hs => ⟨x23, hR, hf.keep [3], sat_to [0] 0 rfl hs⟩
  rintro a w ⟨x25, hv, hf, hs⟩
  subst hv
  replace hF := hK21
  clear hK21
  try dsimp only at hF
  revert a w
  show CW _ _ _ 12 [(3, .int .i64 x25)] (SAT w0 ([imm I] ++ F0))
  unfold F.merkle_split.r2 at hF
  refine cw_seq ?_
  refine cw_region ?_
  refine ow_vals 2 (j := 2) [2] [(2, .int .i64 x25)] rfl (by kernel_rfl) ?_
  refine ow_end rfl ?_
  refine ew_then ?_
  refine cw_ret ?_
  have hR := Option.some.inj hF
  subst hR
  exact fin1 (H1 := [imm I]) (fun w hs => sat_to [0] 0 rfl hs) rfl (rr_tmp rfl) ⟨rfl, rfl⟩


def F.merkle_Root : Nat → (List ByteArray) → mill_Mill → Option (ByteArray × mill_Mill)
  | 0, _, _ => none
  | k + 1, x1, m0 => if (x1.length : Int) == 0 then (Option.bind (F.pledge_None m0) (fun (r22 : ByteArray × mill_Mill) => some ((r22.1, r22.2)))) else (if (x1.length : Int) == 1 then (Option.bind (at_ x1 0) (fun (y27 : ByteArray) => some ((y27, m0)))) else (Option.bind (F.merkle_split (x1.length : Int)) (fun (r31 : Int) => chk (0 ≤ (0 : Int) ∧ (0 : Int) ≤ r31 ∧ r31 ≤ r31 ∧ r31 ≤ (x1.length : Int)) (chk (0 ≤ r31 ∧ r31 ≤ (x1.length : Int) ∧ (x1.length : Int) ≤ (x1.length : Int)) (Option.bind ((F.merkle_Root k) ((x1.drop (0 : Int).toNat).take (r31.toNat - (0 : Int).toNat)) m0) (fun (r41 : ByteArray × mill_Mill) => Option.bind ((F.merkle_Root k) ((x1.drop r31.toNat).take ((x1.length : Int).toNat - r31.toNat)) r41.2) (fun (r45 : ByteArray × mill_Mill) => Option.bind (F.pledge_Node r41.1 r45.1 r45.2) (fun (r49 : ByteArray × mill_Mill) => some ((r49.1, r49.2))))))))))
set_option maxRecDepth 100000 in
set_option maxHeartbeats 4000000 in
theorem c_merkle_Root (k : Nat) : ∀ (I : Hl) (x1 : List ByteArray) (m0 : mill_Mill) (p0 : Option Addr) (c0 : Nat) (p1 : Nat) (p2 : Nat) (b0 : Nat) (res : ByteArray × mill_Mill) (hF : F.merkle_Root k x1 m0 = some res) (hr0 : ro I eStr p0 c0 x1), Tr Try.prog 30 [.pointer (some ⟨b0, 0, none⟩), .slice p0 x1.length c0] [imm I, pt b0 #[.map (some p1), .map (some p2), .string m0.twins_.e0, .string m0.twins_.e1, .bool m0.found_, .bool m0.full_, .int .i64 m0.sums_] 64, mpo kStr kStr p1 m0.table_, mpo kStr kStr p2 m0.notes_] (fun r H' => ∃ (bq1 : Nat), ∃ (bq3 : Nat), r = .string res.1 ∧ H' = [imm I, pt b0 #[.map (some bq1), .map (some bq3), .string res.2.twins_.e0, .string res.2.twins_.e1, .bool res.2.found_, .bool res.2.full_, .int .i64 res.2.sums_] 64, mpo kStr kStr bq1 res.2.table_, mpo kStr kStr bq3 res.2.notes_]) := by
  induction k with
  | zero => intro I x1 m0 p0 c0 p1 p2 b0 res hF hr0; cases hF
  | succ k ih =>
    intro I x1 m0 p0 c0 p1 p2 b0 res hF hr0
    rw [F.merkle_Root] at hF
    refine tr_of_cw (fn := Try.f30) Try.func30 rfl (Nat.le_of_ble_eq_true rfl) 33 rfl fun F0 w0 => ?_
    refine cw_keep [0, 1] (L' := [(0, .pointer (some ⟨b0, 0, none⟩)), (1, .slice p0 x1.length c0)]) rfl ?_
    refine cw_state (S' := SAT w0 ([imm I, pt b0 #[.map (some p1), .map (some p2), .string m0.twins_.e0, .string m0.twins_.e1, .bool m0.found_, .bool m0.full_, .int .i64 m0.sums_] 64, mpo kStr kStr p1 m0.table_, mpo kStr kStr p2 m0.notes_] ++ F0)) (fun w hs => hs) ?_
    refine cw_seq ?_
    refine cw_region ?_
    refine ow_vals 1 (j := 1) [0, 1] [(0, .pointer (some ⟨b0, 0, none⟩)), (1, .slice p0 x1.length c0)] rfl (by kernel_rfl) ?_
    refine ow_end rfl ?_
    refine ew_then ?_
    refine cw_seq ?_
    refine cw_seq ?_
    refine cw_region ?_
    refine ow_vals 2 (j := 2) [0, 1, 7] [(0, .pointer (some ⟨b0, 0, none⟩)), (1, .slice p0 x1.length c0), (7, .int .i64 (x1.length : Int))] rfl (by kernel_rfl) ?_
    refine ow_end rfl ?_
    refine ew_then ?_
    refine cw_block ?_
    refine cw_seq ?_
    refine cw_region ?_
    refine ow_vals 2 (j := 2) [0, 1, 7, 8] [(0, .pointer (some ⟨b0, 0, none⟩)), (1, .slice p0 x1.length c0), (7, .int .i64 (x1.length : Int)), (8, .bool ((x1.length : Int) == 0))] rfl (by kernel_rfl) ?_
    refine ow_end rfl ?_
    refine ew_then ?_
    rcases if_some hF with ⟨h21, hF⟩ | ⟨h21, hF⟩
    · refine cw_cond_t rfl rfl h21 ?_
      refine cw_seq ?_
      refine cw_region ?_
      refine ow_vals 1 (j := 1) [10] [(10, .pointer (some ⟨b0, 0, none⟩))] rfl (by kernel_rfl) ?_
      obtain ⟨r22, h23, hF⟩ := bind_some hF
      refine ow_pw rfl (pw_call (F := [] ++ F0) rfl rfl rfl rfl rfl rfl rfl (by kernel_rfl) (perm_of_pulls [0, 0, 0, 0] rfl) (c_pledge_None _ m0 p1 p2 b0 r22 h23) ?_)
      rintro _ _ ⟨r22_b1, r22_b3, rfl, rfl⟩
      refine nw_H (H' := [imm I, pt b0 #[.map (some r22_b1), .map (some r22_b3), .string r22.2.twins_.e0, .string r22.2.twins_.e1, .bool r22.2.found_, .bool r22.2.full_, .int .i64 r22.2.sums_] 64, mpo kStr kStr r22_b1 r22.2.table_, mpo kStr kStr r22_b3 r22.2.notes_] ++ F0) rfl (nw_ow ?_)
      refine ow_vals 1 (j := 3) [4] [(4, .string r22.1)] rfl (by kernel_rfl) ?_
      refine ow_end rfl ?_
      refine ew_then ?_
      refine cw_ret ?_
      refine ew_blk_ret ?_
      refine ew_then_ret ?_
      have hR := Option.some.inj hF
      subst hR
      exact fin1 (H1 := [imm I, pt b0 #[.map (some r22_b1), .map (some r22_b3), .string r22.2.twins_.e0, .string r22.2.twins_.e1, .bool r22.2.found_, .bool r22.2.full_, .int .i64 r22.2.sums_] 64, mpo kStr kStr r22_b1 r22.2.table_, mpo kStr kStr r22_b3 r22.2.notes_]) (fun w hs => sat_to [0, 0, 0, 0] 0 rfl hs) rfl (rr_tmp rfl) ⟨r22_b1, r22_b3, rfl, rfl⟩
    refine cw_cond_f rfl rfl h21 ?_
    refine cw_seq ?_
    refine cw_region ?_
    refine ow_vals 2 (j := 2) [0, 1, 12] [(0, .pointer (some ⟨b0, 0, none⟩)), (1, .slice p0 x1.length c0), (12, .bool ((x1.length : Int) == 1))] rfl (by kernel_rfl) ?_
    refine ow_end rfl ?_
    refine ew_then ?_
    rcases if_some hF with ⟨h26, hF⟩ | ⟨h26, hF⟩
    · refine cw_cond_t rfl rfl h26 ?_
      refine cw_seq ?_
      refine cw_region ?_
      refine ow_vals 1 (j := 1) [14] [(14, .slice p0 x1.length c0)] rfl (by kernel_rfl) ?_
      obtain ⟨y27, h28, hF⟩ := bind_some hF
      refine ow_pw rfl (pw_index_ro (E := 9) 1 hr0 rfl rfl rfl rfl rfl (by kernel_rfl) rfl rfl rfl h28 fun q29 h30 => nw_ow ?_)
      refine ow_pw rfl (pw_quiet (v := .string y27) rfl rfl rfl rfl (q_load_el0 0 rfl h30 rfl rfl (by kernel_rfl)) (nw_ow ?_))
      refine ow_vals 1 (j := 4) [4] [(4, .string y27)] rfl (by kernel_rfl) ?_
      refine ow_end rfl ?_
      refine ew_then ?_
      refine cw_ret ?_
      refine ew_blk_ret ?_
      refine ew_then_ret ?_
      have hR := Option.some.inj hF
      subst hR
      exact fin1 (H1 := [imm I, pt b0 #[.map (some p1), .map (some p2), .string m0.twins_.e0, .string m0.twins_.e1, .bool m0.found_, .bool m0.full_, .int .i64 m0.sums_] 64, mpo kStr kStr p1 m0.table_, mpo kStr kStr p2 m0.notes_]) (fun w hs => sat_to [0, 0, 0, 0] 0 rfl hs) rfl (rr_tmp rfl) ⟨p1, p2, rfl, rfl⟩
    refine cw_cond_f rfl rfl h26 ?_
    refine cw_skip ?_
    refine ew_blk ?_
    refine ew_then ?_
    refine cw_seq ?_
    refine cw_region ?_
    refine ow_vals 2 (j := 2) [0, 1, 18] [(0, .pointer (some ⟨b0, 0, none⟩)), (1, .slice p0 x1.length c0), (18, .int .i64 (x1.length : Int))] rfl (by kernel_rfl) ?_
    obtain ⟨r31, h32, hF⟩ := bind_some hF
    refine ow_pw rfl (pw_call (F := [pt b0 #[.map (some p1), .map (some p2), .string m0.twins_.e0, .string m0.twins_.e1, .bool m0.found_, .bool m0.full_, .int .i64 m0.sums_] 64, mpo kStr kStr p1 m0.table_, mpo kStr kStr p2 m0.notes_] ++ F0) rfl rfl rfl rfl rfl rfl rfl (by kernel_rfl) (perm_of_pulls [0] rfl) (c_merkle_split _ (x1.length : Int) r31 h32) ?_)
    rintro _ _ ⟨rfl, rfl⟩
    refine nw_H (H' := [imm I, pt b0 #[.map (some p1), .map (some p2), .string m0.twins_.e0, .string m0.twins_.e1, .bool m0.found_, .bool m0.full_, .int .i64 m0.sums_] 64, mpo kStr kStr p1 m0.table_, mpo kStr kStr p2 m0.notes_] ++ F0) rfl (nw_ow ?_)
    refine ow_vals 1 (j := 4) [0, 1, 5] [(0, .pointer (some ⟨b0, 0, none⟩)), (1, .slice p0 x1.length c0), (5, .int .i64 r31)] rfl (by kernel_rfl) ?_
    refine ow_end rfl ?_
    refine ew_then ?_
    refine cw_seq ?_
    refine cw_open 12 (SAT w0 ([imm I])) (by kernel_rfl) (f := 14) rfl (fun w hs => sat_drew hs) ?_
    refine aw_vals [0, 1, 2, 3, 4, 7, 8, 9] (f' := 6) (m' := 927) [20, 21, 22, 23, 24, 27, 28, 29] [(20, .pointer (some ⟨b0, 0, none⟩)), (21, .pointer (some ⟨b0, 0, none⟩)), (22, .slice p0 x1.length c0), (23, .int .i64 r31), (24, .int .i64 r31), (27, .pointer (some ⟨b0, 0, none⟩)), (28, .slice p0 x1.length c0), (29, .int .i64 r31)] (fun _ _ _ _ _ h => calm_fin (P := Try.prog) (fn := Try.f30) _ _ _ _ _ h) (fun w hs => sat_pulls [0] (G := [pt b0 #[.map (some p1), .map (some p2), .string m0.twins_.e0, .string m0.twins_.e1, .bool m0.found_, .bool m0.full_, .int .i64 m0.sums_] 64, mpo kStr kStr p1 m0.table_, mpo kStr kStr p2 m0.notes_] ++ F0) rfl hs) rfl (by kernel_rfl) ?_
    obtain ⟨h33, hF⟩ := chk_some hF
    refine aw_slice3_ro (E := 9) 5 (mm' := 959) 1 hr0 rfl rfl rfl rfl rfl (by kernel_rfl) (by kernel_rfl) (fun _ _ _ _ _ h => calm_fin (P := Try.prog) (fn := Try.f30) _ _ _ _ _ h) (fun w hs => sat_pulls [0] (G := [pt b0 #[.map (some p1), .map (some p2), .string m0.twins_.e0, .string m0.twins_.e1, .bool m0.found_, .bool m0.full_, .int .i64 m0.sums_] 64, mpo kStr kStr p1 m0.table_, mpo kStr kStr p2 m0.notes_] ++ F0) rfl hs) (by kernel_rfl) rfl rfl rfl rfl rfl h33 fun p34 c35 h36 => ?_
    obtain ⟨h37, hF⟩ := chk_some hF
    refine aw_slice_ro (E := 9) 10 (m' := 1983) 1 hr0 rfl rfl rfl rfl rfl (by kernel_rfl) (by kernel_rfl) (fun _ _ _ _ _ h => calm_fin (P := Try.prog) (fn := Try.f30) _ _ _ _ _ h) (fun w hs => sat_pulls [0] (G := [pt b0 #[.map (some p1), .map (some p2), .string m0.twins_.e0, .string m0.twins_.e1, .bool m0.found_, .bool m0.full_, .int .i64 m0.sums_] 64, mpo kStr kStr p1 m0.table_, mpo kStr kStr p2 m0.notes_] ++ F0) rfl hs) (by kernel_rfl) rfl rfl rfl rfl h37 fun p38 c39 h40 => ?_
    obtain ⟨r41, h42, hF⟩ := bind_some hF
    refine aw_only 6 (m' := 2047) (by kernel_rfl) (by kernel_rfl) (pw_call (F := [] ++ F0) rfl rfl rfl rfl rfl rfl rfl (by kernel_rfl) (perm_of_pulls [0, 0, 0, 0] rfl) (ih _ ((x1.drop (0 : Int).toNat).take (r31.toNat - (0 : Int).toNat)) m0 p34 c35 p1 p2 b0 r41 h42 h36) ?_)
    rintro _ _ ⟨r41_b1, r41_b3, rfl, rfl⟩
    refine nw_H (H' := [imm I, pt b0 #[.map (some r41_b1), .map (some r41_b3), .string r41.2.twins_.e0, .string r41.2.twins_.e1, .bool r41.2.found_, .bool r41.2.full_, .int .i64 r41.2.sums_] 64, mpo kStr kStr r41_b1 r41.2.table_, mpo kStr kStr r41_b3 r41.2.notes_] ++ F0) rfl (aw_next (fun w hs => sat_pulls [0] (G := [pt b0 #[.map (some r41_b1), .map (some r41_b3), .string r41.2.twins_.e0, .string r41.2.twins_.e1, .bool r41.2.found_, .bool r41.2.full_, .int .i64 r41.2.sums_] 64, mpo kStr kStr r41_b1 r41.2.table_, mpo kStr kStr r41_b3 r41.2.notes_] ++ F0) rfl hs) ?_)
    obtain ⟨r45, h46, hF⟩ := bind_some hF
    refine aw_only 11 (m' := 4095) (by kernel_rfl) (by kernel_rfl) (pw_call (F := [] ++ F0) rfl rfl rfl rfl rfl rfl rfl (by kernel_rfl) (perm_of_pulls [0, 0, 0, 0] rfl) (ih _ ((x1.drop r31.toNat).take ((x1.length : Int).toNat - r31.toNat)) r41.2 p38 c39 r41_b1 r41_b3 b0 r45 h46 h40) ?_)
    rintro _ _ ⟨r45_b1, r45_b3, rfl, rfl⟩
    refine nw_H (H' := [imm I, pt b0 #[.map (some r45_b1), .map (some r45_b3), .string r45.2.twins_.e0, .string r45.2.twins_.e1, .bool r45.2.found_, .bool r45.2.full_, .int .i64 r45.2.sums_] 64, mpo kStr kStr r45_b1 r45.2.table_, mpo kStr kStr r45_b3 r45.2.notes_] ++ F0) rfl (aw_next (fun w hs => sat_pulls [0] (G := [pt b0 #[.map (some r45_b1), .map (some r45_b3), .string r45.2.twins_.e0, .string r45.2.twins_.e1, .bool r45.2.found_, .bool r45.2.full_, .int .i64 r45.2.sums_] 64, mpo kStr kStr r45_b1 r45.2.table_, mpo kStr kStr r45_b3 r45.2.notes_] ++ F0) rfl hs) ?_)
    obtain ⟨r49, h50, hF⟩ := bind_some hF
    refine aw_only 12 (m' := 8191) (by kernel_rfl) (by kernel_rfl) (pw_call (F := [] ++ F0) rfl rfl rfl rfl rfl rfl rfl (by kernel_rfl) (perm_of_pulls [0, 0, 0, 0] rfl) (c_pledge_Node _ r41.1 r45.1 r45.2 r45_b1 r45_b3 b0 r49 h50) ?_)
    rintro _ _ ⟨r49_b1, r49_b3, rfl, rfl⟩
    refine nw_H (H' := [imm I, pt b0 #[.map (some r49_b1), .map (some r49_b3), .string r49.2.twins_.e0, .string r49.2.twins_.e1, .bool r49.2.found_, .bool r49.2.full_, .int .i64 r49.2.sums_] 64, mpo kStr kStr r49_b1 r49.2.table_, mpo kStr kStr r49_b3 r49.2.notes_] ++ F0) rfl (aw_last (by kernel_rfl) ?_)
    refine aw_past (by kernel_rfl) ?_
    refine aw_vals [13] (f' := 0) (m' := 16383) [4] [(4, .string r49.1)] (fun _ _ _ _ _ h => calm_fin (P := Try.prog) (fn := Try.f30) _ _ _ _ _ h) (fun _ _ => trivial) rfl (by kernel_rfl) ?_
    refine aw_keep [4] (L' := [(4, .string r49.1)]) rfl ?_
    refine aw_end (by kernel_rfl) ?_
    refine ew_then ?_
    refine cw_ret ?_
    have hR := Option.some.inj hF
    subst hR
    exact fin1 (H1 := [imm I, pt b0 #[.map (some r49_b1), .map (some r49_b3), .string r49.2.twins_.e0, .string r49.2.twins_.e1, .bool r49.2.found_, .bool r49.2.full_, .int .i64 r49.2.sums_] 64, mpo kStr kStr r49_b1 r49.2.table_, mpo kStr kStr r49_b3 r49.2.notes_]) (fun w hs => sat_to [0, 0, 0, 0] 0 rfl hs) rfl (rr_tmp rfl) ⟨r49_b1, r49_b3, rfl, rfl⟩


def F.merkle_Path.r1 (rec : (List ByteArray) → Int → mill_Mill → Option ((List ByteArray) × Int × mill_Mill)) (x1 : List ByteArray) (x2 : Int) (m0 : mill_Mill) : Option ((List ByteArray) × Int × mill_Mill) :=
  if (x1.length : Int) == 1 then (some ((([] : List ByteArray), 0, m0))) else (Option.bind (F.merkle_split (x1.length : Int)) (fun (r25 : Int) => if decide (x2 < r25) then (chk (0 ≤ (0 : Int) ∧ (0 : Int) ≤ r25 ∧ r25 ≤ (x1.length : Int)) (Option.bind (rec ((x1.drop (0 : Int).toNat).take (r25.toNat - (0 : Int).toNat)) x2 m0) (fun (r32 : (List ByteArray) × Int × mill_Mill) => chk (0 ≤ r25 ∧ r25 ≤ (x1.length : Int) ∧ (x1.length : Int) ≤ (x1.length : Int)) (Option.bind (F.merkle_Root FUEL ((x1.drop r25.toNat).take ((x1.length : Int).toNat - r25.toNat)) r32.2.2) (fun (r41 : ByteArray × mill_Mill) => chk (room (r32.1.length + ([r41.1] : List ByteArray).length) 16) (some ((r32.1 ++ ([r41.1] : List ByteArray), 0, r41.2)))))))) else (chk (0 ≤ r25 ∧ r25 ≤ (x1.length : Int) ∧ (x1.length : Int) ≤ (x1.length : Int)) (Option.bind (rec ((x1.drop r25.toNat).take ((x1.length : Int).toNat - r25.toNat)) (IntKind.i64.wrap (x2 - r25)) m0) (fun (r54 : (List ByteArray) × Int × mill_Mill) => chk (0 ≤ (0 : Int) ∧ (0 : Int) ≤ r25 ∧ r25 ≤ (x1.length : Int)) (Option.bind (F.merkle_Root FUEL ((x1.drop (0 : Int).toNat).take (r25.toNat - (0 : Int).toNat)) r54.2.2) (fun (r63 : ByteArray × mill_Mill) => chk (room (r54.1.length + ([r63.1] : List ByteArray).length) 16) (some ((r54.1 ++ ([r63.1] : List ByteArray), 0, r63.2))))))))))
def F.merkle_Path : Nat → (List ByteArray) → Int → mill_Mill → Option ((List ByteArray) × Int × mill_Mill)
  | 0, _, _, _ => none
  | k + 1, x1, x2, m0 => thru (if decide (x2 < 0) then (some (.inr ((([] : List ByteArray), 7, m0)))) else (if decide (x2 ≥ (x1.length : Int)) then (some (.inr ((([] : List ByteArray), 7, m0)))) else (some (.inl ())))) (fun x => F.merkle_Path.r1 (F.merkle_Path k) x1 x2 m0)
set_option maxRecDepth 100000 in
set_option maxHeartbeats 4000000 in
theorem c_merkle_Path (k : Nat) : ∀ (I : Hl) (x1 : List ByteArray) (x2 : Int) (m0 : mill_Mill) (p0 : Option Addr) (c0 : Nat) (p1 : Nat) (p2 : Nat) (b0 : Nat) (res : (List ByteArray) × Int × mill_Mill) (hF : F.merkle_Path k x1 x2 m0 = some res) (hr0 : ro I eStr p0 c0 x1), Tr Try.prog 65 [.pointer (some ⟨b0, 0, none⟩), .slice p0 x1.length c0, .int .i64 x2] [imm I, pt b0 #[.map (some p1), .map (some p2), .string m0.twins_.e0, .string m0.twins_.e1, .bool m0.found_, .bool m0.full_, .int .i64 m0.sums_] 64, mpo kStr kStr p1 m0.table_, mpo kStr kStr p2 m0.notes_] (fun r H' => ∃ (pq1 : Option Addr), ∃ (cq2 : Nat), ∃ (bq4 : Nat), ∃ (bq6 : Nat), r = .tuple #[.slice pq1 res.1.length cq2, .int .i64 res.2.1] ∧ H' = [imm I, pt b0 #[.map (some bq4), .map (some bq6), .string res.2.2.twins_.e0, .string res.2.2.twins_.e1, .bool res.2.2.found_, .bool res.2.2.full_, .int .i64 res.2.2.sums_] 64, own eStr 9 pq1 cq2 res.1, mpo kStr kStr bq4 res.2.2.table_, mpo kStr kStr bq6 res.2.2.notes_]) := by
  induction k with
  | zero => intro I x1 x2 m0 p0 c0 p1 p2 b0 res hF hr0; cases hF
  | succ k ih =>
    intro I x1 x2 m0 p0 c0 p1 p2 b0 res hF hr0
    rw [F.merkle_Path] at hF
    refine tr_of_cw (fn := Try.f65) Try.func65 rfl (Nat.le_of_ble_eq_true rfl) 66 rfl fun F0 w0 => ?_
    refine cw_keep [0, 1, 2] (L' := [(0, .pointer (some ⟨b0, 0, none⟩)), (1, .slice p0 x1.length c0), (2, .int .i64 x2)]) rfl ?_
    refine cw_state (S' := SAT w0 ([imm I, pt b0 #[.map (some p1), .map (some p2), .string m0.twins_.e0, .string m0.twins_.e1, .bool m0.found_, .bool m0.full_, .int .i64 m0.sums_] 64, mpo kStr kStr p1 m0.table_, mpo kStr kStr p2 m0.notes_] ++ F0)) (fun w hs => hs) ?_
    refine cw_seq ?_
    refine cw_region ?_
    refine ow_vals 2 (j := 2) [0, 1, 2] [(0, .pointer (some ⟨b0, 0, none⟩)), (1, .slice p0 x1.length c0), (2, .int .i64 x2)] rfl (by kernel_rfl) ?_
    refine ow_end rfl ?_
    refine ew_then ?_
    obtain ⟨v21, hF, hK21⟩ := thru_some hF
    refine cw_mid (fun a w => .inl () = v21 ∧ Fr 66 [(0, .pointer (some ⟨b0, 0, none⟩)), (1, .slice p0 x1.length c0), (2, .int .i64 x2)] a ∧ SAT w0 ([imm I, pt b0 #[.map (some p1), .map (some p2), .string m0.twins_.e0, .string m0.twins_.e1, .bool m0.found_, .bool m0.full_, .int .i64 m0.sums_] 64, mpo kStr kStr p1 m0.table_, mpo kStr kStr p2 m0.notes_] ++ F0) w) ?_ ?_
    · refine cw_seq ?_
      refine cw_region ?_
      refine ow_vals 3 (j := 3) [0, 1, 2, 15] [(0, .pointer (some ⟨b0, 0, none⟩)), (1, .slice p0 x1.length c0), (2, .int .i64 x2), (15, .bool (decide (x2 < 0)))] rfl (by kernel_rfl) ?_
      rcases if_some hF with ⟨h22, hF⟩ | ⟨h22, hF⟩
      · refine ow_slots (L' := [(0, .pointer (some ⟨b0, 0, none⟩)), (1, .slice p0 x1.length c0), (2, .int .i64 x2), (15, .bool true)]) (by rw [h22]) ?_
        refine ow_vals 5 (j := 8) [0, 1, 2, 20] [(0, .pointer (some ⟨b0, 0, none⟩)), (1, .slice p0 x1.length c0), (2, .int .i64 x2), (20, .bool true)] rfl (by kernel_rfl) ?_
        refine ow_end rfl ?_
        refine ew_then ?_
        refine cw_cond_t rfl rfl rfl ?_
        refine cw_seq ?_
        refine cw_region ?_
        refine ow_vals 2 (j := 2) [6, 7] [(6, .slice none 0 0), (7, .int .i64 7)] rfl (by kernel_rfl) ?_
        refine ow_end rfl ?_
        refine ew_then ?_
        refine cw_ret ?_
        refine ew_then_ret ?_
        have hR := Option.some.inj hF
        subst hR
        have hR := hK21
        try dsimp only [Thru] at hR
        subst hR
        exact fin2 (H1 := [imm I, pt b0 #[.map (some p1), .map (some p2), .string m0.twins_.e0, .string m0.twins_.e1, .bool m0.found_, .bool m0.full_, .int .i64 m0.sums_] 64, own eStr 9 none 0 ([] : List ByteArray), mpo kStr kStr p1 m0.table_, mpo kStr kStr p2 m0.notes_]) (fun w hs => sat_to [1, 1, 0, 0, 0] 0 rfl (sat_own_nil eStr 9 hs)) rfl (rr_tmp rfl) (rr_tmp rfl) ⟨none, 0, p1, p2, rfl, rfl⟩
      refine ow_slots (L' := [(0, .pointer (some ⟨b0, 0, none⟩)), (1, .slice p0 x1.length c0), (2, .int .i64 x2), (15, .bool false)]) (by rw [h22]) ?_
      refine ow_vals 5 (j := 8) [0, 1, 2, 20] [(0, .pointer (some ⟨b0, 0, none⟩)), (1, .slice p0 x1.length c0), (2, .int .i64 x2), (20, .bool (decide (x2 ≥ (x1.length : Int))))] rfl (by kernel_rfl) ?_
      refine ow_end rfl ?_
      refine ew_then ?_
      rcases if_some hF with ⟨h23, hF⟩ | ⟨h23, hF⟩
      · refine cw_cond_t rfl rfl h23 ?_
        refine cw_seq ?_
        refine cw_region ?_
        refine ow_vals 2 (j := 2) [6, 7] [(6, .slice none 0 0), (7, .int .i64 7)] rfl (by kernel_rfl) ?_
        refine ow_end rfl ?_
        refine ew_then ?_
        refine cw_ret ?_
        refine ew_then_ret ?_
        have hR := Option.some.inj hF
        subst hR
        have hR := hK21
        try dsimp only [Thru] at hR
        subst hR
        exact fin2 (H1 := [imm I, pt b0 #[.map (some p1), .map (some p2), .string m0.twins_.e0, .string m0.twins_.e1, .bool m0.found_, .bool m0.full_, .int .i64 m0.sums_] 64, own eStr 9 none 0 ([] : List ByteArray), mpo kStr kStr p1 m0.table_, mpo kStr kStr p2 m0.notes_]) (fun w hs => sat_to [1, 1, 0, 0, 0] 0 rfl (sat_own_nil eStr 9 hs)) rfl (rr_tmp rfl) (rr_tmp rfl) ⟨none, 0, p1, p2, rfl, rfl⟩
      refine cw_cond_f rfl rfl h23 ?_
      refine cw_skip ?_
      have hR := Option.some.inj hF
      exact fun a w hf hs => ⟨hR, hf.keep [0, 1, 2], sat_to [0, 0, 0, 0] 0 rfl hs⟩
    rintro a w ⟨hv, hf, hs⟩
    subst hv
    replace hF := hK21
    clear hK21
    try dsimp only [Thru] at hF
    revert a w
    show CW _ _ _ 66 [(0, .pointer (some ⟨b0, 0, none⟩)), (1, .slice p0 x1.length c0), (2, .int .i64 x2)] (SAT w0 ([imm I, pt b0 #[.map (some p1), .map (some p2), .string m0.twins_.e0, .string m0.twins_.e1, .bool m0.found_, .bool m0.full_, .int .i64 m0.sums_] 64, mpo kStr kStr p1 m0.table_, mpo kStr kStr p2 m0.notes_] ++ F0))
    unfold F.merkle_Path.r1 at hF
    refine cw_seq ?_
    refine cw_seq ?_
    refine cw_region ?_
    refine ow_vals 3 (j := 3) [0, 1, 2, 23] [(0, .pointer (some ⟨b0, 0, none⟩)), (1, .slice p0 x1.length c0), (2, .int .i64 x2), (23, .bool ((x1.length : Int) == 1))] rfl (by kernel_rfl) ?_
    refine ow_end rfl ?_
    refine ew_then ?_
    rcases if_some hF with ⟨h24, hF⟩ | ⟨h24, hF⟩
    · refine cw_cond_t rfl rfl h24 ?_
      refine cw_seq ?_
      refine cw_region ?_
      refine ow_vals 2 (j := 2) [6, 7] [(6, .slice none 0 0), (7, .int .i64 0)] rfl (by kernel_rfl) ?_
      refine ow_end rfl ?_
      refine ew_then ?_
      refine cw_ret ?_
      refine ew_then_ret ?_
      have hR := Option.some.inj hF
      subst hR
      exact fin2 (H1 := [imm I, pt b0 #[.map (some p1), .map (some p2), .string m0.twins_.e0, .string m0.twins_.e1, .bool m0.found_, .bool m0.full_, .int .i64 m0.sums_] 64, own eStr 9 none 0 ([] : List ByteArray), mpo kStr kStr p1 m0.table_, mpo kStr kStr p2 m0.notes_]) (fun w hs => sat_to [1, 1, 0, 0, 0] 0 rfl (sat_own_nil eStr 9 hs)) rfl (rr_tmp rfl) (rr_tmp rfl) ⟨none, 0, p1, p2, rfl, rfl⟩
    refine cw_cond_f rfl rfl h24 ?_
    refine cw_skip ?_
    refine ew_then ?_
    refine cw_seq ?_
    refine cw_region ?_
    refine ow_vals 2 (j := 2) [0, 1, 2, 25] [(0, .pointer (some ⟨b0, 0, none⟩)), (1, .slice p0 x1.length c0), (2, .int .i64 x2), (25, .int .i64 (x1.length : Int))] rfl (by kernel_rfl) ?_
    obtain ⟨r25, h26, hF⟩ := bind_some hF
    refine ow_pw rfl (pw_call (F := [pt b0 #[.map (some p1), .map (some p2), .string m0.twins_.e0, .string m0.twins_.e1, .bool m0.found_, .bool m0.full_, .int .i64 m0.sums_] 64, mpo kStr kStr p1 m0.table_, mpo kStr kStr p2 m0.notes_] ++ F0) rfl rfl rfl rfl rfl rfl rfl (by kernel_rfl) (perm_of_pulls [0] rfl) (c_merkle_split _ (x1.length : Int) r25 h26) ?_)
    rintro _ _ ⟨rfl, rfl⟩
    refine nw_H (H' := [imm I, pt b0 #[.map (some p1), .map (some p2), .string m0.twins_.e0, .string m0.twins_.e1, .bool m0.found_, .bool m0.full_, .int .i64 m0.sums_] 64, mpo kStr kStr p1 m0.table_, mpo kStr kStr p2 m0.notes_] ++ F0) rfl (nw_ow ?_)
    refine ow_vals 1 (j := 4) [0, 1, 2, 8] [(0, .pointer (some ⟨b0, 0, none⟩)), (1, .slice p0 x1.length c0), (2, .int .i64 x2), (8, .int .i64 r25)] rfl (by kernel_rfl) ?_
    refine ow_end rfl ?_
    refine ew_then ?_
    refine cw_seq ?_
    refine cw_seq ?_
    refine cw_region ?_
    refine ow_vals 3 (j := 3) [0, 1, 2, 8, 29] [(0, .pointer (some ⟨b0, 0, none⟩)), (1, .slice p0 x1.length c0), (2, .int .i64 x2), (8, .int .i64 r25), (29, .bool (decide (x2 < r25)))] rfl (by kernel_rfl) ?_
    refine ow_end rfl ?_
    refine ew_then ?_
    rcases if_some hF with ⟨h27, hF⟩ | ⟨h27, hF⟩
    · refine cw_cond_t rfl rfl h27 ?_
      refine cw_seq ?_
      refine cw_region ?_
      refine ow_vals 3 (j := 3) [0, 1, 2, 8, 31, 32, 33] [(0, .pointer (some ⟨b0, 0, none⟩)), (1, .slice p0 x1.length c0), (2, .int .i64 x2), (8, .int .i64 r25), (31, .pointer (some ⟨b0, 0, none⟩)), (32, .slice p0 x1.length c0), (33, .int .i64 r25)] rfl (by kernel_rfl) ?_
      obtain ⟨h28, hF⟩ := chk_some hF
      refine ow_pw rfl (pw_slice_ro (E := 9) 1 hr0 rfl rfl rfl rfl rfl (by kernel_rfl) rfl rfl rfl rfl h28 fun p29 c30 h31 => nw_ow ?_)
      refine ow_vals 1 (j := 5) [0, 1, 8, 31, 34, 35] [(0, .pointer (some ⟨b0, 0, none⟩)), (1, .slice p0 x1.length c0), (8, .int .i64 r25), (31, .pointer (some ⟨b0, 0, none⟩)), (34, .slice p29 ((x1.drop (0 : Int).toNat).take (r25.toNat - (0 : Int).toNat)).length c30), (35, .int .i64 x2)] rfl (by kernel_rfl) ?_
      obtain ⟨r32, h33, hF⟩ := bind_some hF
      refine ow_pw rfl (pw_call (F := [] ++ F0) rfl rfl rfl rfl rfl rfl rfl (by kernel_rfl) (perm_of_pulls [0, 0, 0, 0] rfl) (ih _ ((x1.drop (0 : Int).toNat).take (r25.toNat - (0 : Int).toNat)) x2 m0 p29 c30 p1 p2 b0 r32 h33 h31) ?_)
      rintro _ _ ⟨r32_p1, r32_c2, r32_b4, r32_b6, rfl, rfl⟩
      refine nw_H (H' := [imm I, pt b0 #[.map (some r32_b4), .map (some r32_b6), .string r32.2.2.twins_.e0, .string r32.2.2.twins_.e1, .bool r32.2.2.found_, .bool r32.2.2.full_, .int .i64 r32.2.2.sums_] 64, own eStr 9 r32_p1 r32_c2 r32.1, mpo kStr kStr r32_b4 r32.2.2.table_, mpo kStr kStr r32_b6 r32.2.2.notes_] ++ F0) rfl (nw_ow ?_)
      refine ow_vals 5 (j := 11) [0, 1, 8, 9] [(0, .pointer (some ⟨b0, 0, none⟩)), (1, .slice p0 x1.length c0), (8, .int .i64 r25), (9, .slice r32_p1 r32.1.length r32_c2)] rfl (by kernel_rfl) ?_
      refine ow_end rfl ?_
      refine ew_then ?_
      refine cw_seq ?_
      refine cw_region ?_
      refine ow_vals 4 (j := 4) [39, 40, 41, 42] [(39, .slice r32_p1 r32.1.length r32_c2), (40, .pointer (some ⟨b0, 0, none⟩)), (41, .slice p0 x1.length c0), (42, .int .i64 r25)] rfl (by kernel_rfl) ?_
      obtain ⟨h37, hF⟩ := chk_some hF
      refine ow_pw rfl (pw_slice_ro (E := 9) 1 hr0 rfl rfl rfl rfl rfl (by kernel_rfl) rfl rfl rfl rfl h37 fun p38 c39 h40 => nw_ow ?_)
      obtain ⟨r41, h42, hF⟩ := bind_some hF
      refine ow_pw rfl (pw_call (F := [own eStr 9 r32_p1 r32_c2 r32.1] ++ F0) rfl rfl rfl rfl rfl rfl rfl (by kernel_rfl) (perm_of_pulls [0, 0, 1, 1] rfl) (c_merkle_Root FUEL _ ((x1.drop r25.toNat).take ((x1.length : Int).toNat - r25.toNat)) r32.2.2 p38 c39 r32_b4 r32_b6 b0 r41 h42 h40) ?_)
      rintro _ _ ⟨r41_b1, r41_b3, rfl, rfl⟩
      refine nw_H (H' := [imm I, pt b0 #[.map (some r41_b1), .map (some r41_b3), .string r41.2.twins_.e0, .string r41.2.twins_.e1, .bool r41.2.found_, .bool r41.2.full_, .int .i64 r41.2.sums_] 64, mpo kStr kStr r41_b1 r41.2.table_, mpo kStr kStr r41_b3 r41.2.notes_, own eStr 9 r32_p1 r32_c2 r32.1] ++ F0) rfl (nw_ow ?_)
      refine ow_pw rfl (pw_buildSlice (E := 9) eStr ([r41.1] : List ByteArray) rfl rfl rfl rfl rfl (by kernel_rfl) rfl (by kernel_rfl) rfl (by decide) rfl fun p45 => nw_ow ?_)
      obtain ⟨h47, hF⟩ := chk_some hF
      refine ow_pw rfl (pw_append 5 (l' := ([r41.1] : List ByteArray)) rfl rfl rfl rfl rfl rfl (by kernel_rfl) (by kernel_rfl) rfl rfl rfl (src_own (E' := 9) 0 rfl (by kernel_rfl) rfl) rfl h47.1 h47.2 fun p48 c49 => nw_H (H' := [own eStr 9 p45 1 ([r41.1] : List ByteArray), imm I, pt b0 #[.map (some r41_b1), .map (some r41_b3), .string r41.2.twins_.e0, .string r41.2.twins_.e1, .bool r41.2.found_, .bool r41.2.full_, .int .i64 r41.2.sums_] 64, mpo kStr kStr r41_b1 r41.2.table_, mpo kStr kStr r41_b3 r41.2.notes_, own eStr 9 p48 c49 (r32.1 ++ ([r41.1] : List ByteArray))] ++ F0) rfl (nw_ow ?_))
      refine ow_vals 2 (j := 10) [6, 7] [(6, .slice p48 (r32.1 ++ ([r41.1] : List ByteArray)).length c49), (7, .int .i64 0)] rfl (by kernel_rfl) ?_
      refine ow_end rfl ?_
      refine ew_then ?_
      refine cw_ret ?_
      refine ew_then_ret ?_
      have hR := Option.some.inj hF
      subst hR
      exact fin2 (H1 := [imm I, pt b0 #[.map (some r41_b1), .map (some r41_b3), .string r41.2.twins_.e0, .string r41.2.twins_.e1, .bool r41.2.found_, .bool r41.2.full_, .int .i64 r41.2.sums_] 64, own eStr 9 p48 c49 (r32.1 ++ ([r41.1] : List ByteArray)), mpo kStr kStr r41_b1 r41.2.table_, mpo kStr kStr r41_b3 r41.2.notes_]) (fun w hs => sat_to [0, 0, 0, 2, 0, 0] 1 rfl hs) rfl (rr_tmp rfl) (rr_tmp rfl) ⟨p48, c49, r41_b1, r41_b3, rfl, rfl⟩
    refine cw_cond_f rfl rfl h27 ?_
    refine cw_skip ?_
    refine ew_then ?_
    refine cw_seq ?_
    refine cw_region ?_
    refine ow_vals 3 (j := 3) [0, 1, 2, 8, 48, 49, 50] [(0, .pointer (some ⟨b0, 0, none⟩)), (1, .slice p0 x1.length c0), (2, .int .i64 x2), (8, .int .i64 r25), (48, .pointer (some ⟨b0, 0, none⟩)), (49, .slice p0 x1.length c0), (50, .int .i64 r25)] rfl (by kernel_rfl) ?_
    obtain ⟨h50, hF⟩ := chk_some hF
    refine ow_pw rfl (pw_slice_ro (E := 9) 1 hr0 rfl rfl rfl rfl rfl (by kernel_rfl) rfl rfl rfl rfl h50 fun p51 c52 h53 => nw_ow ?_)
    refine ow_vals 3 (j := 7) [0, 1, 8, 48, 51, 54] [(0, .pointer (some ⟨b0, 0, none⟩)), (1, .slice p0 x1.length c0), (8, .int .i64 r25), (48, .pointer (some ⟨b0, 0, none⟩)), (51, .slice p51 ((x1.drop r25.toNat).take ((x1.length : Int).toNat - r25.toNat)).length c52), (54, .int .i64 (IntKind.i64.wrap (x2 - r25)))] rfl (by kernel_rfl) ?_
    obtain ⟨r54, h55, hF⟩ := bind_some hF
    refine ow_pw rfl (pw_call (F := [] ++ F0) rfl rfl rfl rfl rfl rfl rfl (by kernel_rfl) (perm_of_pulls [0, 0, 0, 0] rfl) (ih _ ((x1.drop r25.toNat).take ((x1.length : Int).toNat - r25.toNat)) (IntKind.i64.wrap (x2 - r25)) m0 p51 c52 p1 p2 b0 r54 h55 h53) ?_)
    rintro _ _ ⟨r54_p1, r54_c2, r54_b4, r54_b6, rfl, rfl⟩
    refine nw_H (H' := [imm I, pt b0 #[.map (some r54_b4), .map (some r54_b6), .string r54.2.2.twins_.e0, .string r54.2.2.twins_.e1, .bool r54.2.2.found_, .bool r54.2.2.full_, .int .i64 r54.2.2.sums_] 64, own eStr 9 r54_p1 r54_c2 r54.1, mpo kStr kStr r54_b4 r54.2.2.table_, mpo kStr kStr r54_b6 r54.2.2.notes_] ++ F0) rfl (nw_ow ?_)
    refine ow_vals 5 (j := 13) [0, 1, 8, 11] [(0, .pointer (some ⟨b0, 0, none⟩)), (1, .slice p0 x1.length c0), (8, .int .i64 r25), (11, .slice r54_p1 r54.1.length r54_c2)] rfl (by kernel_rfl) ?_
    refine ow_end rfl ?_
    refine ew_then ?_
    refine cw_seq ?_
    refine cw_region ?_
    refine ow_vals 4 (j := 4) [58, 59, 60, 61] [(58, .slice r54_p1 r54.1.length r54_c2), (59, .pointer (some ⟨b0, 0, none⟩)), (60, .slice p0 x1.length c0), (61, .int .i64 r25)] rfl (by kernel_rfl) ?_
    obtain ⟨h59, hF⟩ := chk_some hF
    refine ow_pw rfl (pw_slice_ro (E := 9) 1 hr0 rfl rfl rfl rfl rfl (by kernel_rfl) rfl rfl rfl rfl h59 fun p60 c61 h62 => nw_ow ?_)
    obtain ⟨r63, h64, hF⟩ := bind_some hF
    refine ow_pw rfl (pw_call (F := [own eStr 9 r54_p1 r54_c2 r54.1] ++ F0) rfl rfl rfl rfl rfl rfl rfl (by kernel_rfl) (perm_of_pulls [0, 0, 1, 1] rfl) (c_merkle_Root FUEL _ ((x1.drop (0 : Int).toNat).take (r25.toNat - (0 : Int).toNat)) r54.2.2 p60 c61 r54_b4 r54_b6 b0 r63 h64 h62) ?_)
    rintro _ _ ⟨r63_b1, r63_b3, rfl, rfl⟩
    refine nw_H (H' := [imm I, pt b0 #[.map (some r63_b1), .map (some r63_b3), .string r63.2.twins_.e0, .string r63.2.twins_.e1, .bool r63.2.found_, .bool r63.2.full_, .int .i64 r63.2.sums_] 64, mpo kStr kStr r63_b1 r63.2.table_, mpo kStr kStr r63_b3 r63.2.notes_, own eStr 9 r54_p1 r54_c2 r54.1] ++ F0) rfl (nw_ow ?_)
    refine ow_pw rfl (pw_buildSlice (E := 9) eStr ([r63.1] : List ByteArray) rfl rfl rfl rfl rfl (by kernel_rfl) rfl (by kernel_rfl) rfl (by decide) rfl fun p67 => nw_ow ?_)
    obtain ⟨h69, hF⟩ := chk_some hF
    refine ow_pw rfl (pw_append 5 (l' := ([r63.1] : List ByteArray)) rfl rfl rfl rfl rfl rfl (by kernel_rfl) (by kernel_rfl) rfl rfl rfl (src_own (E' := 9) 0 rfl (by kernel_rfl) rfl) rfl h69.1 h69.2 fun p70 c71 => nw_H (H' := [own eStr 9 p67 1 ([r63.1] : List ByteArray), imm I, pt b0 #[.map (some r63_b1), .map (some r63_b3), .string r63.2.twins_.e0, .string r63.2.twins_.e1, .bool r63.2.found_, .bool r63.2.full_, .int .i64 r63.2.sums_] 64, mpo kStr kStr r63_b1 r63.2.table_, mpo kStr kStr r63_b3 r63.2.notes_, own eStr 9 p70 c71 (r54.1 ++ ([r63.1] : List ByteArray))] ++ F0) rfl (nw_ow ?_))
    refine ow_vals 2 (j := 10) [6, 7] [(6, .slice p70 (r54.1 ++ ([r63.1] : List ByteArray)).length c71), (7, .int .i64 0)] rfl (by kernel_rfl) ?_
    refine ow_end rfl ?_
    refine ew_then ?_
    refine cw_ret ?_
    have hR := Option.some.inj hF
    subst hR
    exact fin2 (H1 := [imm I, pt b0 #[.map (some r63_b1), .map (some r63_b3), .string r63.2.twins_.e0, .string r63.2.twins_.e1, .bool r63.2.found_, .bool r63.2.full_, .int .i64 r63.2.sums_] 64, own eStr 9 p70 c71 (r54.1 ++ ([r63.1] : List ByteArray)), mpo kStr kStr r63_b1 r63.2.table_, mpo kStr kStr r63_b3 r63.2.notes_]) (fun w hs => sat_to [0, 0, 0, 2, 0, 0] 1 rfl hs) rfl (rr_tmp rfl) (rr_tmp rfl) ⟨p70, c71, r63_b1, r63_b3, rfl, rfl⟩


def F.absent_side (x1 : List ByteArray) (x2 : Int) (m0 : mill_Mill) : Option (absent_Side × mill_Mill) :=
  Option.bind (F.absent_leaves x1 m0) (fun (r23 : (List ByteArray) × mill_Mill) => Option.bind (F.merkle_Path FUEL r23.1 x2 r23.2) (fun (r31 : (List ByteArray) × Int × mill_Mill) => Option.bind (at_ x1 x2) (fun (y36 : ByteArray) => some (((⟨x2, y36, r31.1⟩ : absent_Side), r31.2.2)))))
set_option maxRecDepth 100000 in
set_option maxHeartbeats 4000000 in
theorem c_absent_side (I : Hl) (x1 : List ByteArray) (x2 : Int) (m0 : mill_Mill) (p0 : Option Addr) (c0 : Nat) (p1 : Nat) (p2 : Nat) (b0 : Nat) (res : absent_Side × mill_Mill) (hF : F.absent_side x1 x2 m0 = some res) (hr0 : ro I eStr p0 c0 x1) : Tr Try.prog 40 [.pointer (some ⟨b0, 0, none⟩), .slice p0 x1.length c0, .int .i64 x2] [imm I, pt b0 #[.map (some p1), .map (some p2), .string m0.twins_.e0, .string m0.twins_.e1, .bool m0.found_, .bool m0.full_, .int .i64 m0.sums_] 64, mpo kStr kStr p1 m0.table_, mpo kStr kStr p2 m0.notes_] (fun r H' => ∃ (J : Hl), ∃ (pq1 : Option Addr), ∃ (cq2 : Nat), ∃ (bq4 : Nat), ∃ (bq6 : Nat), r = .agg #[.int .i64 res.1.Index, .string res.1.ID, .slice pq1 res.1.Path.length cq2] ∧ H' = [imm J, pt b0 #[.map (some bq4), .map (some bq6), .string res.2.twins_.e0, .string res.2.twins_.e1, .bool res.2.found_, .bool res.2.full_, .int .i64 res.2.sums_] 64, own eStr 9 pq1 cq2 res.1.Path, mpo kStr kStr bq4 res.2.table_, mpo kStr kStr bq6 res.2.notes_] ∧ Hl.sub I J) := by
  unfold F.absent_side at hF
  refine tr_of_cw (fn := Try.f40) Try.func40 rfl (Nat.le_of_ble_eq_true rfl) 25 rfl fun F0 w0 => ?_
  refine cw_keep [0, 1, 2] (L' := [(0, .pointer (some ⟨b0, 0, none⟩)), (1, .slice p0 x1.length c0), (2, .int .i64 x2)]) rfl ?_
  refine cw_state (S' := SAT w0 ([imm I, pt b0 #[.map (some p1), .map (some p2), .string m0.twins_.e0, .string m0.twins_.e1, .bool m0.found_, .bool m0.full_, .int .i64 m0.sums_] 64, mpo kStr kStr p1 m0.table_, mpo kStr kStr p2 m0.notes_] ++ F0)) (fun w hs => hs) ?_
  refine cw_seq ?_
  refine cw_region ?_
  refine ow_pw rfl (pw_alloc (cs := #[.int .i64 0, .string (ByteArray.mk #[]), .slice none 0 0]) rfl rfl rfl rfl rfl (by kernel_rfl) fun b21 => nw_ow ?_)
  refine ow_end rfl ?_
  refine ew_then ?_
  refine cw_seq ?_
  refine cw_region ?_
  refine ow_vals 3 (j := 3) [1, 2, 6, 10, 11, 12] [(1, .slice p0 x1.length c0), (2, .int .i64 x2), (6, .pointer (some ⟨b21, 0, none⟩)), (10, .pointer (some ⟨b0, 0, none⟩)), (11, .pointer (some ⟨b0, 0, none⟩)), (12, .slice p0 x1.length c0)] rfl (by kernel_rfl) ?_
  obtain ⟨r23, h24, hF⟩ := bind_some hF
  refine ow_pw rfl (pw_call (F := [pt b21 #[.int .i64 0, .string (ByteArray.mk #[]), .slice none 0 0] 43] ++ F0) rfl rfl rfl rfl rfl rfl rfl (by kernel_rfl) (perm_of_pulls [1, 1, 1, 1] rfl) (c_absent_leaves _ x1 m0 p0 c0 p1 p2 b0 r23 h24 hr0) ?_)
  rintro _ _ ⟨r23_p1, r23_c2, r23_b4, r23_b6, rfl, rfl⟩
  refine nw_H (H' := [imm I, pt b0 #[.map (some r23_b4), .map (some r23_b6), .string r23.2.twins_.e0, .string r23.2.twins_.e1, .bool r23.2.found_, .bool r23.2.full_, .int .i64 r23.2.sums_] 64, own eStr 9 r23_p1 r23_c2 r23.1, mpo kStr kStr r23_b4 r23.2.table_, mpo kStr kStr r23_b6 r23.2.notes_, pt b21 #[.int .i64 0, .string (ByteArray.mk #[]), .slice none 0 0] 43] ++ F0) rfl (nw_ow ?_)
  refine ow_vals 1 (j := 5) [1, 2, 6, 10, 13, 14] [(1, .slice p0 x1.length c0), (2, .int .i64 x2), (6, .pointer (some ⟨b21, 0, none⟩)), (10, .pointer (some ⟨b0, 0, none⟩)), (13, .slice r23_p1 r23.1.length r23_c2), (14, .int .i64 x2)] rfl (by kernel_rfl) ?_
  refine ow_freeze (fun w hs => sat_to [0, 1] 0 (F := [imm I, own eStr 9 r23_p1 r23_c2 r23.1, pt b0 #[.map (some r23_b4), .map (some r23_b6), .string r23.2.twins_.e0, .string r23.2.twins_.e1, .bool r23.2.found_, .bool r23.2.full_, .int .i64 r23.2.sums_] 64, mpo kStr kStr r23_b4 r23.2.table_, mpo kStr kStr r23_b6 r23.2.notes_, pt b21 #[.int .i64 0, .string (ByteArray.mk #[]), .slice none 0 0] 43] ++ F0) rfl hs) fun J28 h29 h30 => ?_
  have hr0 := ro.sub h29 hr0
  refine ow_H (H' := [imm J28, pt b0 #[.map (some r23_b4), .map (some r23_b6), .string r23.2.twins_.e0, .string r23.2.twins_.e1, .bool r23.2.found_, .bool r23.2.full_, .int .i64 r23.2.sums_] 64, mpo kStr kStr r23_b4 r23.2.table_, mpo kStr kStr r23_b6 r23.2.notes_, pt b21 #[.int .i64 0, .string (ByteArray.mk #[]), .slice none 0 0] 43] ++ F0) rfl ?_
  obtain ⟨r31, h32, hF⟩ := bind_some hF
  refine ow_pw rfl (pw_call (F := [pt b21 #[.int .i64 0, .string (ByteArray.mk #[]), .slice none 0 0] 43] ++ F0) rfl rfl rfl rfl rfl rfl rfl (by kernel_rfl) (perm_of_pulls [0, 0, 0, 0] rfl) (c_merkle_Path FUEL _ r23.1 x2 r23.2 r23_p1 r23_c2 r23_b4 r23_b6 b0 r31 h32 h30) ?_)
  rintro _ _ ⟨r31_p1, r31_c2, r31_b4, r31_b6, rfl, rfl⟩
  refine nw_H (H' := [imm J28, pt b0 #[.map (some r31_b4), .map (some r31_b6), .string r31.2.2.twins_.e0, .string r31.2.2.twins_.e1, .bool r31.2.2.found_, .bool r31.2.2.full_, .int .i64 r31.2.2.sums_] 64, own eStr 9 r31_p1 r31_c2 r31.1, mpo kStr kStr r31_b4 r31.2.2.table_, mpo kStr kStr r31_b6 r31.2.2.notes_, pt b21 #[.int .i64 0, .string (ByteArray.mk #[]), .slice none 0 0] 43] ++ F0) rfl (nw_ow ?_)
  refine ow_vals 5 (j := 11) [1, 2, 6, 7] [(1, .slice p0 x1.length c0), (2, .int .i64 x2), (6, .pointer (some ⟨b21, 0, none⟩)), (7, .slice r31_p1 r31.1.length r31_c2)] rfl (by kernel_rfl) ?_
  refine ow_end rfl ?_
  refine ew_then ?_
  refine cw_seq ?_
  refine cw_region ?_
  refine ow_vals 3 (j := 3) [6, 7, 18, 19, 20] [(6, .pointer (some ⟨b21, 0, none⟩)), (7, .slice r31_p1 r31.1.length r31_c2), (18, .int .i64 x2), (19, .slice p0 x1.length c0), (20, .int .i64 x2)] rfl (by kernel_rfl) ?_
  obtain ⟨y36, h37, hF⟩ := bind_some hF
  refine ow_pw rfl (pw_index_ro (E := 9) 1 hr0 rfl rfl rfl rfl rfl (by kernel_rfl) rfl rfl rfl h37 fun q38 h39 => nw_ow ?_)
  refine ow_pw rfl (pw_quiet (v := .string y36) rfl rfl rfl rfl (q_load_el0 0 rfl h39 rfl rfl (by kernel_rfl)) (nw_ow ?_))
  refine ow_vals 2 (j := 7) [6, 24] [(6, .pointer (some ⟨b21, 0, none⟩)), (24, .agg #[.int .i64 x2, .string y36, .slice r31_p1 r31.1.length r31_c2])] rfl (by kernel_rfl) ?_
  refine ow_pw rfl (pw_store 5 #[.int .i64 x2, .string y36, .slice r31_p1 r31.1.length r31_c2] rfl rfl rfl rfl rfl rfl rfl (by kernel_rfl) (nw_H (H' := [imm J28, pt b0 #[.map (some r31_b4), .map (some r31_b6), .string r31.2.2.twins_.e0, .string r31.2.2.twins_.e1, .bool r31.2.2.found_, .bool r31.2.2.full_, .int .i64 r31.2.2.sums_] 64, own eStr 9 r31_p1 r31_c2 r31.1, mpo kStr kStr r31_b4 r31.2.2.table_, mpo kStr kStr r31_b6 r31.2.2.notes_, pt b21 #[.int .i64 x2, .string y36, .slice r31_p1 r31.1.length r31_c2] 43] ++ F0) rfl (nw_ow ?_)))
  refine ow_end rfl ?_
  refine ew_then ?_
  refine cw_ret ?_
  have hR := Option.some.inj hF
  subst hR
  exact fin1 (H1 := [imm J28, pt b0 #[.map (some r31_b4), .map (some r31_b6), .string r31.2.2.twins_.e0, .string r31.2.2.twins_.e1, .bool r31.2.2.found_, .bool r31.2.2.full_, .int .i64 r31.2.2.sums_] 64, own eStr 9 r31_p1 r31_c2 ((⟨x2, y36, r31.1⟩ : absent_Side).Path), mpo kStr kStr r31_b4 r31.2.2.table_, mpo kStr kStr r31_b6 r31.2.2.notes_]) (fun w hs => sat_to [5, 0, 0, 0, 0, 0] 1 rfl hs) rfl (rr_cell 5 rfl rfl (by kernel_rfl)) ⟨J28, r31_p1, r31_c2, r31_b4, r31_b6, rfl, rfl, h29⟩


def F.absent_Prove.r1 (r26 : (List ByteArray)) (r34 : Int × Bool) (l87 : List (ByteArray × ByteArray)) (l90 : List (ByteArray × ByteArray)) (s93 : ByteArray) (s94 : ByteArray) (x95 : Bool) (x96 : Bool) (x97 : Int) (l98 : List absent_Side) : Option (absent_Proof × Int × mill_Mill) :=
  if decide (r34.1 < (r26.length : Int)) then (Option.bind (F.absent_side r26 r34.1 (⟨l87, l90, (⟨s93, s94⟩ : A2_ByteArray), x95, x96, x97⟩ : mill_Mill)) (fun (r103 : absent_Side × mill_Mill) => chk (room (l98.length + ([r103.1] : List absent_Side).length) 48) (some (((⟨(r26.length : Int), l98 ++ ([r103.1] : List absent_Side)⟩ : absent_Proof), 0, r103.2))))) else (some (((⟨(r26.length : Int), l98⟩ : absent_Proof), 0, (⟨l87, l90, (⟨s93, s94⟩ : A2_ByteArray), x95, x96, x97⟩ : mill_Mill))))
def F.absent_Prove (x1 : List ByteArray) (x2 : ByteArray) (m0 : mill_Mill) : Option (absent_Proof × Int × mill_Mill) :=
  Option.bind (F.paper_IsID x2) (fun (r23 : Bool) => if !r23 then (some (((⟨0, ([] : List absent_Side)⟩ : absent_Proof), 13, m0))) else (Option.bind (F.absent_Tidy x1) (fun (r26 : (List ByteArray)) => Option.bind (F.slices_BinarySearch_string_string r26 x2) (fun (r34 : Int × Bool) => thru (if r34.2 then (Option.bind (F.absent_side r26 r34.1 m0) (fun (r38 : absent_Side × mill_Mill) => chk (room (([] : List absent_Side).length + ([r38.1] : List absent_Side).length) 48) (some (.inr (((⟨(r26.length : Int), ([] : List absent_Side) ++ ([r38.1] : List absent_Side)⟩ : absent_Proof), 0, r38.2)))))) else (if decide (r34.1 > 0) then (Option.bind (F.absent_side r26 (IntKind.i64.wrap (r34.1 - 1)) m0) (fun (r62 : absent_Side × mill_Mill) => chk (room (([] : List absent_Side).length + ([r62.1] : List absent_Side).length) 48) (some (.inl (r62.2.table_, r62.2.notes_, r62.2.twins_.e0, r62.2.twins_.e1, r62.2.found_, r62.2.full_, r62.2.sums_, ([] : List absent_Side) ++ ([r62.1] : List absent_Side)))))) else (some (.inl (m0.table_, m0.notes_, m0.twins_.e0, m0.twins_.e1, m0.found_, m0.full_, m0.sums_, []))))) (fun x => F.absent_Prove.r1 r26 r34 x.1 x.2.1 x.2.2.1 x.2.2.2.1 x.2.2.2.2.1 x.2.2.2.2.2.1 x.2.2.2.2.2.2.1 x.2.2.2.2.2.2.2)))))
set_option maxRecDepth 100000 in
set_option maxHeartbeats 4000000 in
theorem c_absent_Prove (I : Hl) (x1 : List ByteArray) (x2 : ByteArray) (m0 : mill_Mill) (p0 : Option Addr) (c0 : Nat) (p1 : Nat) (p2 : Nat) (b0 : Nat) (res : absent_Proof × Int × mill_Mill) (hF : F.absent_Prove x1 x2 m0 = some res) (hr0 : ro I eStr p0 c0 x1) : Tr Try.prog 17 [.pointer (some ⟨b0, 0, none⟩), .slice p0 x1.length c0, .string x2] [imm I, pt b0 #[.map (some p1), .map (some p2), .string m0.twins_.e0, .string m0.twins_.e1, .bool m0.found_, .bool m0.full_, .int .i64 m0.sums_] 64, mpo kStr kStr p1 m0.table_, mpo kStr kStr p2 m0.notes_] (fun r H' => ∃ (J : Hl), ∃ (pq1 : Option Addr), ∃ (cq2 : Nat), ∃ (bq4 : Nat), ∃ (bq6 : Nat), r = .tuple #[.agg #[.int .i64 res.1.Size, .slice pq1 res.1.Sides.length cq2], .int .i64 res.2.1] ∧ H' = [imm J, pt b0 #[.map (some bq4), .map (some bq6), .string res.2.2.twins_.e0, .string res.2.2.twins_.e1, .bool res.2.2.found_, .bool res.2.2.full_, .int .i64 res.2.2.sums_] 64, ownN J n_absent_Side 43 pq1 cq2 res.1.Sides, mpo kStr kStr bq4 res.2.2.table_, mpo kStr kStr bq6 res.2.2.notes_] ∧ Hl.sub I J) := by
  unfold F.absent_Prove at hF
  refine tr_of_cw (fn := Try.f17) Try.func17 rfl (Nat.le_of_ble_eq_true rfl) 65 rfl fun F0 w0 => ?_
  refine cw_keep [0, 1, 2] (L' := [(0, .pointer (some ⟨b0, 0, none⟩)), (1, .slice p0 x1.length c0), (2, .string x2)]) rfl ?_
  refine cw_state (S' := SAT w0 ([imm I, pt b0 #[.map (some p1), .map (some p2), .string m0.twins_.e0, .string m0.twins_.e1, .bool m0.found_, .bool m0.full_, .int .i64 m0.sums_] 64, mpo kStr kStr p1 m0.table_, mpo kStr kStr p2 m0.notes_] ++ F0)) (fun w hs => hs) ?_
  refine cw_seq ?_
  refine cw_region ?_
  refine ow_pw rfl (pw_alloc (cs := #[.int .i64 0, .slice none 0 0]) rfl rfl rfl rfl rfl (by kernel_rfl) fun b21 => nw_ow ?_)
  refine ow_vals 1 (j := 2) [0, 1, 2, 6] [(0, .pointer (some ⟨b0, 0, none⟩)), (1, .slice p0 x1.length c0), (2, .string x2), (6, .pointer (some ⟨b21, 0, none⟩))] rfl (by kernel_rfl) ?_
  refine ow_end rfl ?_
  refine ew_then ?_
  refine cw_seq ?_
  refine cw_seq ?_
  refine cw_region ?_
  refine ow_vals 1 (j := 1) [0, 1, 2, 6, 11] [(0, .pointer (some ⟨b0, 0, none⟩)), (1, .slice p0 x1.length c0), (2, .string x2), (6, .pointer (some ⟨b21, 0, none⟩)), (11, .string x2)] rfl (by kernel_rfl) ?_
  obtain ⟨r23, h24, hF⟩ := bind_some hF
  refine ow_pw rfl (pw_call (F := [pt b21 #[.int .i64 0, .slice none 0 0] 35, pt b0 #[.map (some p1), .map (some p2), .string m0.twins_.e0, .string m0.twins_.e1, .bool m0.found_, .bool m0.full_, .int .i64 m0.sums_] 64, mpo kStr kStr p1 m0.table_, mpo kStr kStr p2 m0.notes_] ++ F0) rfl rfl rfl rfl rfl rfl rfl (by kernel_rfl) (perm_of_pulls [1] rfl) (c_paper_IsID _ x2 r23 h24) ?_)
  rintro _ _ ⟨rfl, rfl⟩
  refine nw_H (H' := [imm I, pt b21 #[.int .i64 0, .slice none 0 0] 35, pt b0 #[.map (some p1), .map (some p2), .string m0.twins_.e0, .string m0.twins_.e1, .bool m0.found_, .bool m0.full_, .int .i64 m0.sums_] 64, mpo kStr kStr p1 m0.table_, mpo kStr kStr p2 m0.notes_] ++ F0) rfl (nw_ow ?_)
  refine ow_vals 1 (j := 3) [0, 1, 2, 6, 13] [(0, .pointer (some ⟨b0, 0, none⟩)), (1, .slice p0 x1.length c0), (2, .string x2), (6, .pointer (some ⟨b21, 0, none⟩)), (13, .bool (!r23))] rfl (by kernel_rfl) ?_
  refine ow_end rfl ?_
  refine ew_then ?_
  rcases if_some hF with ⟨h25, hF⟩ | ⟨h25, hF⟩
  · refine cw_cond_t rfl rfl h25 ?_
    refine cw_seq ?_
    refine cw_region ?_
    refine ow_vals 1 (j := 1) [6, 14] [(6, .pointer (some ⟨b21, 0, none⟩)), (14, .agg #[.int .i64 0, .slice none 0 0])] rfl (by kernel_rfl) ?_
    refine ow_pw rfl (pw_store 1 #[.int .i64 0, .slice none 0 0] rfl rfl rfl rfl rfl rfl rfl (by kernel_rfl) (nw_H (H' := [imm I, pt b21 #[.int .i64 0, .slice none 0 0] 35, pt b0 #[.map (some p1), .map (some p2), .string m0.twins_.e0, .string m0.twins_.e1, .bool m0.found_, .bool m0.full_, .int .i64 m0.sums_] 64, mpo kStr kStr p1 m0.table_, mpo kStr kStr p2 m0.notes_] ++ F0) rfl (nw_ow ?_)))
    refine ow_vals 1 (j := 3) [6, 7] [(6, .pointer (some ⟨b21, 0, none⟩)), (7, .int .i64 13)] rfl (by kernel_rfl) ?_
    refine ow_end rfl ?_
    refine ew_then ?_
    refine cw_ret ?_
    refine ew_then_ret ?_
    have hR := Option.some.inj hF
    subst hR
    exact fin2 (H1 := [imm I, pt b0 #[.map (some p1), .map (some p2), .string m0.twins_.e0, .string m0.twins_.e1, .bool m0.found_, .bool m0.full_, .int .i64 m0.sums_] 64, ownN I n_absent_Side 43 none 0 ((⟨0, ([] : List absent_Side)⟩ : absent_Proof).Sides), mpo kStr kStr p1 m0.table_, mpo kStr kStr p2 m0.notes_]) (fun w hs => sat_to [2, 1, 1, 0, 0, 0] 1 rfl (sat_ownN_nil I n_absent_Side 43 hs)) rfl (rr_cell 1 rfl rfl (by kernel_rfl)) (rr_tmp rfl) ⟨I, none, 0, p1, p2, rfl, rfl, Hl.sub_refl _⟩
  refine cw_cond_f rfl rfl h25 ?_
  refine cw_skip ?_
  refine ew_then ?_
  refine cw_seq ?_
  refine cw_region ?_
  refine ow_vals 1 (j := 1) [0, 2, 6, 15] [(0, .pointer (some ⟨b0, 0, none⟩)), (2, .string x2), (6, .pointer (some ⟨b21, 0, none⟩)), (15, .slice p0 x1.length c0)] rfl (by kernel_rfl) ?_
  obtain ⟨r26, h27, hF⟩ := bind_some hF
  refine ow_pw rfl (pw_call (F := [pt b21 #[.int .i64 0, .slice none 0 0] 35, pt b0 #[.map (some p1), .map (some p2), .string m0.twins_.e0, .string m0.twins_.e1, .bool m0.found_, .bool m0.full_, .int .i64 m0.sums_] 64, mpo kStr kStr p1 m0.table_, mpo kStr kStr p2 m0.notes_] ++ F0) rfl rfl rfl rfl rfl rfl rfl (by kernel_rfl) (perm_of_pulls [0] rfl) (c_absent_Tidy _ x1 p0 c0 r26 h27 hr0) ?_)
  rintro _ _ ⟨r26_p1, r26_c2, rfl, rfl⟩
  refine nw_H (H' := [imm I, own eStr 9 r26_p1 r26_c2 r26, pt b21 #[.int .i64 0, .slice none 0 0] 35, pt b0 #[.map (some p1), .map (some p2), .string m0.twins_.e0, .string m0.twins_.e1, .bool m0.found_, .bool m0.full_, .int .i64 m0.sums_] 64, mpo kStr kStr p1 m0.table_, mpo kStr kStr p2 m0.notes_] ++ F0) rfl (nw_ow ?_)
  refine ow_vals 1 (j := 3) [0, 1, 2, 6] [(0, .pointer (some ⟨b0, 0, none⟩)), (1, .slice r26_p1 r26.length r26_c2), (2, .string x2), (6, .pointer (some ⟨b21, 0, none⟩))] rfl (by kernel_rfl) ?_
  refine ow_end rfl ?_
  refine ew_then ?_
  refine cw_seq ?_
  refine cw_region ?_
  refine ow_vals 3 (j := 3) [0, 1, 2, 6, 19] [(0, .pointer (some ⟨b0, 0, none⟩)), (1, .slice r26_p1 r26.length r26_c2), (2, .string x2), (6, .pointer (some ⟨b21, 0, none⟩)), (19, .agg #[.int .i64 (r26.length : Int), .slice none 0 0])] rfl (by kernel_rfl) ?_
  refine ow_pw rfl (pw_alloc (cs := #[.int .i64 0, .slice none 0 0]) rfl rfl rfl rfl rfl (by kernel_rfl) fun b29 => nw_ow ?_)
  refine ow_pw rfl (pw_store 0 #[.int .i64 (r26.length : Int), .slice none 0 0] rfl rfl rfl rfl rfl rfl rfl (by kernel_rfl) (nw_H (H' := [pt b29 #[.int .i64 (r26.length : Int), .slice none 0 0] 35, imm I, own eStr 9 r26_p1 r26_c2 r26, pt b21 #[.int .i64 0, .slice none 0 0] 35, pt b0 #[.map (some p1), .map (some p2), .string m0.twins_.e0, .string m0.twins_.e1, .bool m0.found_, .bool m0.full_, .int .i64 m0.sums_] 64, mpo kStr kStr p1 m0.table_, mpo kStr kStr p2 m0.notes_] ++ F0) rfl (nw_ow ?_)))
  refine ow_end rfl ?_
  refine ew_then ?_
  refine cw_seq ?_
  refine cw_region ?_
  refine ow_vals 2 (j := 2) [0, 1, 6, 8, 21, 22] [(0, .pointer (some ⟨b0, 0, none⟩)), (1, .slice r26_p1 r26.length r26_c2), (6, .pointer (some ⟨b21, 0, none⟩)), (8, .pointer (some ⟨b29, 0, none⟩)), (21, .slice r26_p1 r26.length r26_c2), (22, .string x2)] rfl (by kernel_rfl) ?_
  refine ow_freeze (fun w hs => sat_to [1, 1] 0 (F := [imm I, own eStr 9 r26_p1 r26_c2 r26, pt b29 #[.int .i64 (r26.length : Int), .slice none 0 0] 35, pt b21 #[.int .i64 0, .slice none 0 0] 35, pt b0 #[.map (some p1), .map (some p2), .string m0.twins_.e0, .string m0.twins_.e1, .bool m0.found_, .bool m0.full_, .int .i64 m0.sums_] 64, mpo kStr kStr p1 m0.table_, mpo kStr kStr p2 m0.notes_] ++ F0) rfl hs) fun J31 h32 h33 => ?_
  refine ow_H (H' := [imm J31, pt b29 #[.int .i64 (r26.length : Int), .slice none 0 0] 35, pt b21 #[.int .i64 0, .slice none 0 0] 35, pt b0 #[.map (some p1), .map (some p2), .string m0.twins_.e0, .string m0.twins_.e1, .bool m0.found_, .bool m0.full_, .int .i64 m0.sums_] 64, mpo kStr kStr p1 m0.table_, mpo kStr kStr p2 m0.notes_] ++ F0) rfl ?_
  obtain ⟨r34, h35, hF⟩ := bind_some hF
  refine ow_pw rfl (pw_call (F := [pt b29 #[.int .i64 (r26.length : Int), .slice none 0 0] 35, pt b21 #[.int .i64 0, .slice none 0 0] 35, pt b0 #[.map (some p1), .map (some p2), .string m0.twins_.e0, .string m0.twins_.e1, .bool m0.found_, .bool m0.full_, .int .i64 m0.sums_] 64, mpo kStr kStr p1 m0.table_, mpo kStr kStr p2 m0.notes_] ++ F0) rfl rfl rfl rfl rfl rfl rfl (by kernel_rfl) (perm_of_pulls [0] rfl) (c_slices_BinarySearch_string_string _ r26 x2 r26_p1 r26_c2 r34 h35 h33) ?_)
  rintro _ _ ⟨rfl, rfl⟩
  refine nw_H (H' := [imm J31, pt b29 #[.int .i64 (r26.length : Int), .slice none 0 0] 35, pt b21 #[.int .i64 0, .slice none 0 0] 35, pt b0 #[.map (some p1), .map (some p2), .string m0.twins_.e0, .string m0.twins_.e1, .bool m0.found_, .bool m0.full_, .int .i64 m0.sums_] 64, mpo kStr kStr p1 m0.table_, mpo kStr kStr p2 m0.notes_] ++ F0) rfl (nw_ow ?_)
  refine ow_vals 5 (j := 8) [0, 1, 6, 8, 9, 10] [(0, .pointer (some ⟨b0, 0, none⟩)), (1, .slice r26_p1 r26.length r26_c2), (6, .pointer (some ⟨b21, 0, none⟩)), (8, .pointer (some ⟨b29, 0, none⟩)), (9, .int .i64 r34.1), (10, .bool r34.2)] rfl (by kernel_rfl) ?_
  refine ow_end rfl ?_
  refine ew_then ?_
  obtain ⟨v36, hF, hK36⟩ := thru_some hF
  refine cw_mid (fun a w => ∃ (l87 : List (ByteArray × ByteArray)), ∃ (l90 : List (ByteArray × ByteArray)), ∃ (s93 : ByteArray), ∃ (s94 : ByteArray), ∃ (x95 : Bool), ∃ (x96 : Bool), ∃ (x97 : Int), ∃ (l98 : List absent_Side), ∃ (J85 : Hl), ∃ (b89 : Nat), ∃ (b92 : Nat), ∃ (p99 : Option Addr), ∃ (c100 : Nat), .inl (l87, l90, s93, s94, x95, x96, x97, l98) = v36 ∧ Hl.sub J31 J85 ∧ Fr 65 [(0, .pointer (some ⟨b0, 0, none⟩)), (1, .slice r26_p1 r26.length r26_c2), (6, .pointer (some ⟨b21, 0, none⟩)), (8, .pointer (some ⟨b29, 0, none⟩)), (9, .int .i64 r34.1)] a ∧ SAT w0 ([imm J85, pt b0 #[.map (some b89), .map (some b92), .string s93, .string s94, .bool x95, .bool x96, .int .i64 x97] 64, pt b29 #[.int .i64 (r26.length : Int), .slice p99 l98.length c100] 35, pt b21 #[.int .i64 0, .slice none 0 0] 35, mpo kStr kStr b89 l87, mpo kStr kStr b92 l90, ownN J85 n_absent_Side 43 p99 c100 l98] ++ F0) w) ?_ ?_
  · refine cw_block ?_
    refine cw_seq ?_
    refine cw_region ?_
    refine ow_vals 2 (j := 2) [0, 1, 6, 8, 9, 26] [(0, .pointer (some ⟨b0, 0, none⟩)), (1, .slice r26_p1 r26.length r26_c2), (6, .pointer (some ⟨b21, 0, none⟩)), (8, .pointer (some ⟨b29, 0, none⟩)), (9, .int .i64 r34.1), (26, .bool r34.2)] rfl (by kernel_rfl) ?_
    refine ow_end rfl ?_
    refine ew_then ?_
    rcases if_some hF with ⟨h37, hF⟩ | ⟨h37, hF⟩
    · refine cw_cond_t rfl rfl h37 ?_
      refine cw_seq ?_
      refine cw_open 9 (SAT w0 ([pt b29 #[.int .i64 (r26.length : Int), .slice none 0 0] 35, pt b21 #[.int .i64 0, .slice none 0 0] 35])) (by kernel_rfl) (f := 10) rfl (fun w hs => sat_drew hs) ?_
      refine aw_vals [0, 2, 3, 4] (f' := 6) (m' := 29) [6, 8, 28, 30, 31, 32] [(6, .pointer (some ⟨b21, 0, none⟩)), (8, .pointer (some ⟨b29, 0, none⟩)), (28, .pointer (some ⟨b29, 1, none⟩)), (30, .pointer (some ⟨b0, 0, none⟩)), (31, .slice r26_p1 r26.length r26_c2), (32, .int .i64 r34.1)] (fun _ _ _ _ _ h => calm_fin (P := Try.prog) (fn := Try.f17) _ _ _ _ _ h) (fun w hs => sat_pulls [1, 1] (G := [imm J31, pt b0 #[.map (some p1), .map (some p2), .string m0.twins_.e0, .string m0.twins_.e1, .bool m0.found_, .bool m0.full_, .int .i64 m0.sums_] 64, mpo kStr kStr p1 m0.table_, mpo kStr kStr p2 m0.notes_] ++ F0) rfl hs) rfl (by kernel_rfl) ?_
      refine aw_quiet 1 (m' := 31) (v := .slice none 0 0) 1 [] rfl rfl rfl rfl (by kernel_rfl) (by kernel_rfl) (by kernel_rfl) (fun _ _ _ _ _ h => calm_fin (P := Try.prog) (fn := Try.f17) _ _ _ _ _ h) (fun w hs => sat_pulls [1, 1] (G := [imm J31, pt b0 #[.map (some p1), .map (some p2), .string m0.twins_.e0, .string m0.twins_.e1, .bool m0.found_, .bool m0.full_, .int .i64 m0.sums_] 64, mpo kStr kStr p1 m0.table_, mpo kStr kStr p2 m0.notes_] ++ F0) rfl hs) (q_load 0 rfl rfl rfl (by kernel_rfl)) ?_
      obtain ⟨r38, h39, hF⟩ := bind_some hF
      refine aw_only 5 (m' := 63) (by kernel_rfl) (by kernel_rfl) (pw_call (F := [pt b29 #[.int .i64 (r26.length : Int), .slice none 0 0] 35, pt b21 #[.int .i64 0, .slice none 0 0] 35] ++ F0) rfl rfl rfl rfl rfl rfl rfl (by kernel_rfl) (perm_of_pulls [0, 2, 2, 2] rfl) (c_absent_side _ r26 r34.1 m0 r26_p1 r26_c2 p1 p2 b0 r38 h39 h33) ?_)
      rintro _ _ ⟨r38_J, r38_p1, r38_c2, r38_b4, r38_b6, rfl, rfl, r38_hJ⟩
      refine nw_H (H' := [imm r38_J, pt b0 #[.map (some r38_b4), .map (some r38_b6), .string r38.2.twins_.e0, .string r38.2.twins_.e1, .bool r38.2.found_, .bool r38.2.full_, .int .i64 r38.2.sums_] 64, own eStr 9 r38_p1 r38_c2 r38.1.Path, mpo kStr kStr r38_b4 r38.2.table_, mpo kStr kStr r38_b6 r38.2.notes_, pt b29 #[.int .i64 (r26.length : Int), .slice none 0 0] 35, pt b21 #[.int .i64 0, .slice none 0 0] 35] ++ F0) rfl (aw_next (fun w hs => sat_pulls [5, 5] (G := [imm r38_J, pt b0 #[.map (some r38_b4), .map (some r38_b6), .string r38.2.twins_.e0, .string r38.2.twins_.e1, .bool r38.2.found_, .bool r38.2.full_, .int .i64 r38.2.sums_] 64, own eStr 9 r38_p1 r38_c2 r38.1.Path, mpo kStr kStr r38_b4 r38.2.table_, mpo kStr kStr r38_b6 r38.2.notes_] ++ F0) rfl hs) ?_)
      have h33 := ro.sub r38_hJ h33
      refine aw_freeze (fun w hs => sat_to [0, 1] 0 (F := [imm r38_J, own eStr 9 r38_p1 r38_c2 r38.1.Path, pt b0 #[.map (some r38_b4), .map (some r38_b6), .string r38.2.twins_.e0, .string r38.2.twins_.e1, .bool r38.2.found_, .bool r38.2.full_, .int .i64 r38.2.sums_] 64, mpo kStr kStr r38_b4 r38.2.table_, mpo kStr kStr r38_b6 r38.2.notes_, pt b29 #[.int .i64 (r26.length : Int), .slice none 0 0] 35, pt b21 #[.int .i64 0, .slice none 0 0] 35] ++ F0) rfl hs) fun J43 h44 h45 => ?_
      have h33 := ro.sub h44 h33
      refine aw_H (H' := [imm J43, pt b0 #[.map (some r38_b4), .map (some r38_b6), .string r38.2.twins_.e0, .string r38.2.twins_.e1, .bool r38.2.found_, .bool r38.2.full_, .int .i64 r38.2.sums_] 64, mpo kStr kStr r38_b4 r38.2.table_, mpo kStr kStr r38_b6 r38.2.notes_, pt b29 #[.int .i64 (r26.length : Int), .slice none 0 0] 35, pt b21 #[.int .i64 0, .slice none 0 0] 35] ++ F0) rfl ?_
      refine aw_only 6 (m' := 127) (by kernel_rfl) (by kernel_rfl) (pw_buildSlice (E := 43) n_absent_Side.e ([⟨r38.1.Index, r38.1.ID, ⟨r38_p1, r38_c2, r38.1.Path⟩⟩] : List absent_Side_r) rfl rfl rfl rfl rfl (by kernel_rfl) rfl (by kernel_rfl) rfl (by decide) rfl fun p46 => aw_next (fun w hs => sat_pulls [5, 5] (G := [own n_absent_Side.e 43 p46 1 ([⟨r38.1.Index, r38.1.ID, ⟨r38_p1, r38_c2, r38.1.Path⟩⟩] : List absent_Side_r), imm J43, pt b0 #[.map (some r38_b4), .map (some r38_b6), .string r38.2.twins_.e0, .string r38.2.twins_.e1, .bool r38.2.found_, .bool r38.2.full_, .int .i64 r38.2.sums_] 64, mpo kStr kStr r38_b4 r38.2.table_, mpo kStr kStr r38_b6 r38.2.notes_] ++ F0) rfl hs) ?_)
      refine aw_state (S' := SAT w0 ([ownN J43 n_absent_Side 43 p46 1 ([r38.1] : List absent_Side), imm J43, pt b0 #[.map (some r38_b4), .map (some r38_b6), .string r38.2.twins_.e0, .string r38.2.twins_.e1, .bool r38.2.found_, .bool r38.2.full_, .int .i64 r38.2.sums_] 64, mpo kStr kStr r38_b4 r38.2.table_, mpo kStr kStr r38_b6 r38.2.notes_, pt b29 #[.int .i64 (r26.length : Int), .slice none 0 0] 35, pt b21 #[.int .i64 0, .slice none 0 0] 35] ++ F0)) (fun w hs => sat_closeN 0 rfl (show List.map n_absent_Side.log ([⟨r38.1.Index, r38.1.ID, ⟨r38_p1, r38_c2, r38.1.Path⟩⟩] : List absent_Side_r) = ([r38.1] : List absent_Side) from rfl) (show ∀ r ∈ ([⟨r38.1.Index, r38.1.ID, ⟨r38_p1, r38_c2, r38.1.Path⟩⟩] : List absent_Side_r), n_absent_Side.ok J43 r from (List.forall_mem_cons.2 ⟨h45, (fun r hr => by cases hr)⟩)) hs) ?_
      refine aw_state (S' := SAT w0 ([ownN J43 n_absent_Side 43 none 0 ([] : List absent_Side), ownN J43 n_absent_Side 43 p46 1 ([r38.1] : List absent_Side), imm J43, pt b0 #[.map (some r38_b4), .map (some r38_b6), .string r38.2.twins_.e0, .string r38.2.twins_.e1, .bool r38.2.found_, .bool r38.2.full_, .int .i64 r38.2.sums_] 64, mpo kStr kStr r38_b4 r38.2.table_, mpo kStr kStr r38_b6 r38.2.notes_, pt b29 #[.int .i64 (r26.length : Int), .slice none 0 0] 35, pt b21 #[.int .i64 0, .slice none 0 0] 35] ++ F0)) (fun w hs => (sat_ownN_nil J43 n_absent_Side 43 hs)) ?_
      obtain ⟨h49, hF⟩ := chk_some hF
      refine aw_openN 0 rfl fun R50 h51 h52 => ?_
      have h53 : R50.length = ([] : List absent_Side).length := by rw [← h51, List.length_map]
      refine aw_openN 1 rfl fun R54 h55 h56 => ?_
      have h57 : R54.length = ([r38.1] : List absent_Side).length := by rw [← h55, List.length_map]
      have h58 : room (R50.length + R54.length) 48 := by rw [h53, h57]; exact h49
      refine aw_slots (L' := [(34, .slice p46 R54.length 1), (33, .agg #[.int .i64 r38.1.Index, .string r38.1.ID, .slice r38_p1 r38.1.Path.length r38_c2]), (29, .slice none R50.length 0), (6, .pointer (some ⟨b21, 0, none⟩)), (8, .pointer (some ⟨b29, 0, none⟩)), (28, .pointer (some ⟨b29, 1, none⟩)), (30, .pointer (some ⟨b0, 0, none⟩)), (31, .slice r26_p1 r26.length r26_c2), (32, .int .i64 r34.1)]) (by simp only [h53, h57] <;> rfl) ?_
      refine aw_only 7 (m' := 255) (by kernel_rfl) (by kernel_rfl) (pw_append 0 (l' := R54) rfl rfl rfl rfl rfl rfl (by kernel_rfl) (by kernel_rfl) rfl rfl rfl (src_own (E' := 43) 1 rfl (by kernel_rfl) rfl) rfl h58.1 h58.2 fun p59 c60 => nw_H (H' := [own n_absent_Side.e 43 p59 c60 (R50 ++ R54), own n_absent_Side.e 43 p46 1 R54, imm J43, pt b0 #[.map (some r38_b4), .map (some r38_b6), .string r38.2.twins_.e0, .string r38.2.twins_.e1, .bool r38.2.found_, .bool r38.2.full_, .int .i64 r38.2.sums_] 64, mpo kStr kStr r38_b4 r38.2.table_, mpo kStr kStr r38_b6 r38.2.notes_, pt b29 #[.int .i64 (r26.length : Int), .slice none 0 0] 35, pt b21 #[.int .i64 0, .slice none 0 0] 35] ++ F0) rfl (aw_next (fun w hs => sat_pulls [6, 6] (G := [own n_absent_Side.e 43 p59 c60 (R50 ++ R54), own n_absent_Side.e 43 p46 1 R54, imm J43, pt b0 #[.map (some r38_b4), .map (some r38_b6), .string r38.2.twins_.e0, .string r38.2.twins_.e1, .bool r38.2.found_, .bool r38.2.full_, .int .i64 r38.2.sums_] 64, mpo kStr kStr r38_b4 r38.2.table_, mpo kStr kStr r38_b6 r38.2.notes_] ++ F0) rfl hs) ?_))
      refine aw_state (S' := SAT w0 ([ownN J43 n_absent_Side 43 p59 c60 (([] : List absent_Side) ++ ([r38.1] : List absent_Side)), own n_absent_Side.e 43 p46 1 R54, imm J43, pt b0 #[.map (some r38_b4), .map (some r38_b6), .string r38.2.twins_.e0, .string r38.2.twins_.e1, .bool r38.2.found_, .bool r38.2.full_, .int .i64 r38.2.sums_] 64, mpo kStr kStr r38_b4 r38.2.table_, mpo kStr kStr r38_b6 r38.2.notes_, pt b29 #[.int .i64 (r26.length : Int), .slice none 0 0] 35, pt b21 #[.int .i64 0, .slice none 0 0] 35] ++ F0)) (fun w hs => sat_closeN 0 rfl (by rw [List.map_append, h51, h55]) (fun r hr => (List.mem_append.1 hr).elim (fun hr => n_absent_Side.sub (Hl.sub_refl _) r (h52 r hr)) (fun hr => n_absent_Side.sub (Hl.sub_refl _) r (h56 r hr))) hs) ?_
      refine aw_state (S' := SAT w0 ([ownN J43 n_absent_Side 43 p59 c60 (([] : List absent_Side) ++ ([r38.1] : List absent_Side)), emp, imm J43, pt b0 #[.map (some r38_b4), .map (some r38_b6), .string r38.2.twins_.e0, .string r38.2.twins_.e1, .bool r38.2.found_, .bool r38.2.full_, .int .i64 r38.2.sums_] 64, mpo kStr kStr r38_b4 r38.2.table_, mpo kStr kStr r38_b6 r38.2.notes_, pt b29 #[.int .i64 (r26.length : Int), .slice none 0 0] 35, pt b21 #[.int .i64 0, .slice none 0 0] 35] ++ F0)) (fun w hs => sat_junk 1 rfl hs) ?_
      refine aw_keep [35, 33, 6, 8, 28, 30, 31, 32] (L' := [(35, .slice p59 (R50 ++ R54).length c60), (33, .agg #[.int .i64 r38.1.Index, .string r38.1.ID, .slice r38_p1 r38.1.Path.length r38_c2]), (6, .pointer (some ⟨b21, 0, none⟩)), (8, .pointer (some ⟨b29, 0, none⟩)), (28, .pointer (some ⟨b29, 1, none⟩)), (30, .pointer (some ⟨b0, 0, none⟩)), (31, .slice r26_p1 r26.length r26_c2), (32, .int .i64 r34.1)]) rfl ?_
      refine aw_slots (L' := [(35, .slice p59 (([] : List absent_Side) ++ ([r38.1] : List absent_Side)).length c60), (33, .agg #[.int .i64 r38.1.Index, .string r38.1.ID, .slice r38_p1 r38.1.Path.length r38_c2]), (6, .pointer (some ⟨b21, 0, none⟩)), (8, .pointer (some ⟨b29, 0, none⟩)), (28, .pointer (some ⟨b29, 1, none⟩)), (30, .pointer (some ⟨b0, 0, none⟩)), (31, .slice r26_p1 r26.length r26_c2), (32, .int .i64 r34.1)]) (by simp only [List.length_append, h53, h57] <;> rfl) ?_
      refine aw_vals [8] (f' := 1) (m' := 511) [6, 8, 35, 36] [(6, .pointer (some ⟨b21, 0, none⟩)), (8, .pointer (some ⟨b29, 0, none⟩)), (35, .slice p59 (([] : List absent_Side) ++ ([r38.1] : List absent_Side)).length c60), (36, .pointer (some ⟨b29, 1, none⟩))] (fun _ _ _ _ _ h => calm_fin (P := Try.prog) (fn := Try.f17) _ _ _ _ _ h) (fun w hs => sat_pulls [6, 6] (G := [ownN J43 n_absent_Side 43 p59 c60 (([] : List absent_Side) ++ ([r38.1] : List absent_Side)), emp, imm J43, pt b0 #[.map (some r38_b4), .map (some r38_b6), .string r38.2.twins_.e0, .string r38.2.twins_.e1, .bool r38.2.found_, .bool r38.2.full_, .int .i64 r38.2.sums_] 64, mpo kStr kStr r38_b4 r38.2.table_, mpo kStr kStr r38_b6 r38.2.notes_] ++ F0) rfl hs) rfl (by kernel_rfl) ?_
      refine aw_only 9 (m' := 1023) (by kernel_rfl) (by kernel_rfl) (pw_store 6 #[.int .i64 (r26.length : Int), .slice p59 (([] : List absent_Side) ++ ([r38.1] : List absent_Side)).length c60] rfl rfl rfl rfl rfl rfl rfl (by kernel_rfl) (nw_H (H' := [ownN J43 n_absent_Side 43 p59 c60 (([] : List absent_Side) ++ ([r38.1] : List absent_Side)), emp, imm J43, pt b0 #[.map (some r38_b4), .map (some r38_b6), .string r38.2.twins_.e0, .string r38.2.twins_.e1, .bool r38.2.found_, .bool r38.2.full_, .int .i64 r38.2.sums_] 64, mpo kStr kStr r38_b4 r38.2.table_, mpo kStr kStr r38_b6 r38.2.notes_, pt b29 #[.int .i64 (r26.length : Int), .slice p59 (([] : List absent_Side) ++ ([r38.1] : List absent_Side)).length c60] 35, pt b21 #[.int .i64 0, .slice none 0 0] 35] ++ F0) rfl (aw_last (by kernel_rfl) ?_)))
      refine aw_keep [6, 8] (L' := [(6, .pointer (some ⟨b21, 0, none⟩)), (8, .pointer (some ⟨b29, 0, none⟩))]) rfl ?_
      refine aw_end (by kernel_rfl) ?_
      refine ew_then ?_
      refine cw_seq ?_
      refine cw_region ?_
      refine ow_pw rfl (pw_quiet (v := .agg #[.int .i64 (r26.length : Int), .slice p59 (([] : List absent_Side) ++ ([r38.1] : List absent_Side)).length c60]) rfl rfl rfl rfl (q_load 6 rfl rfl rfl (by kernel_rfl)) (nw_ow ?_))
      refine ow_pw rfl (pw_store 7 #[.int .i64 (r26.length : Int), .slice p59 (([] : List absent_Side) ++ ([r38.1] : List absent_Side)).length c60] rfl rfl rfl rfl rfl rfl rfl (by kernel_rfl) (nw_H (H' := [ownN J43 n_absent_Side 43 p59 c60 (([] : List absent_Side) ++ ([r38.1] : List absent_Side)), emp, imm J43, pt b0 #[.map (some r38_b4), .map (some r38_b6), .string r38.2.twins_.e0, .string r38.2.twins_.e1, .bool r38.2.found_, .bool r38.2.full_, .int .i64 r38.2.sums_] 64, mpo kStr kStr r38_b4 r38.2.table_, mpo kStr kStr r38_b6 r38.2.notes_, pt b29 #[.int .i64 (r26.length : Int), .slice p59 (([] : List absent_Side) ++ ([r38.1] : List absent_Side)).length c60] 35, pt b21 #[.int .i64 (r26.length : Int), .slice p59 (([] : List absent_Side) ++ ([r38.1] : List absent_Side)).length c60] 35] ++ F0) rfl (nw_ow ?_)))
      refine ow_vals 1 (j := 3) [6, 7] [(6, .pointer (some ⟨b21, 0, none⟩)), (7, .int .i64 0)] rfl (by kernel_rfl) ?_
      refine ow_end rfl ?_
      refine ew_then ?_
      refine cw_ret ?_
      refine ew_blk_ret ?_
      refine ew_then_ret ?_
      have hR := Option.some.inj hF
      subst hR
      have hR := hK36
      try dsimp only [Thru] at hR
      subst hR
      exact fin2 (H1 := [imm J43, pt b0 #[.map (some r38_b4), .map (some r38_b6), .string r38.2.twins_.e0, .string r38.2.twins_.e1, .bool r38.2.found_, .bool r38.2.full_, .int .i64 r38.2.sums_] 64, ownN J43 n_absent_Side 43 p59 c60 ((⟨(r26.length : Int), ([] : List absent_Side) ++ ([r38.1] : List absent_Side)⟩ : absent_Proof).Sides), mpo kStr kStr r38_b4 r38.2.table_, mpo kStr kStr r38_b6 r38.2.notes_]) (fun w hs => sat_to [1, 5, 5, 1, 1, 0, 0, 0] 3 rfl hs) rfl (rr_cell 7 rfl rfl (by kernel_rfl)) (rr_tmp rfl) ⟨J43, p59, c60, r38_b4, r38_b6, rfl, rfl, (Hl.sub_trans (Hl.sub_trans h32 r38_hJ) h44)⟩
    refine cw_cond_f rfl rfl h37 ?_
    refine cw_seq ?_
    refine cw_region ?_
    refine ow_vals 3 (j := 3) [0, 1, 6, 8, 9, 38] [(0, .pointer (some ⟨b0, 0, none⟩)), (1, .slice r26_p1 r26.length r26_c2), (6, .pointer (some ⟨b21, 0, none⟩)), (8, .pointer (some ⟨b29, 0, none⟩)), (9, .int .i64 r34.1), (38, .bool (decide (r34.1 > 0)))] rfl (by kernel_rfl) ?_
    refine ow_end rfl ?_
    refine ew_then ?_
    rcases if_some hF with ⟨h61, hF⟩ | ⟨h61, hF⟩
    · refine cw_cond_t rfl rfl h61 ?_
      refine cw_open 10 (SAT w0 ([pt b29 #[.int .i64 (r26.length : Int), .slice none 0 0] 35, pt b21 #[.int .i64 0, .slice none 0 0] 35])) (by kernel_rfl) (f := 11) rfl (fun w hs => sat_drew hs) ?_
      refine aw_vals [0, 2, 3, 4, 5] (f' := 6) (m' := 61) [0, 1, 6, 8, 9, 41, 43, 44, 46] [(0, .pointer (some ⟨b0, 0, none⟩)), (1, .slice r26_p1 r26.length r26_c2), (6, .pointer (some ⟨b21, 0, none⟩)), (8, .pointer (some ⟨b29, 0, none⟩)), (9, .int .i64 r34.1), (41, .pointer (some ⟨b29, 1, none⟩)), (43, .pointer (some ⟨b0, 0, none⟩)), (44, .slice r26_p1 r26.length r26_c2), (46, .int .i64 (IntKind.i64.wrap (r34.1 - 1)))] (fun _ _ _ _ _ h => calm_fin (P := Try.prog) (fn := Try.f17) _ _ _ _ _ h) (fun w hs => sat_pulls [1, 1] (G := [imm J31, pt b0 #[.map (some p1), .map (some p2), .string m0.twins_.e0, .string m0.twins_.e1, .bool m0.found_, .bool m0.full_, .int .i64 m0.sums_] 64, mpo kStr kStr p1 m0.table_, mpo kStr kStr p2 m0.notes_] ++ F0) rfl hs) rfl (by kernel_rfl) ?_
      refine aw_quiet 1 (m' := 63) (v := .slice none 0 0) 1 [] rfl rfl rfl rfl (by kernel_rfl) (by kernel_rfl) (by kernel_rfl) (fun _ _ _ _ _ h => calm_fin (P := Try.prog) (fn := Try.f17) _ _ _ _ _ h) (fun w hs => sat_pulls [1, 1] (G := [imm J31, pt b0 #[.map (some p1), .map (some p2), .string m0.twins_.e0, .string m0.twins_.e1, .bool m0.found_, .bool m0.full_, .int .i64 m0.sums_] 64, mpo kStr kStr p1 m0.table_, mpo kStr kStr p2 m0.notes_] ++ F0) rfl hs) (q_load 0 rfl rfl rfl (by kernel_rfl)) ?_
      obtain ⟨r62, h63, hF⟩ := bind_some hF
      refine aw_only 6 (m' := 127) (by kernel_rfl) (by kernel_rfl) (pw_call (F := [pt b29 #[.int .i64 (r26.length : Int), .slice none 0 0] 35, pt b21 #[.int .i64 0, .slice none 0 0] 35] ++ F0) rfl rfl rfl rfl rfl rfl rfl (by kernel_rfl) (perm_of_pulls [0, 2, 2, 2] rfl) (c_absent_side _ r26 (IntKind.i64.wrap (r34.1 - 1)) m0 r26_p1 r26_c2 p1 p2 b0 r62 h63 h33) ?_)
      rintro _ _ ⟨r62_J, r62_p1, r62_c2, r62_b4, r62_b6, rfl, rfl, r62_hJ⟩
      refine nw_H (H' := [imm r62_J, pt b0 #[.map (some r62_b4), .map (some r62_b6), .string r62.2.twins_.e0, .string r62.2.twins_.e1, .bool r62.2.found_, .bool r62.2.full_, .int .i64 r62.2.sums_] 64, own eStr 9 r62_p1 r62_c2 r62.1.Path, mpo kStr kStr r62_b4 r62.2.table_, mpo kStr kStr r62_b6 r62.2.notes_, pt b29 #[.int .i64 (r26.length : Int), .slice none 0 0] 35, pt b21 #[.int .i64 0, .slice none 0 0] 35] ++ F0) rfl (aw_next (fun w hs => sat_pulls [5, 5] (G := [imm r62_J, pt b0 #[.map (some r62_b4), .map (some r62_b6), .string r62.2.twins_.e0, .string r62.2.twins_.e1, .bool r62.2.found_, .bool r62.2.full_, .int .i64 r62.2.sums_] 64, own eStr 9 r62_p1 r62_c2 r62.1.Path, mpo kStr kStr r62_b4 r62.2.table_, mpo kStr kStr r62_b6 r62.2.notes_] ++ F0) rfl hs) ?_)
      have h33 := ro.sub r62_hJ h33
      refine aw_freeze (fun w hs => sat_to [0, 1] 0 (F := [imm r62_J, own eStr 9 r62_p1 r62_c2 r62.1.Path, pt b0 #[.map (some r62_b4), .map (some r62_b6), .string r62.2.twins_.e0, .string r62.2.twins_.e1, .bool r62.2.found_, .bool r62.2.full_, .int .i64 r62.2.sums_] 64, mpo kStr kStr r62_b4 r62.2.table_, mpo kStr kStr r62_b6 r62.2.notes_, pt b29 #[.int .i64 (r26.length : Int), .slice none 0 0] 35, pt b21 #[.int .i64 0, .slice none 0 0] 35] ++ F0) rfl hs) fun J67 h68 h69 => ?_
      have h33 := ro.sub h68 h33
      refine aw_H (H' := [imm J67, pt b0 #[.map (some r62_b4), .map (some r62_b6), .string r62.2.twins_.e0, .string r62.2.twins_.e1, .bool r62.2.found_, .bool r62.2.full_, .int .i64 r62.2.sums_] 64, mpo kStr kStr r62_b4 r62.2.table_, mpo kStr kStr r62_b6 r62.2.notes_, pt b29 #[.int .i64 (r26.length : Int), .slice none 0 0] 35, pt b21 #[.int .i64 0, .slice none 0 0] 35] ++ F0) rfl ?_
      refine aw_only 7 (m' := 255) (by kernel_rfl) (by kernel_rfl) (pw_buildSlice (E := 43) n_absent_Side.e ([⟨r62.1.Index, r62.1.ID, ⟨r62_p1, r62_c2, r62.1.Path⟩⟩] : List absent_Side_r) rfl rfl rfl rfl rfl (by kernel_rfl) rfl (by kernel_rfl) rfl (by decide) rfl fun p70 => aw_next (fun w hs => sat_pulls [5, 5] (G := [own n_absent_Side.e 43 p70 1 ([⟨r62.1.Index, r62.1.ID, ⟨r62_p1, r62_c2, r62.1.Path⟩⟩] : List absent_Side_r), imm J67, pt b0 #[.map (some r62_b4), .map (some r62_b6), .string r62.2.twins_.e0, .string r62.2.twins_.e1, .bool r62.2.found_, .bool r62.2.full_, .int .i64 r62.2.sums_] 64, mpo kStr kStr r62_b4 r62.2.table_, mpo kStr kStr r62_b6 r62.2.notes_] ++ F0) rfl hs) ?_)
      refine aw_state (S' := SAT w0 ([ownN J67 n_absent_Side 43 p70 1 ([r62.1] : List absent_Side), imm J67, pt b0 #[.map (some r62_b4), .map (some r62_b6), .string r62.2.twins_.e0, .string r62.2.twins_.e1, .bool r62.2.found_, .bool r62.2.full_, .int .i64 r62.2.sums_] 64, mpo kStr kStr r62_b4 r62.2.table_, mpo kStr kStr r62_b6 r62.2.notes_, pt b29 #[.int .i64 (r26.length : Int), .slice none 0 0] 35, pt b21 #[.int .i64 0, .slice none 0 0] 35] ++ F0)) (fun w hs => sat_closeN 0 rfl (show List.map n_absent_Side.log ([⟨r62.1.Index, r62.1.ID, ⟨r62_p1, r62_c2, r62.1.Path⟩⟩] : List absent_Side_r) = ([r62.1] : List absent_Side) from rfl) (show ∀ r ∈ ([⟨r62.1.Index, r62.1.ID, ⟨r62_p1, r62_c2, r62.1.Path⟩⟩] : List absent_Side_r), n_absent_Side.ok J67 r from (List.forall_mem_cons.2 ⟨h69, (fun r hr => by cases hr)⟩)) hs) ?_
      refine aw_state (S' := SAT w0 ([ownN J67 n_absent_Side 43 none 0 ([] : List absent_Side), ownN J67 n_absent_Side 43 p70 1 ([r62.1] : List absent_Side), imm J67, pt b0 #[.map (some r62_b4), .map (some r62_b6), .string r62.2.twins_.e0, .string r62.2.twins_.e1, .bool r62.2.found_, .bool r62.2.full_, .int .i64 r62.2.sums_] 64, mpo kStr kStr r62_b4 r62.2.table_, mpo kStr kStr r62_b6 r62.2.notes_, pt b29 #[.int .i64 (r26.length : Int), .slice none 0 0] 35, pt b21 #[.int .i64 0, .slice none 0 0] 35] ++ F0)) (fun w hs => (sat_ownN_nil J67 n_absent_Side 43 hs)) ?_
      obtain ⟨h73, hF⟩ := chk_some hF
      refine aw_openN 0 rfl fun R74 h75 h76 => ?_
      have h77 : R74.length = ([] : List absent_Side).length := by rw [← h75, List.length_map]
      refine aw_openN 1 rfl fun R78 h79 h80 => ?_
      have h81 : R78.length = ([r62.1] : List absent_Side).length := by rw [← h79, List.length_map]
      have h82 : room (R74.length + R78.length) 48 := by rw [h77, h81]; exact h73
      refine aw_slots (L' := [(48, .slice p70 R78.length 1), (47, .agg #[.int .i64 r62.1.Index, .string r62.1.ID, .slice r62_p1 r62.1.Path.length r62_c2]), (42, .slice none R74.length 0), (0, .pointer (some ⟨b0, 0, none⟩)), (1, .slice r26_p1 r26.length r26_c2), (6, .pointer (some ⟨b21, 0, none⟩)), (8, .pointer (some ⟨b29, 0, none⟩)), (9, .int .i64 r34.1), (41, .pointer (some ⟨b29, 1, none⟩)), (43, .pointer (some ⟨b0, 0, none⟩)), (44, .slice r26_p1 r26.length r26_c2), (46, .int .i64 (IntKind.i64.wrap (r34.1 - 1)))]) (by simp only [h77, h81] <;> rfl) ?_
      refine aw_only 8 (m' := 511) (by kernel_rfl) (by kernel_rfl) (pw_append 0 (l' := R78) rfl rfl rfl rfl rfl rfl (by kernel_rfl) (by kernel_rfl) rfl rfl rfl (src_own (E' := 43) 1 rfl (by kernel_rfl) rfl) rfl h82.1 h82.2 fun p83 c84 => nw_H (H' := [own n_absent_Side.e 43 p83 c84 (R74 ++ R78), own n_absent_Side.e 43 p70 1 R78, imm J67, pt b0 #[.map (some r62_b4), .map (some r62_b6), .string r62.2.twins_.e0, .string r62.2.twins_.e1, .bool r62.2.found_, .bool r62.2.full_, .int .i64 r62.2.sums_] 64, mpo kStr kStr r62_b4 r62.2.table_, mpo kStr kStr r62_b6 r62.2.notes_, pt b29 #[.int .i64 (r26.length : Int), .slice none 0 0] 35, pt b21 #[.int .i64 0, .slice none 0 0] 35] ++ F0) rfl (aw_next (fun w hs => sat_pulls [6, 6] (G := [own n_absent_Side.e 43 p83 c84 (R74 ++ R78), own n_absent_Side.e 43 p70 1 R78, imm J67, pt b0 #[.map (some r62_b4), .map (some r62_b6), .string r62.2.twins_.e0, .string r62.2.twins_.e1, .bool r62.2.found_, .bool r62.2.full_, .int .i64 r62.2.sums_] 64, mpo kStr kStr r62_b4 r62.2.table_, mpo kStr kStr r62_b6 r62.2.notes_] ++ F0) rfl hs) ?_))
      refine aw_state (S' := SAT w0 ([ownN J67 n_absent_Side 43 p83 c84 (([] : List absent_Side) ++ ([r62.1] : List absent_Side)), own n_absent_Side.e 43 p70 1 R78, imm J67, pt b0 #[.map (some r62_b4), .map (some r62_b6), .string r62.2.twins_.e0, .string r62.2.twins_.e1, .bool r62.2.found_, .bool r62.2.full_, .int .i64 r62.2.sums_] 64, mpo kStr kStr r62_b4 r62.2.table_, mpo kStr kStr r62_b6 r62.2.notes_, pt b29 #[.int .i64 (r26.length : Int), .slice none 0 0] 35, pt b21 #[.int .i64 0, .slice none 0 0] 35] ++ F0)) (fun w hs => sat_closeN 0 rfl (by rw [List.map_append, h75, h79]) (fun r hr => (List.mem_append.1 hr).elim (fun hr => n_absent_Side.sub (Hl.sub_refl _) r (h76 r hr)) (fun hr => n_absent_Side.sub (Hl.sub_refl _) r (h80 r hr))) hs) ?_
      refine aw_state (S' := SAT w0 ([ownN J67 n_absent_Side 43 p83 c84 (([] : List absent_Side) ++ ([r62.1] : List absent_Side)), emp, imm J67, pt b0 #[.map (some r62_b4), .map (some r62_b6), .string r62.2.twins_.e0, .string r62.2.twins_.e1, .bool r62.2.found_, .bool r62.2.full_, .int .i64 r62.2.sums_] 64, mpo kStr kStr r62_b4 r62.2.table_, mpo kStr kStr r62_b6 r62.2.notes_, pt b29 #[.int .i64 (r26.length : Int), .slice none 0 0] 35, pt b21 #[.int .i64 0, .slice none 0 0] 35] ++ F0)) (fun w hs => sat_junk 1 rfl hs) ?_
      refine aw_keep [49, 47, 0, 1, 6, 8, 9, 41, 43, 44, 46] (L' := [(49, .slice p83 (R74 ++ R78).length c84), (47, .agg #[.int .i64 r62.1.Index, .string r62.1.ID, .slice r62_p1 r62.1.Path.length r62_c2]), (0, .pointer (some ⟨b0, 0, none⟩)), (1, .slice r26_p1 r26.length r26_c2), (6, .pointer (some ⟨b21, 0, none⟩)), (8, .pointer (some ⟨b29, 0, none⟩)), (9, .int .i64 r34.1), (41, .pointer (some ⟨b29, 1, none⟩)), (43, .pointer (some ⟨b0, 0, none⟩)), (44, .slice r26_p1 r26.length r26_c2), (46, .int .i64 (IntKind.i64.wrap (r34.1 - 1)))]) rfl ?_
      refine aw_slots (L' := [(49, .slice p83 (([] : List absent_Side) ++ ([r62.1] : List absent_Side)).length c84), (47, .agg #[.int .i64 r62.1.Index, .string r62.1.ID, .slice r62_p1 r62.1.Path.length r62_c2]), (0, .pointer (some ⟨b0, 0, none⟩)), (1, .slice r26_p1 r26.length r26_c2), (6, .pointer (some ⟨b21, 0, none⟩)), (8, .pointer (some ⟨b29, 0, none⟩)), (9, .int .i64 r34.1), (41, .pointer (some ⟨b29, 1, none⟩)), (43, .pointer (some ⟨b0, 0, none⟩)), (44, .slice r26_p1 r26.length r26_c2), (46, .int .i64 (IntKind.i64.wrap (r34.1 - 1)))]) (by simp only [List.length_append, h77, h81] <;> rfl) ?_
      refine aw_vals [9] (f' := 1) (m' := 1023) [0, 1, 6, 8, 9, 49, 50] [(0, .pointer (some ⟨b0, 0, none⟩)), (1, .slice r26_p1 r26.length r26_c2), (6, .pointer (some ⟨b21, 0, none⟩)), (8, .pointer (some ⟨b29, 0, none⟩)), (9, .int .i64 r34.1), (49, .slice p83 (([] : List absent_Side) ++ ([r62.1] : List absent_Side)).length c84), (50, .pointer (some ⟨b29, 1, none⟩))] (fun _ _ _ _ _ h => calm_fin (P := Try.prog) (fn := Try.f17) _ _ _ _ _ h) (fun w hs => sat_pulls [6, 6] (G := [ownN J67 n_absent_Side 43 p83 c84 (([] : List absent_Side) ++ ([r62.1] : List absent_Side)), emp, imm J67, pt b0 #[.map (some r62_b4), .map (some r62_b6), .string r62.2.twins_.e0, .string r62.2.twins_.e1, .bool r62.2.found_, .bool r62.2.full_, .int .i64 r62.2.sums_] 64, mpo kStr kStr r62_b4 r62.2.table_, mpo kStr kStr r62_b6 r62.2.notes_] ++ F0) rfl hs) rfl (by kernel_rfl) ?_
      refine aw_only 10 (m' := 2047) (by kernel_rfl) (by kernel_rfl) (pw_store 6 #[.int .i64 (r26.length : Int), .slice p83 (([] : List absent_Side) ++ ([r62.1] : List absent_Side)).length c84] rfl rfl rfl rfl rfl rfl rfl (by kernel_rfl) (nw_H (H' := [ownN J67 n_absent_Side 43 p83 c84 (([] : List absent_Side) ++ ([r62.1] : List absent_Side)), emp, imm J67, pt b0 #[.map (some r62_b4), .map (some r62_b6), .string r62.2.twins_.e0, .string r62.2.twins_.e1, .bool r62.2.found_, .bool r62.2.full_, .int .i64 r62.2.sums_] 64, mpo kStr kStr r62_b4 r62.2.table_, mpo kStr kStr r62_b6 r62.2.notes_, pt b29 #[.int .i64 (r26.length : Int), .slice p83 (([] : List absent_Side) ++ ([r62.1] : List absent_Side)).length c84] 35, pt b21 #[.int .i64 0, .slice none 0 0] 35] ++ F0) rfl (aw_last (by kernel_rfl) ?_)))
      refine aw_keep [0, 1, 6, 8, 9] (L' := [(0, .pointer (some ⟨b0, 0, none⟩)), (1, .slice r26_p1 r26.length r26_c2), (6, .pointer (some ⟨b21, 0, none⟩)), (8, .pointer (some ⟨b29, 0, none⟩)), (9, .int .i64 r34.1)]) rfl ?_
      refine aw_end (by kernel_rfl) ?_
      refine ew_blk ?_
      have hR := Option.some.inj hF
      exact fun a w hf hs => ⟨r62.2.table_, r62.2.notes_, r62.2.twins_.e0, r62.2.twins_.e1, r62.2.found_, r62.2.full_, r62.2.sums_, ([] : List absent_Side) ++ ([r62.1] : List absent_Side), J67, r62_b4, r62_b6, p83, c84, hR, (Hl.sub_trans r62_hJ h68), hf.keep [0, 1, 6, 8, 9], sat_to [1, 1, 1, 3, 3, 1, 1, 0] 1 rfl hs⟩
    refine cw_cond_f rfl rfl h61 ?_
    refine cw_skip ?_
    refine ew_blk ?_
    have hR := Option.some.inj hF
    exact fun a w hf hs => ⟨m0.table_, m0.notes_, m0.twins_.e0, m0.twins_.e1, m0.found_, m0.full_, m0.sums_, [], J31, p1, p2, none, 0, hR, Hl.sub_refl _, hf.keep [0, 1, 6, 8, 9], sat_to [1, 3, 1, 1, 1, 1, 0] 0 rfl (sat_ownN_nil J31 n_absent_Side 43 hs)⟩
  rintro a w ⟨l87, l90, s93, s94, x95, x96, x97, l98, J85, b89, b92, p99, c100, hv, h86, hf, hs⟩
  subst hv
  replace hF := hK36
  clear hK36
  try dsimp only [Thru] at hF
  revert a w
  show CW _ _ _ 65 [(0, .pointer (some ⟨b0, 0, none⟩)), (1, .slice r26_p1 r26.length r26_c2), (6, .pointer (some ⟨b21, 0, none⟩)), (8, .pointer (some ⟨b29, 0, none⟩)), (9, .int .i64 r34.1)] (SAT w0 ([imm J85, pt b0 #[.map (some b89), .map (some b92), .string s93, .string s94, .bool x95, .bool x96, .int .i64 x97] 64, pt b29 #[.int .i64 (r26.length : Int), .slice p99 l98.length c100] 35, pt b21 #[.int .i64 0, .slice none 0 0] 35, mpo kStr kStr b89 l87, mpo kStr kStr b92 l90, ownN J85 n_absent_Side 43 p99 c100 l98] ++ F0))
  unfold F.absent_Prove.r1 at hF
  have h33 := ro.sub h86 h33
  refine cw_seq ?_
  refine cw_seq ?_
  refine cw_region ?_
  refine ow_vals 4 (j := 4) [0, 1, 6, 8, 9, 54] [(0, .pointer (some ⟨b0, 0, none⟩)), (1, .slice r26_p1 r26.length r26_c2), (6, .pointer (some ⟨b21, 0, none⟩)), (8, .pointer (some ⟨b29, 0, none⟩)), (9, .int .i64 r34.1), (54, .bool (decide (r34.1 < (r26.length : Int))))] rfl (by kernel_rfl) ?_
  refine ow_end rfl ?_
  refine ew_then ?_
  rcases if_some hF with ⟨h102, hF⟩ | ⟨h102, hF⟩
  · refine cw_cond_t rfl rfl h102 ?_
    refine cw_open 9 (SAT w0 ([pt b29 #[.int .i64 (r26.length : Int), .slice p99 l98.length c100] 35, pt b21 #[.int .i64 0, .slice none 0 0] 35])) (by kernel_rfl) (f := 10) rfl (fun w hs => sat_drew hs) ?_
    refine aw_vals [0, 2, 3, 4] (f' := 6) (m' := 29) [6, 8, 55, 57, 58, 59] [(6, .pointer (some ⟨b21, 0, none⟩)), (8, .pointer (some ⟨b29, 0, none⟩)), (55, .pointer (some ⟨b29, 1, none⟩)), (57, .pointer (some ⟨b0, 0, none⟩)), (58, .slice r26_p1 r26.length r26_c2), (59, .int .i64 r34.1)] (fun _ _ _ _ _ h => calm_fin (P := Try.prog) (fn := Try.f17) _ _ _ _ _ h) (fun w hs => sat_pulls [2, 2] (G := [imm J85, pt b0 #[.map (some b89), .map (some b92), .string s93, .string s94, .bool x95, .bool x96, .int .i64 x97] 64, mpo kStr kStr b89 l87, mpo kStr kStr b92 l90, ownN J85 n_absent_Side 43 p99 c100 l98] ++ F0) rfl hs) rfl (by kernel_rfl) ?_
    refine aw_quiet 1 (m' := 31) (v := .slice p99 l98.length c100) 1 [] rfl rfl rfl rfl (by kernel_rfl) (by kernel_rfl) (by kernel_rfl) (fun _ _ _ _ _ h => calm_fin (P := Try.prog) (fn := Try.f17) _ _ _ _ _ h) (fun w hs => sat_pulls [2, 2] (G := [imm J85, pt b0 #[.map (some b89), .map (some b92), .string s93, .string s94, .bool x95, .bool x96, .int .i64 x97] 64, mpo kStr kStr b89 l87, mpo kStr kStr b92 l90, ownN J85 n_absent_Side 43 p99 c100 l98] ++ F0) rfl hs) (q_load 0 rfl rfl rfl (by kernel_rfl)) ?_
    obtain ⟨r103, h104, hF⟩ := bind_some hF
    refine aw_only 5 (m' := 63) (by kernel_rfl) (by kernel_rfl) (pw_call (F := [pt b29 #[.int .i64 (r26.length : Int), .slice p99 l98.length c100] 35, pt b21 #[.int .i64 0, .slice none 0 0] 35, ownN J85 n_absent_Side 43 p99 c100 l98] ++ F0) rfl rfl rfl rfl rfl rfl rfl (by kernel_rfl) (perm_of_pulls [0, 0, 2, 2] rfl) (c_absent_side _ r26 r34.1 (⟨l87, l90, (⟨s93, s94⟩ : A2_ByteArray), x95, x96, x97⟩ : mill_Mill) r26_p1 r26_c2 b89 b92 b0 r103 h104 h33) ?_)
    rintro _ _ ⟨r103_J, r103_p1, r103_c2, r103_b4, r103_b6, rfl, rfl, r103_hJ⟩
    refine nw_H (H' := [imm r103_J, pt b0 #[.map (some r103_b4), .map (some r103_b6), .string r103.2.twins_.e0, .string r103.2.twins_.e1, .bool r103.2.found_, .bool r103.2.full_, .int .i64 r103.2.sums_] 64, own eStr 9 r103_p1 r103_c2 r103.1.Path, mpo kStr kStr r103_b4 r103.2.table_, mpo kStr kStr r103_b6 r103.2.notes_, pt b29 #[.int .i64 (r26.length : Int), .slice p99 l98.length c100] 35, pt b21 #[.int .i64 0, .slice none 0 0] 35, ownN J85 n_absent_Side 43 p99 c100 l98] ++ F0) rfl (aw_next (fun w hs => sat_pulls [5, 5] (G := [imm r103_J, pt b0 #[.map (some r103_b4), .map (some r103_b6), .string r103.2.twins_.e0, .string r103.2.twins_.e1, .bool r103.2.found_, .bool r103.2.full_, .int .i64 r103.2.sums_] 64, own eStr 9 r103_p1 r103_c2 r103.1.Path, mpo kStr kStr r103_b4 r103.2.table_, mpo kStr kStr r103_b6 r103.2.notes_, ownN J85 n_absent_Side 43 p99 c100 l98] ++ F0) rfl hs) ?_)
    have h33 := ro.sub r103_hJ h33
    refine aw_freeze (fun w hs => sat_to [0, 1] 0 (F := [imm r103_J, own eStr 9 r103_p1 r103_c2 r103.1.Path, pt b0 #[.map (some r103_b4), .map (some r103_b6), .string r103.2.twins_.e0, .string r103.2.twins_.e1, .bool r103.2.found_, .bool r103.2.full_, .int .i64 r103.2.sums_] 64, mpo kStr kStr r103_b4 r103.2.table_, mpo kStr kStr r103_b6 r103.2.notes_, pt b29 #[.int .i64 (r26.length : Int), .slice p99 l98.length c100] 35, pt b21 #[.int .i64 0, .slice none 0 0] 35, ownN J85 n_absent_Side 43 p99 c100 l98] ++ F0) rfl hs) fun J108 h109 h110 => ?_
    have h33 := ro.sub h109 h33
    refine aw_H (H' := [imm J108, pt b0 #[.map (some r103_b4), .map (some r103_b6), .string r103.2.twins_.e0, .string r103.2.twins_.e1, .bool r103.2.found_, .bool r103.2.full_, .int .i64 r103.2.sums_] 64, mpo kStr kStr r103_b4 r103.2.table_, mpo kStr kStr r103_b6 r103.2.notes_, pt b29 #[.int .i64 (r26.length : Int), .slice p99 l98.length c100] 35, pt b21 #[.int .i64 0, .slice none 0 0] 35, ownN J85 n_absent_Side 43 p99 c100 l98] ++ F0) rfl ?_
    refine aw_only 6 (m' := 127) (by kernel_rfl) (by kernel_rfl) (pw_buildSlice (E := 43) n_absent_Side.e ([⟨r103.1.Index, r103.1.ID, ⟨r103_p1, r103_c2, r103.1.Path⟩⟩] : List absent_Side_r) rfl rfl rfl rfl rfl (by kernel_rfl) rfl (by kernel_rfl) rfl (by decide) rfl fun p111 => aw_next (fun w hs => sat_pulls [5, 5] (G := [own n_absent_Side.e 43 p111 1 ([⟨r103.1.Index, r103.1.ID, ⟨r103_p1, r103_c2, r103.1.Path⟩⟩] : List absent_Side_r), imm J108, pt b0 #[.map (some r103_b4), .map (some r103_b6), .string r103.2.twins_.e0, .string r103.2.twins_.e1, .bool r103.2.found_, .bool r103.2.full_, .int .i64 r103.2.sums_] 64, mpo kStr kStr r103_b4 r103.2.table_, mpo kStr kStr r103_b6 r103.2.notes_, ownN J85 n_absent_Side 43 p99 c100 l98] ++ F0) rfl hs) ?_)
    refine aw_state (S' := SAT w0 ([ownN J108 n_absent_Side 43 p111 1 ([r103.1] : List absent_Side), imm J108, pt b0 #[.map (some r103_b4), .map (some r103_b6), .string r103.2.twins_.e0, .string r103.2.twins_.e1, .bool r103.2.found_, .bool r103.2.full_, .int .i64 r103.2.sums_] 64, mpo kStr kStr r103_b4 r103.2.table_, mpo kStr kStr r103_b6 r103.2.notes_, pt b29 #[.int .i64 (r26.length : Int), .slice p99 l98.length c100] 35, pt b21 #[.int .i64 0, .slice none 0 0] 35, ownN J85 n_absent_Side 43 p99 c100 l98] ++ F0)) (fun w hs => sat_closeN 0 rfl (show List.map n_absent_Side.log ([⟨r103.1.Index, r103.1.ID, ⟨r103_p1, r103_c2, r103.1.Path⟩⟩] : List absent_Side_r) = ([r103.1] : List absent_Side) from rfl) (show ∀ r ∈ ([⟨r103.1.Index, r103.1.ID, ⟨r103_p1, r103_c2, r103.1.Path⟩⟩] : List absent_Side_r), n_absent_Side.ok J108 r from (List.forall_mem_cons.2 ⟨h110, (fun r hr => by cases hr)⟩)) hs) ?_
    obtain ⟨h113, hF⟩ := chk_some hF
    refine aw_openN 7 rfl fun R114 h115 h116 => ?_
    have h117 : R114.length = l98.length := by rw [← h115, List.length_map]
    refine aw_openN 0 rfl fun R118 h119 h120 => ?_
    have h121 : R118.length = ([r103.1] : List absent_Side).length := by rw [← h119, List.length_map]
    have h122 : room (R114.length + R118.length) 48 := by rw [h117, h121]; exact h113
    refine aw_slots (L' := [(61, .slice p111 R118.length 1), (60, .agg #[.int .i64 r103.1.Index, .string r103.1.ID, .slice r103_p1 r103.1.Path.length r103_c2]), (56, .slice p99 R114.length c100), (6, .pointer (some ⟨b21, 0, none⟩)), (8, .pointer (some ⟨b29, 0, none⟩)), (55, .pointer (some ⟨b29, 1, none⟩)), (57, .pointer (some ⟨b0, 0, none⟩)), (58, .slice r26_p1 r26.length r26_c2), (59, .int .i64 r34.1)]) (by simp only [h117, h121] <;> rfl) ?_
    refine aw_only 7 (m' := 255) (by kernel_rfl) (by kernel_rfl) (pw_append 7 (l' := R118) rfl rfl rfl rfl rfl rfl (by kernel_rfl) (by kernel_rfl) rfl rfl rfl (src_own (E' := 43) 0 rfl (by kernel_rfl) rfl) rfl h122.1 h122.2 fun p123 c124 => nw_H (H' := [own n_absent_Side.e 43 p111 1 R118, imm J108, pt b0 #[.map (some r103_b4), .map (some r103_b6), .string r103.2.twins_.e0, .string r103.2.twins_.e1, .bool r103.2.found_, .bool r103.2.full_, .int .i64 r103.2.sums_] 64, mpo kStr kStr r103_b4 r103.2.table_, mpo kStr kStr r103_b6 r103.2.notes_, pt b29 #[.int .i64 (r26.length : Int), .slice p99 l98.length c100] 35, pt b21 #[.int .i64 0, .slice none 0 0] 35, own n_absent_Side.e 43 p123 c124 (R114 ++ R118)] ++ F0) rfl (aw_next (fun w hs => sat_pulls [5, 5] (G := [own n_absent_Side.e 43 p111 1 R118, imm J108, pt b0 #[.map (some r103_b4), .map (some r103_b6), .string r103.2.twins_.e0, .string r103.2.twins_.e1, .bool r103.2.found_, .bool r103.2.full_, .int .i64 r103.2.sums_] 64, mpo kStr kStr r103_b4 r103.2.table_, mpo kStr kStr r103_b6 r103.2.notes_, own n_absent_Side.e 43 p123 c124 (R114 ++ R118)] ++ F0) rfl hs) ?_))
    refine aw_state (S' := SAT w0 ([own n_absent_Side.e 43 p111 1 R118, imm J108, pt b0 #[.map (some r103_b4), .map (some r103_b6), .string r103.2.twins_.e0, .string r103.2.twins_.e1, .bool r103.2.found_, .bool r103.2.full_, .int .i64 r103.2.sums_] 64, mpo kStr kStr r103_b4 r103.2.table_, mpo kStr kStr r103_b6 r103.2.notes_, pt b29 #[.int .i64 (r26.length : Int), .slice p99 l98.length c100] 35, pt b21 #[.int .i64 0, .slice none 0 0] 35, ownN J108 n_absent_Side 43 p123 c124 (l98 ++ ([r103.1] : List absent_Side))] ++ F0)) (fun w hs => sat_closeN 7 rfl (by rw [List.map_append, h115, h119]) (fun r hr => (List.mem_append.1 hr).elim (fun hr => n_absent_Side.sub (Hl.sub_trans r103_hJ h109) r (h116 r hr)) (fun hr => n_absent_Side.sub (Hl.sub_refl _) r (h120 r hr))) hs) ?_
    refine aw_state (S' := SAT w0 ([emp, imm J108, pt b0 #[.map (some r103_b4), .map (some r103_b6), .string r103.2.twins_.e0, .string r103.2.twins_.e1, .bool r103.2.found_, .bool r103.2.full_, .int .i64 r103.2.sums_] 64, mpo kStr kStr r103_b4 r103.2.table_, mpo kStr kStr r103_b6 r103.2.notes_, pt b29 #[.int .i64 (r26.length : Int), .slice p99 l98.length c100] 35, pt b21 #[.int .i64 0, .slice none 0 0] 35, ownN J108 n_absent_Side 43 p123 c124 (l98 ++ ([r103.1] : List absent_Side))] ++ F0)) (fun w hs => sat_junk 0 rfl hs) ?_
    refine aw_keep [62, 60, 6, 8, 55, 57, 58, 59] (L' := [(62, .slice p123 (R114 ++ R118).length c124), (60, .agg #[.int .i64 r103.1.Index, .string r103.1.ID, .slice r103_p1 r103.1.Path.length r103_c2]), (6, .pointer (some ⟨b21, 0, none⟩)), (8, .pointer (some ⟨b29, 0, none⟩)), (55, .pointer (some ⟨b29, 1, none⟩)), (57, .pointer (some ⟨b0, 0, none⟩)), (58, .slice r26_p1 r26.length r26_c2), (59, .int .i64 r34.1)]) rfl ?_
    refine aw_slots (L' := [(62, .slice p123 (l98 ++ ([r103.1] : List absent_Side)).length c124), (60, .agg #[.int .i64 r103.1.Index, .string r103.1.ID, .slice r103_p1 r103.1.Path.length r103_c2]), (6, .pointer (some ⟨b21, 0, none⟩)), (8, .pointer (some ⟨b29, 0, none⟩)), (55, .pointer (some ⟨b29, 1, none⟩)), (57, .pointer (some ⟨b0, 0, none⟩)), (58, .slice r26_p1 r26.length r26_c2), (59, .int .i64 r34.1)]) (by simp only [List.length_append, h117, h121] <;> rfl) ?_
    refine aw_vals [8] (f' := 1) (m' := 511) [6, 8, 62, 63] [(6, .pointer (some ⟨b21, 0, none⟩)), (8, .pointer (some ⟨b29, 0, none⟩)), (62, .slice p123 (l98 ++ ([r103.1] : List absent_Side)).length c124), (63, .pointer (some ⟨b29, 1, none⟩))] (fun _ _ _ _ _ h => calm_fin (P := Try.prog) (fn := Try.f17) _ _ _ _ _ h) (fun w hs => sat_pulls [5, 5] (G := [emp, imm J108, pt b0 #[.map (some r103_b4), .map (some r103_b6), .string r103.2.twins_.e0, .string r103.2.twins_.e1, .bool r103.2.found_, .bool r103.2.full_, .int .i64 r103.2.sums_] 64, mpo kStr kStr r103_b4 r103.2.table_, mpo kStr kStr r103_b6 r103.2.notes_, ownN J108 n_absent_Side 43 p123 c124 (l98 ++ ([r103.1] : List absent_Side))] ++ F0) rfl hs) rfl (by kernel_rfl) ?_
    refine aw_only 9 (m' := 1023) (by kernel_rfl) (by kernel_rfl) (pw_store 5 #[.int .i64 (r26.length : Int), .slice p123 (l98 ++ ([r103.1] : List absent_Side)).length c124] rfl rfl rfl rfl rfl rfl rfl (by kernel_rfl) (nw_H (H' := [emp, imm J108, pt b0 #[.map (some r103_b4), .map (some r103_b6), .string r103.2.twins_.e0, .string r103.2.twins_.e1, .bool r103.2.found_, .bool r103.2.full_, .int .i64 r103.2.sums_] 64, mpo kStr kStr r103_b4 r103.2.table_, mpo kStr kStr r103_b6 r103.2.notes_, pt b29 #[.int .i64 (r26.length : Int), .slice p123 (l98 ++ ([r103.1] : List absent_Side)).length c124] 35, pt b21 #[.int .i64 0, .slice none 0 0] 35, ownN J108 n_absent_Side 43 p123 c124 (l98 ++ ([r103.1] : List absent_Side))] ++ F0) rfl (aw_last (by kernel_rfl) ?_)))
    refine aw_keep [6, 8] (L' := [(6, .pointer (some ⟨b21, 0, none⟩)), (8, .pointer (some ⟨b29, 0, none⟩))]) rfl ?_
    refine aw_end (by kernel_rfl) ?_
    refine ew_then ?_
    refine cw_seq ?_
    refine cw_region ?_
    refine ow_pw rfl (pw_quiet (v := .agg #[.int .i64 (r26.length : Int), .slice p123 (l98 ++ ([r103.1] : List absent_Side)).length c124]) rfl rfl rfl rfl (q_load 5 rfl rfl rfl (by kernel_rfl)) (nw_ow ?_))
    refine ow_pw rfl (pw_store 6 #[.int .i64 (r26.length : Int), .slice p123 (l98 ++ ([r103.1] : List absent_Side)).length c124] rfl rfl rfl rfl rfl rfl rfl (by kernel_rfl) (nw_H (H' := [emp, imm J108, pt b0 #[.map (some r103_b4), .map (some r103_b6), .string r103.2.twins_.e0, .string r103.2.twins_.e1, .bool r103.2.found_, .bool r103.2.full_, .int .i64 r103.2.sums_] 64, mpo kStr kStr r103_b4 r103.2.table_, mpo kStr kStr r103_b6 r103.2.notes_, pt b29 #[.int .i64 (r26.length : Int), .slice p123 (l98 ++ ([r103.1] : List absent_Side)).length c124] 35, pt b21 #[.int .i64 (r26.length : Int), .slice p123 (l98 ++ ([r103.1] : List absent_Side)).length c124] 35, ownN J108 n_absent_Side 43 p123 c124 (l98 ++ ([r103.1] : List absent_Side))] ++ F0) rfl (nw_ow ?_)))
    refine ow_vals 1 (j := 3) [6, 7] [(6, .pointer (some ⟨b21, 0, none⟩)), (7, .int .i64 0)] rfl (by kernel_rfl) ?_
    refine ow_end rfl ?_
    refine ew_then ?_
    refine cw_ret ?_
    have hR := Option.some.inj hF
    subst hR
    exact fin2 (H1 := [imm J108, pt b0 #[.map (some r103_b4), .map (some r103_b6), .string r103.2.twins_.e0, .string r103.2.twins_.e1, .bool r103.2.found_, .bool r103.2.full_, .int .i64 r103.2.sums_] 64, ownN J108 n_absent_Side 43 p123 c124 ((⟨(r26.length : Int), l98 ++ ([r103.1] : List absent_Side)⟩ : absent_Proof).Sides), mpo kStr kStr r103_b4 r103.2.table_, mpo kStr kStr r103_b6 r103.2.notes_]) (fun w hs => sat_to [0, 4, 4, 0, 0, 2, 0, 0] 3 rfl hs) rfl (rr_cell 6 rfl rfl (by kernel_rfl)) (rr_tmp rfl) ⟨J108, p123, c124, r103_b4, r103_b6, rfl, rfl, (Hl.sub_trans (Hl.sub_trans (Hl.sub_trans h32 h86) r103_hJ) h109)⟩
  refine cw_cond_f rfl rfl h102 ?_
  refine cw_skip ?_
  refine ew_then ?_
  refine cw_seq ?_
  refine cw_region ?_
  refine ow_pw rfl (pw_quiet (v := .agg #[.int .i64 (r26.length : Int), .slice p99 l98.length c100]) rfl rfl rfl rfl (q_load 2 rfl rfl rfl (by kernel_rfl)) (nw_ow ?_))
  refine ow_pw rfl (pw_store 3 #[.int .i64 (r26.length : Int), .slice p99 l98.length c100] rfl rfl rfl rfl rfl rfl rfl (by kernel_rfl) (nw_H (H' := [imm J85, pt b0 #[.map (some b89), .map (some b92), .string s93, .string s94, .bool x95, .bool x96, .int .i64 x97] 64, pt b29 #[.int .i64 (r26.length : Int), .slice p99 l98.length c100] 35, pt b21 #[.int .i64 (r26.length : Int), .slice p99 l98.length c100] 35, mpo kStr kStr b89 l87, mpo kStr kStr b92 l90, ownN J85 n_absent_Side 43 p99 c100 l98] ++ F0) rfl (nw_ow ?_)))
  refine ow_vals 1 (j := 3) [6, 7] [(6, .pointer (some ⟨b21, 0, none⟩)), (7, .int .i64 0)] rfl (by kernel_rfl) ?_
  refine ow_end rfl ?_
  refine ew_then ?_
  refine cw_ret ?_
  have hR := Option.some.inj hF
  subst hR
  exact fin2 (H1 := [imm J85, pt b0 #[.map (some b89), .map (some b92), .string (((⟨l87, l90, (⟨s93, s94⟩ : A2_ByteArray), x95, x96, x97⟩ : mill_Mill).twins_).e0), .string (((⟨l87, l90, (⟨s93, s94⟩ : A2_ByteArray), x95, x96, x97⟩ : mill_Mill).twins_).e1), .bool ((⟨l87, l90, (⟨s93, s94⟩ : A2_ByteArray), x95, x96, x97⟩ : mill_Mill).found_), .bool ((⟨l87, l90, (⟨s93, s94⟩ : A2_ByteArray), x95, x96, x97⟩ : mill_Mill).full_), .int .i64 ((⟨l87, l90, (⟨s93, s94⟩ : A2_ByteArray), x95, x96, x97⟩ : mill_Mill).sums_)] 64, ownN J85 n_absent_Side 43 p99 c100 ((⟨(r26.length : Int), l98⟩ : absent_Proof).Sides), mpo kStr kStr b89 ((⟨l87, l90, (⟨s93, s94⟩ : A2_ByteArray), x95, x96, x97⟩ : mill_Mill).table_), mpo kStr kStr b92 ((⟨l87, l90, (⟨s93, s94⟩ : A2_ByteArray), x95, x96, x97⟩ : mill_Mill).notes_)]) (fun w hs => sat_to [2, 2, 0, 0, 2, 0, 0] 2 rfl hs) rfl (rr_cell 3 rfl rfl (by kernel_rfl)) (rr_tmp rfl) ⟨J85, p99, c100, b89, b92, rfl, rfl, (Hl.sub_trans h32 h86)⟩


def F.law24_awake : Option Bool :=
  Option.bind (F.mill_New) (fun (r21 : mill_Mill) => Option.bind (F.absent_Prove ([(ByteArray.mk #[99]), (ByteArray.mk #[97])] : List ByteArray) (ByteArray.mk #[98]) r21) (fun (r31 : absent_Proof × Int × mill_Mill) => if r31.2.1 == 0 then (if r31.1.Size == 2 then (if (r31.1.Sides.length : Int) == 2 then (Option.bind (at_ r31.1.Sides 0) (fun (y49 : absent_Side) => if seqB y49.ID (ByteArray.mk #[97]) then (Option.bind (at_ r31.1.Sides 1) (fun (y59 : absent_Side) => if seqB y59.ID (ByteArray.mk #[99]) then (Option.bind (at_ r31.1.Sides 1) (fun (y69 : absent_Side) => some ((y69.Index == 1)))) else (some (false)))) else (some (false)))) else (some (false))) else (some (false))) else (some (false))))
set_option maxRecDepth 100000 in
set_option maxHeartbeats 4000000 in
theorem c_law24_awake (I : Hl) (res : Bool) (hF : F.law24_awake = some res) : Tr Try.prog 16 [] [imm I] (fun r H' => ∃ (J : Hl), r = .bool res ∧ H' = [imm J] ∧ Hl.sub I J) := by
  unfold F.law24_awake at hF
  refine tr_of_cw (fn := Try.f16) Try.func16 rfl (Nat.le_of_ble_eq_true rfl) 46 rfl fun F0 w0 => ?_
  refine cw_keep [] (L' := []) rfl ?_
  refine cw_state (S' := SAT w0 ([imm I] ++ F0)) (fun w hs => hs) ?_
  refine cw_seq ?_
  refine cw_region ?_
  refine ow_vals 1 (j := 1) [] [] rfl (by kernel_rfl) ?_
  refine ow_end rfl ?_
  refine ew_then ?_
  refine cw_seq ?_
  refine cw_region ?_
  obtain ⟨r21, h22, hF⟩ := bind_some hF
  refine ow_pw rfl (pw_call (F := [] ++ F0) rfl rfl rfl rfl rfl rfl rfl (by kernel_rfl) (perm_of_pulls [0] rfl) (c_mill_New _ r21 h22) ?_)
  rintro _ _ ⟨r21_b1, r21_b3, r21_b5, rfl, rfl⟩
  refine nw_H (H' := [imm I, pt r21_b1 #[.map (some r21_b3), .map (some r21_b5), .string r21.twins_.e0, .string r21.twins_.e1, .bool r21.found_, .bool r21.full_, .int .i64 r21.sums_] 64, mpo kStr kStr r21_b3 r21.table_, mpo kStr kStr r21_b5 r21.notes_] ++ F0) rfl (nw_ow ?_)
  refine ow_pw rfl (pw_buildSlice (E := 9) eStr ([(ByteArray.mk #[99]), (ByteArray.mk #[97])] : List ByteArray) rfl rfl rfl rfl rfl (by kernel_rfl) rfl (by kernel_rfl) rfl (by decide) rfl fun p26 => nw_ow ?_)
  refine ow_freeze (fun w hs => sat_to [1, 0] 0 (F := [imm I, own eStr 9 p26 2 ([(ByteArray.mk #[99]), (ByteArray.mk #[97])] : List ByteArray), pt r21_b1 #[.map (some r21_b3), .map (some r21_b5), .string r21.twins_.e0, .string r21.twins_.e1, .bool r21.found_, .bool r21.full_, .int .i64 r21.sums_] 64, mpo kStr kStr r21_b3 r21.table_, mpo kStr kStr r21_b5 r21.notes_] ++ F0) rfl hs) fun J28 h29 h30 => ?_
  refine ow_H (H' := [imm J28, pt r21_b1 #[.map (some r21_b3), .map (some r21_b5), .string r21.twins_.e0, .string r21.twins_.e1, .bool r21.found_, .bool r21.full_, .int .i64 r21.sums_] 64, mpo kStr kStr r21_b3 r21.table_, mpo kStr kStr r21_b5 r21.notes_] ++ F0) rfl ?_
  obtain ⟨r31, h32, hF⟩ := bind_some hF
  refine ow_pw rfl (pw_call (F := [] ++ F0) rfl rfl rfl rfl rfl rfl rfl (by kernel_rfl) (perm_of_pulls [0, 0, 0, 0] rfl) (c_absent_Prove _ ([(ByteArray.mk #[99]), (ByteArray.mk #[97])] : List ByteArray) (ByteArray.mk #[98]) r21 p26 2 r21_b3 r21_b5 r21_b1 r31 h32 h30) ?_)
  rintro _ _ ⟨r31_J, r31_p1, r31_c2, r31_b4, r31_b6, rfl, rfl, r31_hJ⟩
  refine nw_H (H' := [imm r31_J, pt r21_b1 #[.map (some r31_b4), .map (some r31_b6), .string r31.2.2.twins_.e0, .string r31.2.2.twins_.e1, .bool r31.2.2.found_, .bool r31.2.2.full_, .int .i64 r31.2.2.sums_] 64, ownN r31_J n_absent_Side 43 r31_p1 r31_c2 r31.1.Sides, mpo kStr kStr r31_b4 r31.2.2.table_, mpo kStr kStr r31_b6 r31.2.2.notes_] ++ F0) rfl (nw_ow ?_)
  have h30 := ro.sub r31_hJ h30
  refine ow_vals 3 (j := 6) [7, 8] [(7, .agg #[.int .i64 r31.1.Size, .slice r31_p1 r31.1.Sides.length r31_c2]), (8, .int .i64 r31.2.1)] rfl (by kernel_rfl) ?_
  refine ow_pw rfl (pw_alloc (cs := #[.int .i64 0, .slice none 0 0]) rfl rfl rfl rfl rfl (by kernel_rfl) fun b36 => nw_ow ?_)
  refine ow_pw rfl (pw_store 0 #[.int .i64 r31.1.Size, .slice r31_p1 r31.1.Sides.length r31_c2] rfl rfl rfl rfl rfl rfl rfl (by kernel_rfl) (nw_H (H' := [pt b36 #[.int .i64 r31.1.Size, .slice r31_p1 r31.1.Sides.length r31_c2] 35, imm r31_J, pt r21_b1 #[.map (some r31_b4), .map (some r31_b6), .string r31.2.2.twins_.e0, .string r31.2.2.twins_.e1, .bool r31.2.2.found_, .bool r31.2.2.full_, .int .i64 r31.2.2.sums_] 64, ownN r31_J n_absent_Side 43 r31_p1 r31_c2 r31.1.Sides, mpo kStr kStr r31_b4 r31.2.2.table_, mpo kStr kStr r31_b6 r31.2.2.notes_] ++ F0) rfl (nw_ow ?_)))
  refine ow_vals 1 (j := 9) [1, 2] [(1, .pointer (some ⟨b36, 0, none⟩)), (2, .int .i64 r31.2.1)] rfl (by kernel_rfl) ?_
  refine ow_end rfl ?_
  refine ew_then ?_
  refine cw_seq ?_
  refine cw_region ?_
  refine ow_vals 3 (j := 3) [1, 11] [(1, .pointer (some ⟨b36, 0, none⟩)), (11, .bool (r31.2.1 == 0))] rfl (by kernel_rfl) ?_
  rcases if_some hF with ⟨h38, hF⟩ | ⟨h38, hF⟩
  · refine ow_slots (L' := [(1, .pointer (some ⟨b36, 0, none⟩)), (11, .bool true)]) (by rw [h38]) ?_
    refine ow_vals 1 (j := 4) [1, 11, 12] [(1, .pointer (some ⟨b36, 0, none⟩)), (11, .bool true), (12, .pointer (some ⟨b36, 0, none⟩))] rfl (by kernel_rfl) ?_
    refine ow_pw rfl (pw_quiet (v := .int .i64 r31.1.Size) rfl rfl rfl rfl (q_load 0 rfl rfl rfl (by kernel_rfl)) (nw_ow ?_))
    refine ow_vals 3 (j := 8) [1, 16] [(1, .pointer (some ⟨b36, 0, none⟩)), (16, .bool (r31.1.Size == 2))] rfl (by kernel_rfl) ?_
    rcases if_some hF with ⟨h39, hF⟩ | ⟨h39, hF⟩
    · refine ow_slots (L' := [(1, .pointer (some ⟨b36, 0, none⟩)), (16, .bool true)]) (by rw [h39]) ?_
      refine ow_vals 1 (j := 9) [1, 16, 17] [(1, .pointer (some ⟨b36, 0, none⟩)), (16, .bool true), (17, .pointer (some ⟨b36, 1, none⟩))] rfl (by kernel_rfl) ?_
      refine ow_pw rfl (pw_quiet (v := .slice r31_p1 r31.1.Sides.length r31_c2) rfl rfl rfl rfl (q_load 0 rfl rfl rfl (by kernel_rfl)) (nw_ow ?_))
      refine ow_vals 4 (j := 14) [1, 22] [(1, .pointer (some ⟨b36, 0, none⟩)), (22, .bool ((r31.1.Sides.length : Int) == 2))] rfl (by kernel_rfl) ?_
      rcases if_some hF with ⟨h40, hF⟩ | ⟨h40, hF⟩
      · refine ow_slots (L' := [(1, .pointer (some ⟨b36, 0, none⟩)), (22, .bool true)]) (by rw [h40]) ?_
        refine ow_vals 1 (j := 15) [1, 22, 23] [(1, .pointer (some ⟨b36, 0, none⟩)), (22, .bool true), (23, .pointer (some ⟨b36, 1, none⟩))] rfl (by kernel_rfl) ?_
        refine ow_pw rfl (pw_quiet (v := .slice r31_p1 r31.1.Sides.length r31_c2) rfl rfl rfl rfl (q_load 0 rfl rfl rfl (by kernel_rfl)) (nw_ow ?_))
        refine ow_openN 3 rfl fun R44 h45 h46 => ?_
        have h47 : R44.length = r31.1.Sides.length := by rw [← h45, List.length_map]
        refine ow_freeze (fun w hs => sat_to [1, 2] 0 (F := [imm r31_J, own n_absent_Side.e 43 r31_p1 r31_c2 R44, pt b36 #[.int .i64 r31.1.Size, .slice r31_p1 r31.1.Sides.length r31_c2] 35, pt r21_b1 #[.map (some r31_b4), .map (some r31_b6), .string r31.2.2.twins_.e0, .string r31.2.2.twins_.e1, .bool r31.2.2.found_, .bool r31.2.2.full_, .int .i64 r31.2.2.sums_] 64, mpo kStr kStr r31_b4 r31.2.2.table_, mpo kStr kStr r31_b6 r31.2.2.notes_] ++ F0) rfl hs) fun J41 h42 h48 => ?_
        have h43 : roN J41 n_absent_Side r31_p1 r31_c2 r31.1.Sides := ⟨R44, h48, h45, fun r hr => n_absent_Side.sub h42 r (h46 r hr)⟩
        refine ow_H (H' := [imm J41, pt b36 #[.int .i64 r31.1.Size, .slice r31_p1 r31.1.Sides.length r31_c2] 35, pt r21_b1 #[.map (some r31_b4), .map (some r31_b6), .string r31.2.2.twins_.e0, .string r31.2.2.twins_.e1, .bool r31.2.2.found_, .bool r31.2.2.full_, .int .i64 r31.2.2.sums_] 64, mpo kStr kStr r31_b4 r31.2.2.table_, mpo kStr kStr r31_b6 r31.2.2.notes_] ++ F0) rfl ?_
        obtain ⟨y49, h50, hF⟩ := bind_some hF
        refine ow_pw rfl (pw_index_roN (E := 43) 3 h43 rfl rfl rfl rfl rfl (by kernel_rfl) rfl rfl rfl h50 fun q51 h52 => nw_ow ?_)
        refine ow_vals 1 (j := 18) [1, 22, 26] [(1, .pointer (some ⟨b36, 0, none⟩)), (22, .bool true), (26, .pointer (some (q51.add 1)))] rfl (by kernel_rfl) ?_
        obtain ⟨r53, h54, h55, h56⟩ := (id h52)
        have h57 : ro J41 eStr r53.Path.p r53.Path.c y49.Path := by subst h55; exact h56
        refine ow_pw rfl (pw_quiet (v := .string y49.ID) rfl rfl rfl rfl (q_load_el 0 rfl h54 rfl rfl (by subst h55; kernel_rfl)) (nw_ow ?_))
        refine ow_vals 3 (j := 22) [1, 30] [(1, .pointer (some ⟨b36, 0, none⟩)), (30, .bool (seqB y49.ID (ByteArray.mk #[97])))] rfl (by kernel_rfl) ?_
        rcases if_some hF with ⟨h58, hF⟩ | ⟨h58, hF⟩
        · refine ow_slots (L' := [(1, .pointer (some ⟨b36, 0, none⟩)), (30, .bool true)]) (by rw [h58]) ?_
          refine ow_vals 1 (j := 23) [1, 30, 31] [(1, .pointer (some ⟨b36, 0, none⟩)), (30, .bool true), (31, .pointer (some ⟨b36, 1, none⟩))] rfl (by kernel_rfl) ?_
          refine ow_pw rfl (pw_quiet (v := .slice r31_p1 r31.1.Sides.length r31_c2) rfl rfl rfl rfl (q_load 1 rfl rfl rfl (by kernel_rfl)) (nw_ow ?_))
          obtain ⟨y59, h60, hF⟩ := bind_some hF
          refine ow_pw rfl (pw_index_roN (E := 43) 3 h43 rfl rfl rfl rfl rfl (by kernel_rfl) rfl rfl rfl h60 fun q61 h62 => nw_ow ?_)
          refine ow_vals 1 (j := 26) [1, 30, 34] [(1, .pointer (some ⟨b36, 0, none⟩)), (30, .bool true), (34, .pointer (some (q61.add 1)))] rfl (by kernel_rfl) ?_
          obtain ⟨r63, h64, h65, h66⟩ := (id h62)
          have h67 : ro J41 eStr r63.Path.p r63.Path.c y59.Path := by subst h65; exact h66
          refine ow_pw rfl (pw_quiet (v := .string y59.ID) rfl rfl rfl rfl (q_load_el 0 rfl h64 rfl rfl (by subst h65; kernel_rfl)) (nw_ow ?_))
          refine ow_vals 3 (j := 30) [1, 38] [(1, .pointer (some ⟨b36, 0, none⟩)), (38, .bool (seqB y59.ID (ByteArray.mk #[99])))] rfl (by kernel_rfl) ?_
          rcases if_some hF with ⟨h68, hF⟩ | ⟨h68, hF⟩
          · refine ow_slots (L' := [(1, .pointer (some ⟨b36, 0, none⟩)), (38, .bool true)]) (by rw [h68]) ?_
            refine ow_vals 1 (j := 31) [38, 39] [(38, .bool true), (39, .pointer (some ⟨b36, 1, none⟩))] rfl (by kernel_rfl) ?_
            refine ow_pw rfl (pw_quiet (v := .slice r31_p1 r31.1.Sides.length r31_c2) rfl rfl rfl rfl (q_load 1 rfl rfl rfl (by kernel_rfl)) (nw_ow ?_))
            obtain ⟨y69, h70, hF⟩ := bind_some hF
            refine ow_pw rfl (pw_index_roN (E := 43) 3 h43 rfl rfl rfl rfl rfl (by kernel_rfl) rfl rfl rfl h70 fun q71 h72 => nw_ow ?_)
            refine ow_vals 1 (j := 34) [38, 42] [(38, .bool true), (42, .pointer (some (q71.add 0)))] rfl (by kernel_rfl) ?_
            obtain ⟨r73, h74, h75, h76⟩ := (id h72)
            have h77 : ro J41 eStr r73.Path.p r73.Path.c y69.Path := by subst h75; exact h76
            refine ow_pw rfl (pw_quiet (v := .int .i64 y69.Index) rfl rfl rfl rfl (q_load_el 0 rfl h74 rfl rfl (by subst h75; kernel_rfl)) (nw_ow ?_))
            refine ow_vals 3 (j := 38) [0] [(0, .bool (y69.Index == 1))] rfl (by kernel_rfl) ?_
            refine ow_end rfl ?_
            refine ew_then ?_
            refine cw_ret ?_
            have hR := Option.some.inj hF
            subst hR
            exact fin1 (H1 := [imm J41]) (fun w hs => sat_to [1, 1, 1, 1, 0] 4 rfl hs) rfl (rr_tmp rfl) ⟨J41, rfl, rfl, (Hl.sub_trans (Hl.sub_trans h29 r31_hJ) h42)⟩
          refine ow_slots (L' := [(1, .pointer (some ⟨b36, 0, none⟩)), (38, .bool false)]) (by rw [h68]) ?_
          refine ow_vals 8 (j := 38) [0] [(0, .bool false)] rfl (by kernel_rfl) ?_
          refine ow_end rfl ?_
          refine ew_then ?_
          refine cw_ret ?_
          have hR := Option.some.inj hF
          subst hR
          exact fin1 (H1 := [imm J41]) (fun w hs => sat_to [1, 1, 1, 1, 0] 4 rfl hs) rfl (rr_tmp rfl) ⟨J41, rfl, rfl, (Hl.sub_trans (Hl.sub_trans h29 r31_hJ) h42)⟩
        refine ow_slots (L' := [(1, .pointer (some ⟨b36, 0, none⟩)), (30, .bool false)]) (by rw [h58]) ?_
        refine ow_vals 16 (j := 38) [0] [(0, .bool false)] rfl (by kernel_rfl) ?_
        refine ow_end rfl ?_
        refine ew_then ?_
        refine cw_ret ?_
        have hR := Option.some.inj hF
        subst hR
        exact fin1 (H1 := [imm J41]) (fun w hs => sat_to [1, 1, 1, 1, 0] 4 rfl hs) rfl (rr_tmp rfl) ⟨J41, rfl, rfl, (Hl.sub_trans (Hl.sub_trans h29 r31_hJ) h42)⟩
      refine ow_slots (L' := [(1, .pointer (some ⟨b36, 0, none⟩)), (22, .bool false)]) (by rw [h40]) ?_
      refine ow_vals 24 (j := 38) [0] [(0, .bool false)] rfl (by kernel_rfl) ?_
      refine ow_end rfl ?_
      refine ew_then ?_
      refine cw_ret ?_
      have hR := Option.some.inj hF
      subst hR
      exact fin1 (H1 := [imm r31_J]) (fun w hs => sat_to [0, 1, 1, 1, 1, 0] 5 rfl hs) rfl (rr_tmp rfl) ⟨r31_J, rfl, rfl, (Hl.sub_trans h29 r31_hJ)⟩
    refine ow_slots (L' := [(1, .pointer (some ⟨b36, 0, none⟩)), (16, .bool false)]) (by rw [h39]) ?_
    refine ow_vals 30 (j := 38) [0] [(0, .bool false)] rfl (by kernel_rfl) ?_
    refine ow_end rfl ?_
    refine ew_then ?_
    refine cw_ret ?_
    have hR := Option.some.inj hF
    subst hR
    exact fin1 (H1 := [imm r31_J]) (fun w hs => sat_to [0, 1, 1, 1, 1, 0] 5 rfl hs) rfl (rr_tmp rfl) ⟨r31_J, rfl, rfl, (Hl.sub_trans h29 r31_hJ)⟩
  refine ow_slots (L' := [(1, .pointer (some ⟨b36, 0, none⟩)), (11, .bool false)]) (by rw [h38]) ?_
  refine ow_vals 35 (j := 38) [0] [(0, .bool false)] rfl (by kernel_rfl) ?_
  refine ow_end rfl ?_
  refine ew_then ?_
  refine cw_ret ?_
  have hR := Option.some.inj hF
  subst hR
  exact fin1 (H1 := [imm r31_J]) (fun w hs => sat_to [0, 1, 1, 1, 1, 0] 5 rfl hs) rfl (rr_tmp rfl) ⟨r31_J, rfl, rfl, (Hl.sub_trans h29 r31_hJ)⟩

end Go.Proofs.Ytileogoeoiafkaa
