/- What the functions compute, and that the code computes it: printed by a program of this claim (wip/tools), for the group Full. -/
import Derived.Test.YtgkkgmnomiokbaaGMill
namespace Go.Proofs.Ytgkkgmnomiokbaa
set_option linter.all false
open Go Go.RowKit Go.Fw
set_option linter.unusedVariables false

def F.law03_MillFull.l3 (x0 : Int) (x45 : Int) (l46 : List (ByteArray × ByteArray)) (l49 : List (ByteArray × ByteArray)) (s52 : ByteArray) (s53 : ByteArray) (x54 : Bool) (x55 : Bool) (x56 : Int) : Option ((Int × (List (ByteArray × ByteArray)) × (List (ByteArray × ByteArray)) × ByteArray × ByteArray × Bool × Bool × Int) ⊕ ((List (ByteArray × ByteArray)) × (List (ByteArray × ByteArray)) × ByteArray × ByteArray × Bool × Bool × Int)) :=
  if decide (x45 < (IntKind.i64.wrap (20000 + x0))) then (Option.bind (F.mill_Mill_Sum (bstr ([IntKind.u8.wrap (IntKind.i64.wrap (x45.tdiv 65536)), IntKind.u8.wrap (IntKind.i64.wrap (x45.tdiv 256)), IntKind.u8.wrap (x45)] : List Int)) (⟨l46, l49, (⟨s52, s53⟩ : A2_ByteArray), x54, x55, x56⟩ : mill_Mill)) (fun (r60 : ByteArray × mill_Mill) => some (.inl (IntKind.i64.wrap (x45 + 1), r60.2.table_, r60.2.notes_, r60.2.twins_.e0, r60.2.twins_.e1, r60.2.found_, r60.2.full_, r60.2.sums_)))) else (some (.inr ((l46, l49, s52, s53, x54, x55, x56))))
def F.law03_MillFull.r4 (x0 : Int) (l64 : List (ByteArray × ByteArray)) (l67 : List (ByteArray × ByteArray)) (s70 : ByteArray) (s71 : ByteArray) (x72 : Bool) (x73 : Bool) (x74 : Int) : Option (Bool) :=
  Option.bind (F.mill_Mill_Twins (⟨l64, l67, (⟨s70, s71⟩ : A2_ByteArray), x72, x73, x74⟩ : mill_Mill)) (fun (r75 : ByteArray × ByteArray × Bool) => Option.bind (F.mill_Mill_Full (⟨l64, l67, (⟨s70, s71⟩ : A2_ByteArray), x72, x73, x74⟩ : mill_Mill)) (fun (r77 : Bool) => Option.bind (F.mill_Mill_Sum (ByteArray.mk #[116, 119, 105, 110]) (⟨l64, l67, (⟨s70, s71⟩ : A2_ByteArray), x72, x73, x74⟩ : mill_Mill)) (fun (r79 : ByteArray × mill_Mill) => Option.bind (F.mill_Mill_Twins r79.2) (fun (r83 : ByteArray × ByteArray × Bool) => Option.bind (F.law03_awake) (fun (r85 : Bool) => if r85 then (if r75.2.2 then (some (true)) else (if r77 == (decide (x0 > 0)) then (if r83.2.2 then (if seqB r83.1 (ByteArray.mk #[0, 0, 0]) then (some ((seqB r83.2.1 (ByteArray.mk #[116, 119, 105, 110])))) else (some (false))) else (some (false))) else (some (false)))) else (some (false)))))))
def F.law03_MillFull.r2 (x0 : Int) (r35_s1 : mill_Mill) : Option (Bool) :=
  Option.bind (iter (fun x => F.law03_MillFull.l3 x0 x.1 x.2.1 x.2.2.1 x.2.2.2.1 x.2.2.2.2.1 x.2.2.2.2.2.1 x.2.2.2.2.2.2.1 x.2.2.2.2.2.2.2) FUEL (0, r35_s1.table_, r35_s1.notes_, r35_s1.twins_.e0, r35_s1.twins_.e1, r35_s1.found_, r35_s1.full_, r35_s1.sums_)) (fun x => F.law03_MillFull.r4 x0 x.1 x.2.1 x.2.2.1 x.2.2.2.1 x.2.2.2.2.1 x.2.2.2.2.2.1 x.2.2.2.2.2.2)
def F.law03_MillFull.r1 (x0 : Int) : Option (Bool) :=
  Option.bind (F.sha_Sum (ByteArray.mk #[0, 0, 0])) (fun (r28 : ByteArray) => Option.bind (F.mill_With ([(⟨false, (ByteArray.mk #[]), (ByteArray.mk #[116, 119, 105, 110]), r28⟩ : mill_Entry)] : List mill_Entry)) (fun (r35 : (Option mill_Mill) × Int) => optC r35.1 (some (false)) (fun (r35_s1 : mill_Mill) => thru (if r35.2 != 0 then (some (.inr (false))) else (some (.inl ()))) (fun x => F.law03_MillFull.r2 x0 r35_s1))))
def F.law03_MillFull (x0 : Int) : Option Bool :=
  thru (if decide (x0 < (-10)) then (Option.bind (F.law03_awake) (fun (r23 : Bool) => some (.inr (r23)))) else (if decide (x0 > 10) then (Option.bind (F.law03_awake) (fun (r26 : Bool) => some (.inr (r26)))) else (some (.inl ())))) (fun x => F.law03_MillFull.r1 x0)
set_option maxRecDepth 100000 in
set_option maxHeartbeats 4000000 in
theorem c_law03_MillFull (I : Hl) (x0 : Int) (res : Bool) (hF : F.law03_MillFull x0 = some res) : Tr Try.prog 5 [.int .i64 x0] [imm I] (fun r H' => ∃ (J : Hl), r = .bool res ∧ H' = [imm J] ∧ Hl.sub I J) := by
  unfold F.law03_MillFull at hF
  refine tr_of_cw (fn := Try.f5) Try.func5 rfl (Nat.le_of_ble_eq_true rfl) 90 rfl fun F0 w0 => ?_
  refine cw_keep [0] (L' := [(0, .int .i64 x0)]) rfl ?_
  refine cw_state (S' := SAT w0 ([imm I] ++ F0)) (fun w hs => hs) ?_
  refine cw_seq ?_
  refine cw_region ?_
  refine ow_vals 1 (j := 1) [0] [(0, .int .i64 x0)] rfl (by kernel_rfl) ?_
  refine ow_end rfl ?_
  refine ew_then ?_
  obtain ⟨v21, hF, hK21⟩ := thru_some hF
  refine cw_mid (fun a w => .inl () = v21 ∧ Fr 90 [(0, .int .i64 x0)] a ∧ SAT w0 ([imm I] ++ F0) w) ?_ ?_
  · refine cw_seq ?_
    refine cw_region ?_
    refine ow_vals 3 (j := 3) [0, 16] [(0, .int .i64 x0), (16, .bool (decide (x0 < (-10))))] rfl (by kernel_rfl) ?_
    rcases if_some hF with ⟨h22, hF⟩ | ⟨h22, hF⟩
    · refine ow_slots (L' := [(0, .int .i64 x0), (16, .bool true)]) (by rw [h22]) ?_
      refine ow_vals 3 (j := 6) [0, 19] [(0, .int .i64 x0), (19, .bool true)] rfl (by kernel_rfl) ?_
      refine ow_end rfl ?_
      refine ew_then ?_
      refine cw_cond_t rfl rfl rfl ?_
      refine cw_seq ?_
      refine cw_region ?_
      obtain ⟨r23, h24, hF⟩ := bind_some hF
      refine ow_pw rfl (pw_call (F := [] ++ F0) rfl rfl rfl rfl rfl rfl rfl (by kernel_rfl) (perm_of_pulls [0] rfl) (c_law03_awake _ r23 h24) ?_)
      rintro _ _ ⟨rfl, rfl⟩
      refine nw_H (H' := [imm I] ++ F0) rfl (nw_ow ?_)
      refine ow_vals 1 (j := 2) [2] [(2, .bool r23)] rfl (by kernel_rfl) ?_
      refine ow_end rfl ?_
      refine ew_then ?_
      refine cw_ret ?_
      refine ew_then_ret ?_
      have hR := Option.some.inj hF
      subst hR
      have hR := hK21
      try dsimp only [Thru] at hR
      subst hR
      exact fin1 (H1 := [imm I]) (fun w hs => sat_to [0] 0 rfl hs) rfl (rr_tmp rfl) ⟨I, rfl, rfl, Hl.sub_refl _⟩
    · refine ow_slots (L' := [(0, .int .i64 x0), (16, .bool false)]) (by rw [h22]) ?_
      refine ow_vals 3 (j := 6) [0, 19] [(0, .int .i64 x0), (19, .bool (decide (x0 > 10)))] rfl (by kernel_rfl) ?_
      refine ow_end rfl ?_
      refine ew_then ?_
      rcases if_some hF with ⟨h25, hF⟩ | ⟨h25, hF⟩
      · refine cw_cond_t rfl rfl h25 ?_
        refine cw_seq ?_
        refine cw_region ?_
        obtain ⟨r26, h27, hF⟩ := bind_some hF
        refine ow_pw rfl (pw_call (F := [] ++ F0) rfl rfl rfl rfl rfl rfl rfl (by kernel_rfl) (perm_of_pulls [0] rfl) (c_law03_awake _ r26 h27) ?_)
        rintro _ _ ⟨rfl, rfl⟩
        refine nw_H (H' := [imm I] ++ F0) rfl (nw_ow ?_)
        refine ow_vals 1 (j := 2) [2] [(2, .bool r26)] rfl (by kernel_rfl) ?_
        refine ow_end rfl ?_
        refine ew_then ?_
        refine cw_ret ?_
        refine ew_then_ret ?_
        have hR := Option.some.inj hF
        subst hR
        have hR := hK21
        try dsimp only [Thru] at hR
        subst hR
        exact fin1 (H1 := [imm I]) (fun w hs => sat_to [0] 0 rfl hs) rfl (rr_tmp rfl) ⟨I, rfl, rfl, Hl.sub_refl _⟩
      · refine cw_cond_f rfl rfl h25 ?_
        refine cw_skip ?_
        have hR := Option.some.inj hF
        exact fun a w hf hs => ⟨hR, hf.keep [0], sat_to [0] 0 rfl hs⟩
  · rintro a w ⟨hv, hf, hs⟩
    subst hv
    replace hF := hK21
    clear hK21
    try dsimp only [Thru] at hF
    revert a w
    show CW _ _ _ 90 [(0, .int .i64 x0)] (SAT w0 ([imm I] ++ F0))
    unfold F.law03_MillFull.r1 at hF
    refine cw_seq ?_
    refine cw_region ?_
    obtain ⟨r28, h29, hF⟩ := bind_some hF
    refine ow_pw rfl (pw_call (F := [] ++ F0) rfl rfl rfl rfl rfl rfl rfl (by kernel_rfl) (perm_of_pulls [0] rfl) (c_sha_Sum _ (ByteArray.mk #[0, 0, 0]) r28 h29) ?_)
    rintro _ _ ⟨rfl, rfl⟩
    refine nw_H (H' := [imm I] ++ F0) rfl (nw_ow ?_)
    refine ow_vals 1 (j := 2) [0, 23] [(0, .int .i64 x0), (23, .agg #[.bool false, .string (ByteArray.mk #[]), .string (ByteArray.mk #[116, 119, 105, 110]), .string r28])] rfl (by kernel_rfl) ?_
    refine ow_pw rfl (pw_buildSlice (E := 42) e_mill_Entry ([(⟨false, (ByteArray.mk #[]), (ByteArray.mk #[116, 119, 105, 110]), r28⟩ : mill_Entry)] : List mill_Entry) rfl rfl rfl rfl rfl (by kernel_rfl) rfl (by kernel_rfl) rfl (by decide) rfl fun p30 => nw_ow ?_)
    refine ow_freeze (fun w hs => sat_to [1, 0] 0 (F := [imm I, own e_mill_Entry 42 p30 1 ([(⟨false, (ByteArray.mk #[]), (ByteArray.mk #[116, 119, 105, 110]), r28⟩ : mill_Entry)] : List mill_Entry)] ++ F0) rfl hs) fun J32 h33 h34 => ?_
    refine ow_H (H' := [imm J32] ++ F0) rfl ?_
    obtain ⟨r35, h36, hF⟩ := bind_some hF
    refine ow_pw rfl (pw_call (F := [] ++ F0) rfl rfl rfl rfl rfl rfl rfl (by kernel_rfl) (perm_of_pulls [0] rfl) (c_mill_With _ ([(⟨false, (ByteArray.mk #[]), (ByteArray.mk #[116, 119, 105, 110]), r28⟩ : mill_Entry)] : List mill_Entry) p30 1 r35 h36 h34) ?_)
    rintro _ _ (⟨hO, rfl, rfl⟩ | ⟨r35_s1, r35_b2, r35_b4, r35_b6, hO, rfl, rfl⟩)
    · rw [hO] at hF
      try dsimp only [optC] at hF
      refine nw_H (H' := [imm J32] ++ F0) rfl (nw_ow ?_)
      refine ow_vals 5 (j := 9) [0, 3, 4] [(0, .int .i64 x0), (3, .pointer none), (4, .int .i64 r35.2)] rfl (by kernel_rfl) ?_
      refine ow_end rfl ?_
      refine ew_then ?_
      refine cw_seq ?_
      refine cw_seq ?_
      refine cw_region ?_
      refine ow_vals 6 (j := 6) [0, 3, 33] [(0, .int .i64 x0), (3, .pointer none), (33, .bool true)] rfl (by kernel_rfl) ?_
      refine ow_end rfl ?_
      refine ew_then ?_
      refine cw_cond_t rfl rfl rfl ?_
      refine cw_seq ?_
      refine cw_region ?_
      refine ow_vals 1 (j := 1) [2] [(2, .bool false)] rfl (by kernel_rfl) ?_
      refine ow_end rfl ?_
      refine ew_then ?_
      refine cw_ret ?_
      refine ew_then_ret ?_
      have hR := Option.some.inj hF
      subst hR
      exact fin1 (H1 := [imm J32]) (fun w hs => sat_to [0] 0 rfl hs) rfl (rr_tmp rfl) ⟨J32, rfl, rfl, h33⟩
    · rw [hO] at hF
      try dsimp only [optC] at hF
      refine nw_H (H' := [imm J32, pt r35_b2 #[.map (some r35_b4), .map (some r35_b6), .string r35_s1.twins_.e0, .string r35_s1.twins_.e1, .bool r35_s1.found_, .bool r35_s1.full_, .int .i64 r35_s1.sums_] 50, mpo kStr kStr r35_b4 r35_s1.table_, mpo kStr kStr r35_b6 r35_s1.notes_] ++ F0) rfl (nw_ow ?_)
      refine ow_vals 5 (j := 9) [0, 3, 4] [(0, .int .i64 x0), (3, .pointer (some ⟨r35_b2, 0, none⟩)), (4, .int .i64 r35.2)] rfl (by kernel_rfl) ?_
      refine ow_end rfl ?_
      refine ew_then ?_
      obtain ⟨v41, hF, hK41⟩ := thru_some hF
      refine cw_mid (fun a w => .inl () = v41 ∧ Fr 90 [(0, .int .i64 x0), (3, .pointer (some ⟨r35_b2, 0, none⟩))] a ∧ SAT w0 ([imm J32, pt r35_b2 #[.map (some r35_b4), .map (some r35_b6), .string r35_s1.twins_.e0, .string r35_s1.twins_.e1, .bool r35_s1.found_, .bool r35_s1.full_, .int .i64 r35_s1.sums_] 50, mpo kStr kStr r35_b4 r35_s1.table_, mpo kStr kStr r35_b6 r35_s1.notes_] ++ F0) w) ?_ ?_
      · refine cw_seq ?_
        refine cw_region ?_
        refine ow_vals 6 (j := 6) [0, 3, 33] [(0, .int .i64 x0), (3, .pointer (some ⟨r35_b2, 0, none⟩)), (33, .bool (r35.2 != 0))] rfl (by kernel_rfl) ?_
        refine ow_end rfl ?_
        refine ew_then ?_
        rcases if_some hF with ⟨h42, hF⟩ | ⟨h42, hF⟩
        · refine cw_cond_t rfl rfl h42 ?_
          refine cw_seq ?_
          refine cw_region ?_
          refine ow_vals 1 (j := 1) [2] [(2, .bool false)] rfl (by kernel_rfl) ?_
          refine ow_end rfl ?_
          refine ew_then ?_
          refine cw_ret ?_
          refine ew_then_ret ?_
          have hR := Option.some.inj hF
          subst hR
          have hR := hK41
          try dsimp only [Thru] at hR
          subst hR
          exact fin1 (H1 := [imm J32]) (fun w hs => sat_to [1, 1, 1, 0] 3 rfl hs) rfl (rr_tmp rfl) ⟨J32, rfl, rfl, h33⟩
        · refine cw_cond_f rfl rfl h42 ?_
          refine cw_skip ?_
          have hR := Option.some.inj hF
          exact fun a w hf hs => ⟨hR, hf.keep [0, 3], sat_to [0, 0, 0, 0] 0 rfl hs⟩
      · rintro a w ⟨hv, hf, hs⟩
        subst hv
        replace hF := hK41
        clear hK41
        try dsimp only [Thru] at hF
        revert a w
        show CW _ _ _ 90 [(0, .int .i64 x0), (3, .pointer (some ⟨r35_b2, 0, none⟩))] (SAT w0 ([imm J32, pt r35_b2 #[.map (some r35_b4), .map (some r35_b6), .string r35_s1.twins_.e0, .string r35_s1.twins_.e1, .bool r35_s1.found_, .bool r35_s1.full_, .int .i64 r35_s1.sums_] 50, mpo kStr kStr r35_b4 r35_s1.table_, mpo kStr kStr r35_b6 r35_s1.notes_] ++ F0))
        unfold F.law03_MillFull.r2 at hF
        refine cw_seq ?_
        refine cw_region ?_
        refine ow_vals 3 (j := 3) [0, 3, 5] [(0, .int .i64 x0), (3, .pointer (some ⟨r35_b2, 0, none⟩)), (5, .int .i64 (IntKind.i64.wrap (20000 + x0)))] rfl (by kernel_rfl) ?_
        refine ow_end rfl ?_
        refine ew_then ?_
        obtain ⟨v43, hF, hK43⟩ := bind_some hF
        refine cw_mid (fun a w => ∃ (l64 : List (ByteArray × ByteArray)), ∃ (l67 : List (ByteArray × ByteArray)), ∃ (s70 : ByteArray), ∃ (s71 : ByteArray), ∃ (x72 : Bool), ∃ (x73 : Bool), ∃ (x74 : Int), ∃ (b66 : Nat), ∃ (b69 : Nat), (l64, l67, s70, s71, x72, x73, x74) = v43 ∧ Fr 90 [(0, .int .i64 x0), (3, .pointer (some ⟨r35_b2, 0, none⟩))] a ∧ SAT w0 ([imm J32, pt r35_b2 #[.map (some b66), .map (some b69), .string s70, .string s71, .bool x72, .bool x73, .int .i64 x74] 50, mpo kStr kStr b66 l64, mpo kStr kStr b69 l67] ++ F0) w) ?_ ?_
        · refine cw_seq ?_
          refine cw_region ?_
          refine ow_vals 1 (j := 1) [0, 3, 5, 6] [(0, .int .i64 x0), (3, .pointer (some ⟨r35_b2, 0, none⟩)), (5, .int .i64 (IntKind.i64.wrap (20000 + x0))), (6, .int .i64 0)] rfl (by kernel_rfl) ?_
          refine ow_end rfl ?_
          refine ew_then ?_
          refine cw_block ?_
          refine fun a w hf hs => wp_rounds (fun k a w => ∃ (x45 : Int), ∃ (l46 : List (ByteArray × ByteArray)), ∃ (l49 : List (ByteArray × ByteArray)), ∃ (s52 : ByteArray), ∃ (s53 : ByteArray), ∃ (x54 : Bool), ∃ (x55 : Bool), ∃ (x56 : Int), ∃ (b48 : Nat), ∃ (b51 : Nat), iter (fun x => F.law03_MillFull.l3 x0 x.1 x.2.1 x.2.2.1 x.2.2.2.1 x.2.2.2.2.1 x.2.2.2.2.2.1 x.2.2.2.2.2.2.1 x.2.2.2.2.2.2.2) k (x45, l46, l49, s52, s53, x54, x55, x56) = some v43 ∧ Fr 90 [(0, .int .i64 x0), (3, .pointer (some ⟨r35_b2, 0, none⟩)), (5, .int .i64 (IntKind.i64.wrap (20000 + x0))), (6, .int .i64 x45)] a ∧ SAT w0 ([imm J32, pt r35_b2 #[.map (some b48), .map (some b51), .string s52, .string s53, .bool x54, .bool x55, .int .i64 x56] 50, mpo kStr kStr b48 l46, mpo kStr kStr b51 l49] ++ F0) w) ?_ FUEL a w ⟨0, r35_s1.table_, r35_s1.notes_, r35_s1.twins_.e0, r35_s1.twins_.e1, r35_s1.found_, r35_s1.full_, r35_s1.sums_, r35_b4, r35_b6, hF, hf.keep [0, 3, 5, 6], sat_to [0, 0, 0, 0] 0 rfl hs⟩
          clear hf hs
          clear a w hF
          rintro k a w ⟨x45, l46, l49, s52, s53, x54, x55, x56, b48, b51, hF2, hf, hs⟩
          obtain ⟨k, r44, rfl, hF, hL44⟩ := iter_some hF2
          clear hF2
          revert a w
          show CW _ _ _ 90 [(0, .int .i64 x0), (3, .pointer (some ⟨r35_b2, 0, none⟩)), (5, .int .i64 (IntKind.i64.wrap (20000 + x0))), (6, .int .i64 x45)] (SAT w0 ([imm J32, pt r35_b2 #[.map (some b48), .map (some b51), .string s52, .string s53, .bool x54, .bool x55, .int .i64 x56] 50, mpo kStr kStr b48 l46, mpo kStr kStr b51 l49] ++ F0))
          try dsimp only at hF
          unfold F.law03_MillFull.l3 at hF
          refine cw_seq ?_
          refine cw_seq ?_
          refine cw_region ?_
          refine ow_vals 3 (j := 3) [0, 3, 5, 6, 38] [(0, .int .i64 x0), (3, .pointer (some ⟨r35_b2, 0, none⟩)), (5, .int .i64 (IntKind.i64.wrap (20000 + x0))), (6, .int .i64 x45), (38, .bool (decide (x45 < (IntKind.i64.wrap (20000 + x0)))))] rfl (by kernel_rfl) ?_
          refine ow_end rfl ?_
          refine ew_then ?_
          rcases if_some hF with ⟨h57, hF⟩ | ⟨h57, hF⟩
          · refine cw_cond_t rfl rfl h57 ?_
            refine cw_skip ?_
            refine ew_then ?_
            refine cw_seq ?_
            refine cw_block ?_
            refine cw_region ?_
            refine ow_vals 9 (j := 9) [0, 3, 5, 6, 41, 44, 47, 49] [(0, .int .i64 x0), (3, .pointer (some ⟨r35_b2, 0, none⟩)), (5, .int .i64 (IntKind.i64.wrap (20000 + x0))), (6, .int .i64 x45), (41, .pointer (some ⟨r35_b2, 0, none⟩)), (44, .int .u8 (IntKind.u8.wrap (IntKind.i64.wrap (x45.tdiv 65536)))), (47, .int .u8 (IntKind.u8.wrap (IntKind.i64.wrap (x45.tdiv 256)))), (49, .int .u8 (IntKind.u8.wrap (x45)))] rfl (by kernel_rfl) ?_
            refine ow_pw rfl (pw_buildSlice (E := 5) (eInt .u8) ([IntKind.u8.wrap (IntKind.i64.wrap (x45.tdiv 65536)), IntKind.u8.wrap (IntKind.i64.wrap (x45.tdiv 256)), IntKind.u8.wrap (x45)] : List Int) rfl rfl rfl rfl rfl (by kernel_rfl) rfl (by kernel_rfl) rfl (by decide) rfl fun p58 => nw_ow ?_)
            refine ow_pw rfl (pw_quiet (v := .string (bstr ([IntKind.u8.wrap (IntKind.i64.wrap (x45.tdiv 65536)), IntKind.u8.wrap (IntKind.i64.wrap (x45.tdiv 256)), IntKind.u8.wrap (x45)] : List Int))) rfl rfl rfl rfl (q_bytes_str_own 0 rfl rfl (by kernel_rfl) (by kernel_rfl) rfl) (nw_ow ?_))
            obtain ⟨r60, h61, hF⟩ := bind_some hF
            refine ow_pw rfl (pw_call (F := [own (eInt .u8) 5 p58 3 ([IntKind.u8.wrap (IntKind.i64.wrap (x45.tdiv 65536)), IntKind.u8.wrap (IntKind.i64.wrap (x45.tdiv 256)), IntKind.u8.wrap (x45)] : List Int)] ++ F0) rfl rfl rfl rfl rfl rfl rfl (by kernel_rfl) (perm_of_pulls [1, 1, 1, 1] rfl) (c_mill_Mill_Sum _ (bstr ([IntKind.u8.wrap (IntKind.i64.wrap (x45.tdiv 65536)), IntKind.u8.wrap (IntKind.i64.wrap (x45.tdiv 256)), IntKind.u8.wrap (x45)] : List Int)) (⟨l46, l49, (⟨s52, s53⟩ : A2_ByteArray), x54, x55, x56⟩ : mill_Mill) b48 b51 r35_b2 r60 h61) ?_)
            rintro _ _ ⟨r60_b1, r60_b3, rfl, rfl⟩
            refine nw_H (H' := [imm J32, pt r35_b2 #[.map (some r60_b1), .map (some r60_b3), .string r60.2.twins_.e0, .string r60.2.twins_.e1, .bool r60.2.found_, .bool r60.2.full_, .int .i64 r60.2.sums_] 50, mpo kStr kStr r60_b1 r60.2.table_, mpo kStr kStr r60_b3 r60.2.notes_, own (eInt .u8) 5 p58 3 ([IntKind.u8.wrap (IntKind.i64.wrap (x45.tdiv 65536)), IntKind.u8.wrap (IntKind.i64.wrap (x45.tdiv 256)), IntKind.u8.wrap (x45)] : List Int)] ++ F0) rfl (nw_ow ?_)
            refine ow_end rfl ?_
            refine ew_blk ?_
            refine ew_then ?_
            refine cw_region ?_
            refine ow_vals 3 (j := 3) [0, 3, 5, 6] [(0, .int .i64 x0), (3, .pointer (some ⟨r35_b2, 0, none⟩)), (5, .int .i64 (IntKind.i64.wrap (20000 + x0))), (6, .int .i64 (IntKind.i64.wrap (x45 + 1)))] rfl (by kernel_rfl) ?_
            refine ow_end rfl ?_
            have hR := Option.some.inj hF
            subst hR
            have hR := hL44
            try dsimp only at hR
            exact fun a w hf hs => ⟨k, Nat.lt_succ_self k, IntKind.i64.wrap (x45 + 1), r60.2.table_, r60.2.notes_, r60.2.twins_.e0, r60.2.twins_.e1, r60.2.found_, r60.2.full_, r60.2.sums_, r60_b1, r60_b3, hR, hf.keep [0, 3, 5, 6], sat_to [4, 0, 0, 0, 0] 1 rfl hs⟩
          · refine cw_cond_f rfl rfl h57 ?_
            refine cw_exit ?_
            refine ew_then_exit ?_
            refine ew_then_exit ?_
            refine ew_blk_exit ?_
            have hR := Option.some.inj hF
            subst hR
            have hR := hL44
            try dsimp only at hR
            exact fun a w hf hs => ⟨l46, l49, s52, s53, x54, x55, x56, b48, b51, hR, hf.keep [0, 3], sat_to [0, 0, 0, 0] 0 rfl hs⟩
        · rintro a w ⟨l64, l67, s70, s71, x72, x73, x74, b66, b69, hv, hf, hs⟩
          subst hv
          replace hF := hK43
          clear hK43
          try dsimp only at hF
          revert a w
          show CW _ _ _ 90 [(0, .int .i64 x0), (3, .pointer (some ⟨r35_b2, 0, none⟩))] (SAT w0 ([imm J32, pt r35_b2 #[.map (some b66), .map (some b69), .string s70, .string s71, .bool x72, .bool x73, .int .i64 x74] 50, mpo kStr kStr b66 l64, mpo kStr kStr b69 l67] ++ F0))
          unfold F.law03_MillFull.r4 at hF
          refine cw_seq ?_
          refine cw_region ?_
          refine ow_vals 1 (j := 1) [0, 3, 54] [(0, .int .i64 x0), (3, .pointer (some ⟨r35_b2, 0, none⟩)), (54, .pointer (some ⟨r35_b2, 0, none⟩))] rfl (by kernel_rfl) ?_
          obtain ⟨r75, h76, hF⟩ := bind_some hF
          refine ow_pw rfl (pw_call (F := [] ++ F0) rfl rfl rfl rfl rfl rfl rfl (by kernel_rfl) (perm_of_pulls [0, 0, 0, 0] rfl) (c_mill_Mill_Twins _ (⟨l64, l67, (⟨s70, s71⟩ : A2_ByteArray), x72, x73, x74⟩ : mill_Mill) b66 b69 r35_b2 r75 h76) ?_)
          rintro _ _ ⟨rfl, rfl⟩
          refine nw_H (H' := [imm J32, pt r35_b2 #[.map (some b66), .map (some b69), .string ((⟨l64, l67, (⟨s70, s71⟩ : A2_ByteArray), x72, x73, x74⟩ : mill_Mill).twins_.e0), .string ((⟨l64, l67, (⟨s70, s71⟩ : A2_ByteArray), x72, x73, x74⟩ : mill_Mill).twins_.e1), .bool ((⟨l64, l67, (⟨s70, s71⟩ : A2_ByteArray), x72, x73, x74⟩ : mill_Mill).found_), .bool ((⟨l64, l67, (⟨s70, s71⟩ : A2_ByteArray), x72, x73, x74⟩ : mill_Mill).full_), .int .i64 ((⟨l64, l67, (⟨s70, s71⟩ : A2_ByteArray), x72, x73, x74⟩ : mill_Mill).sums_)] 50, mpo kStr kStr b66 ((⟨l64, l67, (⟨s70, s71⟩ : A2_ByteArray), x72, x73, x74⟩ : mill_Mill).table_), mpo kStr kStr b69 ((⟨l64, l67, (⟨s70, s71⟩ : A2_ByteArray), x72, x73, x74⟩ : mill_Mill).notes_)] ++ F0) rfl (nw_ow ?_)
          refine ow_vals 7 (j := 9) [0, 3, 9] [(0, .int .i64 x0), (3, .pointer (some ⟨r35_b2, 0, none⟩)), (9, .bool r75.2.2)] rfl (by kernel_rfl) ?_
          refine ow_end rfl ?_
          refine ew_then ?_
          refine cw_seq ?_
          refine cw_region ?_
          refine ow_vals 1 (j := 1) [0, 3, 9, 59] [(0, .int .i64 x0), (3, .pointer (some ⟨r35_b2, 0, none⟩)), (9, .bool r75.2.2), (59, .pointer (some ⟨r35_b2, 0, none⟩))] rfl (by kernel_rfl) ?_
          obtain ⟨r77, h78, hF⟩ := bind_some hF
          refine ow_pw rfl (pw_call (F := [] ++ F0) rfl rfl rfl rfl rfl rfl rfl (by kernel_rfl) (perm_of_pulls [0, 0, 0, 0] rfl) (c_mill_Mill_Full _ (⟨l64, l67, (⟨s70, s71⟩ : A2_ByteArray), x72, x73, x74⟩ : mill_Mill) b66 b69 r35_b2 r77 h78) ?_)
          rintro _ _ ⟨rfl, rfl⟩
          refine nw_H (H' := [imm J32, pt r35_b2 #[.map (some b66), .map (some b69), .string ((⟨l64, l67, (⟨s70, s71⟩ : A2_ByteArray), x72, x73, x74⟩ : mill_Mill).twins_.e0), .string ((⟨l64, l67, (⟨s70, s71⟩ : A2_ByteArray), x72, x73, x74⟩ : mill_Mill).twins_.e1), .bool ((⟨l64, l67, (⟨s70, s71⟩ : A2_ByteArray), x72, x73, x74⟩ : mill_Mill).found_), .bool ((⟨l64, l67, (⟨s70, s71⟩ : A2_ByteArray), x72, x73, x74⟩ : mill_Mill).full_), .int .i64 ((⟨l64, l67, (⟨s70, s71⟩ : A2_ByteArray), x72, x73, x74⟩ : mill_Mill).sums_)] 50, mpo kStr kStr b66 ((⟨l64, l67, (⟨s70, s71⟩ : A2_ByteArray), x72, x73, x74⟩ : mill_Mill).table_), mpo kStr kStr b69 ((⟨l64, l67, (⟨s70, s71⟩ : A2_ByteArray), x72, x73, x74⟩ : mill_Mill).notes_)] ++ F0) rfl (nw_ow ?_)
          refine ow_vals 1 (j := 3) [0, 3, 9, 10] [(0, .int .i64 x0), (3, .pointer (some ⟨r35_b2, 0, none⟩)), (9, .bool r75.2.2), (10, .bool r77)] rfl (by kernel_rfl) ?_
          refine ow_end rfl ?_
          refine ew_then ?_
          refine cw_seq ?_
          refine cw_region ?_
          refine ow_vals 1 (j := 1) [0, 3, 9, 10, 61] [(0, .int .i64 x0), (3, .pointer (some ⟨r35_b2, 0, none⟩)), (9, .bool r75.2.2), (10, .bool r77), (61, .pointer (some ⟨r35_b2, 0, none⟩))] rfl (by kernel_rfl) ?_
          obtain ⟨r79, h80, hF⟩ := bind_some hF
          refine ow_pw rfl (pw_call (F := [] ++ F0) rfl rfl rfl rfl rfl rfl rfl (by kernel_rfl) (perm_of_pulls [0, 0, 0, 0] rfl) (c_mill_Mill_Sum _ (ByteArray.mk #[116, 119, 105, 110]) (⟨l64, l67, (⟨s70, s71⟩ : A2_ByteArray), x72, x73, x74⟩ : mill_Mill) b66 b69 r35_b2 r79 h80) ?_)
          rintro _ _ ⟨r79_b1, r79_b3, rfl, rfl⟩
          refine nw_H (H' := [imm J32, pt r35_b2 #[.map (some r79_b1), .map (some r79_b3), .string r79.2.twins_.e0, .string r79.2.twins_.e1, .bool r79.2.found_, .bool r79.2.full_, .int .i64 r79.2.sums_] 50, mpo kStr kStr r79_b1 r79.2.table_, mpo kStr kStr r79_b3 r79.2.notes_] ++ F0) rfl (nw_ow ?_)
          refine ow_end rfl ?_
          refine ew_then ?_
          refine cw_seq ?_
          refine cw_region ?_
          refine ow_vals 1 (j := 1) [0, 9, 10, 64] [(0, .int .i64 x0), (9, .bool r75.2.2), (10, .bool r77), (64, .pointer (some ⟨r35_b2, 0, none⟩))] rfl (by kernel_rfl) ?_
          obtain ⟨r83, h84, hF⟩ := bind_some hF
          refine ow_pw rfl (pw_call (F := [] ++ F0) rfl rfl rfl rfl rfl rfl rfl (by kernel_rfl) (perm_of_pulls [0, 0, 0, 0] rfl) (c_mill_Mill_Twins _ r79.2 r79_b1 r79_b3 r35_b2 r83 h84) ?_)
          rintro _ _ ⟨rfl, rfl⟩
          refine nw_H (H' := [imm J32, pt r35_b2 #[.map (some r79_b1), .map (some r79_b3), .string r79.2.twins_.e0, .string r79.2.twins_.e1, .bool r79.2.found_, .bool r79.2.full_, .int .i64 r79.2.sums_] 50, mpo kStr kStr r79_b1 r79.2.table_, mpo kStr kStr r79_b3 r79.2.notes_] ++ F0) rfl (nw_ow ?_)
          refine ow_vals 7 (j := 9) [0, 9, 10, 11, 12, 13] [(0, .int .i64 x0), (9, .bool r75.2.2), (10, .bool r77), (11, .string r83.1), (12, .string r83.2.1), (13, .bool r83.2.2)] rfl (by kernel_rfl) ?_
          refine ow_end rfl ?_
          refine ew_then ?_
          refine cw_seq ?_
          refine cw_region ?_
          obtain ⟨r85, h86, hF⟩ := bind_some hF
          refine ow_pw rfl (pw_call (F := [pt r35_b2 #[.map (some r79_b1), .map (some r79_b3), .string r79.2.twins_.e0, .string r79.2.twins_.e1, .bool r79.2.found_, .bool r79.2.full_, .int .i64 r79.2.sums_] 50, mpo kStr kStr r79_b1 r79.2.table_, mpo kStr kStr r79_b3 r79.2.notes_] ++ F0) rfl rfl rfl rfl rfl rfl rfl (by kernel_rfl) (perm_of_pulls [0] rfl) (c_law03_awake _ r85 h86) ?_)
          rintro _ _ ⟨rfl, rfl⟩
          refine nw_H (H' := [imm J32, pt r35_b2 #[.map (some r79_b1), .map (some r79_b3), .string r79.2.twins_.e0, .string r79.2.twins_.e1, .bool r79.2.found_, .bool r79.2.full_, .int .i64 r79.2.sums_] 50, mpo kStr kStr r79_b1 r79.2.table_, mpo kStr kStr r79_b3 r79.2.notes_] ++ F0) rfl (nw_ow ?_)
          refine ow_vals 1 (j := 2) [0, 9, 10, 11, 12, 13, 70] [(0, .int .i64 x0), (9, .bool r75.2.2), (10, .bool r77), (11, .string r83.1), (12, .string r83.2.1), (13, .bool r83.2.2), (70, .bool r85)] rfl (by kernel_rfl) ?_
          rcases if_some hF with ⟨h87, hF⟩ | ⟨h87, hF⟩
          · refine ow_slots (L' := [(0, .int .i64 x0), (9, .bool r75.2.2), (10, .bool r77), (11, .string r83.1), (12, .string r83.2.1), (13, .bool r83.2.2), (70, .bool true)]) (by rw [h87]) ?_
            refine ow_vals 2 (j := 4) [0, 10, 11, 12, 13, 70, 72] [(0, .int .i64 x0), (10, .bool r77), (11, .string r83.1), (12, .string r83.2.1), (13, .bool r83.2.2), (70, .bool true), (72, .bool r75.2.2)] rfl (by kernel_rfl) ?_
            rcases if_some hF with ⟨h88, hF⟩ | ⟨h88, hF⟩
            · refine ow_slots (L' := [(0, .int .i64 x0), (10, .bool r77), (11, .string r83.1), (12, .string r83.2.1), (13, .bool r83.2.2), (70, .bool true), (72, .bool true)]) (by rw [h88]) ?_
              refine ow_vals 18 (j := 22) [2] [(2, .bool true)] rfl (by kernel_rfl) ?_
              refine ow_end rfl ?_
              refine ew_then ?_
              refine cw_ret ?_
              have hR := Option.some.inj hF
              subst hR
              exact fin1 (H1 := [imm J32]) (fun w hs => sat_to [1, 1, 1, 0] 3 rfl hs) rfl (rr_tmp rfl) ⟨J32, rfl, rfl, h33⟩
            · refine ow_slots (L' := [(0, .int .i64 x0), (10, .bool r77), (11, .string r83.1), (12, .string r83.2.1), (13, .bool r83.2.2), (70, .bool true), (72, .bool false)]) (by rw [h88]) ?_
              refine ow_vals 5 (j := 9) [11, 12, 13, 70, 72, 77] [(11, .string r83.1), (12, .string r83.2.1), (13, .bool r83.2.2), (70, .bool true), (72, .bool false), (77, .bool (r77 == (decide (x0 > 0))))] rfl (by kernel_rfl) ?_
              rcases if_some hF with ⟨h89, hF⟩ | ⟨h89, hF⟩
              · refine ow_slots (L' := [(11, .string r83.1), (12, .string r83.2.1), (13, .bool r83.2.2), (70, .bool true), (72, .bool false), (77, .bool true)]) (by rw [h89]) ?_
                refine ow_vals 3 (j := 12) [11, 12, 70, 72, 80] [(11, .string r83.1), (12, .string r83.2.1), (70, .bool true), (72, .bool false), (80, .bool r83.2.2)] rfl (by kernel_rfl) ?_
                rcases if_some hF with ⟨h90, hF⟩ | ⟨h90, hF⟩
                · refine ow_slots (L' := [(11, .string r83.1), (12, .string r83.2.1), (70, .bool true), (72, .bool false), (80, .bool true)]) (by rw [h90]) ?_
                  refine ow_vals 4 (j := 16) [12, 70, 72, 84] [(12, .string r83.2.1), (70, .bool true), (72, .bool false), (84, .bool (seqB r83.1 (ByteArray.mk #[0, 0, 0])))] rfl (by kernel_rfl) ?_
                  rcases if_some hF with ⟨h91, hF⟩ | ⟨h91, hF⟩
                  · refine ow_slots (L' := [(12, .string r83.2.1), (70, .bool true), (72, .bool false), (84, .bool true)]) (by rw [h91]) ?_
                    refine ow_vals 6 (j := 22) [2] [(2, .bool (seqB r83.2.1 (ByteArray.mk #[116, 119, 105, 110])))] rfl (by kernel_rfl) ?_
                    refine ow_end rfl ?_
                    refine ew_then ?_
                    refine cw_ret ?_
                    have hR := Option.some.inj hF
                    subst hR
                    exact fin1 (H1 := [imm J32]) (fun w hs => sat_to [1, 1, 1, 0] 3 rfl hs) rfl (rr_tmp rfl) ⟨J32, rfl, rfl, h33⟩
                  · refine ow_slots (L' := [(12, .string r83.2.1), (70, .bool true), (72, .bool false), (84, .bool false)]) (by rw [h91]) ?_
                    refine ow_vals 6 (j := 22) [2] [(2, .bool false)] rfl (by kernel_rfl) ?_
                    refine ow_end rfl ?_
                    refine ew_then ?_
                    refine cw_ret ?_
                    have hR := Option.some.inj hF
                    subst hR
                    exact fin1 (H1 := [imm J32]) (fun w hs => sat_to [1, 1, 1, 0] 3 rfl hs) rfl (rr_tmp rfl) ⟨J32, rfl, rfl, h33⟩
                · refine ow_slots (L' := [(11, .string r83.1), (12, .string r83.2.1), (70, .bool true), (72, .bool false), (80, .bool false)]) (by rw [h90]) ?_
                  refine ow_vals 10 (j := 22) [2] [(2, .bool false)] rfl (by kernel_rfl) ?_
                  refine ow_end rfl ?_
                  refine ew_then ?_
                  refine cw_ret ?_
                  have hR := Option.some.inj hF
                  subst hR
                  exact fin1 (H1 := [imm J32]) (fun w hs => sat_to [1, 1, 1, 0] 3 rfl hs) rfl (rr_tmp rfl) ⟨J32, rfl, rfl, h33⟩
              · refine ow_slots (L' := [(11, .string r83.1), (12, .string r83.2.1), (13, .bool r83.2.2), (70, .bool true), (72, .bool false), (77, .bool false)]) (by rw [h89]) ?_
                refine ow_vals 13 (j := 22) [2] [(2, .bool false)] rfl (by kernel_rfl) ?_
                refine ow_end rfl ?_
                refine ew_then ?_
                refine cw_ret ?_
                have hR := Option.some.inj hF
                subst hR
                exact fin1 (H1 := [imm J32]) (fun w hs => sat_to [1, 1, 1, 0] 3 rfl hs) rfl (rr_tmp rfl) ⟨J32, rfl, rfl, h33⟩
          · refine ow_slots (L' := [(0, .int .i64 x0), (9, .bool r75.2.2), (10, .bool r77), (11, .string r83.1), (12, .string r83.2.1), (13, .bool r83.2.2), (70, .bool false)]) (by rw [h87]) ?_
            refine ow_vals 20 (j := 22) [2] [(2, .bool false)] rfl (by kernel_rfl) ?_
            refine ow_end rfl ?_
            refine ew_then ?_
            refine cw_ret ?_
            have hR := Option.some.inj hF
            subst hR
            exact fin1 (H1 := [imm J32]) (fun w hs => sat_to [1, 1, 1, 0] 3 rfl hs) rfl (rr_tmp rfl) ⟨J32, rfl, rfl, h33⟩

end Go.Proofs.Ytgkkgmnomiokbaa
