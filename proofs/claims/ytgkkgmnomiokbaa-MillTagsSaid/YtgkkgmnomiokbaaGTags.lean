/- What the functions compute, and that the code computes it: printed by a program of this claim (wip/tools), for the group Tags. -/
import Derived.Test.YtgkkgmnomiokbaaGMill
namespace Go.Proofs.Ytgkkgmnomiokbaa
set_option linter.all false
open Go Go.RowKit Go.Fw
set_option linter.unusedVariables false

def F.law03_MillTags.r1 (r21 : (List mill_Entry)) (r23 : (Option mill_Mill) × Int) : Option (Bool) :=
  Option.bind (F.law03_right r21) (fun (r31 : Bool) => if (r23.2 == 1) == (!r31) then (Option.bind (F.law03_awake) (fun (r34 : Bool) => some (r34))) else (some (false)))
def F.law03_MillTags.r2 (r21 : (List mill_Entry)) (r23 : (Option mill_Mill) × Int) (x39 : Bool) : Option ((Unit) ⊕ (Bool)) :=
  if x39 then (Option.bind (F.law03_right r21) (fun (r41 : Bool) => if (r23.2 == 1) == (!r41) then (some (.inr (false))) else (some (.inr (false))))) else (some (.inl ()))
def F.law03_MillTags.r3 (x1 : ByteArray) (x2 : ByteArray) (r21 : (List mill_Entry)) (r23_s1 : mill_Mill) : Option (Bool) :=
  Option.bind (F.mill_Mill_Twins r23_s1) (fun (r44 : ByteArray × ByteArray × Bool) => Option.bind (F.mill_Mill_Tag x1 x2 r23_s1) (fun (r46 : ByteArray) => Option.bind (F.law03_tag r21 x1 x2) (fun (r48 : ByteArray) => if seqB r46 r48 then (Option.bind (F.mill_Mill_Sums r23_s1) (fun (r51 : Int) => if r51 == 0 then (if !r44.2.2 then (Option.bind (F.law03_awake) (fun (r55 : Bool) => some (r55))) else (some (false))) else (some (false)))) else (some (false)))))
def F.law03_MillTags (x0 : List mill_Entry) (x1 : ByteArray) (x2 : ByteArray) : Option Bool :=
  Option.bind (F.law03_few x0) (fun (r21 : (List mill_Entry)) => Option.bind (F.mill_With r21) (fun (r23 : (Option mill_Mill) × Int) => optC r23.1 (Option.bind (if r23.2 != 0 then (some (())) else (some (()))) (fun x => F.law03_MillTags.r1 r21 r23)) (fun (r23_s1 : mill_Mill) => thru (Option.bind (if r23.2 != 0 then (some (true)) else (some (false))) (fun x => F.law03_MillTags.r2 r21 r23 x)) (fun x => F.law03_MillTags.r3 x1 x2 r21 r23_s1))))
set_option maxRecDepth 100000 in
set_option maxHeartbeats 4000000 in
theorem c_law03_MillTags (I : Hl) (x0 : List mill_Entry) (x1 : ByteArray) (x2 : ByteArray) (p0 : Option Addr) (c0 : Nat) (res : Bool) (hF : F.law03_MillTags x0 x1 x2 = some res) (hr0 : ro I e_mill_Entry p0 c0 x0) : Tr Try.prog 3 [.slice p0 x0.length c0, .string x1, .string x2] [imm I] (fun r H' => r = .bool res ∧ H' = [imm I]) := by
  unfold F.law03_MillTags at hF
  refine tr_of_cw (fn := Try.f3) Try.func3 rfl (Nat.le_of_ble_eq_true rfl) 65 rfl fun F0 w0 => ?_
  refine cw_keep [0, 1, 2] (L' := [(0, .slice p0 x0.length c0), (1, .string x1), (2, .string x2)]) rfl ?_
  refine cw_state (S' := SAT w0 ([imm I] ++ F0)) (fun w hs => hs) ?_
  refine cw_seq ?_
  refine cw_region ?_
  refine ow_vals 1 (j := 1) [0, 1, 2] [(0, .slice p0 x0.length c0), (1, .string x1), (2, .string x2)] rfl (by kernel_rfl) ?_
  refine ow_end rfl ?_
  refine ew_then ?_
  refine cw_seq ?_
  refine cw_region ?_
  refine ow_vals 1 (j := 1) [1, 2, 12] [(1, .string x1), (2, .string x2), (12, .slice p0 x0.length c0)] rfl (by kernel_rfl) ?_
  obtain ⟨r21, h22, hF⟩ := bind_some hF
  refine ow_pw rfl (pw_call (F := [] ++ F0) rfl rfl rfl rfl rfl rfl rfl (by kernel_rfl) (perm_of_pulls [0] rfl) (c_law03_few _ x0 p0 c0 r21 h22 hr0) ?_)
  rintro _ _ ⟨r21_p1, r21_c2, rfl, rfl, r21_h3⟩
  refine nw_H (H' := [imm I] ++ F0) rfl (nw_ow ?_)
  refine ow_vals 1 (j := 3) [0, 1, 2] [(0, .slice r21_p1 r21.length r21_c2), (1, .string x1), (2, .string x2)] rfl (by kernel_rfl) ?_
  refine ow_end rfl ?_
  refine ew_then ?_
  refine cw_seq ?_
  refine cw_region ?_
  refine ow_vals 1 (j := 1) [0, 1, 2, 15] [(0, .slice r21_p1 r21.length r21_c2), (1, .string x1), (2, .string x2), (15, .slice r21_p1 r21.length r21_c2)] rfl (by kernel_rfl) ?_
  obtain ⟨r23, h24, hF⟩ := bind_some hF
  refine ow_pw rfl (pw_call (F := [] ++ F0) rfl rfl rfl rfl rfl rfl rfl (by kernel_rfl) (perm_of_pulls [0] rfl) (c_mill_With _ r21 r21_p1 r21_c2 r23 h24 r21_h3) ?_)
  rintro _ _ (⟨hO, rfl, rfl⟩ | ⟨r23_s1, r23_b2, r23_b4, r23_b6, hO, rfl, rfl⟩)
  · rw [hO] at hF
    try dsimp only [optC] at hF
    refine nw_H (H' := [imm I] ++ F0) rfl (nw_ow ?_)
    refine ow_vals 5 (j := 7) [0, 1, 2, 7, 8] [(0, .slice r21_p1 r21.length r21_c2), (1, .string x1), (2, .string x2), (7, .pointer none), (8, .int .i64 r23.2)] rfl (by kernel_rfl) ?_
    refine ow_end rfl ?_
    refine ew_then ?_
    refine cw_seq ?_
    obtain ⟨v29, hF, hK29⟩ := bind_some hF
    refine cw_mid (fun a w => () = v29 ∧ Fr 65 [(0, .slice r21_p1 r21.length r21_c2), (1, .string x1), (2, .string x2), (7, .pointer none), (8, .int .i64 r23.2), (24, .bool true)] a ∧ SAT w0 ([imm I] ++ F0) w) ?_ ?_
    · refine cw_region ?_
      refine ow_vals 3 (j := 3) [0, 1, 2, 7, 8, 21] [(0, .slice r21_p1 r21.length r21_c2), (1, .string x1), (2, .string x2), (7, .pointer none), (8, .int .i64 r23.2), (21, .bool (r23.2 != 0))] rfl (by kernel_rfl) ?_
      rcases if_some hF with ⟨h30, hF⟩ | ⟨h30, hF⟩
      · refine ow_slots (L' := [(0, .slice r21_p1 r21.length r21_c2), (1, .string x1), (2, .string x2), (7, .pointer none), (8, .int .i64 r23.2), (21, .bool true)]) (by rw [h30]) ?_
        refine ow_vals 3 (j := 6) [0, 1, 2, 7, 8, 24] [(0, .slice r21_p1 r21.length r21_c2), (1, .string x1), (2, .string x2), (7, .pointer none), (8, .int .i64 r23.2), (24, .bool true)] rfl (by kernel_rfl) ?_
        refine ow_end rfl ?_
        have hR := Option.some.inj hF
        exact fun a w hf hs => ⟨hR, hf.keep [0, 1, 2, 7, 8, 24], sat_to [0] 0 rfl hs⟩
      · refine ow_slots (L' := [(0, .slice r21_p1 r21.length r21_c2), (1, .string x1), (2, .string x2), (7, .pointer none), (8, .int .i64 r23.2), (21, .bool false)]) (by rw [h30]) ?_
        refine ow_vals 3 (j := 6) [0, 1, 2, 7, 8, 24] [(0, .slice r21_p1 r21.length r21_c2), (1, .string x1), (2, .string x2), (7, .pointer none), (8, .int .i64 r23.2), (24, .bool true)] rfl (by kernel_rfl) ?_
        refine ow_end rfl ?_
        have hR := Option.some.inj hF
        exact fun a w hf hs => ⟨hR, hf.keep [0, 1, 2, 7, 8, 24], sat_to [0] 0 rfl hs⟩
    · rintro a w ⟨hv, hf, hs⟩
      subst hv
      replace hF := hK29
      clear hK29
      try dsimp only at hF
      revert a w
      show CW _ _ _ 65 [(0, .slice r21_p1 r21.length r21_c2), (1, .string x1), (2, .string x2), (7, .pointer none), (8, .int .i64 r23.2), (24, .bool true)] (SAT w0 ([imm I] ++ F0))
      unfold F.law03_MillTags.r1 at hF
      refine cw_cond_t rfl rfl rfl ?_
      refine cw_seq ?_
      refine cw_region ?_
      refine ow_vals 3 (j := 3) [7, 26, 27] [(7, .pointer none), (26, .bool (r23.2 == 1)), (27, .slice r21_p1 r21.length r21_c2)] rfl (by kernel_rfl) ?_
      obtain ⟨r31, h32, hF⟩ := bind_some hF
      refine ow_pw rfl (pw_call (F := [] ++ F0) rfl rfl rfl rfl rfl rfl rfl (by kernel_rfl) (perm_of_pulls [0] rfl) (c_law03_right _ r21 r21_p1 r21_c2 r31 h32 r21_h3) ?_)
      rintro _ _ ⟨rfl, rfl⟩
      refine nw_H (H' := [imm I] ++ F0) rfl (nw_ow ?_)
      refine ow_vals 3 (j := 7) [7, 31] [(7, .pointer none), (31, .bool ((r23.2 == 1) == (!r31)))] rfl (by kernel_rfl) ?_
      rcases if_some hF with ⟨h33, hF⟩ | ⟨h33, hF⟩
      · refine ow_slots (L' := [(7, .pointer none), (31, .bool true)]) (by rw [h33]) ?_
        refine ow_vals 4 (j := 11) [35] [(35, .bool true)] rfl (by kernel_rfl) ?_
        obtain ⟨r34, h35, hF⟩ := bind_some hF
        refine ow_pw rfl (pw_call (F := [] ++ F0) rfl rfl rfl rfl rfl rfl rfl (by kernel_rfl) (perm_of_pulls [0] rfl) (c_law03_awake _ r34 h35) ?_)
        rintro _ _ ⟨rfl, rfl⟩
        refine nw_H (H' := [imm I] ++ F0) rfl (nw_ow ?_)
        refine ow_vals 2 (j := 14) [6] [(6, .bool r34)] rfl (by kernel_rfl) ?_
        refine ow_end rfl ?_
        refine ew_then ?_
        refine cw_ret ?_
        refine ew_then_ret ?_
        have hR := Option.some.inj hF
        subst hR
        exact fin1 (H1 := [imm I]) (fun w hs => sat_to [0] 0 rfl hs) rfl (rr_tmp rfl) ⟨rfl, rfl⟩
      · refine ow_slots (L' := [(7, .pointer none), (31, .bool false)]) (by rw [h33]) ?_
        refine ow_vals 7 (j := 14) [6] [(6, .bool false)] rfl (by kernel_rfl) ?_
        refine ow_end rfl ?_
        refine ew_then ?_
        refine cw_ret ?_
        refine ew_then_ret ?_
        have hR := Option.some.inj hF
        subst hR
        exact fin1 (H1 := [imm I]) (fun w hs => sat_to [0] 0 rfl hs) rfl (rr_tmp rfl) ⟨rfl, rfl⟩
  · rw [hO] at hF
    try dsimp only [optC] at hF
    refine nw_H (H' := [imm I, pt r23_b2 #[.map (some r23_b4), .map (some r23_b6), .string r23_s1.twins_.e0, .string r23_s1.twins_.e1, .bool r23_s1.found_, .bool r23_s1.full_, .int .i64 r23_s1.sums_] 50, mpo kStr kStr r23_b4 r23_s1.table_, mpo kStr kStr r23_b6 r23_s1.notes_] ++ F0) rfl (nw_ow ?_)
    refine ow_vals 5 (j := 7) [0, 1, 2, 7, 8] [(0, .slice r21_p1 r21.length r21_c2), (1, .string x1), (2, .string x2), (7, .pointer (some ⟨r23_b2, 0, none⟩)), (8, .int .i64 r23.2)] rfl (by kernel_rfl) ?_
    refine ow_end rfl ?_
    refine ew_then ?_
    obtain ⟨v36, hF, hK36⟩ := thru_some hF
    refine cw_mid (fun a w => .inl () = v36 ∧ Fr 65 [(0, .slice r21_p1 r21.length r21_c2), (1, .string x1), (2, .string x2), (7, .pointer (some ⟨r23_b2, 0, none⟩))] a ∧ SAT w0 ([imm I, pt r23_b2 #[.map (some r23_b4), .map (some r23_b6), .string r23_s1.twins_.e0, .string r23_s1.twins_.e1, .bool r23_s1.found_, .bool r23_s1.full_, .int .i64 r23_s1.sums_] 50, mpo kStr kStr r23_b4 r23_s1.table_, mpo kStr kStr r23_b6 r23_s1.notes_] ++ F0) w) ?_ ?_
    · obtain ⟨v37, hF, hK37⟩ := bind_some hF
      refine cw_mid (fun a w => ∃ (x39 : Bool), x39 = v37 ∧ Fr 65 [(0, .slice r21_p1 r21.length r21_c2), (1, .string x1), (2, .string x2), (7, .pointer (some ⟨r23_b2, 0, none⟩)), (8, .int .i64 r23.2), (24, .bool x39)] a ∧ SAT w0 ([imm I, pt r23_b2 #[.map (some r23_b4), .map (some r23_b6), .string r23_s1.twins_.e0, .string r23_s1.twins_.e1, .bool r23_s1.found_, .bool r23_s1.full_, .int .i64 r23_s1.sums_] 50, mpo kStr kStr r23_b4 r23_s1.table_, mpo kStr kStr r23_b6 r23_s1.notes_] ++ F0) w) ?_ ?_
      · refine cw_region ?_
        refine ow_vals 3 (j := 3) [0, 1, 2, 7, 8, 21] [(0, .slice r21_p1 r21.length r21_c2), (1, .string x1), (2, .string x2), (7, .pointer (some ⟨r23_b2, 0, none⟩)), (8, .int .i64 r23.2), (21, .bool (r23.2 != 0))] rfl (by kernel_rfl) ?_
        rcases if_some hF with ⟨h38, hF⟩ | ⟨h38, hF⟩
        · refine ow_slots (L' := [(0, .slice r21_p1 r21.length r21_c2), (1, .string x1), (2, .string x2), (7, .pointer (some ⟨r23_b2, 0, none⟩)), (8, .int .i64 r23.2), (21, .bool true)]) (by rw [h38]) ?_
          refine ow_vals 3 (j := 6) [0, 1, 2, 7, 8, 24] [(0, .slice r21_p1 r21.length r21_c2), (1, .string x1), (2, .string x2), (7, .pointer (some ⟨r23_b2, 0, none⟩)), (8, .int .i64 r23.2), (24, .bool true)] rfl (by kernel_rfl) ?_
          refine ow_end rfl ?_
          have hR := Option.some.inj hF
          exact fun a w hf hs => ⟨true, hR, hf.keep [0, 1, 2, 7, 8, 24], sat_to [0, 0, 0, 0] 0 rfl hs⟩
        · refine ow_slots (L' := [(0, .slice r21_p1 r21.length r21_c2), (1, .string x1), (2, .string x2), (7, .pointer (some ⟨r23_b2, 0, none⟩)), (8, .int .i64 r23.2), (21, .bool false)]) (by rw [h38]) ?_
          refine ow_vals 3 (j := 6) [0, 1, 2, 7, 8, 24] [(0, .slice r21_p1 r21.length r21_c2), (1, .string x1), (2, .string x2), (7, .pointer (some ⟨r23_b2, 0, none⟩)), (8, .int .i64 r23.2), (24, .bool false)] rfl (by kernel_rfl) ?_
          refine ow_end rfl ?_
          have hR := Option.some.inj hF
          exact fun a w hf hs => ⟨false, hR, hf.keep [0, 1, 2, 7, 8, 24], sat_to [0, 0, 0, 0] 0 rfl hs⟩
      · rintro a w ⟨x39, hv, hf, hs⟩
        subst hv
        replace hF := hK37
        clear hK37
        try dsimp only at hF
        revert a w
        show CW _ _ _ 65 [(0, .slice r21_p1 r21.length r21_c2), (1, .string x1), (2, .string x2), (7, .pointer (some ⟨r23_b2, 0, none⟩)), (8, .int .i64 r23.2), (24, .bool x39)] (SAT w0 ([imm I, pt r23_b2 #[.map (some r23_b4), .map (some r23_b6), .string r23_s1.twins_.e0, .string r23_s1.twins_.e1, .bool r23_s1.found_, .bool r23_s1.full_, .int .i64 r23_s1.sums_] 50, mpo kStr kStr r23_b4 r23_s1.table_, mpo kStr kStr r23_b6 r23_s1.notes_] ++ F0))
        unfold F.law03_MillTags.r2 at hF
        rcases if_some hF with ⟨h40, hF⟩ | ⟨h40, hF⟩
        · refine cw_cond_t rfl rfl h40 ?_
          refine cw_seq ?_
          refine cw_region ?_
          refine ow_vals 3 (j := 3) [7, 26, 27] [(7, .pointer (some ⟨r23_b2, 0, none⟩)), (26, .bool (r23.2 == 1)), (27, .slice r21_p1 r21.length r21_c2)] rfl (by kernel_rfl) ?_
          obtain ⟨r41, h42, hF⟩ := bind_some hF
          refine ow_pw rfl (pw_call (F := [pt r23_b2 #[.map (some r23_b4), .map (some r23_b6), .string r23_s1.twins_.e0, .string r23_s1.twins_.e1, .bool r23_s1.found_, .bool r23_s1.full_, .int .i64 r23_s1.sums_] 50, mpo kStr kStr r23_b4 r23_s1.table_, mpo kStr kStr r23_b6 r23_s1.notes_] ++ F0) rfl rfl rfl rfl rfl rfl rfl (by kernel_rfl) (perm_of_pulls [0] rfl) (c_law03_right _ r21 r21_p1 r21_c2 r41 h42 r21_h3) ?_)
          rintro _ _ ⟨rfl, rfl⟩
          refine nw_H (H' := [imm I, pt r23_b2 #[.map (some r23_b4), .map (some r23_b6), .string r23_s1.twins_.e0, .string r23_s1.twins_.e1, .bool r23_s1.found_, .bool r23_s1.full_, .int .i64 r23_s1.sums_] 50, mpo kStr kStr r23_b4 r23_s1.table_, mpo kStr kStr r23_b6 r23_s1.notes_] ++ F0) rfl (nw_ow ?_)
          refine ow_vals 3 (j := 7) [7, 31] [(7, .pointer (some ⟨r23_b2, 0, none⟩)), (31, .bool ((r23.2 == 1) == (!r41)))] rfl (by kernel_rfl) ?_
          rcases if_some hF with ⟨h43, hF⟩ | ⟨h43, hF⟩
          · refine ow_slots (L' := [(7, .pointer (some ⟨r23_b2, 0, none⟩)), (31, .bool true)]) (by rw [h43]) ?_
            refine ow_vals 7 (j := 14) [6] [(6, .bool false)] rfl (by kernel_rfl) ?_
            refine ow_end rfl ?_
            refine ew_then ?_
            refine cw_ret ?_
            refine ew_then_ret ?_
            have hR := Option.some.inj hF
            subst hR
            have hR := hK36
            try dsimp only [Thru] at hR
            subst hR
            exact fin1 (H1 := [imm I]) (fun w hs => sat_to [1, 1, 1, 0] 3 rfl hs) rfl (rr_tmp rfl) ⟨rfl, rfl⟩
          · refine ow_slots (L' := [(7, .pointer (some ⟨r23_b2, 0, none⟩)), (31, .bool false)]) (by rw [h43]) ?_
            refine ow_vals 7 (j := 14) [6] [(6, .bool false)] rfl (by kernel_rfl) ?_
            refine ow_end rfl ?_
            refine ew_then ?_
            refine cw_ret ?_
            refine ew_then_ret ?_
            have hR := Option.some.inj hF
            subst hR
            have hR := hK36
            try dsimp only [Thru] at hR
            subst hR
            exact fin1 (H1 := [imm I]) (fun w hs => sat_to [1, 1, 1, 0] 3 rfl hs) rfl (rr_tmp rfl) ⟨rfl, rfl⟩
        · refine cw_cond_f rfl rfl h40 ?_
          refine cw_skip ?_
          have hR := Option.some.inj hF
          exact fun a w hf hs => ⟨hR, hf.keep [0, 1, 2, 7], sat_to [0, 0, 0, 0] 0 rfl hs⟩
    · rintro a w ⟨hv, hf, hs⟩
      subst hv
      replace hF := hK36
      clear hK36
      try dsimp only [Thru] at hF
      revert a w
      show CW _ _ _ 65 [(0, .slice r21_p1 r21.length r21_c2), (1, .string x1), (2, .string x2), (7, .pointer (some ⟨r23_b2, 0, none⟩))] (SAT w0 ([imm I, pt r23_b2 #[.map (some r23_b4), .map (some r23_b6), .string r23_s1.twins_.e0, .string r23_s1.twins_.e1, .bool r23_s1.found_, .bool r23_s1.full_, .int .i64 r23_s1.sums_] 50, mpo kStr kStr r23_b4 r23_s1.table_, mpo kStr kStr r23_b6 r23_s1.notes_] ++ F0))
      unfold F.law03_MillTags.r3 at hF
      refine cw_seq ?_
      refine cw_region ?_
      refine ow_vals 1 (j := 1) [0, 1, 2, 7, 39] [(0, .slice r21_p1 r21.length r21_c2), (1, .string x1), (2, .string x2), (7, .pointer (some ⟨r23_b2, 0, none⟩)), (39, .pointer (some ⟨r23_b2, 0, none⟩))] rfl (by kernel_rfl) ?_
      obtain ⟨r44, h45, hF⟩ := bind_some hF
      refine ow_pw rfl (pw_call (F := [] ++ F0) rfl rfl rfl rfl rfl rfl rfl (by kernel_rfl) (perm_of_pulls [0, 0, 0, 0] rfl) (c_mill_Mill_Twins _ r23_s1 r23_b4 r23_b6 r23_b2 r44 h45) ?_)
      rintro _ _ ⟨rfl, rfl⟩
      refine nw_H (H' := [imm I, pt r23_b2 #[.map (some r23_b4), .map (some r23_b6), .string r23_s1.twins_.e0, .string r23_s1.twins_.e1, .bool r23_s1.found_, .bool r23_s1.full_, .int .i64 r23_s1.sums_] 50, mpo kStr kStr r23_b4 r23_s1.table_, mpo kStr kStr r23_b6 r23_s1.notes_] ++ F0) rfl (nw_ow ?_)
      refine ow_vals 7 (j := 9) [0, 1, 2, 7, 11] [(0, .slice r21_p1 r21.length r21_c2), (1, .string x1), (2, .string x2), (7, .pointer (some ⟨r23_b2, 0, none⟩)), (11, .bool r44.2.2)] rfl (by kernel_rfl) ?_
      refine ow_end rfl ?_
      refine ew_then ?_
      refine cw_seq ?_
      refine cw_region ?_
      refine ow_vals 3 (j := 3) [0, 1, 2, 7, 11, 44, 45, 46] [(0, .slice r21_p1 r21.length r21_c2), (1, .string x1), (2, .string x2), (7, .pointer (some ⟨r23_b2, 0, none⟩)), (11, .bool r44.2.2), (44, .pointer (some ⟨r23_b2, 0, none⟩)), (45, .string x1), (46, .string x2)] rfl (by kernel_rfl) ?_
      obtain ⟨r46, h47, hF⟩ := bind_some hF
      refine ow_pw rfl (pw_call (F := [] ++ F0) rfl rfl rfl rfl rfl rfl rfl (by kernel_rfl) (perm_of_pulls [0, 0, 0, 0] rfl) (c_mill_Mill_Tag _ x1 x2 r23_s1 r23_b4 r23_b6 r23_b2 r46 h47) ?_)
      rintro _ _ ⟨rfl, rfl⟩
      refine nw_H (H' := [imm I, pt r23_b2 #[.map (some r23_b4), .map (some r23_b6), .string r23_s1.twins_.e0, .string r23_s1.twins_.e1, .bool r23_s1.found_, .bool r23_s1.full_, .int .i64 r23_s1.sums_] 50, mpo kStr kStr r23_b4 r23_s1.table_, mpo kStr kStr r23_b6 r23_s1.notes_] ++ F0) rfl (nw_ow ?_)
      refine ow_vals 3 (j := 7) [7, 11, 47, 48, 49, 50] [(7, .pointer (some ⟨r23_b2, 0, none⟩)), (11, .bool r44.2.2), (47, .string r46), (48, .slice r21_p1 r21.length r21_c2), (49, .string x1), (50, .string x2)] rfl (by kernel_rfl) ?_
      obtain ⟨r48, h49, hF⟩ := bind_some hF
      refine ow_pw rfl (pw_call (F := [pt r23_b2 #[.map (some r23_b4), .map (some r23_b6), .string r23_s1.twins_.e0, .string r23_s1.twins_.e1, .bool r23_s1.found_, .bool r23_s1.full_, .int .i64 r23_s1.sums_] 50, mpo kStr kStr r23_b4 r23_s1.table_, mpo kStr kStr r23_b6 r23_s1.notes_] ++ F0) rfl rfl rfl rfl rfl rfl rfl (by kernel_rfl) (perm_of_pulls [0] rfl) (c_law03_tag _ r21 x1 x2 r21_p1 r21_c2 r48 h49 r21_h3) ?_)
      rintro _ _ ⟨rfl, rfl⟩
      refine nw_H (H' := [imm I, pt r23_b2 #[.map (some r23_b4), .map (some r23_b6), .string r23_s1.twins_.e0, .string r23_s1.twins_.e1, .bool r23_s1.found_, .bool r23_s1.full_, .int .i64 r23_s1.sums_] 50, mpo kStr kStr r23_b4 r23_s1.table_, mpo kStr kStr r23_b6 r23_s1.notes_] ++ F0) rfl (nw_ow ?_)
      refine ow_vals 2 (j := 10) [7, 11, 53] [(7, .pointer (some ⟨r23_b2, 0, none⟩)), (11, .bool r44.2.2), (53, .bool (seqB r46 r48))] rfl (by kernel_rfl) ?_
      rcases if_some hF with ⟨h50, hF⟩ | ⟨h50, hF⟩
      · refine ow_slots (L' := [(7, .pointer (some ⟨r23_b2, 0, none⟩)), (11, .bool r44.2.2), (53, .bool true)]) (by rw [h50]) ?_
        refine ow_vals 1 (j := 11) [11, 53, 54] [(11, .bool r44.2.2), (53, .bool true), (54, .pointer (some ⟨r23_b2, 0, none⟩))] rfl (by kernel_rfl) ?_
        obtain ⟨r51, h52, hF⟩ := bind_some hF
        refine ow_pw rfl (pw_call (F := [] ++ F0) rfl rfl rfl rfl rfl rfl rfl (by kernel_rfl) (perm_of_pulls [0, 0, 0, 0] rfl) (c_mill_Mill_Sums _ r23_s1 r23_b4 r23_b6 r23_b2 r51 h52) ?_)
        rintro _ _ ⟨rfl, rfl⟩
        refine nw_H (H' := [imm I, pt r23_b2 #[.map (some r23_b4), .map (some r23_b6), .string r23_s1.twins_.e0, .string r23_s1.twins_.e1, .bool r23_s1.found_, .bool r23_s1.full_, .int .i64 r23_s1.sums_] 50, mpo kStr kStr r23_b4 r23_s1.table_, mpo kStr kStr r23_b6 r23_s1.notes_] ++ F0) rfl (nw_ow ?_)
        refine ow_vals 3 (j := 15) [11, 58] [(11, .bool r44.2.2), (58, .bool (r51 == 0))] rfl (by kernel_rfl) ?_
        rcases if_some hF with ⟨h53, hF⟩ | ⟨h53, hF⟩
        · refine ow_slots (L' := [(11, .bool r44.2.2), (58, .bool true)]) (by rw [h53]) ?_
          refine ow_vals 4 (j := 19) [62] [(62, .bool (!r44.2.2))] rfl (by kernel_rfl) ?_
          rcases if_some hF with ⟨h54, hF⟩ | ⟨h54, hF⟩
          · refine ow_slots (L' := [(62, .bool true)]) (by rw [h54]) ?_
            obtain ⟨r55, h56, hF⟩ := bind_some hF
            refine ow_pw rfl (pw_call (F := [pt r23_b2 #[.map (some r23_b4), .map (some r23_b6), .string r23_s1.twins_.e0, .string r23_s1.twins_.e1, .bool r23_s1.found_, .bool r23_s1.full_, .int .i64 r23_s1.sums_] 50, mpo kStr kStr r23_b4 r23_s1.table_, mpo kStr kStr r23_b6 r23_s1.notes_] ++ F0) rfl rfl rfl rfl rfl rfl rfl (by kernel_rfl) (perm_of_pulls [0] rfl) (c_law03_awake _ r55 h56) ?_)
            rintro _ _ ⟨rfl, rfl⟩
            refine nw_H (H' := [imm I, pt r23_b2 #[.map (some r23_b4), .map (some r23_b6), .string r23_s1.twins_.e0, .string r23_s1.twins_.e1, .bool r23_s1.found_, .bool r23_s1.full_, .int .i64 r23_s1.sums_] 50, mpo kStr kStr r23_b4 r23_s1.table_, mpo kStr kStr r23_b6 r23_s1.notes_] ++ F0) rfl (nw_ow ?_)
            refine ow_vals 2 (j := 22) [6] [(6, .bool r55)] rfl (by kernel_rfl) ?_
            refine ow_end rfl ?_
            refine ew_then ?_
            refine cw_ret ?_
            have hR := Option.some.inj hF
            subst hR
            exact fin1 (H1 := [imm I]) (fun w hs => sat_to [1, 1, 1, 0] 3 rfl hs) rfl (rr_tmp rfl) ⟨rfl, rfl⟩
          · refine ow_slots (L' := [(62, .bool false)]) (by rw [h54]) ?_
            refine ow_vals 3 (j := 22) [6] [(6, .bool false)] rfl (by kernel_rfl) ?_
            refine ow_end rfl ?_
            refine ew_then ?_
            refine cw_ret ?_
            have hR := Option.some.inj hF
            subst hR
            exact fin1 (H1 := [imm I]) (fun w hs => sat_to [1, 1, 1, 0] 3 rfl hs) rfl (rr_tmp rfl) ⟨rfl, rfl⟩
        · refine ow_slots (L' := [(11, .bool r44.2.2), (58, .bool false)]) (by rw [h53]) ?_
          refine ow_vals 7 (j := 22) [6] [(6, .bool false)] rfl (by kernel_rfl) ?_
          refine ow_end rfl ?_
          refine ew_then ?_
          refine cw_ret ?_
          have hR := Option.some.inj hF
          subst hR
          exact fin1 (H1 := [imm I]) (fun w hs => sat_to [1, 1, 1, 0] 3 rfl hs) rfl (rr_tmp rfl) ⟨rfl, rfl⟩
      · refine ow_slots (L' := [(7, .pointer (some ⟨r23_b2, 0, none⟩)), (11, .bool r44.2.2), (53, .bool false)]) (by rw [h50]) ?_
        refine ow_vals 12 (j := 22) [6] [(6, .bool false)] rfl (by kernel_rfl) ?_
        refine ow_end rfl ?_
        refine ew_then ?_
        refine cw_ret ?_
        have hR := Option.some.inj hF
        subst hR
        exact fin1 (H1 := [imm I]) (fun w hs => sat_to [1, 1, 1, 0] 3 rfl hs) rfl (rr_tmp rfl) ⟨rfl, rfl⟩

end Go.Proofs.Ytgkkgmnomiokbaa
