/- What the functions compute, and that the code computes it: printed by a program of this claim (wip/tools), for the group Streams. -/
import Derived.Test.YtgkkgmnomiokbaaGMill
namespace Go.Proofs.Ytgkkgmnomiokbaa
set_option linter.all false
open Go Go.RowKit Go.Fw
set_option linter.unusedVariables false

def F.law03_MillStreams.r2 (r21 : (List mill_Entry)) (r27 : (Option mill_Mill) × Int) : Option (Bool) :=
  Option.bind (F.law03_right r21) (fun (r35 : Bool) => if (r27.2 == 1) == (!r35) then (Option.bind (F.law03_awake) (fun (r38 : Bool) => some (r38))) else (some (false)))
def F.law03_MillStreams.r3 (r21 : (List mill_Entry)) (r27 : (Option mill_Mill) × Int) (x43 : Bool) : Option ((Unit) ⊕ (Bool)) :=
  if x43 then (Option.bind (F.law03_right r21) (fun (r45 : Bool) => if (r27.2 == 1) == (!r45) then (Option.bind (F.law03_awake) (fun (r48 : Bool) => some (.inr (r48)))) else (some (.inr (false))))) else (some (.inl ()))
def F.law03_MillStreams.l5 (x1 : ByteArray) (x2 : ByteArray) (r21 : (List mill_Entry)) (s26 : ByteArray) (s52 : ByteArray) (x53 : Int) : Option ((ByteArray × Int) ⊕ (ByteArray)) :=
  if decide ((s52.size : Int) < (s26.size : Int)) then (chk (x2.size + (bstr ([IntKind.u8.wrap (IntKind.i64.wrap (x53.tdiv 256)), IntKind.u8.wrap (x53.tmod 256)] : List Int)).size ≤ 9223372036854775807) (Option.bind (F.law03_tag r21 x1 (x2 ++ (bstr ([IntKind.u8.wrap (IntKind.i64.wrap (x53.tdiv 256)), IntKind.u8.wrap (x53.tmod 256)] : List Int)))) (fun (r58 : ByteArray) => chk (s52.size + r58.size ≤ 9223372036854775807) (some (.inl (s52 ++ r58, IntKind.i64.wrap (x53 + 1))))))) else (some (.inr (s52)))
def F.law03_MillStreams.l7 (s26 : ByteArray) (s61 : ByteArray) (l69 : List Int) (x73 : Int) : Option (((List Int) × Int) ⊕ ((List Int))) :=
  if decide (x73 < (l69.length : Int)) then (Option.bind (at_ l69 x73) (fun (y75 : Int) => chk (0 ≤ x73 ∧ x73 < ((s61.extract (0 : Int).toNat (s26.size : Int).toNat).size : Int)) (Option.bind (at_ l69 x73) (fun (y78 : Int) => some (.inl (l69.set x73.toNat (ixor .u8 y75 (bt (s61.extract (0 : Int).toNat (s26.size : Int).toNat) x73)), IntKind.i64.wrap (x73 + 1))))))) else (some (.inr (l69)))
def F.law03_MillStreams.r8 (x1 : ByteArray) (x2 : ByteArray) (s26 : ByteArray) (r27_s1 : mill_Mill) (s61 : ByteArray) (l80 : List Int) : Option (Bool) :=
  Option.bind (F.mill_Mill_Veil x1 x2 s26 r27_s1) (fun (r84 : ByteArray) => Option.bind (F.mill_Mill_Stream x1 x2 (s26.size : Int) r27_s1) (fun (r86 : ByteArray) => if seqB r86 (s61.extract (0 : Int).toNat (s26.size : Int).toNat) then (if seqB r84 (bstr l80) then (Option.bind (F.mill_Mill_Veil x1 x2 r84 r27_s1) (fun (r90 : ByteArray) => if seqB r90 s26 then (Option.bind (F.law03_awake) (fun (r93 : Bool) => some (r93))) else (some (false)))) else (some (false))) else (some (false))))
def F.law03_MillStreams.r6 (x1 : ByteArray) (x2 : ByteArray) (s26 : ByteArray) (r27_s1 : mill_Mill) (s61 : ByteArray) : Option (Bool) :=
  chk (0 ≤ (0 : Int) ∧ (0 : Int) ≤ (s26.size : Int) ∧ (s26.size : Int) ≤ (s61.size : Int)) (chk (s26.size ≤ maxLen) (Option.bind (iter (fun x => F.law03_MillStreams.l7 s26 s61 x.1 x.2) FUEL (sbytes s26, 0)) (fun x => F.law03_MillStreams.r8 x1 x2 s26 r27_s1 s61 x)))
def F.law03_MillStreams.r4 (x1 : ByteArray) (x2 : ByteArray) (r21 : (List mill_Entry)) (s26 : ByteArray) (r27_s1 : mill_Mill) : Option (Bool) :=
  Option.bind (iter (fun x => F.law03_MillStreams.l5 x1 x2 r21 s26 x.1 x.2) FUEL ((ByteArray.mk #[]), 0)) (fun x => F.law03_MillStreams.r6 x1 x2 s26 r27_s1 x)
def F.law03_MillStreams.r1 (x1 : ByteArray) (x2 : ByteArray) (r21 : (List mill_Entry)) (s26 : ByteArray) : Option (Bool) :=
  Option.bind (F.mill_With r21) (fun (r27 : (Option mill_Mill) × Int) => optC r27.1 (Option.bind (if r27.2 != 0 then (some (())) else (some (()))) (fun x => F.law03_MillStreams.r2 r21 r27)) (fun (r27_s1 : mill_Mill) => thru (Option.bind (if r27.2 != 0 then (some (true)) else (some (false))) (fun x => F.law03_MillStreams.r3 r21 r27 x)) (fun x => F.law03_MillStreams.r4 x1 x2 r21 s26 r27_s1)))
def F.law03_MillStreams (x0 : List mill_Entry) (x1 : ByteArray) (x2 : ByteArray) (x3 : ByteArray) : Option Bool :=
  Option.bind (F.law03_few x0) (fun (r21 : (List mill_Entry)) => Option.bind (if decide ((x3.size : Int) > 300) then (chk (0 ≤ (0 : Int) ∧ (0 : Int) ≤ (300 : Int) ∧ (300 : Int) ≤ (x3.size : Int)) (some ((x3.extract (0 : Int).toNat (300 : Int).toNat)))) else (some (x3))) (fun x => F.law03_MillStreams.r1 x1 x2 r21 x))
set_option maxRecDepth 100000 in
set_option maxHeartbeats 4000000 in
theorem c_law03_MillStreams (I : Hl) (x0 : List mill_Entry) (x1 : ByteArray) (x2 : ByteArray) (x3 : ByteArray) (p0 : Option Addr) (c0 : Nat) (res : Bool) (hF : F.law03_MillStreams x0 x1 x2 x3 = some res) (hr0 : ro I e_mill_Entry p0 c0 x0) : Tr Try.prog 4 [.slice p0 x0.length c0, .string x1, .string x2, .string x3] [imm I] (fun r H' => r = .bool res ∧ H' = [imm I]) := by
  unfold F.law03_MillStreams at hF
  refine tr_of_cw (fn := Try.f4) Try.func4 rfl (Nat.le_of_ble_eq_true rfl) 119 rfl fun F0 w0 => ?_
  refine cw_keep [0, 1, 2, 3] (L' := [(0, .slice p0 x0.length c0), (1, .string x1), (2, .string x2), (3, .string x3)]) rfl ?_
  refine cw_state (S' := SAT w0 ([imm I] ++ F0)) (fun w hs => hs) ?_
  refine cw_seq ?_
  refine cw_region ?_
  refine ow_vals 1 (j := 1) [0, 1, 2, 3] [(0, .slice p0 x0.length c0), (1, .string x1), (2, .string x2), (3, .string x3)] rfl (by kernel_rfl) ?_
  refine ow_end rfl ?_
  refine ew_then ?_
  refine cw_seq ?_
  refine cw_region ?_
  refine ow_vals 1 (j := 1) [1, 2, 3, 16] [(1, .string x1), (2, .string x2), (3, .string x3), (16, .slice p0 x0.length c0)] rfl (by kernel_rfl) ?_
  obtain ⟨r21, h22, hF⟩ := bind_some hF
  refine ow_pw rfl (pw_call (F := [] ++ F0) rfl rfl rfl rfl rfl rfl rfl (by kernel_rfl) (perm_of_pulls [0] rfl) (c_law03_few _ x0 p0 c0 r21 h22 hr0) ?_)
  rintro _ _ ⟨r21_p1, r21_c2, rfl, rfl, r21_h3⟩
  refine nw_H (H' := [imm I] ++ F0) rfl (nw_ow ?_)
  refine ow_vals 1 (j := 3) [0, 1, 2, 3] [(0, .slice r21_p1 r21.length r21_c2), (1, .string x1), (2, .string x2), (3, .string x3)] rfl (by kernel_rfl) ?_
  refine ow_end rfl ?_
  refine ew_then ?_
  obtain ⟨v23, hF, hK23⟩ := bind_some hF
  refine cw_mid (fun a w => ∃ (s26 : ByteArray), s26 = v23 ∧ Fr 119 [(0, .slice r21_p1 r21.length r21_c2), (1, .string x1), (2, .string x2), (3, .string s26)] a ∧ SAT w0 ([imm I] ++ F0) w) ?_ ?_
  · refine cw_seq ?_
    refine cw_region ?_
    refine ow_vals 3 (j := 3) [0, 1, 2, 3, 20] [(0, .slice r21_p1 r21.length r21_c2), (1, .string x1), (2, .string x2), (3, .string x3), (20, .bool (decide ((x3.size : Int) > 300)))] rfl (by kernel_rfl) ?_
    refine ow_end rfl ?_
    refine ew_then ?_
    rcases if_some hF with ⟨h24, hF⟩ | ⟨h24, hF⟩
    · refine cw_cond_t rfl rfl h24 ?_
      refine cw_region ?_
      refine ow_vals 1 (j := 1) [0, 1, 2, 21] [(0, .slice r21_p1 r21.length r21_c2), (1, .string x1), (2, .string x2), (21, .string x3)] rfl (by kernel_rfl) ?_
      obtain ⟨h25, hF⟩ := chk_some hF
      refine ow_pw rfl (pw_quiet (v := .string (x3.extract (0 : Int).toNat (300 : Int).toNat)) rfl rfl rfl rfl (q_slice_str rfl (by kernel_rfl) rfl rfl rfl h25.1 h25.2.1 h25.2.2) (nw_ow ?_))
      refine ow_vals 1 (j := 3) [0, 1, 2, 3] [(0, .slice r21_p1 r21.length r21_c2), (1, .string x1), (2, .string x2), (3, .string (x3.extract (0 : Int).toNat (300 : Int).toNat))] rfl (by kernel_rfl) ?_
      refine ow_end rfl ?_
      have hR := Option.some.inj hF
      exact fun a w hf hs => ⟨x3.extract (0 : Int).toNat (300 : Int).toNat, hR, hf.keep [0, 1, 2, 3], sat_to [0] 0 rfl hs⟩
    · refine cw_cond_f rfl rfl h24 ?_
      refine cw_skip ?_
      have hR := Option.some.inj hF
      exact fun a w hf hs => ⟨x3, hR, hf.keep [0, 1, 2, 3], sat_to [0] 0 rfl hs⟩
  · rintro a w ⟨s26, hv, hf, hs⟩
    subst hv
    replace hF := hK23
    clear hK23
    try dsimp only at hF
    revert a w
    show CW _ _ _ 119 [(0, .slice r21_p1 r21.length r21_c2), (1, .string x1), (2, .string x2), (3, .string s26)] (SAT w0 ([imm I] ++ F0))
    unfold F.law03_MillStreams.r1 at hF
    refine cw_seq ?_
    refine cw_region ?_
    refine ow_vals 1 (j := 1) [0, 1, 2, 3, 24] [(0, .slice r21_p1 r21.length r21_c2), (1, .string x1), (2, .string x2), (3, .string s26), (24, .slice r21_p1 r21.length r21_c2)] rfl (by kernel_rfl) ?_
    obtain ⟨r27, h28, hF⟩ := bind_some hF
    refine ow_pw rfl (pw_call (F := [] ++ F0) rfl rfl rfl rfl rfl rfl rfl (by kernel_rfl) (perm_of_pulls [0] rfl) (c_mill_With _ r21 r21_p1 r21_c2 r27 h28 r21_h3) ?_)
    rintro _ _ (⟨hO, rfl, rfl⟩ | ⟨r27_s1, r27_b2, r27_b4, r27_b6, hO, rfl, rfl⟩)
    · rw [hO] at hF
      try dsimp only [optC] at hF
      refine nw_H (H' := [imm I] ++ F0) rfl (nw_ow ?_)
      refine ow_vals 5 (j := 7) [0, 1, 2, 3, 9, 10] [(0, .slice r21_p1 r21.length r21_c2), (1, .string x1), (2, .string x2), (3, .string s26), (9, .pointer none), (10, .int .i64 r27.2)] rfl (by kernel_rfl) ?_
      refine ow_end rfl ?_
      refine ew_then ?_
      refine cw_seq ?_
      obtain ⟨v33, hF, hK33⟩ := bind_some hF
      refine cw_mid (fun a w => () = v33 ∧ Fr 119 [(0, .slice r21_p1 r21.length r21_c2), (1, .string x1), (2, .string x2), (3, .string s26), (9, .pointer none), (10, .int .i64 r27.2), (33, .bool true)] a ∧ SAT w0 ([imm I] ++ F0) w) ?_ ?_
      · refine cw_region ?_
        refine ow_vals 3 (j := 3) [0, 1, 2, 3, 9, 10, 30] [(0, .slice r21_p1 r21.length r21_c2), (1, .string x1), (2, .string x2), (3, .string s26), (9, .pointer none), (10, .int .i64 r27.2), (30, .bool (r27.2 != 0))] rfl (by kernel_rfl) ?_
        rcases if_some hF with ⟨h34, hF⟩ | ⟨h34, hF⟩
        · refine ow_slots (L' := [(0, .slice r21_p1 r21.length r21_c2), (1, .string x1), (2, .string x2), (3, .string s26), (9, .pointer none), (10, .int .i64 r27.2), (30, .bool true)]) (by rw [h34]) ?_
          refine ow_vals 3 (j := 6) [0, 1, 2, 3, 9, 10, 33] [(0, .slice r21_p1 r21.length r21_c2), (1, .string x1), (2, .string x2), (3, .string s26), (9, .pointer none), (10, .int .i64 r27.2), (33, .bool true)] rfl (by kernel_rfl) ?_
          refine ow_end rfl ?_
          have hR := Option.some.inj hF
          exact fun a w hf hs => ⟨hR, hf.keep [0, 1, 2, 3, 9, 10, 33], sat_to [0] 0 rfl hs⟩
        · refine ow_slots (L' := [(0, .slice r21_p1 r21.length r21_c2), (1, .string x1), (2, .string x2), (3, .string s26), (9, .pointer none), (10, .int .i64 r27.2), (30, .bool false)]) (by rw [h34]) ?_
          refine ow_vals 3 (j := 6) [0, 1, 2, 3, 9, 10, 33] [(0, .slice r21_p1 r21.length r21_c2), (1, .string x1), (2, .string x2), (3, .string s26), (9, .pointer none), (10, .int .i64 r27.2), (33, .bool true)] rfl (by kernel_rfl) ?_
          refine ow_end rfl ?_
          have hR := Option.some.inj hF
          exact fun a w hf hs => ⟨hR, hf.keep [0, 1, 2, 3, 9, 10, 33], sat_to [0] 0 rfl hs⟩
      · rintro a w ⟨hv, hf, hs⟩
        subst hv
        replace hF := hK33
        clear hK33
        try dsimp only at hF
        revert a w
        show CW _ _ _ 119 [(0, .slice r21_p1 r21.length r21_c2), (1, .string x1), (2, .string x2), (3, .string s26), (9, .pointer none), (10, .int .i64 r27.2), (33, .bool true)] (SAT w0 ([imm I] ++ F0))
        unfold F.law03_MillStreams.r2 at hF
        refine cw_cond_t rfl rfl rfl ?_
        refine cw_seq ?_
        refine cw_region ?_
        refine ow_vals 3 (j := 3) [35, 36] [(35, .bool (r27.2 == 1)), (36, .slice r21_p1 r21.length r21_c2)] rfl (by kernel_rfl) ?_
        obtain ⟨r35, h36, hF⟩ := bind_some hF
        refine ow_pw rfl (pw_call (F := [] ++ F0) rfl rfl rfl rfl rfl rfl rfl (by kernel_rfl) (perm_of_pulls [0] rfl) (c_law03_right _ r21 r21_p1 r21_c2 r35 h36 r21_h3) ?_)
        rintro _ _ ⟨rfl, rfl⟩
        refine nw_H (H' := [imm I] ++ F0) rfl (nw_ow ?_)
        refine ow_vals 3 (j := 7) [40] [(40, .bool ((r27.2 == 1) == (!r35)))] rfl (by kernel_rfl) ?_
        rcases if_some hF with ⟨h37, hF⟩ | ⟨h37, hF⟩
        · refine ow_slots (L' := [(40, .bool true)]) (by rw [h37]) ?_
          obtain ⟨r38, h39, hF⟩ := bind_some hF
          refine ow_pw rfl (pw_call (F := [] ++ F0) rfl rfl rfl rfl rfl rfl rfl (by kernel_rfl) (perm_of_pulls [0] rfl) (c_law03_awake _ r38 h39) ?_)
          rintro _ _ ⟨rfl, rfl⟩
          refine nw_H (H' := [imm I] ++ F0) rfl (nw_ow ?_)
          refine ow_vals 2 (j := 10) [8] [(8, .bool r38)] rfl (by kernel_rfl) ?_
          refine ow_end rfl ?_
          refine ew_then ?_
          refine cw_ret ?_
          refine ew_then_ret ?_
          have hR := Option.some.inj hF
          subst hR
          exact fin1 (H1 := [imm I]) (fun w hs => sat_to [0] 0 rfl hs) rfl (rr_tmp rfl) ⟨rfl, rfl⟩
        · refine ow_slots (L' := [(40, .bool false)]) (by rw [h37]) ?_
          refine ow_vals 3 (j := 10) [8] [(8, .bool false)] rfl (by kernel_rfl) ?_
          refine ow_end rfl ?_
          refine ew_then ?_
          refine cw_ret ?_
          refine ew_then_ret ?_
          have hR := Option.some.inj hF
          subst hR
          exact fin1 (H1 := [imm I]) (fun w hs => sat_to [0] 0 rfl hs) rfl (rr_tmp rfl) ⟨rfl, rfl⟩
    · rw [hO] at hF
      try dsimp only [optC] at hF
      refine nw_H (H' := [imm I, pt r27_b2 #[.map (some r27_b4), .map (some r27_b6), .string r27_s1.twins_.e0, .string r27_s1.twins_.e1, .bool r27_s1.found_, .bool r27_s1.full_, .int .i64 r27_s1.sums_] 50, mpo kStr kStr r27_b4 r27_s1.table_, mpo kStr kStr r27_b6 r27_s1.notes_] ++ F0) rfl (nw_ow ?_)
      refine ow_vals 5 (j := 7) [0, 1, 2, 3, 9, 10] [(0, .slice r21_p1 r21.length r21_c2), (1, .string x1), (2, .string x2), (3, .string s26), (9, .pointer (some ⟨r27_b2, 0, none⟩)), (10, .int .i64 r27.2)] rfl (by kernel_rfl) ?_
      refine ow_end rfl ?_
      refine ew_then ?_
      obtain ⟨v40, hF, hK40⟩ := thru_some hF
      refine cw_mid (fun a w => .inl () = v40 ∧ Fr 119 [(0, .slice r21_p1 r21.length r21_c2), (1, .string x1), (2, .string x2), (3, .string s26), (9, .pointer (some ⟨r27_b2, 0, none⟩))] a ∧ SAT w0 ([imm I, pt r27_b2 #[.map (some r27_b4), .map (some r27_b6), .string r27_s1.twins_.e0, .string r27_s1.twins_.e1, .bool r27_s1.found_, .bool r27_s1.full_, .int .i64 r27_s1.sums_] 50, mpo kStr kStr r27_b4 r27_s1.table_, mpo kStr kStr r27_b6 r27_s1.notes_] ++ F0) w) ?_ ?_
      · obtain ⟨v41, hF, hK41⟩ := bind_some hF
        refine cw_mid (fun a w => ∃ (x43 : Bool), x43 = v41 ∧ Fr 119 [(0, .slice r21_p1 r21.length r21_c2), (1, .string x1), (2, .string x2), (3, .string s26), (9, .pointer (some ⟨r27_b2, 0, none⟩)), (10, .int .i64 r27.2), (33, .bool x43)] a ∧ SAT w0 ([imm I, pt r27_b2 #[.map (some r27_b4), .map (some r27_b6), .string r27_s1.twins_.e0, .string r27_s1.twins_.e1, .bool r27_s1.found_, .bool r27_s1.full_, .int .i64 r27_s1.sums_] 50, mpo kStr kStr r27_b4 r27_s1.table_, mpo kStr kStr r27_b6 r27_s1.notes_] ++ F0) w) ?_ ?_
        · refine cw_region ?_
          refine ow_vals 3 (j := 3) [0, 1, 2, 3, 9, 10, 30] [(0, .slice r21_p1 r21.length r21_c2), (1, .string x1), (2, .string x2), (3, .string s26), (9, .pointer (some ⟨r27_b2, 0, none⟩)), (10, .int .i64 r27.2), (30, .bool (r27.2 != 0))] rfl (by kernel_rfl) ?_
          rcases if_some hF with ⟨h42, hF⟩ | ⟨h42, hF⟩
          · refine ow_slots (L' := [(0, .slice r21_p1 r21.length r21_c2), (1, .string x1), (2, .string x2), (3, .string s26), (9, .pointer (some ⟨r27_b2, 0, none⟩)), (10, .int .i64 r27.2), (30, .bool true)]) (by rw [h42]) ?_
            refine ow_vals 3 (j := 6) [0, 1, 2, 3, 9, 10, 33] [(0, .slice r21_p1 r21.length r21_c2), (1, .string x1), (2, .string x2), (3, .string s26), (9, .pointer (some ⟨r27_b2, 0, none⟩)), (10, .int .i64 r27.2), (33, .bool true)] rfl (by kernel_rfl) ?_
            refine ow_end rfl ?_
            have hR := Option.some.inj hF
            exact fun a w hf hs => ⟨true, hR, hf.keep [0, 1, 2, 3, 9, 10, 33], sat_to [0, 0, 0, 0] 0 rfl hs⟩
          · refine ow_slots (L' := [(0, .slice r21_p1 r21.length r21_c2), (1, .string x1), (2, .string x2), (3, .string s26), (9, .pointer (some ⟨r27_b2, 0, none⟩)), (10, .int .i64 r27.2), (30, .bool false)]) (by rw [h42]) ?_
            refine ow_vals 3 (j := 6) [0, 1, 2, 3, 9, 10, 33] [(0, .slice r21_p1 r21.length r21_c2), (1, .string x1), (2, .string x2), (3, .string s26), (9, .pointer (some ⟨r27_b2, 0, none⟩)), (10, .int .i64 r27.2), (33, .bool false)] rfl (by kernel_rfl) ?_
            refine ow_end rfl ?_
            have hR := Option.some.inj hF
            exact fun a w hf hs => ⟨false, hR, hf.keep [0, 1, 2, 3, 9, 10, 33], sat_to [0, 0, 0, 0] 0 rfl hs⟩
        · rintro a w ⟨x43, hv, hf, hs⟩
          subst hv
          replace hF := hK41
          clear hK41
          try dsimp only at hF
          revert a w
          show CW _ _ _ 119 [(0, .slice r21_p1 r21.length r21_c2), (1, .string x1), (2, .string x2), (3, .string s26), (9, .pointer (some ⟨r27_b2, 0, none⟩)), (10, .int .i64 r27.2), (33, .bool x43)] (SAT w0 ([imm I, pt r27_b2 #[.map (some r27_b4), .map (some r27_b6), .string r27_s1.twins_.e0, .string r27_s1.twins_.e1, .bool r27_s1.found_, .bool r27_s1.full_, .int .i64 r27_s1.sums_] 50, mpo kStr kStr r27_b4 r27_s1.table_, mpo kStr kStr r27_b6 r27_s1.notes_] ++ F0))
          unfold F.law03_MillStreams.r3 at hF
          rcases if_some hF with ⟨h44, hF⟩ | ⟨h44, hF⟩
          · refine cw_cond_t rfl rfl h44 ?_
            refine cw_seq ?_
            refine cw_region ?_
            refine ow_vals 3 (j := 3) [35, 36] [(35, .bool (r27.2 == 1)), (36, .slice r21_p1 r21.length r21_c2)] rfl (by kernel_rfl) ?_
            obtain ⟨r45, h46, hF⟩ := bind_some hF
            refine ow_pw rfl (pw_call (F := [pt r27_b2 #[.map (some r27_b4), .map (some r27_b6), .string r27_s1.twins_.e0, .string r27_s1.twins_.e1, .bool r27_s1.found_, .bool r27_s1.full_, .int .i64 r27_s1.sums_] 50, mpo kStr kStr r27_b4 r27_s1.table_, mpo kStr kStr r27_b6 r27_s1.notes_] ++ F0) rfl rfl rfl rfl rfl rfl rfl (by kernel_rfl) (perm_of_pulls [0] rfl) (c_law03_right _ r21 r21_p1 r21_c2 r45 h46 r21_h3) ?_)
            rintro _ _ ⟨rfl, rfl⟩
            refine nw_H (H' := [imm I, pt r27_b2 #[.map (some r27_b4), .map (some r27_b6), .string r27_s1.twins_.e0, .string r27_s1.twins_.e1, .bool r27_s1.found_, .bool r27_s1.full_, .int .i64 r27_s1.sums_] 50, mpo kStr kStr r27_b4 r27_s1.table_, mpo kStr kStr r27_b6 r27_s1.notes_] ++ F0) rfl (nw_ow ?_)
            refine ow_vals 3 (j := 7) [40] [(40, .bool ((r27.2 == 1) == (!r45)))] rfl (by kernel_rfl) ?_
            rcases if_some hF with ⟨h47, hF⟩ | ⟨h47, hF⟩
            · refine ow_slots (L' := [(40, .bool true)]) (by rw [h47]) ?_
              obtain ⟨r48, h49, hF⟩ := bind_some hF
              refine ow_pw rfl (pw_call (F := [pt r27_b2 #[.map (some r27_b4), .map (some r27_b6), .string r27_s1.twins_.e0, .string r27_s1.twins_.e1, .bool r27_s1.found_, .bool r27_s1.full_, .int .i64 r27_s1.sums_] 50, mpo kStr kStr r27_b4 r27_s1.table_, mpo kStr kStr r27_b6 r27_s1.notes_] ++ F0) rfl rfl rfl rfl rfl rfl rfl (by kernel_rfl) (perm_of_pulls [0] rfl) (c_law03_awake _ r48 h49) ?_)
              rintro _ _ ⟨rfl, rfl⟩
              refine nw_H (H' := [imm I, pt r27_b2 #[.map (some r27_b4), .map (some r27_b6), .string r27_s1.twins_.e0, .string r27_s1.twins_.e1, .bool r27_s1.found_, .bool r27_s1.full_, .int .i64 r27_s1.sums_] 50, mpo kStr kStr r27_b4 r27_s1.table_, mpo kStr kStr r27_b6 r27_s1.notes_] ++ F0) rfl (nw_ow ?_)
              refine ow_vals 2 (j := 10) [8] [(8, .bool r48)] rfl (by kernel_rfl) ?_
              refine ow_end rfl ?_
              refine ew_then ?_
              refine cw_ret ?_
              refine ew_then_ret ?_
              have hR := Option.some.inj hF
              subst hR
              have hR := hK40
              try dsimp only [Thru] at hR
              subst hR
              exact fin1 (H1 := [imm I]) (fun w hs => sat_to [1, 1, 1, 0] 3 rfl hs) rfl (rr_tmp rfl) ⟨rfl, rfl⟩
            · refine ow_slots (L' := [(40, .bool false)]) (by rw [h47]) ?_
              refine ow_vals 3 (j := 10) [8] [(8, .bool false)] rfl (by kernel_rfl) ?_
              refine ow_end rfl ?_
              refine ew_then ?_
              refine cw_ret ?_
              refine ew_then_ret ?_
              have hR := Option.some.inj hF
              subst hR
              have hR := hK40
              try dsimp only [Thru] at hR
              subst hR
              exact fin1 (H1 := [imm I]) (fun w hs => sat_to [1, 1, 1, 0] 3 rfl hs) rfl (rr_tmp rfl) ⟨rfl, rfl⟩
          · refine cw_cond_f rfl rfl h44 ?_
            refine cw_skip ?_
            have hR := Option.some.inj hF
            exact fun a w hf hs => ⟨hR, hf.keep [0, 1, 2, 3, 9], sat_to [0, 0, 0, 0] 0 rfl hs⟩
      · rintro a w ⟨hv, hf, hs⟩
        subst hv
        replace hF := hK40
        clear hK40
        try dsimp only [Thru] at hF
        revert a w
        show CW _ _ _ 119 [(0, .slice r21_p1 r21.length r21_c2), (1, .string x1), (2, .string x2), (3, .string s26), (9, .pointer (some ⟨r27_b2, 0, none⟩))] (SAT w0 ([imm I, pt r27_b2 #[.map (some r27_b4), .map (some r27_b6), .string r27_s1.twins_.e0, .string r27_s1.twins_.e1, .bool r27_s1.found_, .bool r27_s1.full_, .int .i64 r27_s1.sums_] 50, mpo kStr kStr r27_b4 r27_s1.table_, mpo kStr kStr r27_b6 r27_s1.notes_] ++ F0))
        unfold F.law03_MillStreams.r4 at hF
        refine cw_seq ?_
        refine cw_region ?_
        refine ow_vals 1 (j := 1) [0, 1, 2, 3, 9, 11] [(0, .slice r21_p1 r21.length r21_c2), (1, .string x1), (2, .string x2), (3, .string s26), (9, .pointer (some ⟨r27_b2, 0, none⟩)), (11, .string (ByteArray.mk #[]))] rfl (by kernel_rfl) ?_
        refine ow_end rfl ?_
        refine ew_then ?_
        obtain ⟨v50, hF, hK50⟩ := bind_some hF
        refine cw_mid (fun a w => ∃ (s61 : ByteArray), s61 = v50 ∧ Fr 119 [(1, .string x1), (2, .string x2), (3, .string s26), (9, .pointer (some ⟨r27_b2, 0, none⟩)), (11, .string s61)] a ∧ SAT w0 ([imm I, pt r27_b2 #[.map (some r27_b4), .map (some r27_b6), .string r27_s1.twins_.e0, .string r27_s1.twins_.e1, .bool r27_s1.found_, .bool r27_s1.full_, .int .i64 r27_s1.sums_] 50, mpo kStr kStr r27_b4 r27_s1.table_, mpo kStr kStr r27_b6 r27_s1.notes_] ++ F0) w) ?_ ?_
        · refine cw_seq ?_
          refine cw_region ?_
          refine ow_vals 1 (j := 1) [0, 1, 2, 3, 9, 11, 12] [(0, .slice r21_p1 r21.length r21_c2), (1, .string x1), (2, .string x2), (3, .string s26), (9, .pointer (some ⟨r27_b2, 0, none⟩)), (11, .string (ByteArray.mk #[])), (12, .int .i64 0)] rfl (by kernel_rfl) ?_
          refine ow_end rfl ?_
          refine ew_then ?_
          refine cw_block ?_
          refine fun a w hf hs => wp_rounds (fun k a w => ∃ (s52 : ByteArray), ∃ (x53 : Int), iter (fun x => F.law03_MillStreams.l5 x1 x2 r21 s26 x.1 x.2) k (s52, x53) = some v50 ∧ Fr 119 [(0, .slice r21_p1 r21.length r21_c2), (1, .string x1), (2, .string x2), (3, .string s26), (9, .pointer (some ⟨r27_b2, 0, none⟩)), (11, .string s52), (12, .int .i64 x53)] a ∧ SAT w0 ([imm I, pt r27_b2 #[.map (some r27_b4), .map (some r27_b6), .string r27_s1.twins_.e0, .string r27_s1.twins_.e1, .bool r27_s1.found_, .bool r27_s1.full_, .int .i64 r27_s1.sums_] 50, mpo kStr kStr r27_b4 r27_s1.table_, mpo kStr kStr r27_b6 r27_s1.notes_] ++ F0) w) ?_ FUEL a w ⟨(ByteArray.mk #[]), 0, hF, hf.keep [0, 1, 2, 3, 9, 11, 12], sat_to [0, 0, 0, 0] 0 rfl hs⟩
          clear hf hs
          clear a w hF
          rintro k a w ⟨s52, x53, hF2, hf, hs⟩
          obtain ⟨k, r51, rfl, hF, hL51⟩ := iter_some hF2
          clear hF2
          revert a w
          show CW _ _ _ 119 [(0, .slice r21_p1 r21.length r21_c2), (1, .string x1), (2, .string x2), (3, .string s26), (9, .pointer (some ⟨r27_b2, 0, none⟩)), (11, .string s52), (12, .int .i64 x53)] (SAT w0 ([imm I, pt r27_b2 #[.map (some r27_b4), .map (some r27_b6), .string r27_s1.twins_.e0, .string r27_s1.twins_.e1, .bool r27_s1.found_, .bool r27_s1.full_, .int .i64 r27_s1.sums_] 50, mpo kStr kStr r27_b4 r27_s1.table_, mpo kStr kStr r27_b6 r27_s1.notes_] ++ F0))
          try dsimp only at hF
          unfold F.law03_MillStreams.l5 at hF
          refine cw_seq ?_
          refine cw_seq ?_
          refine cw_region ?_
          refine ow_vals 5 (j := 5) [0, 1, 2, 3, 9, 11, 12, 47] [(0, .slice r21_p1 r21.length r21_c2), (1, .string x1), (2, .string x2), (3, .string s26), (9, .pointer (some ⟨r27_b2, 0, none⟩)), (11, .string s52), (12, .int .i64 x53), (47, .bool (decide ((s52.size : Int) < (s26.size : Int))))] rfl (by kernel_rfl) ?_
          refine ow_end rfl ?_
          refine ew_then ?_
          rcases if_some hF with ⟨h54, hF⟩ | ⟨h54, hF⟩
          · refine cw_cond_t rfl rfl h54 ?_
            refine cw_skip ?_
            refine ew_then ?_
            refine cw_seq ?_
            refine cw_block ?_
            refine cw_region ?_
            refine ow_vals 10 (j := 10) [0, 1, 2, 3, 9, 12, 50, 51, 52, 53, 56, 59] [(0, .slice r21_p1 r21.length r21_c2), (1, .string x1), (2, .string x2), (3, .string s26), (9, .pointer (some ⟨r27_b2, 0, none⟩)), (12, .int .i64 x53), (50, .string s52), (51, .slice r21_p1 r21.length r21_c2), (52, .string x1), (53, .string x2), (56, .int .u8 (IntKind.u8.wrap (IntKind.i64.wrap (x53.tdiv 256)))), (59, .int .u8 (IntKind.u8.wrap (x53.tmod 256)))] rfl (by kernel_rfl) ?_
            refine ow_pw rfl (pw_buildSlice (E := 5) (eInt .u8) ([IntKind.u8.wrap (IntKind.i64.wrap (x53.tdiv 256)), IntKind.u8.wrap (x53.tmod 256)] : List Int) rfl rfl rfl rfl rfl (by kernel_rfl) rfl (by kernel_rfl) rfl (by decide) rfl fun p55 => nw_ow ?_)
            refine ow_pw rfl (pw_quiet (v := .string (bstr ([IntKind.u8.wrap (IntKind.i64.wrap (x53.tdiv 256)), IntKind.u8.wrap (x53.tmod 256)] : List Int))) rfl rfl rfl rfl (q_bytes_str_own 0 rfl rfl (by kernel_rfl) (by kernel_rfl) rfl) (nw_ow ?_))
            obtain ⟨h57, hF⟩ := chk_some hF
            refine ow_pw rfl (pw_quiet (v := .string (x2 ++ (bstr ([IntKind.u8.wrap (IntKind.i64.wrap (x53.tdiv 256)), IntKind.u8.wrap (x53.tmod 256)] : List Int)))) rfl rfl rfl rfl (q_concat rfl rfl rfl h57) (nw_ow ?_))
            obtain ⟨r58, h59, hF⟩ := bind_some hF
            refine ow_pw rfl (pw_call (F := [own (eInt .u8) 5 p55 2 ([IntKind.u8.wrap (IntKind.i64.wrap (x53.tdiv 256)), IntKind.u8.wrap (x53.tmod 256)] : List Int), pt r27_b2 #[.map (some r27_b4), .map (some r27_b6), .string r27_s1.twins_.e0, .string r27_s1.twins_.e1, .bool r27_s1.found_, .bool r27_s1.full_, .int .i64 r27_s1.sums_] 50, mpo kStr kStr r27_b4 r27_s1.table_, mpo kStr kStr r27_b6 r27_s1.notes_] ++ F0) rfl rfl rfl rfl rfl rfl rfl (by kernel_rfl) (perm_of_pulls [1] rfl) (c_law03_tag _ r21 x1 (x2 ++ (bstr ([IntKind.u8.wrap (IntKind.i64.wrap (x53.tdiv 256)), IntKind.u8.wrap (x53.tmod 256)] : List Int))) r21_p1 r21_c2 r58 h59 r21_h3) ?_)
            rintro _ _ ⟨rfl, rfl⟩
            refine nw_H (H' := [imm I, own (eInt .u8) 5 p55 2 ([IntKind.u8.wrap (IntKind.i64.wrap (x53.tdiv 256)), IntKind.u8.wrap (x53.tmod 256)] : List Int), pt r27_b2 #[.map (some r27_b4), .map (some r27_b6), .string r27_s1.twins_.e0, .string r27_s1.twins_.e1, .bool r27_s1.found_, .bool r27_s1.full_, .int .i64 r27_s1.sums_] 50, mpo kStr kStr r27_b4 r27_s1.table_, mpo kStr kStr r27_b6 r27_s1.notes_] ++ F0) rfl (nw_ow ?_)
            obtain ⟨h60, hF⟩ := chk_some hF
            refine ow_pw rfl (pw_quiet (v := .string (s52 ++ r58)) rfl rfl rfl rfl (q_concat rfl rfl rfl h60) (nw_ow ?_))
            refine ow_vals 1 (j := 16) [0, 1, 2, 3, 9, 11, 12] [(0, .slice r21_p1 r21.length r21_c2), (1, .string x1), (2, .string x2), (3, .string s26), (9, .pointer (some ⟨r27_b2, 0, none⟩)), (11, .string (s52 ++ r58)), (12, .int .i64 x53)] rfl (by kernel_rfl) ?_
            refine ow_end rfl ?_
            refine ew_blk ?_
            refine ew_then ?_
            refine cw_region ?_
            refine ow_vals 3 (j := 3) [0, 1, 2, 3, 9, 11, 12] [(0, .slice r21_p1 r21.length r21_c2), (1, .string x1), (2, .string x2), (3, .string s26), (9, .pointer (some ⟨r27_b2, 0, none⟩)), (11, .string (s52 ++ r58)), (12, .int .i64 (IntKind.i64.wrap (x53 + 1)))] rfl (by kernel_rfl) ?_
            refine ow_end rfl ?_
            have hR := Option.some.inj hF
            subst hR
            have hR := hL51
            try dsimp only at hR
            exact fun a w hf hs => ⟨k, Nat.lt_succ_self k, s52 ++ r58, IntKind.i64.wrap (x53 + 1), hR, hf.keep [0, 1, 2, 3, 9, 11, 12], sat_to [1, 0, 0, 0, 0] 1 rfl hs⟩
          · refine cw_cond_f rfl rfl h54 ?_
            refine cw_exit ?_
            refine ew_then_exit ?_
            refine ew_then_exit ?_
            refine ew_blk_exit ?_
            have hR := Option.some.inj hF
            subst hR
            have hR := hL51
            try dsimp only at hR
            exact fun a w hf hs => ⟨s52, hR, hf.keep [1, 2, 3, 9, 11], sat_to [0, 0, 0, 0] 0 rfl hs⟩
        · rintro a w ⟨s61, hv, hf, hs⟩
          subst hv
          replace hF := hK50
          clear hK50
          try dsimp only at hF
          revert a w
          show CW _ _ _ 119 [(1, .string x1), (2, .string x2), (3, .string s26), (9, .pointer (some ⟨r27_b2, 0, none⟩)), (11, .string s61)] (SAT w0 ([imm I, pt r27_b2 #[.map (some r27_b4), .map (some r27_b6), .string r27_s1.twins_.e0, .string r27_s1.twins_.e1, .bool r27_s1.found_, .bool r27_s1.full_, .int .i64 r27_s1.sums_] 50, mpo kStr kStr r27_b4 r27_s1.table_, mpo kStr kStr r27_b6 r27_s1.notes_] ++ F0))
          unfold F.law03_MillStreams.r6 at hF
          refine cw_seq ?_
          refine cw_region ?_
          refine ow_vals 3 (j := 3) [1, 2, 3, 9, 65, 67] [(1, .string x1), (2, .string x2), (3, .string s26), (9, .pointer (some ⟨r27_b2, 0, none⟩)), (65, .string s61), (67, .int .i64 (s26.size : Int))] rfl (by kernel_rfl) ?_
          obtain ⟨h62, hF⟩ := chk_some hF
          refine ow_pw rfl (pw_quiet (v := .string (s61.extract (0 : Int).toNat (s26.size : Int).toNat)) rfl rfl rfl rfl (q_slice_str rfl (by kernel_rfl) rfl rfl rfl h62.1 h62.2.1 h62.2.2) (nw_ow ?_))
          refine ow_vals 1 (j := 5) [1, 2, 3, 9, 11] [(1, .string x1), (2, .string x2), (3, .string s26), (9, .pointer (some ⟨r27_b2, 0, none⟩)), (11, .string (s61.extract (0 : Int).toNat (s26.size : Int).toNat))] rfl (by kernel_rfl) ?_
          refine ow_end rfl ?_
          refine ew_then ?_
          refine cw_seq ?_
          refine cw_region ?_
          refine ow_vals 1 (j := 1) [1, 2, 3, 9, 11, 69] [(1, .string x1), (2, .string x2), (3, .string s26), (9, .pointer (some ⟨r27_b2, 0, none⟩)), (11, .string (s61.extract (0 : Int).toNat (s26.size : Int).toNat)), (69, .string s26)] rfl (by kernel_rfl) ?_
          obtain ⟨h63, hF⟩ := chk_some hF
          refine ow_pw rfl (pw_str_bytes (E := 5) rfl rfl rfl rfl rfl (by kernel_rfl) (by kernel_rfl) (by kernel_rfl) rfl h63 fun p64 c65 => nw_ow ?_)
          refine ow_vals 1 (j := 3) [1, 2, 3, 9, 11, 13] [(1, .string x1), (2, .string x2), (3, .string s26), (9, .pointer (some ⟨r27_b2, 0, none⟩)), (11, .string (s61.extract (0 : Int).toNat (s26.size : Int).toNat)), (13, .slice p64 (sbytes s26).length c65)] rfl (by kernel_rfl) ?_
          refine ow_end rfl ?_
          refine ew_then ?_
          obtain ⟨v67, hF, hK67⟩ := bind_some hF
          refine cw_mid (fun a w => ∃ (l80 : List Int), ∃ (p81 : Option Addr), ∃ (c82 : Nat), l80 = v67 ∧ Fr 119 [(1, .string x1), (2, .string x2), (3, .string s26), (9, .pointer (some ⟨r27_b2, 0, none⟩)), (11, .string (s61.extract (0 : Int).toNat (s26.size : Int).toNat)), (13, .slice p81 l80.length c82)] a ∧ SAT w0 ([imm I, pt r27_b2 #[.map (some r27_b4), .map (some r27_b6), .string r27_s1.twins_.e0, .string r27_s1.twins_.e1, .bool r27_s1.found_, .bool r27_s1.full_, .int .i64 r27_s1.sums_] 50, own (eInt .u8) 5 p81 c82 l80, mpo kStr kStr r27_b4 r27_s1.table_, mpo kStr kStr r27_b6 r27_s1.notes_] ++ F0) w) ?_ ?_
          · refine cw_seq ?_
            refine cw_region ?_
            refine ow_vals 1 (j := 1) [1, 2, 3, 9, 11, 13, 14] [(1, .string x1), (2, .string x2), (3, .string s26), (9, .pointer (some ⟨r27_b2, 0, none⟩)), (11, .string (s61.extract (0 : Int).toNat (s26.size : Int).toNat)), (13, .slice p64 (sbytes s26).length c65), (14, .int .i64 0)] rfl (by kernel_rfl) ?_
            refine ow_end rfl ?_
            refine ew_then ?_
            refine cw_block ?_
            refine fun a w hf hs => wp_rounds (fun k a w => ∃ (l69 : List Int), ∃ (x73 : Int), ∃ (p70 : Option Addr), ∃ (c71 : Nat), iter (fun x => F.law03_MillStreams.l7 s26 s61 x.1 x.2) k (l69, x73) = some v67 ∧ Fr 119 [(1, .string x1), (2, .string x2), (3, .string s26), (9, .pointer (some ⟨r27_b2, 0, none⟩)), (11, .string (s61.extract (0 : Int).toNat (s26.size : Int).toNat)), (13, .slice p70 l69.length c71), (14, .int .i64 x73)] a ∧ SAT w0 ([imm I, pt r27_b2 #[.map (some r27_b4), .map (some r27_b6), .string r27_s1.twins_.e0, .string r27_s1.twins_.e1, .bool r27_s1.found_, .bool r27_s1.full_, .int .i64 r27_s1.sums_] 50, own (eInt .u8) 5 p70 c71 l69, mpo kStr kStr r27_b4 r27_s1.table_, mpo kStr kStr r27_b6 r27_s1.notes_] ++ F0) w) ?_ FUEL a w ⟨sbytes s26, 0, p64, c65, hF, hf.keep [1, 2, 3, 9, 11, 13, 14], sat_to [1, 1, 0, 0, 0] 0 rfl hs⟩
            clear hf hs
            clear a w hF
            rintro k a w ⟨l69, x73, p70, c71, hF2, hf, hs⟩
            obtain ⟨k, r68, rfl, hF, hL68⟩ := iter_some hF2
            clear hF2
            revert a w
            show CW _ _ _ 119 [(1, .string x1), (2, .string x2), (3, .string s26), (9, .pointer (some ⟨r27_b2, 0, none⟩)), (11, .string (s61.extract (0 : Int).toNat (s26.size : Int).toNat)), (13, .slice p70 l69.length c71), (14, .int .i64 x73)] (SAT w0 ([imm I, pt r27_b2 #[.map (some r27_b4), .map (some r27_b6), .string r27_s1.twins_.e0, .string r27_s1.twins_.e1, .bool r27_s1.found_, .bool r27_s1.full_, .int .i64 r27_s1.sums_] 50, own (eInt .u8) 5 p70 c71 l69, mpo kStr kStr r27_b4 r27_s1.table_, mpo kStr kStr r27_b6 r27_s1.notes_] ++ F0))
            try dsimp only at hF
            unfold F.law03_MillStreams.l7 at hF
            refine cw_seq ?_
            refine cw_seq ?_
            refine cw_region ?_
            refine ow_vals 4 (j := 4) [1, 2, 3, 9, 11, 13, 14, 74] [(1, .string x1), (2, .string x2), (3, .string s26), (9, .pointer (some ⟨r27_b2, 0, none⟩)), (11, .string (s61.extract (0 : Int).toNat (s26.size : Int).toNat)), (13, .slice p70 l69.length c71), (14, .int .i64 x73), (74, .bool (decide (x73 < (l69.length : Int))))] rfl (by kernel_rfl) ?_
            refine ow_end rfl ?_
            refine ew_then ?_
            rcases if_some hF with ⟨h74, hF⟩ | ⟨h74, hF⟩
            · refine cw_cond_t rfl rfl h74 ?_
              refine cw_skip ?_
              refine ew_then ?_
              refine cw_seq ?_
              refine cw_block ?_
              refine cw_open 11 (SAT w0 ([imm I, pt r27_b2 #[.map (some r27_b4), .map (some r27_b6), .string r27_s1.twins_.e0, .string r27_s1.twins_.e1, .bool r27_s1.found_, .bool r27_s1.full_, .int .i64 r27_s1.sums_] 50, own (eInt .u8) 5 p70 c71 l69, mpo kStr kStr r27_b4 r27_s1.table_, mpo kStr kStr r27_b6 r27_s1.notes_])) (by kernel_rfl) (f := 12) rfl (fun w hs => sat_drew hs) ?_
              refine aw_vals [0, 1, 2, 3, 6, 7] (f' := 6) (m' := 207) [1, 2, 3, 9, 11, 13, 14, 77, 78, 79, 80, 83, 84] [(1, .string x1), (2, .string x2), (3, .string s26), (9, .pointer (some ⟨r27_b2, 0, none⟩)), (11, .string (s61.extract (0 : Int).toNat (s26.size : Int).toNat)), (13, .slice p70 l69.length c71), (14, .int .i64 x73), (77, .slice p70 l69.length c71), (78, .int .i64 x73), (79, .slice p70 l69.length c71), (80, .int .i64 x73), (83, .string (s61.extract (0 : Int).toNat (s26.size : Int).toNat)), (84, .int .i64 x73)] (fun _ _ _ _ _ h => calm_fin (P := Try.prog) (fn := Try.f4) _ _ _ _ _ h) (fun w hs => sat_pulls [0, 0, 0, 0, 0] (G := [] ++ F0) rfl hs) rfl (by kernel_rfl) ?_
              obtain ⟨y75, h76, hF⟩ := bind_some hF
              refine aw_quiet 4 (m' := 223) (v := .pointer (some ((base p70).add (x73.toNat * 1)))) 4 [] rfl rfl rfl rfl (by kernel_rfl) (by kernel_rfl) (by kernel_rfl) (fun _ _ _ _ _ h => calm_fin (P := Try.prog) (fn := Try.f4) _ _ _ _ _ h) (fun w hs => sat_pulls [0, 0, 0, 0, 0] (G := [] ++ F0) rfl hs) (q_index_own 2 1 rfl rfl (by kernel_rfl) rfl rfl (at_some h76).1 (at_lt h76)) ?_
              refine aw_quiet 5 (m' := 255) (v := .int .u8 y75) 5 [] rfl rfl rfl rfl (by kernel_rfl) (by kernel_rfl) (by kernel_rfl) (fun _ _ _ _ _ h => calm_fin (P := Try.prog) (fn := Try.f4) _ _ _ _ _ h) (fun w hs => sat_pulls [0, 0, 0, 0, 0] (G := [] ++ F0) rfl hs) (q_load_own0 2 1 rfl rfl rfl rfl (at_some h76).2 (by kernel_rfl)) ?_
              obtain ⟨h77, hF⟩ := chk_some hF
              refine aw_pure 8 (m' := 511) (v := .int .u8 (bt (s61.extract (0 : Int).toNat (s26.size : Int).toNat) x73)) rfl rfl rfl rfl (by kernel_rfl) (by kernel_rfl) (fun _ _ _ _ _ h => calm_fin (P := Try.prog) (fn := Try.f4) _ _ _ _ _ h) (fun w hs => sat_pulls [0, 0, 0, 0, 0] (G := [] ++ F0) rfl hs) (q_index_str rfl (by kernel_rfl) rfl rfl h77.1 h77.2) ?_
              refine aw_vals [9] (f' := 2) (m' := 1023) [1, 2, 3, 9, 11, 13, 14, 77, 78, 86] [(1, .string x1), (2, .string x2), (3, .string s26), (9, .pointer (some ⟨r27_b2, 0, none⟩)), (11, .string (s61.extract (0 : Int).toNat (s26.size : Int).toNat)), (13, .slice p70 l69.length c71), (14, .int .i64 x73), (77, .slice p70 l69.length c71), (78, .int .i64 x73), (86, .int .u8 (ixor .u8 y75 (bt (s61.extract (0 : Int).toNat (s26.size : Int).toNat) x73)))] (fun _ _ _ _ _ h => calm_fin (P := Try.prog) (fn := Try.f4) _ _ _ _ _ h) (fun w hs => sat_pulls [0, 0, 0, 0, 0] (G := [] ++ F0) rfl hs) rfl (by kernel_rfl) ?_
              obtain ⟨y78, h79, hF⟩ := bind_some hF
              refine aw_quiet 10 (m' := 2047) (v := .pointer (some ((base p70).add (x73.toNat * 1)))) 10 [] rfl rfl rfl rfl (by kernel_rfl) (by kernel_rfl) (by kernel_rfl) (fun _ _ _ _ _ h => calm_fin (P := Try.prog) (fn := Try.f4) _ _ _ _ _ h) (fun w hs => sat_pulls [0, 0, 0, 0, 0] (G := [] ++ F0) rfl hs) (q_index_own 2 1 rfl rfl (by kernel_rfl) rfl rfl (at_some h79).1 (at_lt h79)) ?_
              refine aw_only 11 (m' := 4095) (by kernel_rfl) (by kernel_rfl) (pw_store_own 2 1 (z' := ixor .u8 y75 (bt (s61.extract (0 : Int).toNat (s26.size : Int).toNat) x73)) (off := 0) rfl rfl rfl rfl rfl rfl rfl rfl (at_some h79).2 (by kernel_rfl) (nw_H (H' := [imm I, pt r27_b2 #[.map (some r27_b4), .map (some r27_b6), .string r27_s1.twins_.e0, .string r27_s1.twins_.e1, .bool r27_s1.found_, .bool r27_s1.full_, .int .i64 r27_s1.sums_] 50, own (eInt .u8) 5 p70 c71 (l69.set x73.toNat (ixor .u8 y75 (bt (s61.extract (0 : Int).toNat (s26.size : Int).toNat) x73))), mpo kStr kStr r27_b4 r27_s1.table_, mpo kStr kStr r27_b6 r27_s1.notes_] ++ F0) (by first | rfl | (simp only [List.length_set]; rfl)) (aw_last (by kernel_rfl) ?_)))
              refine aw_slots (L' := [(87, .pointer (some ((base p70).add (x73.toNat * 1)))), (1, .string x1), (2, .string x2), (3, .string s26), (9, .pointer (some ⟨r27_b2, 0, none⟩)), (11, .string (s61.extract (0 : Int).toNat (s26.size : Int).toNat)), (13, .slice p70 (l69.set x73.toNat (ixor .u8 y75 (bt (s61.extract (0 : Int).toNat (s26.size : Int).toNat) x73))).length c71), (14, .int .i64 x73), (77, .slice p70 (l69.set x73.toNat (ixor .u8 y75 (bt (s61.extract (0 : Int).toNat (s26.size : Int).toNat) x73))).length c71), (78, .int .i64 x73), (86, .int .u8 (ixor .u8 y75 (bt (s61.extract (0 : Int).toNat (s26.size : Int).toNat) x73)))]) (by first | rfl | (simp only [List.length_set]; rfl)) ?_
              refine aw_keep [1, 2, 3, 9, 11, 13, 14] (L' := [(1, .string x1), (2, .string x2), (3, .string s26), (9, .pointer (some ⟨r27_b2, 0, none⟩)), (11, .string (s61.extract (0 : Int).toNat (s26.size : Int).toNat)), (13, .slice p70 (l69.set x73.toNat (ixor .u8 y75 (bt (s61.extract (0 : Int).toNat (s26.size : Int).toNat) x73))).length c71), (14, .int .i64 x73)]) rfl ?_
              refine aw_end (by kernel_rfl) ?_
              refine ew_blk ?_
              refine ew_then ?_
              refine cw_region ?_
              refine ow_vals 3 (j := 3) [1, 2, 3, 9, 11, 13, 14] [(1, .string x1), (2, .string x2), (3, .string s26), (9, .pointer (some ⟨r27_b2, 0, none⟩)), (11, .string (s61.extract (0 : Int).toNat (s26.size : Int).toNat)), (13, .slice p70 (l69.set x73.toNat (ixor .u8 y75 (bt (s61.extract (0 : Int).toNat (s26.size : Int).toNat) x73))).length c71), (14, .int .i64 (IntKind.i64.wrap (x73 + 1)))] rfl (by kernel_rfl) ?_
              refine ow_end rfl ?_
              have hR := Option.some.inj hF
              subst hR
              have hR := hL68
              try dsimp only at hR
              exact fun a w hf hs => ⟨k, Nat.lt_succ_self k, l69.set x73.toNat (ixor .u8 y75 (bt (s61.extract (0 : Int).toNat (s26.size : Int).toNat) x73)), IntKind.i64.wrap (x73 + 1), p70, c71, hR, hf.keep [1, 2, 3, 9, 11, 13, 14], sat_to [0, 0, 0, 0, 0] 0 rfl hs⟩
            · refine cw_cond_f rfl rfl h74 ?_
              refine cw_exit ?_
              refine ew_then_exit ?_
              refine ew_then_exit ?_
              refine ew_blk_exit ?_
              have hR := Option.some.inj hF
              subst hR
              have hR := hL68
              try dsimp only at hR
              exact fun a w hf hs => ⟨l69, p70, c71, hR, hf.keep [1, 2, 3, 9, 11, 13], sat_to [0, 0, 0, 0, 0] 0 rfl hs⟩
          · rintro a w ⟨l80, p81, c82, hv, hf, hs⟩
            subst hv
            replace hF := hK67
            clear hK67
            try dsimp only at hF
            revert a w
            show CW _ _ _ 119 [(1, .string x1), (2, .string x2), (3, .string s26), (9, .pointer (some ⟨r27_b2, 0, none⟩)), (11, .string (s61.extract (0 : Int).toNat (s26.size : Int).toNat)), (13, .slice p81 l80.length c82)] (SAT w0 ([imm I, pt r27_b2 #[.map (some r27_b4), .map (some r27_b6), .string r27_s1.twins_.e0, .string r27_s1.twins_.e1, .bool r27_s1.found_, .bool r27_s1.full_, .int .i64 r27_s1.sums_] 50, own (eInt .u8) 5 p81 c82 l80, mpo kStr kStr r27_b4 r27_s1.table_, mpo kStr kStr r27_b6 r27_s1.notes_] ++ F0))
            unfold F.law03_MillStreams.r8 at hF
            refine cw_seq ?_
            refine cw_region ?_
            refine ow_vals 4 (j := 4) [1, 2, 3, 9, 11, 13, 88, 89, 90, 91] [(1, .string x1), (2, .string x2), (3, .string s26), (9, .pointer (some ⟨r27_b2, 0, none⟩)), (11, .string (s61.extract (0 : Int).toNat (s26.size : Int).toNat)), (13, .slice p81 l80.length c82), (88, .pointer (some ⟨r27_b2, 0, none⟩)), (89, .string x1), (90, .string x2), (91, .string s26)] rfl (by kernel_rfl) ?_
            obtain ⟨r84, h85, hF⟩ := bind_some hF
            refine ow_pw rfl (pw_call (F := [own (eInt .u8) 5 p81 c82 l80] ++ F0) rfl rfl rfl rfl rfl rfl rfl (by kernel_rfl) (perm_of_pulls [0, 0, 1, 1] rfl) (c_mill_Mill_Veil _ x1 x2 s26 r27_s1 r27_b4 r27_b6 r27_b2 r84 h85) ?_)
            rintro _ _ ⟨rfl, rfl⟩
            refine nw_H (H' := [imm I, pt r27_b2 #[.map (some r27_b4), .map (some r27_b6), .string r27_s1.twins_.e0, .string r27_s1.twins_.e1, .bool r27_s1.found_, .bool r27_s1.full_, .int .i64 r27_s1.sums_] 50, mpo kStr kStr r27_b4 r27_s1.table_, mpo kStr kStr r27_b6 r27_s1.notes_, own (eInt .u8) 5 p81 c82 l80] ++ F0) rfl (nw_ow ?_)
            refine ow_vals 1 (j := 6) [1, 2, 3, 9, 11, 13, 15] [(1, .string x1), (2, .string x2), (3, .string s26), (9, .pointer (some ⟨r27_b2, 0, none⟩)), (11, .string (s61.extract (0 : Int).toNat (s26.size : Int).toNat)), (13, .slice p81 l80.length c82), (15, .string r84)] rfl (by kernel_rfl) ?_
            refine ow_end rfl ?_
            refine ew_then ?_
            refine cw_seq ?_
            refine cw_region ?_
            refine ow_vals 5 (j := 5) [1, 2, 3, 9, 11, 13, 15, 93, 94, 95, 97] [(1, .string x1), (2, .string x2), (3, .string s26), (9, .pointer (some ⟨r27_b2, 0, none⟩)), (11, .string (s61.extract (0 : Int).toNat (s26.size : Int).toNat)), (13, .slice p81 l80.length c82), (15, .string r84), (93, .pointer (some ⟨r27_b2, 0, none⟩)), (94, .string x1), (95, .string x2), (97, .int .i64 (s26.size : Int))] rfl (by kernel_rfl) ?_
            obtain ⟨r86, h87, hF⟩ := bind_some hF
            refine ow_pw rfl (pw_call (F := [own (eInt .u8) 5 p81 c82 l80] ++ F0) rfl rfl rfl rfl rfl rfl rfl (by kernel_rfl) (perm_of_pulls [0, 0, 0, 0] rfl) (c_mill_Mill_Stream _ x1 x2 (s26.size : Int) r27_s1 r27_b4 r27_b6 r27_b2 r86 h87) ?_)
            rintro _ _ ⟨rfl, rfl⟩
            refine nw_H (H' := [imm I, pt r27_b2 #[.map (some r27_b4), .map (some r27_b6), .string r27_s1.twins_.e0, .string r27_s1.twins_.e1, .bool r27_s1.found_, .bool r27_s1.full_, .int .i64 r27_s1.sums_] 50, mpo kStr kStr r27_b4 r27_s1.table_, mpo kStr kStr r27_b6 r27_s1.notes_, own (eInt .u8) 5 p81 c82 l80] ++ F0) rfl (nw_ow ?_)
            refine ow_vals 3 (j := 9) [1, 2, 3, 9, 13, 15, 101] [(1, .string x1), (2, .string x2), (3, .string s26), (9, .pointer (some ⟨r27_b2, 0, none⟩)), (13, .slice p81 l80.length c82), (15, .string r84), (101, .bool (seqB r86 (s61.extract (0 : Int).toNat (s26.size : Int).toNat)))] rfl (by kernel_rfl) ?_
            rcases if_some hF with ⟨h88, hF⟩ | ⟨h88, hF⟩
            · refine ow_slots (L' := [(1, .string x1), (2, .string x2), (3, .string s26), (9, .pointer (some ⟨r27_b2, 0, none⟩)), (13, .slice p81 l80.length c82), (15, .string r84), (101, .bool true)]) (by rw [h88]) ?_
              refine ow_vals 2 (j := 11) [1, 2, 3, 9, 15, 101, 102, 103] [(1, .string x1), (2, .string x2), (3, .string s26), (9, .pointer (some ⟨r27_b2, 0, none⟩)), (15, .string r84), (101, .bool true), (102, .string r84), (103, .slice p81 l80.length c82)] rfl (by kernel_rfl) ?_
              refine ow_pw rfl (pw_quiet (v := .string (bstr l80)) rfl rfl rfl rfl (q_bytes_str_own 4 rfl rfl (by kernel_rfl) (by kernel_rfl) rfl) (nw_ow ?_))
              refine ow_vals 3 (j := 15) [1, 2, 3, 9, 15, 107] [(1, .string x1), (2, .string x2), (3, .string s26), (9, .pointer (some ⟨r27_b2, 0, none⟩)), (15, .string r84), (107, .bool (seqB r84 (bstr l80)))] rfl (by kernel_rfl) ?_
              rcases if_some hF with ⟨h89, hF⟩ | ⟨h89, hF⟩
              · refine ow_slots (L' := [(1, .string x1), (2, .string x2), (3, .string s26), (9, .pointer (some ⟨r27_b2, 0, none⟩)), (15, .string r84), (107, .bool true)]) (by rw [h89]) ?_
                refine ow_vals 4 (j := 19) [3, 107, 108, 109, 110, 111] [(3, .string s26), (107, .bool true), (108, .pointer (some ⟨r27_b2, 0, none⟩)), (109, .string x1), (110, .string x2), (111, .string r84)] rfl (by kernel_rfl) ?_
                obtain ⟨r90, h91, hF⟩ := bind_some hF
                refine ow_pw rfl (pw_call (F := [own (eInt .u8) 5 p81 c82 l80] ++ F0) rfl rfl rfl rfl rfl rfl rfl (by kernel_rfl) (perm_of_pulls [0, 0, 0, 0] rfl) (c_mill_Mill_Veil _ x1 x2 r84 r27_s1 r27_b4 r27_b6 r27_b2 r90 h91) ?_)
                rintro _ _ ⟨rfl, rfl⟩
                refine nw_H (H' := [imm I, pt r27_b2 #[.map (some r27_b4), .map (some r27_b6), .string r27_s1.twins_.e0, .string r27_s1.twins_.e1, .bool r27_s1.found_, .bool r27_s1.full_, .int .i64 r27_s1.sums_] 50, mpo kStr kStr r27_b4 r27_s1.table_, mpo kStr kStr r27_b6 r27_s1.notes_, own (eInt .u8) 5 p81 c82 l80] ++ F0) rfl (nw_ow ?_)
                refine ow_vals 4 (j := 24) [116] [(116, .bool (seqB r90 s26))] rfl (by kernel_rfl) ?_
                rcases if_some hF with ⟨h92, hF⟩ | ⟨h92, hF⟩
                · refine ow_slots (L' := [(116, .bool true)]) (by rw [h92]) ?_
                  obtain ⟨r93, h94, hF⟩ := bind_some hF
                  refine ow_pw rfl (pw_call (F := [pt r27_b2 #[.map (some r27_b4), .map (some r27_b6), .string r27_s1.twins_.e0, .string r27_s1.twins_.e1, .bool r27_s1.found_, .bool r27_s1.full_, .int .i64 r27_s1.sums_] 50, mpo kStr kStr r27_b4 r27_s1.table_, mpo kStr kStr r27_b6 r27_s1.notes_, own (eInt .u8) 5 p81 c82 l80] ++ F0) rfl rfl rfl rfl rfl rfl rfl (by kernel_rfl) (perm_of_pulls [0] rfl) (c_law03_awake _ r93 h94) ?_)
                  rintro _ _ ⟨rfl, rfl⟩
                  refine nw_H (H' := [imm I, pt r27_b2 #[.map (some r27_b4), .map (some r27_b6), .string r27_s1.twins_.e0, .string r27_s1.twins_.e1, .bool r27_s1.found_, .bool r27_s1.full_, .int .i64 r27_s1.sums_] 50, mpo kStr kStr r27_b4 r27_s1.table_, mpo kStr kStr r27_b6 r27_s1.notes_, own (eInt .u8) 5 p81 c82 l80] ++ F0) rfl (nw_ow ?_)
                  refine ow_vals 2 (j := 27) [8] [(8, .bool r93)] rfl (by kernel_rfl) ?_
                  refine ow_end rfl ?_
                  refine ew_then ?_
                  refine cw_ret ?_
                  have hR := Option.some.inj hF
                  subst hR
                  exact fin1 (H1 := [imm I]) (fun w hs => sat_to [1, 1, 1, 1, 0] 4 rfl hs) rfl (rr_tmp rfl) ⟨rfl, rfl⟩
                · refine ow_slots (L' := [(116, .bool false)]) (by rw [h92]) ?_
                  refine ow_vals 3 (j := 27) [8] [(8, .bool false)] rfl (by kernel_rfl) ?_
                  refine ow_end rfl ?_
                  refine ew_then ?_
                  refine cw_ret ?_
                  have hR := Option.some.inj hF
                  subst hR
                  exact fin1 (H1 := [imm I]) (fun w hs => sat_to [1, 1, 1, 1, 0] 4 rfl hs) rfl (rr_tmp rfl) ⟨rfl, rfl⟩
              · refine ow_slots (L' := [(1, .string x1), (2, .string x2), (3, .string s26), (9, .pointer (some ⟨r27_b2, 0, none⟩)), (15, .string r84), (107, .bool false)]) (by rw [h89]) ?_
                refine ow_vals 12 (j := 27) [8] [(8, .bool false)] rfl (by kernel_rfl) ?_
                refine ow_end rfl ?_
                refine ew_then ?_
                refine cw_ret ?_
                have hR := Option.some.inj hF
                subst hR
                exact fin1 (H1 := [imm I]) (fun w hs => sat_to [1, 1, 1, 1, 0] 4 rfl hs) rfl (rr_tmp rfl) ⟨rfl, rfl⟩
            · refine ow_slots (L' := [(1, .string x1), (2, .string x2), (3, .string s26), (9, .pointer (some ⟨r27_b2, 0, none⟩)), (13, .slice p81 l80.length c82), (15, .string r84), (101, .bool false)]) (by rw [h88]) ?_
              refine ow_vals 18 (j := 27) [8] [(8, .bool false)] rfl (by kernel_rfl) ?_
              refine ow_end rfl ?_
              refine ew_then ?_
              refine cw_ret ?_
              have hR := Option.some.inj hF
              subst hR
              exact fin1 (H1 := [imm I]) (fun w hs => sat_to [1, 1, 1, 1, 0] 4 rfl hs) rfl (rr_tmp rfl) ⟨rfl, rfl⟩

end Go.Proofs.Ytgkkgmnomiokbaa
