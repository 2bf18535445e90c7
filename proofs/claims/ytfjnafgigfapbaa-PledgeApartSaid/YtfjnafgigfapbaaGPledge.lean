/- What the functions compute, and that the code computes it: printed by a program of this claim (wip/tools), for the group Pledge. -/
import Derived.Test.YtfjnafgigfapbaaGMill
namespace Go.Proofs.Ytfjnafgigfapbaa
set_option linter.all false
open Go Go.RowKit Go.Fw
set_option linter.unusedVariables false

structure api_Slip where
  Name : ByteArray
  Pledge : ByteArray
  Cipher : ByteArray
  Erased : Bool
def api_Slip.cells (x : api_Slip) : List Go.Value := [.string x.Name, .string x.Pledge, .string x.Cipher, .bool x.Erased]
def e_api_Slip : Enc api_Slip := ⟨api_Slip.cells, 4, fun _ => rfl, fun _ => rfl, by decide⟩

def F.octet_Num.l2 (x26 : Int) (s27 : ByteArray) : Option ((Int × ByteArray) ⊕ (ByteArray)) :=
  if decide (x26 > 0) then (chk ((bstr ([IntKind.u8.wrap (x26)] : List Int)).size + s27.size ≤ 9223372036854775807) (some (.inl (x26.fdiv (2 ^ 8), (bstr ([IntKind.u8.wrap (x26)] : List Int)) ++ s27)))) else (some (.inr (s27)))
def F.octet_Num.r3 (s32 : ByteArray) : Option (ByteArray) :=
  chk ((bstr ([IntKind.u8.wrap ((s32.size : Int))] : List Int)).size + s32.size ≤ 9223372036854775807) (some (((bstr ([IntKind.u8.wrap ((s32.size : Int))] : List Int)) ++ s32)))
def F.octet_Num.r1 (x0 : Int) : Option (ByteArray) :=
  Option.bind (iter (fun x => F.octet_Num.l2 x.1 x.2) FUEL (x0, (ByteArray.mk #[]))) (fun x => F.octet_Num.r3 x)
def F.octet_Num (x0 : Int) : Option ByteArray :=
  thru (if decide (x0 < 0) then (some (.inr ((ByteArray.mk #[])))) else (if decide (x0 ≥ 72057594037927936) then (some (.inr ((ByteArray.mk #[])))) else (some (.inl ())))) (fun x => F.octet_Num.r1 x0)
set_option maxRecDepth 100000 in
set_option maxHeartbeats 4000000 in
theorem c_octet_Num (I : Hl) (x0 : Int) (res : ByteArray) (hF : F.octet_Num x0 = some res) : Tr Try.prog 34 [.int .i64 x0] [imm I] (fun r H' => r = .string res ∧ H' = [imm I]) := by
  unfold F.octet_Num at hF
  refine tr_of_cw (fn := Try.f34) Try.func34 rfl (Nat.le_of_ble_eq_true rfl) 27 rfl fun F0 w0 => ?_
  refine cw_keep [0] (L' := [(0, .int .i64 x0)]) rfl ?_
  refine cw_state (S' := SAT w0 ([imm I] ++ F0)) (fun w hs => hs) ?_
  refine cw_seq ?_
  refine cw_region ?_
  refine ow_vals 1 (j := 1) [0] [(0, .int .i64 x0)] rfl (by kernel_rfl) ?_
  refine ow_end rfl ?_
  refine ew_then ?_
  obtain ⟨v21, hF, hK21⟩ := thru_some hF
  refine cw_mid (fun a w => .inl () = v21 ∧ Fr 27 [(0, .int .i64 x0)] a ∧ SAT w0 ([imm I] ++ F0) w) ?_ ?_
  · refine cw_seq ?_
    refine cw_region ?_
    refine ow_vals 3 (j := 3) [0, 6] [(0, .int .i64 x0), (6, .bool (decide (x0 < 0)))] rfl (by kernel_rfl) ?_
    rcases if_some hF with ⟨h22, hF⟩ | ⟨h22, hF⟩
    · refine ow_slots (L' := [(0, .int .i64 x0), (6, .bool true)]) (by rw [h22]) ?_
      refine ow_vals 3 (j := 6) [0, 9] [(0, .int .i64 x0), (9, .bool true)] rfl (by kernel_rfl) ?_
      refine ow_end rfl ?_
      refine ew_then ?_
      refine cw_cond_t rfl rfl rfl ?_
      refine cw_seq ?_
      refine cw_region ?_
      refine ow_vals 1 (j := 1) [2] [(2, .string (ByteArray.mk #[]))] rfl (by kernel_rfl) ?_
      refine ow_end rfl ?_
      refine ew_then ?_
      refine cw_ret ?_
      refine ew_then_ret ?_
      have hR := Option.some.inj hF
      subst hR
      have hR := hK21
      try dsimp only [Thru] at hR
      subst hR
      exact fin1 (H1 := [imm I]) (fun w hs => sat_to [0] 0 rfl hs) rfl (rr_tmp rfl) ⟨rfl, rfl⟩
    · refine ow_slots (L' := [(0, .int .i64 x0), (6, .bool false)]) (by rw [h22]) ?_
      refine ow_vals 3 (j := 6) [0, 9] [(0, .int .i64 x0), (9, .bool (decide (x0 ≥ 72057594037927936)))] rfl (by kernel_rfl) ?_
      refine ow_end rfl ?_
      refine ew_then ?_
      rcases if_some hF with ⟨h23, hF⟩ | ⟨h23, hF⟩
      · refine cw_cond_t rfl rfl h23 ?_
        refine cw_seq ?_
        refine cw_region ?_
        refine ow_vals 1 (j := 1) [2] [(2, .string (ByteArray.mk #[]))] rfl (by kernel_rfl) ?_
        refine ow_end rfl ?_
        refine ew_then ?_
        refine cw_ret ?_
        refine ew_then_ret ?_
        have hR := Option.some.inj hF
        subst hR
        have hR := hK21
        try dsimp only [Thru] at hR
        subst hR
        exact fin1 (H1 := [imm I]) (fun w hs => sat_to [0] 0 rfl hs) rfl (rr_tmp rfl) ⟨rfl, rfl⟩
      · refine cw_cond_f rfl rfl h23 ?_
        refine cw_skip ?_
        have hR := Option.some.inj hF
        exact fun a w hf hs => ⟨hR, hf.keep [0], sat_to [0] 0 rfl hs⟩
  · rintro a w ⟨hv, hf, hs⟩
    subst hv
    replace hF := hK21
    clear hK21
    try dsimp only [Thru] at hF
    revert a w
    show CW _ _ _ 27 [(0, .int .i64 x0)] (SAT w0 ([imm I] ++ F0))
    unfold F.octet_Num.r1 at hF
    refine cw_seq ?_
    refine cw_region ?_
    refine ow_vals 1 (j := 1) [0, 3] [(0, .int .i64 x0), (3, .string (ByteArray.mk #[]))] rfl (by kernel_rfl) ?_
    refine ow_end rfl ?_
    refine ew_then ?_
    obtain ⟨v24, hF, hK24⟩ := bind_some hF
    refine cw_mid (fun a w => ∃ (s32 : ByteArray), s32 = v24 ∧ Fr 27 [(3, .string s32)] a ∧ SAT w0 ([imm I] ++ F0) w) ?_ ?_
    · refine cw_block ?_
      refine fun a w hf hs => wp_rounds (fun k a w => ∃ (x26 : Int), ∃ (s27 : ByteArray), iter (fun x => F.octet_Num.l2 x.1 x.2) k (x26, s27) = some v24 ∧ Fr 27 [(0, .int .i64 x26), (3, .string s27)] a ∧ SAT w0 ([imm I] ++ F0) w) ?_ FUEL a w ⟨x0, (ByteArray.mk #[]), hF, hf.keep [0, 3], sat_to [0] 0 rfl hs⟩
      clear hf hs
      clear a w hF
      rintro k a w ⟨x26, s27, hF2, hf, hs⟩
      obtain ⟨k, r25, rfl, hF, hL25⟩ := iter_some hF2
      clear hF2
      revert a w
      show CW _ _ _ 27 [(0, .int .i64 x26), (3, .string s27)] (SAT w0 ([imm I] ++ F0))
      try dsimp only at hF
      unfold F.octet_Num.l2 at hF
      refine cw_seq ?_
      refine cw_seq ?_
      refine cw_region ?_
      refine ow_vals 2 (j := 2) [0, 3, 11] [(0, .int .i64 x26), (3, .string s27), (11, .bool (decide (x26 > 0)))] rfl (by kernel_rfl) ?_
      refine ow_end rfl ?_
      refine ew_then ?_
      rcases if_some hF with ⟨h28, hF⟩ | ⟨h28, hF⟩
      · refine cw_cond_t rfl rfl h28 ?_
        refine cw_skip ?_
        refine ew_then ?_
        refine cw_seq ?_
        refine cw_block ?_
        refine cw_region ?_
        refine ow_vals 2 (j := 2) [0, 3, 15] [(0, .int .i64 x26), (3, .string s27), (15, .int .u8 (IntKind.u8.wrap (x26)))] rfl (by kernel_rfl) ?_
        refine ow_pw rfl (pw_buildSlice (E := 5) (eInt .u8) ([IntKind.u8.wrap (x26)] : List Int) rfl rfl rfl rfl rfl (by kernel_rfl) rfl (by kernel_rfl) rfl (by decide) rfl fun p29 => nw_ow ?_)
        refine ow_pw rfl (pw_quiet (v := .string (bstr ([IntKind.u8.wrap (x26)] : List Int))) rfl rfl rfl rfl (q_bytes_str_own 0 rfl rfl (by kernel_rfl) (by kernel_rfl) rfl) (nw_ow ?_))
        refine ow_vals 1 (j := 5) [0, 17, 18] [(0, .int .i64 x26), (17, .string (bstr ([IntKind.u8.wrap (x26)] : List Int))), (18, .string s27)] rfl (by kernel_rfl) ?_
        obtain ⟨h31, hF⟩ := chk_some hF
        refine ow_pw rfl (pw_quiet (v := .string ((bstr ([IntKind.u8.wrap (x26)] : List Int)) ++ s27)) rfl rfl rfl rfl (q_concat rfl rfl rfl h31) (nw_ow ?_))
        refine ow_vals 1 (j := 7) [0, 3] [(0, .int .i64 x26), (3, .string ((bstr ([IntKind.u8.wrap (x26)] : List Int)) ++ s27))] rfl (by kernel_rfl) ?_
        refine ow_end rfl ?_
        refine ew_blk ?_
        refine ew_then ?_
        refine cw_region ?_
        refine ow_vals 3 (j := 3) [0, 3] [(0, .int .i64 (x26.fdiv (2 ^ 8))), (3, .string ((bstr ([IntKind.u8.wrap (x26)] : List Int)) ++ s27))] rfl (by kernel_rfl) ?_
        refine ow_end rfl ?_
        have hR := Option.some.inj hF
        subst hR
        have hR := hL25
        try dsimp only at hR
        exact fun a w hf hs => ⟨k, Nat.lt_succ_self k, x26.fdiv (2 ^ 8), (bstr ([IntKind.u8.wrap (x26)] : List Int)) ++ s27, hR, hf.keep [0, 3], sat_to [0, 0] 1 rfl hs⟩
      · refine cw_cond_f rfl rfl h28 ?_
        refine cw_exit ?_
        refine ew_then_exit ?_
        refine ew_then_exit ?_
        refine ew_blk_exit ?_
        have hR := Option.some.inj hF
        subst hR
        have hR := hL25
        try dsimp only at hR
        exact fun a w hf hs => ⟨s27, hR, hf.keep [3], sat_to [0] 0 rfl hs⟩
    · rintro a w ⟨s32, hv, hf, hs⟩
      subst hv
      replace hF := hK24
      clear hK24
      try dsimp only at hF
      revert a w
      show CW _ _ _ 27 [(3, .string s32)] (SAT w0 ([imm I] ++ F0))
      unfold F.octet_Num.r3 at hF
      refine cw_seq ?_
      refine cw_region ?_
      refine ow_vals 3 (j := 3) [3, 22] [(3, .string s32), (22, .int .u8 (IntKind.u8.wrap ((s32.size : Int))))] rfl (by kernel_rfl) ?_
      refine ow_pw rfl (pw_buildSlice (E := 5) (eInt .u8) ([IntKind.u8.wrap ((s32.size : Int))] : List Int) rfl rfl rfl rfl rfl (by kernel_rfl) rfl (by kernel_rfl) rfl (by decide) rfl fun p33 => nw_ow ?_)
      refine ow_pw rfl (pw_quiet (v := .string (bstr ([IntKind.u8.wrap ((s32.size : Int))] : List Int))) rfl rfl rfl rfl (q_bytes_str_own 0 rfl rfl (by kernel_rfl) (by kernel_rfl) rfl) (nw_ow ?_))
      refine ow_vals 1 (j := 6) [24, 25] [(24, .string (bstr ([IntKind.u8.wrap ((s32.size : Int))] : List Int))), (25, .string s32)] rfl (by kernel_rfl) ?_
      obtain ⟨h35, hF⟩ := chk_some hF
      refine ow_pw rfl (pw_quiet (v := .string ((bstr ([IntKind.u8.wrap ((s32.size : Int))] : List Int)) ++ s32)) rfl rfl rfl rfl (q_concat rfl rfl rfl h35) (nw_ow ?_))
      refine ow_vals 1 (j := 8) [2] [(2, .string ((bstr ([IntKind.u8.wrap ((s32.size : Int))] : List Int)) ++ s32))] rfl (by kernel_rfl) ?_
      refine ow_end rfl ?_
      refine ew_then ?_
      refine cw_ret ?_
      have hR := Option.some.inj hF
      subst hR
      exact fin1 (H1 := [imm I]) (fun w hs => sat_to [0, 0] 1 rfl hs) rfl (rr_tmp rfl) ⟨rfl, rfl⟩


def F.octet_Text (x0 : ByteArray) : Option ByteArray :=
  Option.bind (F.octet_Num (x0.size : Int)) (fun (r21 : ByteArray) => chk (r21.size + x0.size ≤ 9223372036854775807) (some ((r21 ++ x0))))
set_option maxRecDepth 100000 in
set_option maxHeartbeats 4000000 in
theorem c_octet_Text (I : Hl) (x0 : ByteArray) (res : ByteArray) (hF : F.octet_Text x0 = some res) : Tr Try.prog 13 [.string x0] [imm I] (fun r H' => r = .string res ∧ H' = [imm I]) := by
  unfold F.octet_Text at hF
  refine tr_of_cw (fn := Try.f13) Try.func13 rfl (Nat.le_of_ble_eq_true rfl) 8 rfl fun F0 w0 => ?_
  refine cw_keep [0] (L' := [(0, .string x0)]) rfl ?_
  refine cw_state (S' := SAT w0 ([imm I] ++ F0)) (fun w hs => hs) ?_
  refine cw_seq ?_
  refine cw_region ?_
  refine ow_vals 1 (j := 1) [0] [(0, .string x0)] rfl (by kernel_rfl) ?_
  refine ow_end rfl ?_
  refine ew_then ?_
  refine cw_seq ?_
  refine cw_region ?_
  refine ow_vals 2 (j := 2) [0, 4] [(0, .string x0), (4, .int .i64 (x0.size : Int))] rfl (by kernel_rfl) ?_
  obtain ⟨r21, h22, hF⟩ := bind_some hF
  refine ow_pw rfl (pw_call (F := [] ++ F0) rfl rfl rfl rfl rfl rfl rfl (by kernel_rfl) (perm_of_pulls [0] rfl) (c_octet_Num _ (x0.size : Int) r21 h22) ?_)
  rintro _ _ ⟨rfl, rfl⟩
  refine nw_H (H' := [imm I] ++ F0) rfl (nw_ow ?_)
  refine ow_vals 1 (j := 4) [5, 6] [(5, .string r21), (6, .string x0)] rfl (by kernel_rfl) ?_
  obtain ⟨h23, hF⟩ := chk_some hF
  refine ow_pw rfl (pw_quiet (v := .string (r21 ++ x0)) rfl rfl rfl rfl (q_concat rfl rfl rfl h23) (nw_ow ?_))
  refine ow_vals 1 (j := 6) [2] [(2, .string (r21 ++ x0))] rfl (by kernel_rfl) ?_
  refine ow_end rfl ?_
  refine ew_then ?_
  refine cw_ret ?_
  have hR := Option.some.inj hF
  subst hR
  exact fin1 (H1 := [imm I]) (fun w hs => sat_to [0] 0 rfl hs) rfl (rr_tmp rfl) ⟨rfl, rfl⟩


def F.pledge_Of (x1 : ByteArray) (x2 : ByteArray) (x3 : ByteArray) (x4 : ByteArray) (m0 : mill_Mill) : Option (ByteArray × mill_Mill) :=
  Option.bind (F.octet_Text x1) (fun (r21 : ByteArray) => chk ((ByteArray.mk #[2]).size + r21.size ≤ 9223372036854775807) (Option.bind (F.octet_Text x2) (fun (r24 : ByteArray) => chk (((ByteArray.mk #[2]) ++ r21).size + r24.size ≤ 9223372036854775807) (Option.bind (F.octet_Text x3) (fun (r27 : ByteArray) => chk ((((ByteArray.mk #[2]) ++ r21) ++ r24).size + r27.size ≤ 9223372036854775807) (Option.bind (F.octet_Text x4) (fun (r30 : ByteArray) => chk (((((ByteArray.mk #[2]) ++ r21) ++ r24) ++ r27).size + r30.size ≤ 9223372036854775807) (Option.bind (F.mill_Mill_Sum (((((ByteArray.mk #[2]) ++ r21) ++ r24) ++ r27) ++ r30) m0) (fun (r33 : ByteArray × mill_Mill) => some ((r33.1, r33.2)))))))))))
set_option maxRecDepth 100000 in
set_option maxHeartbeats 4000000 in
theorem c_pledge_Of (I : Hl) (x1 : ByteArray) (x2 : ByteArray) (x3 : ByteArray) (x4 : ByteArray) (m0 : mill_Mill) (p0 : Nat) (p1 : Nat) (b0 : Nat) (res : ByteArray × mill_Mill) (hF : F.pledge_Of x1 x2 x3 x4 m0 = some res) : Tr Try.prog 22 [.pointer (some ⟨b0, 0, none⟩), .string x1, .string x2, .string x3, .string x4] [imm I, pt b0 #[.map (some p0), .map (some p1), .string m0.twins_.e0, .string m0.twins_.e1, .bool m0.found_, .bool m0.full_, .int .i64 m0.sums_] 54, mpo kStr kStr p0 m0.table_, mpo kStr kStr p1 m0.notes_] (fun r H' => ∃ (b1 : Nat), ∃ (b3 : Nat), r = .string res.1 ∧ H' = [imm I, pt b0 #[.map (some b1), .map (some b3), .string res.2.twins_.e0, .string res.2.twins_.e1, .bool res.2.found_, .bool res.2.full_, .int .i64 res.2.sums_] 54, mpo kStr kStr b1 res.2.table_, mpo kStr kStr b3 res.2.notes_]) := by
  unfold F.pledge_Of at hF
  refine tr_of_cw (fn := Try.f22) Try.func22 rfl (Nat.le_of_ble_eq_true rfl) 25 rfl fun F0 w0 => ?_
  refine cw_keep [0, 1, 2, 3, 4] (L' := [(0, .pointer (some ⟨b0, 0, none⟩)), (1, .string x1), (2, .string x2), (3, .string x3), (4, .string x4)]) rfl ?_
  refine cw_state (S' := SAT w0 ([imm I, pt b0 #[.map (some p0), .map (some p1), .string m0.twins_.e0, .string m0.twins_.e1, .bool m0.found_, .bool m0.full_, .int .i64 m0.sums_] 54, mpo kStr kStr p0 m0.table_, mpo kStr kStr p1 m0.notes_] ++ F0)) (fun w hs => hs) ?_
  refine cw_seq ?_
  refine cw_region ?_
  refine ow_vals 1 (j := 1) [0, 1, 2, 3, 4] [(0, .pointer (some ⟨b0, 0, none⟩)), (1, .string x1), (2, .string x2), (3, .string x3), (4, .string x4)] rfl (by kernel_rfl) ?_
  refine ow_end rfl ?_
  refine ew_then ?_
  refine cw_seq ?_
  refine cw_region ?_
  refine ow_vals 2 (j := 2) [2, 3, 4, 11, 12] [(2, .string x2), (3, .string x3), (4, .string x4), (11, .pointer (some ⟨b0, 0, none⟩)), (12, .string x1)] rfl (by kernel_rfl) ?_
  obtain ⟨r21, h22, hF⟩ := bind_some hF
  refine ow_pw rfl (pw_call (F := [pt b0 #[.map (some p0), .map (some p1), .string m0.twins_.e0, .string m0.twins_.e1, .bool m0.found_, .bool m0.full_, .int .i64 m0.sums_] 54, mpo kStr kStr p0 m0.table_, mpo kStr kStr p1 m0.notes_] ++ F0) rfl rfl rfl rfl rfl rfl rfl (by kernel_rfl) (perm_of_pulls [0] rfl) (c_octet_Text _ x1 r21 h22) ?_)
  rintro _ _ ⟨rfl, rfl⟩
  refine nw_H (H' := [imm I, pt b0 #[.map (some p0), .map (some p1), .string m0.twins_.e0, .string m0.twins_.e1, .bool m0.found_, .bool m0.full_, .int .i64 m0.sums_] 54, mpo kStr kStr p0 m0.table_, mpo kStr kStr p1 m0.notes_] ++ F0) rfl (nw_ow ?_)
  obtain ⟨h23, hF⟩ := chk_some hF
  refine ow_pw rfl (pw_quiet (v := .string ((ByteArray.mk #[2]) ++ r21)) rfl rfl rfl rfl (q_concat rfl rfl rfl h23) (nw_ow ?_))
  refine ow_vals 1 (j := 5) [3, 4, 11, 14, 15] [(3, .string x3), (4, .string x4), (11, .pointer (some ⟨b0, 0, none⟩)), (14, .string ((ByteArray.mk #[2]) ++ r21)), (15, .string x2)] rfl (by kernel_rfl) ?_
  obtain ⟨r24, h25, hF⟩ := bind_some hF
  refine ow_pw rfl (pw_call (F := [pt b0 #[.map (some p0), .map (some p1), .string m0.twins_.e0, .string m0.twins_.e1, .bool m0.found_, .bool m0.full_, .int .i64 m0.sums_] 54, mpo kStr kStr p0 m0.table_, mpo kStr kStr p1 m0.notes_] ++ F0) rfl rfl rfl rfl rfl rfl rfl (by kernel_rfl) (perm_of_pulls [0] rfl) (c_octet_Text _ x2 r24 h25) ?_)
  rintro _ _ ⟨rfl, rfl⟩
  refine nw_H (H' := [imm I, pt b0 #[.map (some p0), .map (some p1), .string m0.twins_.e0, .string m0.twins_.e1, .bool m0.found_, .bool m0.full_, .int .i64 m0.sums_] 54, mpo kStr kStr p0 m0.table_, mpo kStr kStr p1 m0.notes_] ++ F0) rfl (nw_ow ?_)
  obtain ⟨h26, hF⟩ := chk_some hF
  refine ow_pw rfl (pw_quiet (v := .string (((ByteArray.mk #[2]) ++ r21) ++ r24)) rfl rfl rfl rfl (q_concat rfl rfl rfl h26) (nw_ow ?_))
  refine ow_vals 1 (j := 8) [4, 11, 17, 18] [(4, .string x4), (11, .pointer (some ⟨b0, 0, none⟩)), (17, .string (((ByteArray.mk #[2]) ++ r21) ++ r24)), (18, .string x3)] rfl (by kernel_rfl) ?_
  obtain ⟨r27, h28, hF⟩ := bind_some hF
  refine ow_pw rfl (pw_call (F := [pt b0 #[.map (some p0), .map (some p1), .string m0.twins_.e0, .string m0.twins_.e1, .bool m0.found_, .bool m0.full_, .int .i64 m0.sums_] 54, mpo kStr kStr p0 m0.table_, mpo kStr kStr p1 m0.notes_] ++ F0) rfl rfl rfl rfl rfl rfl rfl (by kernel_rfl) (perm_of_pulls [0] rfl) (c_octet_Text _ x3 r27 h28) ?_)
  rintro _ _ ⟨rfl, rfl⟩
  refine nw_H (H' := [imm I, pt b0 #[.map (some p0), .map (some p1), .string m0.twins_.e0, .string m0.twins_.e1, .bool m0.found_, .bool m0.full_, .int .i64 m0.sums_] 54, mpo kStr kStr p0 m0.table_, mpo kStr kStr p1 m0.notes_] ++ F0) rfl (nw_ow ?_)
  obtain ⟨h29, hF⟩ := chk_some hF
  refine ow_pw rfl (pw_quiet (v := .string ((((ByteArray.mk #[2]) ++ r21) ++ r24) ++ r27)) rfl rfl rfl rfl (q_concat rfl rfl rfl h29) (nw_ow ?_))
  refine ow_vals 1 (j := 11) [11, 20, 21] [(11, .pointer (some ⟨b0, 0, none⟩)), (20, .string ((((ByteArray.mk #[2]) ++ r21) ++ r24) ++ r27)), (21, .string x4)] rfl (by kernel_rfl) ?_
  obtain ⟨r30, h31, hF⟩ := bind_some hF
  refine ow_pw rfl (pw_call (F := [pt b0 #[.map (some p0), .map (some p1), .string m0.twins_.e0, .string m0.twins_.e1, .bool m0.found_, .bool m0.full_, .int .i64 m0.sums_] 54, mpo kStr kStr p0 m0.table_, mpo kStr kStr p1 m0.notes_] ++ F0) rfl rfl rfl rfl rfl rfl rfl (by kernel_rfl) (perm_of_pulls [0] rfl) (c_octet_Text _ x4 r30 h31) ?_)
  rintro _ _ ⟨rfl, rfl⟩
  refine nw_H (H' := [imm I, pt b0 #[.map (some p0), .map (some p1), .string m0.twins_.e0, .string m0.twins_.e1, .bool m0.found_, .bool m0.full_, .int .i64 m0.sums_] 54, mpo kStr kStr p0 m0.table_, mpo kStr kStr p1 m0.notes_] ++ F0) rfl (nw_ow ?_)
  obtain ⟨h32, hF⟩ := chk_some hF
  refine ow_pw rfl (pw_quiet (v := .string (((((ByteArray.mk #[2]) ++ r21) ++ r24) ++ r27) ++ r30)) rfl rfl rfl rfl (q_concat rfl rfl rfl h32) (nw_ow ?_))
  obtain ⟨r33, h34, hF⟩ := bind_some hF
  refine ow_pw rfl (pw_call (F := [] ++ F0) rfl rfl rfl rfl rfl rfl rfl (by kernel_rfl) (perm_of_pulls [0, 0, 0, 0] rfl) (c_mill_Mill_Sum _ (((((ByteArray.mk #[2]) ++ r21) ++ r24) ++ r27) ++ r30) m0 p0 p1 b0 r33 h34) ?_)
  rintro _ _ ⟨r33_b1, r33_b3, rfl, rfl⟩
  refine nw_H (H' := [imm I, pt b0 #[.map (some r33_b1), .map (some r33_b3), .string r33.2.twins_.e0, .string r33.2.twins_.e1, .bool r33.2.found_, .bool r33.2.full_, .int .i64 r33.2.sums_] 54, mpo kStr kStr r33_b1 r33.2.table_, mpo kStr kStr r33_b3 r33.2.notes_] ++ F0) rfl (nw_ow ?_)
  refine ow_vals 1 (j := 15) [10] [(10, .string r33.1)] rfl (by kernel_rfl) ?_
  refine ow_end rfl ?_
  refine ew_then ?_
  refine cw_ret ?_
  have hR := Option.some.inj hF
  subst hR
  exact fin1 (H1 := [imm I, pt b0 #[.map (some r33_b1), .map (some r33_b3), .string r33.2.twins_.e0, .string r33.2.twins_.e1, .bool r33.2.found_, .bool r33.2.full_, .int .i64 r33.2.sums_] 54, mpo kStr kStr r33_b1 r33.2.table_, mpo kStr kStr r33_b3 r33.2.notes_]) (fun w hs => sat_to [0, 0, 0, 0] 0 rfl hs) rfl (rr_tmp rfl) ⟨r33_b1, r33_b3, rfl, rfl⟩


def F.pledge_Key (x1 : ByteArray) (m0 : mill_Mill) : Option ByteArray :=
  Option.bind (F.mill_Mill_Tag x1 (ByteArray.mk #[107, 101, 121]) m0) (fun (r21 : ByteArray) => some (r21))
set_option maxRecDepth 100000 in
set_option maxHeartbeats 4000000 in
theorem c_pledge_Key (I : Hl) (x1 : ByteArray) (m0 : mill_Mill) (p0 : Nat) (p1 : Nat) (b0 : Nat) (res : ByteArray) (hF : F.pledge_Key x1 m0 = some res) : Tr Try.prog 14 [.pointer (some ⟨b0, 0, none⟩), .string x1] [imm I, pt b0 #[.map (some p0), .map (some p1), .string m0.twins_.e0, .string m0.twins_.e1, .bool m0.found_, .bool m0.full_, .int .i64 m0.sums_] 54, mpo kStr kStr p0 m0.table_, mpo kStr kStr p1 m0.notes_] (fun r H' => r = .string res ∧ H' = [imm I, pt b0 #[.map (some p0), .map (some p1), .string m0.twins_.e0, .string m0.twins_.e1, .bool m0.found_, .bool m0.full_, .int .i64 m0.sums_] 54, mpo kStr kStr p0 m0.table_, mpo kStr kStr p1 m0.notes_]) := by
  unfold F.pledge_Key at hF
  refine tr_of_cw (fn := Try.f14) Try.func14 rfl (Nat.le_of_ble_eq_true rfl) 8 rfl fun F0 w0 => ?_
  refine cw_keep [0, 1] (L' := [(0, .pointer (some ⟨b0, 0, none⟩)), (1, .string x1)]) rfl ?_
  refine cw_state (S' := SAT w0 ([imm I, pt b0 #[.map (some p0), .map (some p1), .string m0.twins_.e0, .string m0.twins_.e1, .bool m0.found_, .bool m0.full_, .int .i64 m0.sums_] 54, mpo kStr kStr p0 m0.table_, mpo kStr kStr p1 m0.notes_] ++ F0)) (fun w hs => hs) ?_
  refine cw_seq ?_
  refine cw_region ?_
  refine ow_vals 1 (j := 1) [0, 1] [(0, .pointer (some ⟨b0, 0, none⟩)), (1, .string x1)] rfl (by kernel_rfl) ?_
  refine ow_end rfl ?_
  refine ew_then ?_
  refine cw_seq ?_
  refine cw_region ?_
  refine ow_vals 2 (j := 2) [5, 6] [(5, .pointer (some ⟨b0, 0, none⟩)), (6, .string x1)] rfl (by kernel_rfl) ?_
  obtain ⟨r21, h22, hF⟩ := bind_some hF
  refine ow_pw rfl (pw_call (F := [] ++ F0) rfl rfl rfl rfl rfl rfl rfl (by kernel_rfl) (perm_of_pulls [0, 0, 0, 0] rfl) (c_mill_Mill_Tag _ x1 (ByteArray.mk #[107, 101, 121]) m0 p0 p1 b0 r21 h22) ?_)
  rintro _ _ ⟨rfl, rfl⟩
  refine nw_H (H' := [imm I, pt b0 #[.map (some p0), .map (some p1), .string m0.twins_.e0, .string m0.twins_.e1, .bool m0.found_, .bool m0.full_, .int .i64 m0.sums_] 54, mpo kStr kStr p0 m0.table_, mpo kStr kStr p1 m0.notes_] ++ F0) rfl (nw_ow ?_)
  refine ow_vals 1 (j := 4) [4] [(4, .string r21)] rfl (by kernel_rfl) ?_
  refine ow_end rfl ?_
  refine ew_then ?_
  refine cw_ret ?_
  have hR := Option.some.inj hF
  subst hR
  exact fin1 (H1 := [imm I, pt b0 #[.map (some p0), .map (some p1), .string m0.twins_.e0, .string m0.twins_.e1, .bool m0.found_, .bool m0.full_, .int .i64 m0.sums_] 54, mpo kStr kStr p0 m0.table_, mpo kStr kStr p1 m0.notes_]) (fun w hs => sat_to [0, 0, 0, 0] 0 rfl hs) rfl (rr_tmp rfl) ⟨rfl, rfl⟩


def F.pledge_Salt (x1 : ByteArray) (x2 : ByteArray) (m0 : mill_Mill) : Option ByteArray :=
  Option.bind (F.octet_Text x2) (fun (r21 : ByteArray) => chk ((ByteArray.mk #[115, 97, 108, 116]).size + r21.size ≤ 9223372036854775807) (Option.bind (F.mill_Mill_Tag x1 ((ByteArray.mk #[115, 97, 108, 116]) ++ r21) m0) (fun (r24 : ByteArray) => chk (0 ≤ (0 : Int) ∧ (0 : Int) ≤ (if 16 < (r24.size : Int) then 16 else (r24.size : Int)) ∧ (if 16 < (r24.size : Int) then 16 else (r24.size : Int)) ≤ (r24.size : Int)) (some ((r24.extract (0 : Int).toNat (if 16 < (r24.size : Int) then 16 else (r24.size : Int)).toNat))))))
set_option maxRecDepth 100000 in
set_option maxHeartbeats 4000000 in
theorem c_pledge_Salt (I : Hl) (x1 : ByteArray) (x2 : ByteArray) (m0 : mill_Mill) (p0 : Nat) (p1 : Nat) (b0 : Nat) (res : ByteArray) (hF : F.pledge_Salt x1 x2 m0 = some res) : Tr Try.prog 15 [.pointer (some ⟨b0, 0, none⟩), .string x1, .string x2] [imm I, pt b0 #[.map (some p0), .map (some p1), .string m0.twins_.e0, .string m0.twins_.e1, .bool m0.found_, .bool m0.full_, .int .i64 m0.sums_] 54, mpo kStr kStr p0 m0.table_, mpo kStr kStr p1 m0.notes_] (fun r H' => r = .string res ∧ H' = [imm I, pt b0 #[.map (some p0), .map (some p1), .string m0.twins_.e0, .string m0.twins_.e1, .bool m0.found_, .bool m0.full_, .int .i64 m0.sums_] 54, mpo kStr kStr p0 m0.table_, mpo kStr kStr p1 m0.notes_]) := by
  unfold F.pledge_Salt at hF
  refine tr_of_cw (fn := Try.f15) Try.func15 rfl (Nat.le_of_ble_eq_true rfl) 19 rfl fun F0 w0 => ?_
  refine cw_keep [0, 1, 2] (L' := [(0, .pointer (some ⟨b0, 0, none⟩)), (1, .string x1), (2, .string x2)]) rfl ?_
  refine cw_state (S' := SAT w0 ([imm I, pt b0 #[.map (some p0), .map (some p1), .string m0.twins_.e0, .string m0.twins_.e1, .bool m0.found_, .bool m0.full_, .int .i64 m0.sums_] 54, mpo kStr kStr p0 m0.table_, mpo kStr kStr p1 m0.notes_] ++ F0)) (fun w hs => hs) ?_
  refine cw_seq ?_
  refine cw_region ?_
  refine ow_vals 1 (j := 1) [0, 1, 2] [(0, .pointer (some ⟨b0, 0, none⟩)), (1, .string x1), (2, .string x2)] rfl (by kernel_rfl) ?_
  refine ow_end rfl ?_
  refine ew_then ?_
  refine cw_seq ?_
  refine cw_region ?_
  refine ow_vals 3 (j := 3) [8, 9, 10] [(8, .pointer (some ⟨b0, 0, none⟩)), (9, .string x1), (10, .string x2)] rfl (by kernel_rfl) ?_
  obtain ⟨r21, h22, hF⟩ := bind_some hF
  refine ow_pw rfl (pw_call (F := [pt b0 #[.map (some p0), .map (some p1), .string m0.twins_.e0, .string m0.twins_.e1, .bool m0.found_, .bool m0.full_, .int .i64 m0.sums_] 54, mpo kStr kStr p0 m0.table_, mpo kStr kStr p1 m0.notes_] ++ F0) rfl rfl rfl rfl rfl rfl rfl (by kernel_rfl) (perm_of_pulls [0] rfl) (c_octet_Text _ x2 r21 h22) ?_)
  rintro _ _ ⟨rfl, rfl⟩
  refine nw_H (H' := [imm I, pt b0 #[.map (some p0), .map (some p1), .string m0.twins_.e0, .string m0.twins_.e1, .bool m0.found_, .bool m0.full_, .int .i64 m0.sums_] 54, mpo kStr kStr p0 m0.table_, mpo kStr kStr p1 m0.notes_] ++ F0) rfl (nw_ow ?_)
  obtain ⟨h23, hF⟩ := chk_some hF
  refine ow_pw rfl (pw_quiet (v := .string ((ByteArray.mk #[115, 97, 108, 116]) ++ r21)) rfl rfl rfl rfl (q_concat rfl rfl rfl h23) (nw_ow ?_))
  obtain ⟨r24, h25, hF⟩ := bind_some hF
  refine ow_pw rfl (pw_call (F := [] ++ F0) rfl rfl rfl rfl rfl rfl rfl (by kernel_rfl) (perm_of_pulls [0, 0, 0, 0] rfl) (c_mill_Mill_Tag _ x1 ((ByteArray.mk #[115, 97, 108, 116]) ++ r21) m0 p0 p1 b0 r24 h25) ?_)
  rintro _ _ ⟨rfl, rfl⟩
  refine nw_H (H' := [imm I, pt b0 #[.map (some p0), .map (some p1), .string m0.twins_.e0, .string m0.twins_.e1, .bool m0.found_, .bool m0.full_, .int .i64 m0.sums_] 54, mpo kStr kStr p0 m0.table_, mpo kStr kStr p1 m0.notes_] ++ F0) rfl (nw_ow ?_)
  refine ow_vals 1 (j := 7) [7] [(7, .string r24)] rfl (by kernel_rfl) ?_
  refine ow_end rfl ?_
  refine ew_then ?_
  refine cw_seq ?_
  refine cw_region ?_
  refine ow_vals 4 (j := 4) [14, 17] [(14, .string r24), (17, .int .i64 (if 16 < (r24.size : Int) then 16 else (r24.size : Int)))] rfl (by kernel_rfl) ?_
  obtain ⟨h26, hF⟩ := chk_some hF
  refine ow_pw rfl (pw_quiet (v := .string (r24.extract (0 : Int).toNat (if 16 < (r24.size : Int) then 16 else (r24.size : Int)).toNat)) rfl rfl rfl rfl (q_slice_str rfl (by kernel_rfl) rfl rfl rfl h26.1 h26.2.1 h26.2.2) (nw_ow ?_))
  refine ow_vals 1 (j := 6) [6] [(6, .string (r24.extract (0 : Int).toNat (if 16 < (r24.size : Int) then 16 else (r24.size : Int)).toNat))] rfl (by kernel_rfl) ?_
  refine ow_end rfl ?_
  refine ew_then ?_
  refine cw_ret ?_
  have hR := Option.some.inj hF
  subst hR
  exact fin1 (H1 := [imm I, pt b0 #[.map (some p0), .map (some p1), .string m0.twins_.e0, .string m0.twins_.e1, .bool m0.found_, .bool m0.full_, .int .i64 m0.sums_] 54, mpo kStr kStr p0 m0.table_, mpo kStr kStr p1 m0.notes_]) (fun w hs => sat_to [0, 0, 0, 0] 0 rfl hs) rfl (rr_tmp rfl) ⟨rfl, rfl⟩


def F.pledge_label (x0 : ByteArray) : Option ByteArray :=
  Option.bind (F.octet_Text x0) (fun (r21 : ByteArray) => chk ((ByteArray.mk #[102, 105, 101, 108, 100]).size + r21.size ≤ 9223372036854775807) (some (((ByteArray.mk #[102, 105, 101, 108, 100]) ++ r21))))
set_option maxRecDepth 100000 in
set_option maxHeartbeats 4000000 in
theorem c_pledge_label (I : Hl) (x0 : ByteArray) (res : ByteArray) (hF : F.pledge_label x0 = some res) : Tr Try.prog 35 [.string x0] [imm I] (fun r H' => r = .string res ∧ H' = [imm I]) := by
  unfold F.pledge_label at hF
  refine tr_of_cw (fn := Try.f35) Try.func35 rfl (Nat.le_of_ble_eq_true rfl) 6 rfl fun F0 w0 => ?_
  refine cw_keep [0] (L' := [(0, .string x0)]) rfl ?_
  refine cw_state (S' := SAT w0 ([imm I] ++ F0)) (fun w hs => hs) ?_
  refine cw_seq ?_
  refine cw_region ?_
  refine ow_vals 1 (j := 1) [0] [(0, .string x0)] rfl (by kernel_rfl) ?_
  refine ow_end rfl ?_
  refine ew_then ?_
  refine cw_seq ?_
  refine cw_region ?_
  refine ow_vals 1 (j := 1) [3] [(3, .string x0)] rfl (by kernel_rfl) ?_
  obtain ⟨r21, h22, hF⟩ := bind_some hF
  refine ow_pw rfl (pw_call (F := [] ++ F0) rfl rfl rfl rfl rfl rfl rfl (by kernel_rfl) (perm_of_pulls [0] rfl) (c_octet_Text _ x0 r21 h22) ?_)
  rintro _ _ ⟨rfl, rfl⟩
  refine nw_H (H' := [imm I] ++ F0) rfl (nw_ow ?_)
  obtain ⟨h23, hF⟩ := chk_some hF
  refine ow_pw rfl (pw_quiet (v := .string ((ByteArray.mk #[102, 105, 101, 108, 100]) ++ r21)) rfl rfl rfl rfl (q_concat rfl rfl rfl h23) (nw_ow ?_))
  refine ow_vals 1 (j := 4) [2] [(2, .string ((ByteArray.mk #[102, 105, 101, 108, 100]) ++ r21))] rfl (by kernel_rfl) ?_
  refine ow_end rfl ?_
  refine ew_then ?_
  refine cw_ret ?_
  have hR := Option.some.inj hF
  subst hR
  exact fin1 (H1 := [imm I]) (fun w hs => sat_to [0] 0 rfl hs) rfl (rr_tmp rfl) ⟨rfl, rfl⟩


def F.pledge_Shut (x1 : ByteArray) (x2 : ByteArray) (x3 : ByteArray) (x4 : ByteArray) (m0 : mill_Mill) : Option ByteArray :=
  Option.bind (F.pledge_label x2) (fun (r21 : ByteArray) => chk (x3.size + x4.size ≤ 9223372036854775807) (Option.bind (F.mill_Mill_Veil x1 r21 (x3 ++ x4) m0) (fun (r24 : ByteArray) => some (r24))))
set_option maxRecDepth 100000 in
set_option maxHeartbeats 4000000 in
theorem c_pledge_Shut (I : Hl) (x1 : ByteArray) (x2 : ByteArray) (x3 : ByteArray) (x4 : ByteArray) (m0 : mill_Mill) (p0 : Nat) (p1 : Nat) (b0 : Nat) (res : ByteArray) (hF : F.pledge_Shut x1 x2 x3 x4 m0 = some res) : Tr Try.prog 17 [.pointer (some ⟨b0, 0, none⟩), .string x1, .string x2, .string x3, .string x4] [imm I, pt b0 #[.map (some p0), .map (some p1), .string m0.twins_.e0, .string m0.twins_.e1, .bool m0.found_, .bool m0.full_, .int .i64 m0.sums_] 54, mpo kStr kStr p0 m0.table_, mpo kStr kStr p1 m0.notes_] (fun r H' => r = .string res ∧ H' = [imm I, pt b0 #[.map (some p0), .map (some p1), .string m0.twins_.e0, .string m0.twins_.e1, .bool m0.found_, .bool m0.full_, .int .i64 m0.sums_] 54, mpo kStr kStr p0 m0.table_, mpo kStr kStr p1 m0.notes_]) := by
  unfold F.pledge_Shut at hF
  refine tr_of_cw (fn := Try.f17) Try.func17 rfl (Nat.le_of_ble_eq_true rfl) 19 rfl fun F0 w0 => ?_
  refine cw_keep [0, 1, 2, 3, 4] (L' := [(0, .pointer (some ⟨b0, 0, none⟩)), (1, .string x1), (2, .string x2), (3, .string x3), (4, .string x4)]) rfl ?_
  refine cw_state (S' := SAT w0 ([imm I, pt b0 #[.map (some p0), .map (some p1), .string m0.twins_.e0, .string m0.twins_.e1, .bool m0.found_, .bool m0.full_, .int .i64 m0.sums_] 54, mpo kStr kStr p0 m0.table_, mpo kStr kStr p1 m0.notes_] ++ F0)) (fun w hs => hs) ?_
  refine cw_seq ?_
  refine cw_region ?_
  refine ow_vals 1 (j := 1) [0, 1, 2, 3, 4] [(0, .pointer (some ⟨b0, 0, none⟩)), (1, .string x1), (2, .string x2), (3, .string x3), (4, .string x4)] rfl (by kernel_rfl) ?_
  refine ow_end rfl ?_
  refine ew_then ?_
  refine cw_seq ?_
  refine cw_region ?_
  refine ow_vals 3 (j := 3) [3, 4, 11, 12, 13] [(3, .string x3), (4, .string x4), (11, .pointer (some ⟨b0, 0, none⟩)), (12, .string x1), (13, .string x2)] rfl (by kernel_rfl) ?_
  obtain ⟨r21, h22, hF⟩ := bind_some hF
  refine ow_pw rfl (pw_call (F := [pt b0 #[.map (some p0), .map (some p1), .string m0.twins_.e0, .string m0.twins_.e1, .bool m0.found_, .bool m0.full_, .int .i64 m0.sums_] 54, mpo kStr kStr p0 m0.table_, mpo kStr kStr p1 m0.notes_] ++ F0) rfl rfl rfl rfl rfl rfl rfl (by kernel_rfl) (perm_of_pulls [0] rfl) (c_pledge_label _ x2 r21 h22) ?_)
  rintro _ _ ⟨rfl, rfl⟩
  refine nw_H (H' := [imm I, pt b0 #[.map (some p0), .map (some p1), .string m0.twins_.e0, .string m0.twins_.e1, .bool m0.found_, .bool m0.full_, .int .i64 m0.sums_] 54, mpo kStr kStr p0 m0.table_, mpo kStr kStr p1 m0.notes_] ++ F0) rfl (nw_ow ?_)
  refine ow_vals 2 (j := 6) [11, 12, 14, 15, 16] [(11, .pointer (some ⟨b0, 0, none⟩)), (12, .string x1), (14, .string r21), (15, .string x3), (16, .string x4)] rfl (by kernel_rfl) ?_
  obtain ⟨h23, hF⟩ := chk_some hF
  refine ow_pw rfl (pw_quiet (v := .string (x3 ++ x4)) rfl rfl rfl rfl (q_concat rfl rfl rfl h23) (nw_ow ?_))
  obtain ⟨r24, h25, hF⟩ := bind_some hF
  refine ow_pw rfl (pw_call (F := [] ++ F0) rfl rfl rfl rfl rfl rfl rfl (by kernel_rfl) (perm_of_pulls [0, 0, 0, 0] rfl) (c_mill_Mill_Veil _ x1 r21 (x3 ++ x4) m0 p0 p1 b0 r24 h25) ?_)
  rintro _ _ ⟨rfl, rfl⟩
  refine nw_H (H' := [imm I, pt b0 #[.map (some p0), .map (some p1), .string m0.twins_.e0, .string m0.twins_.e1, .bool m0.found_, .bool m0.full_, .int .i64 m0.sums_] 54, mpo kStr kStr p0 m0.table_, mpo kStr kStr p1 m0.notes_] ++ F0) rfl (nw_ow ?_)
  refine ow_vals 1 (j := 9) [10] [(10, .string r24)] rfl (by kernel_rfl) ?_
  refine ow_end rfl ?_
  refine ew_then ?_
  refine cw_ret ?_
  have hR := Option.some.inj hF
  subst hR
  exact fin1 (H1 := [imm I, pt b0 #[.map (some p0), .map (some p1), .string m0.twins_.e0, .string m0.twins_.e1, .bool m0.found_, .bool m0.full_, .int .i64 m0.sums_] 54, mpo kStr kStr p0 m0.table_, mpo kStr kStr p1 m0.notes_]) (fun w hs => sat_to [0, 0, 0, 0] 0 rfl hs) rfl (rr_tmp rfl) ⟨rfl, rfl⟩


def F.pledge_Open (x1 : ByteArray) (x2 : ByteArray) (x3 : ByteArray) (m0 : mill_Mill) : Option (ByteArray × ByteArray × Bool) :=
  Option.bind (F.pledge_label x2) (fun (r21 : ByteArray) => Option.bind (F.mill_Mill_Veil x1 r21 x3 m0) (fun (r23 : ByteArray) => if decide ((r23.size : Int) < 16) then (some (((ByteArray.mk #[]), (ByteArray.mk #[]), false))) else (chk (0 ≤ (0 : Int) ∧ (0 : Int) ≤ (16 : Int) ∧ (16 : Int) ≤ (r23.size : Int)) (chk (0 ≤ (16 : Int) ∧ (16 : Int) ≤ (r23.size : Int) ∧ (r23.size : Int) ≤ (r23.size : Int)) (some ((r23.extract (0 : Int).toNat (16 : Int).toNat, r23.extract (16 : Int).toNat (r23.size : Int).toNat, true)))))))
set_option maxRecDepth 100000 in
set_option maxHeartbeats 4000000 in
theorem c_pledge_Open (I : Hl) (x1 : ByteArray) (x2 : ByteArray) (x3 : ByteArray) (m0 : mill_Mill) (p0 : Nat) (p1 : Nat) (b0 : Nat) (res : ByteArray × ByteArray × Bool) (hF : F.pledge_Open x1 x2 x3 m0 = some res) : Tr Try.prog 18 [.pointer (some ⟨b0, 0, none⟩), .string x1, .string x2, .string x3] [imm I, pt b0 #[.map (some p0), .map (some p1), .string m0.twins_.e0, .string m0.twins_.e1, .bool m0.found_, .bool m0.full_, .int .i64 m0.sums_] 54, mpo kStr kStr p0 m0.table_, mpo kStr kStr p1 m0.notes_] (fun r H' => r = .tuple #[.string res.1, .string res.2.1, .bool res.2.2] ∧ H' = [imm I, pt b0 #[.map (some p0), .map (some p1), .string m0.twins_.e0, .string m0.twins_.e1, .bool m0.found_, .bool m0.full_, .int .i64 m0.sums_] 54, mpo kStr kStr p0 m0.table_, mpo kStr kStr p1 m0.notes_]) := by
  unfold F.pledge_Open at hF
  refine tr_of_cw (fn := Try.f18) Try.func18 rfl (Nat.le_of_ble_eq_true rfl) 25 rfl fun F0 w0 => ?_
  refine cw_keep [0, 1, 2, 3] (L' := [(0, .pointer (some ⟨b0, 0, none⟩)), (1, .string x1), (2, .string x2), (3, .string x3)]) rfl ?_
  refine cw_state (S' := SAT w0 ([imm I, pt b0 #[.map (some p0), .map (some p1), .string m0.twins_.e0, .string m0.twins_.e1, .bool m0.found_, .bool m0.full_, .int .i64 m0.sums_] 54, mpo kStr kStr p0 m0.table_, mpo kStr kStr p1 m0.notes_] ++ F0)) (fun w hs => hs) ?_
  refine cw_seq ?_
  refine cw_region ?_
  refine ow_vals 3 (j := 3) [0, 1, 2, 3] [(0, .pointer (some ⟨b0, 0, none⟩)), (1, .string x1), (2, .string x2), (3, .string x3)] rfl (by kernel_rfl) ?_
  refine ow_end rfl ?_
  refine ew_then ?_
  refine cw_seq ?_
  refine cw_region ?_
  refine ow_vals 3 (j := 3) [3, 12, 13, 14] [(3, .string x3), (12, .pointer (some ⟨b0, 0, none⟩)), (13, .string x1), (14, .string x2)] rfl (by kernel_rfl) ?_
  obtain ⟨r21, h22, hF⟩ := bind_some hF
  refine ow_pw rfl (pw_call (F := [pt b0 #[.map (some p0), .map (some p1), .string m0.twins_.e0, .string m0.twins_.e1, .bool m0.found_, .bool m0.full_, .int .i64 m0.sums_] 54, mpo kStr kStr p0 m0.table_, mpo kStr kStr p1 m0.notes_] ++ F0) rfl rfl rfl rfl rfl rfl rfl (by kernel_rfl) (perm_of_pulls [0] rfl) (c_pledge_label _ x2 r21 h22) ?_)
  rintro _ _ ⟨rfl, rfl⟩
  refine nw_H (H' := [imm I, pt b0 #[.map (some p0), .map (some p1), .string m0.twins_.e0, .string m0.twins_.e1, .bool m0.found_, .bool m0.full_, .int .i64 m0.sums_] 54, mpo kStr kStr p0 m0.table_, mpo kStr kStr p1 m0.notes_] ++ F0) rfl (nw_ow ?_)
  refine ow_vals 1 (j := 5) [12, 13, 15, 16] [(12, .pointer (some ⟨b0, 0, none⟩)), (13, .string x1), (15, .string r21), (16, .string x3)] rfl (by kernel_rfl) ?_
  obtain ⟨r23, h24, hF⟩ := bind_some hF
  refine ow_pw rfl (pw_call (F := [] ++ F0) rfl rfl rfl rfl rfl rfl rfl (by kernel_rfl) (perm_of_pulls [0, 0, 0, 0] rfl) (c_mill_Mill_Veil _ x1 r21 x3 m0 p0 p1 b0 r23 h24) ?_)
  rintro _ _ ⟨rfl, rfl⟩
  refine nw_H (H' := [imm I, pt b0 #[.map (some p0), .map (some p1), .string m0.twins_.e0, .string m0.twins_.e1, .bool m0.found_, .bool m0.full_, .int .i64 m0.sums_] 54, mpo kStr kStr p0 m0.table_, mpo kStr kStr p1 m0.notes_] ++ F0) rfl (nw_ow ?_)
  refine ow_vals 1 (j := 7) [11] [(11, .string r23)] rfl (by kernel_rfl) ?_
  refine ow_end rfl ?_
  refine ew_then ?_
  refine cw_seq ?_
  refine cw_seq ?_
  refine cw_region ?_
  refine ow_vals 3 (j := 3) [11, 20] [(11, .string r23), (20, .bool (decide ((r23.size : Int) < 16)))] rfl (by kernel_rfl) ?_
  refine ow_end rfl ?_
  refine ew_then ?_
  rcases if_some hF with ⟨h25, hF⟩ | ⟨h25, hF⟩
  · refine cw_cond_t rfl rfl h25 ?_
    refine cw_seq ?_
    refine cw_region ?_
    refine ow_vals 3 (j := 3) [8, 9, 10] [(8, .string (ByteArray.mk #[])), (9, .string (ByteArray.mk #[])), (10, .bool false)] rfl (by kernel_rfl) ?_
    refine ow_end rfl ?_
    refine ew_then ?_
    refine cw_ret ?_
    refine ew_then_ret ?_
    have hR := Option.some.inj hF
    subst hR
    exact fin3 (H1 := [imm I, pt b0 #[.map (some p0), .map (some p1), .string m0.twins_.e0, .string m0.twins_.e1, .bool m0.found_, .bool m0.full_, .int .i64 m0.sums_] 54, mpo kStr kStr p0 m0.table_, mpo kStr kStr p1 m0.notes_]) (fun w hs => sat_to [0, 0, 0, 0] 0 rfl hs) rfl (rr_tmp rfl) (rr_tmp rfl) (rr_tmp rfl) ⟨rfl, rfl⟩
  · refine cw_cond_f rfl rfl h25 ?_
    refine cw_skip ?_
    refine ew_then ?_
    refine cw_seq ?_
    refine cw_open 7 (SAT w0 ([imm I, pt b0 #[.map (some p0), .map (some p1), .string m0.twins_.e0, .string m0.twins_.e1, .bool m0.found_, .bool m0.full_, .int .i64 m0.sums_] 54, mpo kStr kStr p0 m0.table_, mpo kStr kStr p1 m0.notes_])) (by kernel_rfl) (f := 7) rfl (fun w hs => sat_drew hs) ?_
    refine aw_vals [0, 2] (f' := 5) (m' := 5) [21, 23] [(21, .string r23), (23, .string r23)] (fun _ _ _ _ _ h => calm_fin (P := Try.prog) (fn := Try.f18) _ _ _ _ _ h) (fun w hs => sat_pulls [0, 0, 0, 0] (G := [] ++ F0) rfl hs) rfl (by kernel_rfl) ?_
    obtain ⟨h26, hF⟩ := chk_some hF
    refine aw_pure 1 (m' := 7) (v := .string (r23.extract (0 : Int).toNat (16 : Int).toNat)) rfl rfl rfl rfl (by kernel_rfl) (by kernel_rfl) (fun _ _ _ _ _ h => calm_fin (P := Try.prog) (fn := Try.f18) _ _ _ _ _ h) (fun w hs => sat_pulls [0, 0, 0, 0] (G := [] ++ F0) rfl hs) (q_slice_str rfl (by kernel_rfl) rfl rfl rfl h26.1 h26.2.1 h26.2.2) ?_
    refine aw_vals [4] (f' := 3) (m' := 23) [8, 23] [(8, .string (r23.extract (0 : Int).toNat (16 : Int).toNat)), (23, .string r23)] (fun _ _ _ _ _ h => calm_fin (P := Try.prog) (fn := Try.f18) _ _ _ _ _ h) (fun w hs => sat_pulls [0, 0, 0, 0] (G := [] ++ F0) rfl hs) rfl (by kernel_rfl) ?_
    obtain ⟨h27, hF⟩ := chk_some hF
    refine aw_pure 3 (m' := 31) (v := .string (r23.extract (16 : Int).toNat (r23.size : Int).toNat)) rfl rfl rfl rfl (by kernel_rfl) (by kernel_rfl) (fun _ _ _ _ _ h => calm_fin (P := Try.prog) (fn := Try.f18) _ _ _ _ _ h) (fun w hs => sat_pulls [0, 0, 0, 0] (G := [] ++ F0) rfl hs) (q_slice_str rfl (by kernel_rfl) rfl rfl rfl h27.1 h27.2.1 h27.2.2) ?_
    refine aw_vals [5, 6] (f' := 0) (m' := 127) [8, 9, 10] [(8, .string (r23.extract (0 : Int).toNat (16 : Int).toNat)), (9, .string (r23.extract (16 : Int).toNat (r23.size : Int).toNat)), (10, .bool true)] (fun _ _ _ _ _ h => calm_fin (P := Try.prog) (fn := Try.f18) _ _ _ _ _ h) (fun w hs => sat_pulls [0, 0, 0, 0] (G := [] ++ F0) rfl hs) rfl (by kernel_rfl) ?_
    refine aw_keep [8, 9, 10] (L' := [(8, .string (r23.extract (0 : Int).toNat (16 : Int).toNat)), (9, .string (r23.extract (16 : Int).toNat (r23.size : Int).toNat)), (10, .bool true)]) rfl ?_
    refine aw_end (by kernel_rfl) ?_
    refine ew_then ?_
    refine cw_ret ?_
    have hR := Option.some.inj hF
    subst hR
    exact fin3 (H1 := [imm I, pt b0 #[.map (some p0), .map (some p1), .string m0.twins_.e0, .string m0.twins_.e1, .bool m0.found_, .bool m0.full_, .int .i64 m0.sums_] 54, mpo kStr kStr p0 m0.table_, mpo kStr kStr p1 m0.notes_]) (fun w hs => sat_to [0, 0, 0, 0] 0 rfl hs) rfl (rr_tmp rfl) (rr_tmp rfl) (rr_tmp rfl) ⟨rfl, rfl⟩


def F.pledge_Slip (x1 : ByteArray) (x2 : ByteArray) (x3 : ByteArray) (x4 : ByteArray) (m0 : mill_Mill) : Option (api_Slip × mill_Mill) :=
  Option.bind (F.pledge_Salt x1 x3 m0) (fun (r23 : ByteArray) => Option.bind (F.pledge_Of x2 x3 r23 x4 m0) (fun (r25 : ByteArray × mill_Mill) => Option.bind (F.pledge_Key x1 r25.2) (fun (r29 : ByteArray) => Option.bind (F.pledge_Shut r29 x3 r23 x4 r25.2) (fun (r31 : ByteArray) => some (((⟨x3, r25.1, r31, false⟩ : api_Slip), r25.2))))))
set_option maxRecDepth 100000 in
set_option maxHeartbeats 4000000 in
theorem c_pledge_Slip (I : Hl) (x1 : ByteArray) (x2 : ByteArray) (x3 : ByteArray) (x4 : ByteArray) (m0 : mill_Mill) (p0 : Nat) (p1 : Nat) (b0 : Nat) (res : api_Slip × mill_Mill) (hF : F.pledge_Slip x1 x2 x3 x4 m0 = some res) : Tr Try.prog 20 [.pointer (some ⟨b0, 0, none⟩), .string x1, .string x2, .string x3, .string x4] [imm I, pt b0 #[.map (some p0), .map (some p1), .string m0.twins_.e0, .string m0.twins_.e1, .bool m0.found_, .bool m0.full_, .int .i64 m0.sums_] 54, mpo kStr kStr p0 m0.table_, mpo kStr kStr p1 m0.notes_] (fun r H' => ∃ (b1 : Nat), ∃ (b3 : Nat), r = .agg #[.string res.1.Name, .string res.1.Pledge, .string res.1.Cipher, .bool res.1.Erased] ∧ H' = [imm I, pt b0 #[.map (some b1), .map (some b3), .string res.2.twins_.e0, .string res.2.twins_.e1, .bool res.2.found_, .bool res.2.full_, .int .i64 res.2.sums_] 54, mpo kStr kStr b1 res.2.table_, mpo kStr kStr b3 res.2.notes_]) := by
  unfold F.pledge_Slip at hF
  refine tr_of_cw (fn := Try.f20) Try.func20 rfl (Nat.le_of_ble_eq_true rfl) 32 rfl fun F0 w0 => ?_
  refine cw_keep [0, 1, 2, 3, 4] (L' := [(0, .pointer (some ⟨b0, 0, none⟩)), (1, .string x1), (2, .string x2), (3, .string x3), (4, .string x4)]) rfl ?_
  refine cw_state (S' := SAT w0 ([imm I, pt b0 #[.map (some p0), .map (some p1), .string m0.twins_.e0, .string m0.twins_.e1, .bool m0.found_, .bool m0.full_, .int .i64 m0.sums_] 54, mpo kStr kStr p0 m0.table_, mpo kStr kStr p1 m0.notes_] ++ F0)) (fun w hs => hs) ?_
  refine cw_seq ?_
  refine cw_region ?_
  refine ow_pw rfl (pw_alloc (cs := #[.string (ByteArray.mk #[]), .string (ByteArray.mk #[]), .string (ByteArray.mk #[]), .bool false]) rfl rfl rfl rfl rfl (by kernel_rfl) fun b21 => nw_ow ?_)
  refine ow_end rfl ?_
  refine ew_then ?_
  refine cw_seq ?_
  refine cw_region ?_
  refine ow_vals 3 (j := 3) [0, 1, 2, 3, 4, 10, 12, 13, 14] [(0, .pointer (some ⟨b0, 0, none⟩)), (1, .string x1), (2, .string x2), (3, .string x3), (4, .string x4), (10, .pointer (some ⟨b21, 0, none⟩)), (12, .pointer (some ⟨b0, 0, none⟩)), (13, .string x1), (14, .string x3)] rfl (by kernel_rfl) ?_
  obtain ⟨r23, h24, hF⟩ := bind_some hF
  refine ow_pw rfl (pw_call (F := [pt b21 #[.string (ByteArray.mk #[]), .string (ByteArray.mk #[]), .string (ByteArray.mk #[]), .bool false] 36] ++ F0) rfl rfl rfl rfl rfl rfl rfl (by kernel_rfl) (perm_of_pulls [1, 1, 1, 1] rfl) (c_pledge_Salt _ x1 x3 m0 p0 p1 b0 r23 h24) ?_)
  rintro _ _ ⟨rfl, rfl⟩
  refine nw_H (H' := [imm I, pt b0 #[.map (some p0), .map (some p1), .string m0.twins_.e0, .string m0.twins_.e1, .bool m0.found_, .bool m0.full_, .int .i64 m0.sums_] 54, mpo kStr kStr p0 m0.table_, mpo kStr kStr p1 m0.notes_, pt b21 #[.string (ByteArray.mk #[]), .string (ByteArray.mk #[]), .string (ByteArray.mk #[]), .bool false] 36] ++ F0) rfl (nw_ow ?_)
  refine ow_vals 1 (j := 5) [0, 1, 2, 3, 4, 10, 11] [(0, .pointer (some ⟨b0, 0, none⟩)), (1, .string x1), (2, .string x2), (3, .string x3), (4, .string x4), (10, .pointer (some ⟨b21, 0, none⟩)), (11, .string r23)] rfl (by kernel_rfl) ?_
  refine ow_end rfl ?_
  refine ew_then ?_
  refine cw_seq ?_
  refine cw_region ?_
  refine ow_vals 6 (j := 6) [0, 1, 3, 4, 10, 11, 16, 17, 18, 19, 20, 21] [(0, .pointer (some ⟨b0, 0, none⟩)), (1, .string x1), (3, .string x3), (4, .string x4), (10, .pointer (some ⟨b21, 0, none⟩)), (11, .string r23), (16, .string x3), (17, .pointer (some ⟨b0, 0, none⟩)), (18, .string x2), (19, .string x3), (20, .string r23), (21, .string x4)] rfl (by kernel_rfl) ?_
  obtain ⟨r25, h26, hF⟩ := bind_some hF
  refine ow_pw rfl (pw_call (F := [pt b21 #[.string (ByteArray.mk #[]), .string (ByteArray.mk #[]), .string (ByteArray.mk #[]), .bool false] 36] ++ F0) rfl rfl rfl rfl rfl rfl rfl (by kernel_rfl) (perm_of_pulls [0, 0, 0, 0] rfl) (c_pledge_Of _ x2 x3 r23 x4 m0 p0 p1 b0 r25 h26) ?_)
  rintro _ _ ⟨r25_b1, r25_b3, rfl, rfl⟩
  refine nw_H (H' := [imm I, pt b0 #[.map (some r25_b1), .map (some r25_b3), .string r25.2.twins_.e0, .string r25.2.twins_.e1, .bool r25.2.found_, .bool r25.2.full_, .int .i64 r25.2.sums_] 54, mpo kStr kStr r25_b1 r25.2.table_, mpo kStr kStr r25_b3 r25.2.notes_, pt b21 #[.string (ByteArray.mk #[]), .string (ByteArray.mk #[]), .string (ByteArray.mk #[]), .bool false] 36] ++ F0) rfl (nw_ow ?_)
  refine ow_vals 3 (j := 10) [3, 4, 10, 11, 16, 22, 23, 24, 25] [(3, .string x3), (4, .string x4), (10, .pointer (some ⟨b21, 0, none⟩)), (11, .string r23), (16, .string x3), (22, .string r25.1), (23, .pointer (some ⟨b0, 0, none⟩)), (24, .pointer (some ⟨b0, 0, none⟩)), (25, .string x1)] rfl (by kernel_rfl) ?_
  obtain ⟨r29, h30, hF⟩ := bind_some hF
  refine ow_pw rfl (pw_call (F := [pt b21 #[.string (ByteArray.mk #[]), .string (ByteArray.mk #[]), .string (ByteArray.mk #[]), .bool false] 36] ++ F0) rfl rfl rfl rfl rfl rfl rfl (by kernel_rfl) (perm_of_pulls [0, 0, 0, 0] rfl) (c_pledge_Key _ x1 r25.2 r25_b1 r25_b3 b0 r29 h30) ?_)
  rintro _ _ ⟨rfl, rfl⟩
  refine nw_H (H' := [imm I, pt b0 #[.map (some r25_b1), .map (some r25_b3), .string r25.2.twins_.e0, .string r25.2.twins_.e1, .bool r25.2.found_, .bool r25.2.full_, .int .i64 r25.2.sums_] 54, mpo kStr kStr r25_b1 r25.2.table_, mpo kStr kStr r25_b3 r25.2.notes_, pt b21 #[.string (ByteArray.mk #[]), .string (ByteArray.mk #[]), .string (ByteArray.mk #[]), .bool false] 36] ++ F0) rfl (nw_ow ?_)
  refine ow_vals 3 (j := 14) [10, 16, 22, 23, 26, 27, 28, 29] [(10, .pointer (some ⟨b21, 0, none⟩)), (16, .string x3), (22, .string r25.1), (23, .pointer (some ⟨b0, 0, none⟩)), (26, .string r29), (27, .string x3), (28, .string r23), (29, .string x4)] rfl (by kernel_rfl) ?_
  obtain ⟨r31, h32, hF⟩ := bind_some hF
  refine ow_pw rfl (pw_call (F := [pt b21 #[.string (ByteArray.mk #[]), .string (ByteArray.mk #[]), .string (ByteArray.mk #[]), .bool false] 36] ++ F0) rfl rfl rfl rfl rfl rfl rfl (by kernel_rfl) (perm_of_pulls [0, 0, 0, 0] rfl) (c_pledge_Shut _ r29 x3 r23 x4 r25.2 r25_b1 r25_b3 b0 r31 h32) ?_)
  rintro _ _ ⟨rfl, rfl⟩
  refine nw_H (H' := [imm I, pt b0 #[.map (some r25_b1), .map (some r25_b3), .string r25.2.twins_.e0, .string r25.2.twins_.e1, .bool r25.2.found_, .bool r25.2.full_, .int .i64 r25.2.sums_] 54, mpo kStr kStr r25_b1 r25.2.table_, mpo kStr kStr r25_b3 r25.2.notes_, pt b21 #[.string (ByteArray.mk #[]), .string (ByteArray.mk #[]), .string (ByteArray.mk #[]), .bool false] 36] ++ F0) rfl (nw_ow ?_)
  refine ow_vals 1 (j := 16) [10, 31] [(10, .pointer (some ⟨b21, 0, none⟩)), (31, .agg #[.string x3, .string r25.1, .string r31, .bool false])] rfl (by kernel_rfl) ?_
  refine ow_pw rfl (pw_store 4 #[.string x3, .string r25.1, .string r31, .bool false] rfl rfl rfl rfl rfl rfl rfl (by kernel_rfl) (nw_H (H' := [imm I, pt b0 #[.map (some r25_b1), .map (some r25_b3), .string r25.2.twins_.e0, .string r25.2.twins_.e1, .bool r25.2.found_, .bool r25.2.full_, .int .i64 r25.2.sums_] 54, mpo kStr kStr r25_b1 r25.2.table_, mpo kStr kStr r25_b3 r25.2.notes_, pt b21 #[.string x3, .string r25.1, .string r31, .bool false] 36] ++ F0) rfl (nw_ow ?_)))
  refine ow_end rfl ?_
  refine ew_then ?_
  refine cw_ret ?_
  have hR := Option.some.inj hF
  subst hR
  exact fin1 (H1 := [imm I, pt b0 #[.map (some r25_b1), .map (some r25_b3), .string r25.2.twins_.e0, .string r25.2.twins_.e1, .bool r25.2.found_, .bool r25.2.full_, .int .i64 r25.2.sums_] 54, mpo kStr kStr r25_b1 r25.2.table_, mpo kStr kStr r25_b3 r25.2.notes_]) (fun w hs => sat_to [4, 0, 0, 0, 0] 1 rfl hs) rfl (rr_cell 4 rfl rfl (by kernel_rfl)) ⟨r25_b1, r25_b3, rfl, rfl⟩


def F.pledge_Kept.r1 (r24 : ByteArray × ByteArray × Bool) (l33 : List (ByteArray × ByteArray)) (l36 : List (ByteArray × ByteArray)) (s39 : ByteArray) (s40 : ByteArray) (x41 : Bool) (x42 : Bool) (x43 : Int) : Option (ByteArray × ByteArray × Bool × mill_Mill) :=
  some ((r24.1, r24.2.1, true, (⟨l33, l36, (⟨s39, s40⟩ : A2_ByteArray), x41, x42, x43⟩ : mill_Mill)))
def F.pledge_Kept (x1 : ByteArray) (x2 : ByteArray) (x3 : api_Slip) (m0 : mill_Mill) : Option (ByteArray × ByteArray × Bool × mill_Mill) :=
  if x3.Erased then (some (((ByteArray.mk #[]), (ByteArray.mk #[]), false, m0))) else (Option.bind (F.pledge_Open x1 x3.Name x3.Cipher m0) (fun (r24 : ByteArray × ByteArray × Bool) => thru (if !r24.2.2 then (some (.inr (((ByteArray.mk #[]), (ByteArray.mk #[]), false, m0)))) else (Option.bind (F.pledge_Of x2 x3.Name r24.1 r24.2.1 m0) (fun (r28 : ByteArray × mill_Mill) => if !(seqB r28.1 x3.Pledge) then (some (.inr (((ByteArray.mk #[]), (ByteArray.mk #[]), false, r28.2)))) else (some (.inl (r28.2.table_, r28.2.notes_, r28.2.twins_.e0, r28.2.twins_.e1, r28.2.found_, r28.2.full_, r28.2.sums_)))))) (fun x => F.pledge_Kept.r1 r24 x.1 x.2.1 x.2.2.1 x.2.2.2.1 x.2.2.2.2.1 x.2.2.2.2.2.1 x.2.2.2.2.2.2)))
set_option maxRecDepth 100000 in
set_option maxHeartbeats 4000000 in
theorem c_pledge_Kept (I : Hl) (x1 : ByteArray) (x2 : ByteArray) (x3 : api_Slip) (m0 : mill_Mill) (p0 : Nat) (p1 : Nat) (b0 : Nat) (res : ByteArray × ByteArray × Bool × mill_Mill) (hF : F.pledge_Kept x1 x2 x3 m0 = some res) : Tr Try.prog 21 [.pointer (some ⟨b0, 0, none⟩), .string x1, .string x2, .agg #[.string x3.Name, .string x3.Pledge, .string x3.Cipher, .bool x3.Erased]] [imm I, pt b0 #[.map (some p0), .map (some p1), .string m0.twins_.e0, .string m0.twins_.e1, .bool m0.found_, .bool m0.full_, .int .i64 m0.sums_] 54, mpo kStr kStr p0 m0.table_, mpo kStr kStr p1 m0.notes_] (fun r H' => ∃ (b1 : Nat), ∃ (b3 : Nat), r = .tuple #[.string res.1, .string res.2.1, .bool res.2.2.1] ∧ H' = [imm I, pt b0 #[.map (some b1), .map (some b3), .string res.2.2.2.twins_.e0, .string res.2.2.2.twins_.e1, .bool res.2.2.2.found_, .bool res.2.2.2.full_, .int .i64 res.2.2.2.sums_] 54, mpo kStr kStr b1 res.2.2.2.table_, mpo kStr kStr b3 res.2.2.2.notes_]) := by
  unfold F.pledge_Kept at hF
  refine tr_of_cw (fn := Try.f21) Try.func21 rfl (Nat.le_of_ble_eq_true rfl) 43 rfl fun F0 w0 => ?_
  refine cw_keep [0, 1, 2, 3] (L' := [(0, .pointer (some ⟨b0, 0, none⟩)), (1, .string x1), (2, .string x2), (3, .agg #[.string x3.Name, .string x3.Pledge, .string x3.Cipher, .bool x3.Erased])]) rfl ?_
  refine cw_state (S' := SAT w0 ([imm I, pt b0 #[.map (some p0), .map (some p1), .string m0.twins_.e0, .string m0.twins_.e1, .bool m0.found_, .bool m0.full_, .int .i64 m0.sums_] 54, mpo kStr kStr p0 m0.table_, mpo kStr kStr p1 m0.notes_] ++ F0)) (fun w hs => hs) ?_
  refine cw_seq ?_
  refine cw_region ?_
  refine ow_pw rfl (pw_box (cs := #[.string x3.Name, .string x3.Pledge, .string x3.Cipher, .bool x3.Erased]) rfl rfl rfl rfl rfl rfl fun b21 => nw_ow ?_)
  refine ow_vals 3 (j := 4) [0, 1, 2, 7] [(0, .pointer (some ⟨b0, 0, none⟩)), (1, .string x1), (2, .string x2), (7, .pointer (some ⟨b21, 0, none⟩))] rfl (by kernel_rfl) ?_
  refine ow_end rfl ?_
  refine ew_then ?_
  refine cw_seq ?_
  refine cw_seq ?_
  refine cw_region ?_
  refine ow_vals 1 (j := 1) [0, 1, 2, 7, 14] [(0, .pointer (some ⟨b0, 0, none⟩)), (1, .string x1), (2, .string x2), (7, .pointer (some ⟨b21, 0, none⟩)), (14, .pointer (some ⟨b21, 3, none⟩))] rfl (by kernel_rfl) ?_
  refine ow_pw rfl (pw_quiet (v := .bool x3.Erased) rfl rfl rfl rfl (q_load 0 rfl rfl rfl (by kernel_rfl)) (nw_ow ?_))
  refine ow_end rfl ?_
  refine ew_then ?_
  rcases if_some hF with ⟨h23, hF⟩ | ⟨h23, hF⟩
  · refine cw_cond_t rfl rfl h23 ?_
    refine cw_seq ?_
    refine cw_region ?_
    refine ow_vals 3 (j := 3) [8, 9, 10] [(8, .string (ByteArray.mk #[])), (9, .string (ByteArray.mk #[])), (10, .bool false)] rfl (by kernel_rfl) ?_
    refine ow_end rfl ?_
    refine ew_then ?_
    refine cw_ret ?_
    refine ew_then_ret ?_
    have hR := Option.some.inj hF
    subst hR
    exact fin3 (H1 := [imm I, pt b0 #[.map (some p0), .map (some p1), .string m0.twins_.e0, .string m0.twins_.e1, .bool m0.found_, .bool m0.full_, .int .i64 m0.sums_] 54, mpo kStr kStr p0 m0.table_, mpo kStr kStr p1 m0.notes_]) (fun w hs => sat_to [0, 0, 0, 0, 0] 1 rfl hs) rfl (rr_tmp rfl) (rr_tmp rfl) (rr_tmp rfl) ⟨p0, p1, rfl, rfl⟩
  · refine cw_cond_f rfl rfl h23 ?_
    refine cw_skip ?_
    refine ew_then ?_
    refine cw_seq ?_
    refine cw_region ?_
    refine ow_vals 3 (j := 3) [0, 2, 7, 17, 18, 19] [(0, .pointer (some ⟨b0, 0, none⟩)), (2, .string x2), (7, .pointer (some ⟨b21, 0, none⟩)), (17, .pointer (some ⟨b0, 0, none⟩)), (18, .string x1), (19, .pointer (some ⟨b21, 0, none⟩))] rfl (by kernel_rfl) ?_
    refine ow_pw rfl (pw_quiet (v := .string x3.Name) rfl rfl rfl rfl (q_load 0 rfl rfl rfl (by kernel_rfl)) (nw_ow ?_))
    refine ow_vals 1 (j := 5) [0, 2, 7, 17, 18, 20, 21] [(0, .pointer (some ⟨b0, 0, none⟩)), (2, .string x2), (7, .pointer (some ⟨b21, 0, none⟩)), (17, .pointer (some ⟨b0, 0, none⟩)), (18, .string x1), (20, .string x3.Name), (21, .pointer (some ⟨b21, 2, none⟩))] rfl (by kernel_rfl) ?_
    refine ow_pw rfl (pw_quiet (v := .string x3.Cipher) rfl rfl rfl rfl (q_load 0 rfl rfl rfl (by kernel_rfl)) (nw_ow ?_))
    obtain ⟨r24, h25, hF⟩ := bind_some hF
    refine ow_pw rfl (pw_call (F := [pt b21 #[.string x3.Name, .string x3.Pledge, .string x3.Cipher, .bool x3.Erased] 36] ++ F0) rfl rfl rfl rfl rfl rfl rfl (by kernel_rfl) (perm_of_pulls [1, 1, 1, 1] rfl) (c_pledge_Open _ x1 x3.Name x3.Cipher m0 p0 p1 b0 r24 h25) ?_)
    rintro _ _ ⟨rfl, rfl⟩
    refine nw_H (H' := [imm I, pt b0 #[.map (some p0), .map (some p1), .string m0.twins_.e0, .string m0.twins_.e1, .bool m0.found_, .bool m0.full_, .int .i64 m0.sums_] 54, mpo kStr kStr p0 m0.table_, mpo kStr kStr p1 m0.notes_, pt b21 #[.string x3.Name, .string x3.Pledge, .string x3.Cipher, .bool x3.Erased] 36] ++ F0) rfl (nw_ow ?_)
    refine ow_vals 7 (j := 14) [0, 2, 7, 11, 12, 13] [(0, .pointer (some ⟨b0, 0, none⟩)), (2, .string x2), (7, .pointer (some ⟨b21, 0, none⟩)), (11, .string r24.1), (12, .string r24.2.1), (13, .bool r24.2.2)] rfl (by kernel_rfl) ?_
    refine ow_end rfl ?_
    refine ew_then ?_
    obtain ⟨v26, hF, hK26⟩ := thru_some hF
    refine cw_mid (fun a w => ∃ (l33 : List (ByteArray × ByteArray)), ∃ (l36 : List (ByteArray × ByteArray)), ∃ (s39 : ByteArray), ∃ (s40 : ByteArray), ∃ (x41 : Bool), ∃ (x42 : Bool), ∃ (x43 : Int), ∃ (b35 : Nat), ∃ (b38 : Nat), .inl (l33, l36, s39, s40, x41, x42, x43) = v26 ∧ Fr 43 [(11, .string r24.1), (12, .string r24.2.1)] a ∧ SAT w0 ([imm I, pt b0 #[.map (some b35), .map (some b38), .string s39, .string s40, .bool x41, .bool x42, .int .i64 x43] 54, pt b21 #[.string x3.Name, .string x3.Pledge, .string x3.Cipher, .bool x3.Erased] 36, mpo kStr kStr b35 l33, mpo kStr kStr b38 l36] ++ F0) w) ?_ ?_
    · refine cw_seq ?_
      refine cw_open 14 (SAT w0 ([imm I, pt b21 #[.string x3.Name, .string x3.Pledge, .string x3.Cipher, .bool x3.Erased] 36])) (by kernel_rfl) (f := 14) rfl (fun w hs => sat_drew hs) ?_
      refine aw_vals [0, 1, 2] (f' := 11) (m' := 7) [0, 2, 7, 11, 12, 29] [(0, .pointer (some ⟨b0, 0, none⟩)), (2, .string x2), (7, .pointer (some ⟨b21, 0, none⟩)), (11, .string r24.1), (12, .string r24.2.1), (29, .bool (!r24.2.2))] (fun _ _ _ _ _ h => calm_fin (P := Try.prog) (fn := Try.f21) _ _ _ _ _ h) (fun w hs => sat_pulls [0, 3] (G := [pt b0 #[.map (some p0), .map (some p1), .string m0.twins_.e0, .string m0.twins_.e1, .bool m0.found_, .bool m0.full_, .int .i64 m0.sums_] 54, mpo kStr kStr p0 m0.table_, mpo kStr kStr p1 m0.notes_] ++ F0) rfl hs) rfl (by kernel_rfl) ?_
      rcases if_some hF with ⟨h27, hF⟩ | ⟨h27, hF⟩
      · refine aw_slots (L' := [(0, .pointer (some ⟨b0, 0, none⟩)), (2, .string x2), (7, .pointer (some ⟨b21, 0, none⟩)), (11, .string r24.1), (12, .string r24.2.1), (29, .bool true)]) (by rw [h27]) ?_
        refine aw_vals [3, 4, 5, 6, 7, 8, 9, 10, 11, 12, 13] (f' := 0) (m' := 16383) [11, 12, 40] [(11, .string r24.1), (12, .string r24.2.1), (40, .bool true)] (fun _ _ _ _ _ h => calm_fin (P := Try.prog) (fn := Try.f21) _ _ _ _ _ h) (fun w hs => sat_pulls [0, 3] (G := [pt b0 #[.map (some p0), .map (some p1), .string m0.twins_.e0, .string m0.twins_.e1, .bool m0.found_, .bool m0.full_, .int .i64 m0.sums_] 54, mpo kStr kStr p0 m0.table_, mpo kStr kStr p1 m0.notes_] ++ F0) rfl hs) rfl (by kernel_rfl) ?_
        refine aw_keep [11, 12, 40] (L' := [(11, .string r24.1), (12, .string r24.2.1), (40, .bool true)]) rfl ?_
        refine aw_end (by kernel_rfl) ?_
        refine ew_then ?_
        refine cw_cond_t rfl rfl rfl ?_
        refine cw_seq ?_
        refine cw_region ?_
        refine ow_vals 3 (j := 3) [8, 9, 10] [(8, .string (ByteArray.mk #[])), (9, .string (ByteArray.mk #[])), (10, .bool false)] rfl (by kernel_rfl) ?_
        refine ow_end rfl ?_
        refine ew_then ?_
        refine cw_ret ?_
        refine ew_then_ret ?_
        have hR := Option.some.inj hF
        subst hR
        have hR := hK26
        try dsimp only [Thru] at hR
        subst hR
        exact fin3 (H1 := [imm I, pt b0 #[.map (some p0), .map (some p1), .string m0.twins_.e0, .string m0.twins_.e1, .bool m0.found_, .bool m0.full_, .int .i64 m0.sums_] 54, mpo kStr kStr p0 m0.table_, mpo kStr kStr p1 m0.notes_]) (fun w hs => sat_to [4, 0, 0, 0, 0] 1 rfl hs) rfl (rr_tmp rfl) (rr_tmp rfl) (rr_tmp rfl) ⟨p0, p1, rfl, rfl⟩
      · refine aw_slots (L' := [(0, .pointer (some ⟨b0, 0, none⟩)), (2, .string x2), (7, .pointer (some ⟨b21, 0, none⟩)), (11, .string r24.1), (12, .string r24.2.1), (29, .bool false)]) (by rw [h27]) ?_
        refine aw_vals [3, 4, 5, 7, 8, 10] (f' := 5) (m' := 1471) [11, 12, 29, 30, 31, 32, 34, 35, 37] [(11, .string r24.1), (12, .string r24.2.1), (29, .bool false), (30, .pointer (some ⟨b0, 0, none⟩)), (31, .string x2), (32, .pointer (some ⟨b21, 0, none⟩)), (34, .string r24.1), (35, .string r24.2.1), (37, .pointer (some ⟨b21, 1, none⟩))] (fun _ _ _ _ _ h => calm_fin (P := Try.prog) (fn := Try.f21) _ _ _ _ _ h) (fun w hs => sat_pulls [0, 3] (G := [pt b0 #[.map (some p0), .map (some p1), .string m0.twins_.e0, .string m0.twins_.e1, .bool m0.found_, .bool m0.full_, .int .i64 m0.sums_] 54, mpo kStr kStr p0 m0.table_, mpo kStr kStr p1 m0.notes_] ++ F0) rfl hs) rfl (by kernel_rfl) ?_
        refine aw_quiet 6 (m' := 1535) (v := .string x3.Name) 0 [] rfl rfl rfl rfl (by kernel_rfl) (by kernel_rfl) (by kernel_rfl) (fun _ _ _ _ _ h => calm_fin (P := Try.prog) (fn := Try.f21) _ _ _ _ _ h) (fun w hs => sat_pulls [0, 3] (G := [pt b0 #[.map (some p0), .map (some p1), .string m0.twins_.e0, .string m0.twins_.e1, .bool m0.found_, .bool m0.full_, .int .i64 m0.sums_] 54, mpo kStr kStr p0 m0.table_, mpo kStr kStr p1 m0.notes_] ++ F0) rfl hs) (q_load 1 rfl rfl rfl (by kernel_rfl)) ?_
        refine aw_quiet 11 (m' := 3583) (v := .string x3.Pledge) 0 [] rfl rfl rfl rfl (by kernel_rfl) (by kernel_rfl) (by kernel_rfl) (fun _ _ _ _ _ h => calm_fin (P := Try.prog) (fn := Try.f21) _ _ _ _ _ h) (fun w hs => sat_pulls [0, 3] (G := [pt b0 #[.map (some p0), .map (some p1), .string m0.twins_.e0, .string m0.twins_.e1, .bool m0.found_, .bool m0.full_, .int .i64 m0.sums_] 54, mpo kStr kStr p0 m0.table_, mpo kStr kStr p1 m0.notes_] ++ F0) rfl hs) (q_load 1 rfl rfl rfl (by kernel_rfl)) ?_
        obtain ⟨r28, h29, hF⟩ := bind_some hF
        refine aw_only 9 (m' := 4095) (by kernel_rfl) (by kernel_rfl) (pw_call (F := [pt b21 #[.string x3.Name, .string x3.Pledge, .string x3.Cipher, .bool x3.Erased] 36] ++ F0) rfl rfl rfl rfl rfl rfl rfl (by kernel_rfl) (perm_of_pulls [0, 0, 0, 0] rfl) (c_pledge_Of _ x2 x3.Name r24.1 r24.2.1 m0 p0 p1 b0 r28 h29) ?_)
        rintro _ _ ⟨r28_b1, r28_b3, rfl, rfl⟩
        refine nw_H (H' := [imm I, pt b0 #[.map (some r28_b1), .map (some r28_b3), .string r28.2.twins_.e0, .string r28.2.twins_.e1, .bool r28.2.found_, .bool r28.2.full_, .int .i64 r28.2.sums_] 54, mpo kStr kStr r28_b1 r28.2.table_, mpo kStr kStr r28_b3 r28.2.notes_, pt b21 #[.string x3.Name, .string x3.Pledge, .string x3.Cipher, .bool x3.Erased] 36] ++ F0) rfl (aw_next (fun w hs => sat_pulls [0, 3] (G := [pt b0 #[.map (some r28_b1), .map (some r28_b3), .string r28.2.twins_.e0, .string r28.2.twins_.e1, .bool r28.2.found_, .bool r28.2.full_, .int .i64 r28.2.sums_] 54, mpo kStr kStr r28_b1 r28.2.table_, mpo kStr kStr r28_b3 r28.2.notes_] ++ F0) rfl hs) ?_)
        refine aw_vals [12, 13] (f' := 0) (m' := 16383) [11, 12, 40] [(11, .string r24.1), (12, .string r24.2.1), (40, .bool (!(seqB r28.1 x3.Pledge)))] (fun _ _ _ _ _ h => calm_fin (P := Try.prog) (fn := Try.f21) _ _ _ _ _ h) (fun w hs => sat_pulls [0, 3] (G := [pt b0 #[.map (some r28_b1), .map (some r28_b3), .string r28.2.twins_.e0, .string r28.2.twins_.e1, .bool r28.2.found_, .bool r28.2.full_, .int .i64 r28.2.sums_] 54, mpo kStr kStr r28_b1 r28.2.table_, mpo kStr kStr r28_b3 r28.2.notes_] ++ F0) rfl hs) rfl (by kernel_rfl) ?_
        refine aw_keep [11, 12, 40] (L' := [(11, .string r24.1), (12, .string r24.2.1), (40, .bool (!(seqB r28.1 x3.Pledge)))]) rfl ?_
        refine aw_end (by kernel_rfl) ?_
        refine ew_then ?_
        rcases if_some hF with ⟨h32, hF⟩ | ⟨h32, hF⟩
        · refine cw_cond_t rfl rfl h32 ?_
          refine cw_seq ?_
          refine cw_region ?_
          refine ow_vals 3 (j := 3) [8, 9, 10] [(8, .string (ByteArray.mk #[])), (9, .string (ByteArray.mk #[])), (10, .bool false)] rfl (by kernel_rfl) ?_
          refine ow_end rfl ?_
          refine ew_then ?_
          refine cw_ret ?_
          refine ew_then_ret ?_
          have hR := Option.some.inj hF
          subst hR
          have hR := hK26
          try dsimp only [Thru] at hR
          subst hR
          exact fin3 (H1 := [imm I, pt b0 #[.map (some r28_b1), .map (some r28_b3), .string r28.2.twins_.e0, .string r28.2.twins_.e1, .bool r28.2.found_, .bool r28.2.full_, .int .i64 r28.2.sums_] 54, mpo kStr kStr r28_b1 r28.2.table_, mpo kStr kStr r28_b3 r28.2.notes_]) (fun w hs => sat_to [4, 0, 0, 0, 0] 1 rfl hs) rfl (rr_tmp rfl) (rr_tmp rfl) (rr_tmp rfl) ⟨r28_b1, r28_b3, rfl, rfl⟩
        · refine cw_cond_f rfl rfl h32 ?_
          refine cw_skip ?_
          have hR := Option.some.inj hF
          exact fun a w hf hs => ⟨r28.2.table_, r28.2.notes_, r28.2.twins_.e0, r28.2.twins_.e1, r28.2.found_, r28.2.full_, r28.2.sums_, r28_b1, r28_b3, hR, hf.keep [11, 12], sat_to [0, 0, 2, 0, 0] 0 rfl hs⟩
    · rintro a w ⟨l33, l36, s39, s40, x41, x42, x43, b35, b38, hv, hf, hs⟩
      subst hv
      replace hF := hK26
      clear hK26
      try dsimp only [Thru] at hF
      revert a w
      show CW _ _ _ 43 [(11, .string r24.1), (12, .string r24.2.1)] (SAT w0 ([imm I, pt b0 #[.map (some b35), .map (some b38), .string s39, .string s40, .bool x41, .bool x42, .int .i64 x43] 54, pt b21 #[.string x3.Name, .string x3.Pledge, .string x3.Cipher, .bool x3.Erased] 36, mpo kStr kStr b35 l33, mpo kStr kStr b38 l36] ++ F0))
      unfold F.pledge_Kept.r1 at hF
      refine cw_seq ?_
      refine cw_region ?_
      refine ow_vals 5 (j := 5) [8, 9, 10] [(8, .string r24.1), (9, .string r24.2.1), (10, .bool true)] rfl (by kernel_rfl) ?_
      refine ow_end rfl ?_
      refine ew_then ?_
      refine cw_ret ?_
      have hR := Option.some.inj hF
      subst hR
      exact fin3 (H1 := [imm I, pt b0 #[.map (some b35), .map (some b38), .string (((⟨l33, l36, (⟨s39, s40⟩ : A2_ByteArray), x41, x42, x43⟩ : mill_Mill).twins_).e0), .string (((⟨l33, l36, (⟨s39, s40⟩ : A2_ByteArray), x41, x42, x43⟩ : mill_Mill).twins_).e1), .bool ((⟨l33, l36, (⟨s39, s40⟩ : A2_ByteArray), x41, x42, x43⟩ : mill_Mill).found_), .bool ((⟨l33, l36, (⟨s39, s40⟩ : A2_ByteArray), x41, x42, x43⟩ : mill_Mill).full_), .int .i64 ((⟨l33, l36, (⟨s39, s40⟩ : A2_ByteArray), x41, x42, x43⟩ : mill_Mill).sums_)] 54, mpo kStr kStr b35 ((⟨l33, l36, (⟨s39, s40⟩ : A2_ByteArray), x41, x42, x43⟩ : mill_Mill).table_), mpo kStr kStr b38 ((⟨l33, l36, (⟨s39, s40⟩ : A2_ByteArray), x41, x42, x43⟩ : mill_Mill).notes_)]) (fun w hs => sat_to [2, 0, 0, 0, 0] 1 rfl hs) rfl (rr_tmp rfl) (rr_tmp rfl) (rr_tmp rfl) ⟨b35, b38, rfl, rfl⟩


def F.law06_awake : Option Bool :=
  Option.bind (F.mill_New) (fun (r21 : mill_Mill) => Option.bind (F.pledge_Key (ByteArray.mk #[100, 114, 97, 119]) r21) (fun (r26 : ByteArray) => Option.bind (F.pledge_Slip (ByteArray.mk #[100, 114, 97, 119]) (ByteArray.mk #[105, 100]) (ByteArray.mk #[110]) (ByteArray.mk #[120]) r21) (fun (r28 : api_Slip × mill_Mill) => Option.bind (F.pledge_Kept r26 (ByteArray.mk #[105, 100]) r28.1 r28.2) (fun (r32 : ByteArray × ByteArray × Bool × mill_Mill) => if r32.2.2.1 then (if seqB r32.2.1 (ByteArray.mk #[120]) then (Option.bind (F.pledge_Salt (ByteArray.mk #[100, 114, 97, 119]) (ByteArray.mk #[110]) r32.2.2.2) (fun (r38 : ByteArray) => if seqB r32.1 r38 then (some (((r32.1.size : Int) == 16))) else (some (false)))) else (some (false))) else (some (false))))))
set_option maxRecDepth 100000 in
set_option maxHeartbeats 4000000 in
theorem c_law06_awake (I : Hl) (res : Bool) (hF : F.law06_awake = some res) : Tr Try.prog 16 [] [imm I] (fun r H' => r = .bool res ∧ H' = [imm I]) := by
  unfold F.law06_awake at hF
  refine tr_of_cw (fn := Try.f16) Try.func16 rfl (Nat.le_of_ble_eq_true rfl) 32 rfl fun F0 w0 => ?_
  refine cw_keep [] (L' := []) rfl ?_
  refine cw_state (S' := SAT w0 ([imm I] ++ F0)) (fun w hs => hs) ?_
  refine cw_seq ?_
  refine cw_region ?_
  refine ow_vals 1 (j := 1) [] [] rfl (by kernel_rfl) ?_
  refine ow_end rfl ?_
  refine ew_then ?_
  refine cw_seq ?_
  refine cw_region ?_
  obtain ⟨r21, h22, hF⟩ := bind_some hF
  refine ow_pw rfl (pw_call (F := [] ++ F0) rfl rfl rfl rfl rfl rfl rfl (by kernel_rfl) (perm_of_pulls [0] rfl) (c_mill_New _ r21 h22) ?_)
  rintro _ _ ⟨r21_b1, r21_b3, r21_b5, rfl, rfl⟩
  refine nw_H (H' := [imm I, pt r21_b1 #[.map (some r21_b3), .map (some r21_b5), .string r21.twins_.e0, .string r21.twins_.e1, .bool r21.found_, .bool r21.full_, .int .i64 r21.sums_] 54, mpo kStr kStr r21_b3 r21.table_, mpo kStr kStr r21_b5 r21.notes_] ++ F0) rfl (nw_ow ?_)
  refine ow_vals 1 (j := 2) [1] [(1, .pointer (some ⟨r21_b1, 0, none⟩))] rfl (by kernel_rfl) ?_
  refine ow_end rfl ?_
  refine ew_then ?_
  refine cw_seq ?_
  refine cw_region ?_
  refine ow_vals 2 (j := 2) [1, 7, 8] [(1, .pointer (some ⟨r21_b1, 0, none⟩)), (7, .pointer (some ⟨r21_b1, 0, none⟩)), (8, .pointer (some ⟨r21_b1, 0, none⟩))] rfl (by kernel_rfl) ?_
  obtain ⟨r26, h27, hF⟩ := bind_some hF
  refine ow_pw rfl (pw_call (F := [] ++ F0) rfl rfl rfl rfl rfl rfl rfl (by kernel_rfl) (perm_of_pulls [0, 0, 0, 0] rfl) (c_pledge_Key _ (ByteArray.mk #[100, 114, 97, 119]) r21 r21_b3 r21_b5 r21_b1 r26 h27) ?_)
  rintro _ _ ⟨rfl, rfl⟩
  refine nw_H (H' := [imm I, pt r21_b1 #[.map (some r21_b3), .map (some r21_b5), .string r21.twins_.e0, .string r21.twins_.e1, .bool r21.found_, .bool r21.full_, .int .i64 r21.sums_] 54, mpo kStr kStr r21_b3 r21.table_, mpo kStr kStr r21_b5 r21.notes_] ++ F0) rfl (nw_ow ?_)
  refine ow_vals 1 (j := 4) [1, 7, 9, 10] [(1, .pointer (some ⟨r21_b1, 0, none⟩)), (7, .pointer (some ⟨r21_b1, 0, none⟩)), (9, .string r26), (10, .pointer (some ⟨r21_b1, 0, none⟩))] rfl (by kernel_rfl) ?_
  obtain ⟨r28, h29, hF⟩ := bind_some hF
  refine ow_pw rfl (pw_call (F := [] ++ F0) rfl rfl rfl rfl rfl rfl rfl (by kernel_rfl) (perm_of_pulls [0, 0, 0, 0] rfl) (c_pledge_Slip _ (ByteArray.mk #[100, 114, 97, 119]) (ByteArray.mk #[105, 100]) (ByteArray.mk #[110]) (ByteArray.mk #[120]) r21 r21_b3 r21_b5 r21_b1 r28 h29) ?_)
  rintro _ _ ⟨r28_b1, r28_b3, rfl, rfl⟩
  refine nw_H (H' := [imm I, pt r21_b1 #[.map (some r28_b1), .map (some r28_b3), .string r28.2.twins_.e0, .string r28.2.twins_.e1, .bool r28.2.found_, .bool r28.2.full_, .int .i64 r28.2.sums_] 54, mpo kStr kStr r28_b1 r28.2.table_, mpo kStr kStr r28_b3 r28.2.notes_] ++ F0) rfl (nw_ow ?_)
  obtain ⟨r32, h33, hF⟩ := bind_some hF
  refine ow_pw rfl (pw_call (F := [] ++ F0) rfl rfl rfl rfl rfl rfl rfl (by kernel_rfl) (perm_of_pulls [0, 0, 0, 0] rfl) (c_pledge_Kept _ r26 (ByteArray.mk #[105, 100]) r28.1 r28.2 r28_b1 r28_b3 r21_b1 r32 h33) ?_)
  rintro _ _ ⟨r32_b1, r32_b3, rfl, rfl⟩
  refine nw_H (H' := [imm I, pt r21_b1 #[.map (some r32_b1), .map (some r32_b3), .string r32.2.2.2.twins_.e0, .string r32.2.2.2.twins_.e1, .bool r32.2.2.2.found_, .bool r32.2.2.2.full_, .int .i64 r32.2.2.2.sums_] 54, mpo kStr kStr r32_b1 r32.2.2.2.table_, mpo kStr kStr r32_b3 r32.2.2.2.notes_] ++ F0) rfl (nw_ow ?_)
  refine ow_vals 7 (j := 13) [1, 2, 3, 4] [(1, .pointer (some ⟨r21_b1, 0, none⟩)), (2, .string r32.1), (3, .string r32.2.1), (4, .bool r32.2.2.1)] rfl (by kernel_rfl) ?_
  refine ow_end rfl ?_
  refine ew_then ?_
  refine cw_seq ?_
  refine cw_region ?_
  refine ow_vals 2 (j := 2) [1, 2, 3, 17] [(1, .pointer (some ⟨r21_b1, 0, none⟩)), (2, .string r32.1), (3, .string r32.2.1), (17, .bool r32.2.2.1)] rfl (by kernel_rfl) ?_
  rcases if_some hF with ⟨h36, hF⟩ | ⟨h36, hF⟩
  · refine ow_slots (L' := [(1, .pointer (some ⟨r21_b1, 0, none⟩)), (2, .string r32.1), (3, .string r32.2.1), (17, .bool true)]) (by rw [h36]) ?_
    refine ow_vals 4 (j := 6) [1, 2, 21] [(1, .pointer (some ⟨r21_b1, 0, none⟩)), (2, .string r32.1), (21, .bool (seqB r32.2.1 (ByteArray.mk #[120])))] rfl (by kernel_rfl) ?_
    rcases if_some hF with ⟨h37, hF⟩ | ⟨h37, hF⟩
    · refine ow_slots (L' := [(1, .pointer (some ⟨r21_b1, 0, none⟩)), (2, .string r32.1), (21, .bool true)]) (by rw [h37]) ?_
      refine ow_vals 2 (j := 8) [2, 21, 22, 23] [(2, .string r32.1), (21, .bool true), (22, .string r32.1), (23, .pointer (some ⟨r21_b1, 0, none⟩))] rfl (by kernel_rfl) ?_
      obtain ⟨r38, h39, hF⟩ := bind_some hF
      refine ow_pw rfl (pw_call (F := [] ++ F0) rfl rfl rfl rfl rfl rfl rfl (by kernel_rfl) (perm_of_pulls [0, 0, 0, 0] rfl) (c_pledge_Salt _ (ByteArray.mk #[100, 114, 97, 119]) (ByteArray.mk #[110]) r32.2.2.2 r32_b1 r32_b3 r21_b1 r38 h39) ?_)
      rintro _ _ ⟨rfl, rfl⟩
      refine nw_H (H' := [imm I, pt r21_b1 #[.map (some r32_b1), .map (some r32_b3), .string r32.2.2.2.twins_.e0, .string r32.2.2.2.twins_.e1, .bool r32.2.2.2.found_, .bool r32.2.2.2.full_, .int .i64 r32.2.2.2.sums_] 54, mpo kStr kStr r32_b1 r32.2.2.2.table_, mpo kStr kStr r32_b3 r32.2.2.2.notes_] ++ F0) rfl (nw_ow ?_)
      refine ow_vals 3 (j := 12) [2, 27] [(2, .string r32.1), (27, .bool (seqB r32.1 r38))] rfl (by kernel_rfl) ?_
      rcases if_some hF with ⟨h40, hF⟩ | ⟨h40, hF⟩
      · refine ow_slots (L' := [(2, .string r32.1), (27, .bool true)]) (by rw [h40]) ?_
        refine ow_vals 5 (j := 17) [0] [(0, .bool ((r32.1.size : Int) == 16))] rfl (by kernel_rfl) ?_
        refine ow_end rfl ?_
        refine ew_then ?_
        refine cw_ret ?_
        have hR := Option.some.inj hF
        subst hR
        exact fin1 (H1 := [imm I]) (fun w hs => sat_to [1, 1, 1, 0] 3 rfl hs) rfl (rr_tmp rfl) ⟨rfl, rfl⟩
      · refine ow_slots (L' := [(2, .string r32.1), (27, .bool false)]) (by rw [h40]) ?_
        refine ow_vals 5 (j := 17) [0] [(0, .bool false)] rfl (by kernel_rfl) ?_
        refine ow_end rfl ?_
        refine ew_then ?_
        refine cw_ret ?_
        have hR := Option.some.inj hF
        subst hR
        exact fin1 (H1 := [imm I]) (fun w hs => sat_to [1, 1, 1, 0] 3 rfl hs) rfl (rr_tmp rfl) ⟨rfl, rfl⟩
    · refine ow_slots (L' := [(1, .pointer (some ⟨r21_b1, 0, none⟩)), (2, .string r32.1), (21, .bool false)]) (by rw [h37]) ?_
      refine ow_vals 11 (j := 17) [0] [(0, .bool false)] rfl (by kernel_rfl) ?_
      refine ow_end rfl ?_
      refine ew_then ?_
      refine cw_ret ?_
      have hR := Option.some.inj hF
      subst hR
      exact fin1 (H1 := [imm I]) (fun w hs => sat_to [1, 1, 1, 0] 3 rfl hs) rfl (rr_tmp rfl) ⟨rfl, rfl⟩
  · refine ow_slots (L' := [(1, .pointer (some ⟨r21_b1, 0, none⟩)), (2, .string r32.1), (3, .string r32.2.1), (17, .bool false)]) (by rw [h36]) ?_
    refine ow_vals 15 (j := 17) [0] [(0, .bool false)] rfl (by kernel_rfl) ?_
    refine ow_end rfl ?_
    refine ew_then ?_
    refine cw_ret ?_
    have hR := Option.some.inj hF
    subst hR
    exact fin1 (H1 := [imm I]) (fun w hs => sat_to [1, 1, 1, 0] 3 rfl hs) rfl (rr_tmp rfl) ⟨rfl, rfl⟩


def F.law06_cut (x0 : ByteArray) : Option ByteArray :=
  if decide ((x0.size : Int) > 300) then (chk (0 ≤ (0 : Int) ∧ (0 : Int) ≤ (300 : Int) ∧ (300 : Int) ≤ (x0.size : Int)) (some ((x0.extract (0 : Int).toNat (300 : Int).toNat)))) else (some (x0))
set_option maxRecDepth 100000 in
set_option maxHeartbeats 4000000 in
theorem c_law06_cut (I : Hl) (x0 : ByteArray) (res : ByteArray) (hF : F.law06_cut x0 = some res) : Tr Try.prog 11 [.string x0] [imm I] (fun r H' => r = .string res ∧ H' = [imm I]) := by
  unfold F.law06_cut at hF
  refine tr_of_cw (fn := Try.f11) Try.func11 rfl (Nat.le_of_ble_eq_true rfl) 9 rfl fun F0 w0 => ?_
  refine cw_keep [0] (L' := [(0, .string x0)]) rfl ?_
  refine cw_state (S' := SAT w0 ([imm I] ++ F0)) (fun w hs => hs) ?_
  refine cw_seq ?_
  refine cw_region ?_
  refine ow_vals 1 (j := 1) [0] [(0, .string x0)] rfl (by kernel_rfl) ?_
  refine ow_end rfl ?_
  refine ew_then ?_
  refine cw_seq ?_
  refine cw_seq ?_
  refine cw_region ?_
  refine ow_vals 3 (j := 3) [0, 5] [(0, .string x0), (5, .bool (decide ((x0.size : Int) > 300)))] rfl (by kernel_rfl) ?_
  refine ow_end rfl ?_
  refine ew_then ?_
  rcases if_some hF with ⟨h21, hF⟩ | ⟨h21, hF⟩
  · refine cw_cond_t rfl rfl h21 ?_
    refine cw_seq ?_
    refine cw_region ?_
    refine ow_vals 1 (j := 1) [6] [(6, .string x0)] rfl (by kernel_rfl) ?_
    obtain ⟨h22, hF⟩ := chk_some hF
    refine ow_pw rfl (pw_quiet (v := .string (x0.extract (0 : Int).toNat (300 : Int).toNat)) rfl rfl rfl rfl (q_slice_str rfl (by kernel_rfl) rfl rfl rfl h22.1 h22.2.1 h22.2.2) (nw_ow ?_))
    refine ow_vals 1 (j := 3) [2] [(2, .string (x0.extract (0 : Int).toNat (300 : Int).toNat))] rfl (by kernel_rfl) ?_
    refine ow_end rfl ?_
    refine ew_then ?_
    refine cw_ret ?_
    refine ew_then_ret ?_
    have hR := Option.some.inj hF
    subst hR
    exact fin1 (H1 := [imm I]) (fun w hs => sat_to [0] 0 rfl hs) rfl (rr_tmp rfl) ⟨rfl, rfl⟩
  · refine cw_cond_f rfl rfl h21 ?_
    refine cw_skip ?_
    refine ew_then ?_
    refine cw_seq ?_
    refine cw_region ?_
    refine ow_vals 2 (j := 2) [2] [(2, .string x0)] rfl (by kernel_rfl) ?_
    refine ow_end rfl ?_
    refine ew_then ?_
    refine cw_ret ?_
    have hR := Option.some.inj hF
    subst hR
    exact fin1 (H1 := [imm I]) (fun w hs => sat_to [0] 0 rfl hs) rfl (rr_tmp rfl) ⟨rfl, rfl⟩

end Go.Proofs.Ytfjnafgigfapbaa
