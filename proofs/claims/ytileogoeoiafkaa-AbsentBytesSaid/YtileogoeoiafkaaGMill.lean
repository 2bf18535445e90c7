/- What the functions compute, and that the code computes it: printed by a program of this claim (wip/tools), for the group Mill. -/
import Derived.Test.YtileogoeoiafkaaGSha
namespace Go.Proofs.Ytileogoeoiafkaa
set_option linter.all false
open Go Go.RowKit Go.Fw
set_option linter.unusedVariables false

structure A2_ByteArray where
  e0 : ByteArray
  e1 : ByteArray
def A2_ByteArray.cells (x : A2_ByteArray) : List Go.Value := [.string x.e0, .string x.e1]
def e_A2_ByteArray : Enc A2_ByteArray := ⟨A2_ByteArray.cells, 2, fun _ => rfl, fun _ => rfl, by decide⟩

structure mill_Mill where
  table_ : List (ByteArray × ByteArray)
  notes_ : List (ByteArray × ByteArray)
  twins_ : A2_ByteArray
  found_ : Bool
  full_ : Bool
  sums_ : Int

structure mill_Entry where
  Tag : Bool
  Key : ByteArray
  Text : ByteArray
  Out : ByteArray
def mill_Entry.cells (x : mill_Entry) : List Go.Value := [.bool x.Tag, .string x.Key, .string x.Text, .string x.Out]
def e_mill_Entry : Enc mill_Entry := ⟨mill_Entry.cells, 4, fun _ => rfl, fun _ => rfl, by decide⟩

def F.mill_New : Option mill_Mill :=
  some ((⟨([] : List (ByteArray × ByteArray)), ([] : List (ByteArray × ByteArray)), (⟨(ByteArray.mk #[]), (ByteArray.mk #[])⟩ : A2_ByteArray), false, false, 0⟩ : mill_Mill))
set_option maxRecDepth 100000 in
set_option maxHeartbeats 4000000 in
theorem c_mill_New (I : Hl) (res : mill_Mill) (hF : F.mill_New = some res) : Tr Try.prog 9 [] [imm I] (fun r H' => ∃ (bq1 : Nat), ∃ (bq3 : Nat), ∃ (bq5 : Nat), r = .pointer (some ⟨bq1, 0, none⟩) ∧ H' = [imm I, pt bq1 #[.map (some bq3), .map (some bq5), .string res.twins_.e0, .string res.twins_.e1, .bool res.found_, .bool res.full_, .int .i64 res.sums_] 64, mpo kStr kStr bq3 res.table_, mpo kStr kStr bq5 res.notes_]) := by
  unfold F.mill_New at hF
  refine tr_of_cw (fn := Try.f9) Try.func9 rfl (Nat.le_of_ble_eq_true rfl) 5 rfl fun F0 w0 => ?_
  refine cw_keep [] (L' := []) rfl ?_
  refine cw_state (S' := SAT w0 ([imm I] ++ F0)) (fun w hs => hs) ?_
  refine cw_seq ?_
  refine cw_region ?_
  refine ow_vals 1 (j := 1) [] [] rfl (by kernel_rfl) ?_
  refine ow_end rfl ?_
  refine ew_then ?_
  refine cw_seq ?_
  refine cw_region ?_
  refine ow_pw rfl (pw_makeMap kStr kStr rfl rfl rfl rfl rfl fun b21 => nw_ow ?_)
  refine ow_pw rfl (pw_makeMap kStr kStr rfl rfl rfl rfl rfl fun b23 => nw_ow ?_)
  refine ow_vals 1 (j := 3) [3] [(3, .agg #[.map (some b21), .map (some b23), .string (ByteArray.mk #[]), .string (ByteArray.mk #[]), .bool false, .bool false, .int .i64 0])] rfl (by kernel_rfl) ?_
  refine ow_pw rfl (pw_box (cs := #[.map (some b21), .map (some b23), .string (ByteArray.mk #[]), .string (ByteArray.mk #[]), .bool false, .bool false, .int .i64 0]) rfl rfl rfl rfl rfl rfl fun b25 => nw_ow ?_)
  refine ow_vals 1 (j := 5) [0] [(0, .pointer (some ⟨b25, 0, none⟩))] rfl (by kernel_rfl) ?_
  refine ow_end rfl ?_
  refine ew_then ?_
  refine cw_ret ?_
  have hR := Option.some.inj hF
  subst hR
  exact fin1 (H1 := [imm I, pt b25 #[.map (some b21), .map (some b23), .string (((⟨([] : List (ByteArray × ByteArray)), ([] : List (ByteArray × ByteArray)), (⟨(ByteArray.mk #[]), (ByteArray.mk #[])⟩ : A2_ByteArray), false, false, 0⟩ : mill_Mill).twins_).e0), .string (((⟨([] : List (ByteArray × ByteArray)), ([] : List (ByteArray × ByteArray)), (⟨(ByteArray.mk #[]), (ByteArray.mk #[])⟩ : A2_ByteArray), false, false, 0⟩ : mill_Mill).twins_).e1), .bool ((⟨([] : List (ByteArray × ByteArray)), ([] : List (ByteArray × ByteArray)), (⟨(ByteArray.mk #[]), (ByteArray.mk #[])⟩ : A2_ByteArray), false, false, 0⟩ : mill_Mill).found_), .bool ((⟨([] : List (ByteArray × ByteArray)), ([] : List (ByteArray × ByteArray)), (⟨(ByteArray.mk #[]), (ByteArray.mk #[])⟩ : A2_ByteArray), false, false, 0⟩ : mill_Mill).full_), .int .i64 ((⟨([] : List (ByteArray × ByteArray)), ([] : List (ByteArray × ByteArray)), (⟨(ByteArray.mk #[]), (ByteArray.mk #[])⟩ : A2_ByteArray), false, false, 0⟩ : mill_Mill).sums_)] 64, mpo kStr kStr b21 ((⟨([] : List (ByteArray × ByteArray)), ([] : List (ByteArray × ByteArray)), (⟨(ByteArray.mk #[]), (ByteArray.mk #[])⟩ : A2_ByteArray), false, false, 0⟩ : mill_Mill).table_), mpo kStr kStr b23 ((⟨([] : List (ByteArray × ByteArray)), ([] : List (ByteArray × ByteArray)), (⟨(ByteArray.mk #[]), (ByteArray.mk #[])⟩ : A2_ByteArray), false, false, 0⟩ : mill_Mill).notes_)]) (fun w hs => sat_to [3, 0, 1, 0] 0 rfl hs) rfl (rr_tmp rfl) ⟨b25, b21, b23, rfl, rfl⟩


def F.mill_Mill_none (m0 : mill_Mill) : Option Bool :=
  some (false)
set_option maxRecDepth 100000 in
set_option maxHeartbeats 4000000 in
theorem c_mill_Mill_none (I : Hl) (m0 : mill_Mill) (p0 : Nat) (p1 : Nat) (b0 : Nat) (res : Bool) (hF : F.mill_Mill_none m0 = some res) : Tr Try.prog 47 [.pointer (some ⟨b0, 0, none⟩)] [imm I, pt b0 #[.map (some p0), .map (some p1), .string m0.twins_.e0, .string m0.twins_.e1, .bool m0.found_, .bool m0.full_, .int .i64 m0.sums_] 64, mpo kStr kStr p0 m0.table_, mpo kStr kStr p1 m0.notes_] (fun r H' => r = .bool res ∧ H' = [imm I, pt b0 #[.map (some p0), .map (some p1), .string m0.twins_.e0, .string m0.twins_.e1, .bool m0.found_, .bool m0.full_, .int .i64 m0.sums_] 64, mpo kStr kStr p0 m0.table_, mpo kStr kStr p1 m0.notes_]) := by
  unfold F.mill_Mill_none at hF
  refine tr_of_cw (fn := Try.f47) Try.func47 rfl (Nat.le_of_ble_eq_true rfl) 12 rfl fun F0 w0 => ?_
  refine cw_keep [0] (L' := [(0, .pointer (some ⟨b0, 0, none⟩))]) rfl ?_
  refine cw_state (S' := SAT w0 ([imm I, pt b0 #[.map (some p0), .map (some p1), .string m0.twins_.e0, .string m0.twins_.e1, .bool m0.found_, .bool m0.full_, .int .i64 m0.sums_] 64, mpo kStr kStr p0 m0.table_, mpo kStr kStr p1 m0.notes_] ++ F0)) (fun w hs => hs) ?_
  refine cw_seq ?_
  refine cw_region ?_
  refine ow_vals 1 (j := 1) [0] [(0, .pointer (some ⟨b0, 0, none⟩))] rfl (by kernel_rfl) ?_
  refine ow_end rfl ?_
  refine ew_then ?_
  refine cw_seq ?_
  refine cw_region ?_
  refine ow_vals 6 (j := 6) [5, 8] [(5, .bool false), (8, .pointer (some ⟨b0, 1, none⟩))] rfl (by kernel_rfl) ?_
  refine ow_pw rfl (pw_quiet (v := .map (some p1)) rfl rfl rfl rfl (q_load 1 rfl rfl rfl (by kernel_rfl)) (nw_ow ?_))
  refine ow_vals 3 (j := 10) [2] [(2, .bool false)] rfl (by kernel_rfl) ?_
  refine ow_end rfl ?_
  refine ew_then ?_
  refine cw_ret ?_
  have hR := Option.some.inj hF
  subst hR
  exact fin1 (H1 := [imm I, pt b0 #[.map (some p0), .map (some p1), .string m0.twins_.e0, .string m0.twins_.e1, .bool m0.found_, .bool m0.full_, .int .i64 m0.sums_] 64, mpo kStr kStr p0 m0.table_, mpo kStr kStr p1 m0.notes_]) (fun w hs => sat_to [0, 0, 0, 0] 0 rfl hs) rfl (rr_tmp rfl) ⟨rfl, rfl⟩


def F.mill_name (x0 : Bool) (x1 : ByteArray) (x2 : ByteArray) : Option ByteArray :=
  if !x0 then (chk ((ByteArray.mk #[115]).size + x2.size ≤ 9223372036854775807) (some (((ByteArray.mk #[115]) ++ x2)))) else (Option.bind (F.sha_Sum x1) (fun (r23 : ByteArray) => chk ((ByteArray.mk #[116]).size + r23.size ≤ 9223372036854775807) (chk (((ByteArray.mk #[116]) ++ r23).size + x2.size ≤ 9223372036854775807) (some ((((ByteArray.mk #[116]) ++ r23) ++ x2))))))
set_option maxRecDepth 100000 in
set_option maxHeartbeats 4000000 in
theorem c_mill_name (I : Hl) (x0 : Bool) (x1 : ByteArray) (x2 : ByteArray) (res : ByteArray) (hF : F.mill_name x0 x1 x2 = some res) : Tr Try.prog 46 [.bool x0, .string x1, .string x2] [imm I] (fun r H' => r = .string res ∧ H' = [imm I]) := by
  unfold F.mill_name at hF
  refine tr_of_cw (fn := Try.f46) Try.func46 rfl (Nat.le_of_ble_eq_true rfl) 16 rfl fun F0 w0 => ?_
  refine cw_keep [0, 1, 2] (L' := [(0, .bool x0), (1, .string x1), (2, .string x2)]) rfl ?_
  refine cw_state (S' := SAT w0 ([imm I] ++ F0)) (fun w hs => hs) ?_
  refine cw_seq ?_
  refine cw_region ?_
  refine ow_vals 1 (j := 1) [0, 1, 2] [(0, .bool x0), (1, .string x1), (2, .string x2)] rfl (by kernel_rfl) ?_
  refine ow_end rfl ?_
  refine ew_then ?_
  refine cw_seq ?_
  refine cw_seq ?_
  refine cw_region ?_
  refine ow_vals 2 (j := 2) [1, 2, 8] [(1, .string x1), (2, .string x2), (8, .bool (!x0))] rfl (by kernel_rfl) ?_
  refine ow_end rfl ?_
  refine ew_then ?_
  rcases if_some hF with ⟨h21, hF⟩ | ⟨h21, hF⟩
  · refine cw_cond_t rfl rfl h21 ?_
    refine cw_seq ?_
    refine cw_region ?_
    refine ow_vals 1 (j := 1) [9] [(9, .string x2)] rfl (by kernel_rfl) ?_
    obtain ⟨h22, hF⟩ := chk_some hF
    refine ow_pw rfl (pw_quiet (v := .string ((ByteArray.mk #[115]) ++ x2)) rfl rfl rfl rfl (q_concat rfl rfl rfl h22) (nw_ow ?_))
    refine ow_vals 1 (j := 3) [6] [(6, .string ((ByteArray.mk #[115]) ++ x2))] rfl (by kernel_rfl) ?_
    refine ow_end rfl ?_
    refine ew_then ?_
    refine cw_ret ?_
    refine ew_then_ret ?_
    have hR := Option.some.inj hF
    subst hR
    exact fin1 (H1 := [imm I]) (fun w hs => sat_to [0] 0 rfl hs) rfl (rr_tmp rfl) ⟨rfl, rfl⟩
  refine cw_cond_f rfl rfl h21 ?_
  refine cw_skip ?_
  refine ew_then ?_
  refine cw_seq ?_
  refine cw_region ?_
  refine ow_vals 1 (j := 1) [2, 11] [(2, .string x2), (11, .string x1)] rfl (by kernel_rfl) ?_
  obtain ⟨r23, h24, hF⟩ := bind_some hF
  refine ow_pw rfl (pw_call (F := [] ++ F0) rfl rfl rfl rfl rfl rfl rfl (by kernel_rfl) (perm_of_pulls [0] rfl) (c_sha_Sum _ x1 r23 h24) ?_)
  rintro _ _ ⟨rfl, rfl⟩
  refine nw_H (H' := [imm I] ++ F0) rfl (nw_ow ?_)
  obtain ⟨h25, hF⟩ := chk_some hF
  refine ow_pw rfl (pw_quiet (v := .string ((ByteArray.mk #[116]) ++ r23)) rfl rfl rfl rfl (q_concat rfl rfl rfl h25) (nw_ow ?_))
  refine ow_vals 1 (j := 4) [13, 14] [(13, .string ((ByteArray.mk #[116]) ++ r23)), (14, .string x2)] rfl (by kernel_rfl) ?_
  obtain ⟨h26, hF⟩ := chk_some hF
  refine ow_pw rfl (pw_quiet (v := .string (((ByteArray.mk #[116]) ++ r23) ++ x2)) rfl rfl rfl rfl (q_concat rfl rfl rfl h26) (nw_ow ?_))
  refine ow_vals 1 (j := 6) [6] [(6, .string (((ByteArray.mk #[116]) ++ r23) ++ x2))] rfl (by kernel_rfl) ?_
  refine ow_end rfl ?_
  refine ew_then ?_
  refine cw_ret ?_
  have hR := Option.some.inj hF
  subst hR
  exact fin1 (H1 := [imm I]) (fun w hs => sat_to [0] 0 rfl hs) rfl (rr_tmp rfl) ⟨rfl, rfl⟩


def F.mill_Mill_note.r1 (x1 : ByteArray) (x2 : ByteArray) (m0 : mill_Mill) (x24 : Bool) (x25 : Bool) : Option (mill_Mill) :=
  if x25 then (some ((⟨m0.table_, m0.notes_, (⟨mgetD m0.notes_ x2 (ByteArray.mk #[]), x1⟩ : A2_ByteArray), true, m0.full_, IntKind.i64.wrap (m0.sums_ + 1)⟩ : mill_Mill))) else (if x24 then (some ((⟨m0.table_, m0.notes_, m0.twins_, m0.found_, m0.full_, IntKind.i64.wrap (m0.sums_ + 1)⟩ : mill_Mill))) else (if decide ((m0.notes_.length : Int) ≥ 20000) then (some ((⟨m0.table_, m0.notes_, m0.twins_, m0.found_, true, IntKind.i64.wrap (m0.sums_ + 1)⟩ : mill_Mill))) else (some ((⟨m0.table_, mset m0.notes_ x2 x1, m0.twins_, m0.found_, m0.full_, IntKind.i64.wrap (m0.sums_ + 1)⟩ : mill_Mill)))))
def F.mill_Mill_note (x1 : ByteArray) (x2 : ByteArray) (m0 : mill_Mill) : Option mill_Mill :=
  Option.bind (if mhas m0.notes_ x2 then (if !(seqB (mgetD m0.notes_ x2 (ByteArray.mk #[])) x1) then (some ((true, !m0.found_))) else (some ((true, false)))) else (some ((false, false)))) (fun x => F.mill_Mill_note.r1 x1 x2 m0 x.1 x.2)
set_option maxRecDepth 100000 in
set_option maxHeartbeats 4000000 in
theorem c_mill_Mill_note (I : Hl) (x1 : ByteArray) (x2 : ByteArray) (m0 : mill_Mill) (p0 : Nat) (p1 : Nat) (b0 : Nat) (res : mill_Mill) (hF : F.mill_Mill_note x1 x2 m0 = some res) : Tr Try.prog 84 [.pointer (some ⟨b0, 0, none⟩), .string x1, .string x2] [imm I, pt b0 #[.map (some p0), .map (some p1), .string m0.twins_.e0, .string m0.twins_.e1, .bool m0.found_, .bool m0.full_, .int .i64 m0.sums_] 64, mpo kStr kStr p0 m0.table_, mpo kStr kStr p1 m0.notes_] (fun r H' => ∃ (bq1 : Nat), ∃ (bq3 : Nat), r = .tuple #[] ∧ H' = [imm I, pt b0 #[.map (some bq1), .map (some bq3), .string res.twins_.e0, .string res.twins_.e1, .bool res.found_, .bool res.full_, .int .i64 res.sums_] 64, mpo kStr kStr bq1 res.table_, mpo kStr kStr bq3 res.notes_]) := by
  unfold F.mill_Mill_note at hF
  refine tr_of_cw (fn := Try.f84) Try.func84 rfl (Nat.le_of_ble_eq_true rfl) 65 rfl fun F0 w0 => ?_
  refine cw_keep [0, 1, 2] (L' := [(0, .pointer (some ⟨b0, 0, none⟩)), (1, .string x1), (2, .string x2)]) rfl ?_
  refine cw_state (S' := SAT w0 ([imm I, pt b0 #[.map (some p0), .map (some p1), .string m0.twins_.e0, .string m0.twins_.e1, .bool m0.found_, .bool m0.full_, .int .i64 m0.sums_] 64, mpo kStr kStr p0 m0.table_, mpo kStr kStr p1 m0.notes_] ++ F0)) (fun w hs => hs) ?_
  refine cw_seq ?_
  refine cw_region ?_
  refine ow_vals 3 (j := 3) [0, 1, 2, 8, 10] [(0, .pointer (some ⟨b0, 0, none⟩)), (1, .string x1), (2, .string x2), (8, .pointer (some ⟨b0, 0, none⟩)), (10, .pointer (some ⟨b0, 6, none⟩))] rfl (by kernel_rfl) ?_
  refine ow_pw rfl (pw_quiet (v := .int .i64 m0.sums_) rfl rfl rfl rfl (q_load 1 rfl rfl rfl (by kernel_rfl)) (nw_ow ?_))
  refine ow_vals 3 (j := 7) [0, 1, 2, 12, 14] [(0, .pointer (some ⟨b0, 0, none⟩)), (1, .string x1), (2, .string x2), (12, .int .i64 (IntKind.i64.wrap (m0.sums_ + 1))), (14, .pointer (some ⟨b0, 6, none⟩))] rfl (by kernel_rfl) ?_
  refine ow_pw rfl (pw_store 1 #[.map (some p0), .map (some p1), .string m0.twins_.e0, .string m0.twins_.e1, .bool m0.found_, .bool m0.full_, .int .i64 (IntKind.i64.wrap (m0.sums_ + 1))] rfl rfl rfl rfl rfl rfl rfl (by kernel_rfl) (nw_H (H' := [imm I, pt b0 #[.map (some p0), .map (some p1), .string m0.twins_.e0, .string m0.twins_.e1, .bool m0.found_, .bool m0.full_, .int .i64 (IntKind.i64.wrap (m0.sums_ + 1))] 64, mpo kStr kStr p0 m0.table_, mpo kStr kStr p1 m0.notes_] ++ F0) rfl (nw_ow ?_)))
  refine ow_end rfl ?_
  refine ew_then ?_
  refine cw_seq ?_
  refine cw_region ?_
  refine ow_vals 3 (j := 3) [0, 1, 2, 18] [(0, .pointer (some ⟨b0, 0, none⟩)), (1, .string x1), (2, .string x2), (18, .pointer (some ⟨b0, 1, none⟩))] rfl (by kernel_rfl) ?_
  refine ow_pw rfl (pw_quiet (v := .map (some p1)) rfl rfl rfl rfl (q_load 1 rfl rfl rfl (by kernel_rfl)) (nw_ow ?_))
  refine ow_vals 1 (j := 5) [0, 1, 2, 19, 20] [(0, .pointer (some ⟨b0, 0, none⟩)), (1, .string x1), (2, .string x2), (19, .map (some p1)), (20, .string x2)] rfl (by kernel_rfl) ?_
  refine ow_pw rfl (pw_quiet (v := .tuple #[.string (mgetD m0.notes_ x2 (ByteArray.mk #[])), .bool (mhas m0.notes_ x2)]) rfl rfl rfl rfl (q_lookup2 (kf := kStr) (vf := kStr) (key := x2) 3 (ByteArray.mk #[]) (mkey_str (by kernel_rfl)) rfl rfl rfl rfl rfl (by kernel_rfl)) (nw_ow ?_))
  refine ow_vals 5 (j := 11) [0, 1, 2, 6, 7] [(0, .pointer (some ⟨b0, 0, none⟩)), (1, .string x1), (2, .string x2), (6, .string (mgetD m0.notes_ x2 (ByteArray.mk #[]))), (7, .bool (mhas m0.notes_ x2))] rfl (by kernel_rfl) ?_
  refine ow_end rfl ?_
  refine ew_then ?_
  refine cw_block ?_
  obtain ⟨v21, hF, hK21⟩ := bind_some hF
  refine cw_mid (fun a w => ∃ (x24 : Bool), ∃ (x25 : Bool), (x24, x25) = v21 ∧ Fr 65 [(0, .pointer (some ⟨b0, 0, none⟩)), (1, .string x1), (2, .string x2), (6, .string (mgetD m0.notes_ x2 (ByteArray.mk #[]))), (7, .bool x24), (30, .bool x25)] a ∧ SAT w0 ([imm I, pt b0 #[.map (some p0), .map (some p1), .string m0.twins_.e0, .string m0.twins_.e1, .bool m0.found_, .bool m0.full_, .int .i64 (IntKind.i64.wrap (m0.sums_ + 1))] 64, mpo kStr kStr p0 m0.table_, mpo kStr kStr p1 m0.notes_] ++ F0) w) ?_ ?_
  · refine cw_region ?_
    refine ow_vals 2 (j := 2) [0, 1, 2, 6, 7, 32] [(0, .pointer (some ⟨b0, 0, none⟩)), (1, .string x1), (2, .string x2), (6, .string (mgetD m0.notes_ x2 (ByteArray.mk #[]))), (7, .bool (mhas m0.notes_ x2)), (32, .bool (mhas m0.notes_ x2))] rfl (by kernel_rfl) ?_
    rcases if_some hF with ⟨h22, hF⟩ | ⟨h22, hF⟩
    · refine ow_slots (L' := [(0, .pointer (some ⟨b0, 0, none⟩)), (1, .string x1), (2, .string x2), (6, .string (mgetD m0.notes_ x2 (ByteArray.mk #[]))), (7, .bool true), (32, .bool true)]) (by rw [h22]) ?_
      refine ow_vals 5 (j := 7) [0, 1, 2, 6, 7, 37] [(0, .pointer (some ⟨b0, 0, none⟩)), (1, .string x1), (2, .string x2), (6, .string (mgetD m0.notes_ x2 (ByteArray.mk #[]))), (7, .bool true), (37, .bool (!(seqB (mgetD m0.notes_ x2 (ByteArray.mk #[])) x1)))] rfl (by kernel_rfl) ?_
      rcases if_some hF with ⟨h23, hF⟩ | ⟨h23, hF⟩
      · refine ow_slots (L' := [(0, .pointer (some ⟨b0, 0, none⟩)), (1, .string x1), (2, .string x2), (6, .string (mgetD m0.notes_ x2 (ByteArray.mk #[]))), (7, .bool true), (37, .bool true)]) (by rw [h23]) ?_
        refine ow_vals 3 (j := 10) [0, 1, 2, 6, 7, 37, 40] [(0, .pointer (some ⟨b0, 0, none⟩)), (1, .string x1), (2, .string x2), (6, .string (mgetD m0.notes_ x2 (ByteArray.mk #[]))), (7, .bool true), (37, .bool true), (40, .pointer (some ⟨b0, 4, none⟩))] rfl (by kernel_rfl) ?_
        refine ow_pw rfl (pw_quiet (v := .bool m0.found_) rfl rfl rfl rfl (q_load 1 rfl rfl rfl (by kernel_rfl)) (nw_ow ?_))
        refine ow_vals 3 (j := 14) [0, 1, 2, 6, 7, 30] [(0, .pointer (some ⟨b0, 0, none⟩)), (1, .string x1), (2, .string x2), (6, .string (mgetD m0.notes_ x2 (ByteArray.mk #[]))), (7, .bool true), (30, .bool (!m0.found_))] rfl (by kernel_rfl) ?_
        refine ow_end rfl ?_
        have hR := Option.some.inj hF
        exact fun a w hf hs => ⟨true, !m0.found_, hR, hf.keep [0, 1, 2, 6, 7, 30], sat_to [0, 0, 0, 0] 0 rfl hs⟩
      refine ow_slots (L' := [(0, .pointer (some ⟨b0, 0, none⟩)), (1, .string x1), (2, .string x2), (6, .string (mgetD m0.notes_ x2 (ByteArray.mk #[]))), (7, .bool true), (37, .bool false)]) (by rw [h23]) ?_
      refine ow_vals 7 (j := 14) [0, 1, 2, 6, 7, 30] [(0, .pointer (some ⟨b0, 0, none⟩)), (1, .string x1), (2, .string x2), (6, .string (mgetD m0.notes_ x2 (ByteArray.mk #[]))), (7, .bool true), (30, .bool false)] rfl (by kernel_rfl) ?_
      refine ow_end rfl ?_
      have hR := Option.some.inj hF
      exact fun a w hf hs => ⟨true, false, hR, hf.keep [0, 1, 2, 6, 7, 30], sat_to [0, 0, 0, 0] 0 rfl hs⟩
    refine ow_slots (L' := [(0, .pointer (some ⟨b0, 0, none⟩)), (1, .string x1), (2, .string x2), (6, .string (mgetD m0.notes_ x2 (ByteArray.mk #[]))), (7, .bool false), (32, .bool false)]) (by rw [h22]) ?_
    refine ow_vals 12 (j := 14) [0, 1, 2, 6, 7, 30] [(0, .pointer (some ⟨b0, 0, none⟩)), (1, .string x1), (2, .string x2), (6, .string (mgetD m0.notes_ x2 (ByteArray.mk #[]))), (7, .bool false), (30, .bool false)] rfl (by kernel_rfl) ?_
    refine ow_end rfl ?_
    have hR := Option.some.inj hF
    exact fun a w hf hs => ⟨false, false, hR, hf.keep [0, 1, 2, 6, 7, 30], sat_to [0, 0, 0, 0] 0 rfl hs⟩
  rintro a w ⟨x24, x25, hv, hf, hs⟩
  subst hv
  replace hF := hK21
  clear hK21
  try dsimp only at hF
  revert a w
  show CW _ _ _ 65 [(0, .pointer (some ⟨b0, 0, none⟩)), (1, .string x1), (2, .string x2), (6, .string (mgetD m0.notes_ x2 (ByteArray.mk #[]))), (7, .bool x24), (30, .bool x25)] (SAT w0 ([imm I, pt b0 #[.map (some p0), .map (some p1), .string m0.twins_.e0, .string m0.twins_.e1, .bool m0.found_, .bool m0.full_, .int .i64 (IntKind.i64.wrap (m0.sums_ + 1))] 64, mpo kStr kStr p0 m0.table_, mpo kStr kStr p1 m0.notes_] ++ F0))
  unfold F.mill_Mill_note.r1 at hF
  rcases if_some hF with ⟨h26, hF⟩ | ⟨h26, hF⟩
  · refine cw_cond_t rfl rfl h26 ?_
    refine cw_region ?_
    refine ow_vals 7 (j := 7) [45, 48, 50] [(45, .pointer (some ⟨b0, 0, none⟩)), (48, .agg #[.string (mgetD m0.notes_ x2 (ByteArray.mk #[])), .string x1]), (50, .pointer (some ⟨b0, 2, none⟩))] rfl (by kernel_rfl) ?_
    refine ow_pw rfl (pw_store 1 #[.map (some p0), .map (some p1), .string (mgetD m0.notes_ x2 (ByteArray.mk #[])), .string x1, .bool m0.found_, .bool m0.full_, .int .i64 (IntKind.i64.wrap (m0.sums_ + 1))] rfl rfl rfl rfl rfl rfl rfl (by kernel_rfl) (nw_H (H' := [imm I, pt b0 #[.map (some p0), .map (some p1), .string (mgetD m0.notes_ x2 (ByteArray.mk #[])), .string x1, .bool m0.found_, .bool m0.full_, .int .i64 (IntKind.i64.wrap (m0.sums_ + 1))] 64, mpo kStr kStr p0 m0.table_, mpo kStr kStr p1 m0.notes_] ++ F0) rfl (nw_ow ?_)))
    refine ow_vals 2 (j := 10) [52] [(52, .pointer (some ⟨b0, 4, none⟩))] rfl (by kernel_rfl) ?_
    refine ow_pw rfl (pw_store 1 #[.map (some p0), .map (some p1), .string (mgetD m0.notes_ x2 (ByteArray.mk #[])), .string x1, .bool true, .bool m0.full_, .int .i64 (IntKind.i64.wrap (m0.sums_ + 1))] rfl rfl rfl rfl rfl rfl rfl (by kernel_rfl) (nw_H (H' := [imm I, pt b0 #[.map (some p0), .map (some p1), .string (mgetD m0.notes_ x2 (ByteArray.mk #[])), .string x1, .bool true, .bool m0.full_, .int .i64 (IntKind.i64.wrap (m0.sums_ + 1))] 64, mpo kStr kStr p0 m0.table_, mpo kStr kStr p1 m0.notes_] ++ F0) rfl (nw_ow ?_)))
    refine ow_end rfl ?_
    refine ew_blk ?_
    have hR := Option.some.inj hF
    subst hR
    exact fin0n (H1 := [imm I, pt b0 #[.map (some p0), .map (some p1), .string (((⟨m0.table_, m0.notes_, (⟨mgetD m0.notes_ x2 (ByteArray.mk #[]), x1⟩ : A2_ByteArray), true, m0.full_, IntKind.i64.wrap (m0.sums_ + 1)⟩ : mill_Mill).twins_).e0), .string (((⟨m0.table_, m0.notes_, (⟨mgetD m0.notes_ x2 (ByteArray.mk #[]), x1⟩ : A2_ByteArray), true, m0.full_, IntKind.i64.wrap (m0.sums_ + 1)⟩ : mill_Mill).twins_).e1), .bool ((⟨m0.table_, m0.notes_, (⟨mgetD m0.notes_ x2 (ByteArray.mk #[]), x1⟩ : A2_ByteArray), true, m0.full_, IntKind.i64.wrap (m0.sums_ + 1)⟩ : mill_Mill).found_), .bool ((⟨m0.table_, m0.notes_, (⟨mgetD m0.notes_ x2 (ByteArray.mk #[]), x1⟩ : A2_ByteArray), true, m0.full_, IntKind.i64.wrap (m0.sums_ + 1)⟩ : mill_Mill).full_), .int .i64 ((⟨m0.table_, m0.notes_, (⟨mgetD m0.notes_ x2 (ByteArray.mk #[]), x1⟩ : A2_ByteArray), true, m0.full_, IntKind.i64.wrap (m0.sums_ + 1)⟩ : mill_Mill).sums_)] 64, mpo kStr kStr p0 ((⟨m0.table_, m0.notes_, (⟨mgetD m0.notes_ x2 (ByteArray.mk #[]), x1⟩ : A2_ByteArray), true, m0.full_, IntKind.i64.wrap (m0.sums_ + 1)⟩ : mill_Mill).table_), mpo kStr kStr p1 ((⟨m0.table_, m0.notes_, (⟨mgetD m0.notes_ x2 (ByteArray.mk #[]), x1⟩ : A2_ByteArray), true, m0.full_, IntKind.i64.wrap (m0.sums_ + 1)⟩ : mill_Mill).notes_)]) (fun w hs => sat_to [0, 0, 0, 0] 0 rfl hs) rfl  ⟨p0, p1, rfl, rfl⟩
  refine cw_cond_f rfl rfl h26 ?_
  refine cw_seq ?_
  refine cw_region ?_
  refine ow_vals 2 (j := 2) [0, 1, 2, 53] [(0, .pointer (some ⟨b0, 0, none⟩)), (1, .string x1), (2, .string x2), (53, .bool x24)] rfl (by kernel_rfl) ?_
  refine ow_end rfl ?_
  refine ew_then ?_
  rcases if_some hF with ⟨h27, hF⟩ | ⟨h27, hF⟩
  · refine cw_cond_t rfl rfl h27 ?_
    refine cw_skip ?_
    refine ew_blk ?_
    have hR := Option.some.inj hF
    subst hR
    exact fin0n (H1 := [imm I, pt b0 #[.map (some p0), .map (some p1), .string (((⟨m0.table_, m0.notes_, m0.twins_, m0.found_, m0.full_, IntKind.i64.wrap (m0.sums_ + 1)⟩ : mill_Mill).twins_).e0), .string (((⟨m0.table_, m0.notes_, m0.twins_, m0.found_, m0.full_, IntKind.i64.wrap (m0.sums_ + 1)⟩ : mill_Mill).twins_).e1), .bool ((⟨m0.table_, m0.notes_, m0.twins_, m0.found_, m0.full_, IntKind.i64.wrap (m0.sums_ + 1)⟩ : mill_Mill).found_), .bool ((⟨m0.table_, m0.notes_, m0.twins_, m0.found_, m0.full_, IntKind.i64.wrap (m0.sums_ + 1)⟩ : mill_Mill).full_), .int .i64 ((⟨m0.table_, m0.notes_, m0.twins_, m0.found_, m0.full_, IntKind.i64.wrap (m0.sums_ + 1)⟩ : mill_Mill).sums_)] 64, mpo kStr kStr p0 ((⟨m0.table_, m0.notes_, m0.twins_, m0.found_, m0.full_, IntKind.i64.wrap (m0.sums_ + 1)⟩ : mill_Mill).table_), mpo kStr kStr p1 ((⟨m0.table_, m0.notes_, m0.twins_, m0.found_, m0.full_, IntKind.i64.wrap (m0.sums_ + 1)⟩ : mill_Mill).notes_)]) (fun w hs => sat_to [0, 0, 0, 0] 0 rfl hs) rfl  ⟨p0, p1, rfl, rfl⟩
  refine cw_cond_f rfl rfl h27 ?_
  refine cw_seq ?_
  refine cw_region ?_
  refine ow_vals 3 (j := 3) [0, 1, 2, 58] [(0, .pointer (some ⟨b0, 0, none⟩)), (1, .string x1), (2, .string x2), (58, .pointer (some ⟨b0, 1, none⟩))] rfl (by kernel_rfl) ?_
  refine ow_pw rfl (pw_quiet (v := .map (some p1)) rfl rfl rfl rfl (q_load 1 rfl rfl rfl (by kernel_rfl)) (nw_ow ?_))
  refine ow_pw rfl (pw_quiet (v := .int .i64 (m0.notes_.length : Int)) rfl rfl rfl rfl (q_len_map 3 rfl rfl rfl rfl) (nw_ow ?_))
  refine ow_vals 2 (j := 7) [0, 1, 2, 55] [(0, .pointer (some ⟨b0, 0, none⟩)), (1, .string x1), (2, .string x2), (55, .bool (decide ((m0.notes_.length : Int) ≥ 20000)))] rfl (by kernel_rfl) ?_
  refine ow_end rfl ?_
  refine ew_then ?_
  rcases if_some hF with ⟨h28, hF⟩ | ⟨h28, hF⟩
  · refine cw_cond_t rfl rfl h28 ?_
    refine cw_region ?_
    refine ow_vals 3 (j := 3) [64] [(64, .pointer (some ⟨b0, 5, none⟩))] rfl (by kernel_rfl) ?_
    refine ow_pw rfl (pw_store 1 #[.map (some p0), .map (some p1), .string m0.twins_.e0, .string m0.twins_.e1, .bool m0.found_, .bool true, .int .i64 (IntKind.i64.wrap (m0.sums_ + 1))] rfl rfl rfl rfl rfl rfl rfl (by kernel_rfl) (nw_H (H' := [imm I, pt b0 #[.map (some p0), .map (some p1), .string m0.twins_.e0, .string m0.twins_.e1, .bool m0.found_, .bool true, .int .i64 (IntKind.i64.wrap (m0.sums_ + 1))] 64, mpo kStr kStr p0 m0.table_, mpo kStr kStr p1 m0.notes_] ++ F0) rfl (nw_ow ?_)))
    refine ow_end rfl ?_
    refine ew_blk ?_
    have hR := Option.some.inj hF
    subst hR
    exact fin0n (H1 := [imm I, pt b0 #[.map (some p0), .map (some p1), .string (((⟨m0.table_, m0.notes_, m0.twins_, m0.found_, true, IntKind.i64.wrap (m0.sums_ + 1)⟩ : mill_Mill).twins_).e0), .string (((⟨m0.table_, m0.notes_, m0.twins_, m0.found_, true, IntKind.i64.wrap (m0.sums_ + 1)⟩ : mill_Mill).twins_).e1), .bool ((⟨m0.table_, m0.notes_, m0.twins_, m0.found_, true, IntKind.i64.wrap (m0.sums_ + 1)⟩ : mill_Mill).found_), .bool ((⟨m0.table_, m0.notes_, m0.twins_, m0.found_, true, IntKind.i64.wrap (m0.sums_ + 1)⟩ : mill_Mill).full_), .int .i64 ((⟨m0.table_, m0.notes_, m0.twins_, m0.found_, true, IntKind.i64.wrap (m0.sums_ + 1)⟩ : mill_Mill).sums_)] 64, mpo kStr kStr p0 ((⟨m0.table_, m0.notes_, m0.twins_, m0.found_, true, IntKind.i64.wrap (m0.sums_ + 1)⟩ : mill_Mill).table_), mpo kStr kStr p1 ((⟨m0.table_, m0.notes_, m0.twins_, m0.found_, true, IntKind.i64.wrap (m0.sums_ + 1)⟩ : mill_Mill).notes_)]) (fun w hs => sat_to [0, 0, 0, 0] 0 rfl hs) rfl  ⟨p0, p1, rfl, rfl⟩
  refine cw_cond_f rfl rfl h28 ?_
  refine cw_region ?_
  refine ow_vals 3 (j := 3) [1, 2, 26] [(1, .string x1), (2, .string x2), (26, .pointer (some ⟨b0, 1, none⟩))] rfl (by kernel_rfl) ?_
  refine ow_pw rfl (pw_quiet (v := .map (some p1)) rfl rfl rfl rfl (q_load 1 rfl rfl rfl (by kernel_rfl)) (nw_ow ?_))
  refine ow_vals 2 (j := 6) [27, 28, 29] [(27, .map (some p1)), (28, .string x2), (29, .string x1)] rfl (by kernel_rfl) ?_
  refine ow_pw rfl (pw_mapSet 3 (key := x2) (v := x1) (mkey_str (by kernel_rfl)) rfl rfl rfl rfl rfl rfl rfl rfl rfl rfl (nw_H (H' := [imm I, pt b0 #[.map (some p0), .map (some p1), .string m0.twins_.e0, .string m0.twins_.e1, .bool m0.found_, .bool m0.full_, .int .i64 (IntKind.i64.wrap (m0.sums_ + 1))] 64, mpo kStr kStr p0 m0.table_, mpo kStr kStr p1 (mset m0.notes_ x2 x1)] ++ F0) rfl (nw_ow ?_)))
  refine ow_end rfl ?_
  refine ew_blk ?_
  have hR := Option.some.inj hF
  subst hR
  exact fin0n (H1 := [imm I, pt b0 #[.map (some p0), .map (some p1), .string (((⟨m0.table_, mset m0.notes_ x2 x1, m0.twins_, m0.found_, m0.full_, IntKind.i64.wrap (m0.sums_ + 1)⟩ : mill_Mill).twins_).e0), .string (((⟨m0.table_, mset m0.notes_ x2 x1, m0.twins_, m0.found_, m0.full_, IntKind.i64.wrap (m0.sums_ + 1)⟩ : mill_Mill).twins_).e1), .bool ((⟨m0.table_, mset m0.notes_ x2 x1, m0.twins_, m0.found_, m0.full_, IntKind.i64.wrap (m0.sums_ + 1)⟩ : mill_Mill).found_), .bool ((⟨m0.table_, mset m0.notes_ x2 x1, m0.twins_, m0.found_, m0.full_, IntKind.i64.wrap (m0.sums_ + 1)⟩ : mill_Mill).full_), .int .i64 ((⟨m0.table_, mset m0.notes_ x2 x1, m0.twins_, m0.found_, m0.full_, IntKind.i64.wrap (m0.sums_ + 1)⟩ : mill_Mill).sums_)] 64, mpo kStr kStr p0 ((⟨m0.table_, mset m0.notes_ x2 x1, m0.twins_, m0.found_, m0.full_, IntKind.i64.wrap (m0.sums_ + 1)⟩ : mill_Mill).table_), mpo kStr kStr p1 ((⟨m0.table_, mset m0.notes_ x2 x1, m0.twins_, m0.found_, m0.full_, IntKind.i64.wrap (m0.sums_ + 1)⟩ : mill_Mill).notes_)]) (fun w hs => sat_to [0, 0, 0, 0] 0 rfl hs) rfl  ⟨p0, p1, rfl, rfl⟩


def F.mill_Mill_Sum (x1 : ByteArray) (m0 : mill_Mill) : Option (ByteArray × mill_Mill) :=
  Option.bind (F.mill_Mill_none m0) (fun (r21 : Bool) => if r21 then (some (((ByteArray.mk #[]), m0))) else (Option.bind (F.mill_name false (ByteArray.mk #[]) x1) (fun (r24 : ByteArray) => if !(mhas m0.table_ r24) then (Option.bind (F.sha_Sum x1) (fun (r27 : ByteArray) => Option.bind (F.mill_Mill_note x1 r27 m0) (fun (r29 : mill_Mill) => some ((r27, r29))))) else (Option.bind (F.mill_Mill_note x1 (mgetD m0.table_ r24 (ByteArray.mk #[])) m0) (fun (r33 : mill_Mill) => some ((mgetD m0.table_ r24 (ByteArray.mk #[]), r33)))))))
set_option maxRecDepth 100000 in
set_option maxHeartbeats 4000000 in
theorem c_mill_Mill_Sum (I : Hl) (x1 : ByteArray) (m0 : mill_Mill) (p0 : Nat) (p1 : Nat) (b0 : Nat) (res : ByteArray × mill_Mill) (hF : F.mill_Mill_Sum x1 m0 = some res) : Tr Try.prog 62 [.pointer (some ⟨b0, 0, none⟩), .string x1] [imm I, pt b0 #[.map (some p0), .map (some p1), .string m0.twins_.e0, .string m0.twins_.e1, .bool m0.found_, .bool m0.full_, .int .i64 m0.sums_] 64, mpo kStr kStr p0 m0.table_, mpo kStr kStr p1 m0.notes_] (fun r H' => ∃ (bq1 : Nat), ∃ (bq3 : Nat), r = .string res.1 ∧ H' = [imm I, pt b0 #[.map (some bq1), .map (some bq3), .string res.2.twins_.e0, .string res.2.twins_.e1, .bool res.2.found_, .bool res.2.full_, .int .i64 res.2.sums_] 64, mpo kStr kStr bq1 res.2.table_, mpo kStr kStr bq3 res.2.notes_]) := by
  unfold F.mill_Mill_Sum at hF
  refine tr_of_cw (fn := Try.f62) Try.func62 rfl (Nat.le_of_ble_eq_true rfl) 28 rfl fun F0 w0 => ?_
  refine cw_keep [0, 1] (L' := [(0, .pointer (some ⟨b0, 0, none⟩)), (1, .string x1)]) rfl ?_
  refine cw_state (S' := SAT w0 ([imm I, pt b0 #[.map (some p0), .map (some p1), .string m0.twins_.e0, .string m0.twins_.e1, .bool m0.found_, .bool m0.full_, .int .i64 m0.sums_] 64, mpo kStr kStr p0 m0.table_, mpo kStr kStr p1 m0.notes_] ++ F0)) (fun w hs => hs) ?_
  refine cw_seq ?_
  refine cw_region ?_
  refine ow_vals 1 (j := 1) [0, 1] [(0, .pointer (some ⟨b0, 0, none⟩)), (1, .string x1)] rfl (by kernel_rfl) ?_
  refine ow_end rfl ?_
  refine ew_then ?_
  refine cw_seq ?_
  refine cw_seq ?_
  refine cw_region ?_
  refine ow_vals 1 (j := 1) [0, 1, 7] [(0, .pointer (some ⟨b0, 0, none⟩)), (1, .string x1), (7, .pointer (some ⟨b0, 0, none⟩))] rfl (by kernel_rfl) ?_
  obtain ⟨r21, h22, hF⟩ := bind_some hF
  refine ow_pw rfl (pw_call (F := [] ++ F0) rfl rfl rfl rfl rfl rfl rfl (by kernel_rfl) (perm_of_pulls [0, 0, 0, 0] rfl) (c_mill_Mill_none _ m0 p0 p1 b0 r21 h22) ?_)
  rintro _ _ ⟨rfl, rfl⟩
  refine nw_H (H' := [imm I, pt b0 #[.map (some p0), .map (some p1), .string m0.twins_.e0, .string m0.twins_.e1, .bool m0.found_, .bool m0.full_, .int .i64 m0.sums_] 64, mpo kStr kStr p0 m0.table_, mpo kStr kStr p1 m0.notes_] ++ F0) rfl (nw_ow ?_)
  refine ow_end rfl ?_
  refine ew_then ?_
  rcases if_some hF with ⟨h23, hF⟩ | ⟨h23, hF⟩
  · refine cw_cond_t rfl rfl h23 ?_
    refine cw_seq ?_
    refine cw_region ?_
    refine ow_vals 1 (j := 1) [4] [(4, .string (ByteArray.mk #[]))] rfl (by kernel_rfl) ?_
    refine ow_end rfl ?_
    refine ew_then ?_
    refine cw_ret ?_
    refine ew_then_ret ?_
    have hR := Option.some.inj hF
    subst hR
    exact fin1 (H1 := [imm I, pt b0 #[.map (some p0), .map (some p1), .string m0.twins_.e0, .string m0.twins_.e1, .bool m0.found_, .bool m0.full_, .int .i64 m0.sums_] 64, mpo kStr kStr p0 m0.table_, mpo kStr kStr p1 m0.notes_]) (fun w hs => sat_to [0, 0, 0, 0] 0 rfl hs) rfl (rr_tmp rfl) ⟨p0, p1, rfl, rfl⟩
  refine cw_cond_f rfl rfl h23 ?_
  refine cw_skip ?_
  refine ew_then ?_
  refine cw_seq ?_
  refine cw_open 12 (SAT w0 ([imm I, pt b0 #[.map (some p0), .map (some p1), .string m0.twins_.e0, .string m0.twins_.e1, .bool m0.found_, .bool m0.full_, .int .i64 m0.sums_] 64, mpo kStr kStr p0 m0.table_, mpo kStr kStr p1 m0.notes_])) (by kernel_rfl) (f := 12) rfl (fun w hs => sat_drew hs) ?_
  refine aw_vals [0, 1, 2, 4] (f' := 8) (m' := 23) [0, 1, 12, 14] [(0, .pointer (some ⟨b0, 0, none⟩)), (1, .string x1), (12, .pointer (some ⟨b0, 0, none⟩)), (14, .string x1)] (fun _ _ _ _ _ h => calm_fin (P := Try.prog) (fn := Try.f62) _ _ _ _ _ h) (fun w hs => sat_pulls [0, 0, 0, 0] (G := [] ++ F0) rfl hs) rfl (by kernel_rfl) ?_
  refine aw_quiet 3 (m' := 31) (v := .map (some p0)) 0 [] rfl rfl rfl rfl (by kernel_rfl) (by kernel_rfl) (by kernel_rfl) (fun _ _ _ _ _ h => calm_fin (P := Try.prog) (fn := Try.f62) _ _ _ _ _ h) (fun w hs => sat_pulls [0, 0, 0, 0] (G := [] ++ F0) rfl hs) (q_load 1 rfl rfl rfl (by kernel_rfl)) ?_
  obtain ⟨r24, h25, hF⟩ := bind_some hF
  refine aw_only 5 (m' := 63) (by kernel_rfl) (by kernel_rfl) (pw_call (F := [pt b0 #[.map (some p0), .map (some p1), .string m0.twins_.e0, .string m0.twins_.e1, .bool m0.found_, .bool m0.full_, .int .i64 m0.sums_] 64, mpo kStr kStr p0 m0.table_, mpo kStr kStr p1 m0.notes_] ++ F0) rfl rfl rfl rfl rfl rfl rfl (by kernel_rfl) (perm_of_pulls [0] rfl) (c_mill_name _ false (ByteArray.mk #[]) x1 r24 h25) ?_)
  rintro _ _ ⟨rfl, rfl⟩
  refine nw_H (H' := [imm I, pt b0 #[.map (some p0), .map (some p1), .string m0.twins_.e0, .string m0.twins_.e1, .bool m0.found_, .bool m0.full_, .int .i64 m0.sums_] 64, mpo kStr kStr p0 m0.table_, mpo kStr kStr p1 m0.notes_] ++ F0) rfl (aw_next (fun w hs => sat_pulls [0, 0, 0, 0] (G := [] ++ F0) rfl hs) ?_)
  refine aw_quiet 6 (m' := 127) (v := .tuple #[.string (mgetD m0.table_ r24 (ByteArray.mk #[])), .bool (mhas m0.table_ r24)]) 0 [] rfl rfl rfl rfl (by kernel_rfl) (by kernel_rfl) (by kernel_rfl) (fun _ _ _ _ _ h => calm_fin (P := Try.prog) (fn := Try.f62) _ _ _ _ _ h) (fun w hs => sat_pulls [0, 0, 0, 0] (G := [] ++ F0) rfl hs) (q_lookup2 (kf := kStr) (vf := kStr) (key := r24) 2 (ByteArray.mk #[]) (mkey_str (by kernel_rfl)) rfl rfl rfl rfl rfl (by kernel_rfl)) ?_
  refine aw_vals [7, 8, 9, 10, 11] (f' := 0) (m' := 4095) [0, 1, 5, 6] [(0, .pointer (some ⟨b0, 0, none⟩)), (1, .string x1), (5, .string (mgetD m0.table_ r24 (ByteArray.mk #[]))), (6, .bool (mhas m0.table_ r24))] (fun _ _ _ _ _ h => calm_fin (P := Try.prog) (fn := Try.f62) _ _ _ _ _ h) (fun w hs => sat_pulls [0, 0, 0, 0] (G := [] ++ F0) rfl hs) rfl (by kernel_rfl) ?_
  refine aw_keep [0, 1, 5, 6] (L' := [(0, .pointer (some ⟨b0, 0, none⟩)), (1, .string x1), (5, .string (mgetD m0.table_ r24 (ByteArray.mk #[]))), (6, .bool (mhas m0.table_ r24))]) rfl ?_
  refine aw_end (by kernel_rfl) ?_
  refine ew_then ?_
  refine cw_seq ?_
  refine cw_seq ?_
  refine cw_region ?_
  refine ow_vals 2 (j := 2) [0, 1, 5, 20] [(0, .pointer (some ⟨b0, 0, none⟩)), (1, .string x1), (5, .string (mgetD m0.table_ r24 (ByteArray.mk #[]))), (20, .bool (!(mhas m0.table_ r24)))] rfl (by kernel_rfl) ?_
  refine ow_end rfl ?_
  refine ew_then ?_
  rcases if_some hF with ⟨h26, hF⟩ | ⟨h26, hF⟩
  · refine cw_cond_t rfl rfl h26 ?_
    refine cw_region ?_
    refine ow_vals 1 (j := 1) [0, 1, 21] [(0, .pointer (some ⟨b0, 0, none⟩)), (1, .string x1), (21, .string x1)] rfl (by kernel_rfl) ?_
    obtain ⟨r27, h28, hF⟩ := bind_some hF
    refine ow_pw rfl (pw_call (F := [pt b0 #[.map (some p0), .map (some p1), .string m0.twins_.e0, .string m0.twins_.e1, .bool m0.found_, .bool m0.full_, .int .i64 m0.sums_] 64, mpo kStr kStr p0 m0.table_, mpo kStr kStr p1 m0.notes_] ++ F0) rfl rfl rfl rfl rfl rfl rfl (by kernel_rfl) (perm_of_pulls [0] rfl) (c_sha_Sum _ x1 r27 h28) ?_)
    rintro _ _ ⟨rfl, rfl⟩
    refine nw_H (H' := [imm I, pt b0 #[.map (some p0), .map (some p1), .string m0.twins_.e0, .string m0.twins_.e1, .bool m0.found_, .bool m0.full_, .int .i64 m0.sums_] 64, mpo kStr kStr p0 m0.table_, mpo kStr kStr p1 m0.notes_] ++ F0) rfl (nw_ow ?_)
    refine ow_vals 1 (j := 3) [0, 1, 5] [(0, .pointer (some ⟨b0, 0, none⟩)), (1, .string x1), (5, .string r27)] rfl (by kernel_rfl) ?_
    refine ow_end rfl ?_
    refine ew_then ?_
    refine cw_seq ?_
    refine cw_region ?_
    refine ow_vals 3 (j := 3) [5, 23, 24, 25] [(5, .string r27), (23, .pointer (some ⟨b0, 0, none⟩)), (24, .string x1), (25, .string r27)] rfl (by kernel_rfl) ?_
    obtain ⟨r29, h30, hF⟩ := bind_some hF
    refine ow_pw rfl (pw_call (F := [] ++ F0) rfl rfl rfl rfl rfl rfl rfl (by kernel_rfl) (perm_of_pulls [0, 0, 0, 0] rfl) (c_mill_Mill_note _ x1 r27 m0 p0 p1 b0 r29 h30) ?_)
    rintro _ _ ⟨r29_b1, r29_b3, rfl, rfl⟩
    refine nw_H (H' := [imm I, pt b0 #[.map (some r29_b1), .map (some r29_b3), .string r29.twins_.e0, .string r29.twins_.e1, .bool r29.found_, .bool r29.full_, .int .i64 r29.sums_] 64, mpo kStr kStr r29_b1 r29.table_, mpo kStr kStr r29_b3 r29.notes_] ++ F0) rfl (nw_ow ?_)
    refine ow_end rfl ?_
    refine ew_then ?_
    refine cw_seq ?_
    refine cw_region ?_
    refine ow_vals 2 (j := 2) [4] [(4, .string r27)] rfl (by kernel_rfl) ?_
    refine ow_end rfl ?_
    refine ew_then ?_
    refine cw_ret ?_
    have hR := Option.some.inj hF
    subst hR
    exact fin1 (H1 := [imm I, pt b0 #[.map (some r29_b1), .map (some r29_b3), .string r29.twins_.e0, .string r29.twins_.e1, .bool r29.found_, .bool r29.full_, .int .i64 r29.sums_] 64, mpo kStr kStr r29_b1 r29.table_, mpo kStr kStr r29_b3 r29.notes_]) (fun w hs => sat_to [0, 0, 0, 0] 0 rfl hs) rfl (rr_tmp rfl) ⟨r29_b1, r29_b3, rfl, rfl⟩
  refine cw_cond_f rfl rfl h26 ?_
  refine cw_skip ?_
  refine ew_then ?_
  refine cw_seq ?_
  refine cw_region ?_
  refine ow_vals 3 (j := 3) [5, 23, 24, 25] [(5, .string (mgetD m0.table_ r24 (ByteArray.mk #[]))), (23, .pointer (some ⟨b0, 0, none⟩)), (24, .string x1), (25, .string (mgetD m0.table_ r24 (ByteArray.mk #[])))] rfl (by kernel_rfl) ?_
  obtain ⟨r33, h34, hF⟩ := bind_some hF
  refine ow_pw rfl (pw_call (F := [] ++ F0) rfl rfl rfl rfl rfl rfl rfl (by kernel_rfl) (perm_of_pulls [0, 0, 0, 0] rfl) (c_mill_Mill_note _ x1 (mgetD m0.table_ r24 (ByteArray.mk #[])) m0 p0 p1 b0 r33 h34) ?_)
  rintro _ _ ⟨r33_b1, r33_b3, rfl, rfl⟩
  refine nw_H (H' := [imm I, pt b0 #[.map (some r33_b1), .map (some r33_b3), .string r33.twins_.e0, .string r33.twins_.e1, .bool r33.found_, .bool r33.full_, .int .i64 r33.sums_] 64, mpo kStr kStr r33_b1 r33.table_, mpo kStr kStr r33_b3 r33.notes_] ++ F0) rfl (nw_ow ?_)
  refine ow_end rfl ?_
  refine ew_then ?_
  refine cw_seq ?_
  refine cw_region ?_
  refine ow_vals 2 (j := 2) [4] [(4, .string (mgetD m0.table_ r24 (ByteArray.mk #[])))] rfl (by kernel_rfl) ?_
  refine ow_end rfl ?_
  refine ew_then ?_
  refine cw_ret ?_
  have hR := Option.some.inj hF
  subst hR
  exact fin1 (H1 := [imm I, pt b0 #[.map (some r33_b1), .map (some r33_b3), .string r33.twins_.e0, .string r33.twins_.e1, .bool r33.found_, .bool r33.full_, .int .i64 r33.sums_] 64, mpo kStr kStr r33_b1 r33.table_, mpo kStr kStr r33_b3 r33.notes_]) (fun w hs => sat_to [0, 0, 0, 0] 0 rfl hs) rfl (rr_tmp rfl) ⟨r33_b1, r33_b3, rfl, rfl⟩


def F.mill_With.l1 (x0 : List mill_Entry) (x28 : Int) (l29 : List (ByteArray × ByteArray)) : Option ((Int × (List (ByteArray × ByteArray))) ⊕ (((List (ByteArray × ByteArray))) ⊕ ((Option mill_Mill) × Int))) :=
  if decide (x28 < (x0.length : Int)) then (Option.bind (at_ x0 x28) (fun (y32 : mill_Entry) => if (y32.Out.size : Int) != 32 then (some (.inr (.inr ((none, 1))))) else (Option.bind (F.mill_name y32.Tag y32.Key y32.Text) (fun (r39 : ByteArray) => if !(mhas l29 r39) then (some (.inl (IntKind.i64.wrap (x28 + 1), mset l29 r39 y32.Out))) else (some (.inl (IntKind.i64.wrap (x28 + 1), l29))))))) else (some (.inr (.inl l29)))
def F.mill_With.r2 (r21 : mill_Mill) (l42 : List (ByteArray × ByteArray)) : Option ((Option mill_Mill) × Int) :=
  some ((some (⟨l42, r21.notes_, r21.twins_, r21.found_, r21.full_, r21.sums_⟩ : mill_Mill), 0))
def F.mill_With (x0 : List mill_Entry) : Option ((Option mill_Mill) × Int) :=
  Option.bind (F.mill_New) (fun (r21 : mill_Mill) => thru (iter (fun x => F.mill_With.l1 x0 x.1 x.2) FUEL (0, r21.table_)) (fun x => F.mill_With.r2 r21 x))
set_option maxRecDepth 100000 in
set_option maxHeartbeats 4000000 in
theorem c_mill_With (I : Hl) (x0 : List mill_Entry) (p0 : Option Addr) (c0 : Nat) (res : (Option mill_Mill) × Int) (hF : F.mill_With x0 = some res) (hr0 : ro I e_mill_Entry p0 c0 x0) : Tr Try.prog 24 [.slice p0 x0.length c0] [imm I] (fun r H' => (res.1 = none ∧ r = .tuple #[.pointer none, .int .i64 1] ∧ H' = [imm I]) ∨ (∃ (sq1 : mill_Mill), ∃ (bq2 : Nat), ∃ (bq4 : Nat), ∃ (bq6 : Nat), res.1 = some sq1 ∧ r = .tuple #[.pointer (some ⟨bq2, 0, none⟩), .int .i64 0] ∧ H' = [imm I, pt bq2 #[.map (some bq4), .map (some bq6), .string sq1.twins_.e0, .string sq1.twins_.e1, .bool sq1.found_, .bool sq1.full_, .int .i64 sq1.sums_] 64, mpo kStr kStr bq4 sq1.table_, mpo kStr kStr bq6 sq1.notes_])) := by
  unfold F.mill_With at hF
  refine tr_of_cw (fn := Try.f24) Try.func24 rfl (Nat.le_of_ble_eq_true rfl) 48 rfl fun F0 w0 => ?_
  refine cw_keep [0] (L' := [(0, .slice p0 x0.length c0)]) rfl ?_
  refine cw_state (S' := SAT w0 ([imm I] ++ F0)) (fun w hs => hs) ?_
  refine cw_seq ?_
  refine cw_region ?_
  refine ow_vals 2 (j := 2) [0] [(0, .slice p0 x0.length c0)] rfl (by kernel_rfl) ?_
  refine ow_end rfl ?_
  refine ew_then ?_
  refine cw_seq ?_
  refine cw_region ?_
  obtain ⟨r21, h22, hF⟩ := bind_some hF
  refine ow_pw rfl (pw_call (F := [] ++ F0) rfl rfl rfl rfl rfl rfl rfl (by kernel_rfl) (perm_of_pulls [0] rfl) (c_mill_New _ r21 h22) ?_)
  rintro _ _ ⟨r21_b1, r21_b3, r21_b5, rfl, rfl⟩
  refine nw_H (H' := [imm I, pt r21_b1 #[.map (some r21_b3), .map (some r21_b5), .string r21.twins_.e0, .string r21.twins_.e1, .bool r21.found_, .bool r21.full_, .int .i64 r21.sums_] 64, mpo kStr kStr r21_b3 r21.table_, mpo kStr kStr r21_b5 r21.notes_] ++ F0) rfl (nw_ow ?_)
  refine ow_vals 1 (j := 2) [0, 4] [(0, .slice p0 x0.length c0), (4, .pointer (some ⟨r21_b1, 0, none⟩))] rfl (by kernel_rfl) ?_
  refine ow_end rfl ?_
  refine ew_then ?_
  obtain ⟨v26, hF, hK26⟩ := thru_some hF
  refine cw_mid (fun a w => ∃ (l42 : List (ByteArray × ByteArray)), .inl l42 = v26 ∧ Fr 48 [(4, .pointer (some ⟨r21_b1, 0, none⟩))] a ∧ SAT w0 ([imm I, pt r21_b1 #[.map (some r21_b3), .map (some r21_b5), .string r21.twins_.e0, .string r21.twins_.e1, .bool r21.found_, .bool r21.full_, .int .i64 r21.sums_] 64, mpo kStr kStr r21_b3 l42, mpo kStr kStr r21_b5 r21.notes_] ++ F0) w) ?_ ?_
  · refine cw_seq ?_
    refine cw_region ?_
    refine ow_vals 3 (j := 3) [4, 11, 12, 13] [(4, .pointer (some ⟨r21_b1, 0, none⟩)), (11, .slice p0 x0.length c0), (12, .int .i64 (x0.length : Int)), (13, .int .i64 0)] rfl (by kernel_rfl) ?_
    refine ow_end rfl ?_
    refine ew_then ?_
    refine cw_block ?_
    refine fun a w hf hs => wp_rounds (fun k a w => ∃ (x28 : Int), ∃ (l29 : List (ByteArray × ByteArray)), iter (fun x => F.mill_With.l1 x0 x.1 x.2) k (x28, l29) = some v26 ∧ Fr 48 [(4, .pointer (some ⟨r21_b1, 0, none⟩)), (11, .slice p0 x0.length c0), (12, .int .i64 (x0.length : Int)), (13, .int .i64 x28)] a ∧ SAT w0 ([imm I, pt r21_b1 #[.map (some r21_b3), .map (some r21_b5), .string r21.twins_.e0, .string r21.twins_.e1, .bool r21.found_, .bool r21.full_, .int .i64 r21.sums_] 64, mpo kStr kStr r21_b3 l29, mpo kStr kStr r21_b5 r21.notes_] ++ F0) w) ?_ FUEL a w ⟨0, r21.table_, hF, hf.keep [4, 11, 12, 13], sat_to [0, 0, 0, 0] 0 rfl hs⟩
    clear hf hs
    clear a w hF
    rintro k a w ⟨x28, l29, hF2, hf, hs⟩
    obtain ⟨k, r27, rfl, hF, hL27⟩ := iter_some hF2
    clear hF2
    revert a w
    show CW _ _ _ 48 [(4, .pointer (some ⟨r21_b1, 0, none⟩)), (11, .slice p0 x0.length c0), (12, .int .i64 (x0.length : Int)), (13, .int .i64 x28)] (SAT w0 ([imm I, pt r21_b1 #[.map (some r21_b3), .map (some r21_b5), .string r21.twins_.e0, .string r21.twins_.e1, .bool r21.found_, .bool r21.full_, .int .i64 r21.sums_] 64, mpo kStr kStr r21_b3 l29, mpo kStr kStr r21_b5 r21.notes_] ++ F0))
    try dsimp only at hF
    unfold F.mill_With.l1 at hF
    refine cw_seq ?_
    refine cw_region ?_
    refine ow_vals 1 (j := 1) [4, 11, 12, 13, 14] [(4, .pointer (some ⟨r21_b1, 0, none⟩)), (11, .slice p0 x0.length c0), (12, .int .i64 (x0.length : Int)), (13, .int .i64 x28), (14, .bool (decide (x28 < (x0.length : Int))))] rfl (by kernel_rfl) ?_
    refine ow_end rfl ?_
    refine ew_then ?_
    refine cw_seq ?_
    rcases if_some hF with ⟨h31, hF⟩ | ⟨h31, hF⟩
    · refine cw_cond_t rfl rfl h31 ?_
      refine cw_skip ?_
      refine ew_then ?_
      refine cw_seq ?_
      refine cw_block ?_
      refine cw_seq ?_
      refine cw_region ?_
      obtain ⟨y32, h33, hF⟩ := bind_some hF
      refine ow_pw rfl (pw_index_ro (E := 80) 4 hr0 rfl rfl rfl rfl rfl (by kernel_rfl) rfl rfl rfl h33 fun q34 h35 => nw_ow ?_)
      refine ow_pw rfl (pw_quiet (v := .agg #[.bool y32.Tag, .string y32.Key, .string y32.Text, .string y32.Out]) rfl rfl rfl rfl (q_load_el0 0 rfl h35 rfl rfl (by kernel_rfl)) (nw_ow ?_))
      refine ow_pw rfl (pw_alloc (cs := #[.bool false, .string (ByteArray.mk #[]), .string (ByteArray.mk #[]), .string (ByteArray.mk #[])]) rfl rfl rfl rfl rfl (by kernel_rfl) fun b36 => nw_ow ?_)
      refine ow_pw rfl (pw_store 0 #[.bool y32.Tag, .string y32.Key, .string y32.Text, .string y32.Out] rfl rfl rfl rfl rfl rfl rfl (by kernel_rfl) (nw_H (H' := [pt b36 #[.bool y32.Tag, .string y32.Key, .string y32.Text, .string y32.Out] 80, imm I, pt r21_b1 #[.map (some r21_b3), .map (some r21_b5), .string r21.twins_.e0, .string r21.twins_.e1, .bool r21.found_, .bool r21.full_, .int .i64 r21.sums_] 64, mpo kStr kStr r21_b3 l29, mpo kStr kStr r21_b5 r21.notes_] ++ F0) rfl (nw_ow ?_)))
      refine ow_end rfl ?_
      refine ew_then ?_
      refine cw_seq ?_
      refine cw_seq ?_
      refine cw_region ?_
      refine ow_vals 1 (j := 1) [4, 6, 11, 12, 13, 17] [(4, .pointer (some ⟨r21_b1, 0, none⟩)), (6, .pointer (some ⟨b36, 0, none⟩)), (11, .slice p0 x0.length c0), (12, .int .i64 (x0.length : Int)), (13, .int .i64 x28), (17, .pointer (some ⟨b36, 3, none⟩))] rfl (by kernel_rfl) ?_
      refine ow_pw rfl (pw_quiet (v := .string y32.Out) rfl rfl rfl rfl (q_load 0 rfl rfl rfl (by kernel_rfl)) (nw_ow ?_))
      refine ow_vals 2 (j := 4) [4, 6, 11, 12, 13, 20] [(4, .pointer (some ⟨r21_b1, 0, none⟩)), (6, .pointer (some ⟨b36, 0, none⟩)), (11, .slice p0 x0.length c0), (12, .int .i64 (x0.length : Int)), (13, .int .i64 x28), (20, .bool ((y32.Out.size : Int) != 32))] rfl (by kernel_rfl) ?_
      refine ow_end rfl ?_
      refine ew_then ?_
      rcases if_some hF with ⟨h38, hF⟩ | ⟨h38, hF⟩
      · refine cw_cond_t rfl rfl h38 ?_
        refine cw_seq ?_
        refine cw_region ?_
        refine ow_vals 2 (j := 2) [2, 3] [(2, .pointer none), (3, .int .i64 1)] rfl (by kernel_rfl) ?_
        refine ow_end rfl ?_
        refine ew_then ?_
        refine cw_ret ?_
        refine ew_then_ret ?_
        refine ew_blk_ret ?_
        refine ew_then_ret ?_
        refine ew_then_ret ?_
        refine ew_blk_ret ?_
        refine ew_then_ret ?_
        have hR := Option.some.inj hF
        subst hR
        have hR := hL27
        try dsimp only at hR
        subst hR
        have hR := hK26
        try dsimp only [Thru] at hR
        subst hR
        exact fin2 (H1 := [imm I]) (fun w hs => sat_to [0, 1, 1, 1, 0] 4 rfl hs) rfl (rr_tmp rfl) (rr_tmp rfl) (.inl ⟨rfl, rfl, rfl⟩)
      refine cw_cond_f rfl rfl h38 ?_
      refine cw_skip ?_
      refine ew_then ?_
      refine cw_seq ?_
      refine cw_region ?_
      refine ow_vals 1 (j := 1) [4, 6, 11, 12, 13, 21] [(4, .pointer (some ⟨r21_b1, 0, none⟩)), (6, .pointer (some ⟨b36, 0, none⟩)), (11, .slice p0 x0.length c0), (12, .int .i64 (x0.length : Int)), (13, .int .i64 x28), (21, .pointer (some ⟨b36, 0, none⟩))] rfl (by kernel_rfl) ?_
      refine ow_pw rfl (pw_quiet (v := .bool y32.Tag) rfl rfl rfl rfl (q_load 0 rfl rfl rfl (by kernel_rfl)) (nw_ow ?_))
      refine ow_vals 1 (j := 3) [4, 6, 11, 12, 13, 22, 23] [(4, .pointer (some ⟨r21_b1, 0, none⟩)), (6, .pointer (some ⟨b36, 0, none⟩)), (11, .slice p0 x0.length c0), (12, .int .i64 (x0.length : Int)), (13, .int .i64 x28), (22, .bool y32.Tag), (23, .pointer (some ⟨b36, 1, none⟩))] rfl (by kernel_rfl) ?_
      refine ow_pw rfl (pw_quiet (v := .string y32.Key) rfl rfl rfl rfl (q_load 0 rfl rfl rfl (by kernel_rfl)) (nw_ow ?_))
      refine ow_vals 1 (j := 5) [4, 6, 11, 12, 13, 22, 24, 25] [(4, .pointer (some ⟨r21_b1, 0, none⟩)), (6, .pointer (some ⟨b36, 0, none⟩)), (11, .slice p0 x0.length c0), (12, .int .i64 (x0.length : Int)), (13, .int .i64 x28), (22, .bool y32.Tag), (24, .string y32.Key), (25, .pointer (some ⟨b36, 2, none⟩))] rfl (by kernel_rfl) ?_
      refine ow_pw rfl (pw_quiet (v := .string y32.Text) rfl rfl rfl rfl (q_load 0 rfl rfl rfl (by kernel_rfl)) (nw_ow ?_))
      obtain ⟨r39, h40, hF⟩ := bind_some hF
      refine ow_pw rfl (pw_call (F := [pt b36 #[.bool y32.Tag, .string y32.Key, .string y32.Text, .string y32.Out] 80, pt r21_b1 #[.map (some r21_b3), .map (some r21_b5), .string r21.twins_.e0, .string r21.twins_.e1, .bool r21.found_, .bool r21.full_, .int .i64 r21.sums_] 64, mpo kStr kStr r21_b3 l29, mpo kStr kStr r21_b5 r21.notes_] ++ F0) rfl rfl rfl rfl rfl rfl rfl (by kernel_rfl) (perm_of_pulls [1] rfl) (c_mill_name _ y32.Tag y32.Key y32.Text r39 h40) ?_)
      rintro _ _ ⟨rfl, rfl⟩
      refine nw_H (H' := [imm I, pt b36 #[.bool y32.Tag, .string y32.Key, .string y32.Text, .string y32.Out] 80, pt r21_b1 #[.map (some r21_b3), .map (some r21_b5), .string r21.twins_.e0, .string r21.twins_.e1, .bool r21.found_, .bool r21.full_, .int .i64 r21.sums_] 64, mpo kStr kStr r21_b3 l29, mpo kStr kStr r21_b5 r21.notes_] ++ F0) rfl (nw_ow ?_)
      refine ow_vals 1 (j := 8) [4, 6, 7, 11, 12, 13] [(4, .pointer (some ⟨r21_b1, 0, none⟩)), (6, .pointer (some ⟨b36, 0, none⟩)), (7, .string r39), (11, .slice p0 x0.length c0), (12, .int .i64 (x0.length : Int)), (13, .int .i64 x28)] rfl (by kernel_rfl) ?_
      refine ow_end rfl ?_
      refine ew_then ?_
      refine cw_seq ?_
      refine cw_region ?_
      refine ow_vals 3 (j := 3) [4, 6, 7, 11, 12, 13, 31] [(4, .pointer (some ⟨r21_b1, 0, none⟩)), (6, .pointer (some ⟨b36, 0, none⟩)), (7, .string r39), (11, .slice p0 x0.length c0), (12, .int .i64 (x0.length : Int)), (13, .int .i64 x28), (31, .pointer (some ⟨r21_b1, 0, none⟩))] rfl (by kernel_rfl) ?_
      refine ow_pw rfl (pw_quiet (v := .map (some r21_b3)) rfl rfl rfl rfl (q_load 2 rfl rfl rfl (by kernel_rfl)) (nw_ow ?_))
      refine ow_vals 1 (j := 5) [4, 6, 7, 11, 12, 13, 32, 33] [(4, .pointer (some ⟨r21_b1, 0, none⟩)), (6, .pointer (some ⟨b36, 0, none⟩)), (7, .string r39), (11, .slice p0 x0.length c0), (12, .int .i64 (x0.length : Int)), (13, .int .i64 x28), (32, .map (some r21_b3)), (33, .string r39)] rfl (by kernel_rfl) ?_
      refine ow_pw rfl (pw_quiet (v := .tuple #[.string (mgetD l29 r39 (ByteArray.mk #[])), .bool (mhas l29 r39)]) rfl rfl rfl rfl (q_lookup2 (kf := kStr) (vf := kStr) (key := r39) 3 (ByteArray.mk #[]) (mkey_str (by kernel_rfl)) rfl rfl rfl rfl rfl (by kernel_rfl)) (nw_ow ?_))
      refine ow_vals 5 (j := 11) [4, 6, 7, 9, 11, 12, 13] [(4, .pointer (some ⟨r21_b1, 0, none⟩)), (6, .pointer (some ⟨b36, 0, none⟩)), (7, .string r39), (9, .bool (mhas l29 r39)), (11, .slice p0 x0.length c0), (12, .int .i64 (x0.length : Int)), (13, .int .i64 x28)] rfl (by kernel_rfl) ?_
      refine ow_end rfl ?_
      refine ew_then ?_
      refine cw_seq ?_
      refine cw_region ?_
      refine ow_vals 2 (j := 2) [4, 6, 7, 11, 12, 13, 38] [(4, .pointer (some ⟨r21_b1, 0, none⟩)), (6, .pointer (some ⟨b36, 0, none⟩)), (7, .string r39), (11, .slice p0 x0.length c0), (12, .int .i64 (x0.length : Int)), (13, .int .i64 x28), (38, .bool (!(mhas l29 r39)))] rfl (by kernel_rfl) ?_
      refine ow_end rfl ?_
      refine ew_then ?_
      rcases if_some hF with ⟨h41, hF⟩ | ⟨h41, hF⟩
      · refine cw_cond_t rfl rfl h41 ?_
        refine cw_open 7 (SAT w0 ([imm I, pt b36 #[.bool y32.Tag, .string y32.Key, .string y32.Text, .string y32.Out] 80, pt r21_b1 #[.map (some r21_b3), .map (some r21_b5), .string r21.twins_.e0, .string r21.twins_.e1, .bool r21.found_, .bool r21.full_, .int .i64 r21.sums_] 64, mpo kStr kStr r21_b3 l29, mpo kStr kStr r21_b5 r21.notes_])) (by kernel_rfl) (f := 8) rfl (fun w hs => sat_drew hs) ?_
        refine aw_vals [0, 1, 2, 4, 5] (f' := 3) (m' := 55) [4, 11, 12, 13, 41, 43, 44] [(4, .pointer (some ⟨r21_b1, 0, none⟩)), (11, .slice p0 x0.length c0), (12, .int .i64 (x0.length : Int)), (13, .int .i64 x28), (41, .pointer (some ⟨r21_b1, 0, none⟩)), (43, .string r39), (44, .pointer (some ⟨b36, 3, none⟩))] (fun _ _ _ _ _ h => calm_fin (P := Try.prog) (fn := Try.f24) _ _ _ _ _ h) (fun w hs => sat_pulls [0, 0, 0, 0, 0] (G := [] ++ F0) rfl hs) rfl (by kernel_rfl) ?_
        refine aw_quiet 3 (m' := 63) (v := .map (some r21_b3)) 3 [] rfl rfl rfl rfl (by kernel_rfl) (by kernel_rfl) (by kernel_rfl) (fun _ _ _ _ _ h => calm_fin (P := Try.prog) (fn := Try.f24) _ _ _ _ _ h) (fun w hs => sat_pulls [0, 0, 0, 0, 0] (G := [] ++ F0) rfl hs) (q_load 2 rfl rfl rfl (by kernel_rfl)) ?_
        refine aw_quiet 6 (m' := 127) (v := .string y32.Out) 6 [] rfl rfl rfl rfl (by kernel_rfl) (by kernel_rfl) (by kernel_rfl) (fun _ _ _ _ _ h => calm_fin (P := Try.prog) (fn := Try.f24) _ _ _ _ _ h) (fun w hs => sat_pulls [0, 0, 0, 0, 0] (G := [] ++ F0) rfl hs) (q_load 1 rfl rfl rfl (by kernel_rfl)) ?_
        refine aw_only 7 (m' := 255) (by kernel_rfl) (by kernel_rfl) (pw_mapSet 3 (key := r39) (v := y32.Out) (mkey_str (by kernel_rfl)) rfl rfl rfl rfl rfl rfl rfl rfl rfl rfl (nw_H (H' := [imm I, pt b36 #[.bool y32.Tag, .string y32.Key, .string y32.Text, .string y32.Out] 80, pt r21_b1 #[.map (some r21_b3), .map (some r21_b5), .string r21.twins_.e0, .string r21.twins_.e1, .bool r21.found_, .bool r21.full_, .int .i64 r21.sums_] 64, mpo kStr kStr r21_b3 (mset l29 r39 y32.Out), mpo kStr kStr r21_b5 r21.notes_] ++ F0) rfl (aw_last (by kernel_rfl) ?_)))
        refine aw_keep [4, 11, 12, 13] (L' := [(4, .pointer (some ⟨r21_b1, 0, none⟩)), (11, .slice p0 x0.length c0), (12, .int .i64 (x0.length : Int)), (13, .int .i64 x28)]) rfl ?_
        refine aw_end (by kernel_rfl) ?_
        refine ew_blk ?_
        refine ew_then ?_
        refine cw_region ?_
        refine ow_vals 2 (j := 2) [4, 11, 12, 13] [(4, .pointer (some ⟨r21_b1, 0, none⟩)), (11, .slice p0 x0.length c0), (12, .int .i64 (x0.length : Int)), (13, .int .i64 (IntKind.i64.wrap (x28 + 1)))] rfl (by kernel_rfl) ?_
        refine ow_end rfl ?_
        have hR := Option.some.inj hF
        subst hR
        have hR := hL27
        try dsimp only at hR
        exact fun a w hf hs => ⟨k, Nat.lt_succ_self k, IntKind.i64.wrap (x28 + 1), mset l29 r39 y32.Out, hR, hf.keep [4, 11, 12, 13], sat_to [1, 0, 0, 0, 0] 1 rfl hs⟩
      refine cw_cond_f rfl rfl h41 ?_
      refine cw_skip ?_
      refine ew_blk ?_
      refine ew_then ?_
      refine cw_region ?_
      refine ow_vals 2 (j := 2) [4, 11, 12, 13] [(4, .pointer (some ⟨r21_b1, 0, none⟩)), (11, .slice p0 x0.length c0), (12, .int .i64 (x0.length : Int)), (13, .int .i64 (IntKind.i64.wrap (x28 + 1)))] rfl (by kernel_rfl) ?_
      refine ow_end rfl ?_
      have hR := Option.some.inj hF
      subst hR
      have hR := hL27
      try dsimp only at hR
      exact fun a w hf hs => ⟨k, Nat.lt_succ_self k, IntKind.i64.wrap (x28 + 1), l29, hR, hf.keep [4, 11, 12, 13], sat_to [1, 0, 0, 0, 0] 1 rfl hs⟩
    refine cw_cond_f rfl rfl h31 ?_
    refine cw_exit ?_
    refine ew_then_exit ?_
    refine ew_then_exit ?_
    refine ew_blk_exit ?_
    have hR := Option.some.inj hF
    subst hR
    have hR := hL27
    try dsimp only at hR
    exact fun a w hf hs => ⟨l29, hR, hf.keep [4], sat_to [0, 0, 0, 0] 0 rfl hs⟩
  rintro a w ⟨l42, hv, hf, hs⟩
  subst hv
  replace hF := hK26
  clear hK26
  try dsimp only [Thru] at hF
  revert a w
  show CW _ _ _ 48 [(4, .pointer (some ⟨r21_b1, 0, none⟩))] (SAT w0 ([imm I, pt r21_b1 #[.map (some r21_b3), .map (some r21_b5), .string r21.twins_.e0, .string r21.twins_.e1, .bool r21.found_, .bool r21.full_, .int .i64 r21.sums_] 64, mpo kStr kStr r21_b3 l42, mpo kStr kStr r21_b5 r21.notes_] ++ F0))
  unfold F.mill_With.r2 at hF
  refine cw_seq ?_
  refine cw_region ?_
  refine ow_vals 3 (j := 3) [2, 3] [(2, .pointer (some ⟨r21_b1, 0, none⟩)), (3, .int .i64 0)] rfl (by kernel_rfl) ?_
  refine ow_end rfl ?_
  refine ew_then ?_
  refine cw_ret ?_
  have hR := Option.some.inj hF
  subst hR
  exact fin2 (H1 := [imm I, pt r21_b1 #[.map (some r21_b3), .map (some r21_b5), .string (⟨l42, r21.notes_, r21.twins_, r21.found_, r21.full_, r21.sums_⟩ : mill_Mill).twins_.e0, .string (⟨l42, r21.notes_, r21.twins_, r21.found_, r21.full_, r21.sums_⟩ : mill_Mill).twins_.e1, .bool (⟨l42, r21.notes_, r21.twins_, r21.found_, r21.full_, r21.sums_⟩ : mill_Mill).found_, .bool (⟨l42, r21.notes_, r21.twins_, r21.found_, r21.full_, r21.sums_⟩ : mill_Mill).full_, .int .i64 (⟨l42, r21.notes_, r21.twins_, r21.found_, r21.full_, r21.sums_⟩ : mill_Mill).sums_] 64, mpo kStr kStr r21_b3 (⟨l42, r21.notes_, r21.twins_, r21.found_, r21.full_, r21.sums_⟩ : mill_Mill).table_, mpo kStr kStr r21_b5 (⟨l42, r21.notes_, r21.twins_, r21.found_, r21.full_, r21.sums_⟩ : mill_Mill).notes_]) (fun w hs => sat_to [0, 0, 0, 0] 0 rfl hs) rfl (rr_tmp rfl) (rr_tmp rfl) (.inr ⟨(⟨l42, r21.notes_, r21.twins_, r21.found_, r21.full_, r21.sums_⟩ : mill_Mill), r21_b1, r21_b3, r21_b5, rfl, rfl, rfl⟩)


def F.mill_Mill_Twins (m0 : mill_Mill) : Option (ByteArray × ByteArray × Bool) :=
  Option.bind (F.mill_Mill_none m0) (fun (r21 : Bool) => if r21 then (some (((ByteArray.mk #[]), (ByteArray.mk #[]), false))) else (some ((m0.twins_.e0, m0.twins_.e1, m0.found_))))
set_option maxRecDepth 100000 in
set_option maxHeartbeats 4000000 in
theorem c_mill_Mill_Twins (I : Hl) (m0 : mill_Mill) (p0 : Nat) (p1 : Nat) (b0 : Nat) (res : ByteArray × ByteArray × Bool) (hF : F.mill_Mill_Twins m0 = some res) : Tr Try.prog 25 [.pointer (some ⟨b0, 0, none⟩)] [imm I, pt b0 #[.map (some p0), .map (some p1), .string m0.twins_.e0, .string m0.twins_.e1, .bool m0.found_, .bool m0.full_, .int .i64 m0.sums_] 64, mpo kStr kStr p0 m0.table_, mpo kStr kStr p1 m0.notes_] (fun r H' => r = .tuple #[.string res.1, .string res.2.1, .bool res.2.2] ∧ H' = [imm I, pt b0 #[.map (some p0), .map (some p1), .string m0.twins_.e0, .string m0.twins_.e1, .bool m0.found_, .bool m0.full_, .int .i64 m0.sums_] 64, mpo kStr kStr p0 m0.table_, mpo kStr kStr p1 m0.notes_]) := by
  unfold F.mill_Mill_Twins at hF
  refine tr_of_cw (fn := Try.f25) Try.func25 rfl (Nat.le_of_ble_eq_true rfl) 21 rfl fun F0 w0 => ?_
  refine cw_keep [0] (L' := [(0, .pointer (some ⟨b0, 0, none⟩))]) rfl ?_
  refine cw_state (S' := SAT w0 ([imm I, pt b0 #[.map (some p0), .map (some p1), .string m0.twins_.e0, .string m0.twins_.e1, .bool m0.found_, .bool m0.full_, .int .i64 m0.sums_] 64, mpo kStr kStr p0 m0.table_, mpo kStr kStr p1 m0.notes_] ++ F0)) (fun w hs => hs) ?_
  refine cw_seq ?_
  refine cw_region ?_
  refine ow_vals 3 (j := 3) [0] [(0, .pointer (some ⟨b0, 0, none⟩))] rfl (by kernel_rfl) ?_
  refine ow_end rfl ?_
  refine ew_then ?_
  refine cw_seq ?_
  refine cw_seq ?_
  refine cw_region ?_
  refine ow_vals 1 (j := 1) [0, 5] [(0, .pointer (some ⟨b0, 0, none⟩)), (5, .pointer (some ⟨b0, 0, none⟩))] rfl (by kernel_rfl) ?_
  obtain ⟨r21, h22, hF⟩ := bind_some hF
  refine ow_pw rfl (pw_call (F := [] ++ F0) rfl rfl rfl rfl rfl rfl rfl (by kernel_rfl) (perm_of_pulls [0, 0, 0, 0] rfl) (c_mill_Mill_none _ m0 p0 p1 b0 r21 h22) ?_)
  rintro _ _ ⟨rfl, rfl⟩
  refine nw_H (H' := [imm I, pt b0 #[.map (some p0), .map (some p1), .string m0.twins_.e0, .string m0.twins_.e1, .bool m0.found_, .bool m0.full_, .int .i64 m0.sums_] 64, mpo kStr kStr p0 m0.table_, mpo kStr kStr p1 m0.notes_] ++ F0) rfl (nw_ow ?_)
  refine ow_end rfl ?_
  refine ew_then ?_
  rcases if_some hF with ⟨h23, hF⟩ | ⟨h23, hF⟩
  · refine cw_cond_t rfl rfl h23 ?_
    refine cw_seq ?_
    refine cw_region ?_
    refine ow_vals 3 (j := 3) [2, 3, 4] [(2, .string (ByteArray.mk #[])), (3, .string (ByteArray.mk #[])), (4, .bool false)] rfl (by kernel_rfl) ?_
    refine ow_end rfl ?_
    refine ew_then ?_
    refine cw_ret ?_
    refine ew_then_ret ?_
    have hR := Option.some.inj hF
    subst hR
    exact fin3 (H1 := [imm I, pt b0 #[.map (some p0), .map (some p1), .string m0.twins_.e0, .string m0.twins_.e1, .bool m0.found_, .bool m0.full_, .int .i64 m0.sums_] 64, mpo kStr kStr p0 m0.table_, mpo kStr kStr p1 m0.notes_]) (fun w hs => sat_to [0, 0, 0, 0] 0 rfl hs) rfl (rr_tmp rfl) (rr_tmp rfl) (rr_tmp rfl) ⟨rfl, rfl⟩
  refine cw_cond_f rfl rfl h23 ?_
  refine cw_skip ?_
  refine ew_then ?_
  refine cw_seq ?_
  refine cw_open 17 (SAT w0 ([imm I, pt b0 #[.map (some p0), .map (some p1), .string m0.twins_.e0, .string m0.twins_.e1, .bool m0.found_, .bool m0.full_, .int .i64 m0.sums_] 64, mpo kStr kStr p0 m0.table_, mpo kStr kStr p1 m0.notes_])) (by kernel_rfl) (f := 17) rfl (fun w hs => sat_drew hs) ?_
  refine aw_vals [0, 1, 2, 3, 5, 6, 7, 8, 10, 11, 12] (f' := 6) (m' := 7663) [10, 15, 19] [(10, .pointer (some ⟨b0, 2, none⟩)), (15, .pointer (some ⟨b0, 3, none⟩)), (19, .pointer (some ⟨b0, 4, none⟩))] (fun _ _ _ _ _ h => calm_fin (P := Try.prog) (fn := Try.f25) _ _ _ _ _ h) (fun w hs => sat_pulls [0, 0, 0, 0] (G := [] ++ F0) rfl hs) rfl (by kernel_rfl) ?_
  refine aw_quiet 4 (m' := 7679) (v := .string m0.twins_.e0) 0 [] rfl rfl rfl rfl (by kernel_rfl) (by kernel_rfl) (by kernel_rfl) (fun _ _ _ _ _ h => calm_fin (P := Try.prog) (fn := Try.f25) _ _ _ _ _ h) (fun w hs => sat_pulls [0, 0, 0, 0] (G := [] ++ F0) rfl hs) (q_load 1 rfl rfl rfl (by kernel_rfl)) ?_
  refine aw_vals [14] (f' := 4) (m' := 24063) [2, 15, 19] [(2, .string m0.twins_.e0), (15, .pointer (some ⟨b0, 3, none⟩)), (19, .pointer (some ⟨b0, 4, none⟩))] (fun _ _ _ _ _ h => calm_fin (P := Try.prog) (fn := Try.f25) _ _ _ _ _ h) (fun w hs => sat_pulls [0, 0, 0, 0] (G := [] ++ F0) rfl hs) rfl (by kernel_rfl) ?_
  refine aw_quiet 9 (m' := 24575) (v := .string m0.twins_.e1) 0 [] rfl rfl rfl rfl (by kernel_rfl) (by kernel_rfl) (by kernel_rfl) (fun _ _ _ _ _ h => calm_fin (P := Try.prog) (fn := Try.f25) _ _ _ _ _ h) (fun w hs => sat_pulls [0, 0, 0, 0] (G := [] ++ F0) rfl hs) (q_load 1 rfl rfl rfl (by kernel_rfl)) ?_
  refine aw_vals [15] (f' := 2) (m' := 57343) [2, 3, 19] [(2, .string m0.twins_.e0), (3, .string m0.twins_.e1), (19, .pointer (some ⟨b0, 4, none⟩))] (fun _ _ _ _ _ h => calm_fin (P := Try.prog) (fn := Try.f25) _ _ _ _ _ h) (fun w hs => sat_pulls [0, 0, 0, 0] (G := [] ++ F0) rfl hs) rfl (by kernel_rfl) ?_
  refine aw_quiet 13 (m' := 65535) (v := .bool m0.found_) 0 [] rfl rfl rfl rfl (by kernel_rfl) (by kernel_rfl) (by kernel_rfl) (fun _ _ _ _ _ h => calm_fin (P := Try.prog) (fn := Try.f25) _ _ _ _ _ h) (fun w hs => sat_pulls [0, 0, 0, 0] (G := [] ++ F0) rfl hs) (q_load 1 rfl rfl rfl (by kernel_rfl)) ?_
  refine aw_vals [16] (f' := 0) (m' := 131071) [2, 3, 4] [(2, .string m0.twins_.e0), (3, .string m0.twins_.e1), (4, .bool m0.found_)] (fun _ _ _ _ _ h => calm_fin (P := Try.prog) (fn := Try.f25) _ _ _ _ _ h) (fun w hs => sat_pulls [0, 0, 0, 0] (G := [] ++ F0) rfl hs) rfl (by kernel_rfl) ?_
  refine aw_keep [2, 3, 4] (L' := [(2, .string m0.twins_.e0), (3, .string m0.twins_.e1), (4, .bool m0.found_)]) rfl ?_
  refine aw_end (by kernel_rfl) ?_
  refine ew_then ?_
  refine cw_ret ?_
  have hR := Option.some.inj hF
  subst hR
  exact fin3 (H1 := [imm I, pt b0 #[.map (some p0), .map (some p1), .string m0.twins_.e0, .string m0.twins_.e1, .bool m0.found_, .bool m0.full_, .int .i64 m0.sums_] 64, mpo kStr kStr p0 m0.table_, mpo kStr kStr p1 m0.notes_]) (fun w hs => sat_to [0, 0, 0, 0] 0 rfl hs) rfl (rr_tmp rfl) (rr_tmp rfl) (rr_tmp rfl) ⟨rfl, rfl⟩


def F.pledge_Leaf (x1 : ByteArray) (m0 : mill_Mill) : Option (ByteArray × mill_Mill) :=
  chk ((ByteArray.mk #[0]).size + x1.size ≤ 9223372036854775807) (Option.bind (F.mill_Mill_Sum ((ByteArray.mk #[0]) ++ x1) m0) (fun (r22 : ByteArray × mill_Mill) => some ((r22.1, r22.2))))
set_option maxRecDepth 100000 in
set_option maxHeartbeats 4000000 in
theorem c_pledge_Leaf (I : Hl) (x1 : ByteArray) (m0 : mill_Mill) (p0 : Nat) (p1 : Nat) (b0 : Nat) (res : ByteArray × mill_Mill) (hF : F.pledge_Leaf x1 m0 = some res) : Tr Try.prog 37 [.pointer (some ⟨b0, 0, none⟩), .string x1] [imm I, pt b0 #[.map (some p0), .map (some p1), .string m0.twins_.e0, .string m0.twins_.e1, .bool m0.found_, .bool m0.full_, .int .i64 m0.sums_] 64, mpo kStr kStr p0 m0.table_, mpo kStr kStr p1 m0.notes_] (fun r H' => ∃ (bq1 : Nat), ∃ (bq3 : Nat), r = .string res.1 ∧ H' = [imm I, pt b0 #[.map (some bq1), .map (some bq3), .string res.2.twins_.e0, .string res.2.twins_.e1, .bool res.2.found_, .bool res.2.full_, .int .i64 res.2.sums_] 64, mpo kStr kStr bq1 res.2.table_, mpo kStr kStr bq3 res.2.notes_]) := by
  unfold F.pledge_Leaf at hF
  refine tr_of_cw (fn := Try.f37) Try.func37 rfl (Nat.le_of_ble_eq_true rfl) 9 rfl fun F0 w0 => ?_
  refine cw_keep [0, 1] (L' := [(0, .pointer (some ⟨b0, 0, none⟩)), (1, .string x1)]) rfl ?_
  refine cw_state (S' := SAT w0 ([imm I, pt b0 #[.map (some p0), .map (some p1), .string m0.twins_.e0, .string m0.twins_.e1, .bool m0.found_, .bool m0.full_, .int .i64 m0.sums_] 64, mpo kStr kStr p0 m0.table_, mpo kStr kStr p1 m0.notes_] ++ F0)) (fun w hs => hs) ?_
  refine cw_seq ?_
  refine cw_region ?_
  refine ow_vals 1 (j := 1) [0, 1] [(0, .pointer (some ⟨b0, 0, none⟩)), (1, .string x1)] rfl (by kernel_rfl) ?_
  refine ow_end rfl ?_
  refine ew_then ?_
  refine cw_seq ?_
  refine cw_region ?_
  refine ow_vals 2 (j := 2) [5, 6] [(5, .pointer (some ⟨b0, 0, none⟩)), (6, .string x1)] rfl (by kernel_rfl) ?_
  obtain ⟨h21, hF⟩ := chk_some hF
  refine ow_pw rfl (pw_quiet (v := .string ((ByteArray.mk #[0]) ++ x1)) rfl rfl rfl rfl (q_concat rfl rfl rfl h21) (nw_ow ?_))
  obtain ⟨r22, h23, hF⟩ := bind_some hF
  refine ow_pw rfl (pw_call (F := [] ++ F0) rfl rfl rfl rfl rfl rfl rfl (by kernel_rfl) (perm_of_pulls [0, 0, 0, 0] rfl) (c_mill_Mill_Sum _ ((ByteArray.mk #[0]) ++ x1) m0 p0 p1 b0 r22 h23) ?_)
  rintro _ _ ⟨r22_b1, r22_b3, rfl, rfl⟩
  refine nw_H (H' := [imm I, pt b0 #[.map (some r22_b1), .map (some r22_b3), .string r22.2.twins_.e0, .string r22.2.twins_.e1, .bool r22.2.found_, .bool r22.2.full_, .int .i64 r22.2.sums_] 64, mpo kStr kStr r22_b1 r22.2.table_, mpo kStr kStr r22_b3 r22.2.notes_] ++ F0) rfl (nw_ow ?_)
  refine ow_vals 1 (j := 5) [4] [(4, .string r22.1)] rfl (by kernel_rfl) ?_
  refine ow_end rfl ?_
  refine ew_then ?_
  refine cw_ret ?_
  have hR := Option.some.inj hF
  subst hR
  exact fin1 (H1 := [imm I, pt b0 #[.map (some r22_b1), .map (some r22_b3), .string r22.2.twins_.e0, .string r22.2.twins_.e1, .bool r22.2.found_, .bool r22.2.full_, .int .i64 r22.2.sums_] 64, mpo kStr kStr r22_b1 r22.2.table_, mpo kStr kStr r22_b3 r22.2.notes_]) (fun w hs => sat_to [0, 0, 0, 0] 0 rfl hs) rfl (rr_tmp rfl) ⟨r22_b1, r22_b3, rfl, rfl⟩


def F.pledge_Node (x1 : ByteArray) (x2 : ByteArray) (m0 : mill_Mill) : Option (ByteArray × mill_Mill) :=
  chk ((ByteArray.mk #[1]).size + x1.size ≤ 9223372036854775807) (chk (((ByteArray.mk #[1]) ++ x1).size + x2.size ≤ 9223372036854775807) (Option.bind (F.mill_Mill_Sum (((ByteArray.mk #[1]) ++ x1) ++ x2) m0) (fun (r23 : ByteArray × mill_Mill) => some ((r23.1, r23.2)))))
set_option maxRecDepth 100000 in
set_option maxHeartbeats 4000000 in
theorem c_pledge_Node (I : Hl) (x1 : ByteArray) (x2 : ByteArray) (m0 : mill_Mill) (p0 : Nat) (p1 : Nat) (b0 : Nat) (res : ByteArray × mill_Mill) (hF : F.pledge_Node x1 x2 m0 = some res) : Tr Try.prog 36 [.pointer (some ⟨b0, 0, none⟩), .string x1, .string x2] [imm I, pt b0 #[.map (some p0), .map (some p1), .string m0.twins_.e0, .string m0.twins_.e1, .bool m0.found_, .bool m0.full_, .int .i64 m0.sums_] 64, mpo kStr kStr p0 m0.table_, mpo kStr kStr p1 m0.notes_] (fun r H' => ∃ (bq1 : Nat), ∃ (bq3 : Nat), r = .string res.1 ∧ H' = [imm I, pt b0 #[.map (some bq1), .map (some bq3), .string res.2.twins_.e0, .string res.2.twins_.e1, .bool res.2.found_, .bool res.2.full_, .int .i64 res.2.sums_] 64, mpo kStr kStr bq1 res.2.table_, mpo kStr kStr bq3 res.2.notes_]) := by
  unfold F.pledge_Node at hF
  refine tr_of_cw (fn := Try.f36) Try.func36 rfl (Nat.le_of_ble_eq_true rfl) 13 rfl fun F0 w0 => ?_
  refine cw_keep [0, 1, 2] (L' := [(0, .pointer (some ⟨b0, 0, none⟩)), (1, .string x1), (2, .string x2)]) rfl ?_
  refine cw_state (S' := SAT w0 ([imm I, pt b0 #[.map (some p0), .map (some p1), .string m0.twins_.e0, .string m0.twins_.e1, .bool m0.found_, .bool m0.full_, .int .i64 m0.sums_] 64, mpo kStr kStr p0 m0.table_, mpo kStr kStr p1 m0.notes_] ++ F0)) (fun w hs => hs) ?_
  refine cw_seq ?_
  refine cw_region ?_
  refine ow_vals 1 (j := 1) [0, 1, 2] [(0, .pointer (some ⟨b0, 0, none⟩)), (1, .string x1), (2, .string x2)] rfl (by kernel_rfl) ?_
  refine ow_end rfl ?_
  refine ew_then ?_
  refine cw_seq ?_
  refine cw_region ?_
  refine ow_vals 2 (j := 2) [2, 7, 8] [(2, .string x2), (7, .pointer (some ⟨b0, 0, none⟩)), (8, .string x1)] rfl (by kernel_rfl) ?_
  obtain ⟨h21, hF⟩ := chk_some hF
  refine ow_pw rfl (pw_quiet (v := .string ((ByteArray.mk #[1]) ++ x1)) rfl rfl rfl rfl (q_concat rfl rfl rfl h21) (nw_ow ?_))
  refine ow_vals 1 (j := 4) [7, 9, 10] [(7, .pointer (some ⟨b0, 0, none⟩)), (9, .string ((ByteArray.mk #[1]) ++ x1)), (10, .string x2)] rfl (by kernel_rfl) ?_
  obtain ⟨h22, hF⟩ := chk_some hF
  refine ow_pw rfl (pw_quiet (v := .string (((ByteArray.mk #[1]) ++ x1) ++ x2)) rfl rfl rfl rfl (q_concat rfl rfl rfl h22) (nw_ow ?_))
  obtain ⟨r23, h24, hF⟩ := bind_some hF
  refine ow_pw rfl (pw_call (F := [] ++ F0) rfl rfl rfl rfl rfl rfl rfl (by kernel_rfl) (perm_of_pulls [0, 0, 0, 0] rfl) (c_mill_Mill_Sum _ (((ByteArray.mk #[1]) ++ x1) ++ x2) m0 p0 p1 b0 r23 h24) ?_)
  rintro _ _ ⟨r23_b1, r23_b3, rfl, rfl⟩
  refine nw_H (H' := [imm I, pt b0 #[.map (some r23_b1), .map (some r23_b3), .string r23.2.twins_.e0, .string r23.2.twins_.e1, .bool r23.2.found_, .bool r23.2.full_, .int .i64 r23.2.sums_] 64, mpo kStr kStr r23_b1 r23.2.table_, mpo kStr kStr r23_b3 r23.2.notes_] ++ F0) rfl (nw_ow ?_)
  refine ow_vals 1 (j := 7) [6] [(6, .string r23.1)] rfl (by kernel_rfl) ?_
  refine ow_end rfl ?_
  refine ew_then ?_
  refine cw_ret ?_
  have hR := Option.some.inj hF
  subst hR
  exact fin1 (H1 := [imm I, pt b0 #[.map (some r23_b1), .map (some r23_b3), .string r23.2.twins_.e0, .string r23.2.twins_.e1, .bool r23.2.found_, .bool r23.2.full_, .int .i64 r23.2.sums_] 64, mpo kStr kStr r23_b1 r23.2.table_, mpo kStr kStr r23_b3 r23.2.notes_]) (fun w hs => sat_to [0, 0, 0, 0] 0 rfl hs) rfl (rr_tmp rfl) ⟨r23_b1, r23_b3, rfl, rfl⟩


def F.pledge_None (m0 : mill_Mill) : Option (ByteArray × mill_Mill) :=
  Option.bind (F.mill_Mill_Sum (ByteArray.mk #[]) m0) (fun (r21 : ByteArray × mill_Mill) => some ((r21.1, r21.2)))
set_option maxRecDepth 100000 in
set_option maxHeartbeats 4000000 in
theorem c_pledge_None (I : Hl) (m0 : mill_Mill) (p0 : Nat) (p1 : Nat) (b0 : Nat) (res : ByteArray × mill_Mill) (hF : F.pledge_None m0 = some res) : Tr Try.prog 34 [.pointer (some ⟨b0, 0, none⟩)] [imm I, pt b0 #[.map (some p0), .map (some p1), .string m0.twins_.e0, .string m0.twins_.e1, .bool m0.found_, .bool m0.full_, .int .i64 m0.sums_] 64, mpo kStr kStr p0 m0.table_, mpo kStr kStr p1 m0.notes_] (fun r H' => ∃ (bq1 : Nat), ∃ (bq3 : Nat), r = .string res.1 ∧ H' = [imm I, pt b0 #[.map (some bq1), .map (some bq3), .string res.2.twins_.e0, .string res.2.twins_.e1, .bool res.2.found_, .bool res.2.full_, .int .i64 res.2.sums_] 64, mpo kStr kStr bq1 res.2.table_, mpo kStr kStr bq3 res.2.notes_]) := by
  unfold F.pledge_None at hF
  refine tr_of_cw (fn := Try.f34) Try.func34 rfl (Nat.le_of_ble_eq_true rfl) 5 rfl fun F0 w0 => ?_
  refine cw_keep [0] (L' := [(0, .pointer (some ⟨b0, 0, none⟩))]) rfl ?_
  refine cw_state (S' := SAT w0 ([imm I, pt b0 #[.map (some p0), .map (some p1), .string m0.twins_.e0, .string m0.twins_.e1, .bool m0.found_, .bool m0.full_, .int .i64 m0.sums_] 64, mpo kStr kStr p0 m0.table_, mpo kStr kStr p1 m0.notes_] ++ F0)) (fun w hs => hs) ?_
  refine cw_seq ?_
  refine cw_region ?_
  refine ow_vals 1 (j := 1) [0] [(0, .pointer (some ⟨b0, 0, none⟩))] rfl (by kernel_rfl) ?_
  refine ow_end rfl ?_
  refine ew_then ?_
  refine cw_seq ?_
  refine cw_region ?_
  refine ow_vals 1 (j := 1) [3] [(3, .pointer (some ⟨b0, 0, none⟩))] rfl (by kernel_rfl) ?_
  obtain ⟨r21, h22, hF⟩ := bind_some hF
  refine ow_pw rfl (pw_call (F := [] ++ F0) rfl rfl rfl rfl rfl rfl rfl (by kernel_rfl) (perm_of_pulls [0, 0, 0, 0] rfl) (c_mill_Mill_Sum _ (ByteArray.mk #[]) m0 p0 p1 b0 r21 h22) ?_)
  rintro _ _ ⟨r21_b1, r21_b3, rfl, rfl⟩
  refine nw_H (H' := [imm I, pt b0 #[.map (some r21_b1), .map (some r21_b3), .string r21.2.twins_.e0, .string r21.2.twins_.e1, .bool r21.2.found_, .bool r21.2.full_, .int .i64 r21.2.sums_] 64, mpo kStr kStr r21_b1 r21.2.table_, mpo kStr kStr r21_b3 r21.2.notes_] ++ F0) rfl (nw_ow ?_)
  refine ow_vals 1 (j := 3) [2] [(2, .string r21.1)] rfl (by kernel_rfl) ?_
  refine ow_end rfl ?_
  refine ew_then ?_
  refine cw_ret ?_
  have hR := Option.some.inj hF
  subst hR
  exact fin1 (H1 := [imm I, pt b0 #[.map (some r21_b1), .map (some r21_b3), .string r21.2.twins_.e0, .string r21.2.twins_.e1, .bool r21.2.found_, .bool r21.2.full_, .int .i64 r21.2.sums_] 64, mpo kStr kStr r21_b1 r21.2.table_, mpo kStr kStr r21_b3 r21.2.notes_]) (fun w hs => sat_to [0, 0, 0, 0] 0 rfl hs) rfl (rr_tmp rfl) ⟨r21_b1, r21_b3, rfl, rfl⟩

end Go.Proofs.Ytileogoeoiafkaa
