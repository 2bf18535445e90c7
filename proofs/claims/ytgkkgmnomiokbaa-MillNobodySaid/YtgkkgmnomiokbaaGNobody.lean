/- What the functions compute, and that the code computes it: printed by a program of this claim (wip/tools), for the group Nobody. -/
import Derived.Test.YtgkkgmnomiokbaaGMill
namespace Go.Proofs.Ytgkkgmnomiokbaa
set_option linter.all false
open Go Go.RowKit Go.Fw
set_option linter.unusedVariables false

def F.mill_Mill_none_1 : Option Bool :=
  some (true)
set_option maxRecDepth 100000 in
set_option maxHeartbeats 4000000 in
theorem c_mill_Mill_none_1 (I : Hl) (res : Bool) (hF : F.mill_Mill_none_1 = some res) : Tr Try.prog 25 [.pointer none] [imm I] (fun r H' => r = .bool res ∧ H' = [imm I]) := by
  unfold F.mill_Mill_none_1 at hF
  refine tr_of_cw (fn := Try.f25) Try.func25 rfl (Nat.le_of_ble_eq_true rfl) 12 rfl fun F0 w0 => ?_
  refine cw_keep [0] (L' := [(0, .pointer none)]) rfl ?_
  refine cw_state (S' := SAT w0 ([imm I] ++ F0)) (fun w hs => hs) ?_
  refine cw_seq ?_
  refine cw_region ?_
  refine ow_vals 1 (j := 1) [0] [(0, .pointer none)] rfl (by kernel_rfl) ?_
  refine ow_end rfl ?_
  refine ew_then ?_
  refine cw_seq ?_
  refine cw_region ?_
  refine ow_vals 10 (j := 10) [2] [(2, .bool true)] rfl (by kernel_rfl) ?_
  refine ow_end rfl ?_
  refine ew_then ?_
  refine cw_ret ?_
  have hR := Option.some.inj hF
  subst hR
  exact fin1 (H1 := [imm I]) (fun w hs => sat_to [0] 0 rfl hs) rfl (rr_tmp rfl) ⟨rfl, rfl⟩


def F.mill_Mill_Twins_1 : Option (ByteArray × ByteArray × Bool) :=
  Option.bind (F.mill_Mill_none_1) (fun (r21 : Bool) => if r21 then (some (((ByteArray.mk #[]), (ByteArray.mk #[]), false))) else (none))
set_option maxRecDepth 100000 in
set_option maxHeartbeats 4000000 in
theorem c_mill_Mill_Twins_1 (I : Hl) (res : ByteArray × ByteArray × Bool) (hF : F.mill_Mill_Twins_1 = some res) : Tr Try.prog 12 [.pointer none] [imm I] (fun r H' => r = .tuple #[.string res.1, .string res.2.1, .bool res.2.2] ∧ H' = [imm I]) := by
  unfold F.mill_Mill_Twins_1 at hF
  refine tr_of_cw (fn := Try.f12) Try.func12 rfl (Nat.le_of_ble_eq_true rfl) 21 rfl fun F0 w0 => ?_
  refine cw_keep [0] (L' := [(0, .pointer none)]) rfl ?_
  refine cw_state (S' := SAT w0 ([imm I] ++ F0)) (fun w hs => hs) ?_
  refine cw_seq ?_
  refine cw_region ?_
  refine ow_vals 3 (j := 3) [0] [(0, .pointer none)] rfl (by kernel_rfl) ?_
  refine ow_end rfl ?_
  refine ew_then ?_
  refine cw_seq ?_
  refine cw_seq ?_
  refine cw_region ?_
  refine ow_vals 1 (j := 1) [0, 5] [(0, .pointer none), (5, .pointer none)] rfl (by kernel_rfl) ?_
  obtain ⟨r21, h22, hF⟩ := bind_some hF
  refine ow_pw rfl (pw_call (F := [] ++ F0) rfl rfl rfl rfl rfl rfl rfl (by kernel_rfl) (perm_of_pulls [0] rfl) (c_mill_Mill_none_1 _ r21 h22) ?_)
  rintro _ _ ⟨rfl, rfl⟩
  refine nw_H (H' := [imm I] ++ F0) rfl (nw_ow ?_)
  refine ow_end rfl ?_
  refine ew_then ?_
  rcases if_some hF with ⟨h23, hF⟩ | ⟨h23, hF⟩
  · refine cw_cond_t rfl rfl h23 ?_
    refine cw_seq ?_
    refine cw_region ?_
    refine ow_vals 3 (j := 3) [2, 3, 4] [(2, .string (ByteArray.mk #[])), (3, .string (ByteArray.mk #[])), (4, .bool false)] rfl (by kernel_rfl) ?_
    refine ow_end rfl ?_
    refine ew_then ?_
    refine cw_ret ?_
    refine ew_then_ret ?_
    have hR := Option.some.inj hF
    subst hR
    exact fin3 (H1 := [imm I]) (fun w hs => sat_to [0] 0 rfl hs) rfl (rr_tmp rfl) (rr_tmp rfl) (rr_tmp rfl) ⟨rfl, rfl⟩
  · refine cw_cond_f rfl rfl h23 ?_
    refine cw_skip ?_
    refine ew_then ?_
    refine cw_seq ?_
    refine cw_open 17 (SAT w0 ([imm I])) (by kernel_rfl) (f := 17) rfl (fun w hs => sat_drew hs) ?_
    refine aw_vals [0] (f' := 16) (m' := 1) [0, 7] [(0, .pointer none), (7, .pointer none)] (fun _ _ _ _ _ h => calm_fin (P := Try.prog) (fn := Try.f12) _ _ _ _ _ h) (fun w hs => sat_pulls [0] (G := [] ++ F0) rfl hs) rfl (by kernel_rfl) ?_
    cases hF


def F.mill_Mill_Sum_1 (x1 : ByteArray) : Option ByteArray :=
  Option.bind (F.mill_Mill_none_1) (fun (r21 : Bool) => if r21 then (some ((ByteArray.mk #[]))) else (none))
set_option maxRecDepth 100000 in
set_option maxHeartbeats 4000000 in
theorem c_mill_Mill_Sum_1 (I : Hl) (x1 : ByteArray) (res : ByteArray) (hF : F.mill_Mill_Sum_1 x1 = some res) : Tr Try.prog 19 [.pointer none, .string x1] [imm I] (fun r H' => r = .string res ∧ H' = [imm I]) := by
  unfold F.mill_Mill_Sum_1 at hF
  refine tr_of_cw (fn := Try.f19) Try.func19 rfl (Nat.le_of_ble_eq_true rfl) 28 rfl fun F0 w0 => ?_
  refine cw_keep [0, 1] (L' := [(0, .pointer none), (1, .string x1)]) rfl ?_
  refine cw_state (S' := SAT w0 ([imm I] ++ F0)) (fun w hs => hs) ?_
  refine cw_seq ?_
  refine cw_region ?_
  refine ow_vals 1 (j := 1) [0, 1] [(0, .pointer none), (1, .string x1)] rfl (by kernel_rfl) ?_
  refine ow_end rfl ?_
  refine ew_then ?_
  refine cw_seq ?_
  refine cw_seq ?_
  refine cw_region ?_
  refine ow_vals 1 (j := 1) [0, 1, 7] [(0, .pointer none), (1, .string x1), (7, .pointer none)] rfl (by kernel_rfl) ?_
  obtain ⟨r21, h22, hF⟩ := bind_some hF
  refine ow_pw rfl (pw_call (F := [] ++ F0) rfl rfl rfl rfl rfl rfl rfl (by kernel_rfl) (perm_of_pulls [0] rfl) (c_mill_Mill_none_1 _ r21 h22) ?_)
  rintro _ _ ⟨rfl, rfl⟩
  refine nw_H (H' := [imm I] ++ F0) rfl (nw_ow ?_)
  refine ow_end rfl ?_
  refine ew_then ?_
  rcases if_some hF with ⟨h23, hF⟩ | ⟨h23, hF⟩
  · refine cw_cond_t rfl rfl h23 ?_
    refine cw_seq ?_
    refine cw_region ?_
    refine ow_vals 1 (j := 1) [4] [(4, .string (ByteArray.mk #[]))] rfl (by kernel_rfl) ?_
    refine ow_end rfl ?_
    refine ew_then ?_
    refine cw_ret ?_
    refine ew_then_ret ?_
    have hR := Option.some.inj hF
    subst hR
    exact fin1 (H1 := [imm I]) (fun w hs => sat_to [0] 0 rfl hs) rfl (rr_tmp rfl) ⟨rfl, rfl⟩
  · refine cw_cond_f rfl rfl h23 ?_
    refine cw_skip ?_
    refine ew_then ?_
    refine cw_seq ?_
    refine cw_open 12 (SAT w0 ([imm I])) (by kernel_rfl) (f := 12) rfl (fun w hs => sat_drew hs) ?_
    refine aw_vals [0] (f' := 11) (m' := 1) [0, 1, 10] [(0, .pointer none), (1, .string x1), (10, .pointer none)] (fun _ _ _ _ _ h => calm_fin (P := Try.prog) (fn := Try.f19) _ _ _ _ _ h) (fun w hs => sat_pulls [0] (G := [] ++ F0) rfl hs) rfl (by kernel_rfl) ?_
    cases hF


def F.mill_Mill_none_2 (m0 : mill_Mill) : Option Bool :=
  some (true)
set_option maxRecDepth 100000 in
set_option maxHeartbeats 4000000 in
theorem c_mill_Mill_none_2 (I : Hl) (m0 : mill_Mill) (b0 : Nat) (res : Bool) (hF : F.mill_Mill_none_2 m0 = some res) : Tr Try.prog 25 [.pointer (some ⟨b0, 0, none⟩)] [imm I, pt b0 #[.map none, .map none, .string m0.twins_.e0, .string m0.twins_.e1, .bool m0.found_, .bool m0.full_, .int .i64 m0.sums_] 50] (fun r H' => r = .bool res ∧ H' = [imm I, pt b0 #[.map none, .map none, .string m0.twins_.e0, .string m0.twins_.e1, .bool m0.found_, .bool m0.full_, .int .i64 m0.sums_] 50]) := by
  unfold F.mill_Mill_none_2 at hF
  refine tr_of_cw (fn := Try.f25) Try.func25 rfl (Nat.le_of_ble_eq_true rfl) 12 rfl fun F0 w0 => ?_
  refine cw_keep [0] (L' := [(0, .pointer (some ⟨b0, 0, none⟩))]) rfl ?_
  refine cw_state (S' := SAT w0 ([imm I, pt b0 #[.map none, .map none, .string m0.twins_.e0, .string m0.twins_.e1, .bool m0.found_, .bool m0.full_, .int .i64 m0.sums_] 50] ++ F0)) (fun w hs => hs) ?_
  refine cw_seq ?_
  refine cw_region ?_
  refine ow_vals 1 (j := 1) [0] [(0, .pointer (some ⟨b0, 0, none⟩))] rfl (by kernel_rfl) ?_
  refine ow_end rfl ?_
  refine ew_then ?_
  refine cw_seq ?_
  refine cw_region ?_
  refine ow_vals 6 (j := 6) [5, 8] [(5, .bool false), (8, .pointer (some ⟨b0, 1, none⟩))] rfl (by kernel_rfl) ?_
  refine ow_pw rfl (pw_quiet (v := .map none) rfl rfl rfl rfl (q_load 1 rfl rfl rfl (by kernel_rfl)) (nw_ow ?_))
  refine ow_vals 3 (j := 10) [2] [(2, .bool true)] rfl (by kernel_rfl) ?_
  refine ow_end rfl ?_
  refine ew_then ?_
  refine cw_ret ?_
  have hR := Option.some.inj hF
  subst hR
  exact fin1 (H1 := [imm I, pt b0 #[.map none, .map none, .string m0.twins_.e0, .string m0.twins_.e1, .bool m0.found_, .bool m0.full_, .int .i64 m0.sums_] 50]) (fun w hs => sat_to [0, 0] 0 rfl hs) rfl (rr_tmp rfl) ⟨rfl, rfl⟩


def F.mill_Mill_note_1.r1 : Option (Unit) :=
  none
def F.mill_Mill_note_1 (x1 : ByteArray) (x2 : ByteArray) (m0 : mill_Mill) : Option Unit :=
  Option.bind (some (())) (fun x => F.mill_Mill_note_1.r1)
set_option maxRecDepth 100000 in
set_option maxHeartbeats 4000000 in
theorem c_mill_Mill_note_1 (I : Hl) (x1 : ByteArray) (x2 : ByteArray) (m0 : mill_Mill) (b0 : Nat) (res : Unit) (hF : F.mill_Mill_note_1 x1 x2 m0 = some res) : Tr Try.prog 33 [.pointer (some ⟨b0, 0, none⟩), .string x1, .string x2] [imm I, pt b0 #[.map none, .map none, .string m0.twins_.e0, .string m0.twins_.e1, .bool m0.found_, .bool m0.full_, .int .i64 m0.sums_] 50] (fun r H' => r = .tuple #[] ∧ H' = [imm I, pt b0 #[.map none, .map none, .string m0.twins_.e0, .string m0.twins_.e1, .bool m0.found_, .bool m0.full_, .int .i64 m0.sums_] 50]) := by
  unfold F.mill_Mill_note_1 at hF
  refine tr_of_cw (fn := Try.f33) Try.func33 rfl (Nat.le_of_ble_eq_true rfl) 65 rfl fun F0 w0 => ?_
  refine cw_keep [0, 1, 2] (L' := [(0, .pointer (some ⟨b0, 0, none⟩)), (1, .string x1), (2, .string x2)]) rfl ?_
  refine cw_state (S' := SAT w0 ([imm I, pt b0 #[.map none, .map none, .string m0.twins_.e0, .string m0.twins_.e1, .bool m0.found_, .bool m0.full_, .int .i64 m0.sums_] 50] ++ F0)) (fun w hs => hs) ?_
  refine cw_seq ?_
  refine cw_region ?_
  refine ow_vals 3 (j := 3) [0, 1, 2, 8, 10] [(0, .pointer (some ⟨b0, 0, none⟩)), (1, .string x1), (2, .string x2), (8, .pointer (some ⟨b0, 0, none⟩)), (10, .pointer (some ⟨b0, 6, none⟩))] rfl (by kernel_rfl) ?_
  refine ow_pw rfl (pw_quiet (v := .int .i64 m0.sums_) rfl rfl rfl rfl (q_load 1 rfl rfl rfl (by kernel_rfl)) (nw_ow ?_))
  refine ow_vals 3 (j := 7) [0, 1, 2, 12, 14] [(0, .pointer (some ⟨b0, 0, none⟩)), (1, .string x1), (2, .string x2), (12, .int .i64 (IntKind.i64.wrap (m0.sums_ + 1))), (14, .pointer (some ⟨b0, 6, none⟩))] rfl (by kernel_rfl) ?_
  refine ow_pw rfl (pw_store 1 #[.map none, .map none, .string m0.twins_.e0, .string m0.twins_.e1, .bool m0.found_, .bool m0.full_, .int .i64 (IntKind.i64.wrap (m0.sums_ + 1))] rfl rfl rfl rfl rfl rfl rfl (by kernel_rfl) (nw_H (H' := [imm I, pt b0 #[.map none, .map none, .string m0.twins_.e0, .string m0.twins_.e1, .bool m0.found_, .bool m0.full_, .int .i64 (IntKind.i64.wrap (m0.sums_ + 1))] 50] ++ F0) rfl (nw_ow ?_)))
  refine ow_end rfl ?_
  refine ew_then ?_
  refine cw_seq ?_
  refine cw_region ?_
  refine ow_vals 3 (j := 3) [0, 1, 2, 18] [(0, .pointer (some ⟨b0, 0, none⟩)), (1, .string x1), (2, .string x2), (18, .pointer (some ⟨b0, 1, none⟩))] rfl (by kernel_rfl) ?_
  refine ow_pw rfl (pw_quiet (v := .map none) rfl rfl rfl rfl (q_load 1 rfl rfl rfl (by kernel_rfl)) (nw_ow ?_))
  refine ow_vals 1 (j := 5) [0, 1, 2, 19, 20] [(0, .pointer (some ⟨b0, 0, none⟩)), (1, .string x1), (2, .string x2), (19, .map none), (20, .string x2)] rfl (by kernel_rfl) ?_
  refine ow_pw rfl (pw_quiet (v := .tuple #[.string (ByteArray.mk #[]), .bool false]) rfl rfl rfl rfl (q_lookup_nil2 (vf := kStr) (key := x2) (ByteArray.mk #[]) (mkey_str (by kernel_rfl)) rfl rfl rfl rfl (by kernel_rfl)) (nw_ow ?_))
  refine ow_vals 5 (j := 11) [0, 1, 2, 6, 7] [(0, .pointer (some ⟨b0, 0, none⟩)), (1, .string x1), (2, .string x2), (6, .string (ByteArray.mk #[])), (7, .bool false)] rfl (by kernel_rfl) ?_
  refine ow_end rfl ?_
  refine ew_then ?_
  refine cw_block ?_
  obtain ⟨v21, hF, hK21⟩ := bind_some hF
  refine cw_mid (fun a w => () = v21 ∧ Fr 65 [(0, .pointer (some ⟨b0, 0, none⟩)), (1, .string x1), (2, .string x2), (6, .string (ByteArray.mk #[])), (7, .bool false), (30, .bool false)] a ∧ SAT w0 ([imm I, pt b0 #[.map none, .map none, .string m0.twins_.e0, .string m0.twins_.e1, .bool m0.found_, .bool m0.full_, .int .i64 (IntKind.i64.wrap (m0.sums_ + 1))] 50] ++ F0) w) ?_ ?_
  · refine cw_region ?_
    refine ow_vals 14 (j := 14) [0, 1, 2, 6, 7, 30] [(0, .pointer (some ⟨b0, 0, none⟩)), (1, .string x1), (2, .string x2), (6, .string (ByteArray.mk #[])), (7, .bool false), (30, .bool false)] rfl (by kernel_rfl) ?_
    refine ow_end rfl ?_
    have hR := Option.some.inj hF
    exact fun a w hf hs => ⟨hR, hf.keep [0, 1, 2, 6, 7, 30], sat_to [0, 0] 0 rfl hs⟩
  · rintro a w ⟨hv, hf, hs⟩
    subst hv
    replace hF := hK21
    clear hK21
    try dsimp only at hF
    revert a w
    show CW _ _ _ 65 [(0, .pointer (some ⟨b0, 0, none⟩)), (1, .string x1), (2, .string x2), (6, .string (ByteArray.mk #[])), (7, .bool false), (30, .bool false)] (SAT w0 ([imm I, pt b0 #[.map none, .map none, .string m0.twins_.e0, .string m0.twins_.e1, .bool m0.found_, .bool m0.full_, .int .i64 (IntKind.i64.wrap (m0.sums_ + 1))] 50] ++ F0))
    unfold F.mill_Mill_note_1.r1 at hF
    refine cw_cond_f rfl rfl rfl ?_
    refine cw_seq ?_
    refine cw_region ?_
    refine ow_vals 2 (j := 2) [0, 1, 2, 53] [(0, .pointer (some ⟨b0, 0, none⟩)), (1, .string x1), (2, .string x2), (53, .bool false)] rfl (by kernel_rfl) ?_
    refine ow_end rfl ?_
    refine ew_then ?_
    refine cw_cond_f rfl rfl rfl ?_
    refine cw_seq ?_
    refine cw_region ?_
    refine ow_vals 3 (j := 3) [0, 1, 2, 58] [(0, .pointer (some ⟨b0, 0, none⟩)), (1, .string x1), (2, .string x2), (58, .pointer (some ⟨b0, 1, none⟩))] rfl (by kernel_rfl) ?_
    refine ow_pw rfl (pw_quiet (v := .map none) rfl rfl rfl rfl (q_load 1 rfl rfl rfl (by kernel_rfl)) (nw_ow ?_))
    refine ow_vals 3 (j := 7) [0, 1, 2, 55] [(0, .pointer (some ⟨b0, 0, none⟩)), (1, .string x1), (2, .string x2), (55, .bool false)] rfl (by kernel_rfl) ?_
    refine ow_end rfl ?_
    refine ew_then ?_
    refine cw_cond_f rfl rfl rfl ?_
    refine cw_region ?_
    refine ow_vals 3 (j := 3) [1, 2, 26] [(1, .string x1), (2, .string x2), (26, .pointer (some ⟨b0, 1, none⟩))] rfl (by kernel_rfl) ?_
    refine ow_pw rfl (pw_quiet (v := .map none) rfl rfl rfl rfl (q_load 1 rfl rfl rfl (by kernel_rfl)) (nw_ow ?_))
    refine ow_vals 2 (j := 6) [27, 28, 29] [(27, .map none), (28, .string x2), (29, .string x1)] rfl (by kernel_rfl) ?_
    cases hF


def F.mill_Mill_Sum_2 (x1 : ByteArray) (m0 : mill_Mill) : Option (ByteArray × mill_Mill) :=
  Option.bind (F.mill_Mill_none_2 (⟨([] : List (ByteArray × ByteArray)), ([] : List (ByteArray × ByteArray)), m0.twins_, m0.found_, m0.full_, m0.sums_⟩ : mill_Mill)) (fun (r21 : Bool) => if r21 then (some (((ByteArray.mk #[]), (⟨([] : List (ByteArray × ByteArray)), ([] : List (ByteArray × ByteArray)), (⟨([] : List (ByteArray × ByteArray)), ([] : List (ByteArray × ByteArray)), m0.twins_, m0.found_, m0.full_, m0.sums_⟩ : mill_Mill).twins_, (⟨([] : List (ByteArray × ByteArray)), ([] : List (ByteArray × ByteArray)), m0.twins_, m0.found_, m0.full_, m0.sums_⟩ : mill_Mill).found_, (⟨([] : List (ByteArray × ByteArray)), ([] : List (ByteArray × ByteArray)), m0.twins_, m0.found_, m0.full_, m0.sums_⟩ : mill_Mill).full_, (⟨([] : List (ByteArray × ByteArray)), ([] : List (ByteArray × ByteArray)), m0.twins_, m0.found_, m0.full_, m0.sums_⟩ : mill_Mill).sums_⟩ : mill_Mill)))) else (Option.bind (F.mill_name false (ByteArray.mk #[]) x1) (fun (r24 : ByteArray) => Option.bind (F.sha_Sum x1) (fun (r26 : ByteArray) => Option.bind (F.mill_Mill_note_1 x1 r26 (⟨([] : List (ByteArray × ByteArray)), ([] : List (ByteArray × ByteArray)), (⟨([] : List (ByteArray × ByteArray)), ([] : List (ByteArray × ByteArray)), m0.twins_, m0.found_, m0.full_, m0.sums_⟩ : mill_Mill).twins_, (⟨([] : List (ByteArray × ByteArray)), ([] : List (ByteArray × ByteArray)), m0.twins_, m0.found_, m0.full_, m0.sums_⟩ : mill_Mill).found_, (⟨([] : List (ByteArray × ByteArray)), ([] : List (ByteArray × ByteArray)), m0.twins_, m0.found_, m0.full_, m0.sums_⟩ : mill_Mill).full_, (⟨([] : List (ByteArray × ByteArray)), ([] : List (ByteArray × ByteArray)), m0.twins_, m0.found_, m0.full_, m0.sums_⟩ : mill_Mill).sums_⟩ : mill_Mill)) (fun (r28 : Unit) => some ((r26, (⟨([] : List (ByteArray × ByteArray)), ([] : List (ByteArray × ByteArray)), (⟨([] : List (ByteArray × ByteArray)), ([] : List (ByteArray × ByteArray)), (⟨([] : List (ByteArray × ByteArray)), ([] : List (ByteArray × ByteArray)), m0.twins_, m0.found_, m0.full_, m0.sums_⟩ : mill_Mill).twins_, (⟨([] : List (ByteArray × ByteArray)), ([] : List (ByteArray × ByteArray)), m0.twins_, m0.found_, m0.full_, m0.sums_⟩ : mill_Mill).found_, (⟨([] : List (ByteArray × ByteArray)), ([] : List (ByteArray × ByteArray)), m0.twins_, m0.found_, m0.full_, m0.sums_⟩ : mill_Mill).full_, (⟨([] : List (ByteArray × ByteArray)), ([] : List (ByteArray × ByteArray)), m0.twins_, m0.found_, m0.full_, m0.sums_⟩ : mill_Mill).sums_⟩ : mill_Mill).twins_, (⟨([] : List (ByteArray × ByteArray)), ([] : List (ByteArray × ByteArray)), (⟨([] : List (ByteArray × ByteArray)), ([] : List (ByteArray × ByteArray)), m0.twins_, m0.found_, m0.full_, m0.sums_⟩ : mill_Mill).twins_, (⟨([] : List (ByteArray × ByteArray)), ([] : List (ByteArray × ByteArray)), m0.twins_, m0.found_, m0.full_, m0.sums_⟩ : mill_Mill).found_, (⟨([] : List (ByteArray × ByteArray)), ([] : List (ByteArray × ByteArray)), m0.twins_, m0.found_, m0.full_, m0.sums_⟩ : mill_Mill).full_, (⟨([] : List (ByteArray × ByteArray)), ([] : List (ByteArray × ByteArray)), m0.twins_, m0.found_, m0.full_, m0.sums_⟩ : mill_Mill).sums_⟩ : mill_Mill).found_, (⟨([] : List (ByteArray × ByteArray)), ([] : List (ByteArray × ByteArray)), (⟨([] : List (ByteArray × ByteArray)), ([] : List (ByteArray × ByteArray)), m0.twins_, m0.found_, m0.full_, m0.sums_⟩ : mill_Mill).twins_, (⟨([] : List (ByteArray × ByteArray)), ([] : List (ByteArray × ByteArray)), m0.twins_, m0.found_, m0.full_, m0.sums_⟩ : mill_Mill).found_, (⟨([] : List (ByteArray × ByteArray)), ([] : List (ByteArray × ByteArray)), m0.twins_, m0.found_, m0.full_, m0.sums_⟩ : mill_Mill).full_, (⟨([] : List (ByteArray × ByteArray)), ([] : List (ByteArray × ByteArray)), m0.twins_, m0.found_, m0.full_, m0.sums_⟩ : mill_Mill).sums_⟩ : mill_Mill).full_, (⟨([] : List (ByteArray × ByteArray)), ([] : List (ByteArray × ByteArray)), (⟨([] : List (ByteArray × ByteArray)), ([] : List (ByteArray × ByteArray)), m0.twins_, m0.found_, m0.full_, m0.sums_⟩ : mill_Mill).twins_, (⟨([] : List (ByteArray × ByteArray)), ([] : List (ByteArray × ByteArray)), m0.twins_, m0.found_, m0.full_, m0.sums_⟩ : mill_Mill).found_, (⟨([] : List (ByteArray × ByteArray)), ([] : List (ByteArray × ByteArray)), m0.twins_, m0.found_, m0.full_, m0.sums_⟩ : mill_Mill).full_, (⟨([] : List (ByteArray × ByteArray)), ([] : List (ByteArray × ByteArray)), m0.twins_, m0.found_, m0.full_, m0.sums_⟩ : mill_Mill).sums_⟩ : mill_Mill).sums_⟩ : mill_Mill))))))))
set_option maxRecDepth 100000 in
set_option maxHeartbeats 4000000 in
theorem c_mill_Mill_Sum_2 (I : Hl) (x1 : ByteArray) (m0 : mill_Mill) (b0 : Nat) (res : ByteArray × mill_Mill) (hF : F.mill_Mill_Sum_2 x1 m0 = some res) : Tr Try.prog 19 [.pointer (some ⟨b0, 0, none⟩), .string x1] [imm I, pt b0 #[.map none, .map none, .string m0.twins_.e0, .string m0.twins_.e1, .bool m0.found_, .bool m0.full_, .int .i64 m0.sums_] 50] (fun r H' => r = .string res.1 ∧ H' = [imm I, pt b0 #[.map none, .map none, .string res.2.twins_.e0, .string res.2.twins_.e1, .bool res.2.found_, .bool res.2.full_, .int .i64 res.2.sums_] 50]) := by
  unfold F.mill_Mill_Sum_2 at hF
  refine tr_of_cw (fn := Try.f19) Try.func19 rfl (Nat.le_of_ble_eq_true rfl) 28 rfl fun F0 w0 => ?_
  refine cw_keep [0, 1] (L' := [(0, .pointer (some ⟨b0, 0, none⟩)), (1, .string x1)]) rfl ?_
  refine cw_state (S' := SAT w0 ([imm I, pt b0 #[.map none, .map none, .string m0.twins_.e0, .string m0.twins_.e1, .bool m0.found_, .bool m0.full_, .int .i64 m0.sums_] 50] ++ F0)) (fun w hs => hs) ?_
  refine cw_seq ?_
  refine cw_region ?_
  refine ow_vals 1 (j := 1) [0, 1] [(0, .pointer (some ⟨b0, 0, none⟩)), (1, .string x1)] rfl (by kernel_rfl) ?_
  refine ow_end rfl ?_
  refine ew_then ?_
  refine cw_seq ?_
  refine cw_seq ?_
  refine cw_region ?_
  refine ow_vals 1 (j := 1) [0, 1, 7] [(0, .pointer (some ⟨b0, 0, none⟩)), (1, .string x1), (7, .pointer (some ⟨b0, 0, none⟩))] rfl (by kernel_rfl) ?_
  obtain ⟨r21, h22, hF⟩ := bind_some hF
  refine ow_pw rfl (pw_call (F := [] ++ F0) rfl rfl rfl rfl rfl rfl rfl (by kernel_rfl) (perm_of_pulls [0, 0] rfl) (c_mill_Mill_none_2 _ (⟨([] : List (ByteArray × ByteArray)), ([] : List (ByteArray × ByteArray)), m0.twins_, m0.found_, m0.full_, m0.sums_⟩ : mill_Mill) b0 r21 h22) ?_)
  rintro _ _ ⟨rfl, rfl⟩
  refine nw_H (H' := [imm I, pt b0 #[.map none, .map none, .string ((⟨([] : List (ByteArray × ByteArray)), ([] : List (ByteArray × ByteArray)), m0.twins_, m0.found_, m0.full_, m0.sums_⟩ : mill_Mill).twins_.e0), .string ((⟨([] : List (ByteArray × ByteArray)), ([] : List (ByteArray × ByteArray)), m0.twins_, m0.found_, m0.full_, m0.sums_⟩ : mill_Mill).twins_.e1), .bool ((⟨([] : List (ByteArray × ByteArray)), ([] : List (ByteArray × ByteArray)), m0.twins_, m0.found_, m0.full_, m0.sums_⟩ : mill_Mill).found_), .bool ((⟨([] : List (ByteArray × ByteArray)), ([] : List (ByteArray × ByteArray)), m0.twins_, m0.found_, m0.full_, m0.sums_⟩ : mill_Mill).full_), .int .i64 ((⟨([] : List (ByteArray × ByteArray)), ([] : List (ByteArray × ByteArray)), m0.twins_, m0.found_, m0.full_, m0.sums_⟩ : mill_Mill).sums_)] 50] ++ F0) rfl (nw_ow ?_)
  refine ow_end rfl ?_
  refine ew_then ?_
  rcases if_some hF with ⟨h23, hF⟩ | ⟨h23, hF⟩
  · refine cw_cond_t rfl rfl h23 ?_
    refine cw_seq ?_
    refine cw_region ?_
    refine ow_vals 1 (j := 1) [4] [(4, .string (ByteArray.mk #[]))] rfl (by kernel_rfl) ?_
    refine ow_end rfl ?_
    refine ew_then ?_
    refine cw_ret ?_
    refine ew_then_ret ?_
    have hR := Option.some.inj hF
    subst hR
    exact fin1 (H1 := [imm I, pt b0 #[.map none, .map none, .string (((⟨([] : List (ByteArray × ByteArray)), ([] : List (ByteArray × ByteArray)), (⟨([] : List (ByteArray × ByteArray)), ([] : List (ByteArray × ByteArray)), m0.twins_, m0.found_, m0.full_, m0.sums_⟩ : mill_Mill).twins_, (⟨([] : List (ByteArray × ByteArray)), ([] : List (ByteArray × ByteArray)), m0.twins_, m0.found_, m0.full_, m0.sums_⟩ : mill_Mill).found_, (⟨([] : List (ByteArray × ByteArray)), ([] : List (ByteArray × ByteArray)), m0.twins_, m0.found_, m0.full_, m0.sums_⟩ : mill_Mill).full_, (⟨([] : List (ByteArray × ByteArray)), ([] : List (ByteArray × ByteArray)), m0.twins_, m0.found_, m0.full_, m0.sums_⟩ : mill_Mill).sums_⟩ : mill_Mill).twins_).e0), .string (((⟨([] : List (ByteArray × ByteArray)), ([] : List (ByteArray × ByteArray)), (⟨([] : List (ByteArray × ByteArray)), ([] : List (ByteArray × ByteArray)), m0.twins_, m0.found_, m0.full_, m0.sums_⟩ : mill_Mill).twins_, (⟨([] : List (ByteArray × ByteArray)), ([] : List (ByteArray × ByteArray)), m0.twins_, m0.found_, m0.full_, m0.sums_⟩ : mill_Mill).found_, (⟨([] : List (ByteArray × ByteArray)), ([] : List (ByteArray × ByteArray)), m0.twins_, m0.found_, m0.full_, m0.sums_⟩ : mill_Mill).full_, (⟨([] : List (ByteArray × ByteArray)), ([] : List (ByteArray × ByteArray)), m0.twins_, m0.found_, m0.full_, m0.sums_⟩ : mill_Mill).sums_⟩ : mill_Mill).twins_).e1), .bool ((⟨([] : List (ByteArray × ByteArray)), ([] : List (ByteArray × ByteArray)), (⟨([] : List (ByteArray × ByteArray)), ([] : List (ByteArray × ByteArray)), m0.twins_, m0.found_, m0.full_, m0.sums_⟩ : mill_Mill).twins_, (⟨([] : List (ByteArray × ByteArray)), ([] : List (ByteArray × ByteArray)), m0.twins_, m0.found_, m0.full_, m0.sums_⟩ : mill_Mill).found_, (⟨([] : List (ByteArray × ByteArray)), ([] : List (ByteArray × ByteArray)), m0.twins_, m0.found_, m0.full_, m0.sums_⟩ : mill_Mill).full_, (⟨([] : List (ByteArray × ByteArray)), ([] : List (ByteArray × ByteArray)), m0.twins_, m0.found_, m0.full_, m0.sums_⟩ : mill_Mill).sums_⟩ : mill_Mill).found_), .bool ((⟨([] : List (ByteArray × ByteArray)), ([] : List (ByteArray × ByteArray)), (⟨([] : List (ByteArray × ByteArray)), ([] : List (ByteArray × ByteArray)), m0.twins_, m0.found_, m0.full_, m0.sums_⟩ : mill_Mill).twins_, (⟨([] : List (ByteArray × ByteArray)), ([] : List (ByteArray × ByteArray)), m0.twins_, m0.found_, m0.full_, m0.sums_⟩ : mill_Mill).found_, (⟨([] : List (ByteArray × ByteArray)), ([] : List (ByteArray × ByteArray)), m0.twins_, m0.found_, m0.full_, m0.sums_⟩ : mill_Mill).full_, (⟨([] : List (ByteArray × ByteArray)), ([] : List (ByteArray × ByteArray)), m0.twins_, m0.found_, m0.full_, m0.sums_⟩ : mill_Mill).sums_⟩ : mill_Mill).full_), .int .i64 ((⟨([] : List (ByteArray × ByteArray)), ([] : List (ByteArray × ByteArray)), (⟨([] : List (ByteArray × ByteArray)), ([] : List (ByteArray × ByteArray)), m0.twins_, m0.found_, m0.full_, m0.sums_⟩ : mill_Mill).twins_, (⟨([] : List (ByteArray × ByteArray)), ([] : List (ByteArray × ByteArray)), m0.twins_, m0.found_, m0.full_, m0.sums_⟩ : mill_Mill).found_, (⟨([] : List (ByteArray × ByteArray)), ([] : List (ByteArray × ByteArray)), m0.twins_, m0.found_, m0.full_, m0.sums_⟩ : mill_Mill).full_, (⟨([] : List (ByteArray × ByteArray)), ([] : List (ByteArray × ByteArray)), m0.twins_, m0.found_, m0.full_, m0.sums_⟩ : mill_Mill).sums_⟩ : mill_Mill).sums_)] 50]) (fun w hs => sat_to [0, 0] 0 rfl hs) rfl (rr_tmp rfl) ⟨rfl, rfl⟩
  · refine cw_cond_f rfl rfl h23 ?_
    refine cw_skip ?_
    refine ew_then ?_
    refine cw_seq ?_
    refine cw_open 12 (SAT w0 ([imm I, pt b0 #[.map none, .map none, .string ((⟨([] : List (ByteArray × ByteArray)), ([] : List (ByteArray × ByteArray)), m0.twins_, m0.found_, m0.full_, m0.sums_⟩ : mill_Mill).twins_.e0), .string ((⟨([] : List (ByteArray × ByteArray)), ([] : List (ByteArray × ByteArray)), m0.twins_, m0.found_, m0.full_, m0.sums_⟩ : mill_Mill).twins_.e1), .bool ((⟨([] : List (ByteArray × ByteArray)), ([] : List (ByteArray × ByteArray)), m0.twins_, m0.found_, m0.full_, m0.sums_⟩ : mill_Mill).found_), .bool ((⟨([] : List (ByteArray × ByteArray)), ([] : List (ByteArray × ByteArray)), m0.twins_, m0.found_, m0.full_, m0.sums_⟩ : mill_Mill).full_), .int .i64 ((⟨([] : List (ByteArray × ByteArray)), ([] : List (ByteArray × ByteArray)), m0.twins_, m0.found_, m0.full_, m0.sums_⟩ : mill_Mill).sums_)] 50])) (by kernel_rfl) (f := 12) rfl (fun w hs => sat_drew hs) ?_
    refine aw_vals [0, 1, 2, 4] (f' := 8) (m' := 23) [0, 1, 12, 14] [(0, .pointer (some ⟨b0, 0, none⟩)), (1, .string x1), (12, .pointer (some ⟨b0, 0, none⟩)), (14, .string x1)] (fun _ _ _ _ _ h => calm_fin (P := Try.prog) (fn := Try.f19) _ _ _ _ _ h) (fun w hs => sat_pulls [0, 0] (G := [] ++ F0) rfl hs) rfl (by kernel_rfl) ?_
    refine aw_quiet 3 (m' := 31) (v := .map none) 0 [] rfl rfl rfl rfl (by kernel_rfl) (by kernel_rfl) (by kernel_rfl) (fun _ _ _ _ _ h => calm_fin (P := Try.prog) (fn := Try.f19) _ _ _ _ _ h) (fun w hs => sat_pulls [0, 0] (G := [] ++ F0) rfl hs) (q_load 1 rfl rfl rfl (by kernel_rfl)) ?_
    obtain ⟨r24, h25, hF⟩ := bind_some hF
    refine aw_only 5 (m' := 63) (by kernel_rfl) (by kernel_rfl) (pw_call (F := [pt b0 #[.map none, .map none, .string ((⟨([] : List (ByteArray × ByteArray)), ([] : List (ByteArray × ByteArray)), m0.twins_, m0.found_, m0.full_, m0.sums_⟩ : mill_Mill).twins_.e0), .string ((⟨([] : List (ByteArray × ByteArray)), ([] : List (ByteArray × ByteArray)), m0.twins_, m0.found_, m0.full_, m0.sums_⟩ : mill_Mill).twins_.e1), .bool ((⟨([] : List (ByteArray × ByteArray)), ([] : List (ByteArray × ByteArray)), m0.twins_, m0.found_, m0.full_, m0.sums_⟩ : mill_Mill).found_), .bool ((⟨([] : List (ByteArray × ByteArray)), ([] : List (ByteArray × ByteArray)), m0.twins_, m0.found_, m0.full_, m0.sums_⟩ : mill_Mill).full_), .int .i64 ((⟨([] : List (ByteArray × ByteArray)), ([] : List (ByteArray × ByteArray)), m0.twins_, m0.found_, m0.full_, m0.sums_⟩ : mill_Mill).sums_)] 50] ++ F0) rfl rfl rfl rfl rfl rfl rfl (by kernel_rfl) (perm_of_pulls [0] rfl) (c_mill_name _ false (ByteArray.mk #[]) x1 r24 h25) ?_)
    rintro _ _ ⟨rfl, rfl⟩
    refine nw_H (H' := [imm I, pt b0 #[.map none, .map none, .string ((⟨([] : List (ByteArray × ByteArray)), ([] : List (ByteArray × ByteArray)), m0.twins_, m0.found_, m0.full_, m0.sums_⟩ : mill_Mill).twins_.e0), .string ((⟨([] : List (ByteArray × ByteArray)), ([] : List (ByteArray × ByteArray)), m0.twins_, m0.found_, m0.full_, m0.sums_⟩ : mill_Mill).twins_.e1), .bool ((⟨([] : List (ByteArray × ByteArray)), ([] : List (ByteArray × ByteArray)), m0.twins_, m0.found_, m0.full_, m0.sums_⟩ : mill_Mill).found_), .bool ((⟨([] : List (ByteArray × ByteArray)), ([] : List (ByteArray × ByteArray)), m0.twins_, m0.found_, m0.full_, m0.sums_⟩ : mill_Mill).full_), .int .i64 ((⟨([] : List (ByteArray × ByteArray)), ([] : List (ByteArray × ByteArray)), m0.twins_, m0.found_, m0.full_, m0.sums_⟩ : mill_Mill).sums_)] 50] ++ F0) rfl (aw_next (fun w hs => sat_pulls [0, 0] (G := [] ++ F0) rfl hs) ?_)
    refine aw_pure 6 (m' := 127) (v := .tuple #[.string (ByteArray.mk #[]), .bool false]) rfl rfl rfl rfl (by kernel_rfl) (by kernel_rfl) (fun _ _ _ _ _ h => calm_fin (P := Try.prog) (fn := Try.f19) _ _ _ _ _ h) (fun w hs => sat_pulls [0, 0] (G := [] ++ F0) rfl hs) (q_lookup_nil2 (vf := kStr) (key := r24) (ByteArray.mk #[]) (mkey_str (by kernel_rfl)) rfl rfl rfl rfl (by kernel_rfl)) ?_
    refine aw_vals [7, 8, 9, 10, 11] (f' := 0) (m' := 4095) [0, 1, 5, 6] [(0, .pointer (some ⟨b0, 0, none⟩)), (1, .string x1), (5, .string (ByteArray.mk #[])), (6, .bool false)] (fun _ _ _ _ _ h => calm_fin (P := Try.prog) (fn := Try.f19) _ _ _ _ _ h) (fun w hs => sat_pulls [0, 0] (G := [] ++ F0) rfl hs) rfl (by kernel_rfl) ?_
    refine aw_keep [0, 1, 5, 6] (L' := [(0, .pointer (some ⟨b0, 0, none⟩)), (1, .string x1), (5, .string (ByteArray.mk #[])), (6, .bool false)]) rfl ?_
    refine aw_end (by kernel_rfl) ?_
    refine ew_then ?_
    refine cw_seq ?_
    refine cw_seq ?_
    refine cw_region ?_
    refine ow_vals 2 (j := 2) [0, 1, 5, 20] [(0, .pointer (some ⟨b0, 0, none⟩)), (1, .string x1), (5, .string (ByteArray.mk #[])), (20, .bool true)] rfl (by kernel_rfl) ?_
    refine ow_end rfl ?_
    refine ew_then ?_
    refine cw_cond_t rfl rfl rfl ?_
    refine cw_region ?_
    refine ow_vals 1 (j := 1) [0, 1, 21] [(0, .pointer (some ⟨b0, 0, none⟩)), (1, .string x1), (21, .string x1)] rfl (by kernel_rfl) ?_
    obtain ⟨r26, h27, hF⟩ := bind_some hF
    refine ow_pw rfl (pw_call (F := [pt b0 #[.map none, .map none, .string ((⟨([] : List (ByteArray × ByteArray)), ([] : List (ByteArray × ByteArray)), m0.twins_, m0.found_, m0.full_, m0.sums_⟩ : mill_Mill).twins_.e0), .string ((⟨([] : List (ByteArray × ByteArray)), ([] : List (ByteArray × ByteArray)), m0.twins_, m0.found_, m0.full_, m0.sums_⟩ : mill_Mill).twins_.e1), .bool ((⟨([] : List (ByteArray × ByteArray)), ([] : List (ByteArray × ByteArray)), m0.twins_, m0.found_, m0.full_, m0.sums_⟩ : mill_Mill).found_), .bool ((⟨([] : List (ByteArray × ByteArray)), ([] : List (ByteArray × ByteArray)), m0.twins_, m0.found_, m0.full_, m0.sums_⟩ : mill_Mill).full_), .int .i64 ((⟨([] : List (ByteArray × ByteArray)), ([] : List (ByteArray × ByteArray)), m0.twins_, m0.found_, m0.full_, m0.sums_⟩ : mill_Mill).sums_)] 50] ++ F0) rfl rfl rfl rfl rfl rfl rfl (by kernel_rfl) (perm_of_pulls [0] rfl) (c_sha_Sum _ x1 r26 h27) ?_)
    rintro _ _ ⟨rfl, rfl⟩
    refine nw_H (H' := [imm I, pt b0 #[.map none, .map none, .string ((⟨([] : List (ByteArray × ByteArray)), ([] : List (ByteArray × ByteArray)), m0.twins_, m0.found_, m0.full_, m0.sums_⟩ : mill_Mill).twins_.e0), .string ((⟨([] : List (ByteArray × ByteArray)), ([] : List (ByteArray × ByteArray)), m0.twins_, m0.found_, m0.full_, m0.sums_⟩ : mill_Mill).twins_.e1), .bool ((⟨([] : List (ByteArray × ByteArray)), ([] : List (ByteArray × ByteArray)), m0.twins_, m0.found_, m0.full_, m0.sums_⟩ : mill_Mill).found_), .bool ((⟨([] : List (ByteArray × ByteArray)), ([] : List (ByteArray × ByteArray)), m0.twins_, m0.found_, m0.full_, m0.sums_⟩ : mill_Mill).full_), .int .i64 ((⟨([] : List (ByteArray × ByteArray)), ([] : List (ByteArray × ByteArray)), m0.twins_, m0.found_, m0.full_, m0.sums_⟩ : mill_Mill).sums_)] 50] ++ F0) rfl (nw_ow ?_)
    refine ow_vals 1 (j := 3) [0, 1, 5] [(0, .pointer (some ⟨b0, 0, none⟩)), (1, .string x1), (5, .string r26)] rfl (by kernel_rfl) ?_
    refine ow_end rfl ?_
    refine ew_then ?_
    refine cw_seq ?_
    refine cw_region ?_
    refine ow_vals 3 (j := 3) [5, 23, 24, 25] [(5, .string r26), (23, .pointer (some ⟨b0, 0, none⟩)), (24, .string x1), (25, .string r26)] rfl (by kernel_rfl) ?_
    obtain ⟨r28, h29, hF⟩ := bind_some hF
    refine ow_pw rfl (pw_call (F := [] ++ F0) rfl rfl rfl rfl rfl rfl rfl (by kernel_rfl) (perm_of_pulls [0, 0] rfl) (c_mill_Mill_note_1 _ x1 r26 (⟨([] : List (ByteArray × ByteArray)), ([] : List (ByteArray × ByteArray)), (⟨([] : List (ByteArray × ByteArray)), ([] : List (ByteArray × ByteArray)), m0.twins_, m0.found_, m0.full_, m0.sums_⟩ : mill_Mill).twins_, (⟨([] : List (ByteArray × ByteArray)), ([] : List (ByteArray × ByteArray)), m0.twins_, m0.found_, m0.full_, m0.sums_⟩ : mill_Mill).found_, (⟨([] : List (ByteArray × ByteArray)), ([] : List (ByteArray × ByteArray)), m0.twins_, m0.found_, m0.full_, m0.sums_⟩ : mill_Mill).full_, (⟨([] : List (ByteArray × ByteArray)), ([] : List (ByteArray × ByteArray)), m0.twins_, m0.found_, m0.full_, m0.sums_⟩ : mill_Mill).sums_⟩ : mill_Mill) b0 r28 h29) ?_)
    rintro _ _ ⟨rfl, rfl⟩
    refine nw_H (H' := [imm I, pt b0 #[.map none, .map none, .string ((⟨([] : List (ByteArray × ByteArray)), ([] : List (ByteArray × ByteArray)), (⟨([] : List (ByteArray × ByteArray)), ([] : List (ByteArray × ByteArray)), m0.twins_, m0.found_, m0.full_, m0.sums_⟩ : mill_Mill).twins_, (⟨([] : List (ByteArray × ByteArray)), ([] : List (ByteArray × ByteArray)), m0.twins_, m0.found_, m0.full_, m0.sums_⟩ : mill_Mill).found_, (⟨([] : List (ByteArray × ByteArray)), ([] : List (ByteArray × ByteArray)), m0.twins_, m0.found_, m0.full_, m0.sums_⟩ : mill_Mill).full_, (⟨([] : List (ByteArray × ByteArray)), ([] : List (ByteArray × ByteArray)), m0.twins_, m0.found_, m0.full_, m0.sums_⟩ : mill_Mill).sums_⟩ : mill_Mill).twins_.e0), .string ((⟨([] : List (ByteArray × ByteArray)), ([] : List (ByteArray × ByteArray)), (⟨([] : List (ByteArray × ByteArray)), ([] : List (ByteArray × ByteArray)), m0.twins_, m0.found_, m0.full_, m0.sums_⟩ : mill_Mill).twins_, (⟨([] : List (ByteArray × ByteArray)), ([] : List (ByteArray × ByteArray)), m0.twins_, m0.found_, m0.full_, m0.sums_⟩ : mill_Mill).found_, (⟨([] : List (ByteArray × ByteArray)), ([] : List (ByteArray × ByteArray)), m0.twins_, m0.found_, m0.full_, m0.sums_⟩ : mill_Mill).full_, (⟨([] : List (ByteArray × ByteArray)), ([] : List (ByteArray × ByteArray)), m0.twins_, m0.found_, m0.full_, m0.sums_⟩ : mill_Mill).sums_⟩ : mill_Mill).twins_.e1), .bool ((⟨([] : List (ByteArray × ByteArray)), ([] : List (ByteArray × ByteArray)), (⟨([] : List (ByteArray × ByteArray)), ([] : List (ByteArray × ByteArray)), m0.twins_, m0.found_, m0.full_, m0.sums_⟩ : mill_Mill).twins_, (⟨([] : List (ByteArray × ByteArray)), ([] : List (ByteArray × ByteArray)), m0.twins_, m0.found_, m0.full_, m0.sums_⟩ : mill_Mill).found_, (⟨([] : List (ByteArray × ByteArray)), ([] : List (ByteArray × ByteArray)), m0.twins_, m0.found_, m0.full_, m0.sums_⟩ : mill_Mill).full_, (⟨([] : List (ByteArray × ByteArray)), ([] : List (ByteArray × ByteArray)), m0.twins_, m0.found_, m0.full_, m0.sums_⟩ : mill_Mill).sums_⟩ : mill_Mill).found_), .bool ((⟨([] : List (ByteArray × ByteArray)), ([] : List (ByteArray × ByteArray)), (⟨([] : List (ByteArray × ByteArray)), ([] : List (ByteArray × ByteArray)), m0.twins_, m0.found_, m0.full_, m0.sums_⟩ : mill_Mill).twins_, (⟨([] : List (ByteArray × ByteArray)), ([] : List (ByteArray × ByteArray)), m0.twins_, m0.found_, m0.full_, m0.sums_⟩ : mill_Mill).found_, (⟨([] : List (ByteArray × ByteArray)), ([] : List (ByteArray × ByteArray)), m0.twins_, m0.found_, m0.full_, m0.sums_⟩ : mill_Mill).full_, (⟨([] : List (ByteArray × ByteArray)), ([] : List (ByteArray × ByteArray)), m0.twins_, m0.found_, m0.full_, m0.sums_⟩ : mill_Mill).sums_⟩ : mill_Mill).full_), .int .i64 ((⟨([] : List (ByteArray × ByteArray)), ([] : List (ByteArray × ByteArray)), (⟨([] : List (ByteArray × ByteArray)), ([] : List (ByteArray × ByteArray)), m0.twins_, m0.found_, m0.full_, m0.sums_⟩ : mill_Mill).twins_, (⟨([] : List (ByteArray × ByteArray)), ([] : List (ByteArray × ByteArray)), m0.twins_, m0.found_, m0.full_, m0.sums_⟩ : mill_Mill).found_, (⟨([] : List (ByteArray × ByteArray)), ([] : List (ByteArray × ByteArray)), m0.twins_, m0.found_, m0.full_, m0.sums_⟩ : mill_Mill).full_, (⟨([] : List (ByteArray × ByteArray)), ([] : List (ByteArray × ByteArray)), m0.twins_, m0.found_, m0.full_, m0.sums_⟩ : mill_Mill).sums_⟩ : mill_Mill).sums_)] 50] ++ F0) rfl (nw_ow ?_)
    refine ow_end rfl ?_
    refine ew_then ?_
    refine cw_seq ?_
    refine cw_region ?_
    refine ow_vals 2 (j := 2) [4] [(4, .string r26)] rfl (by kernel_rfl) ?_
    refine ow_end rfl ?_
    refine ew_then ?_
    refine cw_ret ?_
    have hR := Option.some.inj hF
    subst hR
    exact fin1 (H1 := [imm I, pt b0 #[.map none, .map none, .string (((⟨([] : List (ByteArray × ByteArray)), ([] : List (ByteArray × ByteArray)), (⟨([] : List (ByteArray × ByteArray)), ([] : List (ByteArray × ByteArray)), (⟨([] : List (ByteArray × ByteArray)), ([] : List (ByteArray × ByteArray)), m0.twins_, m0.found_, m0.full_, m0.sums_⟩ : mill_Mill).twins_, (⟨([] : List (ByteArray × ByteArray)), ([] : List (ByteArray × ByteArray)), m0.twins_, m0.found_, m0.full_, m0.sums_⟩ : mill_Mill).found_, (⟨([] : List (ByteArray × ByteArray)), ([] : List (ByteArray × ByteArray)), m0.twins_, m0.found_, m0.full_, m0.sums_⟩ : mill_Mill).full_, (⟨([] : List (ByteArray × ByteArray)), ([] : List (ByteArray × ByteArray)), m0.twins_, m0.found_, m0.full_, m0.sums_⟩ : mill_Mill).sums_⟩ : mill_Mill).twins_, (⟨([] : List (ByteArray × ByteArray)), ([] : List (ByteArray × ByteArray)), (⟨([] : List (ByteArray × ByteArray)), ([] : List (ByteArray × ByteArray)), m0.twins_, m0.found_, m0.full_, m0.sums_⟩ : mill_Mill).twins_, (⟨([] : List (ByteArray × ByteArray)), ([] : List (ByteArray × ByteArray)), m0.twins_, m0.found_, m0.full_, m0.sums_⟩ : mill_Mill).found_, (⟨([] : List (ByteArray × ByteArray)), ([] : List (ByteArray × ByteArray)), m0.twins_, m0.found_, m0.full_, m0.sums_⟩ : mill_Mill).full_, (⟨([] : List (ByteArray × ByteArray)), ([] : List (ByteArray × ByteArray)), m0.twins_, m0.found_, m0.full_, m0.sums_⟩ : mill_Mill).sums_⟩ : mill_Mill).found_, (⟨([] : List (ByteArray × ByteArray)), ([] : List (ByteArray × ByteArray)), (⟨([] : List (ByteArray × ByteArray)), ([] : List (ByteArray × ByteArray)), m0.twins_, m0.found_, m0.full_, m0.sums_⟩ : mill_Mill).twins_, (⟨([] : List (ByteArray × ByteArray)), ([] : List (ByteArray × ByteArray)), m0.twins_, m0.found_, m0.full_, m0.sums_⟩ : mill_Mill).found_, (⟨([] : List (ByteArray × ByteArray)), ([] : List (ByteArray × ByteArray)), m0.twins_, m0.found_, m0.full_, m0.sums_⟩ : mill_Mill).full_, (⟨([] : List (ByteArray × ByteArray)), ([] : List (ByteArray × ByteArray)), m0.twins_, m0.found_, m0.full_, m0.sums_⟩ : mill_Mill).sums_⟩ : mill_Mill).full_, (⟨([] : List (ByteArray × ByteArray)), ([] : List (ByteArray × ByteArray)), (⟨([] : List (ByteArray × ByteArray)), ([] : List (ByteArray × ByteArray)), m0.twins_, m0.found_, m0.full_, m0.sums_⟩ : mill_Mill).twins_, (⟨([] : List (ByteArray × ByteArray)), ([] : List (ByteArray × ByteArray)), m0.twins_, m0.found_, m0.full_, m0.sums_⟩ : mill_Mill).found_, (⟨([] : List (ByteArray × ByteArray)), ([] : List (ByteArray × ByteArray)), m0.twins_, m0.found_, m0.full_, m0.sums_⟩ : mill_Mill).full_, (⟨([] : List (ByteArray × ByteArray)), ([] : List (ByteArray × ByteArray)), m0.twins_, m0.found_, m0.full_, m0.sums_⟩ : mill_Mill).sums_⟩ : mill_Mill).sums_⟩ : mill_Mill).twins_).e0), .string (((⟨([] : List (ByteArray × ByteArray)), ([] : List (ByteArray × ByteArray)), (⟨([] : List (ByteArray × ByteArray)), ([] : List (ByteArray × ByteArray)), (⟨([] : List (ByteArray × ByteArray)), ([] : List (ByteArray × ByteArray)), m0.twins_, m0.found_, m0.full_, m0.sums_⟩ : mill_Mill).twins_, (⟨([] : List (ByteArray × ByteArray)), ([] : List (ByteArray × ByteArray)), m0.twins_, m0.found_, m0.full_, m0.sums_⟩ : mill_Mill).found_, (⟨([] : List (ByteArray × ByteArray)), ([] : List (ByteArray × ByteArray)), m0.twins_, m0.found_, m0.full_, m0.sums_⟩ : mill_Mill).full_, (⟨([] : List (ByteArray × ByteArray)), ([] : List (ByteArray × ByteArray)), m0.twins_, m0.found_, m0.full_, m0.sums_⟩ : mill_Mill).sums_⟩ : mill_Mill).twins_, (⟨([] : List (ByteArray × ByteArray)), ([] : List (ByteArray × ByteArray)), (⟨([] : List (ByteArray × ByteArray)), ([] : List (ByteArray × ByteArray)), m0.twins_, m0.found_, m0.full_, m0.sums_⟩ : mill_Mill).twins_, (⟨([] : List (ByteArray × ByteArray)), ([] : List (ByteArray × ByteArray)), m0.twins_, m0.found_, m0.full_, m0.sums_⟩ : mill_Mill).found_, (⟨([] : List (ByteArray × ByteArray)), ([] : List (ByteArray × ByteArray)), m0.twins_, m0.found_, m0.full_, m0.sums_⟩ : mill_Mill).full_, (⟨([] : List (ByteArray × ByteArray)), ([] : List (ByteArray × ByteArray)), m0.twins_, m0.found_, m0.full_, m0.sums_⟩ : mill_Mill).sums_⟩ : mill_Mill).found_, (⟨([] : List (ByteArray × ByteArray)), ([] : List (ByteArray × ByteArray)), (⟨([] : List (ByteArray × ByteArray)), ([] : List (ByteArray × ByteArray)), m0.twins_, m0.found_, m0.full_, m0.sums_⟩ : mill_Mill).twins_, (⟨([] : List (ByteArray × ByteArray)), ([] : List (ByteArray × ByteArray)), m0.twins_, m0.found_, m0.full_, m0.sums_⟩ : mill_Mill).found_, (⟨([] : List (ByteArray × ByteArray)), ([] : List (ByteArray × ByteArray)), m0.twins_, m0.found_, m0.full_, m0.sums_⟩ : mill_Mill).full_, (⟨([] : List (ByteArray × ByteArray)), ([] : List (ByteArray × ByteArray)), m0.twins_, m0.found_, m0.full_, m0.sums_⟩ : mill_Mill).sums_⟩ : mill_Mill).full_, (⟨([] : List (ByteArray × ByteArray)), ([] : List (ByteArray × ByteArray)), (⟨([] : List (ByteArray × ByteArray)), ([] : List (ByteArray × ByteArray)), m0.twins_, m0.found_, m0.full_, m0.sums_⟩ : mill_Mill).twins_, (⟨([] : List (ByteArray × ByteArray)), ([] : List (ByteArray × ByteArray)), m0.twins_, m0.found_, m0.full_, m0.sums_⟩ : mill_Mill).found_, (⟨([] : List (ByteArray × ByteArray)), ([] : List (ByteArray × ByteArray)), m0.twins_, m0.found_, m0.full_, m0.sums_⟩ : mill_Mill).full_, (⟨([] : List (ByteArray × ByteArray)), ([] : List (ByteArray × ByteArray)), m0.twins_, m0.found_, m0.full_, m0.sums_⟩ : mill_Mill).sums_⟩ : mill_Mill).sums_⟩ : mill_Mill).twins_).e1), .bool ((⟨([] : List (ByteArray × ByteArray)), ([] : List (ByteArray × ByteArray)), (⟨([] : List (ByteArray × ByteArray)), ([] : List (ByteArray × ByteArray)), (⟨([] : List (ByteArray × ByteArray)), ([] : List (ByteArray × ByteArray)), m0.twins_, m0.found_, m0.full_, m0.sums_⟩ : mill_Mill).twins_, (⟨([] : List (ByteArray × ByteArray)), ([] : List (ByteArray × ByteArray)), m0.twins_, m0.found_, m0.full_, m0.sums_⟩ : mill_Mill).found_, (⟨([] : List (ByteArray × ByteArray)), ([] : List (ByteArray × ByteArray)), m0.twins_, m0.found_, m0.full_, m0.sums_⟩ : mill_Mill).full_, (⟨([] : List (ByteArray × ByteArray)), ([] : List (ByteArray × ByteArray)), m0.twins_, m0.found_, m0.full_, m0.sums_⟩ : mill_Mill).sums_⟩ : mill_Mill).twins_, (⟨([] : List (ByteArray × ByteArray)), ([] : List (ByteArray × ByteArray)), (⟨([] : List (ByteArray × ByteArray)), ([] : List (ByteArray × ByteArray)), m0.twins_, m0.found_, m0.full_, m0.sums_⟩ : mill_Mill).twins_, (⟨([] : List (ByteArray × ByteArray)), ([] : List (ByteArray × ByteArray)), m0.twins_, m0.found_, m0.full_, m0.sums_⟩ : mill_Mill).found_, (⟨([] : List (ByteArray × ByteArray)), ([] : List (ByteArray × ByteArray)), m0.twins_, m0.found_, m0.full_, m0.sums_⟩ : mill_Mill).full_, (⟨([] : List (ByteArray × ByteArray)), ([] : List (ByteArray × ByteArray)), m0.twins_, m0.found_, m0.full_, m0.sums_⟩ : mill_Mill).sums_⟩ : mill_Mill).found_, (⟨([] : List (ByteArray × ByteArray)), ([] : List (ByteArray × ByteArray)), (⟨([] : List (ByteArray × ByteArray)), ([] : List (ByteArray × ByteArray)), m0.twins_, m0.found_, m0.full_, m0.sums_⟩ : mill_Mill).twins_, (⟨([] : List (ByteArray × ByteArray)), ([] : List (ByteArray × ByteArray)), m0.twins_, m0.found_, m0.full_, m0.sums_⟩ : mill_Mill).found_, (⟨([] : List (ByteArray × ByteArray)), ([] : List (ByteArray × ByteArray)), m0.twins_, m0.found_, m0.full_, m0.sums_⟩ : mill_Mill).full_, (⟨([] : List (ByteArray × ByteArray)), ([] : List (ByteArray × ByteArray)), m0.twins_, m0.found_, m0.full_, m0.sums_⟩ : mill_Mill).sums_⟩ : mill_Mill).full_, (⟨([] : List (ByteArray × ByteArray)), ([] : List (ByteArray × ByteArray)), (⟨([] : List (ByteArray × ByteArray)), ([] : List (ByteArray × ByteArray)), m0.twins_, m0.found_, m0.full_, m0.sums_⟩ : mill_Mill).twins_, (⟨([] : List (ByteArray × ByteArray)), ([] : List (ByteArray × ByteArray)), m0.twins_, m0.found_, m0.full_, m0.sums_⟩ : mill_Mill).found_, (⟨([] : List (ByteArray × ByteArray)), ([] : List (ByteArray × ByteArray)), m0.twins_, m0.found_, m0.full_, m0.sums_⟩ : mill_Mill).full_, (⟨([] : List (ByteArray × ByteArray)), ([] : List (ByteArray × ByteArray)), m0.twins_, m0.found_, m0.full_, m0.sums_⟩ : mill_Mill).sums_⟩ : mill_Mill).sums_⟩ : mill_Mill).found_), .bool ((⟨([] : List (ByteArray × ByteArray)), ([] : List (ByteArray × ByteArray)), (⟨([] : List (ByteArray × ByteArray)), ([] : List (ByteArray × ByteArray)), (⟨([] : List (ByteArray × ByteArray)), ([] : List (ByteArray × ByteArray)), m0.twins_, m0.found_, m0.full_, m0.sums_⟩ : mill_Mill).twins_, (⟨([] : List (ByteArray × ByteArray)), ([] : List (ByteArray × ByteArray)), m0.twins_, m0.found_, m0.full_, m0.sums_⟩ : mill_Mill).found_, (⟨([] : List (ByteArray × ByteArray)), ([] : List (ByteArray × ByteArray)), m0.twins_, m0.found_, m0.full_, m0.sums_⟩ : mill_Mill).full_, (⟨([] : List (ByteArray × ByteArray)), ([] : List (ByteArray × ByteArray)), m0.twins_, m0.found_, m0.full_, m0.sums_⟩ : mill_Mill).sums_⟩ : mill_Mill).twins_, (⟨([] : List (ByteArray × ByteArray)), ([] : List (ByteArray × ByteArray)), (⟨([] : List (ByteArray × ByteArray)), ([] : List (ByteArray × ByteArray)), m0.twins_, m0.found_, m0.full_, m0.sums_⟩ : mill_Mill).twins_, (⟨([] : List (ByteArray × ByteArray)), ([] : List (ByteArray × ByteArray)), m0.twins_, m0.found_, m0.full_, m0.sums_⟩ : mill_Mill).found_, (⟨([] : List (ByteArray × ByteArray)), ([] : List (ByteArray × ByteArray)), m0.twins_, m0.found_, m0.full_, m0.sums_⟩ : mill_Mill).full_, (⟨([] : List (ByteArray × ByteArray)), ([] : List (ByteArray × ByteArray)), m0.twins_, m0.found_, m0.full_, m0.sums_⟩ : mill_Mill).sums_⟩ : mill_Mill).found_, (⟨([] : List (ByteArray × ByteArray)), ([] : List (ByteArray × ByteArray)), (⟨([] : List (ByteArray × ByteArray)), ([] : List (ByteArray × ByteArray)), m0.twins_, m0.found_, m0.full_, m0.sums_⟩ : mill_Mill).twins_, (⟨([] : List (ByteArray × ByteArray)), ([] : List (ByteArray × ByteArray)), m0.twins_, m0.found_, m0.full_, m0.sums_⟩ : mill_Mill).found_, (⟨([] : List (ByteArray × ByteArray)), ([] : List (ByteArray × ByteArray)), m0.twins_, m0.found_, m0.full_, m0.sums_⟩ : mill_Mill).full_, (⟨([] : List (ByteArray × ByteArray)), ([] : List (ByteArray × ByteArray)), m0.twins_, m0.found_, m0.full_, m0.sums_⟩ : mill_Mill).sums_⟩ : mill_Mill).full_, (⟨([] : List (ByteArray × ByteArray)), ([] : List (ByteArray × ByteArray)), (⟨([] : List (ByteArray × ByteArray)), ([] : List (ByteArray × ByteArray)), m0.twins_, m0.found_, m0.full_, m0.sums_⟩ : mill_Mill).twins_, (⟨([] : List (ByteArray × ByteArray)), ([] : List (ByteArray × ByteArray)), m0.twins_, m0.found_, m0.full_, m0.sums_⟩ : mill_Mill).found_, (⟨([] : List (ByteArray × ByteArray)), ([] : List (ByteArray × ByteArray)), m0.twins_, m0.found_, m0.full_, m0.sums_⟩ : mill_Mill).full_, (⟨([] : List (ByteArray × ByteArray)), ([] : List (ByteArray × ByteArray)), m0.twins_, m0.found_, m0.full_, m0.sums_⟩ : mill_Mill).sums_⟩ : mill_Mill).sums_⟩ : mill_Mill).full_), .int .i64 ((⟨([] : List (ByteArray × ByteArray)), ([] : List (ByteArray × ByteArray)), (⟨([] : List (ByteArray × ByteArray)), ([] : List (ByteArray × ByteArray)), (⟨([] : List (ByteArray × ByteArray)), ([] : List (ByteArray × ByteArray)), m0.twins_, m0.found_, m0.full_, m0.sums_⟩ : mill_Mill).twins_, (⟨([] : List (ByteArray × ByteArray)), ([] : List (ByteArray × ByteArray)), m0.twins_, m0.found_, m0.full_, m0.sums_⟩ : mill_Mill).found_, (⟨([] : List (ByteArray × ByteArray)), ([] : List (ByteArray × ByteArray)), m0.twins_, m0.found_, m0.full_, m0.sums_⟩ : mill_Mill).full_, (⟨([] : List (ByteArray × ByteArray)), ([] : List (ByteArray × ByteArray)), m0.twins_, m0.found_, m0.full_, m0.sums_⟩ : mill_Mill).sums_⟩ : mill_Mill).twins_, (⟨([] : List (ByteArray × ByteArray)), ([] : List (ByteArray × ByteArray)), (⟨([] : List (ByteArray × ByteArray)), ([] : List (ByteArray × ByteArray)), m0.twins_, m0.found_, m0.full_, m0.sums_⟩ : mill_Mill).twins_, (⟨([] : List (ByteArray × ByteArray)), ([] : List (ByteArray × ByteArray)), m0.twins_, m0.found_, m0.full_, m0.sums_⟩ : mill_Mill).found_, (⟨([] : List (ByteArray × ByteArray)), ([] : List (ByteArray × ByteArray)), m0.twins_, m0.found_, m0.full_, m0.sums_⟩ : mill_Mill).full_, (⟨([] : List (ByteArray × ByteArray)), ([] : List (ByteArray × ByteArray)), m0.twins_, m0.found_, m0.full_, m0.sums_⟩ : mill_Mill).sums_⟩ : mill_Mill).found_, (⟨([] : List (ByteArray × ByteArray)), ([] : List (ByteArray × ByteArray)), (⟨([] : List (ByteArray × ByteArray)), ([] : List (ByteArray × ByteArray)), m0.twins_, m0.found_, m0.full_, m0.sums_⟩ : mill_Mill).twins_, (⟨([] : List (ByteArray × ByteArray)), ([] : List (ByteArray × ByteArray)), m0.twins_, m0.found_, m0.full_, m0.sums_⟩ : mill_Mill).found_, (⟨([] : List (ByteArray × ByteArray)), ([] : List (ByteArray × ByteArray)), m0.twins_, m0.found_, m0.full_, m0.sums_⟩ : mill_Mill).full_, (⟨([] : List (ByteArray × ByteArray)), ([] : List (ByteArray × ByteArray)), m0.twins_, m0.found_, m0.full_, m0.sums_⟩ : mill_Mill).sums_⟩ : mill_Mill).full_, (⟨([] : List (ByteArray × ByteArray)), ([] : List (ByteArray × ByteArray)), (⟨([] : List (ByteArray × ByteArray)), ([] : List (ByteArray × ByteArray)), m0.twins_, m0.found_, m0.full_, m0.sums_⟩ : mill_Mill).twins_, (⟨([] : List (ByteArray × ByteArray)), ([] : List (ByteArray × ByteArray)), m0.twins_, m0.found_, m0.full_, m0.sums_⟩ : mill_Mill).found_, (⟨([] : List (ByteArray × ByteArray)), ([] : List (ByteArray × ByteArray)), m0.twins_, m0.found_, m0.full_, m0.sums_⟩ : mill_Mill).full_, (⟨([] : List (ByteArray × ByteArray)), ([] : List (ByteArray × ByteArray)), m0.twins_, m0.found_, m0.full_, m0.sums_⟩ : mill_Mill).sums_⟩ : mill_Mill).sums_⟩ : mill_Mill).sums_)] 50]) (fun w hs => sat_to [0, 0] 0 rfl hs) rfl (rr_tmp rfl) ⟨rfl, rfl⟩


def F.mill_Mill_Tag_1 (x1 : ByteArray) (x2 : ByteArray) : Option ByteArray :=
  Option.bind (F.mill_Mill_none_1) (fun (r21 : Bool) => if r21 then (some ((ByteArray.mk #[]))) else (none))
set_option maxRecDepth 100000 in
set_option maxHeartbeats 4000000 in
theorem c_mill_Mill_Tag_1 (I : Hl) (x1 : ByteArray) (x2 : ByteArray) (res : ByteArray) (hF : F.mill_Mill_Tag_1 x1 x2 = some res) : Tr Try.prog 13 [.pointer none, .string x1, .string x2] [imm I] (fun r H' => r = .string res ∧ H' = [imm I]) := by
  unfold F.mill_Mill_Tag_1 at hF
  refine tr_of_cw (fn := Try.f13) Try.func13 rfl (Nat.le_of_ble_eq_true rfl) 39 rfl fun F0 w0 => ?_
  refine cw_keep [0, 1, 2] (L' := [(0, .pointer none), (1, .string x1), (2, .string x2)]) rfl ?_
  refine cw_state (S' := SAT w0 ([imm I] ++ F0)) (fun w hs => hs) ?_
  refine cw_seq ?_
  refine cw_region ?_
  refine ow_vals 1 (j := 1) [0, 1, 2] [(0, .pointer none), (1, .string x1), (2, .string x2)] rfl (by kernel_rfl) ?_
  refine ow_end rfl ?_
  refine ew_then ?_
  refine cw_seq ?_
  refine cw_seq ?_
  refine cw_region ?_
  refine ow_vals 1 (j := 1) [0, 1, 2, 9] [(0, .pointer none), (1, .string x1), (2, .string x2), (9, .pointer none)] rfl (by kernel_rfl) ?_
  obtain ⟨r21, h22, hF⟩ := bind_some hF
  refine ow_pw rfl (pw_call (F := [] ++ F0) rfl rfl rfl rfl rfl rfl rfl (by kernel_rfl) (perm_of_pulls [0] rfl) (c_mill_Mill_none_1 _ r21 h22) ?_)
  rintro _ _ ⟨rfl, rfl⟩
  refine nw_H (H' := [imm I] ++ F0) rfl (nw_ow ?_)
  refine ow_end rfl ?_
  refine ew_then ?_
  rcases if_some hF with ⟨h23, hF⟩ | ⟨h23, hF⟩
  · refine cw_cond_t rfl rfl h23 ?_
    refine cw_seq ?_
    refine cw_region ?_
    refine ow_vals 1 (j := 1) [6] [(6, .string (ByteArray.mk #[]))] rfl (by kernel_rfl) ?_
    refine ow_end rfl ?_
    refine ew_then ?_
    refine cw_ret ?_
    refine ew_then_ret ?_
    have hR := Option.some.inj hF
    subst hR
    exact fin1 (H1 := [imm I]) (fun w hs => sat_to [0] 0 rfl hs) rfl (rr_tmp rfl) ⟨rfl, rfl⟩
  · refine cw_cond_f rfl rfl h23 ?_
    refine cw_skip ?_
    refine ew_then ?_
    refine cw_seq ?_
    refine cw_seq ?_
    refine cw_region ?_
    refine ow_vals 1 (j := 1) [0, 1, 2, 11] [(0, .pointer none), (1, .string x1), (2, .string x2), (11, .pointer none)] rfl (by kernel_rfl) ?_
    cases hF


def F.mill_Mill_Tag_2 (x1 : ByteArray) (x2 : ByteArray) (m0 : mill_Mill) : Option (ByteArray × mill_Mill) :=
  Option.bind (F.mill_Mill_none_2 (⟨([] : List (ByteArray × ByteArray)), ([] : List (ByteArray × ByteArray)), m0.twins_, m0.found_, m0.full_, m0.sums_⟩ : mill_Mill)) (fun (r21 : Bool) => if r21 then (some (((ByteArray.mk #[]), (⟨([] : List (ByteArray × ByteArray)), ([] : List (ByteArray × ByteArray)), (⟨([] : List (ByteArray × ByteArray)), ([] : List (ByteArray × ByteArray)), m0.twins_, m0.found_, m0.full_, m0.sums_⟩ : mill_Mill).twins_, (⟨([] : List (ByteArray × ByteArray)), ([] : List (ByteArray × ByteArray)), m0.twins_, m0.found_, m0.full_, m0.sums_⟩ : mill_Mill).found_, (⟨([] : List (ByteArray × ByteArray)), ([] : List (ByteArray × ByteArray)), m0.twins_, m0.found_, m0.full_, m0.sums_⟩ : mill_Mill).full_, (⟨([] : List (ByteArray × ByteArray)), ([] : List (ByteArray × ByteArray)), m0.twins_, m0.found_, m0.full_, m0.sums_⟩ : mill_Mill).sums_⟩ : mill_Mill)))) else (Option.bind (F.mill_pad x1 92) (fun (r24 : ByteArray) => Option.bind (F.mill_pad x1 54) (fun (r26 : ByteArray) => chk (r26.size + x2.size ≤ 9223372036854775807) (Option.bind (F.sha_Sum (r26 ++ x2)) (fun (r29 : ByteArray) => chk (r24.size + r29.size ≤ 9223372036854775807) (Option.bind (F.sha_Sum (r24 ++ r29)) (fun (r32 : ByteArray) => some ((r32, (⟨([] : List (ByteArray × ByteArray)), ([] : List (ByteArray × ByteArray)), (⟨([] : List (ByteArray × ByteArray)), ([] : List (ByteArray × ByteArray)), m0.twins_, m0.found_, m0.full_, m0.sums_⟩ : mill_Mill).twins_, (⟨([] : List (ByteArray × ByteArray)), ([] : List (ByteArray × ByteArray)), m0.twins_, m0.found_, m0.full_, m0.sums_⟩ : mill_Mill).found_, (⟨([] : List (ByteArray × ByteArray)), ([] : List (ByteArray × ByteArray)), m0.twins_, m0.found_, m0.full_, m0.sums_⟩ : mill_Mill).full_, (⟨([] : List (ByteArray × ByteArray)), ([] : List (ByteArray × ByteArray)), m0.twins_, m0.found_, m0.full_, m0.sums_⟩ : mill_Mill).sums_⟩ : mill_Mill)))))))))))
set_option maxRecDepth 100000 in
set_option maxHeartbeats 4000000 in
theorem c_mill_Mill_Tag_2 (I : Hl) (x1 : ByteArray) (x2 : ByteArray) (m0 : mill_Mill) (b0 : Nat) (res : ByteArray × mill_Mill) (hF : F.mill_Mill_Tag_2 x1 x2 m0 = some res) : Tr Try.prog 13 [.pointer (some ⟨b0, 0, none⟩), .string x1, .string x2] [imm I, pt b0 #[.map none, .map none, .string m0.twins_.e0, .string m0.twins_.e1, .bool m0.found_, .bool m0.full_, .int .i64 m0.sums_] 50] (fun r H' => r = .string res.1 ∧ H' = [imm I, pt b0 #[.map none, .map none, .string res.2.twins_.e0, .string res.2.twins_.e1, .bool res.2.found_, .bool res.2.full_, .int .i64 res.2.sums_] 50]) := by
  unfold F.mill_Mill_Tag_2 at hF
  refine tr_of_cw (fn := Try.f13) Try.func13 rfl (Nat.le_of_ble_eq_true rfl) 39 rfl fun F0 w0 => ?_
  refine cw_keep [0, 1, 2] (L' := [(0, .pointer (some ⟨b0, 0, none⟩)), (1, .string x1), (2, .string x2)]) rfl ?_
  refine cw_state (S' := SAT w0 ([imm I, pt b0 #[.map none, .map none, .string m0.twins_.e0, .string m0.twins_.e1, .bool m0.found_, .bool m0.full_, .int .i64 m0.sums_] 50] ++ F0)) (fun w hs => hs) ?_
  refine cw_seq ?_
  refine cw_region ?_
  refine ow_vals 1 (j := 1) [0, 1, 2] [(0, .pointer (some ⟨b0, 0, none⟩)), (1, .string x1), (2, .string x2)] rfl (by kernel_rfl) ?_
  refine ow_end rfl ?_
  refine ew_then ?_
  refine cw_seq ?_
  refine cw_seq ?_
  refine cw_region ?_
  refine ow_vals 1 (j := 1) [0, 1, 2, 9] [(0, .pointer (some ⟨b0, 0, none⟩)), (1, .string x1), (2, .string x2), (9, .pointer (some ⟨b0, 0, none⟩))] rfl (by kernel_rfl) ?_
  obtain ⟨r21, h22, hF⟩ := bind_some hF
  refine ow_pw rfl (pw_call (F := [] ++ F0) rfl rfl rfl rfl rfl rfl rfl (by kernel_rfl) (perm_of_pulls [0, 0] rfl) (c_mill_Mill_none_2 _ (⟨([] : List (ByteArray × ByteArray)), ([] : List (ByteArray × ByteArray)), m0.twins_, m0.found_, m0.full_, m0.sums_⟩ : mill_Mill) b0 r21 h22) ?_)
  rintro _ _ ⟨rfl, rfl⟩
  refine nw_H (H' := [imm I, pt b0 #[.map none, .map none, .string ((⟨([] : List (ByteArray × ByteArray)), ([] : List (ByteArray × ByteArray)), m0.twins_, m0.found_, m0.full_, m0.sums_⟩ : mill_Mill).twins_.e0), .string ((⟨([] : List (ByteArray × ByteArray)), ([] : List (ByteArray × ByteArray)), m0.twins_, m0.found_, m0.full_, m0.sums_⟩ : mill_Mill).twins_.e1), .bool ((⟨([] : List (ByteArray × ByteArray)), ([] : List (ByteArray × ByteArray)), m0.twins_, m0.found_, m0.full_, m0.sums_⟩ : mill_Mill).found_), .bool ((⟨([] : List (ByteArray × ByteArray)), ([] : List (ByteArray × ByteArray)), m0.twins_, m0.found_, m0.full_, m0.sums_⟩ : mill_Mill).full_), .int .i64 ((⟨([] : List (ByteArray × ByteArray)), ([] : List (ByteArray × ByteArray)), m0.twins_, m0.found_, m0.full_, m0.sums_⟩ : mill_Mill).sums_)] 50] ++ F0) rfl (nw_ow ?_)
  refine ow_end rfl ?_
  refine ew_then ?_
  rcases if_some hF with ⟨h23, hF⟩ | ⟨h23, hF⟩
  · refine cw_cond_t rfl rfl h23 ?_
    refine cw_seq ?_
    refine cw_region ?_
    refine ow_vals 1 (j := 1) [6] [(6, .string (ByteArray.mk #[]))] rfl (by kernel_rfl) ?_
    refine ow_end rfl ?_
    refine ew_then ?_
    refine cw_ret ?_
    refine ew_then_ret ?_
    have hR := Option.some.inj hF
    subst hR
    exact fin1 (H1 := [imm I, pt b0 #[.map none, .map none, .string (((⟨([] : List (ByteArray × ByteArray)), ([] : List (ByteArray × ByteArray)), (⟨([] : List (ByteArray × ByteArray)), ([] : List (ByteArray × ByteArray)), m0.twins_, m0.found_, m0.full_, m0.sums_⟩ : mill_Mill).twins_, (⟨([] : List (ByteArray × ByteArray)), ([] : List (ByteArray × ByteArray)), m0.twins_, m0.found_, m0.full_, m0.sums_⟩ : mill_Mill).found_, (⟨([] : List (ByteArray × ByteArray)), ([] : List (ByteArray × ByteArray)), m0.twins_, m0.found_, m0.full_, m0.sums_⟩ : mill_Mill).full_, (⟨([] : List (ByteArray × ByteArray)), ([] : List (ByteArray × ByteArray)), m0.twins_, m0.found_, m0.full_, m0.sums_⟩ : mill_Mill).sums_⟩ : mill_Mill).twins_).e0), .string (((⟨([] : List (ByteArray × ByteArray)), ([] : List (ByteArray × ByteArray)), (⟨([] : List (ByteArray × ByteArray)), ([] : List (ByteArray × ByteArray)), m0.twins_, m0.found_, m0.full_, m0.sums_⟩ : mill_Mill).twins_, (⟨([] : List (ByteArray × ByteArray)), ([] : List (ByteArray × ByteArray)), m0.twins_, m0.found_, m0.full_, m0.sums_⟩ : mill_Mill).found_, (⟨([] : List (ByteArray × ByteArray)), ([] : List (ByteArray × ByteArray)), m0.twins_, m0.found_, m0.full_, m0.sums_⟩ : mill_Mill).full_, (⟨([] : List (ByteArray × ByteArray)), ([] : List (ByteArray × ByteArray)), m0.twins_, m0.found_, m0.full_, m0.sums_⟩ : mill_Mill).sums_⟩ : mill_Mill).twins_).e1), .bool ((⟨([] : List (ByteArray × ByteArray)), ([] : List (ByteArray × ByteArray)), (⟨([] : List (ByteArray × ByteArray)), ([] : List (ByteArray × ByteArray)), m0.twins_, m0.found_, m0.full_, m0.sums_⟩ : mill_Mill).twins_, (⟨([] : List (ByteArray × ByteArray)), ([] : List (ByteArray × ByteArray)), m0.twins_, m0.found_, m0.full_, m0.sums_⟩ : mill_Mill).found_, (⟨([] : List (ByteArray × ByteArray)), ([] : List (ByteArray × ByteArray)), m0.twins_, m0.found_, m0.full_, m0.sums_⟩ : mill_Mill).full_, (⟨([] : List (ByteArray × ByteArray)), ([] : List (ByteArray × ByteArray)), m0.twins_, m0.found_, m0.full_, m0.sums_⟩ : mill_Mill).sums_⟩ : mill_Mill).found_), .bool ((⟨([] : List (ByteArray × ByteArray)), ([] : List (ByteArray × ByteArray)), (⟨([] : List (ByteArray × ByteArray)), ([] : List (ByteArray × ByteArray)), m0.twins_, m0.found_, m0.full_, m0.sums_⟩ : mill_Mill).twins_, (⟨([] : List (ByteArray × ByteArray)), ([] : List (ByteArray × ByteArray)), m0.twins_, m0.found_, m0.full_, m0.sums_⟩ : mill_Mill).found_, (⟨([] : List (ByteArray × ByteArray)), ([] : List (ByteArray × ByteArray)), m0.twins_, m0.found_, m0.full_, m0.sums_⟩ : mill_Mill).full_, (⟨([] : List (ByteArray × ByteArray)), ([] : List (ByteArray × ByteArray)), m0.twins_, m0.found_, m0.full_, m0.sums_⟩ : mill_Mill).sums_⟩ : mill_Mill).full_), .int .i64 ((⟨([] : List (ByteArray × ByteArray)), ([] : List (ByteArray × ByteArray)), (⟨([] : List (ByteArray × ByteArray)), ([] : List (ByteArray × ByteArray)), m0.twins_, m0.found_, m0.full_, m0.sums_⟩ : mill_Mill).twins_, (⟨([] : List (ByteArray × ByteArray)), ([] : List (ByteArray × ByteArray)), m0.twins_, m0.found_, m0.full_, m0.sums_⟩ : mill_Mill).found_, (⟨([] : List (ByteArray × ByteArray)), ([] : List (ByteArray × ByteArray)), m0.twins_, m0.found_, m0.full_, m0.sums_⟩ : mill_Mill).full_, (⟨([] : List (ByteArray × ByteArray)), ([] : List (ByteArray × ByteArray)), m0.twins_, m0.found_, m0.full_, m0.sums_⟩ : mill_Mill).sums_⟩ : mill_Mill).sums_)] 50]) (fun w hs => sat_to [0, 0] 0 rfl hs) rfl (rr_tmp rfl) ⟨rfl, rfl⟩
  · refine cw_cond_f rfl rfl h23 ?_
    refine cw_skip ?_
    refine ew_then ?_
    refine cw_seq ?_
    refine cw_seq ?_
    refine cw_region ?_
    refine ow_vals 3 (j := 3) [0, 1, 2, 13] [(0, .pointer (some ⟨b0, 0, none⟩)), (1, .string x1), (2, .string x2), (13, .pointer (some ⟨b0, 0, none⟩))] rfl (by kernel_rfl) ?_
    refine ow_pw rfl (pw_quiet (v := .map none) rfl rfl rfl rfl (q_load 1 rfl rfl rfl (by kernel_rfl)) (nw_ow ?_))
    refine ow_vals 2 (j := 6) [0, 1, 2, 16] [(0, .pointer (some ⟨b0, 0, none⟩)), (1, .string x1), (2, .string x2), (16, .bool false)] rfl (by kernel_rfl) ?_
    refine ow_end rfl ?_
    refine ew_then ?_
    refine cw_cond_f rfl rfl rfl ?_
    refine cw_skip ?_
    refine ew_then ?_
    refine cw_seq ?_
    refine cw_region ?_
    refine ow_vals 1 (j := 1) [1, 2, 30] [(1, .string x1), (2, .string x2), (30, .string x1)] rfl (by kernel_rfl) ?_
    obtain ⟨r24, h25, hF⟩ := bind_some hF
    refine ow_pw rfl (pw_call (F := [pt b0 #[.map none, .map none, .string ((⟨([] : List (ByteArray × ByteArray)), ([] : List (ByteArray × ByteArray)), m0.twins_, m0.found_, m0.full_, m0.sums_⟩ : mill_Mill).twins_.e0), .string ((⟨([] : List (ByteArray × ByteArray)), ([] : List (ByteArray × ByteArray)), m0.twins_, m0.found_, m0.full_, m0.sums_⟩ : mill_Mill).twins_.e1), .bool ((⟨([] : List (ByteArray × ByteArray)), ([] : List (ByteArray × ByteArray)), m0.twins_, m0.found_, m0.full_, m0.sums_⟩ : mill_Mill).found_), .bool ((⟨([] : List (ByteArray × ByteArray)), ([] : List (ByteArray × ByteArray)), m0.twins_, m0.found_, m0.full_, m0.sums_⟩ : mill_Mill).full_), .int .i64 ((⟨([] : List (ByteArray × ByteArray)), ([] : List (ByteArray × ByteArray)), m0.twins_, m0.found_, m0.full_, m0.sums_⟩ : mill_Mill).sums_)] 50] ++ F0) rfl rfl rfl rfl rfl rfl rfl (by kernel_rfl) (perm_of_pulls [0] rfl) (c_mill_pad _ x1 92 r24 h25) ?_)
    rintro _ _ ⟨rfl, rfl⟩
    refine nw_H (H' := [imm I, pt b0 #[.map none, .map none, .string ((⟨([] : List (ByteArray × ByteArray)), ([] : List (ByteArray × ByteArray)), m0.twins_, m0.found_, m0.full_, m0.sums_⟩ : mill_Mill).twins_.e0), .string ((⟨([] : List (ByteArray × ByteArray)), ([] : List (ByteArray × ByteArray)), m0.twins_, m0.found_, m0.full_, m0.sums_⟩ : mill_Mill).twins_.e1), .bool ((⟨([] : List (ByteArray × ByteArray)), ([] : List (ByteArray × ByteArray)), m0.twins_, m0.found_, m0.full_, m0.sums_⟩ : mill_Mill).found_), .bool ((⟨([] : List (ByteArray × ByteArray)), ([] : List (ByteArray × ByteArray)), m0.twins_, m0.found_, m0.full_, m0.sums_⟩ : mill_Mill).full_), .int .i64 ((⟨([] : List (ByteArray × ByteArray)), ([] : List (ByteArray × ByteArray)), m0.twins_, m0.found_, m0.full_, m0.sums_⟩ : mill_Mill).sums_)] 50] ++ F0) rfl (nw_ow ?_)
    refine ow_vals 1 (j := 3) [2, 31, 32] [(2, .string x2), (31, .string r24), (32, .string x1)] rfl (by kernel_rfl) ?_
    obtain ⟨r26, h27, hF⟩ := bind_some hF
    refine ow_pw rfl (pw_call (F := [pt b0 #[.map none, .map none, .string ((⟨([] : List (ByteArray × ByteArray)), ([] : List (ByteArray × ByteArray)), m0.twins_, m0.found_, m0.full_, m0.sums_⟩ : mill_Mill).twins_.e0), .string ((⟨([] : List (ByteArray × ByteArray)), ([] : List (ByteArray × ByteArray)), m0.twins_, m0.found_, m0.full_, m0.sums_⟩ : mill_Mill).twins_.e1), .bool ((⟨([] : List (ByteArray × ByteArray)), ([] : List (ByteArray × ByteArray)), m0.twins_, m0.found_, m0.full_, m0.sums_⟩ : mill_Mill).found_), .bool ((⟨([] : List (ByteArray × ByteArray)), ([] : List (ByteArray × ByteArray)), m0.twins_, m0.found_, m0.full_, m0.sums_⟩ : mill_Mill).full_), .int .i64 ((⟨([] : List (ByteArray × ByteArray)), ([] : List (ByteArray × ByteArray)), m0.twins_, m0.found_, m0.full_, m0.sums_⟩ : mill_Mill).sums_)] 50] ++ F0) rfl rfl rfl rfl rfl rfl rfl (by kernel_rfl) (perm_of_pulls [0] rfl) (c_mill_pad _ x1 54 r26 h27) ?_)
    rintro _ _ ⟨rfl, rfl⟩
    refine nw_H (H' := [imm I, pt b0 #[.map none, .map none, .string ((⟨([] : List (ByteArray × ByteArray)), ([] : List (ByteArray × ByteArray)), m0.twins_, m0.found_, m0.full_, m0.sums_⟩ : mill_Mill).twins_.e0), .string ((⟨([] : List (ByteArray × ByteArray)), ([] : List (ByteArray × ByteArray)), m0.twins_, m0.found_, m0.full_, m0.sums_⟩ : mill_Mill).twins_.e1), .bool ((⟨([] : List (ByteArray × ByteArray)), ([] : List (ByteArray × ByteArray)), m0.twins_, m0.found_, m0.full_, m0.sums_⟩ : mill_Mill).found_), .bool ((⟨([] : List (ByteArray × ByteArray)), ([] : List (ByteArray × ByteArray)), m0.twins_, m0.found_, m0.full_, m0.sums_⟩ : mill_Mill).full_), .int .i64 ((⟨([] : List (ByteArray × ByteArray)), ([] : List (ByteArray × ByteArray)), m0.twins_, m0.found_, m0.full_, m0.sums_⟩ : mill_Mill).sums_)] 50] ++ F0) rfl (nw_ow ?_)
    refine ow_vals 1 (j := 5) [31, 33, 34] [(31, .string r24), (33, .string r26), (34, .string x2)] rfl (by kernel_rfl) ?_
    obtain ⟨h28, hF⟩ := chk_some hF
    refine ow_pw rfl (pw_quiet (v := .string (r26 ++ x2)) rfl rfl rfl rfl (q_concat rfl rfl rfl h28) (nw_ow ?_))
    obtain ⟨r29, h30, hF⟩ := bind_some hF
    refine ow_pw rfl (pw_call (F := [pt b0 #[.map none, .map none, .string ((⟨([] : List (ByteArray × ByteArray)), ([] : List (ByteArray × ByteArray)), m0.twins_, m0.found_, m0.full_, m0.sums_⟩ : mill_Mill).twins_.e0), .string ((⟨([] : List (ByteArray × ByteArray)), ([] : List (ByteArray × ByteArray)), m0.twins_, m0.found_, m0.full_, m0.sums_⟩ : mill_Mill).twins_.e1), .bool ((⟨([] : List (ByteArray × ByteArray)), ([] : List (ByteArray × ByteArray)), m0.twins_, m0.found_, m0.full_, m0.sums_⟩ : mill_Mill).found_), .bool ((⟨([] : List (ByteArray × ByteArray)), ([] : List (ByteArray × ByteArray)), m0.twins_, m0.found_, m0.full_, m0.sums_⟩ : mill_Mill).full_), .int .i64 ((⟨([] : List (ByteArray × ByteArray)), ([] : List (ByteArray × ByteArray)), m0.twins_, m0.found_, m0.full_, m0.sums_⟩ : mill_Mill).sums_)] 50] ++ F0) rfl rfl rfl rfl rfl rfl rfl (by kernel_rfl) (perm_of_pulls [0] rfl) (c_sha_Sum _ (r26 ++ x2) r29 h30) ?_)
    rintro _ _ ⟨rfl, rfl⟩
    refine nw_H (H' := [imm I, pt b0 #[.map none, .map none, .string ((⟨([] : List (ByteArray × ByteArray)), ([] : List (ByteArray × ByteArray)), m0.twins_, m0.found_, m0.full_, m0.sums_⟩ : mill_Mill).twins_.e0), .string ((⟨([] : List (ByteArray × ByteArray)), ([] : List (ByteArray × ByteArray)), m0.twins_, m0.found_, m0.full_, m0.sums_⟩ : mill_Mill).twins_.e1), .bool ((⟨([] : List (ByteArray × ByteArray)), ([] : List (ByteArray × ByteArray)), m0.twins_, m0.found_, m0.full_, m0.sums_⟩ : mill_Mill).found_), .bool ((⟨([] : List (ByteArray × ByteArray)), ([] : List (ByteArray × ByteArray)), m0.twins_, m0.found_, m0.full_, m0.sums_⟩ : mill_Mill).full_), .int .i64 ((⟨([] : List (ByteArray × ByteArray)), ([] : List (ByteArray × ByteArray)), m0.twins_, m0.found_, m0.full_, m0.sums_⟩ : mill_Mill).sums_)] 50] ++ F0) rfl (nw_ow ?_)
    obtain ⟨h31, hF⟩ := chk_some hF
    refine ow_pw rfl (pw_quiet (v := .string (r24 ++ r29)) rfl rfl rfl rfl (q_concat rfl rfl rfl h31) (nw_ow ?_))
    obtain ⟨r32, h33, hF⟩ := bind_some hF
    refine ow_pw rfl (pw_call (F := [pt b0 #[.map none, .map none, .string ((⟨([] : List (ByteArray × ByteArray)), ([] : List (ByteArray × ByteArray)), m0.twins_, m0.found_, m0.full_, m0.sums_⟩ : mill_Mill).twins_.e0), .string ((⟨([] : List (ByteArray × ByteArray)), ([] : List (ByteArray × ByteArray)), m0.twins_, m0.found_, m0.full_, m0.sums_⟩ : mill_Mill).twins_.e1), .bool ((⟨([] : List (ByteArray × ByteArray)), ([] : List (ByteArray × ByteArray)), m0.twins_, m0.found_, m0.full_, m0.sums_⟩ : mill_Mill).found_), .bool ((⟨([] : List (ByteArray × ByteArray)), ([] : List (ByteArray × ByteArray)), m0.twins_, m0.found_, m0.full_, m0.sums_⟩ : mill_Mill).full_), .int .i64 ((⟨([] : List (ByteArray × ByteArray)), ([] : List (ByteArray × ByteArray)), m0.twins_, m0.found_, m0.full_, m0.sums_⟩ : mill_Mill).sums_)] 50] ++ F0) rfl rfl rfl rfl rfl rfl rfl (by kernel_rfl) (perm_of_pulls [0] rfl) (c_sha_Sum _ (r24 ++ r29) r32 h33) ?_)
    rintro _ _ ⟨rfl, rfl⟩
    refine nw_H (H' := [imm I, pt b0 #[.map none, .map none, .string ((⟨([] : List (ByteArray × ByteArray)), ([] : List (ByteArray × ByteArray)), m0.twins_, m0.found_, m0.full_, m0.sums_⟩ : mill_Mill).twins_.e0), .string ((⟨([] : List (ByteArray × ByteArray)), ([] : List (ByteArray × ByteArray)), m0.twins_, m0.found_, m0.full_, m0.sums_⟩ : mill_Mill).twins_.e1), .bool ((⟨([] : List (ByteArray × ByteArray)), ([] : List (ByteArray × ByteArray)), m0.twins_, m0.found_, m0.full_, m0.sums_⟩ : mill_Mill).found_), .bool ((⟨([] : List (ByteArray × ByteArray)), ([] : List (ByteArray × ByteArray)), m0.twins_, m0.found_, m0.full_, m0.sums_⟩ : mill_Mill).full_), .int .i64 ((⟨([] : List (ByteArray × ByteArray)), ([] : List (ByteArray × ByteArray)), m0.twins_, m0.found_, m0.full_, m0.sums_⟩ : mill_Mill).sums_)] 50] ++ F0) rfl (nw_ow ?_)
    refine ow_vals 1 (j := 10) [6] [(6, .string r32)] rfl (by kernel_rfl) ?_
    refine ow_end rfl ?_
    refine ew_then ?_
    refine cw_ret ?_
    have hR := Option.some.inj hF
    subst hR
    exact fin1 (H1 := [imm I, pt b0 #[.map none, .map none, .string (((⟨([] : List (ByteArray × ByteArray)), ([] : List (ByteArray × ByteArray)), (⟨([] : List (ByteArray × ByteArray)), ([] : List (ByteArray × ByteArray)), m0.twins_, m0.found_, m0.full_, m0.sums_⟩ : mill_Mill).twins_, (⟨([] : List (ByteArray × ByteArray)), ([] : List (ByteArray × ByteArray)), m0.twins_, m0.found_, m0.full_, m0.sums_⟩ : mill_Mill).found_, (⟨([] : List (ByteArray × ByteArray)), ([] : List (ByteArray × ByteArray)), m0.twins_, m0.found_, m0.full_, m0.sums_⟩ : mill_Mill).full_, (⟨([] : List (ByteArray × ByteArray)), ([] : List (ByteArray × ByteArray)), m0.twins_, m0.found_, m0.full_, m0.sums_⟩ : mill_Mill).sums_⟩ : mill_Mill).twins_).e0), .string (((⟨([] : List (ByteArray × ByteArray)), ([] : List (ByteArray × ByteArray)), (⟨([] : List (ByteArray × ByteArray)), ([] : List (ByteArray × ByteArray)), m0.twins_, m0.found_, m0.full_, m0.sums_⟩ : mill_Mill).twins_, (⟨([] : List (ByteArray × ByteArray)), ([] : List (ByteArray × ByteArray)), m0.twins_, m0.found_, m0.full_, m0.sums_⟩ : mill_Mill).found_, (⟨([] : List (ByteArray × ByteArray)), ([] : List (ByteArray × ByteArray)), m0.twins_, m0.found_, m0.full_, m0.sums_⟩ : mill_Mill).full_, (⟨([] : List (ByteArray × ByteArray)), ([] : List (ByteArray × ByteArray)), m0.twins_, m0.found_, m0.full_, m0.sums_⟩ : mill_Mill).sums_⟩ : mill_Mill).twins_).e1), .bool ((⟨([] : List (ByteArray × ByteArray)), ([] : List (ByteArray × ByteArray)), (⟨([] : List (ByteArray × ByteArray)), ([] : List (ByteArray × ByteArray)), m0.twins_, m0.found_, m0.full_, m0.sums_⟩ : mill_Mill).twins_, (⟨([] : List (ByteArray × ByteArray)), ([] : List (ByteArray × ByteArray)), m0.twins_, m0.found_, m0.full_, m0.sums_⟩ : mill_Mill).found_, (⟨([] : List (ByteArray × ByteArray)), ([] : List (ByteArray × ByteArray)), m0.twins_, m0.found_, m0.full_, m0.sums_⟩ : mill_Mill).full_, (⟨([] : List (ByteArray × ByteArray)), ([] : List (ByteArray × ByteArray)), m0.twins_, m0.found_, m0.full_, m0.sums_⟩ : mill_Mill).sums_⟩ : mill_Mill).found_), .bool ((⟨([] : List (ByteArray × ByteArray)), ([] : List (ByteArray × ByteArray)), (⟨([] : List (ByteArray × ByteArray)), ([] : List (ByteArray × ByteArray)), m0.twins_, m0.found_, m0.full_, m0.sums_⟩ : mill_Mill).twins_, (⟨([] : List (ByteArray × ByteArray)), ([] : List (ByteArray × ByteArray)), m0.twins_, m0.found_, m0.full_, m0.sums_⟩ : mill_Mill).found_, (⟨([] : List (ByteArray × ByteArray)), ([] : List (ByteArray × ByteArray)), m0.twins_, m0.found_, m0.full_, m0.sums_⟩ : mill_Mill).full_, (⟨([] : List (ByteArray × ByteArray)), ([] : List (ByteArray × ByteArray)), m0.twins_, m0.found_, m0.full_, m0.sums_⟩ : mill_Mill).sums_⟩ : mill_Mill).full_), .int .i64 ((⟨([] : List (ByteArray × ByteArray)), ([] : List (ByteArray × ByteArray)), (⟨([] : List (ByteArray × ByteArray)), ([] : List (ByteArray × ByteArray)), m0.twins_, m0.found_, m0.full_, m0.sums_⟩ : mill_Mill).twins_, (⟨([] : List (ByteArray × ByteArray)), ([] : List (ByteArray × ByteArray)), m0.twins_, m0.found_, m0.full_, m0.sums_⟩ : mill_Mill).found_, (⟨([] : List (ByteArray × ByteArray)), ([] : List (ByteArray × ByteArray)), m0.twins_, m0.found_, m0.full_, m0.sums_⟩ : mill_Mill).full_, (⟨([] : List (ByteArray × ByteArray)), ([] : List (ByteArray × ByteArray)), m0.twins_, m0.found_, m0.full_, m0.sums_⟩ : mill_Mill).sums_⟩ : mill_Mill).sums_)] 50]) (fun w hs => sat_to [0, 0] 0 rfl hs) rfl (rr_tmp rfl) ⟨rfl, rfl⟩


def F.mill_Mill_Stream_1.l2 (x1 : ByteArray) (x2 : ByteArray) (x3 : Int) (x30 : Int) (m31 : ByteArray) (s32 : ByteArray) (s33 : ByteArray) (x34 : Bool) (x35 : Bool) (x36 : Int) : Option ((Int × ByteArray × ByteArray × ByteArray × Bool × Bool × Int) ⊕ (ByteArray × ByteArray × ByteArray × Bool × Bool × Int)) :=
  Option.bind (F.strings_Builder_Len m31) (fun (r37 : Int) => if decide (r37 < x3) then (chk (x2.size + (bstr ([IntKind.u8.wrap (x30.fdiv (2 ^ 8)), IntKind.u8.wrap (x30)] : List Int)).size ≤ 9223372036854775807) (Option.bind (F.mill_Mill_Tag_2 x1 (x2 ++ (bstr ([IntKind.u8.wrap (x30.fdiv (2 ^ 8)), IntKind.u8.wrap (x30)] : List Int))) (⟨([] : List (ByteArray × ByteArray)), ([] : List (ByteArray × ByteArray)), (⟨s32, s33⟩ : A2_ByteArray), x34, x35, x36⟩ : mill_Mill)) (fun (r43 : ByteArray × mill_Mill) => Option.bind (F.strings_Builder_WriteString r43.1 m31) (fun (r45 : Int × ByteArray) => some (.inl (IntKind.i64.wrap (x30 + 1), r45.2, r43.2.twins_.e0, r43.2.twins_.e1, r43.2.found_, r43.2.full_, r43.2.sums_)))))) else (some (.inr ((m31, s32, s33, x34, x35, x36)))))
def F.mill_Mill_Stream_1.r3 (x3 : Int) (m47 : ByteArray) (s48 : ByteArray) (s49 : ByteArray) (x50 : Bool) (x51 : Bool) (x52 : Int) : Option (ByteArray × mill_Mill) :=
  Option.bind (F.strings_Builder_String m47) (fun (r53 : ByteArray) => chk (0 ≤ (0 : Int) ∧ (0 : Int) ≤ x3 ∧ x3 ≤ (r53.size : Int)) (some ((r53.extract (0 : Int).toNat x3.toNat, (⟨([] : List (ByteArray × ByteArray)), ([] : List (ByteArray × ByteArray)), (⟨s48, s49⟩ : A2_ByteArray), x50, x51, x52⟩ : mill_Mill)))))
def F.mill_Mill_Stream_1.r1 (x1 : ByteArray) (x2 : ByteArray) (x3 : Int) (m0 : mill_Mill) : Option (ByteArray × mill_Mill) :=
  Option.bind (iter (fun x => F.mill_Mill_Stream_1.l2 x1 x2 x3 x.1 x.2.1 x.2.2.1 x.2.2.2.1 x.2.2.2.2.1 x.2.2.2.2.2.1 x.2.2.2.2.2.2) FUEL (0, ByteArray.empty, (⟨([] : List (ByteArray × ByteArray)), ([] : List (ByteArray × ByteArray)), m0.twins_, m0.found_, m0.full_, m0.sums_⟩ : mill_Mill).twins_.e0, (⟨([] : List (ByteArray × ByteArray)), ([] : List (ByteArray × ByteArray)), m0.twins_, m0.found_, m0.full_, m0.sums_⟩ : mill_Mill).twins_.e1, (⟨([] : List (ByteArray × ByteArray)), ([] : List (ByteArray × ByteArray)), m0.twins_, m0.found_, m0.full_, m0.sums_⟩ : mill_Mill).found_, (⟨([] : List (ByteArray × ByteArray)), ([] : List (ByteArray × ByteArray)), m0.twins_, m0.found_, m0.full_, m0.sums_⟩ : mill_Mill).full_, (⟨([] : List (ByteArray × ByteArray)), ([] : List (ByteArray × ByteArray)), m0.twins_, m0.found_, m0.full_, m0.sums_⟩ : mill_Mill).sums_)) (fun x => F.mill_Mill_Stream_1.r3 x3 x.1 x.2.1 x.2.2.1 x.2.2.2.1 x.2.2.2.2.1 x.2.2.2.2.2)
def F.mill_Mill_Stream_1 (x1 : ByteArray) (x2 : ByteArray) (x3 : Int) (m0 : mill_Mill) : Option (ByteArray × mill_Mill) :=
  thru (Option.bind (F.mill_Mill_none_2 (⟨([] : List (ByteArray × ByteArray)), ([] : List (ByteArray × ByteArray)), m0.twins_, m0.found_, m0.full_, m0.sums_⟩ : mill_Mill)) (fun (r22 : Bool) => if r22 then (some (.inr (((ByteArray.mk #[]), (⟨([] : List (ByteArray × ByteArray)), ([] : List (ByteArray × ByteArray)), (⟨([] : List (ByteArray × ByteArray)), ([] : List (ByteArray × ByteArray)), m0.twins_, m0.found_, m0.full_, m0.sums_⟩ : mill_Mill).twins_, (⟨([] : List (ByteArray × ByteArray)), ([] : List (ByteArray × ByteArray)), m0.twins_, m0.found_, m0.full_, m0.sums_⟩ : mill_Mill).found_, (⟨([] : List (ByteArray × ByteArray)), ([] : List (ByteArray × ByteArray)), m0.twins_, m0.found_, m0.full_, m0.sums_⟩ : mill_Mill).full_, (⟨([] : List (ByteArray × ByteArray)), ([] : List (ByteArray × ByteArray)), m0.twins_, m0.found_, m0.full_, m0.sums_⟩ : mill_Mill).sums_⟩ : mill_Mill))))) else (if decide (x3 < 1) then (some (.inr (((ByteArray.mk #[]), (⟨([] : List (ByteArray × ByteArray)), ([] : List (ByteArray × ByteArray)), (⟨([] : List (ByteArray × ByteArray)), ([] : List (ByteArray × ByteArray)), m0.twins_, m0.found_, m0.full_, m0.sums_⟩ : mill_Mill).twins_, (⟨([] : List (ByteArray × ByteArray)), ([] : List (ByteArray × ByteArray)), m0.twins_, m0.found_, m0.full_, m0.sums_⟩ : mill_Mill).found_, (⟨([] : List (ByteArray × ByteArray)), ([] : List (ByteArray × ByteArray)), m0.twins_, m0.found_, m0.full_, m0.sums_⟩ : mill_Mill).full_, (⟨([] : List (ByteArray × ByteArray)), ([] : List (ByteArray × ByteArray)), m0.twins_, m0.found_, m0.full_, m0.sums_⟩ : mill_Mill).sums_⟩ : mill_Mill))))) else (some (.inl ()))))) (fun x => F.mill_Mill_Stream_1.r1 x1 x2 x3 m0)
set_option maxRecDepth 100000 in
set_option maxHeartbeats 4000000 in
theorem c_mill_Mill_Stream_1 (I : Hl) (x1 : ByteArray) (x2 : ByteArray) (x3 : Int) (m0 : mill_Mill) (b0 : Nat) (res : ByteArray × mill_Mill) (hF : F.mill_Mill_Stream_1 x1 x2 x3 m0 = some res) : Tr Try.prog 17 [.pointer (some ⟨b0, 0, none⟩), .string x1, .string x2, .int .i64 x3] [imm I, pt b0 #[.map none, .map none, .string m0.twins_.e0, .string m0.twins_.e1, .bool m0.found_, .bool m0.full_, .int .i64 m0.sums_] 50] (fun r H' => r = .string res.1 ∧ H' = [imm I, pt b0 #[.map none, .map none, .string res.2.twins_.e0, .string res.2.twins_.e1, .bool res.2.found_, .bool res.2.full_, .int .i64 res.2.sums_] 50]) := by
  unfold F.mill_Mill_Stream_1 at hF
  refine tr_of_cw (fn := Try.f17) Try.func17 rfl (Nat.le_of_ble_eq_true rfl) 38 rfl fun F0 w0 => ?_
  refine cw_keep [0, 1, 2, 3] (L' := [(0, .pointer (some ⟨b0, 0, none⟩)), (1, .string x1), (2, .string x2), (3, .int .i64 x3)]) rfl ?_
  refine cw_state (S' := SAT w0 ([imm I, pt b0 #[.map none, .map none, .string m0.twins_.e0, .string m0.twins_.e1, .bool m0.found_, .bool m0.full_, .int .i64 m0.sums_] 50] ++ F0)) (fun w hs => hs) ?_
  refine cw_seq ?_
  refine cw_region ?_
  refine ow_vals 1 (j := 1) [0, 1, 2, 3] [(0, .pointer (some ⟨b0, 0, none⟩)), (1, .string x1), (2, .string x2), (3, .int .i64 x3)] rfl (by kernel_rfl) ?_
  refine ow_end rfl ?_
  refine ew_then ?_
  obtain ⟨v21, hF, hK21⟩ := thru_some hF
  refine cw_mid (fun a w => .inl () = v21 ∧ Fr 38 [(0, .pointer (some ⟨b0, 0, none⟩)), (1, .string x1), (2, .string x2), (3, .int .i64 x3)] a ∧ SAT w0 ([imm I, pt b0 #[.map none, .map none, .string ((⟨([] : List (ByteArray × ByteArray)), ([] : List (ByteArray × ByteArray)), m0.twins_, m0.found_, m0.full_, m0.sums_⟩ : mill_Mill).twins_.e0), .string ((⟨([] : List (ByteArray × ByteArray)), ([] : List (ByteArray × ByteArray)), m0.twins_, m0.found_, m0.full_, m0.sums_⟩ : mill_Mill).twins_.e1), .bool ((⟨([] : List (ByteArray × ByteArray)), ([] : List (ByteArray × ByteArray)), m0.twins_, m0.found_, m0.full_, m0.sums_⟩ : mill_Mill).found_), .bool ((⟨([] : List (ByteArray × ByteArray)), ([] : List (ByteArray × ByteArray)), m0.twins_, m0.found_, m0.full_, m0.sums_⟩ : mill_Mill).full_), .int .i64 ((⟨([] : List (ByteArray × ByteArray)), ([] : List (ByteArray × ByteArray)), m0.twins_, m0.found_, m0.full_, m0.sums_⟩ : mill_Mill).sums_)] 50] ++ F0) w) ?_ ?_
  · refine cw_seq ?_
    refine cw_region ?_
    refine ow_vals 1 (j := 1) [0, 1, 2, 3, 11] [(0, .pointer (some ⟨b0, 0, none⟩)), (1, .string x1), (2, .string x2), (3, .int .i64 x3), (11, .pointer (some ⟨b0, 0, none⟩))] rfl (by kernel_rfl) ?_
    obtain ⟨r22, h23, hF⟩ := bind_some hF
    refine ow_pw rfl (pw_call (F := [] ++ F0) rfl rfl rfl rfl rfl rfl rfl (by kernel_rfl) (perm_of_pulls [0, 0] rfl) (c_mill_Mill_none_2 _ (⟨([] : List (ByteArray × ByteArray)), ([] : List (ByteArray × ByteArray)), m0.twins_, m0.found_, m0.full_, m0.sums_⟩ : mill_Mill) b0 r22 h23) ?_)
    rintro _ _ ⟨rfl, rfl⟩
    refine nw_H (H' := [imm I, pt b0 #[.map none, .map none, .string ((⟨([] : List (ByteArray × ByteArray)), ([] : List (ByteArray × ByteArray)), m0.twins_, m0.found_, m0.full_, m0.sums_⟩ : mill_Mill).twins_.e0), .string ((⟨([] : List (ByteArray × ByteArray)), ([] : List (ByteArray × ByteArray)), m0.twins_, m0.found_, m0.full_, m0.sums_⟩ : mill_Mill).twins_.e1), .bool ((⟨([] : List (ByteArray × ByteArray)), ([] : List (ByteArray × ByteArray)), m0.twins_, m0.found_, m0.full_, m0.sums_⟩ : mill_Mill).found_), .bool ((⟨([] : List (ByteArray × ByteArray)), ([] : List (ByteArray × ByteArray)), m0.twins_, m0.found_, m0.full_, m0.sums_⟩ : mill_Mill).full_), .int .i64 ((⟨([] : List (ByteArray × ByteArray)), ([] : List (ByteArray × ByteArray)), m0.twins_, m0.found_, m0.full_, m0.sums_⟩ : mill_Mill).sums_)] 50] ++ F0) rfl (nw_ow ?_)
    refine ow_vals 1 (j := 3) [0, 1, 2, 3, 13] [(0, .pointer (some ⟨b0, 0, none⟩)), (1, .string x1), (2, .string x2), (3, .int .i64 x3), (13, .bool r22)] rfl (by kernel_rfl) ?_
    rcases if_some hF with ⟨h24, hF⟩ | ⟨h24, hF⟩
    · refine ow_slots (L' := [(0, .pointer (some ⟨b0, 0, none⟩)), (1, .string x1), (2, .string x2), (3, .int .i64 x3), (13, .bool true)]) (by rw [h24]) ?_
      refine ow_vals 3 (j := 6) [0, 1, 2, 3, 16] [(0, .pointer (some ⟨b0, 0, none⟩)), (1, .string x1), (2, .string x2), (3, .int .i64 x3), (16, .bool true)] rfl (by kernel_rfl) ?_
      refine ow_end rfl ?_
      refine ew_then ?_
      refine cw_cond_t rfl rfl rfl ?_
      refine cw_seq ?_
      refine cw_region ?_
      refine ow_vals 1 (j := 1) [8] [(8, .string (ByteArray.mk #[]))] rfl (by kernel_rfl) ?_
      refine ow_end rfl ?_
      refine ew_then ?_
      refine cw_ret ?_
      refine ew_then_ret ?_
      have hR := Option.some.inj hF
      subst hR
      have hR := hK21
      try dsimp only [Thru] at hR
      subst hR
      exact fin1 (H1 := [imm I, pt b0 #[.map none, .map none, .string (((⟨([] : List (ByteArray × ByteArray)), ([] : List (ByteArray × ByteArray)), (⟨([] : List (ByteArray × ByteArray)), ([] : List (ByteArray × ByteArray)), m0.twins_, m0.found_, m0.full_, m0.sums_⟩ : mill_Mill).twins_, (⟨([] : List (ByteArray × ByteArray)), ([] : List (ByteArray × ByteArray)), m0.twins_, m0.found_, m0.full_, m0.sums_⟩ : mill_Mill).found_, (⟨([] : List (ByteArray × ByteArray)), ([] : List (ByteArray × ByteArray)), m0.twins_, m0.found_, m0.full_, m0.sums_⟩ : mill_Mill).full_, (⟨([] : List (ByteArray × ByteArray)), ([] : List (ByteArray × ByteArray)), m0.twins_, m0.found_, m0.full_, m0.sums_⟩ : mill_Mill).sums_⟩ : mill_Mill).twins_).e0), .string (((⟨([] : List (ByteArray × ByteArray)), ([] : List (ByteArray × ByteArray)), (⟨([] : List (ByteArray × ByteArray)), ([] : List (ByteArray × ByteArray)), m0.twins_, m0.found_, m0.full_, m0.sums_⟩ : mill_Mill).twins_, (⟨([] : List (ByteArray × ByteArray)), ([] : List (ByteArray × ByteArray)), m0.twins_, m0.found_, m0.full_, m0.sums_⟩ : mill_Mill).found_, (⟨([] : List (ByteArray × ByteArray)), ([] : List (ByteArray × ByteArray)), m0.twins_, m0.found_, m0.full_, m0.sums_⟩ : mill_Mill).full_, (⟨([] : List (ByteArray × ByteArray)), ([] : List (ByteArray × ByteArray)), m0.twins_, m0.found_, m0.full_, m0.sums_⟩ : mill_Mill).sums_⟩ : mill_Mill).twins_).e1), .bool ((⟨([] : List (ByteArray × ByteArray)), ([] : List (ByteArray × ByteArray)), (⟨([] : List (ByteArray × ByteArray)), ([] : List (ByteArray × ByteArray)), m0.twins_, m0.found_, m0.full_, m0.sums_⟩ : mill_Mill).twins_, (⟨([] : List (ByteArray × ByteArray)), ([] : List (ByteArray × ByteArray)), m0.twins_, m0.found_, m0.full_, m0.sums_⟩ : mill_Mill).found_, (⟨([] : List (ByteArray × ByteArray)), ([] : List (ByteArray × ByteArray)), m0.twins_, m0.found_, m0.full_, m0.sums_⟩ : mill_Mill).full_, (⟨([] : List (ByteArray × ByteArray)), ([] : List (ByteArray × ByteArray)), m0.twins_, m0.found_, m0.full_, m0.sums_⟩ : mill_Mill).sums_⟩ : mill_Mill).found_), .bool ((⟨([] : List (ByteArray × ByteArray)), ([] : List (ByteArray × ByteArray)), (⟨([] : List (ByteArray × ByteArray)), ([] : List (ByteArray × ByteArray)), m0.twins_, m0.found_, m0.full_, m0.sums_⟩ : mill_Mill).twins_, (⟨([] : List (ByteArray × ByteArray)), ([] : List (ByteArray × ByteArray)), m0.twins_, m0.found_, m0.full_, m0.sums_⟩ : mill_Mill).found_, (⟨([] : List (ByteArray × ByteArray)), ([] : List (ByteArray × ByteArray)), m0.twins_, m0.found_, m0.full_, m0.sums_⟩ : mill_Mill).full_, (⟨([] : List (ByteArray × ByteArray)), ([] : List (ByteArray × ByteArray)), m0.twins_, m0.found_, m0.full_, m0.sums_⟩ : mill_Mill).sums_⟩ : mill_Mill).full_), .int .i64 ((⟨([] : List (ByteArray × ByteArray)), ([] : List (ByteArray × ByteArray)), (⟨([] : List (ByteArray × ByteArray)), ([] : List (ByteArray × ByteArray)), m0.twins_, m0.found_, m0.full_, m0.sums_⟩ : mill_Mill).twins_, (⟨([] : List (ByteArray × ByteArray)), ([] : List (ByteArray × ByteArray)), m0.twins_, m0.found_, m0.full_, m0.sums_⟩ : mill_Mill).found_, (⟨([] : List (ByteArray × ByteArray)), ([] : List (ByteArray × ByteArray)), m0.twins_, m0.found_, m0.full_, m0.sums_⟩ : mill_Mill).full_, (⟨([] : List (ByteArray × ByteArray)), ([] : List (ByteArray × ByteArray)), m0.twins_, m0.found_, m0.full_, m0.sums_⟩ : mill_Mill).sums_⟩ : mill_Mill).sums_)] 50]) (fun w hs => sat_to [0, 0] 0 rfl hs) rfl (rr_tmp rfl) ⟨rfl, rfl⟩
    · refine ow_slots (L' := [(0, .pointer (some ⟨b0, 0, none⟩)), (1, .string x1), (2, .string x2), (3, .int .i64 x3), (13, .bool false)]) (by rw [h24]) ?_
      refine ow_vals 3 (j := 6) [0, 1, 2, 3, 16] [(0, .pointer (some ⟨b0, 0, none⟩)), (1, .string x1), (2, .string x2), (3, .int .i64 x3), (16, .bool (decide (x3 < 1)))] rfl (by kernel_rfl) ?_
      refine ow_end rfl ?_
      refine ew_then ?_
      rcases if_some hF with ⟨h25, hF⟩ | ⟨h25, hF⟩
      · refine cw_cond_t rfl rfl h25 ?_
        refine cw_seq ?_
        refine cw_region ?_
        refine ow_vals 1 (j := 1) [8] [(8, .string (ByteArray.mk #[]))] rfl (by kernel_rfl) ?_
        refine ow_end rfl ?_
        refine ew_then ?_
        refine cw_ret ?_
        refine ew_then_ret ?_
        have hR := Option.some.inj hF
        subst hR
        have hR := hK21
        try dsimp only [Thru] at hR
        subst hR
        exact fin1 (H1 := [imm I, pt b0 #[.map none, .map none, .string (((⟨([] : List (ByteArray × ByteArray)), ([] : List (ByteArray × ByteArray)), (⟨([] : List (ByteArray × ByteArray)), ([] : List (ByteArray × ByteArray)), m0.twins_, m0.found_, m0.full_, m0.sums_⟩ : mill_Mill).twins_, (⟨([] : List (ByteArray × ByteArray)), ([] : List (ByteArray × ByteArray)), m0.twins_, m0.found_, m0.full_, m0.sums_⟩ : mill_Mill).found_, (⟨([] : List (ByteArray × ByteArray)), ([] : List (ByteArray × ByteArray)), m0.twins_, m0.found_, m0.full_, m0.sums_⟩ : mill_Mill).full_, (⟨([] : List (ByteArray × ByteArray)), ([] : List (ByteArray × ByteArray)), m0.twins_, m0.found_, m0.full_, m0.sums_⟩ : mill_Mill).sums_⟩ : mill_Mill).twins_).e0), .string (((⟨([] : List (ByteArray × ByteArray)), ([] : List (ByteArray × ByteArray)), (⟨([] : List (ByteArray × ByteArray)), ([] : List (ByteArray × ByteArray)), m0.twins_, m0.found_, m0.full_, m0.sums_⟩ : mill_Mill).twins_, (⟨([] : List (ByteArray × ByteArray)), ([] : List (ByteArray × ByteArray)), m0.twins_, m0.found_, m0.full_, m0.sums_⟩ : mill_Mill).found_, (⟨([] : List (ByteArray × ByteArray)), ([] : List (ByteArray × ByteArray)), m0.twins_, m0.found_, m0.full_, m0.sums_⟩ : mill_Mill).full_, (⟨([] : List (ByteArray × ByteArray)), ([] : List (ByteArray × ByteArray)), m0.twins_, m0.found_, m0.full_, m0.sums_⟩ : mill_Mill).sums_⟩ : mill_Mill).twins_).e1), .bool ((⟨([] : List (ByteArray × ByteArray)), ([] : List (ByteArray × ByteArray)), (⟨([] : List (ByteArray × ByteArray)), ([] : List (ByteArray × ByteArray)), m0.twins_, m0.found_, m0.full_, m0.sums_⟩ : mill_Mill).twins_, (⟨([] : List (ByteArray × ByteArray)), ([] : List (ByteArray × ByteArray)), m0.twins_, m0.found_, m0.full_, m0.sums_⟩ : mill_Mill).found_, (⟨([] : List (ByteArray × ByteArray)), ([] : List (ByteArray × ByteArray)), m0.twins_, m0.found_, m0.full_, m0.sums_⟩ : mill_Mill).full_, (⟨([] : List (ByteArray × ByteArray)), ([] : List (ByteArray × ByteArray)), m0.twins_, m0.found_, m0.full_, m0.sums_⟩ : mill_Mill).sums_⟩ : mill_Mill).found_), .bool ((⟨([] : List (ByteArray × ByteArray)), ([] : List (ByteArray × ByteArray)), (⟨([] : List (ByteArray × ByteArray)), ([] : List (ByteArray × ByteArray)), m0.twins_, m0.found_, m0.full_, m0.sums_⟩ : mill_Mill).twins_, (⟨([] : List (ByteArray × ByteArray)), ([] : List (ByteArray × ByteArray)), m0.twins_, m0.found_, m0.full_, m0.sums_⟩ : mill_Mill).found_, (⟨([] : List (ByteArray × ByteArray)), ([] : List (ByteArray × ByteArray)), m0.twins_, m0.found_, m0.full_, m0.sums_⟩ : mill_Mill).full_, (⟨([] : List (ByteArray × ByteArray)), ([] : List (ByteArray × ByteArray)), m0.twins_, m0.found_, m0.full_, m0.sums_⟩ : mill_Mill).sums_⟩ : mill_Mill).full_), .int .i64 ((⟨([] : List (ByteArray × ByteArray)), ([] : List (ByteArray × ByteArray)), (⟨([] : List (ByteArray × ByteArray)), ([] : List (ByteArray × ByteArray)), m0.twins_, m0.found_, m0.full_, m0.sums_⟩ : mill_Mill).twins_, (⟨([] : List (ByteArray × ByteArray)), ([] : List (ByteArray × ByteArray)), m0.twins_, m0.found_, m0.full_, m0.sums_⟩ : mill_Mill).found_, (⟨([] : List (ByteArray × ByteArray)), ([] : List (ByteArray × ByteArray)), m0.twins_, m0.found_, m0.full_, m0.sums_⟩ : mill_Mill).full_, (⟨([] : List (ByteArray × ByteArray)), ([] : List (ByteArray × ByteArray)), m0.twins_, m0.found_, m0.full_, m0.sums_⟩ : mill_Mill).sums_⟩ : mill_Mill).sums_)] 50]) (fun w hs => sat_to [0, 0] 0 rfl hs) rfl (rr_tmp rfl) ⟨rfl, rfl⟩
      · refine cw_cond_f rfl rfl h25 ?_
        refine cw_skip ?_
        have hR := Option.some.inj hF
        exact fun a w hf hs => ⟨hR, hf.keep [0, 1, 2, 3], sat_to [0, 0] 0 rfl hs⟩
  · rintro a w ⟨hv, hf, hs⟩
    subst hv
    replace hF := hK21
    clear hK21
    try dsimp only [Thru] at hF
    revert a w
    show CW _ _ _ 38 [(0, .pointer (some ⟨b0, 0, none⟩)), (1, .string x1), (2, .string x2), (3, .int .i64 x3)] (SAT w0 ([imm I, pt b0 #[.map none, .map none, .string ((⟨([] : List (ByteArray × ByteArray)), ([] : List (ByteArray × ByteArray)), m0.twins_, m0.found_, m0.full_, m0.sums_⟩ : mill_Mill).twins_.e0), .string ((⟨([] : List (ByteArray × ByteArray)), ([] : List (ByteArray × ByteArray)), m0.twins_, m0.found_, m0.full_, m0.sums_⟩ : mill_Mill).twins_.e1), .bool ((⟨([] : List (ByteArray × ByteArray)), ([] : List (ByteArray × ByteArray)), m0.twins_, m0.found_, m0.full_, m0.sums_⟩ : mill_Mill).found_), .bool ((⟨([] : List (ByteArray × ByteArray)), ([] : List (ByteArray × ByteArray)), m0.twins_, m0.found_, m0.full_, m0.sums_⟩ : mill_Mill).full_), .int .i64 ((⟨([] : List (ByteArray × ByteArray)), ([] : List (ByteArray × ByteArray)), m0.twins_, m0.found_, m0.full_, m0.sums_⟩ : mill_Mill).sums_)] 50] ++ F0))
    unfold F.mill_Mill_Stream_1.r1 at hF
    refine cw_seq ?_
    refine cw_region ?_
    refine ow_pw rfl (pw_alloc (cs := #[.pointer none, .slice none 0 0]) rfl rfl rfl rfl rfl (by kernel_rfl) fun b26 => nw_state (S' := SAT w0 ([bld 58 5 b26 ByteArray.empty, imm I, pt b0 #[.map none, .map none, .string ((⟨([] : List (ByteArray × ByteArray)), ([] : List (ByteArray × ByteArray)), m0.twins_, m0.found_, m0.full_, m0.sums_⟩ : mill_Mill).twins_.e0), .string ((⟨([] : List (ByteArray × ByteArray)), ([] : List (ByteArray × ByteArray)), m0.twins_, m0.found_, m0.full_, m0.sums_⟩ : mill_Mill).twins_.e1), .bool ((⟨([] : List (ByteArray × ByteArray)), ([] : List (ByteArray × ByteArray)), m0.twins_, m0.found_, m0.full_, m0.sums_⟩ : mill_Mill).found_), .bool ((⟨([] : List (ByteArray × ByteArray)), ([] : List (ByteArray × ByteArray)), m0.twins_, m0.found_, m0.full_, m0.sums_⟩ : mill_Mill).full_), .int .i64 ((⟨([] : List (ByteArray × ByteArray)), ([] : List (ByteArray × ByteArray)), m0.twins_, m0.found_, m0.full_, m0.sums_⟩ : mill_Mill).sums_)] 50] ++ F0)) (fun w hs => bld_new hs) (nw_ow ?_))
    refine ow_end rfl ?_
    refine ew_then ?_
    obtain ⟨v28, hF, hK28⟩ := bind_some hF
    refine cw_mid (fun a w => ∃ (m47 : ByteArray), ∃ (s48 : ByteArray), ∃ (s49 : ByteArray), ∃ (x50 : Bool), ∃ (x51 : Bool), ∃ (x52 : Int), (m47, s48, s49, x50, x51, x52) = v28 ∧ Fr 38 [(3, .int .i64 x3), (9, .pointer (some ⟨b26, 0, none⟩))] a ∧ SAT w0 ([imm I, bld 58 5 b26 m47, pt b0 #[.map none, .map none, .string s48, .string s49, .bool x50, .bool x51, .int .i64 x52] 50] ++ F0) w) ?_ ?_
    · refine cw_seq ?_
      refine cw_region ?_
      refine ow_vals 1 (j := 1) [0, 1, 2, 3, 9, 10] [(0, .pointer (some ⟨b0, 0, none⟩)), (1, .string x1), (2, .string x2), (3, .int .i64 x3), (9, .pointer (some ⟨b26, 0, none⟩)), (10, .int .i64 0)] rfl (by kernel_rfl) ?_
      refine ow_end rfl ?_
      refine ew_then ?_
      refine cw_block ?_
      refine fun a w hf hs => wp_rounds (fun k a w => ∃ (x30 : Int), ∃ (m31 : ByteArray), ∃ (s32 : ByteArray), ∃ (s33 : ByteArray), ∃ (x34 : Bool), ∃ (x35 : Bool), ∃ (x36 : Int), iter (fun x => F.mill_Mill_Stream_1.l2 x1 x2 x3 x.1 x.2.1 x.2.2.1 x.2.2.2.1 x.2.2.2.2.1 x.2.2.2.2.2.1 x.2.2.2.2.2.2) k (x30, m31, s32, s33, x34, x35, x36) = some v28 ∧ Fr 38 [(0, .pointer (some ⟨b0, 0, none⟩)), (1, .string x1), (2, .string x2), (3, .int .i64 x3), (9, .pointer (some ⟨b26, 0, none⟩)), (10, .int .i64 x30)] a ∧ SAT w0 ([imm I, bld 58 5 b26 m31, pt b0 #[.map none, .map none, .string s32, .string s33, .bool x34, .bool x35, .int .i64 x36] 50] ++ F0) w) ?_ FUEL a w ⟨0, ByteArray.empty, (⟨([] : List (ByteArray × ByteArray)), ([] : List (ByteArray × ByteArray)), m0.twins_, m0.found_, m0.full_, m0.sums_⟩ : mill_Mill).twins_.e0, (⟨([] : List (ByteArray × ByteArray)), ([] : List (ByteArray × ByteArray)), m0.twins_, m0.found_, m0.full_, m0.sums_⟩ : mill_Mill).twins_.e1, (⟨([] : List (ByteArray × ByteArray)), ([] : List (ByteArray × ByteArray)), m0.twins_, m0.found_, m0.full_, m0.sums_⟩ : mill_Mill).found_, (⟨([] : List (ByteArray × ByteArray)), ([] : List (ByteArray × ByteArray)), m0.twins_, m0.found_, m0.full_, m0.sums_⟩ : mill_Mill).full_, (⟨([] : List (ByteArray × ByteArray)), ([] : List (ByteArray × ByteArray)), m0.twins_, m0.found_, m0.full_, m0.sums_⟩ : mill_Mill).sums_, hF, hf.keep [0, 1, 2, 3, 9, 10], sat_to [1, 0, 0] 0 rfl hs⟩
      clear hf hs
      clear a w hF
      rintro k a w ⟨x30, m31, s32, s33, x34, x35, x36, hF2, hf, hs⟩
      obtain ⟨k, r29, rfl, hF, hL29⟩ := iter_some hF2
      clear hF2
      revert a w
      show CW _ _ _ 38 [(0, .pointer (some ⟨b0, 0, none⟩)), (1, .string x1), (2, .string x2), (3, .int .i64 x3), (9, .pointer (some ⟨b26, 0, none⟩)), (10, .int .i64 x30)] (SAT w0 ([imm I, bld 58 5 b26 m31, pt b0 #[.map none, .map none, .string s32, .string s33, .bool x34, .bool x35, .int .i64 x36] 50] ++ F0))
      try dsimp only at hF
      unfold F.mill_Mill_Stream_1.l2 at hF
      refine cw_seq ?_
      refine cw_seq ?_
      refine cw_region ?_
      obtain ⟨r37, h38, hF⟩ := bind_some hF
      refine ow_pw rfl (pw_call (F := [pt b0 #[.map none, .map none, .string s32, .string s33, .bool x34, .bool x35, .int .i64 x36] 50] ++ F0) rfl rfl rfl rfl rfl rfl rfl (by kernel_rfl) (perm_of_pulls [0, 0] rfl) (c_strings_Builder_Len _ m31 b26 r37 h38) ?_)
      rintro _ _ ⟨rfl, rfl⟩
      refine nw_H (H' := [imm I, bld 58 5 b26 m31, pt b0 #[.map none, .map none, .string s32, .string s33, .bool x34, .bool x35, .int .i64 x36] 50] ++ F0) rfl (nw_ow ?_)
      refine ow_vals 2 (j := 3) [0, 1, 2, 3, 9, 10, 19] [(0, .pointer (some ⟨b0, 0, none⟩)), (1, .string x1), (2, .string x2), (3, .int .i64 x3), (9, .pointer (some ⟨b26, 0, none⟩)), (10, .int .i64 x30), (19, .bool (decide (r37 < x3)))] rfl (by kernel_rfl) ?_
      refine ow_end rfl ?_
      refine ew_then ?_
      rcases if_some hF with ⟨h39, hF⟩ | ⟨h39, hF⟩
      · refine cw_cond_t rfl rfl h39 ?_
        refine cw_skip ?_
        refine ew_then ?_
        refine cw_seq ?_
        refine cw_block ?_
        refine cw_region ?_
        refine ow_vals 8 (j := 8) [0, 1, 2, 3, 9, 10, 22, 23, 24, 27, 29] [(0, .pointer (some ⟨b0, 0, none⟩)), (1, .string x1), (2, .string x2), (3, .int .i64 x3), (9, .pointer (some ⟨b26, 0, none⟩)), (10, .int .i64 x30), (22, .pointer (some ⟨b0, 0, none⟩)), (23, .string x1), (24, .string x2), (27, .int .u8 (IntKind.u8.wrap (x30.fdiv (2 ^ 8)))), (29, .int .u8 (IntKind.u8.wrap (x30)))] rfl (by kernel_rfl) ?_
        refine ow_pw rfl (pw_buildSlice (E := 5) (eInt .u8) ([IntKind.u8.wrap (x30.fdiv (2 ^ 8)), IntKind.u8.wrap (x30)] : List Int) rfl rfl rfl rfl rfl (by kernel_rfl) rfl (by kernel_rfl) rfl (by decide) rfl fun p40 => nw_ow ?_)
        refine ow_pw rfl (pw_quiet (v := .string (bstr ([IntKind.u8.wrap (x30.fdiv (2 ^ 8)), IntKind.u8.wrap (x30)] : List Int))) rfl rfl rfl rfl (q_bytes_str_own 0 rfl rfl (by kernel_rfl) (by kernel_rfl) rfl) (nw_ow ?_))
        obtain ⟨h42, hF⟩ := chk_some hF
        refine ow_pw rfl (pw_quiet (v := .string (x2 ++ (bstr ([IntKind.u8.wrap (x30.fdiv (2 ^ 8)), IntKind.u8.wrap (x30)] : List Int)))) rfl rfl rfl rfl (q_concat rfl rfl rfl h42) (nw_ow ?_))
        obtain ⟨r43, h44, hF⟩ := bind_some hF
        refine ow_pw rfl (pw_call (F := [own (eInt .u8) 5 p40 2 ([IntKind.u8.wrap (x30.fdiv (2 ^ 8)), IntKind.u8.wrap (x30)] : List Int), bld 58 5 b26 m31] ++ F0) rfl rfl rfl rfl rfl rfl rfl (by kernel_rfl) (perm_of_pulls [1, 2] rfl) (c_mill_Mill_Tag_2 _ x1 (x2 ++ (bstr ([IntKind.u8.wrap (x30.fdiv (2 ^ 8)), IntKind.u8.wrap (x30)] : List Int))) (⟨([] : List (ByteArray × ByteArray)), ([] : List (ByteArray × ByteArray)), (⟨s32, s33⟩ : A2_ByteArray), x34, x35, x36⟩ : mill_Mill) b0 r43 h44) ?_)
        rintro _ _ ⟨rfl, rfl⟩
        refine nw_H (H' := [imm I, pt b0 #[.map none, .map none, .string r43.2.twins_.e0, .string r43.2.twins_.e1, .bool r43.2.found_, .bool r43.2.full_, .int .i64 r43.2.sums_] 50, own (eInt .u8) 5 p40 2 ([IntKind.u8.wrap (x30.fdiv (2 ^ 8)), IntKind.u8.wrap (x30)] : List Int), bld 58 5 b26 m31] ++ F0) rfl (nw_ow ?_)
        obtain ⟨r45, h46, hF⟩ := bind_some hF
        refine ow_pw rfl (pw_call (F := [pt b0 #[.map none, .map none, .string r43.2.twins_.e0, .string r43.2.twins_.e1, .bool r43.2.found_, .bool r43.2.full_, .int .i64 r43.2.sums_] 50, own (eInt .u8) 5 p40 2 ([IntKind.u8.wrap (x30.fdiv (2 ^ 8)), IntKind.u8.wrap (x30)] : List Int)] ++ F0) rfl rfl rfl rfl rfl rfl rfl (by kernel_rfl) (perm_of_pulls [0, 2] rfl) (c_strings_Builder_WriteString _ r43.1 m31 b26 r45 h46) ?_)
        rintro _ _ ⟨rfl, rfl⟩
        refine nw_H (H' := [imm I, bld 58 5 b26 r45.2, pt b0 #[.map none, .map none, .string r43.2.twins_.e0, .string r43.2.twins_.e1, .bool r43.2.found_, .bool r43.2.full_, .int .i64 r43.2.sums_] 50, own (eInt .u8) 5 p40 2 ([IntKind.u8.wrap (x30.fdiv (2 ^ 8)), IntKind.u8.wrap (x30)] : List Int)] ++ F0) rfl (nw_ow ?_)
        refine ow_end rfl ?_
        refine ew_blk ?_
        refine ew_then ?_
        refine cw_region ?_
        refine ow_vals 3 (j := 3) [0, 1, 2, 3, 9, 10] [(0, .pointer (some ⟨b0, 0, none⟩)), (1, .string x1), (2, .string x2), (3, .int .i64 x3), (9, .pointer (some ⟨b26, 0, none⟩)), (10, .int .i64 (IntKind.i64.wrap (x30 + 1)))] rfl (by kernel_rfl) ?_
        refine ow_end rfl ?_
        have hR := Option.some.inj hF
        subst hR
        have hR := hL29
        try dsimp only at hR
        exact fun a w hf hs => ⟨k, Nat.lt_succ_self k, IntKind.i64.wrap (x30 + 1), r45.2, r43.2.twins_.e0, r43.2.twins_.e1, r43.2.found_, r43.2.full_, r43.2.sums_, hR, hf.keep [0, 1, 2, 3, 9, 10], sat_to [3, 0, 0, 0] 1 rfl hs⟩
      · refine cw_cond_f rfl rfl h39 ?_
        refine cw_exit ?_
        refine ew_then_exit ?_
        refine ew_then_exit ?_
        refine ew_blk_exit ?_
        have hR := Option.some.inj hF
        subst hR
        have hR := hL29
        try dsimp only at hR
        exact fun a w hf hs => ⟨m31, s32, s33, x34, x35, x36, hR, hf.keep [3, 9], sat_to [0, 0, 0] 0 rfl hs⟩
    · rintro a w ⟨m47, s48, s49, x50, x51, x52, hv, hf, hs⟩
      subst hv
      replace hF := hK28
      clear hK28
      try dsimp only at hF
      revert a w
      show CW _ _ _ 38 [(3, .int .i64 x3), (9, .pointer (some ⟨b26, 0, none⟩))] (SAT w0 ([imm I, bld 58 5 b26 m47, pt b0 #[.map none, .map none, .string s48, .string s49, .bool x50, .bool x51, .int .i64 x52] 50] ++ F0))
      unfold F.mill_Mill_Stream_1.r3 at hF
      refine cw_seq ?_
      refine cw_region ?_
      obtain ⟨r53, h54, hF⟩ := bind_some hF
      refine ow_pw rfl (pw_call (F := [pt b0 #[.map none, .map none, .string s48, .string s49, .bool x50, .bool x51, .int .i64 x52] 50] ++ F0) rfl rfl rfl rfl rfl rfl rfl (by kernel_rfl) (perm_of_pulls [0, 0] rfl) (c_strings_Builder_String _ m47 b26 r53 h54) ?_)
      rintro _ _ ⟨rfl, rfl⟩
      refine nw_H (H' := [imm I, pt b0 #[.map none, .map none, .string s48, .string s49, .bool x50, .bool x51, .int .i64 x52] 50] ++ F0) rfl (nw_ow ?_)
      refine ow_vals 1 (j := 2) [35, 36] [(35, .string r53), (36, .int .i64 x3)] rfl (by kernel_rfl) ?_
      obtain ⟨h55, hF⟩ := chk_some hF
      refine ow_pw rfl (pw_quiet (v := .string (r53.extract (0 : Int).toNat x3.toNat)) rfl rfl rfl rfl (q_slice_str rfl (by kernel_rfl) rfl rfl rfl h55.1 h55.2.1 h55.2.2) (nw_ow ?_))
      refine ow_vals 1 (j := 4) [8] [(8, .string (r53.extract (0 : Int).toNat x3.toNat))] rfl (by kernel_rfl) ?_
      refine ow_end rfl ?_
      refine ew_then ?_
      refine cw_ret ?_
      have hR := Option.some.inj hF
      subst hR
      exact fin1 (H1 := [imm I, pt b0 #[.map none, .map none, .string (((⟨([] : List (ByteArray × ByteArray)), ([] : List (ByteArray × ByteArray)), (⟨s48, s49⟩ : A2_ByteArray), x50, x51, x52⟩ : mill_Mill).twins_).e0), .string (((⟨([] : List (ByteArray × ByteArray)), ([] : List (ByteArray × ByteArray)), (⟨s48, s49⟩ : A2_ByteArray), x50, x51, x52⟩ : mill_Mill).twins_).e1), .bool ((⟨([] : List (ByteArray × ByteArray)), ([] : List (ByteArray × ByteArray)), (⟨s48, s49⟩ : A2_ByteArray), x50, x51, x52⟩ : mill_Mill).found_), .bool ((⟨([] : List (ByteArray × ByteArray)), ([] : List (ByteArray × ByteArray)), (⟨s48, s49⟩ : A2_ByteArray), x50, x51, x52⟩ : mill_Mill).full_), .int .i64 ((⟨([] : List (ByteArray × ByteArray)), ([] : List (ByteArray × ByteArray)), (⟨s48, s49⟩ : A2_ByteArray), x50, x51, x52⟩ : mill_Mill).sums_)] 50]) (fun w hs => sat_to [0, 0] 0 rfl hs) rfl (rr_tmp rfl) ⟨rfl, rfl⟩


def F.mill_Mill_Stream_2.l2 (x1 : ByteArray) (x2 : ByteArray) (x3 : Int) (x30 : Int) (m31 : ByteArray) : Option ((Int × ByteArray) ⊕ (ByteArray)) :=
  Option.bind (F.strings_Builder_Len m31) (fun (r32 : Int) => if decide (r32 < x3) then (chk (x2.size + (bstr ([IntKind.u8.wrap (x30.fdiv (2 ^ 8)), IntKind.u8.wrap (x30)] : List Int)).size ≤ 9223372036854775807) (Option.bind (F.mill_Mill_Tag_1 x1 (x2 ++ (bstr ([IntKind.u8.wrap (x30.fdiv (2 ^ 8)), IntKind.u8.wrap (x30)] : List Int)))) (fun (r38 : ByteArray) => Option.bind (F.strings_Builder_WriteString r38 m31) (fun (r40 : Int × ByteArray) => some (.inl (IntKind.i64.wrap (x30 + 1), r40.2)))))) else (some (.inr (m31))))
def F.mill_Mill_Stream_2.r3 (x3 : Int) (m42 : ByteArray) : Option (ByteArray) :=
  Option.bind (F.strings_Builder_String m42) (fun (r43 : ByteArray) => chk (0 ≤ (0 : Int) ∧ (0 : Int) ≤ x3 ∧ x3 ≤ (r43.size : Int)) (some ((r43.extract (0 : Int).toNat x3.toNat))))
def F.mill_Mill_Stream_2.r1 (x1 : ByteArray) (x2 : ByteArray) (x3 : Int) : Option (ByteArray) :=
  Option.bind (iter (fun x => F.mill_Mill_Stream_2.l2 x1 x2 x3 x.1 x.2) FUEL (0, ByteArray.empty)) (fun x => F.mill_Mill_Stream_2.r3 x3 x)
def F.mill_Mill_Stream_2 (x1 : ByteArray) (x2 : ByteArray) (x3 : Int) : Option ByteArray :=
  thru (Option.bind (F.mill_Mill_none_1) (fun (r22 : Bool) => if r22 then (some (.inr ((ByteArray.mk #[])))) else (if decide (x3 < 1) then (some (.inr ((ByteArray.mk #[])))) else (some (.inl ()))))) (fun x => F.mill_Mill_Stream_2.r1 x1 x2 x3)
set_option maxRecDepth 100000 in
set_option maxHeartbeats 4000000 in
theorem c_mill_Mill_Stream_2 (I : Hl) (x1 : ByteArray) (x2 : ByteArray) (x3 : Int) (res : ByteArray) (hF : F.mill_Mill_Stream_2 x1 x2 x3 = some res) : Tr Try.prog 17 [.pointer none, .string x1, .string x2, .int .i64 x3] [imm I] (fun r H' => r = .string res ∧ H' = [imm I]) := by
  unfold F.mill_Mill_Stream_2 at hF
  refine tr_of_cw (fn := Try.f17) Try.func17 rfl (Nat.le_of_ble_eq_true rfl) 38 rfl fun F0 w0 => ?_
  refine cw_keep [0, 1, 2, 3] (L' := [(0, .pointer none), (1, .string x1), (2, .string x2), (3, .int .i64 x3)]) rfl ?_
  refine cw_state (S' := SAT w0 ([imm I] ++ F0)) (fun w hs => hs) ?_
  refine cw_seq ?_
  refine cw_region ?_
  refine ow_vals 1 (j := 1) [0, 1, 2, 3] [(0, .pointer none), (1, .string x1), (2, .string x2), (3, .int .i64 x3)] rfl (by kernel_rfl) ?_
  refine ow_end rfl ?_
  refine ew_then ?_
  obtain ⟨v21, hF, hK21⟩ := thru_some hF
  refine cw_mid (fun a w => .inl () = v21 ∧ Fr 38 [(0, .pointer none), (1, .string x1), (2, .string x2), (3, .int .i64 x3)] a ∧ SAT w0 ([imm I] ++ F0) w) ?_ ?_
  · refine cw_seq ?_
    refine cw_region ?_
    refine ow_vals 1 (j := 1) [0, 1, 2, 3, 11] [(0, .pointer none), (1, .string x1), (2, .string x2), (3, .int .i64 x3), (11, .pointer none)] rfl (by kernel_rfl) ?_
    obtain ⟨r22, h23, hF⟩ := bind_some hF
    refine ow_pw rfl (pw_call (F := [] ++ F0) rfl rfl rfl rfl rfl rfl rfl (by kernel_rfl) (perm_of_pulls [0] rfl) (c_mill_Mill_none_1 _ r22 h23) ?_)
    rintro _ _ ⟨rfl, rfl⟩
    refine nw_H (H' := [imm I] ++ F0) rfl (nw_ow ?_)
    refine ow_vals 1 (j := 3) [0, 1, 2, 3, 13] [(0, .pointer none), (1, .string x1), (2, .string x2), (3, .int .i64 x3), (13, .bool r22)] rfl (by kernel_rfl) ?_
    rcases if_some hF with ⟨h24, hF⟩ | ⟨h24, hF⟩
    · refine ow_slots (L' := [(0, .pointer none), (1, .string x1), (2, .string x2), (3, .int .i64 x3), (13, .bool true)]) (by rw [h24]) ?_
      refine ow_vals 3 (j := 6) [0, 1, 2, 3, 16] [(0, .pointer none), (1, .string x1), (2, .string x2), (3, .int .i64 x3), (16, .bool true)] rfl (by kernel_rfl) ?_
      refine ow_end rfl ?_
      refine ew_then ?_
      refine cw_cond_t rfl rfl rfl ?_
      refine cw_seq ?_
      refine cw_region ?_
      refine ow_vals 1 (j := 1) [8] [(8, .string (ByteArray.mk #[]))] rfl (by kernel_rfl) ?_
      refine ow_end rfl ?_
      refine ew_then ?_
      refine cw_ret ?_
      refine ew_then_ret ?_
      have hR := Option.some.inj hF
      subst hR
      have hR := hK21
      try dsimp only [Thru] at hR
      subst hR
      exact fin1 (H1 := [imm I]) (fun w hs => sat_to [0] 0 rfl hs) rfl (rr_tmp rfl) ⟨rfl, rfl⟩
    · refine ow_slots (L' := [(0, .pointer none), (1, .string x1), (2, .string x2), (3, .int .i64 x3), (13, .bool false)]) (by rw [h24]) ?_
      refine ow_vals 3 (j := 6) [0, 1, 2, 3, 16] [(0, .pointer none), (1, .string x1), (2, .string x2), (3, .int .i64 x3), (16, .bool (decide (x3 < 1)))] rfl (by kernel_rfl) ?_
      refine ow_end rfl ?_
      refine ew_then ?_
      rcases if_some hF with ⟨h25, hF⟩ | ⟨h25, hF⟩
      · refine cw_cond_t rfl rfl h25 ?_
        refine cw_seq ?_
        refine cw_region ?_
        refine ow_vals 1 (j := 1) [8] [(8, .string (ByteArray.mk #[]))] rfl (by kernel_rfl) ?_
        refine ow_end rfl ?_
        refine ew_then ?_
        refine cw_ret ?_
        refine ew_then_ret ?_
        have hR := Option.some.inj hF
        subst hR
        have hR := hK21
        try dsimp only [Thru] at hR
        subst hR
        exact fin1 (H1 := [imm I]) (fun w hs => sat_to [0] 0 rfl hs) rfl (rr_tmp rfl) ⟨rfl, rfl⟩
      · refine cw_cond_f rfl rfl h25 ?_
        refine cw_skip ?_
        have hR := Option.some.inj hF
        exact fun a w hf hs => ⟨hR, hf.keep [0, 1, 2, 3], sat_to [0] 0 rfl hs⟩
  · rintro a w ⟨hv, hf, hs⟩
    subst hv
    replace hF := hK21
    clear hK21
    try dsimp only [Thru] at hF
    revert a w
    show CW _ _ _ 38 [(0, .pointer none), (1, .string x1), (2, .string x2), (3, .int .i64 x3)] (SAT w0 ([imm I] ++ F0))
    unfold F.mill_Mill_Stream_2.r1 at hF
    refine cw_seq ?_
    refine cw_region ?_
    refine ow_pw rfl (pw_alloc (cs := #[.pointer none, .slice none 0 0]) rfl rfl rfl rfl rfl (by kernel_rfl) fun b26 => nw_state (S' := SAT w0 ([bld 58 5 b26 ByteArray.empty, imm I] ++ F0)) (fun w hs => bld_new hs) (nw_ow ?_))
    refine ow_end rfl ?_
    refine ew_then ?_
    obtain ⟨v28, hF, hK28⟩ := bind_some hF
    refine cw_mid (fun a w => ∃ (m42 : ByteArray), m42 = v28 ∧ Fr 38 [(3, .int .i64 x3), (9, .pointer (some ⟨b26, 0, none⟩))] a ∧ SAT w0 ([imm I, bld 58 5 b26 m42] ++ F0) w) ?_ ?_
    · refine cw_seq ?_
      refine cw_region ?_
      refine ow_vals 1 (j := 1) [0, 1, 2, 3, 9, 10] [(0, .pointer none), (1, .string x1), (2, .string x2), (3, .int .i64 x3), (9, .pointer (some ⟨b26, 0, none⟩)), (10, .int .i64 0)] rfl (by kernel_rfl) ?_
      refine ow_end rfl ?_
      refine ew_then ?_
      refine cw_block ?_
      refine fun a w hf hs => wp_rounds (fun k a w => ∃ (x30 : Int), ∃ (m31 : ByteArray), iter (fun x => F.mill_Mill_Stream_2.l2 x1 x2 x3 x.1 x.2) k (x30, m31) = some v28 ∧ Fr 38 [(0, .pointer none), (1, .string x1), (2, .string x2), (3, .int .i64 x3), (9, .pointer (some ⟨b26, 0, none⟩)), (10, .int .i64 x30)] a ∧ SAT w0 ([imm I, bld 58 5 b26 m31] ++ F0) w) ?_ FUEL a w ⟨0, ByteArray.empty, hF, hf.keep [0, 1, 2, 3, 9, 10], sat_to [1, 0] 0 rfl hs⟩
      clear hf hs
      clear a w hF
      rintro k a w ⟨x30, m31, hF2, hf, hs⟩
      obtain ⟨k, r29, rfl, hF, hL29⟩ := iter_some hF2
      clear hF2
      revert a w
      show CW _ _ _ 38 [(0, .pointer none), (1, .string x1), (2, .string x2), (3, .int .i64 x3), (9, .pointer (some ⟨b26, 0, none⟩)), (10, .int .i64 x30)] (SAT w0 ([imm I, bld 58 5 b26 m31] ++ F0))
      try dsimp only at hF
      unfold F.mill_Mill_Stream_2.l2 at hF
      refine cw_seq ?_
      refine cw_seq ?_
      refine cw_region ?_
      obtain ⟨r32, h33, hF⟩ := bind_some hF
      refine ow_pw rfl (pw_call (F := [] ++ F0) rfl rfl rfl rfl rfl rfl rfl (by kernel_rfl) (perm_of_pulls [0, 0] rfl) (c_strings_Builder_Len _ m31 b26 r32 h33) ?_)
      rintro _ _ ⟨rfl, rfl⟩
      refine nw_H (H' := [imm I, bld 58 5 b26 m31] ++ F0) rfl (nw_ow ?_)
      refine ow_vals 2 (j := 3) [0, 1, 2, 3, 9, 10, 19] [(0, .pointer none), (1, .string x1), (2, .string x2), (3, .int .i64 x3), (9, .pointer (some ⟨b26, 0, none⟩)), (10, .int .i64 x30), (19, .bool (decide (r32 < x3)))] rfl (by kernel_rfl) ?_
      refine ow_end rfl ?_
      refine ew_then ?_
      rcases if_some hF with ⟨h34, hF⟩ | ⟨h34, hF⟩
      · refine cw_cond_t rfl rfl h34 ?_
        refine cw_skip ?_
        refine ew_then ?_
        refine cw_seq ?_
        refine cw_block ?_
        refine cw_region ?_
        refine ow_vals 8 (j := 8) [0, 1, 2, 3, 9, 10, 22, 23, 24, 27, 29] [(0, .pointer none), (1, .string x1), (2, .string x2), (3, .int .i64 x3), (9, .pointer (some ⟨b26, 0, none⟩)), (10, .int .i64 x30), (22, .pointer none), (23, .string x1), (24, .string x2), (27, .int .u8 (IntKind.u8.wrap (x30.fdiv (2 ^ 8)))), (29, .int .u8 (IntKind.u8.wrap (x30)))] rfl (by kernel_rfl) ?_
        refine ow_pw rfl (pw_buildSlice (E := 5) (eInt .u8) ([IntKind.u8.wrap (x30.fdiv (2 ^ 8)), IntKind.u8.wrap (x30)] : List Int) rfl rfl rfl rfl rfl (by kernel_rfl) rfl (by kernel_rfl) rfl (by decide) rfl fun p35 => nw_ow ?_)
        refine ow_pw rfl (pw_quiet (v := .string (bstr ([IntKind.u8.wrap (x30.fdiv (2 ^ 8)), IntKind.u8.wrap (x30)] : List Int))) rfl rfl rfl rfl (q_bytes_str_own 0 rfl rfl (by kernel_rfl) (by kernel_rfl) rfl) (nw_ow ?_))
        obtain ⟨h37, hF⟩ := chk_some hF
        refine ow_pw rfl (pw_quiet (v := .string (x2 ++ (bstr ([IntKind.u8.wrap (x30.fdiv (2 ^ 8)), IntKind.u8.wrap (x30)] : List Int)))) rfl rfl rfl rfl (q_concat rfl rfl rfl h37) (nw_ow ?_))
        obtain ⟨r38, h39, hF⟩ := bind_some hF
        refine ow_pw rfl (pw_call (F := [own (eInt .u8) 5 p35 2 ([IntKind.u8.wrap (x30.fdiv (2 ^ 8)), IntKind.u8.wrap (x30)] : List Int), bld 58 5 b26 m31] ++ F0) rfl rfl rfl rfl rfl rfl rfl (by kernel_rfl) (perm_of_pulls [1] rfl) (c_mill_Mill_Tag_1 _ x1 (x2 ++ (bstr ([IntKind.u8.wrap (x30.fdiv (2 ^ 8)), IntKind.u8.wrap (x30)] : List Int))) r38 h39) ?_)
        rintro _ _ ⟨rfl, rfl⟩
        refine nw_H (H' := [imm I, own (eInt .u8) 5 p35 2 ([IntKind.u8.wrap (x30.fdiv (2 ^ 8)), IntKind.u8.wrap (x30)] : List Int), bld 58 5 b26 m31] ++ F0) rfl (nw_ow ?_)
        obtain ⟨r40, h41, hF⟩ := bind_some hF
        refine ow_pw rfl (pw_call (F := [own (eInt .u8) 5 p35 2 ([IntKind.u8.wrap (x30.fdiv (2 ^ 8)), IntKind.u8.wrap (x30)] : List Int)] ++ F0) rfl rfl rfl rfl rfl rfl rfl (by kernel_rfl) (perm_of_pulls [0, 1] rfl) (c_strings_Builder_WriteString _ r38 m31 b26 r40 h41) ?_)
        rintro _ _ ⟨rfl, rfl⟩
        refine nw_H (H' := [imm I, bld 58 5 b26 r40.2, own (eInt .u8) 5 p35 2 ([IntKind.u8.wrap (x30.fdiv (2 ^ 8)), IntKind.u8.wrap (x30)] : List Int)] ++ F0) rfl (nw_ow ?_)
        refine ow_end rfl ?_
        refine ew_blk ?_
        refine ew_then ?_
        refine cw_region ?_
        refine ow_vals 3 (j := 3) [0, 1, 2, 3, 9, 10] [(0, .pointer none), (1, .string x1), (2, .string x2), (3, .int .i64 x3), (9, .pointer (some ⟨b26, 0, none⟩)), (10, .int .i64 (IntKind.i64.wrap (x30 + 1)))] rfl (by kernel_rfl) ?_
        refine ow_end rfl ?_
        have hR := Option.some.inj hF
        subst hR
        have hR := hL29
        try dsimp only at hR
        exact fun a w hf hs => ⟨k, Nat.lt_succ_self k, IntKind.i64.wrap (x30 + 1), r40.2, hR, hf.keep [0, 1, 2, 3, 9, 10], sat_to [2, 0, 0] 1 rfl hs⟩
      · refine cw_cond_f rfl rfl h34 ?_
        refine cw_exit ?_
        refine ew_then_exit ?_
        refine ew_then_exit ?_
        refine ew_blk_exit ?_
        have hR := Option.some.inj hF
        subst hR
        have hR := hL29
        try dsimp only at hR
        exact fun a w hf hs => ⟨m31, hR, hf.keep [3, 9], sat_to [0, 0] 0 rfl hs⟩
    · rintro a w ⟨m42, hv, hf, hs⟩
      subst hv
      replace hF := hK28
      clear hK28
      try dsimp only at hF
      revert a w
      show CW _ _ _ 38 [(3, .int .i64 x3), (9, .pointer (some ⟨b26, 0, none⟩))] (SAT w0 ([imm I, bld 58 5 b26 m42] ++ F0))
      unfold F.mill_Mill_Stream_2.r3 at hF
      refine cw_seq ?_
      refine cw_region ?_
      obtain ⟨r43, h44, hF⟩ := bind_some hF
      refine ow_pw rfl (pw_call (F := [] ++ F0) rfl rfl rfl rfl rfl rfl rfl (by kernel_rfl) (perm_of_pulls [0, 0] rfl) (c_strings_Builder_String _ m42 b26 r43 h44) ?_)
      rintro _ _ ⟨rfl, rfl⟩
      refine nw_H (H' := [imm I] ++ F0) rfl (nw_ow ?_)
      refine ow_vals 1 (j := 2) [35, 36] [(35, .string r43), (36, .int .i64 x3)] rfl (by kernel_rfl) ?_
      obtain ⟨h45, hF⟩ := chk_some hF
      refine ow_pw rfl (pw_quiet (v := .string (r43.extract (0 : Int).toNat x3.toNat)) rfl rfl rfl rfl (q_slice_str rfl (by kernel_rfl) rfl rfl rfl h45.1 h45.2.1 h45.2.2) (nw_ow ?_))
      refine ow_vals 1 (j := 4) [8] [(8, .string (r43.extract (0 : Int).toNat x3.toNat))] rfl (by kernel_rfl) ?_
      refine ow_end rfl ?_
      refine ew_then ?_
      refine cw_ret ?_
      have hR := Option.some.inj hF
      subst hR
      exact fin1 (H1 := [imm I]) (fun w hs => sat_to [0] 0 rfl hs) rfl (rr_tmp rfl) ⟨rfl, rfl⟩


def F.mill_Mill_Veil_1.l1 (x3 : ByteArray) (r21 : ByteArray) (l30 : List Int) (x34 : Int) : Option (((List Int) × Int) ⊕ ((List Int))) :=
  if decide (x34 < ((sbytes x3).length : Int)) then (Option.bind (at_ l30 x34) (fun (y36 : Int) => chk (0 ≤ x34 ∧ x34 < (r21.size : Int)) (Option.bind (at_ l30 x34) (fun (y39 : Int) => some (.inl (l30.set x34.toNat (ixor .u8 y36 (bt r21 x34)), IntKind.i64.wrap (x34 + 1))))))) else (some (.inr (l30)))
def F.mill_Mill_Veil_1.r2 (l41 : List Int) : Option (ByteArray) :=
  some ((bstr l41))
def F.mill_Mill_Veil_1 (x1 : ByteArray) (x2 : ByteArray) (x3 : ByteArray) : Option ByteArray :=
  Option.bind (F.mill_Mill_Stream_2 x1 x2 (x3.size : Int)) (fun (r21 : ByteArray) => if (r21.size : Int) != (x3.size : Int) then (some ((ByteArray.mk #[]))) else (chk (x3.size ≤ maxLen) (Option.bind (iter (fun x => F.mill_Mill_Veil_1.l1 x3 r21 x.1 x.2) FUEL (sbytes x3, 0)) (fun x => F.mill_Mill_Veil_1.r2 x))))
set_option maxRecDepth 100000 in
set_option maxHeartbeats 4000000 in
theorem c_mill_Mill_Veil_1 (I : Hl) (x1 : ByteArray) (x2 : ByteArray) (x3 : ByteArray) (res : ByteArray) (hF : F.mill_Mill_Veil_1 x1 x2 x3 = some res) : Tr Try.prog 16 [.pointer none, .string x1, .string x2, .string x3] [imm I] (fun r H' => r = .string res ∧ H' = [imm I]) := by
  unfold F.mill_Mill_Veil_1 at hF
  refine tr_of_cw (fn := Try.f16) Try.func16 rfl (Nat.le_of_ble_eq_true rfl) 42 rfl fun F0 w0 => ?_
  refine cw_keep [0, 1, 2, 3] (L' := [(0, .pointer none), (1, .string x1), (2, .string x2), (3, .string x3)]) rfl ?_
  refine cw_state (S' := SAT w0 ([imm I] ++ F0)) (fun w hs => hs) ?_
  refine cw_seq ?_
  refine cw_region ?_
  refine ow_vals 1 (j := 1) [0, 1, 2, 3] [(0, .pointer none), (1, .string x1), (2, .string x2), (3, .string x3)] rfl (by kernel_rfl) ?_
  refine ow_end rfl ?_
  refine ew_then ?_
  refine cw_seq ?_
  refine cw_region ?_
  refine ow_vals 5 (j := 5) [3, 12, 13, 14, 16] [(3, .string x3), (12, .pointer none), (13, .string x1), (14, .string x2), (16, .int .i64 (x3.size : Int))] rfl (by kernel_rfl) ?_
  obtain ⟨r21, h22, hF⟩ := bind_some hF
  refine ow_pw rfl (pw_call (F := [] ++ F0) rfl rfl rfl rfl rfl rfl rfl (by kernel_rfl) (perm_of_pulls [0] rfl) (c_mill_Mill_Stream_2 _ x1 x2 (x3.size : Int) r21 h22) ?_)
  rintro _ _ ⟨rfl, rfl⟩
  refine nw_H (H' := [imm I] ++ F0) rfl (nw_ow ?_)
  refine ow_vals 1 (j := 7) [3, 9] [(3, .string x3), (9, .string r21)] rfl (by kernel_rfl) ?_
  refine ow_end rfl ?_
  refine ew_then ?_
  refine cw_seq ?_
  refine cw_seq ?_
  refine cw_region ?_
  refine ow_vals 5 (j := 5) [3, 9, 22] [(3, .string x3), (9, .string r21), (22, .bool ((r21.size : Int) != (x3.size : Int)))] rfl (by kernel_rfl) ?_
  refine ow_end rfl ?_
  refine ew_then ?_
  rcases if_some hF with ⟨h23, hF⟩ | ⟨h23, hF⟩
  · refine cw_cond_t rfl rfl h23 ?_
    refine cw_seq ?_
    refine cw_region ?_
    refine ow_vals 1 (j := 1) [8] [(8, .string (ByteArray.mk #[]))] rfl (by kernel_rfl) ?_
    refine ow_end rfl ?_
    refine ew_then ?_
    refine cw_ret ?_
    refine ew_then_ret ?_
    have hR := Option.some.inj hF
    subst hR
    exact fin1 (H1 := [imm I]) (fun w hs => sat_to [0] 0 rfl hs) rfl (rr_tmp rfl) ⟨rfl, rfl⟩
  · refine cw_cond_f rfl rfl h23 ?_
    refine cw_skip ?_
    refine ew_then ?_
    refine cw_seq ?_
    refine cw_region ?_
    refine ow_vals 1 (j := 1) [9, 23] [(9, .string r21), (23, .string x3)] rfl (by kernel_rfl) ?_
    obtain ⟨h24, hF⟩ := chk_some hF
    refine ow_pw rfl (pw_str_bytes (E := 5) rfl rfl rfl rfl rfl (by kernel_rfl) (by kernel_rfl) (by kernel_rfl) rfl h24 fun p25 c26 => nw_ow ?_)
    refine ow_vals 1 (j := 3) [9, 10] [(9, .string r21), (10, .slice p25 (sbytes x3).length c26)] rfl (by kernel_rfl) ?_
    refine ow_end rfl ?_
    refine ew_then ?_
    obtain ⟨v28, hF, hK28⟩ := bind_some hF
    refine cw_mid (fun a w => ∃ (l41 : List Int), ∃ (p42 : Option Addr), ∃ (c43 : Nat), l41 = v28 ∧ Fr 42 [(10, .slice p42 l41.length c43)] a ∧ SAT w0 ([imm I, own (eInt .u8) 5 p42 c43 l41] ++ F0) w) ?_ ?_
    · refine cw_seq ?_
      refine cw_region ?_
      refine ow_vals 3 (j := 3) [9, 10, 26, 27] [(9, .string r21), (10, .slice p25 (sbytes x3).length c26), (26, .int .i64 ((sbytes x3).length : Int)), (27, .int .i64 0)] rfl (by kernel_rfl) ?_
      refine ow_end rfl ?_
      refine ew_then ?_
      refine cw_block ?_
      refine fun a w hf hs => wp_rounds (fun k a w => ∃ (l30 : List Int), ∃ (x34 : Int), ∃ (p31 : Option Addr), ∃ (c32 : Nat), iter (fun x => F.mill_Mill_Veil_1.l1 x3 r21 x.1 x.2) k (l30, x34) = some v28 ∧ Fr 42 [(9, .string r21), (10, .slice p31 l30.length c32), (26, .int .i64 ((sbytes x3).length : Int)), (27, .int .i64 x34)] a ∧ SAT w0 ([imm I, own (eInt .u8) 5 p31 c32 l30] ++ F0) w) ?_ FUEL a w ⟨sbytes x3, 0, p25, c26, hF, hf.keep [9, 10, 26, 27], sat_to [1, 0] 0 rfl hs⟩
      clear hf hs
      clear a w hF
      rintro k a w ⟨l30, x34, p31, c32, hF2, hf, hs⟩
      obtain ⟨k, r29, rfl, hF, hL29⟩ := iter_some hF2
      clear hF2
      revert a w
      show CW _ _ _ 42 [(9, .string r21), (10, .slice p31 l30.length c32), (26, .int .i64 ((sbytes x3).length : Int)), (27, .int .i64 x34)] (SAT w0 ([imm I, own (eInt .u8) 5 p31 c32 l30] ++ F0))
      try dsimp only at hF
      unfold F.mill_Mill_Veil_1.l1 at hF
      refine cw_seq ?_
      refine cw_region ?_
      refine ow_vals 1 (j := 1) [9, 10, 26, 27, 28] [(9, .string r21), (10, .slice p31 l30.length c32), (26, .int .i64 ((sbytes x3).length : Int)), (27, .int .i64 x34), (28, .bool (decide (x34 < ((sbytes x3).length : Int))))] rfl (by kernel_rfl) ?_
      refine ow_end rfl ?_
      refine ew_then ?_
      refine cw_seq ?_
      rcases if_some hF with ⟨h35, hF⟩ | ⟨h35, hF⟩
      · refine cw_cond_t rfl rfl h35 ?_
        refine cw_skip ?_
        refine ew_then ?_
        refine cw_seq ?_
        refine cw_block ?_
        refine cw_seq ?_
        refine cw_region ?_
        refine ow_vals 2 (j := 2) [9, 10, 11, 26, 27] [(9, .string r21), (10, .slice p31 l30.length c32), (11, .int .i64 x34), (26, .int .i64 ((sbytes x3).length : Int)), (27, .int .i64 x34)] rfl (by kernel_rfl) ?_
        refine ow_end rfl ?_
        refine ew_then ?_
        refine cw_open 9 (SAT w0 ([imm I, own (eInt .u8) 5 p31 c32 l30])) (by kernel_rfl) (f := 10) rfl (fun w hs => sat_drew hs) ?_
        refine aw_vals [0, 1, 4, 5] (f' := 6) (m' := 51) [9, 10, 26, 27, 30, 31, 34, 35] [(9, .string r21), (10, .slice p31 l30.length c32), (26, .int .i64 ((sbytes x3).length : Int)), (27, .int .i64 x34), (30, .slice p31 l30.length c32), (31, .int .i64 x34), (34, .string r21), (35, .int .i64 x34)] (fun _ _ _ _ _ h => calm_fin (P := Try.prog) (fn := Try.f16) _ _ _ _ _ h) (fun w hs => sat_pulls [0, 0] (G := [] ++ F0) rfl hs) rfl (by kernel_rfl) ?_
        obtain ⟨y36, h37, hF⟩ := bind_some hF
        refine aw_quiet 2 (m' := 55) (v := .pointer (some ((base p31).add (x34.toNat * 1)))) 2 [] rfl rfl rfl rfl (by kernel_rfl) (by kernel_rfl) (by kernel_rfl) (fun _ _ _ _ _ h => calm_fin (P := Try.prog) (fn := Try.f16) _ _ _ _ _ h) (fun w hs => sat_pulls [0, 0] (G := [] ++ F0) rfl hs) (q_index_own 1 1 rfl rfl (by kernel_rfl) rfl rfl (at_some h37).1 (at_lt h37)) ?_
        refine aw_quiet 3 (m' := 63) (v := .int .u8 y36) 3 [] rfl rfl rfl rfl (by kernel_rfl) (by kernel_rfl) (by kernel_rfl) (fun _ _ _ _ _ h => calm_fin (P := Try.prog) (fn := Try.f16) _ _ _ _ _ h) (fun w hs => sat_pulls [0, 0] (G := [] ++ F0) rfl hs) (q_load_own0 1 1 rfl rfl rfl rfl (at_some h37).2 (by kernel_rfl)) ?_
        obtain ⟨h38, hF⟩ := chk_some hF
        refine aw_pure 6 (m' := 127) (v := .int .u8 (bt r21 x34)) rfl rfl rfl rfl (by kernel_rfl) (by kernel_rfl) (fun _ _ _ _ _ h => calm_fin (P := Try.prog) (fn := Try.f16) _ _ _ _ _ h) (fun w hs => sat_pulls [0, 0] (G := [] ++ F0) rfl hs) (q_index_str rfl (by kernel_rfl) rfl rfl h38.1 h38.2) ?_
        refine aw_vals [7] (f' := 2) (m' := 255) [9, 10, 26, 27, 30, 31, 37] [(9, .string r21), (10, .slice p31 l30.length c32), (26, .int .i64 ((sbytes x3).length : Int)), (27, .int .i64 x34), (30, .slice p31 l30.length c32), (31, .int .i64 x34), (37, .int .u8 (ixor .u8 y36 (bt r21 x34)))] (fun _ _ _ _ _ h => calm_fin (P := Try.prog) (fn := Try.f16) _ _ _ _ _ h) (fun w hs => sat_pulls [0, 0] (G := [] ++ F0) rfl hs) rfl (by kernel_rfl) ?_
        obtain ⟨y39, h40, hF⟩ := bind_some hF
        refine aw_quiet 8 (m' := 511) (v := .pointer (some ((base p31).add (x34.toNat * 1)))) 8 [] rfl rfl rfl rfl (by kernel_rfl) (by kernel_rfl) (by kernel_rfl) (fun _ _ _ _ _ h => calm_fin (P := Try.prog) (fn := Try.f16) _ _ _ _ _ h) (fun w hs => sat_pulls [0, 0] (G := [] ++ F0) rfl hs) (q_index_own 1 1 rfl rfl (by kernel_rfl) rfl rfl (at_some h40).1 (at_lt h40)) ?_
        refine aw_only 9 (m' := 1023) (by kernel_rfl) (by kernel_rfl) (pw_store_own 1 1 (z' := ixor .u8 y36 (bt r21 x34)) (off := 0) rfl rfl rfl rfl rfl rfl rfl rfl (at_some h40).2 (by kernel_rfl) (nw_H (H' := [imm I, own (eInt .u8) 5 p31 c32 (l30.set x34.toNat (ixor .u8 y36 (bt r21 x34)))] ++ F0) (by first | rfl | (simp only [List.length_set]; rfl)) (aw_last (by kernel_rfl) ?_)))
        refine aw_slots (L' := [(38, .pointer (some ((base p31).add (x34.toNat * 1)))), (9, .string r21), (10, .slice p31 (l30.set x34.toNat (ixor .u8 y36 (bt r21 x34))).length c32), (26, .int .i64 ((sbytes x3).length : Int)), (27, .int .i64 x34), (30, .slice p31 (l30.set x34.toNat (ixor .u8 y36 (bt r21 x34))).length c32), (31, .int .i64 x34), (37, .int .u8 (ixor .u8 y36 (bt r21 x34)))]) (by first | rfl | (simp only [List.length_set]; rfl)) ?_
        refine aw_keep [9, 10, 26, 27] (L' := [(9, .string r21), (10, .slice p31 (l30.set x34.toNat (ixor .u8 y36 (bt r21 x34))).length c32), (26, .int .i64 ((sbytes x3).length : Int)), (27, .int .i64 x34)]) rfl ?_
        refine aw_end (by kernel_rfl) ?_
        refine ew_blk ?_
        refine ew_then ?_
        refine cw_region ?_
        refine ow_vals 2 (j := 2) [9, 10, 26, 27] [(9, .string r21), (10, .slice p31 (l30.set x34.toNat (ixor .u8 y36 (bt r21 x34))).length c32), (26, .int .i64 ((sbytes x3).length : Int)), (27, .int .i64 (IntKind.i64.wrap (x34 + 1)))] rfl (by kernel_rfl) ?_
        refine ow_end rfl ?_
        have hR := Option.some.inj hF
        subst hR
        have hR := hL29
        try dsimp only at hR
        exact fun a w hf hs => ⟨k, Nat.lt_succ_self k, l30.set x34.toNat (ixor .u8 y36 (bt r21 x34)), IntKind.i64.wrap (x34 + 1), p31, c32, hR, hf.keep [9, 10, 26, 27], sat_to [0, 0] 0 rfl hs⟩
      · refine cw_cond_f rfl rfl h35 ?_
        refine cw_exit ?_
        refine ew_then_exit ?_
        refine ew_then_exit ?_
        refine ew_blk_exit ?_
        have hR := Option.some.inj hF
        subst hR
        have hR := hL29
        try dsimp only at hR
        exact fun a w hf hs => ⟨l30, p31, c32, hR, hf.keep [10], sat_to [0, 0] 0 rfl hs⟩
    · rintro a w ⟨l41, p42, c43, hv, hf, hs⟩
      subst hv
      replace hF := hK28
      clear hK28
      try dsimp only at hF
      revert a w
      show CW _ _ _ 42 [(10, .slice p42 l41.length c43)] (SAT w0 ([imm I, own (eInt .u8) 5 p42 c43 l41] ++ F0))
      unfold F.mill_Mill_Veil_1.r2 at hF
      refine cw_seq ?_
      refine cw_region ?_
      refine ow_vals 1 (j := 1) [40] [(40, .slice p42 l41.length c43)] rfl (by kernel_rfl) ?_
      refine ow_pw rfl (pw_quiet (v := .string (bstr l41)) rfl rfl rfl rfl (q_bytes_str_own 1 rfl rfl (by kernel_rfl) (by kernel_rfl) rfl) (nw_ow ?_))
      refine ow_vals 1 (j := 3) [8] [(8, .string (bstr l41))] rfl (by kernel_rfl) ?_
      refine ow_end rfl ?_
      refine ew_then ?_
      refine cw_ret ?_
      have hR := Option.some.inj hF
      subst hR
      exact fin1 (H1 := [imm I]) (fun w hs => sat_to [1, 0] 1 rfl hs) rfl (rr_tmp rfl) ⟨rfl, rfl⟩


def F.mill_Mill_Full_1 (m0 : mill_Mill) : Option (Bool × mill_Mill) :=
  Option.bind (F.mill_Mill_none_2 (⟨([] : List (ByteArray × ByteArray)), ([] : List (ByteArray × ByteArray)), m0.twins_, m0.found_, m0.full_, m0.sums_⟩ : mill_Mill)) (fun (r21 : Bool) => if !r21 then (some (((⟨([] : List (ByteArray × ByteArray)), ([] : List (ByteArray × ByteArray)), m0.twins_, m0.found_, m0.full_, m0.sums_⟩ : mill_Mill).full_, (⟨([] : List (ByteArray × ByteArray)), ([] : List (ByteArray × ByteArray)), (⟨([] : List (ByteArray × ByteArray)), ([] : List (ByteArray × ByteArray)), m0.twins_, m0.found_, m0.full_, m0.sums_⟩ : mill_Mill).twins_, (⟨([] : List (ByteArray × ByteArray)), ([] : List (ByteArray × ByteArray)), m0.twins_, m0.found_, m0.full_, m0.sums_⟩ : mill_Mill).found_, (⟨([] : List (ByteArray × ByteArray)), ([] : List (ByteArray × ByteArray)), m0.twins_, m0.found_, m0.full_, m0.sums_⟩ : mill_Mill).full_, (⟨([] : List (ByteArray × ByteArray)), ([] : List (ByteArray × ByteArray)), m0.twins_, m0.found_, m0.full_, m0.sums_⟩ : mill_Mill).sums_⟩ : mill_Mill)))) else (some ((false, (⟨([] : List (ByteArray × ByteArray)), ([] : List (ByteArray × ByteArray)), (⟨([] : List (ByteArray × ByteArray)), ([] : List (ByteArray × ByteArray)), m0.twins_, m0.found_, m0.full_, m0.sums_⟩ : mill_Mill).twins_, (⟨([] : List (ByteArray × ByteArray)), ([] : List (ByteArray × ByteArray)), m0.twins_, m0.found_, m0.full_, m0.sums_⟩ : mill_Mill).found_, (⟨([] : List (ByteArray × ByteArray)), ([] : List (ByteArray × ByteArray)), m0.twins_, m0.found_, m0.full_, m0.sums_⟩ : mill_Mill).full_, (⟨([] : List (ByteArray × ByteArray)), ([] : List (ByteArray × ByteArray)), m0.twins_, m0.found_, m0.full_, m0.sums_⟩ : mill_Mill).sums_⟩ : mill_Mill)))))
set_option maxRecDepth 100000 in
set_option maxHeartbeats 4000000 in
theorem c_mill_Mill_Full_1 (I : Hl) (m0 : mill_Mill) (b0 : Nat) (res : Bool × mill_Mill) (hF : F.mill_Mill_Full_1 m0 = some res) : Tr Try.prog 20 [.pointer (some ⟨b0, 0, none⟩)] [imm I, pt b0 #[.map none, .map none, .string m0.twins_.e0, .string m0.twins_.e1, .bool m0.found_, .bool m0.full_, .int .i64 m0.sums_] 50] (fun r H' => r = .bool res.1 ∧ H' = [imm I, pt b0 #[.map none, .map none, .string res.2.twins_.e0, .string res.2.twins_.e1, .bool res.2.found_, .bool res.2.full_, .int .i64 res.2.sums_] 50]) := by
  unfold F.mill_Mill_Full_1 at hF
  refine tr_of_cw (fn := Try.f20) Try.func20 rfl (Nat.le_of_ble_eq_true rfl) 12 rfl fun F0 w0 => ?_
  refine cw_keep [0] (L' := [(0, .pointer (some ⟨b0, 0, none⟩))]) rfl ?_
  refine cw_state (S' := SAT w0 ([imm I, pt b0 #[.map none, .map none, .string m0.twins_.e0, .string m0.twins_.e1, .bool m0.found_, .bool m0.full_, .int .i64 m0.sums_] 50] ++ F0)) (fun w hs => hs) ?_
  refine cw_seq ?_
  refine cw_region ?_
  refine ow_vals 1 (j := 1) [0] [(0, .pointer (some ⟨b0, 0, none⟩))] rfl (by kernel_rfl) ?_
  refine ow_end rfl ?_
  refine ew_then ?_
  refine cw_seq ?_
  refine cw_region ?_
  refine ow_vals 1 (j := 1) [0, 3] [(0, .pointer (some ⟨b0, 0, none⟩)), (3, .pointer (some ⟨b0, 0, none⟩))] rfl (by kernel_rfl) ?_
  obtain ⟨r21, h22, hF⟩ := bind_some hF
  refine ow_pw rfl (pw_call (F := [] ++ F0) rfl rfl rfl rfl rfl rfl rfl (by kernel_rfl) (perm_of_pulls [0, 0] rfl) (c_mill_Mill_none_2 _ (⟨([] : List (ByteArray × ByteArray)), ([] : List (ByteArray × ByteArray)), m0.twins_, m0.found_, m0.full_, m0.sums_⟩ : mill_Mill) b0 r21 h22) ?_)
  rintro _ _ ⟨rfl, rfl⟩
  refine nw_H (H' := [imm I, pt b0 #[.map none, .map none, .string ((⟨([] : List (ByteArray × ByteArray)), ([] : List (ByteArray × ByteArray)), m0.twins_, m0.found_, m0.full_, m0.sums_⟩ : mill_Mill).twins_.e0), .string ((⟨([] : List (ByteArray × ByteArray)), ([] : List (ByteArray × ByteArray)), m0.twins_, m0.found_, m0.full_, m0.sums_⟩ : mill_Mill).twins_.e1), .bool ((⟨([] : List (ByteArray × ByteArray)), ([] : List (ByteArray × ByteArray)), m0.twins_, m0.found_, m0.full_, m0.sums_⟩ : mill_Mill).found_), .bool ((⟨([] : List (ByteArray × ByteArray)), ([] : List (ByteArray × ByteArray)), m0.twins_, m0.found_, m0.full_, m0.sums_⟩ : mill_Mill).full_), .int .i64 ((⟨([] : List (ByteArray × ByteArray)), ([] : List (ByteArray × ByteArray)), m0.twins_, m0.found_, m0.full_, m0.sums_⟩ : mill_Mill).sums_)] 50] ++ F0) rfl (nw_ow ?_)
  refine ow_vals 2 (j := 4) [0, 6] [(0, .pointer (some ⟨b0, 0, none⟩)), (6, .bool (!r21))] rfl (by kernel_rfl) ?_
  rcases if_some hF with ⟨h23, hF⟩ | ⟨h23, hF⟩
  · refine ow_slots (L' := [(0, .pointer (some ⟨b0, 0, none⟩)), (6, .bool true)]) (by rw [h23]) ?_
    refine ow_vals 3 (j := 7) [6, 9] [(6, .bool true), (9, .pointer (some ⟨b0, 5, none⟩))] rfl (by kernel_rfl) ?_
    refine ow_pw rfl (pw_quiet (v := .bool ((⟨([] : List (ByteArray × ByteArray)), ([] : List (ByteArray × ByteArray)), m0.twins_, m0.found_, m0.full_, m0.sums_⟩ : mill_Mill).full_)) rfl rfl rfl rfl (q_load 1 rfl rfl rfl (by kernel_rfl)) (nw_ow ?_))
    refine ow_vals 2 (j := 10) [2] [(2, .bool ((⟨([] : List (ByteArray × ByteArray)), ([] : List (ByteArray × ByteArray)), m0.twins_, m0.found_, m0.full_, m0.sums_⟩ : mill_Mill).full_))] rfl (by kernel_rfl) ?_
    refine ow_end rfl ?_
    refine ew_then ?_
    refine cw_ret ?_
    have hR := Option.some.inj hF
    subst hR
    exact fin1 (H1 := [imm I, pt b0 #[.map none, .map none, .string (((⟨([] : List (ByteArray × ByteArray)), ([] : List (ByteArray × ByteArray)), (⟨([] : List (ByteArray × ByteArray)), ([] : List (ByteArray × ByteArray)), m0.twins_, m0.found_, m0.full_, m0.sums_⟩ : mill_Mill).twins_, (⟨([] : List (ByteArray × ByteArray)), ([] : List (ByteArray × ByteArray)), m0.twins_, m0.found_, m0.full_, m0.sums_⟩ : mill_Mill).found_, (⟨([] : List (ByteArray × ByteArray)), ([] : List (ByteArray × ByteArray)), m0.twins_, m0.found_, m0.full_, m0.sums_⟩ : mill_Mill).full_, (⟨([] : List (ByteArray × ByteArray)), ([] : List (ByteArray × ByteArray)), m0.twins_, m0.found_, m0.full_, m0.sums_⟩ : mill_Mill).sums_⟩ : mill_Mill).twins_).e0), .string (((⟨([] : List (ByteArray × ByteArray)), ([] : List (ByteArray × ByteArray)), (⟨([] : List (ByteArray × ByteArray)), ([] : List (ByteArray × ByteArray)), m0.twins_, m0.found_, m0.full_, m0.sums_⟩ : mill_Mill).twins_, (⟨([] : List (ByteArray × ByteArray)), ([] : List (ByteArray × ByteArray)), m0.twins_, m0.found_, m0.full_, m0.sums_⟩ : mill_Mill).found_, (⟨([] : List (ByteArray × ByteArray)), ([] : List (ByteArray × ByteArray)), m0.twins_, m0.found_, m0.full_, m0.sums_⟩ : mill_Mill).full_, (⟨([] : List (ByteArray × ByteArray)), ([] : List (ByteArray × ByteArray)), m0.twins_, m0.found_, m0.full_, m0.sums_⟩ : mill_Mill).sums_⟩ : mill_Mill).twins_).e1), .bool ((⟨([] : List (ByteArray × ByteArray)), ([] : List (ByteArray × ByteArray)), (⟨([] : List (ByteArray × ByteArray)), ([] : List (ByteArray × ByteArray)), m0.twins_, m0.found_, m0.full_, m0.sums_⟩ : mill_Mill).twins_, (⟨([] : List (ByteArray × ByteArray)), ([] : List (ByteArray × ByteArray)), m0.twins_, m0.found_, m0.full_, m0.sums_⟩ : mill_Mill).found_, (⟨([] : List (ByteArray × ByteArray)), ([] : List (ByteArray × ByteArray)), m0.twins_, m0.found_, m0.full_, m0.sums_⟩ : mill_Mill).full_, (⟨([] : List (ByteArray × ByteArray)), ([] : List (ByteArray × ByteArray)), m0.twins_, m0.found_, m0.full_, m0.sums_⟩ : mill_Mill).sums_⟩ : mill_Mill).found_), .bool ((⟨([] : List (ByteArray × ByteArray)), ([] : List (ByteArray × ByteArray)), (⟨([] : List (ByteArray × ByteArray)), ([] : List (ByteArray × ByteArray)), m0.twins_, m0.found_, m0.full_, m0.sums_⟩ : mill_Mill).twins_, (⟨([] : List (ByteArray × ByteArray)), ([] : List (ByteArray × ByteArray)), m0.twins_, m0.found_, m0.full_, m0.sums_⟩ : mill_Mill).found_, (⟨([] : List (ByteArray × ByteArray)), ([] : List (ByteArray × ByteArray)), m0.twins_, m0.found_, m0.full_, m0.sums_⟩ : mill_Mill).full_, (⟨([] : List (ByteArray × ByteArray)), ([] : List (ByteArray × ByteArray)), m0.twins_, m0.found_, m0.full_, m0.sums_⟩ : mill_Mill).sums_⟩ : mill_Mill).full_), .int .i64 ((⟨([] : List (ByteArray × ByteArray)), ([] : List (ByteArray × ByteArray)), (⟨([] : List (ByteArray × ByteArray)), ([] : List (ByteArray × ByteArray)), m0.twins_, m0.found_, m0.full_, m0.sums_⟩ : mill_Mill).twins_, (⟨([] : List (ByteArray × ByteArray)), ([] : List (ByteArray × ByteArray)), m0.twins_, m0.found_, m0.full_, m0.sums_⟩ : mill_Mill).found_, (⟨([] : List (ByteArray × ByteArray)), ([] : List (ByteArray × ByteArray)), m0.twins_, m0.found_, m0.full_, m0.sums_⟩ : mill_Mill).full_, (⟨([] : List (ByteArray × ByteArray)), ([] : List (ByteArray × ByteArray)), m0.twins_, m0.found_, m0.full_, m0.sums_⟩ : mill_Mill).sums_⟩ : mill_Mill).sums_)] 50]) (fun w hs => sat_to [0, 0] 0 rfl hs) rfl (rr_tmp rfl) ⟨rfl, rfl⟩
  · refine ow_slots (L' := [(0, .pointer (some ⟨b0, 0, none⟩)), (6, .bool false)]) (by rw [h23]) ?_
    refine ow_vals 6 (j := 10) [2] [(2, .bool false)] rfl (by kernel_rfl) ?_
    refine ow_end rfl ?_
    refine ew_then ?_
    refine cw_ret ?_
    have hR := Option.some.inj hF
    subst hR
    exact fin1 (H1 := [imm I, pt b0 #[.map none, .map none, .string (((⟨([] : List (ByteArray × ByteArray)), ([] : List (ByteArray × ByteArray)), (⟨([] : List (ByteArray × ByteArray)), ([] : List (ByteArray × ByteArray)), m0.twins_, m0.found_, m0.full_, m0.sums_⟩ : mill_Mill).twins_, (⟨([] : List (ByteArray × ByteArray)), ([] : List (ByteArray × ByteArray)), m0.twins_, m0.found_, m0.full_, m0.sums_⟩ : mill_Mill).found_, (⟨([] : List (ByteArray × ByteArray)), ([] : List (ByteArray × ByteArray)), m0.twins_, m0.found_, m0.full_, m0.sums_⟩ : mill_Mill).full_, (⟨([] : List (ByteArray × ByteArray)), ([] : List (ByteArray × ByteArray)), m0.twins_, m0.found_, m0.full_, m0.sums_⟩ : mill_Mill).sums_⟩ : mill_Mill).twins_).e0), .string (((⟨([] : List (ByteArray × ByteArray)), ([] : List (ByteArray × ByteArray)), (⟨([] : List (ByteArray × ByteArray)), ([] : List (ByteArray × ByteArray)), m0.twins_, m0.found_, m0.full_, m0.sums_⟩ : mill_Mill).twins_, (⟨([] : List (ByteArray × ByteArray)), ([] : List (ByteArray × ByteArray)), m0.twins_, m0.found_, m0.full_, m0.sums_⟩ : mill_Mill).found_, (⟨([] : List (ByteArray × ByteArray)), ([] : List (ByteArray × ByteArray)), m0.twins_, m0.found_, m0.full_, m0.sums_⟩ : mill_Mill).full_, (⟨([] : List (ByteArray × ByteArray)), ([] : List (ByteArray × ByteArray)), m0.twins_, m0.found_, m0.full_, m0.sums_⟩ : mill_Mill).sums_⟩ : mill_Mill).twins_).e1), .bool ((⟨([] : List (ByteArray × ByteArray)), ([] : List (ByteArray × ByteArray)), (⟨([] : List (ByteArray × ByteArray)), ([] : List (ByteArray × ByteArray)), m0.twins_, m0.found_, m0.full_, m0.sums_⟩ : mill_Mill).twins_, (⟨([] : List (ByteArray × ByteArray)), ([] : List (ByteArray × ByteArray)), m0.twins_, m0.found_, m0.full_, m0.sums_⟩ : mill_Mill).found_, (⟨([] : List (ByteArray × ByteArray)), ([] : List (ByteArray × ByteArray)), m0.twins_, m0.found_, m0.full_, m0.sums_⟩ : mill_Mill).full_, (⟨([] : List (ByteArray × ByteArray)), ([] : List (ByteArray × ByteArray)), m0.twins_, m0.found_, m0.full_, m0.sums_⟩ : mill_Mill).sums_⟩ : mill_Mill).found_), .bool ((⟨([] : List (ByteArray × ByteArray)), ([] : List (ByteArray × ByteArray)), (⟨([] : List (ByteArray × ByteArray)), ([] : List (ByteArray × ByteArray)), m0.twins_, m0.found_, m0.full_, m0.sums_⟩ : mill_Mill).twins_, (⟨([] : List (ByteArray × ByteArray)), ([] : List (ByteArray × ByteArray)), m0.twins_, m0.found_, m0.full_, m0.sums_⟩ : mill_Mill).found_, (⟨([] : List (ByteArray × ByteArray)), ([] : List (ByteArray × ByteArray)), m0.twins_, m0.found_, m0.full_, m0.sums_⟩ : mill_Mill).full_, (⟨([] : List (ByteArray × ByteArray)), ([] : List (ByteArray × ByteArray)), m0.twins_, m0.found_, m0.full_, m0.sums_⟩ : mill_Mill).sums_⟩ : mill_Mill).full_), .int .i64 ((⟨([] : List (ByteArray × ByteArray)), ([] : List (ByteArray × ByteArray)), (⟨([] : List (ByteArray × ByteArray)), ([] : List (ByteArray × ByteArray)), m0.twins_, m0.found_, m0.full_, m0.sums_⟩ : mill_Mill).twins_, (⟨([] : List (ByteArray × ByteArray)), ([] : List (ByteArray × ByteArray)), m0.twins_, m0.found_, m0.full_, m0.sums_⟩ : mill_Mill).found_, (⟨([] : List (ByteArray × ByteArray)), ([] : List (ByteArray × ByteArray)), m0.twins_, m0.found_, m0.full_, m0.sums_⟩ : mill_Mill).full_, (⟨([] : List (ByteArray × ByteArray)), ([] : List (ByteArray × ByteArray)), m0.twins_, m0.found_, m0.full_, m0.sums_⟩ : mill_Mill).sums_⟩ : mill_Mill).sums_)] 50]) (fun w hs => sat_to [0, 0] 0 rfl hs) rfl (rr_tmp rfl) ⟨rfl, rfl⟩


def F.mill_Mill_Sums_1 : Option Int :=
  Option.bind (F.mill_Mill_none_1) (fun (r21 : Bool) => if r21 then (some (0)) else (none))
set_option maxRecDepth 100000 in
set_option maxHeartbeats 4000000 in
theorem c_mill_Mill_Sums_1 (I : Hl) (res : Int) (hF : F.mill_Mill_Sums_1 = some res) : Tr Try.prog 15 [.pointer none] [imm I] (fun r H' => r = .int .i64 res ∧ H' = [imm I]) := by
  unfold F.mill_Mill_Sums_1 at hF
  refine tr_of_cw (fn := Try.f15) Try.func15 rfl (Nat.le_of_ble_eq_true rfl) 9 rfl fun F0 w0 => ?_
  refine cw_keep [0] (L' := [(0, .pointer none)]) rfl ?_
  refine cw_state (S' := SAT w0 ([imm I] ++ F0)) (fun w hs => hs) ?_
  refine cw_seq ?_
  refine cw_region ?_
  refine ow_vals 1 (j := 1) [0] [(0, .pointer none)] rfl (by kernel_rfl) ?_
  refine ow_end rfl ?_
  refine ew_then ?_
  refine cw_seq ?_
  refine cw_seq ?_
  refine cw_region ?_
  refine ow_vals 1 (j := 1) [0, 3] [(0, .pointer none), (3, .pointer none)] rfl (by kernel_rfl) ?_
  obtain ⟨r21, h22, hF⟩ := bind_some hF
  refine ow_pw rfl (pw_call (F := [] ++ F0) rfl rfl rfl rfl rfl rfl rfl (by kernel_rfl) (perm_of_pulls [0] rfl) (c_mill_Mill_none_1 _ r21 h22) ?_)
  rintro _ _ ⟨rfl, rfl⟩
  refine nw_H (H' := [imm I] ++ F0) rfl (nw_ow ?_)
  refine ow_end rfl ?_
  refine ew_then ?_
  rcases if_some hF with ⟨h23, hF⟩ | ⟨h23, hF⟩
  · refine cw_cond_t rfl rfl h23 ?_
    refine cw_seq ?_
    refine cw_region ?_
    refine ow_vals 1 (j := 1) [2] [(2, .int .i64 0)] rfl (by kernel_rfl) ?_
    refine ow_end rfl ?_
    refine ew_then ?_
    refine cw_ret ?_
    refine ew_then_ret ?_
    have hR := Option.some.inj hF
    subst hR
    exact fin1 (H1 := [imm I]) (fun w hs => sat_to [0] 0 rfl hs) rfl (rr_tmp rfl) ⟨rfl, rfl⟩
  · refine cw_cond_f rfl rfl h23 ?_
    refine cw_skip ?_
    refine ew_then ?_
    refine cw_seq ?_
    refine cw_region ?_
    refine ow_vals 1 (j := 1) [5] [(5, .pointer none)] rfl (by kernel_rfl) ?_
    cases hF


def F.mill_Mill_Sums_2 (m0 : mill_Mill) : Option (Int × mill_Mill) :=
  Option.bind (F.mill_Mill_none_2 (⟨([] : List (ByteArray × ByteArray)), ([] : List (ByteArray × ByteArray)), m0.twins_, m0.found_, m0.full_, m0.sums_⟩ : mill_Mill)) (fun (r21 : Bool) => if r21 then (some ((0, (⟨([] : List (ByteArray × ByteArray)), ([] : List (ByteArray × ByteArray)), (⟨([] : List (ByteArray × ByteArray)), ([] : List (ByteArray × ByteArray)), m0.twins_, m0.found_, m0.full_, m0.sums_⟩ : mill_Mill).twins_, (⟨([] : List (ByteArray × ByteArray)), ([] : List (ByteArray × ByteArray)), m0.twins_, m0.found_, m0.full_, m0.sums_⟩ : mill_Mill).found_, (⟨([] : List (ByteArray × ByteArray)), ([] : List (ByteArray × ByteArray)), m0.twins_, m0.found_, m0.full_, m0.sums_⟩ : mill_Mill).full_, (⟨([] : List (ByteArray × ByteArray)), ([] : List (ByteArray × ByteArray)), m0.twins_, m0.found_, m0.full_, m0.sums_⟩ : mill_Mill).sums_⟩ : mill_Mill)))) else (some (((⟨([] : List (ByteArray × ByteArray)), ([] : List (ByteArray × ByteArray)), m0.twins_, m0.found_, m0.full_, m0.sums_⟩ : mill_Mill).sums_, (⟨([] : List (ByteArray × ByteArray)), ([] : List (ByteArray × ByteArray)), (⟨([] : List (ByteArray × ByteArray)), ([] : List (ByteArray × ByteArray)), m0.twins_, m0.found_, m0.full_, m0.sums_⟩ : mill_Mill).twins_, (⟨([] : List (ByteArray × ByteArray)), ([] : List (ByteArray × ByteArray)), m0.twins_, m0.found_, m0.full_, m0.sums_⟩ : mill_Mill).found_, (⟨([] : List (ByteArray × ByteArray)), ([] : List (ByteArray × ByteArray)), m0.twins_, m0.found_, m0.full_, m0.sums_⟩ : mill_Mill).full_, (⟨([] : List (ByteArray × ByteArray)), ([] : List (ByteArray × ByteArray)), m0.twins_, m0.found_, m0.full_, m0.sums_⟩ : mill_Mill).sums_⟩ : mill_Mill)))))
set_option maxRecDepth 100000 in
set_option maxHeartbeats 4000000 in
theorem c_mill_Mill_Sums_2 (I : Hl) (m0 : mill_Mill) (b0 : Nat) (res : Int × mill_Mill) (hF : F.mill_Mill_Sums_2 m0 = some res) : Tr Try.prog 15 [.pointer (some ⟨b0, 0, none⟩)] [imm I, pt b0 #[.map none, .map none, .string m0.twins_.e0, .string m0.twins_.e1, .bool m0.found_, .bool m0.full_, .int .i64 m0.sums_] 50] (fun r H' => r = .int .i64 res.1 ∧ H' = [imm I, pt b0 #[.map none, .map none, .string res.2.twins_.e0, .string res.2.twins_.e1, .bool res.2.found_, .bool res.2.full_, .int .i64 res.2.sums_] 50]) := by
  unfold F.mill_Mill_Sums_2 at hF
  refine tr_of_cw (fn := Try.f15) Try.func15 rfl (Nat.le_of_ble_eq_true rfl) 9 rfl fun F0 w0 => ?_
  refine cw_keep [0] (L' := [(0, .pointer (some ⟨b0, 0, none⟩))]) rfl ?_
  refine cw_state (S' := SAT w0 ([imm I, pt b0 #[.map none, .map none, .string m0.twins_.e0, .string m0.twins_.e1, .bool m0.found_, .bool m0.full_, .int .i64 m0.sums_] 50] ++ F0)) (fun w hs => hs) ?_
  refine cw_seq ?_
  refine cw_region ?_
  refine ow_vals 1 (j := 1) [0] [(0, .pointer (some ⟨b0, 0, none⟩))] rfl (by kernel_rfl) ?_
  refine ow_end rfl ?_
  refine ew_then ?_
  refine cw_seq ?_
  refine cw_seq ?_
  refine cw_region ?_
  refine ow_vals 1 (j := 1) [0, 3] [(0, .pointer (some ⟨b0, 0, none⟩)), (3, .pointer (some ⟨b0, 0, none⟩))] rfl (by kernel_rfl) ?_
  obtain ⟨r21, h22, hF⟩ := bind_some hF
  refine ow_pw rfl (pw_call (F := [] ++ F0) rfl rfl rfl rfl rfl rfl rfl (by kernel_rfl) (perm_of_pulls [0, 0] rfl) (c_mill_Mill_none_2 _ (⟨([] : List (ByteArray × ByteArray)), ([] : List (ByteArray × ByteArray)), m0.twins_, m0.found_, m0.full_, m0.sums_⟩ : mill_Mill) b0 r21 h22) ?_)
  rintro _ _ ⟨rfl, rfl⟩
  refine nw_H (H' := [imm I, pt b0 #[.map none, .map none, .string ((⟨([] : List (ByteArray × ByteArray)), ([] : List (ByteArray × ByteArray)), m0.twins_, m0.found_, m0.full_, m0.sums_⟩ : mill_Mill).twins_.e0), .string ((⟨([] : List (ByteArray × ByteArray)), ([] : List (ByteArray × ByteArray)), m0.twins_, m0.found_, m0.full_, m0.sums_⟩ : mill_Mill).twins_.e1), .bool ((⟨([] : List (ByteArray × ByteArray)), ([] : List (ByteArray × ByteArray)), m0.twins_, m0.found_, m0.full_, m0.sums_⟩ : mill_Mill).found_), .bool ((⟨([] : List (ByteArray × ByteArray)), ([] : List (ByteArray × ByteArray)), m0.twins_, m0.found_, m0.full_, m0.sums_⟩ : mill_Mill).full_), .int .i64 ((⟨([] : List (ByteArray × ByteArray)), ([] : List (ByteArray × ByteArray)), m0.twins_, m0.found_, m0.full_, m0.sums_⟩ : mill_Mill).sums_)] 50] ++ F0) rfl (nw_ow ?_)
  refine ow_end rfl ?_
  refine ew_then ?_
  rcases if_some hF with ⟨h23, hF⟩ | ⟨h23, hF⟩
  · refine cw_cond_t rfl rfl h23 ?_
    refine cw_seq ?_
    refine cw_region ?_
    refine ow_vals 1 (j := 1) [2] [(2, .int .i64 0)] rfl (by kernel_rfl) ?_
    refine ow_end rfl ?_
    refine ew_then ?_
    refine cw_ret ?_
    refine ew_then_ret ?_
    have hR := Option.some.inj hF
    subst hR
    exact fin1 (H1 := [imm I, pt b0 #[.map none, .map none, .string (((⟨([] : List (ByteArray × ByteArray)), ([] : List (ByteArray × ByteArray)), (⟨([] : List (ByteArray × ByteArray)), ([] : List (ByteArray × ByteArray)), m0.twins_, m0.found_, m0.full_, m0.sums_⟩ : mill_Mill).twins_, (⟨([] : List (ByteArray × ByteArray)), ([] : List (ByteArray × ByteArray)), m0.twins_, m0.found_, m0.full_, m0.sums_⟩ : mill_Mill).found_, (⟨([] : List (ByteArray × ByteArray)), ([] : List (ByteArray × ByteArray)), m0.twins_, m0.found_, m0.full_, m0.sums_⟩ : mill_Mill).full_, (⟨([] : List (ByteArray × ByteArray)), ([] : List (ByteArray × ByteArray)), m0.twins_, m0.found_, m0.full_, m0.sums_⟩ : mill_Mill).sums_⟩ : mill_Mill).twins_).e0), .string (((⟨([] : List (ByteArray × ByteArray)), ([] : List (ByteArray × ByteArray)), (⟨([] : List (ByteArray × ByteArray)), ([] : List (ByteArray × ByteArray)), m0.twins_, m0.found_, m0.full_, m0.sums_⟩ : mill_Mill).twins_, (⟨([] : List (ByteArray × ByteArray)), ([] : List (ByteArray × ByteArray)), m0.twins_, m0.found_, m0.full_, m0.sums_⟩ : mill_Mill).found_, (⟨([] : List (ByteArray × ByteArray)), ([] : List (ByteArray × ByteArray)), m0.twins_, m0.found_, m0.full_, m0.sums_⟩ : mill_Mill).full_, (⟨([] : List (ByteArray × ByteArray)), ([] : List (ByteArray × ByteArray)), m0.twins_, m0.found_, m0.full_, m0.sums_⟩ : mill_Mill).sums_⟩ : mill_Mill).twins_).e1), .bool ((⟨([] : List (ByteArray × ByteArray)), ([] : List (ByteArray × ByteArray)), (⟨([] : List (ByteArray × ByteArray)), ([] : List (ByteArray × ByteArray)), m0.twins_, m0.found_, m0.full_, m0.sums_⟩ : mill_Mill).twins_, (⟨([] : List (ByteArray × ByteArray)), ([] : List (ByteArray × ByteArray)), m0.twins_, m0.found_, m0.full_, m0.sums_⟩ : mill_Mill).found_, (⟨([] : List (ByteArray × ByteArray)), ([] : List (ByteArray × ByteArray)), m0.twins_, m0.found_, m0.full_, m0.sums_⟩ : mill_Mill).full_, (⟨([] : List (ByteArray × ByteArray)), ([] : List (ByteArray × ByteArray)), m0.twins_, m0.found_, m0.full_, m0.sums_⟩ : mill_Mill).sums_⟩ : mill_Mill).found_), .bool ((⟨([] : List (ByteArray × ByteArray)), ([] : List (ByteArray × ByteArray)), (⟨([] : List (ByteArray × ByteArray)), ([] : List (ByteArray × ByteArray)), m0.twins_, m0.found_, m0.full_, m0.sums_⟩ : mill_Mill).twins_, (⟨([] : List (ByteArray × ByteArray)), ([] : List (ByteArray × ByteArray)), m0.twins_, m0.found_, m0.full_, m0.sums_⟩ : mill_Mill).found_, (⟨([] : List (ByteArray × ByteArray)), ([] : List (ByteArray × ByteArray)), m0.twins_, m0.found_, m0.full_, m0.sums_⟩ : mill_Mill).full_, (⟨([] : List (ByteArray × ByteArray)), ([] : List (ByteArray × ByteArray)), m0.twins_, m0.found_, m0.full_, m0.sums_⟩ : mill_Mill).sums_⟩ : mill_Mill).full_), .int .i64 ((⟨([] : List (ByteArray × ByteArray)), ([] : List (ByteArray × ByteArray)), (⟨([] : List (ByteArray × ByteArray)), ([] : List (ByteArray × ByteArray)), m0.twins_, m0.found_, m0.full_, m0.sums_⟩ : mill_Mill).twins_, (⟨([] : List (ByteArray × ByteArray)), ([] : List (ByteArray × ByteArray)), m0.twins_, m0.found_, m0.full_, m0.sums_⟩ : mill_Mill).found_, (⟨([] : List (ByteArray × ByteArray)), ([] : List (ByteArray × ByteArray)), m0.twins_, m0.found_, m0.full_, m0.sums_⟩ : mill_Mill).full_, (⟨([] : List (ByteArray × ByteArray)), ([] : List (ByteArray × ByteArray)), m0.twins_, m0.found_, m0.full_, m0.sums_⟩ : mill_Mill).sums_⟩ : mill_Mill).sums_)] 50]) (fun w hs => sat_to [0, 0] 0 rfl hs) rfl (rr_tmp rfl) ⟨rfl, rfl⟩
  · refine cw_cond_f rfl rfl h23 ?_
    refine cw_skip ?_
    refine ew_then ?_
    refine cw_seq ?_
    refine cw_region ?_
    refine ow_vals 3 (j := 3) [7] [(7, .pointer (some ⟨b0, 6, none⟩))] rfl (by kernel_rfl) ?_
    refine ow_pw rfl (pw_quiet (v := .int .i64 ((⟨([] : List (ByteArray × ByteArray)), ([] : List (ByteArray × ByteArray)), m0.twins_, m0.found_, m0.full_, m0.sums_⟩ : mill_Mill).sums_)) rfl rfl rfl rfl (q_load 1 rfl rfl rfl (by kernel_rfl)) (nw_ow ?_))
    refine ow_vals 1 (j := 5) [2] [(2, .int .i64 ((⟨([] : List (ByteArray × ByteArray)), ([] : List (ByteArray × ByteArray)), m0.twins_, m0.found_, m0.full_, m0.sums_⟩ : mill_Mill).sums_))] rfl (by kernel_rfl) ?_
    refine ow_end rfl ?_
    refine ew_then ?_
    refine cw_ret ?_
    have hR := Option.some.inj hF
    subst hR
    exact fin1 (H1 := [imm I, pt b0 #[.map none, .map none, .string (((⟨([] : List (ByteArray × ByteArray)), ([] : List (ByteArray × ByteArray)), (⟨([] : List (ByteArray × ByteArray)), ([] : List (ByteArray × ByteArray)), m0.twins_, m0.found_, m0.full_, m0.sums_⟩ : mill_Mill).twins_, (⟨([] : List (ByteArray × ByteArray)), ([] : List (ByteArray × ByteArray)), m0.twins_, m0.found_, m0.full_, m0.sums_⟩ : mill_Mill).found_, (⟨([] : List (ByteArray × ByteArray)), ([] : List (ByteArray × ByteArray)), m0.twins_, m0.found_, m0.full_, m0.sums_⟩ : mill_Mill).full_, (⟨([] : List (ByteArray × ByteArray)), ([] : List (ByteArray × ByteArray)), m0.twins_, m0.found_, m0.full_, m0.sums_⟩ : mill_Mill).sums_⟩ : mill_Mill).twins_).e0), .string (((⟨([] : List (ByteArray × ByteArray)), ([] : List (ByteArray × ByteArray)), (⟨([] : List (ByteArray × ByteArray)), ([] : List (ByteArray × ByteArray)), m0.twins_, m0.found_, m0.full_, m0.sums_⟩ : mill_Mill).twins_, (⟨([] : List (ByteArray × ByteArray)), ([] : List (ByteArray × ByteArray)), m0.twins_, m0.found_, m0.full_, m0.sums_⟩ : mill_Mill).found_, (⟨([] : List (ByteArray × ByteArray)), ([] : List (ByteArray × ByteArray)), m0.twins_, m0.found_, m0.full_, m0.sums_⟩ : mill_Mill).full_, (⟨([] : List (ByteArray × ByteArray)), ([] : List (ByteArray × ByteArray)), m0.twins_, m0.found_, m0.full_, m0.sums_⟩ : mill_Mill).sums_⟩ : mill_Mill).twins_).e1), .bool ((⟨([] : List (ByteArray × ByteArray)), ([] : List (ByteArray × ByteArray)), (⟨([] : List (ByteArray × ByteArray)), ([] : List (ByteArray × ByteArray)), m0.twins_, m0.found_, m0.full_, m0.sums_⟩ : mill_Mill).twins_, (⟨([] : List (ByteArray × ByteArray)), ([] : List (ByteArray × ByteArray)), m0.twins_, m0.found_, m0.full_, m0.sums_⟩ : mill_Mill).found_, (⟨([] : List (ByteArray × ByteArray)), ([] : List (ByteArray × ByteArray)), m0.twins_, m0.found_, m0.full_, m0.sums_⟩ : mill_Mill).full_, (⟨([] : List (ByteArray × ByteArray)), ([] : List (ByteArray × ByteArray)), m0.twins_, m0.found_, m0.full_, m0.sums_⟩ : mill_Mill).sums_⟩ : mill_Mill).found_), .bool ((⟨([] : List (ByteArray × ByteArray)), ([] : List (ByteArray × ByteArray)), (⟨([] : List (ByteArray × ByteArray)), ([] : List (ByteArray × ByteArray)), m0.twins_, m0.found_, m0.full_, m0.sums_⟩ : mill_Mill).twins_, (⟨([] : List (ByteArray × ByteArray)), ([] : List (ByteArray × ByteArray)), m0.twins_, m0.found_, m0.full_, m0.sums_⟩ : mill_Mill).found_, (⟨([] : List (ByteArray × ByteArray)), ([] : List (ByteArray × ByteArray)), m0.twins_, m0.found_, m0.full_, m0.sums_⟩ : mill_Mill).full_, (⟨([] : List (ByteArray × ByteArray)), ([] : List (ByteArray × ByteArray)), m0.twins_, m0.found_, m0.full_, m0.sums_⟩ : mill_Mill).sums_⟩ : mill_Mill).full_), .int .i64 ((⟨([] : List (ByteArray × ByteArray)), ([] : List (ByteArray × ByteArray)), (⟨([] : List (ByteArray × ByteArray)), ([] : List (ByteArray × ByteArray)), m0.twins_, m0.found_, m0.full_, m0.sums_⟩ : mill_Mill).twins_, (⟨([] : List (ByteArray × ByteArray)), ([] : List (ByteArray × ByteArray)), m0.twins_, m0.found_, m0.full_, m0.sums_⟩ : mill_Mill).found_, (⟨([] : List (ByteArray × ByteArray)), ([] : List (ByteArray × ByteArray)), m0.twins_, m0.found_, m0.full_, m0.sums_⟩ : mill_Mill).full_, (⟨([] : List (ByteArray × ByteArray)), ([] : List (ByteArray × ByteArray)), m0.twins_, m0.found_, m0.full_, m0.sums_⟩ : mill_Mill).sums_⟩ : mill_Mill).sums_)] 50]) (fun w hs => sat_to [0, 0] 0 rfl hs) rfl (rr_tmp rfl) ⟨rfl, rfl⟩


def F.law03_MillNobody (x0 : ByteArray) (x1 : Int) : Option Bool :=
  Option.bind (F.mill_Mill_Twins_1) (fun (r23 : ByteArray × ByteArray × Bool) => Option.bind (F.mill_Mill_Sum_1 x0) (fun (r25 : ByteArray) => if seqB r25 (ByteArray.mk #[]) then (Option.bind (F.mill_Mill_Sum_2 x0 (⟨([] : List (ByteArray × ByteArray)), ([] : List (ByteArray × ByteArray)), (⟨(ByteArray.mk #[]), (ByteArray.mk #[])⟩ : A2_ByteArray), false, false, 0⟩ : mill_Mill)) (fun (r28 : ByteArray × mill_Mill) => if seqB r28.1 (ByteArray.mk #[]) then (Option.bind (F.mill_Mill_Tag_1 x0 x0) (fun (r31 : ByteArray) => if seqB r31 (ByteArray.mk #[]) then (Option.bind (F.mill_Mill_Stream_1 x0 x0 x1 (⟨([] : List (ByteArray × ByteArray)), ([] : List (ByteArray × ByteArray)), r28.2.twins_, r28.2.found_, r28.2.full_, r28.2.sums_⟩ : mill_Mill)) (fun (r34 : ByteArray × mill_Mill) => if seqB r34.1 (ByteArray.mk #[]) then (Option.bind (F.mill_Mill_Veil_1 x0 x0 x0) (fun (r37 : ByteArray) => if seqB r37 (ByteArray.mk #[]) then (chk (r23.1.size + r23.2.1.size ≤ 9223372036854775807) (if seqB (r23.1 ++ r23.2.1) (ByteArray.mk #[]) then (if !r23.2.2 then (Option.bind (F.mill_Mill_Full_1 (⟨([] : List (ByteArray × ByteArray)), ([] : List (ByteArray × ByteArray)), r34.2.twins_, r34.2.found_, r34.2.full_, r34.2.sums_⟩ : mill_Mill)) (fun (r43 : Bool × mill_Mill) => if !r43.1 then (Option.bind (F.mill_Mill_Sums_1) (fun (r46 : Int) => Option.bind (F.mill_Mill_Sums_2 (⟨([] : List (ByteArray × ByteArray)), ([] : List (ByteArray × ByteArray)), r43.2.twins_, r43.2.found_, r43.2.full_, r43.2.sums_⟩ : mill_Mill)) (fun (r48 : Int × mill_Mill) => if (IntKind.i64.wrap (r46 + r48.1)) == 0 then (Option.bind (F.mill_New) (fun (r51 : mill_Mill) => Option.bind (F.mill_Mill_Stream x0 x0 (-1) r51) (fun (r56 : ByteArray) => if seqB r56 (ByteArray.mk #[]) then (Option.bind (F.law03_awake) (fun (r59 : Bool) => some (r59))) else (some (false))))) else (some (false))))) else (some (false)))) else (some (false))) else (some (false)))) else (some (false)))) else (some (false)))) else (some (false)))) else (some (false)))) else (some (false))))
set_option maxRecDepth 100000 in
set_option maxHeartbeats 4000000 in
theorem c_law03_MillNobody (I : Hl) (x0 : ByteArray) (x1 : Int) (res : Bool) (hF : F.law03_MillNobody x0 x1 = some res) : Tr Try.prog 7 [.string x0, .int .i64 x1] [imm I] (fun r H' => r = .bool res ∧ H' = [imm I]) := by
  unfold F.law03_MillNobody at hF
  refine tr_of_cw (fn := Try.f7) Try.func7 rfl (Nat.le_of_ble_eq_true rfl) 78 rfl fun F0 w0 => ?_
  refine cw_keep [0, 1] (L' := [(0, .string x0), (1, .int .i64 x1)]) rfl ?_
  refine cw_state (S' := SAT w0 ([imm I] ++ F0)) (fun w hs => hs) ?_
  refine cw_seq ?_
  refine cw_region ?_
  refine ow_vals 1 (j := 1) [0, 1] [(0, .string x0), (1, .int .i64 x1)] rfl (by kernel_rfl) ?_
  refine ow_end rfl ?_
  refine ew_then ?_
  refine cw_seq ?_
  refine cw_region ?_
  refine ow_vals 1 (j := 1) [0, 1, 5] [(0, .string x0), (1, .int .i64 x1), (5, .pointer none)] rfl (by kernel_rfl) ?_
  refine ow_end rfl ?_
  refine ew_then ?_
  refine cw_seq ?_
  refine cw_region ?_
  refine ow_pw rfl (pw_alloc (cs := #[.map none, .map none, .string (ByteArray.mk #[]), .string (ByteArray.mk #[]), .bool false, .bool false, .int .i64 0]) rfl rfl rfl rfl rfl (by kernel_rfl) fun b21 => nw_ow ?_)
  refine ow_end rfl ?_
  refine ew_then ?_
  refine cw_seq ?_
  refine cw_region ?_
  refine ow_vals 1 (j := 1) [0, 1, 5, 6, 11] [(0, .string x0), (1, .int .i64 x1), (5, .pointer none), (6, .pointer (some ⟨b21, 0, none⟩)), (11, .pointer none)] rfl (by kernel_rfl) ?_
  obtain ⟨r23, h24, hF⟩ := bind_some hF
  refine ow_pw rfl (pw_call (F := [pt b21 #[.map none, .map none, .string (ByteArray.mk #[]), .string (ByteArray.mk #[]), .bool false, .bool false, .int .i64 0] 50] ++ F0) rfl rfl rfl rfl rfl rfl rfl (by kernel_rfl) (perm_of_pulls [1] rfl) (c_mill_Mill_Twins_1 _ r23 h24) ?_)
  rintro _ _ ⟨rfl, rfl⟩
  refine nw_H (H' := [imm I, pt b21 #[.map none, .map none, .string (ByteArray.mk #[]), .string (ByteArray.mk #[]), .bool false, .bool false, .int .i64 0] 50] ++ F0) rfl (nw_ow ?_)
  refine ow_vals 7 (j := 9) [0, 1, 5, 6, 7, 8, 9] [(0, .string x0), (1, .int .i64 x1), (5, .pointer none), (6, .pointer (some ⟨b21, 0, none⟩)), (7, .string r23.1), (8, .string r23.2.1), (9, .bool r23.2.2)] rfl (by kernel_rfl) ?_
  refine ow_end rfl ?_
  refine ew_then ?_
  refine cw_seq ?_
  refine cw_region ?_
  refine ow_vals 2 (j := 2) [0, 1, 5, 6, 7, 8, 9, 16, 17] [(0, .string x0), (1, .int .i64 x1), (5, .pointer none), (6, .pointer (some ⟨b21, 0, none⟩)), (7, .string r23.1), (8, .string r23.2.1), (9, .bool r23.2.2), (16, .pointer none), (17, .string x0)] rfl (by kernel_rfl) ?_
  obtain ⟨r25, h26, hF⟩ := bind_some hF
  refine ow_pw rfl (pw_call (F := [pt b21 #[.map none, .map none, .string (ByteArray.mk #[]), .string (ByteArray.mk #[]), .bool false, .bool false, .int .i64 0] 50] ++ F0) rfl rfl rfl rfl rfl rfl rfl (by kernel_rfl) (perm_of_pulls [0] rfl) (c_mill_Mill_Sum_1 _ x0 r25 h26) ?_)
  rintro _ _ ⟨rfl, rfl⟩
  refine nw_H (H' := [imm I, pt b21 #[.map none, .map none, .string (ByteArray.mk #[]), .string (ByteArray.mk #[]), .bool false, .bool false, .int .i64 0] 50] ++ F0) rfl (nw_ow ?_)
  refine ow_vals 2 (j := 5) [0, 1, 5, 6, 7, 8, 9, 20] [(0, .string x0), (1, .int .i64 x1), (5, .pointer none), (6, .pointer (some ⟨b21, 0, none⟩)), (7, .string r23.1), (8, .string r23.2.1), (9, .bool r23.2.2), (20, .bool (seqB r25 (ByteArray.mk #[])))] rfl (by kernel_rfl) ?_
  rcases if_some hF with ⟨h27, hF⟩ | ⟨h27, hF⟩
  · refine ow_slots (L' := [(0, .string x0), (1, .int .i64 x1), (5, .pointer none), (6, .pointer (some ⟨b21, 0, none⟩)), (7, .string r23.1), (8, .string r23.2.1), (9, .bool r23.2.2), (20, .bool true)]) (by rw [h27]) ?_
    refine ow_vals 1 (j := 6) [0, 1, 5, 6, 7, 8, 9, 20, 21] [(0, .string x0), (1, .int .i64 x1), (5, .pointer none), (6, .pointer (some ⟨b21, 0, none⟩)), (7, .string r23.1), (8, .string r23.2.1), (9, .bool r23.2.2), (20, .bool true), (21, .string x0)] rfl (by kernel_rfl) ?_
    obtain ⟨r28, h29, hF⟩ := bind_some hF
    refine ow_pw rfl (pw_call (F := [] ++ F0) rfl rfl rfl rfl rfl rfl rfl (by kernel_rfl) (perm_of_pulls [0, 0] rfl) (c_mill_Mill_Sum_2 _ x0 (⟨([] : List (ByteArray × ByteArray)), ([] : List (ByteArray × ByteArray)), (⟨(ByteArray.mk #[]), (ByteArray.mk #[])⟩ : A2_ByteArray), false, false, 0⟩ : mill_Mill) b21 r28 h29) ?_)
    rintro _ _ ⟨rfl, rfl⟩
    refine nw_H (H' := [imm I, pt b21 #[.map none, .map none, .string r28.2.twins_.e0, .string r28.2.twins_.e1, .bool r28.2.found_, .bool r28.2.full_, .int .i64 r28.2.sums_] 50] ++ F0) rfl (nw_ow ?_)
    refine ow_vals 3 (j := 10) [0, 1, 5, 6, 7, 8, 9, 25] [(0, .string x0), (1, .int .i64 x1), (5, .pointer none), (6, .pointer (some ⟨b21, 0, none⟩)), (7, .string r23.1), (8, .string r23.2.1), (9, .bool r23.2.2), (25, .bool (seqB r28.1 (ByteArray.mk #[])))] rfl (by kernel_rfl) ?_
    rcases if_some hF with ⟨h30, hF⟩ | ⟨h30, hF⟩
    · refine ow_slots (L' := [(0, .string x0), (1, .int .i64 x1), (5, .pointer none), (6, .pointer (some ⟨b21, 0, none⟩)), (7, .string r23.1), (8, .string r23.2.1), (9, .bool r23.2.2), (25, .bool true)]) (by rw [h30]) ?_
      refine ow_vals 3 (j := 13) [0, 1, 5, 6, 7, 8, 9, 25, 26, 27, 28] [(0, .string x0), (1, .int .i64 x1), (5, .pointer none), (6, .pointer (some ⟨b21, 0, none⟩)), (7, .string r23.1), (8, .string r23.2.1), (9, .bool r23.2.2), (25, .bool true), (26, .pointer none), (27, .string x0), (28, .string x0)] rfl (by kernel_rfl) ?_
      obtain ⟨r31, h32, hF⟩ := bind_some hF
      refine ow_pw rfl (pw_call (F := [pt b21 #[.map none, .map none, .string r28.2.twins_.e0, .string r28.2.twins_.e1, .bool r28.2.found_, .bool r28.2.full_, .int .i64 r28.2.sums_] 50] ++ F0) rfl rfl rfl rfl rfl rfl rfl (by kernel_rfl) (perm_of_pulls [0] rfl) (c_mill_Mill_Tag_1 _ x0 x0 r31 h32) ?_)
      rintro _ _ ⟨rfl, rfl⟩
      refine nw_H (H' := [imm I, pt b21 #[.map none, .map none, .string r28.2.twins_.e0, .string r28.2.twins_.e1, .bool r28.2.found_, .bool r28.2.full_, .int .i64 r28.2.sums_] 50] ++ F0) rfl (nw_ow ?_)
      refine ow_vals 3 (j := 17) [0, 1, 5, 6, 7, 8, 9, 32] [(0, .string x0), (1, .int .i64 x1), (5, .pointer none), (6, .pointer (some ⟨b21, 0, none⟩)), (7, .string r23.1), (8, .string r23.2.1), (9, .bool r23.2.2), (32, .bool (seqB r31 (ByteArray.mk #[])))] rfl (by kernel_rfl) ?_
      rcases if_some hF with ⟨h33, hF⟩ | ⟨h33, hF⟩
      · refine ow_slots (L' := [(0, .string x0), (1, .int .i64 x1), (5, .pointer none), (6, .pointer (some ⟨b21, 0, none⟩)), (7, .string r23.1), (8, .string r23.2.1), (9, .bool r23.2.2), (32, .bool true)]) (by rw [h33]) ?_
        refine ow_vals 3 (j := 20) [0, 5, 6, 7, 8, 9, 32, 33, 34, 35] [(0, .string x0), (5, .pointer none), (6, .pointer (some ⟨b21, 0, none⟩)), (7, .string r23.1), (8, .string r23.2.1), (9, .bool r23.2.2), (32, .bool true), (33, .string x0), (34, .string x0), (35, .int .i64 x1)] rfl (by kernel_rfl) ?_
        obtain ⟨r34, h35, hF⟩ := bind_some hF
        refine ow_pw rfl (pw_call (F := [] ++ F0) rfl rfl rfl rfl rfl rfl rfl (by kernel_rfl) (perm_of_pulls [0, 0] rfl) (c_mill_Mill_Stream_1 _ x0 x0 x1 (⟨([] : List (ByteArray × ByteArray)), ([] : List (ByteArray × ByteArray)), r28.2.twins_, r28.2.found_, r28.2.full_, r28.2.sums_⟩ : mill_Mill) b21 r34 h35) ?_)
        rintro _ _ ⟨rfl, rfl⟩
        refine nw_H (H' := [imm I, pt b21 #[.map none, .map none, .string r34.2.twins_.e0, .string r34.2.twins_.e1, .bool r34.2.found_, .bool r34.2.full_, .int .i64 r34.2.sums_] 50] ++ F0) rfl (nw_ow ?_)
        refine ow_vals 3 (j := 24) [0, 5, 6, 7, 8, 9, 39] [(0, .string x0), (5, .pointer none), (6, .pointer (some ⟨b21, 0, none⟩)), (7, .string r23.1), (8, .string r23.2.1), (9, .bool r23.2.2), (39, .bool (seqB r34.1 (ByteArray.mk #[])))] rfl (by kernel_rfl) ?_
        rcases if_some hF with ⟨h36, hF⟩ | ⟨h36, hF⟩
        · refine ow_slots (L' := [(0, .string x0), (5, .pointer none), (6, .pointer (some ⟨b21, 0, none⟩)), (7, .string r23.1), (8, .string r23.2.1), (9, .bool r23.2.2), (39, .bool true)]) (by rw [h36]) ?_
          refine ow_vals 4 (j := 28) [0, 5, 6, 7, 8, 9, 39, 40, 41, 42, 43] [(0, .string x0), (5, .pointer none), (6, .pointer (some ⟨b21, 0, none⟩)), (7, .string r23.1), (8, .string r23.2.1), (9, .bool r23.2.2), (39, .bool true), (40, .pointer none), (41, .string x0), (42, .string x0), (43, .string x0)] rfl (by kernel_rfl) ?_
          obtain ⟨r37, h38, hF⟩ := bind_some hF
          refine ow_pw rfl (pw_call (F := [pt b21 #[.map none, .map none, .string r34.2.twins_.e0, .string r34.2.twins_.e1, .bool r34.2.found_, .bool r34.2.full_, .int .i64 r34.2.sums_] 50] ++ F0) rfl rfl rfl rfl rfl rfl rfl (by kernel_rfl) (perm_of_pulls [0] rfl) (c_mill_Mill_Veil_1 _ x0 x0 x0 r37 h38) ?_)
          rintro _ _ ⟨rfl, rfl⟩
          refine nw_H (H' := [imm I, pt b21 #[.map none, .map none, .string r34.2.twins_.e0, .string r34.2.twins_.e1, .bool r34.2.found_, .bool r34.2.full_, .int .i64 r34.2.sums_] 50] ++ F0) rfl (nw_ow ?_)
          refine ow_vals 3 (j := 32) [0, 5, 6, 7, 8, 9, 47] [(0, .string x0), (5, .pointer none), (6, .pointer (some ⟨b21, 0, none⟩)), (7, .string r23.1), (8, .string r23.2.1), (9, .bool r23.2.2), (47, .bool (seqB r37 (ByteArray.mk #[])))] rfl (by kernel_rfl) ?_
          rcases if_some hF with ⟨h39, hF⟩ | ⟨h39, hF⟩
          · refine ow_slots (L' := [(0, .string x0), (5, .pointer none), (6, .pointer (some ⟨b21, 0, none⟩)), (7, .string r23.1), (8, .string r23.2.1), (9, .bool r23.2.2), (47, .bool true)]) (by rw [h39]) ?_
            refine ow_vals 2 (j := 34) [0, 5, 6, 9, 47, 48, 49] [(0, .string x0), (5, .pointer none), (6, .pointer (some ⟨b21, 0, none⟩)), (9, .bool r23.2.2), (47, .bool true), (48, .string r23.1), (49, .string r23.2.1)] rfl (by kernel_rfl) ?_
            obtain ⟨h40, hF⟩ := chk_some hF
            refine ow_pw rfl (pw_quiet (v := .string (r23.1 ++ r23.2.1)) rfl rfl rfl rfl (q_concat rfl rfl rfl h40) (nw_ow ?_))
            refine ow_vals 3 (j := 38) [0, 5, 6, 9, 53] [(0, .string x0), (5, .pointer none), (6, .pointer (some ⟨b21, 0, none⟩)), (9, .bool r23.2.2), (53, .bool (seqB (r23.1 ++ r23.2.1) (ByteArray.mk #[])))] rfl (by kernel_rfl) ?_
            rcases if_some hF with ⟨h41, hF⟩ | ⟨h41, hF⟩
            · refine ow_slots (L' := [(0, .string x0), (5, .pointer none), (6, .pointer (some ⟨b21, 0, none⟩)), (9, .bool r23.2.2), (53, .bool true)]) (by rw [h41]) ?_
              refine ow_vals 4 (j := 42) [0, 5, 6, 57] [(0, .string x0), (5, .pointer none), (6, .pointer (some ⟨b21, 0, none⟩)), (57, .bool (!r23.2.2))] rfl (by kernel_rfl) ?_
              rcases if_some hF with ⟨h42, hF⟩ | ⟨h42, hF⟩
              · refine ow_slots (L' := [(0, .string x0), (5, .pointer none), (6, .pointer (some ⟨b21, 0, none⟩)), (57, .bool true)]) (by rw [h42]) ?_
                obtain ⟨r43, h44, hF⟩ := bind_some hF
                refine ow_pw rfl (pw_call (F := [] ++ F0) rfl rfl rfl rfl rfl rfl rfl (by kernel_rfl) (perm_of_pulls [0, 0] rfl) (c_mill_Mill_Full_1 _ (⟨([] : List (ByteArray × ByteArray)), ([] : List (ByteArray × ByteArray)), r34.2.twins_, r34.2.found_, r34.2.full_, r34.2.sums_⟩ : mill_Mill) b21 r43 h44) ?_)
                rintro _ _ ⟨rfl, rfl⟩
                refine nw_H (H' := [imm I, pt b21 #[.map none, .map none, .string r43.2.twins_.e0, .string r43.2.twins_.e1, .bool r43.2.found_, .bool r43.2.full_, .int .i64 r43.2.sums_] 50] ++ F0) rfl (nw_ow ?_)
                refine ow_vals 3 (j := 46) [0, 5, 6, 61] [(0, .string x0), (5, .pointer none), (6, .pointer (some ⟨b21, 0, none⟩)), (61, .bool (!r43.1))] rfl (by kernel_rfl) ?_
                rcases if_some hF with ⟨h45, hF⟩ | ⟨h45, hF⟩
                · refine ow_slots (L' := [(0, .string x0), (5, .pointer none), (6, .pointer (some ⟨b21, 0, none⟩)), (61, .bool true)]) (by rw [h45]) ?_
                  refine ow_vals 1 (j := 47) [0, 6, 61, 62] [(0, .string x0), (6, .pointer (some ⟨b21, 0, none⟩)), (61, .bool true), (62, .pointer none)] rfl (by kernel_rfl) ?_
                  obtain ⟨r46, h47, hF⟩ := bind_some hF
                  refine ow_pw rfl (pw_call (F := [pt b21 #[.map none, .map none, .string r43.2.twins_.e0, .string r43.2.twins_.e1, .bool r43.2.found_, .bool r43.2.full_, .int .i64 r43.2.sums_] 50] ++ F0) rfl rfl rfl rfl rfl rfl rfl (by kernel_rfl) (perm_of_pulls [0] rfl) (c_mill_Mill_Sums_1 _ r46 h47) ?_)
                  rintro _ _ ⟨rfl, rfl⟩
                  refine nw_H (H' := [imm I, pt b21 #[.map none, .map none, .string r43.2.twins_.e0, .string r43.2.twins_.e1, .bool r43.2.found_, .bool r43.2.full_, .int .i64 r43.2.sums_] 50] ++ F0) rfl (nw_ow ?_)
                  obtain ⟨r48, h49, hF⟩ := bind_some hF
                  refine ow_pw rfl (pw_call (F := [] ++ F0) rfl rfl rfl rfl rfl rfl rfl (by kernel_rfl) (perm_of_pulls [0, 0] rfl) (c_mill_Mill_Sums_2 _ (⟨([] : List (ByteArray × ByteArray)), ([] : List (ByteArray × ByteArray)), r43.2.twins_, r43.2.found_, r43.2.full_, r43.2.sums_⟩ : mill_Mill) b21 r48 h49) ?_)
                  rintro _ _ ⟨rfl, rfl⟩
                  refine nw_H (H' := [imm I, pt b21 #[.map none, .map none, .string r48.2.twins_.e0, .string r48.2.twins_.e1, .bool r48.2.found_, .bool r48.2.full_, .int .i64 r48.2.sums_] 50] ++ F0) rfl (nw_ow ?_)
                  refine ow_vals 4 (j := 53) [0, 68] [(0, .string x0), (68, .bool ((IntKind.i64.wrap (r46 + r48.1)) == 0))] rfl (by kernel_rfl) ?_
                  rcases if_some hF with ⟨h50, hF⟩ | ⟨h50, hF⟩
                  · refine ow_slots (L' := [(0, .string x0), (68, .bool true)]) (by rw [h50]) ?_
                    obtain ⟨r51, h52, hF⟩ := bind_some hF
                    refine ow_pw rfl (pw_call (F := [pt b21 #[.map none, .map none, .string r48.2.twins_.e0, .string r48.2.twins_.e1, .bool r48.2.found_, .bool r48.2.full_, .int .i64 r48.2.sums_] 50] ++ F0) rfl rfl rfl rfl rfl rfl rfl (by kernel_rfl) (perm_of_pulls [0] rfl) (c_mill_New _ r51 h52) ?_)
                    rintro _ _ ⟨r51_b1, r51_b3, r51_b5, rfl, rfl⟩
                    refine nw_H (H' := [imm I, pt r51_b1 #[.map (some r51_b3), .map (some r51_b5), .string r51.twins_.e0, .string r51.twins_.e1, .bool r51.found_, .bool r51.full_, .int .i64 r51.sums_] 50, mpo kStr kStr r51_b3 r51.table_, mpo kStr kStr r51_b5 r51.notes_, pt b21 #[.map none, .map none, .string r48.2.twins_.e0, .string r48.2.twins_.e1, .bool r48.2.found_, .bool r48.2.full_, .int .i64 r48.2.sums_] 50] ++ F0) rfl (nw_ow ?_)
                    refine ow_vals 2 (j := 56) [68, 69, 70, 71] [(68, .bool true), (69, .pointer (some ⟨r51_b1, 0, none⟩)), (70, .string x0), (71, .string x0)] rfl (by kernel_rfl) ?_
                    obtain ⟨r56, h57, hF⟩ := bind_some hF
                    refine ow_pw rfl (pw_call (F := [pt b21 #[.map none, .map none, .string r48.2.twins_.e0, .string r48.2.twins_.e1, .bool r48.2.found_, .bool r48.2.full_, .int .i64 r48.2.sums_] 50] ++ F0) rfl rfl rfl rfl rfl rfl rfl (by kernel_rfl) (perm_of_pulls [0, 0, 0, 0] rfl) (c_mill_Mill_Stream _ x0 x0 (-1) r51 r51_b3 r51_b5 r51_b1 r56 h57) ?_)
                    rintro _ _ ⟨rfl, rfl⟩
                    refine nw_H (H' := [imm I, pt r51_b1 #[.map (some r51_b3), .map (some r51_b5), .string r51.twins_.e0, .string r51.twins_.e1, .bool r51.found_, .bool r51.full_, .int .i64 r51.sums_] 50, mpo kStr kStr r51_b3 r51.table_, mpo kStr kStr r51_b5 r51.notes_, pt b21 #[.map none, .map none, .string r48.2.twins_.e0, .string r48.2.twins_.e1, .bool r48.2.found_, .bool r48.2.full_, .int .i64 r48.2.sums_] 50] ++ F0) rfl (nw_ow ?_)
                    refine ow_vals 3 (j := 60) [75] [(75, .bool (seqB r56 (ByteArray.mk #[])))] rfl (by kernel_rfl) ?_
                    rcases if_some hF with ⟨h58, hF⟩ | ⟨h58, hF⟩
                    · refine ow_slots (L' := [(75, .bool true)]) (by rw [h58]) ?_
                      obtain ⟨r59, h60, hF⟩ := bind_some hF
                      refine ow_pw rfl (pw_call (F := [pt r51_b1 #[.map (some r51_b3), .map (some r51_b5), .string r51.twins_.e0, .string r51.twins_.e1, .bool r51.found_, .bool r51.full_, .int .i64 r51.sums_] 50, mpo kStr kStr r51_b3 r51.table_, mpo kStr kStr r51_b5 r51.notes_, pt b21 #[.map none, .map none, .string r48.2.twins_.e0, .string r48.2.twins_.e1, .bool r48.2.found_, .bool r48.2.full_, .int .i64 r48.2.sums_] 50] ++ F0) rfl rfl rfl rfl rfl rfl rfl (by kernel_rfl) (perm_of_pulls [0] rfl) (c_law03_awake _ r59 h60) ?_)
                      rintro _ _ ⟨rfl, rfl⟩
                      refine nw_H (H' := [imm I, pt r51_b1 #[.map (some r51_b3), .map (some r51_b5), .string r51.twins_.e0, .string r51.twins_.e1, .bool r51.found_, .bool r51.full_, .int .i64 r51.sums_] 50, mpo kStr kStr r51_b3 r51.table_, mpo kStr kStr r51_b5 r51.notes_, pt b21 #[.map none, .map none, .string r48.2.twins_.e0, .string r48.2.twins_.e1, .bool r48.2.found_, .bool r48.2.full_, .int .i64 r48.2.sums_] 50] ++ F0) rfl (nw_ow ?_)
                      refine ow_vals 2 (j := 63) [4] [(4, .bool r59)] rfl (by kernel_rfl) ?_
                      refine ow_end rfl ?_
                      refine ew_then ?_
                      refine cw_ret ?_
                      have hR := Option.some.inj hF
                      subst hR
                      exact fin1 (H1 := [imm I]) (fun w hs => sat_to [1, 1, 1, 1, 0] 4 rfl hs) rfl (rr_tmp rfl) ⟨rfl, rfl⟩
                    · refine ow_slots (L' := [(75, .bool false)]) (by rw [h58]) ?_
                      refine ow_vals 3 (j := 63) [4] [(4, .bool false)] rfl (by kernel_rfl) ?_
                      refine ow_end rfl ?_
                      refine ew_then ?_
                      refine cw_ret ?_
                      have hR := Option.some.inj hF
                      subst hR
                      exact fin1 (H1 := [imm I]) (fun w hs => sat_to [1, 1, 1, 1, 0] 4 rfl hs) rfl (rr_tmp rfl) ⟨rfl, rfl⟩
                  · refine ow_slots (L' := [(0, .string x0), (68, .bool false)]) (by rw [h50]) ?_
                    refine ow_vals 10 (j := 63) [4] [(4, .bool false)] rfl (by kernel_rfl) ?_
                    refine ow_end rfl ?_
                    refine ew_then ?_
                    refine cw_ret ?_
                    have hR := Option.some.inj hF
                    subst hR
                    exact fin1 (H1 := [imm I]) (fun w hs => sat_to [1, 0] 1 rfl hs) rfl (rr_tmp rfl) ⟨rfl, rfl⟩
                · refine ow_slots (L' := [(0, .string x0), (5, .pointer none), (6, .pointer (some ⟨b21, 0, none⟩)), (61, .bool false)]) (by rw [h45]) ?_
                  refine ow_vals 17 (j := 63) [4] [(4, .bool false)] rfl (by kernel_rfl) ?_
                  refine ow_end rfl ?_
                  refine ew_then ?_
                  refine cw_ret ?_
                  have hR := Option.some.inj hF
                  subst hR
                  exact fin1 (H1 := [imm I]) (fun w hs => sat_to [1, 0] 1 rfl hs) rfl (rr_tmp rfl) ⟨rfl, rfl⟩
              · refine ow_slots (L' := [(0, .string x0), (5, .pointer none), (6, .pointer (some ⟨b21, 0, none⟩)), (57, .bool false)]) (by rw [h42]) ?_
                refine ow_vals 21 (j := 63) [4] [(4, .bool false)] rfl (by kernel_rfl) ?_
                refine ow_end rfl ?_
                refine ew_then ?_
                refine cw_ret ?_
                have hR := Option.some.inj hF
                subst hR
                exact fin1 (H1 := [imm I]) (fun w hs => sat_to [1, 0] 1 rfl hs) rfl (rr_tmp rfl) ⟨rfl, rfl⟩
            · refine ow_slots (L' := [(0, .string x0), (5, .pointer none), (6, .pointer (some ⟨b21, 0, none⟩)), (9, .bool r23.2.2), (53, .bool false)]) (by rw [h41]) ?_
              refine ow_vals 25 (j := 63) [4] [(4, .bool false)] rfl (by kernel_rfl) ?_
              refine ow_end rfl ?_
              refine ew_then ?_
              refine cw_ret ?_
              have hR := Option.some.inj hF
              subst hR
              exact fin1 (H1 := [imm I]) (fun w hs => sat_to [1, 0] 1 rfl hs) rfl (rr_tmp rfl) ⟨rfl, rfl⟩
          · refine ow_slots (L' := [(0, .string x0), (5, .pointer none), (6, .pointer (some ⟨b21, 0, none⟩)), (7, .string r23.1), (8, .string r23.2.1), (9, .bool r23.2.2), (47, .bool false)]) (by rw [h39]) ?_
            refine ow_vals 31 (j := 63) [4] [(4, .bool false)] rfl (by kernel_rfl) ?_
            refine ow_end rfl ?_
            refine ew_then ?_
            refine cw_ret ?_
            have hR := Option.some.inj hF
            subst hR
            exact fin1 (H1 := [imm I]) (fun w hs => sat_to [1, 0] 1 rfl hs) rfl (rr_tmp rfl) ⟨rfl, rfl⟩
        · refine ow_slots (L' := [(0, .string x0), (5, .pointer none), (6, .pointer (some ⟨b21, 0, none⟩)), (7, .string r23.1), (8, .string r23.2.1), (9, .bool r23.2.2), (39, .bool false)]) (by rw [h36]) ?_
          refine ow_vals 39 (j := 63) [4] [(4, .bool false)] rfl (by kernel_rfl) ?_
          refine ow_end rfl ?_
          refine ew_then ?_
          refine cw_ret ?_
          have hR := Option.some.inj hF
          subst hR
          exact fin1 (H1 := [imm I]) (fun w hs => sat_to [1, 0] 1 rfl hs) rfl (rr_tmp rfl) ⟨rfl, rfl⟩
      · refine ow_slots (L' := [(0, .string x0), (1, .int .i64 x1), (5, .pointer none), (6, .pointer (some ⟨b21, 0, none⟩)), (7, .string r23.1), (8, .string r23.2.1), (9, .bool r23.2.2), (32, .bool false)]) (by rw [h33]) ?_
        refine ow_vals 46 (j := 63) [4] [(4, .bool false)] rfl (by kernel_rfl) ?_
        refine ow_end rfl ?_
        refine ew_then ?_
        refine cw_ret ?_
        have hR := Option.some.inj hF
        subst hR
        exact fin1 (H1 := [imm I]) (fun w hs => sat_to [1, 0] 1 rfl hs) rfl (rr_tmp rfl) ⟨rfl, rfl⟩
    · refine ow_slots (L' := [(0, .string x0), (1, .int .i64 x1), (5, .pointer none), (6, .pointer (some ⟨b21, 0, none⟩)), (7, .string r23.1), (8, .string r23.2.1), (9, .bool r23.2.2), (25, .bool false)]) (by rw [h30]) ?_
      refine ow_vals 53 (j := 63) [4] [(4, .bool false)] rfl (by kernel_rfl) ?_
      refine ow_end rfl ?_
      refine ew_then ?_
      refine cw_ret ?_
      have hR := Option.some.inj hF
      subst hR
      exact fin1 (H1 := [imm I]) (fun w hs => sat_to [1, 0] 1 rfl hs) rfl (rr_tmp rfl) ⟨rfl, rfl⟩
  · refine ow_slots (L' := [(0, .string x0), (1, .int .i64 x1), (5, .pointer none), (6, .pointer (some ⟨b21, 0, none⟩)), (7, .string r23.1), (8, .string r23.2.1), (9, .bool r23.2.2), (20, .bool false)]) (by rw [h27]) ?_
    refine ow_vals 58 (j := 63) [4] [(4, .bool false)] rfl (by kernel_rfl) ?_
    refine ow_end rfl ?_
    refine ew_then ?_
    refine cw_ret ?_
    have hR := Option.some.inj hF
    subst hR
    exact fin1 (H1 := [imm I]) (fun w hs => sat_to [1, 0] 1 rfl hs) rfl (rr_tmp rfl) ⟨rfl, rfl⟩

end Go.Proofs.Ytgkkgmnomiokbaa
