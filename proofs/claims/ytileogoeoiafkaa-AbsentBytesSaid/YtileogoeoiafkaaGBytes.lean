/- What the functions compute, and that the code computes it: printed by a program of this claim (wip/tools), for the group Bytes. -/
import Derived.Test.YtileogoeoiafkaaGFew
import Derived.Test.YtileogoeoiafkaaGSame
import Derived.Test.YtileogoeoiafkaaFw2
namespace Go.Proofs.Ytileogoeoiafkaa
set_option linter.all false
open Go Go.RowKit Go.Fw
set_option linter.unusedVariables false

structure octet_Reader where
  s_ : ByteArray
  at_ : Int
  e_ : Int
def octet_Reader.cells (x : octet_Reader) : List Go.Value := [.string x.s_, .int .i64 x.at_, .int .i64 x.e_]
def e_octet_Reader : Enc octet_Reader := ⟨octet_Reader.cells, 3, fun _ => rfl, fun _ => rfl, by decide⟩

structure octet_Writer where
  s_ : ByteArray
  no_ : Bool
def octet_Writer.cells (x : octet_Writer) : List Go.Value := [.string x.s_, .bool x.no_]
def e_octet_Writer : Enc octet_Writer := ⟨octet_Writer.cells, 2, fun _ => rfl, fun _ => rfl, by decide⟩

def F.octet_Reader_Err (m0 : octet_Reader) : Option Int :=
  some (m0.e_)
set_option maxRecDepth 100000 in
set_option maxHeartbeats 4000000 in
theorem c_octet_Reader_Err (I : Hl) (m0 : octet_Reader) (b0 : Nat) (res : Int) (hF : F.octet_Reader_Err m0 = some res) : Tr Try.prog 72 [.pointer (some ⟨b0, 0, none⟩)] [imm I, pt b0 #[.string m0.s_, .int .i64 m0.at_, .int .i64 m0.e_] 104] (fun r H' => r = .int .i64 res ∧ H' = [imm I, pt b0 #[.string m0.s_, .int .i64 m0.at_, .int .i64 m0.e_] 104]) := by
  unfold F.octet_Reader_Err at hF
  refine tr_of_cw (fn := Try.f72) Try.func72 rfl (Nat.le_of_ble_eq_true rfl) 9 rfl fun F0 w0 => ?_
  refine cw_keep [0] (L' := [(0, .pointer (some ⟨b0, 0, none⟩))]) rfl ?_
  refine cw_state (S' := SAT w0 ([imm I, pt b0 #[.string m0.s_, .int .i64 m0.at_, .int .i64 m0.e_] 104] ++ F0)) (fun w hs => hs) ?_
  refine cw_seq ?_
  refine cw_region ?_
  refine ow_vals 1 (j := 1) [0] [(0, .pointer (some ⟨b0, 0, none⟩))] rfl (by kernel_rfl) ?_
  refine ow_end rfl ?_
  refine ew_then ?_
  refine cw_seq ?_
  refine cw_seq ?_
  refine cw_region ?_
  refine ow_vals 2 (j := 2) [0, 4] [(0, .pointer (some ⟨b0, 0, none⟩)), (4, .bool false)] rfl (by kernel_rfl) ?_
  refine ow_end rfl ?_
  refine ew_then ?_
  refine cw_cond_f rfl rfl rfl ?_
  refine cw_skip ?_
  refine ew_then ?_
  refine cw_seq ?_
  refine cw_region ?_
  refine ow_vals 3 (j := 3) [7] [(7, .pointer (some ⟨b0, 2, none⟩))] rfl (by kernel_rfl) ?_
  refine ow_pw rfl (pw_quiet (v := .int .i64 m0.e_) rfl rfl rfl rfl (q_load 1 rfl rfl rfl (by kernel_rfl)) (nw_ow ?_))
  refine ow_vals 1 (j := 5) [2] [(2, .int .i64 m0.e_)] rfl (by kernel_rfl) ?_
  refine ow_end rfl ?_
  refine ew_then ?_
  refine cw_ret ?_
  have hR := Option.some.inj hF
  subst hR
  exact fin1 (H1 := [imm I, pt b0 #[.string m0.s_, .int .i64 m0.at_, .int .i64 m0.e_] 104]) (fun w hs => sat_to [0, 0] 0 rfl hs) rfl (rr_tmp rfl) ⟨rfl, rfl⟩


def F.octet_Reader_Fail.r1 (x1 : Int) (m0 : octet_Reader) : Option (octet_Reader) :=
  if m0.e_ == 0 then (some ((⟨m0.s_, m0.at_, x1⟩ : octet_Reader))) else (some (m0))
def F.octet_Reader_Fail (x1 : Int) (m0 : octet_Reader) : Option octet_Reader :=
  Option.bind (some (())) (fun x => F.octet_Reader_Fail.r1 x1 m0)
set_option maxRecDepth 100000 in
set_option maxHeartbeats 4000000 in
theorem c_octet_Reader_Fail (I : Hl) (x1 : Int) (m0 : octet_Reader) (b0 : Nat) (res : octet_Reader) (hF : F.octet_Reader_Fail x1 m0 = some res) : Tr Try.prog 71 [.pointer (some ⟨b0, 0, none⟩), .int .i64 x1] [imm I, pt b0 #[.string m0.s_, .int .i64 m0.at_, .int .i64 m0.e_] 104] (fun r H' => r = .tuple #[] ∧ H' = [imm I, pt b0 #[.string res.s_, .int .i64 res.at_, .int .i64 res.e_] 104]) := by
  unfold F.octet_Reader_Fail at hF
  refine tr_of_cw (fn := Try.f71) Try.func71 rfl (Nat.le_of_ble_eq_true rfl) 17 rfl fun F0 w0 => ?_
  refine cw_keep [0, 1] (L' := [(0, .pointer (some ⟨b0, 0, none⟩)), (1, .int .i64 x1)]) rfl ?_
  refine cw_state (S' := SAT w0 ([imm I, pt b0 #[.string m0.s_, .int .i64 m0.at_, .int .i64 m0.e_] 104] ++ F0)) (fun w hs => hs) ?_
  obtain ⟨v21, hF, hK21⟩ := bind_some hF
  refine cw_mid (fun a w => () = v21 ∧ Fr 17 [(0, .pointer (some ⟨b0, 0, none⟩)), (1, .int .i64 x1), (12, .bool (m0.e_ == 0))] a ∧ SAT w0 ([imm I, pt b0 #[.string m0.s_, .int .i64 m0.at_, .int .i64 m0.e_] 104] ++ F0) w) ?_ ?_
  · refine cw_region ?_
    refine ow_vals 6 (j := 6) [0, 1, 6, 9] [(0, .pointer (some ⟨b0, 0, none⟩)), (1, .int .i64 x1), (6, .bool true), (9, .pointer (some ⟨b0, 2, none⟩))] rfl (by kernel_rfl) ?_
    refine ow_pw rfl (pw_quiet (v := .int .i64 m0.e_) rfl rfl rfl rfl (q_load 1 rfl rfl rfl (by kernel_rfl)) (nw_ow ?_))
    refine ow_vals 2 (j := 9) [0, 1, 12] [(0, .pointer (some ⟨b0, 0, none⟩)), (1, .int .i64 x1), (12, .bool (m0.e_ == 0))] rfl (by kernel_rfl) ?_
    refine ow_end rfl ?_
    have hR := Option.some.inj hF
    exact fun a w hf hs => ⟨hR, hf.keep [0, 1, 12], sat_to [0, 0] 0 rfl hs⟩
  rintro a w ⟨hv, hf, hs⟩
  subst hv
  replace hF := hK21
  clear hK21
  try dsimp only at hF
  revert a w
  show CW _ _ _ 17 [(0, .pointer (some ⟨b0, 0, none⟩)), (1, .int .i64 x1), (12, .bool (m0.e_ == 0))] (SAT w0 ([imm I, pt b0 #[.string m0.s_, .int .i64 m0.at_, .int .i64 m0.e_] 104] ++ F0))
  unfold F.octet_Reader_Fail.r1 at hF
  rcases if_some hF with ⟨h22, hF⟩ | ⟨h22, hF⟩
  · refine cw_cond_t rfl rfl h22 ?_
    refine cw_region ?_
    refine ow_vals 4 (j := 4) [14, 16] [(14, .int .i64 x1), (16, .pointer (some ⟨b0, 2, none⟩))] rfl (by kernel_rfl) ?_
    refine ow_pw rfl (pw_store 1 #[.string m0.s_, .int .i64 m0.at_, .int .i64 x1] rfl rfl rfl rfl rfl rfl rfl (by kernel_rfl) (nw_H (H' := [imm I, pt b0 #[.string m0.s_, .int .i64 m0.at_, .int .i64 x1] 104] ++ F0) rfl (nw_ow ?_)))
    refine ow_end rfl ?_
    have hR := Option.some.inj hF
    subst hR
    exact fin0n (H1 := [imm I, pt b0 #[.string ((⟨m0.s_, m0.at_, x1⟩ : octet_Reader).s_), .int .i64 ((⟨m0.s_, m0.at_, x1⟩ : octet_Reader).at_), .int .i64 ((⟨m0.s_, m0.at_, x1⟩ : octet_Reader).e_)] 104]) (fun w hs => sat_to [0, 0] 0 rfl hs) rfl  ⟨rfl, rfl⟩
  refine cw_cond_f rfl rfl h22 ?_
  refine cw_skip ?_
  have hR := Option.some.inj hF
  subst hR
  exact fin0n (H1 := [imm I, pt b0 #[.string m0.s_, .int .i64 m0.at_, .int .i64 m0.e_] 104]) (fun w hs => sat_to [0, 0] 0 rfl hs) rfl  ⟨rfl, rfl⟩


def F.octet_Reader_Raw (x1 : Int) (m0 : octet_Reader) : Option (ByteArray × octet_Reader) :=
  Option.bind (F.octet_Reader_Err m0) (fun (r21 : Int) => if r21 != 0 then (some (((ByteArray.mk #[]), m0))) else (if decide (x1 < 0) then (Option.bind (F.octet_Reader_Fail 1 m0) (fun (r25 : octet_Reader) => some (((ByteArray.mk #[]), r25)))) else (if decide (x1 > (IntKind.i64.wrap ((m0.s_.size : Int) - m0.at_))) then (Option.bind (F.octet_Reader_Fail 2 m0) (fun (r28 : octet_Reader) => some (((ByteArray.mk #[]), r28)))) else (chk (0 ≤ (IntKind.i64.wrap ((IntKind.i64.wrap (m0.at_ + x1)) - x1)) ∧ (IntKind.i64.wrap ((IntKind.i64.wrap (m0.at_ + x1)) - x1)) ≤ (IntKind.i64.wrap (m0.at_ + x1)) ∧ (IntKind.i64.wrap (m0.at_ + x1)) ≤ (m0.s_.size : Int)) (some ((m0.s_.extract (IntKind.i64.wrap ((IntKind.i64.wrap (m0.at_ + x1)) - x1)).toNat (IntKind.i64.wrap (m0.at_ + x1)).toNat, (⟨m0.s_, IntKind.i64.wrap (m0.at_ + x1), m0.e_⟩ : octet_Reader))))))))
set_option maxRecDepth 100000 in
set_option maxHeartbeats 4000000 in
theorem c_octet_Reader_Raw (I : Hl) (x1 : Int) (m0 : octet_Reader) (b0 : Nat) (res : ByteArray × octet_Reader) (hF : F.octet_Reader_Raw x1 m0 = some res) : Tr Try.prog 70 [.pointer (some ⟨b0, 0, none⟩), .int .i64 x1] [imm I, pt b0 #[.string m0.s_, .int .i64 m0.at_, .int .i64 m0.e_] 104] (fun r H' => r = .string res.1 ∧ H' = [imm I, pt b0 #[.string res.2.s_, .int .i64 res.2.at_, .int .i64 res.2.e_] 104]) := by
  unfold F.octet_Reader_Raw at hF
  refine tr_of_cw (fn := Try.f70) Try.func70 rfl (Nat.le_of_ble_eq_true rfl) 52 rfl fun F0 w0 => ?_
  refine cw_keep [0, 1] (L' := [(0, .pointer (some ⟨b0, 0, none⟩)), (1, .int .i64 x1)]) rfl ?_
  refine cw_state (S' := SAT w0 ([imm I, pt b0 #[.string m0.s_, .int .i64 m0.at_, .int .i64 m0.e_] 104] ++ F0)) (fun w hs => hs) ?_
  refine cw_seq ?_
  refine cw_region ?_
  refine ow_vals 1 (j := 1) [0, 1] [(0, .pointer (some ⟨b0, 0, none⟩)), (1, .int .i64 x1)] rfl (by kernel_rfl) ?_
  refine ow_end rfl ?_
  refine ew_then ?_
  refine cw_seq ?_
  refine cw_block ?_
  refine cw_seq ?_
  refine cw_region ?_
  refine ow_vals 1 (j := 1) [0, 1, 6] [(0, .pointer (some ⟨b0, 0, none⟩)), (1, .int .i64 x1), (6, .pointer (some ⟨b0, 0, none⟩))] rfl (by kernel_rfl) ?_
  obtain ⟨r21, h22, hF⟩ := bind_some hF
  refine ow_pw rfl (pw_call (F := [] ++ F0) rfl rfl rfl rfl rfl rfl rfl (by kernel_rfl) (perm_of_pulls [0, 0] rfl) (c_octet_Reader_Err _ m0 b0 r21 h22) ?_)
  rintro _ _ ⟨rfl, rfl⟩
  refine nw_H (H' := [imm I, pt b0 #[.string m0.s_, .int .i64 m0.at_, .int .i64 m0.e_] 104] ++ F0) rfl (nw_ow ?_)
  refine ow_vals 2 (j := 4) [0, 1, 5] [(0, .pointer (some ⟨b0, 0, none⟩)), (1, .int .i64 x1), (5, .bool (r21 != 0))] rfl (by kernel_rfl) ?_
  refine ow_end rfl ?_
  refine ew_then ?_
  rcases if_some hF with ⟨h23, hF⟩ | ⟨h23, hF⟩
  · refine cw_cond_t rfl rfl h23 ?_
    refine cw_seq ?_
    refine cw_region ?_
    refine ow_vals 1 (j := 1) [4] [(4, .string (ByteArray.mk #[]))] rfl (by kernel_rfl) ?_
    refine ow_end rfl ?_
    refine ew_then ?_
    refine cw_ret ?_
    refine ew_blk_ret ?_
    refine ew_then_ret ?_
    have hR := Option.some.inj hF
    subst hR
    exact fin1 (H1 := [imm I, pt b0 #[.string m0.s_, .int .i64 m0.at_, .int .i64 m0.e_] 104]) (fun w hs => sat_to [0, 0] 0 rfl hs) rfl (rr_tmp rfl) ⟨rfl, rfl⟩
  refine cw_cond_f rfl rfl h23 ?_
  refine cw_seq ?_
  refine cw_region ?_
  refine ow_vals 3 (j := 3) [0, 1, 9] [(0, .pointer (some ⟨b0, 0, none⟩)), (1, .int .i64 x1), (9, .bool (decide (x1 < 0)))] rfl (by kernel_rfl) ?_
  refine ow_end rfl ?_
  refine ew_then ?_
  rcases if_some hF with ⟨h24, hF⟩ | ⟨h24, hF⟩
  · refine cw_cond_t rfl rfl h24 ?_
    refine cw_seq ?_
    refine cw_region ?_
    refine ow_vals 1 (j := 1) [12] [(12, .pointer (some ⟨b0, 0, none⟩))] rfl (by kernel_rfl) ?_
    obtain ⟨r25, h26, hF⟩ := bind_some hF
    refine ow_pw rfl (pw_call (F := [] ++ F0) rfl rfl rfl rfl rfl rfl rfl (by kernel_rfl) (perm_of_pulls [0, 0] rfl) (c_octet_Reader_Fail _ 1 m0 b0 r25 h26) ?_)
    rintro _ _ ⟨rfl, rfl⟩
    refine nw_H (H' := [imm I, pt b0 #[.string r25.s_, .int .i64 r25.at_, .int .i64 r25.e_] 104] ++ F0) rfl (nw_ow ?_)
    refine ow_end rfl ?_
    refine ew_then ?_
    refine cw_seq ?_
    refine cw_region ?_
    refine ow_vals 1 (j := 1) [4] [(4, .string (ByteArray.mk #[]))] rfl (by kernel_rfl) ?_
    refine ow_end rfl ?_
    refine ew_then ?_
    refine cw_ret ?_
    refine ew_blk_ret ?_
    refine ew_then_ret ?_
    have hR := Option.some.inj hF
    subst hR
    exact fin1 (H1 := [imm I, pt b0 #[.string r25.s_, .int .i64 r25.at_, .int .i64 r25.e_] 104]) (fun w hs => sat_to [0, 0] 0 rfl hs) rfl (rr_tmp rfl) ⟨rfl, rfl⟩
  refine cw_cond_f rfl rfl h24 ?_
  refine cw_seq ?_
  refine cw_open 13 (SAT w0 ([imm I, pt b0 #[.string m0.s_, .int .i64 m0.at_, .int .i64 m0.e_] 104])) (by kernel_rfl) (f := 13) rfl (fun w hs => sat_drew hs) ?_
  refine aw_vals [0, 1, 2, 3, 6, 7, 8] (f' := 6) (m' := 463) [0, 1, 15, 18, 23] [(0, .pointer (some ⟨b0, 0, none⟩)), (1, .int .i64 x1), (15, .int .i64 x1), (18, .pointer (some ⟨b0, 0, none⟩)), (23, .pointer (some ⟨b0, 1, none⟩))] (fun _ _ _ _ _ h => calm_fin (P := Try.prog) (fn := Try.f70) _ _ _ _ _ h) (fun w hs => sat_pulls [0, 0] (G := [] ++ F0) rfl hs) rfl (by kernel_rfl) ?_
  refine aw_quiet 4 (m' := 479) (v := .string m0.s_) 0 [] rfl rfl rfl rfl (by kernel_rfl) (by kernel_rfl) (by kernel_rfl) (fun _ _ _ _ _ h => calm_fin (P := Try.prog) (fn := Try.f70) _ _ _ _ _ h) (fun w hs => sat_pulls [0, 0] (G := [] ++ F0) rfl hs) (q_load 1 rfl rfl rfl (by kernel_rfl)) ?_
  refine aw_vals [5] (f' := 4) (m' := 511) [0, 1, 15, 20, 23] [(0, .pointer (some ⟨b0, 0, none⟩)), (1, .int .i64 x1), (15, .int .i64 x1), (20, .int .i64 (m0.s_.size : Int)), (23, .pointer (some ⟨b0, 1, none⟩))] (fun _ _ _ _ _ h => calm_fin (P := Try.prog) (fn := Try.f70) _ _ _ _ _ h) (fun w hs => sat_pulls [0, 0] (G := [] ++ F0) rfl hs) rfl (by kernel_rfl) ?_
  refine aw_quiet 9 (m' := 1023) (v := .int .i64 m0.at_) 0 [] rfl rfl rfl rfl (by kernel_rfl) (by kernel_rfl) (by kernel_rfl) (fun _ _ _ _ _ h => calm_fin (P := Try.prog) (fn := Try.f70) _ _ _ _ _ h) (fun w hs => sat_pulls [0, 0] (G := [] ++ F0) rfl hs) (q_load 1 rfl rfl rfl (by kernel_rfl)) ?_
  refine aw_vals [10, 11, 12] (f' := 0) (m' := 8191) [0, 1, 14] [(0, .pointer (some ⟨b0, 0, none⟩)), (1, .int .i64 x1), (14, .bool (decide (x1 > (IntKind.i64.wrap ((m0.s_.size : Int) - m0.at_)))))] (fun _ _ _ _ _ h => calm_fin (P := Try.prog) (fn := Try.f70) _ _ _ _ _ h) (fun w hs => sat_pulls [0, 0] (G := [] ++ F0) rfl hs) rfl (by kernel_rfl) ?_
  refine aw_keep [0, 1, 14] (L' := [(0, .pointer (some ⟨b0, 0, none⟩)), (1, .int .i64 x1), (14, .bool (decide (x1 > (IntKind.i64.wrap ((m0.s_.size : Int) - m0.at_)))))]) rfl ?_
  refine aw_end (by kernel_rfl) ?_
  refine ew_then ?_
  rcases if_some hF with ⟨h27, hF⟩ | ⟨h27, hF⟩
  · refine cw_cond_t rfl rfl h27 ?_
    refine cw_seq ?_
    refine cw_region ?_
    refine ow_vals 1 (j := 1) [27] [(27, .pointer (some ⟨b0, 0, none⟩))] rfl (by kernel_rfl) ?_
    obtain ⟨r28, h29, hF⟩ := bind_some hF
    refine ow_pw rfl (pw_call (F := [] ++ F0) rfl rfl rfl rfl rfl rfl rfl (by kernel_rfl) (perm_of_pulls [0, 0] rfl) (c_octet_Reader_Fail _ 2 m0 b0 r28 h29) ?_)
    rintro _ _ ⟨rfl, rfl⟩
    refine nw_H (H' := [imm I, pt b0 #[.string r28.s_, .int .i64 r28.at_, .int .i64 r28.e_] 104] ++ F0) rfl (nw_ow ?_)
    refine ow_end rfl ?_
    refine ew_then ?_
    refine cw_seq ?_
    refine cw_region ?_
    refine ow_vals 1 (j := 1) [4] [(4, .string (ByteArray.mk #[]))] rfl (by kernel_rfl) ?_
    refine ow_end rfl ?_
    refine ew_then ?_
    refine cw_ret ?_
    refine ew_blk_ret ?_
    refine ew_then_ret ?_
    have hR := Option.some.inj hF
    subst hR
    exact fin1 (H1 := [imm I, pt b0 #[.string r28.s_, .int .i64 r28.at_, .int .i64 r28.e_] 104]) (fun w hs => sat_to [0, 0] 0 rfl hs) rfl (rr_tmp rfl) ⟨rfl, rfl⟩
  refine cw_cond_f rfl rfl h27 ?_
  refine cw_skip ?_
  refine ew_blk ?_
  refine ew_then ?_
  refine cw_seq ?_
  refine cw_region ?_
  refine ow_vals 3 (j := 3) [0, 1, 29, 31] [(0, .pointer (some ⟨b0, 0, none⟩)), (1, .int .i64 x1), (29, .pointer (some ⟨b0, 0, none⟩)), (31, .pointer (some ⟨b0, 1, none⟩))] rfl (by kernel_rfl) ?_
  refine ow_pw rfl (pw_quiet (v := .int .i64 m0.at_) rfl rfl rfl rfl (q_load 1 rfl rfl rfl (by kernel_rfl)) (nw_ow ?_))
  refine ow_vals 4 (j := 8) [0, 1, 34, 36] [(0, .pointer (some ⟨b0, 0, none⟩)), (1, .int .i64 x1), (34, .int .i64 (IntKind.i64.wrap (m0.at_ + x1))), (36, .pointer (some ⟨b0, 1, none⟩))] rfl (by kernel_rfl) ?_
  refine ow_pw rfl (pw_store 1 #[.string m0.s_, .int .i64 (IntKind.i64.wrap (m0.at_ + x1)), .int .i64 m0.e_] rfl rfl rfl rfl rfl rfl rfl (by kernel_rfl) (nw_H (H' := [imm I, pt b0 #[.string m0.s_, .int .i64 (IntKind.i64.wrap (m0.at_ + x1)), .int .i64 m0.e_] 104] ++ F0) rfl (nw_ow ?_)))
  refine ow_end rfl ?_
  refine ew_then ?_
  refine cw_seq ?_
  refine cw_open 16 (SAT w0 ([imm I, pt b0 #[.string m0.s_, .int .i64 (IntKind.i64.wrap (m0.at_ + x1)), .int .i64 m0.e_] 104])) (by kernel_rfl) (f := 16) rfl (fun w hs => sat_drew hs) ?_
  refine aw_vals [0, 1, 2, 4, 5, 6, 8, 10, 11, 12] (f' := 6) (m' := 7543) [39, 43, 45, 49] [(39, .pointer (some ⟨b0, 0, none⟩)), (43, .pointer (some ⟨b0, 1, none⟩)), (45, .int .i64 x1), (49, .pointer (some ⟨b0, 1, none⟩))] (fun _ _ _ _ _ h => calm_fin (P := Try.prog) (fn := Try.f70) _ _ _ _ _ h) (fun w hs => sat_pulls [0, 0] (G := [] ++ F0) rfl hs) rfl (by kernel_rfl) ?_
  refine aw_quiet 3 (m' := 7551) (v := .string m0.s_) 0 [] rfl rfl rfl rfl (by kernel_rfl) (by kernel_rfl) (by kernel_rfl) (fun _ _ _ _ _ h => calm_fin (P := Try.prog) (fn := Try.f70) _ _ _ _ _ h) (fun w hs => sat_pulls [0, 0] (G := [] ++ F0) rfl hs) (q_load 1 rfl rfl rfl (by kernel_rfl)) ?_
  refine aw_quiet 7 (m' := 7679) (v := .int .i64 (IntKind.i64.wrap (m0.at_ + x1))) 0 [] rfl rfl rfl rfl (by kernel_rfl) (by kernel_rfl) (by kernel_rfl) (fun _ _ _ _ _ h => calm_fin (P := Try.prog) (fn := Try.f70) _ _ _ _ _ h) (fun w hs => sat_pulls [0, 0] (G := [] ++ F0) rfl hs) (q_load 1 rfl rfl rfl (by kernel_rfl)) ?_
  refine aw_vals [9] (f' := 3) (m' := 8191) [40, 46, 49] [(40, .string m0.s_), (46, .int .i64 (IntKind.i64.wrap ((IntKind.i64.wrap (m0.at_ + x1)) - x1))), (49, .pointer (some ⟨b0, 1, none⟩))] (fun _ _ _ _ _ h => calm_fin (P := Try.prog) (fn := Try.f70) _ _ _ _ _ h) (fun w hs => sat_pulls [0, 0] (G := [] ++ F0) rfl hs) rfl (by kernel_rfl) ?_
  refine aw_quiet 13 (m' := 16383) (v := .int .i64 (IntKind.i64.wrap (m0.at_ + x1))) 0 [] rfl rfl rfl rfl (by kernel_rfl) (by kernel_rfl) (by kernel_rfl) (fun _ _ _ _ _ h => calm_fin (P := Try.prog) (fn := Try.f70) _ _ _ _ _ h) (fun w hs => sat_pulls [0, 0] (G := [] ++ F0) rfl hs) (q_load 1 rfl rfl rfl (by kernel_rfl)) ?_
  obtain ⟨h30, hF⟩ := chk_some hF
  refine aw_pure 14 (m' := 32767) (v := .string (m0.s_.extract (IntKind.i64.wrap ((IntKind.i64.wrap (m0.at_ + x1)) - x1)).toNat (IntKind.i64.wrap (m0.at_ + x1)).toNat)) rfl rfl rfl rfl (by kernel_rfl) (by kernel_rfl) (fun _ _ _ _ _ h => calm_fin (P := Try.prog) (fn := Try.f70) _ _ _ _ _ h) (fun w hs => sat_pulls [0, 0] (G := [] ++ F0) rfl hs) (q_slice_str rfl (by kernel_rfl) rfl rfl rfl h30.1 h30.2.1 h30.2.2) ?_
  refine aw_vals [15] (f' := 0) (m' := 65535) [4] [(4, .string (m0.s_.extract (IntKind.i64.wrap ((IntKind.i64.wrap (m0.at_ + x1)) - x1)).toNat (IntKind.i64.wrap (m0.at_ + x1)).toNat))] (fun _ _ _ _ _ h => calm_fin (P := Try.prog) (fn := Try.f70) _ _ _ _ _ h) (fun w hs => sat_pulls [0, 0] (G := [] ++ F0) rfl hs) rfl (by kernel_rfl) ?_
  refine aw_keep [4] (L' := [(4, .string (m0.s_.extract (IntKind.i64.wrap ((IntKind.i64.wrap (m0.at_ + x1)) - x1)).toNat (IntKind.i64.wrap (m0.at_ + x1)).toNat))]) rfl ?_
  refine aw_end (by kernel_rfl) ?_
  refine ew_then ?_
  refine cw_ret ?_
  have hR := Option.some.inj hF
  subst hR
  exact fin1 (H1 := [imm I, pt b0 #[.string ((⟨m0.s_, IntKind.i64.wrap (m0.at_ + x1), m0.e_⟩ : octet_Reader).s_), .int .i64 ((⟨m0.s_, IntKind.i64.wrap (m0.at_ + x1), m0.e_⟩ : octet_Reader).at_), .int .i64 ((⟨m0.s_, IntKind.i64.wrap (m0.at_ + x1), m0.e_⟩ : octet_Reader).e_)] 104]) (fun w hs => sat_to [0, 0] 0 rfl hs) rfl (rr_tmp rfl) ⟨rfl, rfl⟩


def F.octet_Reader_Num.r1 (x36 : Int) (x37 : Int) (y39 : Int) : Option ((Int × Int) ⊕ ((Int × ByteArray × Int × Int) ⊕ (Int × octet_Reader))) :=
  some (.inl (ior .i64 (IntKind.i64.wrap (x36 * 2 ^ 8)) (IntKind.i64.wrap (y39)), IntKind.i64.wrap (x37 + 1)))
def F.octet_Reader_Num.l2 (r29 : ByteArray × octet_Reader) (x36 : Int) (x37 : Int) : Option ((Int × Int) ⊕ ((Int × ByteArray × Int × Int) ⊕ (Int × octet_Reader))) :=
  if decide (x37 < ((sbytes r29.1).length : Int)) then (Option.bind (at_ (sbytes r29.1) x37) (fun (y39 : Int) => thru (if x37 == 0 then (if y39 == 0 then (Option.bind (F.octet_Reader_Fail 4 r29.2) (fun (r44 : octet_Reader) => some (.inr (.inr (.inr ((0, r44))))))) else (some (.inl ()))) else (some (.inl ()))) (fun x => F.octet_Reader_Num.r1 x36 x37 y39))) else (some (.inr (.inl (x36, r29.2.s_, r29.2.at_, r29.2.e_))))
def F.octet_Reader_Num.r3 (x1 : Int) (x46 : Int) (s47 : ByteArray) (x48 : Int) (x49 : Int) : Option (Int × octet_Reader) :=
  Option.bind (F.octet_Reader_Err (⟨s47, x48, x49⟩ : octet_Reader)) (fun (r50 : Int) => if r50 != 0 then (some ((0, (⟨s47, x48, x49⟩ : octet_Reader)))) else (if decide (x46 > x1) then (Option.bind (F.octet_Reader_Fail 3 (⟨s47, x48, x49⟩ : octet_Reader)) (fun (r54 : octet_Reader) => some ((0, r54)))) else (some ((x46, (⟨s47, x48, x49⟩ : octet_Reader))))))
def F.octet_Reader_Num (x1 : Int) (m0 : octet_Reader) : Option (Int × octet_Reader) :=
  Option.bind (F.octet_Reader_Raw 1 m0) (fun (r21 : ByteArray × octet_Reader) => if seqB r21.1 (ByteArray.mk #[]) then (some ((0, r21.2))) else (chk (0 ≤ (0 : Int) ∧ 0 < (r21.1.size : Int)) (if decide ((IntKind.i64.wrap (bt r21.1 0)) > 7) then (Option.bind (F.octet_Reader_Fail 4 r21.2) (fun (r26 : octet_Reader) => some ((0, r26)))) else (thru (Option.bind (F.octet_Reader_Raw (IntKind.i64.wrap (bt r21.1 0)) r21.2) (fun (r29 : ByteArray × octet_Reader) => chk (r29.1.size ≤ maxLen) (iter (fun x => F.octet_Reader_Num.l2 r29 x.1 x.2) FUEL (0, 0)))) (fun x => F.octet_Reader_Num.r3 x1 x.1 x.2.1 x.2.2.1 x.2.2.2)))))
set_option maxRecDepth 100000 in
set_option maxHeartbeats 4000000 in
theorem c_octet_Reader_Num (I : Hl) (x1 : Int) (m0 : octet_Reader) (b0 : Nat) (res : Int × octet_Reader) (hF : F.octet_Reader_Num x1 m0 = some res) : Tr Try.prog 53 [.pointer (some ⟨b0, 0, none⟩), .int .i64 x1] [imm I, pt b0 #[.string m0.s_, .int .i64 m0.at_, .int .i64 m0.e_] 104] (fun r H' => r = .int .i64 res.1 ∧ H' = [imm I, pt b0 #[.string res.2.s_, .int .i64 res.2.at_, .int .i64 res.2.e_] 104]) := by
  unfold F.octet_Reader_Num at hF
  refine tr_of_cw (fn := Try.f53) Try.func53 rfl (Nat.le_of_ble_eq_true rfl) 54 rfl fun F0 w0 => ?_
  refine cw_keep [0, 1] (L' := [(0, .pointer (some ⟨b0, 0, none⟩)), (1, .int .i64 x1)]) rfl ?_
  refine cw_state (S' := SAT w0 ([imm I, pt b0 #[.string m0.s_, .int .i64 m0.at_, .int .i64 m0.e_] 104] ++ F0)) (fun w hs => hs) ?_
  refine cw_seq ?_
  refine cw_region ?_
  refine ow_vals 1 (j := 1) [0, 1] [(0, .pointer (some ⟨b0, 0, none⟩)), (1, .int .i64 x1)] rfl (by kernel_rfl) ?_
  refine ow_end rfl ?_
  refine ew_then ?_
  refine cw_seq ?_
  refine cw_region ?_
  refine ow_vals 1 (j := 1) [0, 1, 10] [(0, .pointer (some ⟨b0, 0, none⟩)), (1, .int .i64 x1), (10, .pointer (some ⟨b0, 0, none⟩))] rfl (by kernel_rfl) ?_
  obtain ⟨r21, h22, hF⟩ := bind_some hF
  refine ow_pw rfl (pw_call (F := [] ++ F0) rfl rfl rfl rfl rfl rfl rfl (by kernel_rfl) (perm_of_pulls [0, 0] rfl) (c_octet_Reader_Raw _ 1 m0 b0 r21 h22) ?_)
  rintro _ _ ⟨rfl, rfl⟩
  refine nw_H (H' := [imm I, pt b0 #[.string r21.2.s_, .int .i64 r21.2.at_, .int .i64 r21.2.e_] 104] ++ F0) rfl (nw_ow ?_)
  refine ow_vals 1 (j := 3) [0, 1, 5] [(0, .pointer (some ⟨b0, 0, none⟩)), (1, .int .i64 x1), (5, .string r21.1)] rfl (by kernel_rfl) ?_
  refine ow_end rfl ?_
  refine ew_then ?_
  refine cw_seq ?_
  refine cw_seq ?_
  refine cw_region ?_
  refine ow_vals 2 (j := 2) [0, 1, 5, 13] [(0, .pointer (some ⟨b0, 0, none⟩)), (1, .int .i64 x1), (5, .string r21.1), (13, .bool (seqB r21.1 (ByteArray.mk #[])))] rfl (by kernel_rfl) ?_
  refine ow_end rfl ?_
  refine ew_then ?_
  rcases if_some hF with ⟨h23, hF⟩ | ⟨h23, hF⟩
  · refine cw_cond_t rfl rfl h23 ?_
    refine cw_seq ?_
    refine cw_region ?_
    refine ow_vals 1 (j := 1) [4] [(4, .int .i64 0)] rfl (by kernel_rfl) ?_
    refine ow_end rfl ?_
    refine ew_then ?_
    refine cw_ret ?_
    refine ew_then_ret ?_
    have hR := Option.some.inj hF
    subst hR
    exact fin1 (H1 := [imm I, pt b0 #[.string r21.2.s_, .int .i64 r21.2.at_, .int .i64 r21.2.e_] 104]) (fun w hs => sat_to [0, 0] 0 rfl hs) rfl (rr_tmp rfl) ⟨rfl, rfl⟩
  refine cw_cond_f rfl rfl h23 ?_
  refine cw_skip ?_
  refine ew_then ?_
  refine cw_seq ?_
  refine cw_region ?_
  refine ow_vals 1 (j := 1) [0, 1, 14] [(0, .pointer (some ⟨b0, 0, none⟩)), (1, .int .i64 x1), (14, .string r21.1)] rfl (by kernel_rfl) ?_
  obtain ⟨h24, hF⟩ := chk_some hF
  refine ow_pw rfl (pw_quiet (v := .int .u8 (bt r21.1 0)) rfl rfl rfl rfl (q_index_str rfl (by kernel_rfl) rfl rfl h24.1 h24.2) (nw_ow ?_))
  refine ow_vals 2 (j := 4) [0, 1, 6] [(0, .pointer (some ⟨b0, 0, none⟩)), (1, .int .i64 x1), (6, .int .i64 (IntKind.i64.wrap (bt r21.1 0)))] rfl (by kernel_rfl) ?_
  refine ow_end rfl ?_
  refine ew_then ?_
  refine cw_seq ?_
  refine cw_seq ?_
  refine cw_region ?_
  refine ow_vals 2 (j := 2) [0, 1, 6, 18] [(0, .pointer (some ⟨b0, 0, none⟩)), (1, .int .i64 x1), (6, .int .i64 (IntKind.i64.wrap (bt r21.1 0))), (18, .bool (decide ((IntKind.i64.wrap (bt r21.1 0)) > 7)))] rfl (by kernel_rfl) ?_
  refine ow_end rfl ?_
  refine ew_then ?_
  rcases if_some hF with ⟨h25, hF⟩ | ⟨h25, hF⟩
  · refine cw_cond_t rfl rfl h25 ?_
    refine cw_seq ?_
    refine cw_region ?_
    refine ow_vals 1 (j := 1) [19] [(19, .pointer (some ⟨b0, 0, none⟩))] rfl (by kernel_rfl) ?_
    obtain ⟨r26, h27, hF⟩ := bind_some hF
    refine ow_pw rfl (pw_call (F := [] ++ F0) rfl rfl rfl rfl rfl rfl rfl (by kernel_rfl) (perm_of_pulls [0, 0] rfl) (c_octet_Reader_Fail _ 4 r21.2 b0 r26 h27) ?_)
    rintro _ _ ⟨rfl, rfl⟩
    refine nw_H (H' := [imm I, pt b0 #[.string r26.s_, .int .i64 r26.at_, .int .i64 r26.e_] 104] ++ F0) rfl (nw_ow ?_)
    refine ow_end rfl ?_
    refine ew_then ?_
    refine cw_seq ?_
    refine cw_region ?_
    refine ow_vals 1 (j := 1) [4] [(4, .int .i64 0)] rfl (by kernel_rfl) ?_
    refine ow_end rfl ?_
    refine ew_then ?_
    refine cw_ret ?_
    refine ew_then_ret ?_
    have hR := Option.some.inj hF
    subst hR
    exact fin1 (H1 := [imm I, pt b0 #[.string r26.s_, .int .i64 r26.at_, .int .i64 r26.e_] 104]) (fun w hs => sat_to [0, 0] 0 rfl hs) rfl (rr_tmp rfl) ⟨rfl, rfl⟩
  refine cw_cond_f rfl rfl h25 ?_
  refine cw_skip ?_
  refine ew_then ?_
  refine cw_seq ?_
  refine cw_region ?_
  refine ow_vals 1 (j := 1) [0, 1, 6, 7] [(0, .pointer (some ⟨b0, 0, none⟩)), (1, .int .i64 x1), (6, .int .i64 (IntKind.i64.wrap (bt r21.1 0))), (7, .int .i64 0)] rfl (by kernel_rfl) ?_
  refine ow_end rfl ?_
  refine ew_then ?_
  obtain ⟨v28, hF, hK28⟩ := thru_some hF
  refine cw_mid (fun a w => ∃ (x46 : Int), ∃ (s47 : ByteArray), ∃ (x48 : Int), ∃ (x49 : Int), .inl (x46, s47, x48, x49) = v28 ∧ Fr 54 [(0, .pointer (some ⟨b0, 0, none⟩)), (1, .int .i64 x1), (7, .int .i64 x46)] a ∧ SAT w0 ([imm I, pt b0 #[.string s47, .int .i64 x48, .int .i64 x49] 104] ++ F0) w) ?_ ?_
  · refine cw_seq ?_
    refine cw_region ?_
    refine ow_vals 2 (j := 2) [0, 1, 7, 21, 22] [(0, .pointer (some ⟨b0, 0, none⟩)), (1, .int .i64 x1), (7, .int .i64 0), (21, .pointer (some ⟨b0, 0, none⟩)), (22, .int .i64 (IntKind.i64.wrap (bt r21.1 0)))] rfl (by kernel_rfl) ?_
    obtain ⟨r29, h30, hF⟩ := bind_some hF
    refine ow_pw rfl (pw_call (F := [] ++ F0) rfl rfl rfl rfl rfl rfl rfl (by kernel_rfl) (perm_of_pulls [0, 0] rfl) (c_octet_Reader_Raw _ (IntKind.i64.wrap (bt r21.1 0)) r21.2 b0 r29 h30) ?_)
    rintro _ _ ⟨rfl, rfl⟩
    refine nw_H (H' := [imm I, pt b0 #[.string r29.2.s_, .int .i64 r29.2.at_, .int .i64 r29.2.e_] 104] ++ F0) rfl (nw_ow ?_)
    obtain ⟨h31, hF⟩ := chk_some hF
    refine ow_pw rfl (pw_str_bytes (E := 5) rfl rfl rfl rfl rfl (by kernel_rfl) (by kernel_rfl) (by kernel_rfl) rfl h31 fun p32 c33 => nw_ow ?_)
    refine ow_vals 2 (j := 6) [0, 1, 7, 24, 25, 26] [(0, .pointer (some ⟨b0, 0, none⟩)), (1, .int .i64 x1), (7, .int .i64 0), (24, .slice p32 (sbytes r29.1).length c33), (25, .int .i64 ((sbytes r29.1).length : Int)), (26, .int .i64 0)] rfl (by kernel_rfl) ?_
    refine ow_end rfl ?_
    refine ew_then ?_
    refine cw_block ?_
    refine fun a w hf hs => wp_rounds (fun k a w => ∃ (x36 : Int), ∃ (x37 : Int), iter (fun x => F.octet_Reader_Num.l2 r29 x.1 x.2) k (x36, x37) = some v28 ∧ Fr 54 [(0, .pointer (some ⟨b0, 0, none⟩)), (1, .int .i64 x1), (7, .int .i64 x36), (24, .slice p32 (sbytes r29.1).length c33), (25, .int .i64 ((sbytes r29.1).length : Int)), (26, .int .i64 x37)] a ∧ SAT w0 ([imm I, pt b0 #[.string r29.2.s_, .int .i64 r29.2.at_, .int .i64 r29.2.e_] 104, own (eInt .u8) 5 p32 c33 (sbytes r29.1)] ++ F0) w) ?_ FUEL a w ⟨0, 0, hF, hf.keep [0, 1, 7, 24, 25, 26], sat_to [1, 1, 0] 0 rfl hs⟩
    clear hf hs
    clear a w hF
    rintro k a w ⟨x36, x37, hF2, hf, hs⟩
    obtain ⟨k, r35, rfl, hF, hL35⟩ := iter_some hF2
    clear hF2
    revert a w
    show CW _ _ _ 54 [(0, .pointer (some ⟨b0, 0, none⟩)), (1, .int .i64 x1), (7, .int .i64 x36), (24, .slice p32 (sbytes r29.1).length c33), (25, .int .i64 ((sbytes r29.1).length : Int)), (26, .int .i64 x37)] (SAT w0 ([imm I, pt b0 #[.string r29.2.s_, .int .i64 r29.2.at_, .int .i64 r29.2.e_] 104, own (eInt .u8) 5 p32 c33 (sbytes r29.1)] ++ F0))
    try dsimp only at hF
    unfold F.octet_Reader_Num.l2 at hF
    refine cw_seq ?_
    refine cw_region ?_
    refine ow_vals 1 (j := 1) [0, 1, 7, 24, 25, 26, 27] [(0, .pointer (some ⟨b0, 0, none⟩)), (1, .int .i64 x1), (7, .int .i64 x36), (24, .slice p32 (sbytes r29.1).length c33), (25, .int .i64 ((sbytes r29.1).length : Int)), (26, .int .i64 x37), (27, .bool (decide (x37 < ((sbytes r29.1).length : Int))))] rfl (by kernel_rfl) ?_
    refine ow_end rfl ?_
    refine ew_then ?_
    refine cw_seq ?_
    rcases if_some hF with ⟨h38, hF⟩ | ⟨h38, hF⟩
    · refine cw_cond_t rfl rfl h38 ?_
      refine cw_skip ?_
      refine ew_then ?_
      refine cw_seq ?_
      refine cw_block ?_
      refine cw_seq ?_
      refine cw_region ?_
      refine ow_vals 1 (j := 1) [0, 1, 7, 24, 25, 26, 28] [(0, .pointer (some ⟨b0, 0, none⟩)), (1, .int .i64 x1), (7, .int .i64 x36), (24, .slice p32 (sbytes r29.1).length c33), (25, .int .i64 ((sbytes r29.1).length : Int)), (26, .int .i64 x37), (28, .int .i64 x37)] rfl (by kernel_rfl) ?_
      obtain ⟨y39, h40, hF⟩ := bind_some hF
      refine ow_pw rfl (pw_quiet (v := .pointer (some ((base p32).add (x37.toNat * 1)))) rfl rfl rfl rfl (q_index_own 2 1 rfl rfl (by kernel_rfl) rfl rfl (at_some h40).1 (at_lt h40)) (nw_ow ?_))
      refine ow_pw rfl (pw_quiet (v := .int .u8 y39) rfl rfl rfl rfl (q_load_own0 2 1 rfl rfl rfl rfl (at_some h40).2 (by kernel_rfl)) (nw_ow ?_))
      refine ow_vals 2 (j := 5) [0, 1, 7, 8, 9, 24, 25, 26] [(0, .pointer (some ⟨b0, 0, none⟩)), (1, .int .i64 x1), (7, .int .i64 x36), (8, .int .i64 x37), (9, .int .u8 y39), (24, .slice p32 (sbytes r29.1).length c33), (25, .int .i64 ((sbytes r29.1).length : Int)), (26, .int .i64 x37)] rfl (by kernel_rfl) ?_
      refine ow_end rfl ?_
      refine ew_then ?_
      obtain ⟨v41, hF, hK41⟩ := thru_some hF
      refine cw_mid (fun a w => .inl () = v41 ∧ Fr 54 [(0, .pointer (some ⟨b0, 0, none⟩)), (1, .int .i64 x1), (7, .int .i64 x36), (9, .int .u8 y39), (24, .slice p32 (sbytes r29.1).length c33), (25, .int .i64 ((sbytes r29.1).length : Int)), (26, .int .i64 x37)] a ∧ SAT w0 ([imm I, pt b0 #[.string r29.2.s_, .int .i64 r29.2.at_, .int .i64 r29.2.e_] 104, own (eInt .u8) 5 p32 c33 (sbytes r29.1)] ++ F0) w) ?_ ?_
      · refine cw_seq ?_
        refine cw_region ?_
        refine ow_vals 3 (j := 3) [0, 1, 7, 9, 24, 25, 26, 33] [(0, .pointer (some ⟨b0, 0, none⟩)), (1, .int .i64 x1), (7, .int .i64 x36), (9, .int .u8 y39), (24, .slice p32 (sbytes r29.1).length c33), (25, .int .i64 ((sbytes r29.1).length : Int)), (26, .int .i64 x37), (33, .bool (x37 == 0))] rfl (by kernel_rfl) ?_
        rcases if_some hF with ⟨h42, hF⟩ | ⟨h42, hF⟩
        · refine ow_slots (L' := [(0, .pointer (some ⟨b0, 0, none⟩)), (1, .int .i64 x1), (7, .int .i64 x36), (9, .int .u8 y39), (24, .slice p32 (sbytes r29.1).length c33), (25, .int .i64 ((sbytes r29.1).length : Int)), (26, .int .i64 x37), (33, .bool true)]) (by rw [h42]) ?_
          refine ow_vals 3 (j := 6) [0, 1, 7, 9, 24, 25, 26, 36] [(0, .pointer (some ⟨b0, 0, none⟩)), (1, .int .i64 x1), (7, .int .i64 x36), (9, .int .u8 y39), (24, .slice p32 (sbytes r29.1).length c33), (25, .int .i64 ((sbytes r29.1).length : Int)), (26, .int .i64 x37), (36, .bool (y39 == 0))] rfl (by kernel_rfl) ?_
          refine ow_end rfl ?_
          refine ew_then ?_
          rcases if_some hF with ⟨h43, hF⟩ | ⟨h43, hF⟩
          · refine cw_cond_t rfl rfl h43 ?_
            refine cw_seq ?_
            refine cw_region ?_
            refine ow_vals 1 (j := 1) [37] [(37, .pointer (some ⟨b0, 0, none⟩))] rfl (by kernel_rfl) ?_
            obtain ⟨r44, h45, hF⟩ := bind_some hF
            refine ow_pw rfl (pw_call (F := [own (eInt .u8) 5 p32 c33 (sbytes r29.1)] ++ F0) rfl rfl rfl rfl rfl rfl rfl (by kernel_rfl) (perm_of_pulls [0, 0] rfl) (c_octet_Reader_Fail _ 4 r29.2 b0 r44 h45) ?_)
            rintro _ _ ⟨rfl, rfl⟩
            refine nw_H (H' := [imm I, pt b0 #[.string r44.s_, .int .i64 r44.at_, .int .i64 r44.e_] 104, own (eInt .u8) 5 p32 c33 (sbytes r29.1)] ++ F0) rfl (nw_ow ?_)
            refine ow_end rfl ?_
            refine ew_then ?_
            refine cw_seq ?_
            refine cw_region ?_
            refine ow_vals 1 (j := 1) [4] [(4, .int .i64 0)] rfl (by kernel_rfl) ?_
            refine ow_end rfl ?_
            refine ew_then ?_
            refine cw_ret ?_
            refine ew_then_ret ?_
            refine ew_blk_ret ?_
            refine ew_then_ret ?_
            refine ew_then_ret ?_
            refine ew_blk_ret ?_
            refine ew_then_ret ?_
            have hR := Option.some.inj hF
            subst hR
            have hR := hK41
            try dsimp only [Thru] at hR
            subst hR
            have hR := hL35
            try dsimp only at hR
            subst hR
            have hR := hK28
            try dsimp only [Thru] at hR
            subst hR
            exact fin1 (H1 := [imm I, pt b0 #[.string r44.s_, .int .i64 r44.at_, .int .i64 r44.e_] 104]) (fun w hs => sat_to [2, 0, 0] 1 rfl hs) rfl (rr_tmp rfl) ⟨rfl, rfl⟩
          refine cw_cond_f rfl rfl h43 ?_
          refine cw_skip ?_
          have hR := Option.some.inj hF
          exact fun a w hf hs => ⟨hR, hf.keep [0, 1, 7, 9, 24, 25, 26], sat_to [0, 0, 0] 0 rfl hs⟩
        refine ow_slots (L' := [(0, .pointer (some ⟨b0, 0, none⟩)), (1, .int .i64 x1), (7, .int .i64 x36), (9, .int .u8 y39), (24, .slice p32 (sbytes r29.1).length c33), (25, .int .i64 ((sbytes r29.1).length : Int)), (26, .int .i64 x37), (33, .bool false)]) (by rw [h42]) ?_
        refine ow_vals 3 (j := 6) [0, 1, 7, 9, 24, 25, 26, 36] [(0, .pointer (some ⟨b0, 0, none⟩)), (1, .int .i64 x1), (7, .int .i64 x36), (9, .int .u8 y39), (24, .slice p32 (sbytes r29.1).length c33), (25, .int .i64 ((sbytes r29.1).length : Int)), (26, .int .i64 x37), (36, .bool false)] rfl (by kernel_rfl) ?_
        refine ow_end rfl ?_
        refine ew_then ?_
        refine cw_cond_f rfl rfl rfl ?_
        refine cw_skip ?_
        have hR := Option.some.inj hF
        exact fun a w hf hs => ⟨hR, hf.keep [0, 1, 7, 9, 24, 25, 26], sat_to [0, 0, 0] 0 rfl hs⟩
      rintro a w ⟨hv, hf, hs⟩
      subst hv
      replace hF := hK41
      clear hK41
      try dsimp only [Thru] at hF
      revert a w
      show CW _ _ _ 54 [(0, .pointer (some ⟨b0, 0, none⟩)), (1, .int .i64 x1), (7, .int .i64 x36), (9, .int .u8 y39), (24, .slice p32 (sbytes r29.1).length c33), (25, .int .i64 ((sbytes r29.1).length : Int)), (26, .int .i64 x37)] (SAT w0 ([imm I, pt b0 #[.string r29.2.s_, .int .i64 r29.2.at_, .int .i64 r29.2.e_] 104, own (eInt .u8) 5 p32 c33 (sbytes r29.1)] ++ F0))
      unfold F.octet_Reader_Num.r1 at hF
      refine cw_region ?_
      refine ow_vals 6 (j := 6) [0, 1, 7, 24, 25, 26] [(0, .pointer (some ⟨b0, 0, none⟩)), (1, .int .i64 x1), (7, .int .i64 (ior .i64 (IntKind.i64.wrap (x36 * 2 ^ 8)) (IntKind.i64.wrap (y39)))), (24, .slice p32 (sbytes r29.1).length c33), (25, .int .i64 ((sbytes r29.1).length : Int)), (26, .int .i64 x37)] rfl (by kernel_rfl) ?_
      refine ow_end rfl ?_
      refine ew_blk ?_
      refine ew_then ?_
      refine cw_region ?_
      refine ow_vals 2 (j := 2) [0, 1, 7, 24, 25, 26] [(0, .pointer (some ⟨b0, 0, none⟩)), (1, .int .i64 x1), (7, .int .i64 (ior .i64 (IntKind.i64.wrap (x36 * 2 ^ 8)) (IntKind.i64.wrap (y39)))), (24, .slice p32 (sbytes r29.1).length c33), (25, .int .i64 ((sbytes r29.1).length : Int)), (26, .int .i64 (IntKind.i64.wrap (x37 + 1)))] rfl (by kernel_rfl) ?_
      refine ow_end rfl ?_
      have hR := Option.some.inj hF
      subst hR
      have hR := hL35
      try dsimp only at hR
      exact fun a w hf hs => ⟨k, Nat.lt_succ_self k, ior .i64 (IntKind.i64.wrap (x36 * 2 ^ 8)) (IntKind.i64.wrap (y39)), IntKind.i64.wrap (x37 + 1), hR, hf.keep [0, 1, 7, 24, 25, 26], sat_to [0, 0, 0] 0 rfl hs⟩
    refine cw_cond_f rfl rfl h38 ?_
    refine cw_exit ?_
    refine ew_then_exit ?_
    refine ew_then_exit ?_
    refine ew_blk_exit ?_
    have hR := Option.some.inj hF
    subst hR
    have hR := hL35
    try dsimp only at hR
    exact fun a w hf hs => ⟨x36, r29.2.s_, r29.2.at_, r29.2.e_, hR, hf.keep [0, 1, 7], sat_to [2, 0, 0] 1 rfl hs⟩
  rintro a w ⟨x46, s47, x48, x49, hv, hf, hs⟩
  subst hv
  replace hF := hK28
  clear hK28
  try dsimp only [Thru] at hF
  revert a w
  show CW _ _ _ 54 [(0, .pointer (some ⟨b0, 0, none⟩)), (1, .int .i64 x1), (7, .int .i64 x46)] (SAT w0 ([imm I, pt b0 #[.string s47, .int .i64 x48, .int .i64 x49] 104] ++ F0))
  unfold F.octet_Reader_Num.r3 at hF
  refine cw_seq ?_
  refine cw_seq ?_
  refine cw_region ?_
  refine ow_vals 1 (j := 1) [0, 1, 7, 45] [(0, .pointer (some ⟨b0, 0, none⟩)), (1, .int .i64 x1), (7, .int .i64 x46), (45, .pointer (some ⟨b0, 0, none⟩))] rfl (by kernel_rfl) ?_
  obtain ⟨r50, h51, hF⟩ := bind_some hF
  refine ow_pw rfl (pw_call (F := [] ++ F0) rfl rfl rfl rfl rfl rfl rfl (by kernel_rfl) (perm_of_pulls [0, 0] rfl) (c_octet_Reader_Err _ (⟨s47, x48, x49⟩ : octet_Reader) b0 r50 h51) ?_)
  rintro _ _ ⟨rfl, rfl⟩
  refine nw_H (H' := [imm I, pt b0 #[.string ((⟨s47, x48, x49⟩ : octet_Reader).s_), .int .i64 ((⟨s47, x48, x49⟩ : octet_Reader).at_), .int .i64 ((⟨s47, x48, x49⟩ : octet_Reader).e_)] 104] ++ F0) rfl (nw_ow ?_)
  refine ow_vals 1 (j := 3) [0, 1, 7, 47] [(0, .pointer (some ⟨b0, 0, none⟩)), (1, .int .i64 x1), (7, .int .i64 x46), (47, .bool (r50 != 0))] rfl (by kernel_rfl) ?_
  refine ow_end rfl ?_
  refine ew_then ?_
  rcases if_some hF with ⟨h52, hF⟩ | ⟨h52, hF⟩
  · refine cw_cond_t rfl rfl h52 ?_
    refine cw_seq ?_
    refine cw_region ?_
    refine ow_vals 1 (j := 1) [4] [(4, .int .i64 0)] rfl (by kernel_rfl) ?_
    refine ow_end rfl ?_
    refine ew_then ?_
    refine cw_ret ?_
    refine ew_then_ret ?_
    have hR := Option.some.inj hF
    subst hR
    exact fin1 (H1 := [imm I, pt b0 #[.string ((⟨s47, x48, x49⟩ : octet_Reader).s_), .int .i64 ((⟨s47, x48, x49⟩ : octet_Reader).at_), .int .i64 ((⟨s47, x48, x49⟩ : octet_Reader).e_)] 104]) (fun w hs => sat_to [0, 0] 0 rfl hs) rfl (rr_tmp rfl) ⟨rfl, rfl⟩
  refine cw_cond_f rfl rfl h52 ?_
  refine cw_skip ?_
  refine ew_then ?_
  refine cw_seq ?_
  refine cw_seq ?_
  refine cw_region ?_
  refine ow_vals 3 (j := 3) [0, 7, 50] [(0, .pointer (some ⟨b0, 0, none⟩)), (7, .int .i64 x46), (50, .bool (decide (x46 > x1)))] rfl (by kernel_rfl) ?_
  refine ow_end rfl ?_
  refine ew_then ?_
  rcases if_some hF with ⟨h53, hF⟩ | ⟨h53, hF⟩
  · refine cw_cond_t rfl rfl h53 ?_
    refine cw_seq ?_
    refine cw_region ?_
    refine ow_vals 1 (j := 1) [51] [(51, .pointer (some ⟨b0, 0, none⟩))] rfl (by kernel_rfl) ?_
    obtain ⟨r54, h55, hF⟩ := bind_some hF
    refine ow_pw rfl (pw_call (F := [] ++ F0) rfl rfl rfl rfl rfl rfl rfl (by kernel_rfl) (perm_of_pulls [0, 0] rfl) (c_octet_Reader_Fail _ 3 (⟨s47, x48, x49⟩ : octet_Reader) b0 r54 h55) ?_)
    rintro _ _ ⟨rfl, rfl⟩
    refine nw_H (H' := [imm I, pt b0 #[.string r54.s_, .int .i64 r54.at_, .int .i64 r54.e_] 104] ++ F0) rfl (nw_ow ?_)
    refine ow_end rfl ?_
    refine ew_then ?_
    refine cw_seq ?_
    refine cw_region ?_
    refine ow_vals 1 (j := 1) [4] [(4, .int .i64 0)] rfl (by kernel_rfl) ?_
    refine ow_end rfl ?_
    refine ew_then ?_
    refine cw_ret ?_
    refine ew_then_ret ?_
    have hR := Option.some.inj hF
    subst hR
    exact fin1 (H1 := [imm I, pt b0 #[.string r54.s_, .int .i64 r54.at_, .int .i64 r54.e_] 104]) (fun w hs => sat_to [0, 0] 0 rfl hs) rfl (rr_tmp rfl) ⟨rfl, rfl⟩
  refine cw_cond_f rfl rfl h53 ?_
  refine cw_skip ?_
  refine ew_then ?_
  refine cw_seq ?_
  refine cw_region ?_
  refine ow_vals 2 (j := 2) [4] [(4, .int .i64 x46)] rfl (by kernel_rfl) ?_
  refine ow_end rfl ?_
  refine ew_then ?_
  refine cw_ret ?_
  have hR := Option.some.inj hF
  subst hR
  exact fin1 (H1 := [imm I, pt b0 #[.string ((⟨s47, x48, x49⟩ : octet_Reader).s_), .int .i64 ((⟨s47, x48, x49⟩ : octet_Reader).at_), .int .i64 ((⟨s47, x48, x49⟩ : octet_Reader).e_)] 104]) (fun w hs => sat_to [0, 0] 0 rfl hs) rfl (rr_tmp rfl) ⟨rfl, rfl⟩


def F.law24_right.l3 (y33 : absent_Side) (x53 : Bool) (x54 : Int) : Option ((Bool × Int) ⊕ (Bool × Int × ByteArray × (List ByteArray))) :=
  if decide (x54 < (y33.Path.length : Int)) then (if x53 then (Option.bind (at_ y33.Path x54) (fun (y57 : ByteArray) => some (.inl ((y57.size : Int) == 32, IntKind.i64.wrap (x54 + 1))))) else (some (.inl (false, IntKind.i64.wrap (x54 + 1))))) else (some (.inr ((x53, y33.Index, y33.ID, y33.Path))))
def F.law24_right.r2 (y33 : absent_Side) (x51 : Bool) : Option (Bool × Int × ByteArray × (List ByteArray)) :=
  iter (fun x => F.law24_right.l3 y33 x.1 x.2) FUEL (x51, 0)
def F.law24_right.r4 (x30 : Int) (x62 : Bool) (x63 : Int) (s64 : ByteArray) (l65 : List ByteArray) : Option ((Bool × Int) ⊕ (Bool)) :=
  some (.inl (x62, IntKind.i64.wrap (x30 + 1)))
def F.law24_right.l5 (x0 : absent_Proof) (x29 : Bool) (x30 : Int) : Option ((Bool × Int) ⊕ (Bool)) :=
  if decide (x30 < (x0.Sides.length : Int)) then (Option.bind (Option.bind (at_ x0.Sides x30) (fun (y33 : absent_Side) => Option.bind (if x29 then (if decide (y33.Index ≥ 0) then (if decide (y33.Index < x0.Size) then (Option.bind (F.paper_IsID y33.ID) (fun (r48 : Bool) => if r48 then (some ((decide ((y33.Path.length : Int) ≤ 16)))) else (some (false)))) else (some (false))) else (some (false))) else (some (false))) (fun x => F.law24_right.r2 y33 x))) (fun x => F.law24_right.r4 x30 x.1 x.2.1 x.2.2.1 x.2.2.2)) else (some (.inr (x29)))
def F.law24_right.r6 (x69 : Bool) : Option (Bool) :=
  some (x69)
def F.law24_right.r1 (x0 : absent_Proof) (x26 : Bool) : Option (Bool) :=
  Option.bind (iter (fun x => F.law24_right.l5 x0 x.1 x.2) FUEL (x26, 0)) (fun x => F.law24_right.r6 x)
def F.law24_right (x0 : absent_Proof) : Option Bool :=
  Option.bind (if decide (x0.Size ≥ 0) then (if decide (x0.Size ≤ 65536) then (some ((decide ((x0.Sides.length : Int) ≤ 2)))) else (some (false))) else (some (false))) (fun x => F.law24_right.r1 x0 x)
set_option maxRecDepth 100000 in
set_option maxHeartbeats 4000000 in
theorem c_law24_right (I : Hl) (x0 : absent_Proof) (p0 : Option Addr) (c0 : Nat) (res : Bool) (hF : F.law24_right x0 = some res) (hr0 : roN I n_absent_Side p0 c0 x0.Sides) : Tr Try.prog 27 [.agg #[.int .i64 x0.Size, .slice p0 x0.Sides.length c0]] [imm I] (fun r H' => r = .bool res ∧ H' = [imm I]) := by
  unfold F.law24_right at hF
  refine tr_of_cw (fn := Try.f27) Try.func27 rfl (Nat.le_of_ble_eq_true rfl) 75 rfl fun F0 w0 => ?_
  refine cw_keep [0] (L' := [(0, .agg #[.int .i64 x0.Size, .slice p0 x0.Sides.length c0])]) rfl ?_
  refine cw_state (S' := SAT w0 ([imm I] ++ F0)) (fun w hs => hs) ?_
  refine cw_seq ?_
  refine cw_region ?_
  refine ow_pw rfl (pw_box (cs := #[.int .i64 x0.Size, .slice p0 x0.Sides.length c0]) rfl rfl rfl rfl rfl rfl fun b21 => nw_ow ?_)
  refine ow_vals 1 (j := 2) [1] [(1, .pointer (some ⟨b21, 0, none⟩))] rfl (by kernel_rfl) ?_
  refine ow_end rfl ?_
  refine ew_then ?_
  obtain ⟨v23, hF, hK23⟩ := bind_some hF
  refine cw_mid (fun a w => ∃ (x26 : Bool), x26 = v23 ∧ Fr 75 [(1, .pointer (some ⟨b21, 0, none⟩)), (3, .bool x26)] a ∧ SAT w0 ([imm I, pt b21 #[.int .i64 x0.Size, .slice p0 x0.Sides.length c0] 35] ++ F0) w) ?_ ?_
  · refine cw_region ?_
    refine ow_vals 1 (j := 1) [1, 7] [(1, .pointer (some ⟨b21, 0, none⟩)), (7, .pointer (some ⟨b21, 0, none⟩))] rfl (by kernel_rfl) ?_
    refine ow_pw rfl (pw_quiet (v := .int .i64 x0.Size) rfl rfl rfl rfl (q_load 0 rfl rfl rfl (by kernel_rfl)) (nw_ow ?_))
    refine ow_vals 2 (j := 4) [1, 10] [(1, .pointer (some ⟨b21, 0, none⟩)), (10, .bool (decide (x0.Size ≥ 0)))] rfl (by kernel_rfl) ?_
    rcases if_some hF with ⟨h24, hF⟩ | ⟨h24, hF⟩
    · refine ow_slots (L' := [(1, .pointer (some ⟨b21, 0, none⟩)), (10, .bool true)]) (by rw [h24]) ?_
      refine ow_vals 1 (j := 5) [1, 10, 11] [(1, .pointer (some ⟨b21, 0, none⟩)), (10, .bool true), (11, .pointer (some ⟨b21, 0, none⟩))] rfl (by kernel_rfl) ?_
      refine ow_pw rfl (pw_quiet (v := .int .i64 x0.Size) rfl rfl rfl rfl (q_load 0 rfl rfl rfl (by kernel_rfl)) (nw_ow ?_))
      refine ow_vals 3 (j := 9) [1, 15] [(1, .pointer (some ⟨b21, 0, none⟩)), (15, .bool (decide (x0.Size ≤ 65536)))] rfl (by kernel_rfl) ?_
      rcases if_some hF with ⟨h25, hF⟩ | ⟨h25, hF⟩
      · refine ow_slots (L' := [(1, .pointer (some ⟨b21, 0, none⟩)), (15, .bool true)]) (by rw [h25]) ?_
        refine ow_vals 1 (j := 10) [1, 15, 16] [(1, .pointer (some ⟨b21, 0, none⟩)), (15, .bool true), (16, .pointer (some ⟨b21, 1, none⟩))] rfl (by kernel_rfl) ?_
        refine ow_pw rfl (pw_quiet (v := .slice p0 x0.Sides.length c0) rfl rfl rfl rfl (q_load 0 rfl rfl rfl (by kernel_rfl)) (nw_ow ?_))
        refine ow_vals 4 (j := 15) [1, 3] [(1, .pointer (some ⟨b21, 0, none⟩)), (3, .bool (decide ((x0.Sides.length : Int) ≤ 2)))] rfl (by kernel_rfl) ?_
        refine ow_end rfl ?_
        have hR := Option.some.inj hF
        exact fun a w hf hs => ⟨decide ((x0.Sides.length : Int) ≤ 2), hR, hf.keep [1, 3], sat_to [1, 0] 0 rfl hs⟩
      refine ow_slots (L' := [(1, .pointer (some ⟨b21, 0, none⟩)), (15, .bool false)]) (by rw [h25]) ?_
      refine ow_vals 6 (j := 15) [1, 3] [(1, .pointer (some ⟨b21, 0, none⟩)), (3, .bool false)] rfl (by kernel_rfl) ?_
      refine ow_end rfl ?_
      have hR := Option.some.inj hF
      exact fun a w hf hs => ⟨false, hR, hf.keep [1, 3], sat_to [1, 0] 0 rfl hs⟩
    refine ow_slots (L' := [(1, .pointer (some ⟨b21, 0, none⟩)), (10, .bool false)]) (by rw [h24]) ?_
    refine ow_vals 11 (j := 15) [1, 3] [(1, .pointer (some ⟨b21, 0, none⟩)), (3, .bool false)] rfl (by kernel_rfl) ?_
    refine ow_end rfl ?_
    have hR := Option.some.inj hF
    exact fun a w hf hs => ⟨false, hR, hf.keep [1, 3], sat_to [1, 0] 0 rfl hs⟩
  rintro a w ⟨x26, hv, hf, hs⟩
  subst hv
  replace hF := hK23
  clear hK23
  try dsimp only at hF
  revert a w
  show CW _ _ _ 75 [(1, .pointer (some ⟨b21, 0, none⟩)), (3, .bool x26)] (SAT w0 ([imm I, pt b21 #[.int .i64 x0.Size, .slice p0 x0.Sides.length c0] 35] ++ F0))
  unfold F.law24_right.r1 at hF
  obtain ⟨v27, hF, hK27⟩ := bind_some hF
  refine cw_mid (fun a w => ∃ (x69 : Bool), x69 = v27 ∧ Fr 75 [(3, .bool x69)] a ∧ SAT w0 ([imm I, pt b21 #[.int .i64 x0.Size, .slice p0 x0.Sides.length c0] 35] ++ F0) w) ?_ ?_
  · refine cw_seq ?_
    refine cw_region ?_
    refine ow_vals 1 (j := 1) [1, 3, 4] [(1, .pointer (some ⟨b21, 0, none⟩)), (3, .bool x26), (4, .int .i64 0)] rfl (by kernel_rfl) ?_
    refine ow_end rfl ?_
    refine ew_then ?_
    refine cw_block ?_
    refine fun a w hf hs => wp_rounds (fun k a w => ∃ (x29 : Bool), ∃ (x30 : Int), iter (fun x => F.law24_right.l5 x0 x.1 x.2) k (x29, x30) = some v27 ∧ Fr 75 [(1, .pointer (some ⟨b21, 0, none⟩)), (3, .bool x29), (4, .int .i64 x30)] a ∧ SAT w0 ([imm I, pt b21 #[.int .i64 x0.Size, .slice p0 x0.Sides.length c0] 35] ++ F0) w) ?_ FUEL a w ⟨x26, 0, hF, hf.keep [1, 3, 4], sat_to [0, 0] 0 rfl hs⟩
    clear hf hs
    clear a w hF
    rintro k a w ⟨x29, x30, hF2, hf, hs⟩
    obtain ⟨k, r28, rfl, hF, hL28⟩ := iter_some hF2
    clear hF2
    revert a w
    show CW _ _ _ 75 [(1, .pointer (some ⟨b21, 0, none⟩)), (3, .bool x29), (4, .int .i64 x30)] (SAT w0 ([imm I, pt b21 #[.int .i64 x0.Size, .slice p0 x0.Sides.length c0] 35] ++ F0))
    try dsimp only at hF
    unfold F.law24_right.l5 at hF
    refine cw_seq ?_
    refine cw_seq ?_
    refine cw_region ?_
    refine ow_vals 2 (j := 2) [1, 3, 4, 21, 22] [(1, .pointer (some ⟨b21, 0, none⟩)), (3, .bool x29), (4, .int .i64 x30), (21, .int .i64 x30), (22, .pointer (some ⟨b21, 1, none⟩))] rfl (by kernel_rfl) ?_
    refine ow_pw rfl (pw_quiet (v := .slice p0 x0.Sides.length c0) rfl rfl rfl rfl (q_load 1 rfl rfl rfl (by kernel_rfl)) (nw_ow ?_))
    refine ow_vals 2 (j := 5) [1, 3, 4, 25] [(1, .pointer (some ⟨b21, 0, none⟩)), (3, .bool x29), (4, .int .i64 x30), (25, .bool (decide (x30 < (x0.Sides.length : Int))))] rfl (by kernel_rfl) ?_
    refine ow_end rfl ?_
    refine ew_then ?_
    rcases if_some hF with ⟨h31, hF⟩ | ⟨h31, hF⟩
    · refine cw_cond_t rfl rfl h31 ?_
      refine cw_skip ?_
      refine ew_then ?_
      obtain ⟨v32, hF, hK32⟩ := bind_some hF
      refine cw_mid (fun a w => ∃ (x62 : Bool), ∃ (x63 : Int), ∃ (s64 : ByteArray), ∃ (l65 : List ByteArray), ∃ (b61 : Nat), ∃ (p66 : Option Addr), ∃ (c67 : Nat), (x62, x63, s64, l65) = v32 ∧ ro I eStr p66 c67 l65 ∧ Fr 75 [(1, .pointer (some ⟨b21, 0, none⟩)), (3, .bool x62), (4, .int .i64 x30)] a ∧ SAT w0 ([imm I, pt b61 #[.int .i64 x63, .string s64, .slice p66 l65.length c67] 43, pt b21 #[.int .i64 x0.Size, .slice p0 x0.Sides.length c0] 35] ++ F0) w) ?_ ?_
      · refine cw_block ?_
        refine cw_seq ?_
        refine cw_region ?_
        refine ow_vals 1 (j := 1) [1, 3, 4, 28] [(1, .pointer (some ⟨b21, 0, none⟩)), (3, .bool x29), (4, .int .i64 x30), (28, .pointer (some ⟨b21, 1, none⟩))] rfl (by kernel_rfl) ?_
        refine ow_pw rfl (pw_quiet (v := .slice p0 x0.Sides.length c0) rfl rfl rfl rfl (q_load 1 rfl rfl rfl (by kernel_rfl)) (nw_ow ?_))
        refine ow_vals 1 (j := 3) [1, 3, 4, 29, 30] [(1, .pointer (some ⟨b21, 0, none⟩)), (3, .bool x29), (4, .int .i64 x30), (29, .slice p0 x0.Sides.length c0), (30, .int .i64 x30)] rfl (by kernel_rfl) ?_
        obtain ⟨y33, h34, hF⟩ := bind_some hF
        refine ow_pw rfl (pw_index_roN (E := 43) 3 hr0 rfl rfl rfl rfl rfl (by kernel_rfl) rfl rfl rfl h34 fun q35 h36 => nw_ow ?_)
        obtain ⟨r37, h38, h39, h40⟩ := (id h36)
        have h41 : ro I eStr r37.Path.p r37.Path.c y33.Path := by subst h39; exact h40
        refine ow_pw rfl (pw_quiet (v := .agg #[.int .i64 y33.Index, .string y33.ID, .slice r37.Path.p y33.Path.length r37.Path.c]) rfl rfl rfl rfl (q_load_el0 0 rfl h38 rfl rfl (by subst h39; kernel_rfl)) (nw_ow ?_))
        refine ow_pw rfl (pw_alloc (cs := #[.int .i64 0, .string (ByteArray.mk #[]), .slice none 0 0]) rfl rfl rfl rfl rfl (by kernel_rfl) fun b42 => nw_ow ?_)
        refine ow_pw rfl (pw_store 0 #[.int .i64 y33.Index, .string y33.ID, .slice r37.Path.p y33.Path.length r37.Path.c] rfl rfl rfl rfl rfl rfl rfl (by kernel_rfl) (nw_H (H' := [pt b42 #[.int .i64 y33.Index, .string y33.ID, .slice r37.Path.p y33.Path.length r37.Path.c] 43, imm I, pt b21 #[.int .i64 x0.Size, .slice p0 x0.Sides.length c0] 35] ++ F0) rfl (nw_ow ?_)))
        refine ow_end rfl ?_
        refine ew_then ?_
        obtain ⟨v44, hF, hK44⟩ := bind_some hF
        refine cw_mid (fun a w => ∃ (x51 : Bool), x51 = v44 ∧ Fr 75 [(1, .pointer (some ⟨b21, 0, none⟩)), (3, .bool x51), (4, .int .i64 x30), (5, .pointer (some ⟨b42, 0, none⟩))] a ∧ SAT w0 ([imm I, pt b42 #[.int .i64 y33.Index, .string y33.ID, .slice r37.Path.p y33.Path.length r37.Path.c] 43, pt b21 #[.int .i64 x0.Size, .slice p0 x0.Sides.length c0] 35] ++ F0) w) ?_ ?_
        · refine cw_region ?_
          refine ow_vals 2 (j := 2) [1, 4, 5, 34] [(1, .pointer (some ⟨b21, 0, none⟩)), (4, .int .i64 x30), (5, .pointer (some ⟨b42, 0, none⟩)), (34, .bool x29)] rfl (by kernel_rfl) ?_
          rcases if_some hF with ⟨h45, hF⟩ | ⟨h45, hF⟩
          · refine ow_slots (L' := [(1, .pointer (some ⟨b21, 0, none⟩)), (4, .int .i64 x30), (5, .pointer (some ⟨b42, 0, none⟩)), (34, .bool true)]) (by rw [h45]) ?_
            refine ow_vals 1 (j := 3) [1, 4, 5, 34, 35] [(1, .pointer (some ⟨b21, 0, none⟩)), (4, .int .i64 x30), (5, .pointer (some ⟨b42, 0, none⟩)), (34, .bool true), (35, .pointer (some ⟨b42, 0, none⟩))] rfl (by kernel_rfl) ?_
            refine ow_pw rfl (pw_quiet (v := .int .i64 y33.Index) rfl rfl rfl rfl (q_load 0 rfl rfl rfl (by kernel_rfl)) (nw_ow ?_))
            refine ow_vals 3 (j := 7) [1, 4, 5, 39] [(1, .pointer (some ⟨b21, 0, none⟩)), (4, .int .i64 x30), (5, .pointer (some ⟨b42, 0, none⟩)), (39, .bool (decide (y33.Index ≥ 0)))] rfl (by kernel_rfl) ?_
            rcases if_some hF with ⟨h46, hF⟩ | ⟨h46, hF⟩
            · refine ow_slots (L' := [(1, .pointer (some ⟨b21, 0, none⟩)), (4, .int .i64 x30), (5, .pointer (some ⟨b42, 0, none⟩)), (39, .bool true)]) (by rw [h46]) ?_
              refine ow_vals 1 (j := 8) [1, 4, 5, 39, 40] [(1, .pointer (some ⟨b21, 0, none⟩)), (4, .int .i64 x30), (5, .pointer (some ⟨b42, 0, none⟩)), (39, .bool true), (40, .pointer (some ⟨b42, 0, none⟩))] rfl (by kernel_rfl) ?_
              refine ow_pw rfl (pw_quiet (v := .int .i64 y33.Index) rfl rfl rfl rfl (q_load 0 rfl rfl rfl (by kernel_rfl)) (nw_ow ?_))
              refine ow_vals 1 (j := 10) [1, 4, 5, 39, 41, 42] [(1, .pointer (some ⟨b21, 0, none⟩)), (4, .int .i64 x30), (5, .pointer (some ⟨b42, 0, none⟩)), (39, .bool true), (41, .int .i64 y33.Index), (42, .pointer (some ⟨b21, 0, none⟩))] rfl (by kernel_rfl) ?_
              refine ow_pw rfl (pw_quiet (v := .int .i64 x0.Size) rfl rfl rfl rfl (q_load 2 rfl rfl rfl (by kernel_rfl)) (nw_ow ?_))
              refine ow_vals 3 (j := 14) [1, 4, 5, 46] [(1, .pointer (some ⟨b21, 0, none⟩)), (4, .int .i64 x30), (5, .pointer (some ⟨b42, 0, none⟩)), (46, .bool (decide (y33.Index < x0.Size)))] rfl (by kernel_rfl) ?_
              rcases if_some hF with ⟨h47, hF⟩ | ⟨h47, hF⟩
              · refine ow_slots (L' := [(1, .pointer (some ⟨b21, 0, none⟩)), (4, .int .i64 x30), (5, .pointer (some ⟨b42, 0, none⟩)), (46, .bool true)]) (by rw [h47]) ?_
                refine ow_vals 1 (j := 15) [1, 4, 5, 46, 47] [(1, .pointer (some ⟨b21, 0, none⟩)), (4, .int .i64 x30), (5, .pointer (some ⟨b42, 0, none⟩)), (46, .bool true), (47, .pointer (some ⟨b42, 1, none⟩))] rfl (by kernel_rfl) ?_
                refine ow_pw rfl (pw_quiet (v := .string y33.ID) rfl rfl rfl rfl (q_load 0 rfl rfl rfl (by kernel_rfl)) (nw_ow ?_))
                obtain ⟨r48, h49, hF⟩ := bind_some hF
                refine ow_pw rfl (pw_call (F := [pt b42 #[.int .i64 y33.Index, .string y33.ID, .slice r37.Path.p y33.Path.length r37.Path.c] 43, pt b21 #[.int .i64 x0.Size, .slice p0 x0.Sides.length c0] 35] ++ F0) rfl rfl rfl rfl rfl rfl rfl (by kernel_rfl) (perm_of_pulls [1] rfl) (c_paper_IsID _ y33.ID r48 h49) ?_)
                rintro _ _ ⟨rfl, rfl⟩
                refine nw_H (H' := [imm I, pt b42 #[.int .i64 y33.Index, .string y33.ID, .slice r37.Path.p y33.Path.length r37.Path.c] 43, pt b21 #[.int .i64 x0.Size, .slice p0 x0.Sides.length c0] 35] ++ F0) rfl (nw_ow ?_)
                refine ow_vals 2 (j := 19) [1, 4, 5, 51] [(1, .pointer (some ⟨b21, 0, none⟩)), (4, .int .i64 x30), (5, .pointer (some ⟨b42, 0, none⟩)), (51, .bool r48)] rfl (by kernel_rfl) ?_
                rcases if_some hF with ⟨h50, hF⟩ | ⟨h50, hF⟩
                · refine ow_slots (L' := [(1, .pointer (some ⟨b21, 0, none⟩)), (4, .int .i64 x30), (5, .pointer (some ⟨b42, 0, none⟩)), (51, .bool true)]) (by rw [h50]) ?_
                  refine ow_vals 1 (j := 20) [1, 4, 5, 51, 52] [(1, .pointer (some ⟨b21, 0, none⟩)), (4, .int .i64 x30), (5, .pointer (some ⟨b42, 0, none⟩)), (51, .bool true), (52, .pointer (some ⟨b42, 2, none⟩))] rfl (by kernel_rfl) ?_
                  refine ow_pw rfl (pw_quiet (v := .slice r37.Path.p y33.Path.length r37.Path.c) rfl rfl rfl rfl (q_load 1 rfl rfl rfl (by kernel_rfl)) (nw_ow ?_))
                  refine ow_vals 4 (j := 25) [1, 3, 4, 5] [(1, .pointer (some ⟨b21, 0, none⟩)), (3, .bool (decide ((y33.Path.length : Int) ≤ 16))), (4, .int .i64 x30), (5, .pointer (some ⟨b42, 0, none⟩))] rfl (by kernel_rfl) ?_
                  refine ow_end rfl ?_
                  have hR := Option.some.inj hF
                  exact fun a w hf hs => ⟨decide ((y33.Path.length : Int) ≤ 16), hR, hf.keep [1, 3, 4, 5], sat_to [0, 0, 0] 0 rfl hs⟩
                refine ow_slots (L' := [(1, .pointer (some ⟨b21, 0, none⟩)), (4, .int .i64 x30), (5, .pointer (some ⟨b42, 0, none⟩)), (51, .bool false)]) (by rw [h50]) ?_
                refine ow_vals 6 (j := 25) [1, 3, 4, 5] [(1, .pointer (some ⟨b21, 0, none⟩)), (3, .bool false), (4, .int .i64 x30), (5, .pointer (some ⟨b42, 0, none⟩))] rfl (by kernel_rfl) ?_
                refine ow_end rfl ?_
                have hR := Option.some.inj hF
                exact fun a w hf hs => ⟨false, hR, hf.keep [1, 3, 4, 5], sat_to [0, 0, 0] 0 rfl hs⟩
              refine ow_slots (L' := [(1, .pointer (some ⟨b21, 0, none⟩)), (4, .int .i64 x30), (5, .pointer (some ⟨b42, 0, none⟩)), (46, .bool false)]) (by rw [h47]) ?_
              refine ow_vals 11 (j := 25) [1, 3, 4, 5] [(1, .pointer (some ⟨b21, 0, none⟩)), (3, .bool false), (4, .int .i64 x30), (5, .pointer (some ⟨b42, 0, none⟩))] rfl (by kernel_rfl) ?_
              refine ow_end rfl ?_
              have hR := Option.some.inj hF
              exact fun a w hf hs => ⟨false, hR, hf.keep [1, 3, 4, 5], sat_to [1, 0, 0] 0 rfl hs⟩
            refine ow_slots (L' := [(1, .pointer (some ⟨b21, 0, none⟩)), (4, .int .i64 x30), (5, .pointer (some ⟨b42, 0, none⟩)), (39, .bool false)]) (by rw [h46]) ?_
            refine ow_vals 18 (j := 25) [1, 3, 4, 5] [(1, .pointer (some ⟨b21, 0, none⟩)), (3, .bool false), (4, .int .i64 x30), (5, .pointer (some ⟨b42, 0, none⟩))] rfl (by kernel_rfl) ?_
            refine ow_end rfl ?_
            have hR := Option.some.inj hF
            exact fun a w hf hs => ⟨false, hR, hf.keep [1, 3, 4, 5], sat_to [1, 0, 0] 0 rfl hs⟩
          refine ow_slots (L' := [(1, .pointer (some ⟨b21, 0, none⟩)), (4, .int .i64 x30), (5, .pointer (some ⟨b42, 0, none⟩)), (34, .bool false)]) (by rw [h45]) ?_
          refine ow_vals 23 (j := 25) [1, 3, 4, 5] [(1, .pointer (some ⟨b21, 0, none⟩)), (3, .bool false), (4, .int .i64 x30), (5, .pointer (some ⟨b42, 0, none⟩))] rfl (by kernel_rfl) ?_
          refine ow_end rfl ?_
          have hR := Option.some.inj hF
          exact fun a w hf hs => ⟨false, hR, hf.keep [1, 3, 4, 5], sat_to [1, 0, 0] 0 rfl hs⟩
        rintro a w ⟨x51, hv, hf, hs⟩
        subst hv
        replace hF := hK44
        clear hK44
        try dsimp only at hF
        revert a w
        show CW _ _ _ 75 [(1, .pointer (some ⟨b21, 0, none⟩)), (3, .bool x51), (4, .int .i64 x30), (5, .pointer (some ⟨b42, 0, none⟩))] (SAT w0 ([imm I, pt b42 #[.int .i64 y33.Index, .string y33.ID, .slice r37.Path.p y33.Path.length r37.Path.c] 43, pt b21 #[.int .i64 x0.Size, .slice p0 x0.Sides.length c0] 35] ++ F0))
        unfold F.law24_right.r2 at hF
        refine cw_seq ?_
        refine cw_region ?_
        refine ow_vals 1 (j := 1) [1, 3, 4, 5, 6] [(1, .pointer (some ⟨b21, 0, none⟩)), (3, .bool x51), (4, .int .i64 x30), (5, .pointer (some ⟨b42, 0, none⟩)), (6, .int .i64 0)] rfl (by kernel_rfl) ?_
        refine ow_end rfl ?_
        refine ew_then ?_
        refine cw_block ?_
        refine fun a w hf hs => wp_rounds (fun k a w => ∃ (x53 : Bool), ∃ (x54 : Int), iter (fun x => F.law24_right.l3 y33 x.1 x.2) k (x53, x54) = some v32 ∧ Fr 75 [(1, .pointer (some ⟨b21, 0, none⟩)), (3, .bool x53), (4, .int .i64 x30), (5, .pointer (some ⟨b42, 0, none⟩)), (6, .int .i64 x54)] a ∧ SAT w0 ([imm I, pt b42 #[.int .i64 y33.Index, .string y33.ID, .slice r37.Path.p y33.Path.length r37.Path.c] 43, pt b21 #[.int .i64 x0.Size, .slice p0 x0.Sides.length c0] 35] ++ F0) w) ?_ FUEL a w ⟨x51, 0, hF, hf.keep [1, 3, 4, 5, 6], sat_to [0, 0, 0] 0 rfl hs⟩
        clear hf hs
        clear a w hF
        rintro k a w ⟨x53, x54, hF2, hf, hs⟩
        obtain ⟨k, r52, rfl, hF, hL52⟩ := iter_some hF2
        clear hF2
        revert a w
        show CW _ _ _ 75 [(1, .pointer (some ⟨b21, 0, none⟩)), (3, .bool x53), (4, .int .i64 x30), (5, .pointer (some ⟨b42, 0, none⟩)), (6, .int .i64 x54)] (SAT w0 ([imm I, pt b42 #[.int .i64 y33.Index, .string y33.ID, .slice r37.Path.p y33.Path.length r37.Path.c] 43, pt b21 #[.int .i64 x0.Size, .slice p0 x0.Sides.length c0] 35] ++ F0))
        try dsimp only at hF
        unfold F.law24_right.l3 at hF
        refine cw_seq ?_
        refine cw_seq ?_
        refine cw_region ?_
        refine ow_vals 2 (j := 2) [1, 3, 4, 5, 6, 57, 58] [(1, .pointer (some ⟨b21, 0, none⟩)), (3, .bool x53), (4, .int .i64 x30), (5, .pointer (some ⟨b42, 0, none⟩)), (6, .int .i64 x54), (57, .int .i64 x54), (58, .pointer (some ⟨b42, 2, none⟩))] rfl (by kernel_rfl) ?_
        refine ow_pw rfl (pw_quiet (v := .slice r37.Path.p y33.Path.length r37.Path.c) rfl rfl rfl rfl (q_load 1 rfl rfl rfl (by kernel_rfl)) (nw_ow ?_))
        refine ow_vals 2 (j := 5) [1, 3, 4, 5, 6, 61] [(1, .pointer (some ⟨b21, 0, none⟩)), (3, .bool x53), (4, .int .i64 x30), (5, .pointer (some ⟨b42, 0, none⟩)), (6, .int .i64 x54), (61, .bool (decide (x54 < (y33.Path.length : Int))))] rfl (by kernel_rfl) ?_
        refine ow_end rfl ?_
        refine ew_then ?_
        rcases if_some hF with ⟨h55, hF⟩ | ⟨h55, hF⟩
        · refine cw_cond_t rfl rfl h55 ?_
          refine cw_skip ?_
          refine ew_then ?_
          refine cw_seq ?_
          refine cw_block ?_
          refine cw_region ?_
          refine ow_vals 2 (j := 2) [1, 4, 5, 6, 65] [(1, .pointer (some ⟨b21, 0, none⟩)), (4, .int .i64 x30), (5, .pointer (some ⟨b42, 0, none⟩)), (6, .int .i64 x54), (65, .bool x53)] rfl (by kernel_rfl) ?_
          rcases if_some hF with ⟨h56, hF⟩ | ⟨h56, hF⟩
          · refine ow_slots (L' := [(1, .pointer (some ⟨b21, 0, none⟩)), (4, .int .i64 x30), (5, .pointer (some ⟨b42, 0, none⟩)), (6, .int .i64 x54), (65, .bool true)]) (by rw [h56]) ?_
            refine ow_vals 1 (j := 3) [1, 4, 5, 6, 65, 66] [(1, .pointer (some ⟨b21, 0, none⟩)), (4, .int .i64 x30), (5, .pointer (some ⟨b42, 0, none⟩)), (6, .int .i64 x54), (65, .bool true), (66, .pointer (some ⟨b42, 2, none⟩))] rfl (by kernel_rfl) ?_
            refine ow_pw rfl (pw_quiet (v := .slice r37.Path.p y33.Path.length r37.Path.c) rfl rfl rfl rfl (q_load 1 rfl rfl rfl (by kernel_rfl)) (nw_ow ?_))
            refine ow_vals 1 (j := 5) [1, 4, 5, 6, 65, 67, 68] [(1, .pointer (some ⟨b21, 0, none⟩)), (4, .int .i64 x30), (5, .pointer (some ⟨b42, 0, none⟩)), (6, .int .i64 x54), (65, .bool true), (67, .slice r37.Path.p y33.Path.length r37.Path.c), (68, .int .i64 x54)] rfl (by kernel_rfl) ?_
            obtain ⟨y57, h58, hF⟩ := bind_some hF
            refine ow_pw rfl (pw_index_ro (E := 9) 1 h41 rfl rfl rfl rfl rfl (by kernel_rfl) rfl rfl rfl h58 fun q59 h60 => nw_ow ?_)
            refine ow_pw rfl (pw_quiet (v := .string y57) rfl rfl rfl rfl (q_load_el0 0 rfl h60 rfl rfl (by kernel_rfl)) (nw_ow ?_))
            refine ow_vals 4 (j := 11) [1, 3, 4, 5, 6] [(1, .pointer (some ⟨b21, 0, none⟩)), (3, .bool ((y57.size : Int) == 32)), (4, .int .i64 x30), (5, .pointer (some ⟨b42, 0, none⟩)), (6, .int .i64 x54)] rfl (by kernel_rfl) ?_
            refine ow_end rfl ?_
            refine ew_blk ?_
            refine ew_then ?_
            refine cw_region ?_
            refine ow_vals 3 (j := 3) [1, 3, 4, 5, 6] [(1, .pointer (some ⟨b21, 0, none⟩)), (3, .bool ((y57.size : Int) == 32)), (4, .int .i64 x30), (5, .pointer (some ⟨b42, 0, none⟩)), (6, .int .i64 (IntKind.i64.wrap (x54 + 1)))] rfl (by kernel_rfl) ?_
            refine ow_end rfl ?_
            have hR := Option.some.inj hF
            subst hR
            have hR := hL52
            try dsimp only at hR
            exact fun a w hf hs => ⟨k, Nat.lt_succ_self k, (y57.size : Int) == 32, IntKind.i64.wrap (x54 + 1), hR, hf.keep [1, 3, 4, 5, 6], sat_to [0, 0, 0] 0 rfl hs⟩
          refine ow_slots (L' := [(1, .pointer (some ⟨b21, 0, none⟩)), (4, .int .i64 x30), (5, .pointer (some ⟨b42, 0, none⟩)), (6, .int .i64 x54), (65, .bool false)]) (by rw [h56]) ?_
          refine ow_vals 9 (j := 11) [1, 3, 4, 5, 6] [(1, .pointer (some ⟨b21, 0, none⟩)), (3, .bool false), (4, .int .i64 x30), (5, .pointer (some ⟨b42, 0, none⟩)), (6, .int .i64 x54)] rfl (by kernel_rfl) ?_
          refine ow_end rfl ?_
          refine ew_blk ?_
          refine ew_then ?_
          refine cw_region ?_
          refine ow_vals 3 (j := 3) [1, 3, 4, 5, 6] [(1, .pointer (some ⟨b21, 0, none⟩)), (3, .bool false), (4, .int .i64 x30), (5, .pointer (some ⟨b42, 0, none⟩)), (6, .int .i64 (IntKind.i64.wrap (x54 + 1)))] rfl (by kernel_rfl) ?_
          refine ow_end rfl ?_
          have hR := Option.some.inj hF
          subst hR
          have hR := hL52
          try dsimp only at hR
          exact fun a w hf hs => ⟨k, Nat.lt_succ_self k, false, IntKind.i64.wrap (x54 + 1), hR, hf.keep [1, 3, 4, 5, 6], sat_to [0, 0, 0] 0 rfl hs⟩
        refine cw_cond_f rfl rfl h55 ?_
        refine cw_exit ?_
        refine ew_then_exit ?_
        refine ew_then_exit ?_
        refine ew_blk_exit ?_
        refine ew_blk ?_
        have hR := Option.some.inj hF
        subst hR
        have hR := hL52
        try dsimp only at hR
        exact fun a w hf hs => ⟨x53, y33.Index, y33.ID, y33.Path, b42, r37.Path.p, r37.Path.c, hR, h41, hf.keep [1, 3, 4], sat_to [0, 0, 0] 0 rfl hs⟩
      rintro a w ⟨x62, x63, s64, l65, b61, p66, c67, hv, h68, hf, hs⟩
      subst hv
      replace hF := hK32
      clear hK32
      try dsimp only at hF
      revert a w
      show CW _ _ _ 75 [(1, .pointer (some ⟨b21, 0, none⟩)), (3, .bool x62), (4, .int .i64 x30)] (SAT w0 ([imm I, pt b61 #[.int .i64 x63, .string s64, .slice p66 l65.length c67] 43, pt b21 #[.int .i64 x0.Size, .slice p0 x0.Sides.length c0] 35] ++ F0))
      unfold F.law24_right.r4 at hF
      refine cw_region ?_
      refine ow_vals 3 (j := 3) [1, 3, 4] [(1, .pointer (some ⟨b21, 0, none⟩)), (3, .bool x62), (4, .int .i64 (IntKind.i64.wrap (x30 + 1)))] rfl (by kernel_rfl) ?_
      refine ow_end rfl ?_
      have hR := Option.some.inj hF
      subst hR
      have hR := hL28
      try dsimp only at hR
      exact fun a w hf hs => ⟨k, Nat.lt_succ_self k, x62, IntKind.i64.wrap (x30 + 1), hR, hf.keep [1, 3, 4], sat_to [1, 0, 0] 1 rfl hs⟩
    refine cw_cond_f rfl rfl h31 ?_
    refine cw_exit ?_
    refine ew_then_exit ?_
    refine ew_then_exit ?_
    refine ew_blk_exit ?_
    have hR := Option.some.inj hF
    subst hR
    have hR := hL28
    try dsimp only at hR
    exact fun a w hf hs => ⟨x29, hR, hf.keep [3], sat_to [0, 0] 0 rfl hs⟩
  rintro a w ⟨x69, hv, hf, hs⟩
  subst hv
  replace hF := hK27
  clear hK27
  try dsimp only at hF
  revert a w
  show CW _ _ _ 75 [(3, .bool x69)] (SAT w0 ([imm I, pt b21 #[.int .i64 x0.Size, .slice p0 x0.Sides.length c0] 35] ++ F0))
  unfold F.law24_right.r6 at hF
  refine cw_seq ?_
  refine cw_region ?_
  refine ow_vals 2 (j := 2) [2] [(2, .bool x69)] rfl (by kernel_rfl) ?_
  refine ow_end rfl ?_
  refine ew_then ?_
  refine cw_ret ?_
  have hR := Option.some.inj hF
  subst hR
  exact fin1 (H1 := [imm I]) (fun w hs => sat_to [1, 0] 1 rfl hs) rfl (rr_tmp rfl) ⟨rfl, rfl⟩


def F.law24_bytes.l1 (y34 : absent_Side) (s55 : ByteArray) (x56 : Int) : Option ((ByteArray × Int) ⊕ (ByteArray × Int × ByteArray × (List ByteArray))) :=
  if decide (x56 < (y34.Path.length : Int)) then (Option.bind (at_ y34.Path x56) (fun (y58 : ByteArray) => Option.bind (F.octet_Text y58) (fun (r62 : ByteArray) => chk (s55.size + r62.size ≤ 9223372036854775807) (some (.inl (s55 ++ r62, IntKind.i64.wrap (x56 + 1))))))) else (some (.inr ((s55, y34.Index, y34.ID, y34.Path))))
def F.law24_bytes.r2 (x31 : Int) (s66 : ByteArray) (x67 : Int) (s68 : ByteArray) (l69 : List ByteArray) : Option ((ByteArray × Int) ⊕ (ByteArray)) :=
  some (.inl (s66, IntKind.i64.wrap (x31 + 1)))
def F.law24_bytes.l3 (x0 : absent_Proof) (s30 : ByteArray) (x31 : Int) : Option ((ByteArray × Int) ⊕ (ByteArray)) :=
  if decide (x31 < (x0.Sides.length : Int)) then (Option.bind (Option.bind (at_ x0.Sides x31) (fun (y34 : absent_Side) => Option.bind (F.octet_Num y34.Index) (fun (r45 : ByteArray) => chk (s30.size + r45.size ≤ 9223372036854775807) (Option.bind (F.octet_Text y34.ID) (fun (r48 : ByteArray) => chk ((s30 ++ r45).size + r48.size ≤ 9223372036854775807) (Option.bind (F.octet_Num (y34.Path.length : Int)) (fun (r51 : ByteArray) => chk (((s30 ++ r45) ++ r48).size + r51.size ≤ 9223372036854775807) (iter (fun x => F.law24_bytes.l1 y34 x.1 x.2) FUEL (((s30 ++ r45) ++ r48) ++ r51, 0))))))))) (fun x => F.law24_bytes.r2 x31 x.1 x.2.1 x.2.2.1 x.2.2.2)) else (some (.inr (s30)))
def F.law24_bytes.r4 (s73 : ByteArray) : Option (ByteArray) :=
  some (s73)
def F.law24_bytes (x0 : absent_Proof) : Option ByteArray :=
  Option.bind (F.octet_Num x0.Size) (fun (r23 : ByteArray) => Option.bind (F.octet_Num (x0.Sides.length : Int)) (fun (r25 : ByteArray) => chk (r23.size + r25.size ≤ 9223372036854775807) (Option.bind (iter (fun x => F.law24_bytes.l3 x0 x.1 x.2) FUEL (r23 ++ r25, 0)) (fun x => F.law24_bytes.r4 x))))
set_option maxRecDepth 100000 in
set_option maxHeartbeats 4000000 in
theorem c_law24_bytes (I : Hl) (x0 : absent_Proof) (p0 : Option Addr) (c0 : Nat) (res : ByteArray) (hF : F.law24_bytes x0 = some res) (hr0 : roN I n_absent_Side p0 c0 x0.Sides) : Tr Try.prog 29 [.agg #[.int .i64 x0.Size, .slice p0 x0.Sides.length c0]] [imm I] (fun r H' => r = .string res ∧ H' = [imm I]) := by
  unfold F.law24_bytes at hF
  refine tr_of_cw (fn := Try.f29) Try.func29 rfl (Nat.le_of_ble_eq_true rfl) 57 rfl fun F0 w0 => ?_
  refine cw_keep [0] (L' := [(0, .agg #[.int .i64 x0.Size, .slice p0 x0.Sides.length c0])]) rfl ?_
  refine cw_state (S' := SAT w0 ([imm I] ++ F0)) (fun w hs => hs) ?_
  refine cw_seq ?_
  refine cw_region ?_
  refine ow_pw rfl (pw_box (cs := #[.int .i64 x0.Size, .slice p0 x0.Sides.length c0]) rfl rfl rfl rfl rfl rfl fun b21 => nw_ow ?_)
  refine ow_vals 1 (j := 2) [1] [(1, .pointer (some ⟨b21, 0, none⟩))] rfl (by kernel_rfl) ?_
  refine ow_end rfl ?_
  refine ew_then ?_
  refine cw_seq ?_
  refine cw_open 9 (SAT w0 ([pt b21 #[.int .i64 x0.Size, .slice p0 x0.Sides.length c0] 35, imm I])) (by kernel_rfl) (f := 9) rfl (fun w hs => sat_drew hs) ?_
  refine aw_vals [0, 3] (f' := 7) (m' := 9) [1, 7, 10] [(1, .pointer (some ⟨b21, 0, none⟩)), (7, .pointer (some ⟨b21, 0, none⟩)), (10, .pointer (some ⟨b21, 1, none⟩))] (fun _ _ _ _ _ h => calm_fin (P := Try.prog) (fn := Try.f29) _ _ _ _ _ h) (fun w hs => sat_pulls [0, 0] (G := [] ++ F0) rfl hs) rfl (by kernel_rfl) ?_
  refine aw_quiet 1 (m' := 11) (v := .int .i64 x0.Size) 0 [] rfl rfl rfl rfl (by kernel_rfl) (by kernel_rfl) (by kernel_rfl) (fun _ _ _ _ _ h => calm_fin (P := Try.prog) (fn := Try.f29) _ _ _ _ _ h) (fun w hs => sat_pulls [0, 0] (G := [] ++ F0) rfl hs) (q_load 0 rfl rfl rfl (by kernel_rfl)) ?_
  refine aw_quiet 4 (m' := 27) (v := .slice p0 x0.Sides.length c0) 0 [] rfl rfl rfl rfl (by kernel_rfl) (by kernel_rfl) (by kernel_rfl) (fun _ _ _ _ _ h => calm_fin (P := Try.prog) (fn := Try.f29) _ _ _ _ _ h) (fun w hs => sat_pulls [0, 0] (G := [] ++ F0) rfl hs) (q_load 0 rfl rfl rfl (by kernel_rfl)) ?_
  refine aw_vals [5] (f' := 4) (m' := 59) [1, 8, 12] [(1, .pointer (some ⟨b21, 0, none⟩)), (8, .int .i64 x0.Size), (12, .int .i64 (x0.Sides.length : Int))] (fun _ _ _ _ _ h => calm_fin (P := Try.prog) (fn := Try.f29) _ _ _ _ _ h) (fun w hs => sat_pulls [0, 0] (G := [] ++ F0) rfl hs) rfl (by kernel_rfl) ?_
  obtain ⟨r23, h24, hF⟩ := bind_some hF
  refine aw_only 2 (m' := 63) (by kernel_rfl) (by kernel_rfl) (pw_call (F := [pt b21 #[.int .i64 x0.Size, .slice p0 x0.Sides.length c0] 35] ++ F0) rfl rfl rfl rfl rfl rfl rfl (by kernel_rfl) (perm_of_pulls [1] rfl) (c_octet_Num _ x0.Size r23 h24) ?_)
  rintro _ _ ⟨rfl, rfl⟩
  refine nw_H (H' := [imm I, pt b21 #[.int .i64 x0.Size, .slice p0 x0.Sides.length c0] 35] ++ F0) rfl (aw_next (fun w hs => sat_pulls [1, 0] (G := [] ++ F0) rfl hs) ?_)
  obtain ⟨r25, h26, hF⟩ := bind_some hF
  refine aw_only 6 (m' := 127) (by kernel_rfl) (by kernel_rfl) (pw_call (F := [pt b21 #[.int .i64 x0.Size, .slice p0 x0.Sides.length c0] 35] ++ F0) rfl rfl rfl rfl rfl rfl rfl (by kernel_rfl) (perm_of_pulls [0] rfl) (c_octet_Num _ (x0.Sides.length : Int) r25 h26) ?_)
  rintro _ _ ⟨rfl, rfl⟩
  refine nw_H (H' := [imm I, pt b21 #[.int .i64 x0.Size, .slice p0 x0.Sides.length c0] 35] ++ F0) rfl (aw_next (fun w hs => sat_pulls [1, 0] (G := [] ++ F0) rfl hs) ?_)
  obtain ⟨h27, hF⟩ := chk_some hF
  refine aw_pure 7 (m' := 255) (v := .string (r23 ++ r25)) rfl rfl rfl rfl (by kernel_rfl) (by kernel_rfl) (fun _ _ _ _ _ h => calm_fin (P := Try.prog) (fn := Try.f29) _ _ _ _ _ h) (fun w hs => sat_pulls [1, 0] (G := [] ++ F0) rfl hs) (q_concat rfl rfl rfl h27) ?_
  refine aw_vals [8] (f' := 0) (m' := 511) [1, 3] [(1, .pointer (some ⟨b21, 0, none⟩)), (3, .string (r23 ++ r25))] (fun _ _ _ _ _ h => calm_fin (P := Try.prog) (fn := Try.f29) _ _ _ _ _ h) (fun w hs => sat_pulls [1, 0] (G := [] ++ F0) rfl hs) rfl (by kernel_rfl) ?_
  refine aw_keep [1, 3] (L' := [(1, .pointer (some ⟨b21, 0, none⟩)), (3, .string (r23 ++ r25))]) rfl ?_
  refine aw_end (by kernel_rfl) ?_
  refine ew_then ?_
  obtain ⟨v28, hF, hK28⟩ := bind_some hF
  refine cw_mid (fun a w => ∃ (s73 : ByteArray), s73 = v28 ∧ Fr 57 [(3, .string s73)] a ∧ SAT w0 ([imm I, pt b21 #[.int .i64 x0.Size, .slice p0 x0.Sides.length c0] 35] ++ F0) w) ?_ ?_
  · refine cw_seq ?_
    refine cw_region ?_
    refine ow_vals 1 (j := 1) [1, 3, 4] [(1, .pointer (some ⟨b21, 0, none⟩)), (3, .string (r23 ++ r25)), (4, .int .i64 0)] rfl (by kernel_rfl) ?_
    refine ow_end rfl ?_
    refine ew_then ?_
    refine cw_block ?_
    refine fun a w hf hs => wp_rounds (fun k a w => ∃ (s30 : ByteArray), ∃ (x31 : Int), iter (fun x => F.law24_bytes.l3 x0 x.1 x.2) k (s30, x31) = some v28 ∧ Fr 57 [(1, .pointer (some ⟨b21, 0, none⟩)), (3, .string s30), (4, .int .i64 x31)] a ∧ SAT w0 ([imm I, pt b21 #[.int .i64 x0.Size, .slice p0 x0.Sides.length c0] 35] ++ F0) w) ?_ FUEL a w ⟨r23 ++ r25, 0, hF, hf.keep [1, 3, 4], sat_to [0, 0] 0 rfl hs⟩
    clear hf hs
    clear a w hF
    rintro k a w ⟨s30, x31, hF2, hf, hs⟩
    obtain ⟨k, r29, rfl, hF, hL29⟩ := iter_some hF2
    clear hF2
    revert a w
    show CW _ _ _ 57 [(1, .pointer (some ⟨b21, 0, none⟩)), (3, .string s30), (4, .int .i64 x31)] (SAT w0 ([imm I, pt b21 #[.int .i64 x0.Size, .slice p0 x0.Sides.length c0] 35] ++ F0))
    try dsimp only at hF
    unfold F.law24_bytes.l3 at hF
    refine cw_seq ?_
    refine cw_seq ?_
    refine cw_region ?_
    refine ow_vals 2 (j := 2) [1, 3, 4, 15, 16] [(1, .pointer (some ⟨b21, 0, none⟩)), (3, .string s30), (4, .int .i64 x31), (15, .int .i64 x31), (16, .pointer (some ⟨b21, 1, none⟩))] rfl (by kernel_rfl) ?_
    refine ow_pw rfl (pw_quiet (v := .slice p0 x0.Sides.length c0) rfl rfl rfl rfl (q_load 1 rfl rfl rfl (by kernel_rfl)) (nw_ow ?_))
    refine ow_vals 2 (j := 5) [1, 3, 4, 19] [(1, .pointer (some ⟨b21, 0, none⟩)), (3, .string s30), (4, .int .i64 x31), (19, .bool (decide (x31 < (x0.Sides.length : Int))))] rfl (by kernel_rfl) ?_
    refine ow_end rfl ?_
    refine ew_then ?_
    rcases if_some hF with ⟨h32, hF⟩ | ⟨h32, hF⟩
    · refine cw_cond_t rfl rfl h32 ?_
      refine cw_skip ?_
      refine ew_then ?_
      obtain ⟨v33, hF, hK33⟩ := bind_some hF
      refine cw_mid (fun a w => ∃ (s66 : ByteArray), ∃ (x67 : Int), ∃ (s68 : ByteArray), ∃ (l69 : List ByteArray), ∃ (b65 : Nat), ∃ (p70 : Option Addr), ∃ (c71 : Nat), (s66, x67, s68, l69) = v33 ∧ ro I eStr p70 c71 l69 ∧ Fr 57 [(1, .pointer (some ⟨b21, 0, none⟩)), (3, .string s66), (4, .int .i64 x31)] a ∧ SAT w0 ([imm I, pt b65 #[.int .i64 x67, .string s68, .slice p70 l69.length c71] 43, pt b21 #[.int .i64 x0.Size, .slice p0 x0.Sides.length c0] 35] ++ F0) w) ?_ ?_
      · refine cw_block ?_
        refine cw_seq ?_
        refine cw_region ?_
        refine ow_vals 1 (j := 1) [1, 3, 4, 22] [(1, .pointer (some ⟨b21, 0, none⟩)), (3, .string s30), (4, .int .i64 x31), (22, .pointer (some ⟨b21, 1, none⟩))] rfl (by kernel_rfl) ?_
        refine ow_pw rfl (pw_quiet (v := .slice p0 x0.Sides.length c0) rfl rfl rfl rfl (q_load 1 rfl rfl rfl (by kernel_rfl)) (nw_ow ?_))
        refine ow_vals 1 (j := 3) [1, 3, 4, 23, 24] [(1, .pointer (some ⟨b21, 0, none⟩)), (3, .string s30), (4, .int .i64 x31), (23, .slice p0 x0.Sides.length c0), (24, .int .i64 x31)] rfl (by kernel_rfl) ?_
        obtain ⟨y34, h35, hF⟩ := bind_some hF
        refine ow_pw rfl (pw_index_roN (E := 43) 3 hr0 rfl rfl rfl rfl rfl (by kernel_rfl) rfl rfl rfl h35 fun q36 h37 => nw_ow ?_)
        obtain ⟨r38, h39, h40, h41⟩ := (id h37)
        have h42 : ro I eStr r38.Path.p r38.Path.c y34.Path := by subst h40; exact h41
        refine ow_pw rfl (pw_quiet (v := .agg #[.int .i64 y34.Index, .string y34.ID, .slice r38.Path.p y34.Path.length r38.Path.c]) rfl rfl rfl rfl (q_load_el0 0 rfl h39 rfl rfl (by subst h40; kernel_rfl)) (nw_ow ?_))
        refine ow_pw rfl (pw_alloc (cs := #[.int .i64 0, .string (ByteArray.mk #[]), .slice none 0 0]) rfl rfl rfl rfl rfl (by kernel_rfl) fun b43 => nw_ow ?_)
        refine ow_pw rfl (pw_store 0 #[.int .i64 y34.Index, .string y34.ID, .slice r38.Path.p y34.Path.length r38.Path.c] rfl rfl rfl rfl rfl rfl rfl (by kernel_rfl) (nw_H (H' := [pt b43 #[.int .i64 y34.Index, .string y34.ID, .slice r38.Path.p y34.Path.length r38.Path.c] 43, imm I, pt b21 #[.int .i64 x0.Size, .slice p0 x0.Sides.length c0] 35] ++ F0) rfl (nw_ow ?_)))
        refine ow_end rfl ?_
        refine ew_then ?_
        refine cw_seq ?_
        refine cw_open 15 (SAT w0 ([pt b43 #[.int .i64 y34.Index, .string y34.ID, .slice r38.Path.p y34.Path.length r38.Path.c] 43, imm I, pt b21 #[.int .i64 x0.Size, .slice p0 x0.Sides.length c0] 35])) (by kernel_rfl) (f := 15) rfl (fun w hs => sat_drew hs) ?_
        refine aw_vals [0, 1, 5, 9] (f' := 11) (m' := 547) [1, 3, 4, 5, 27, 28, 32, 36] [(1, .pointer (some ⟨b21, 0, none⟩)), (3, .string s30), (4, .int .i64 x31), (5, .pointer (some ⟨b43, 0, none⟩)), (27, .string s30), (28, .pointer (some ⟨b43, 0, none⟩)), (32, .pointer (some ⟨b43, 1, none⟩)), (36, .pointer (some ⟨b43, 2, none⟩))] (fun _ _ _ _ _ h => calm_fin (P := Try.prog) (fn := Try.f29) _ _ _ _ _ h) (fun w hs => sat_pulls [0, 0, 0] (G := [] ++ F0) rfl hs) rfl (by kernel_rfl) ?_
        refine aw_quiet 2 (m' := 551) (v := .int .i64 y34.Index) 0 [] rfl rfl rfl rfl (by kernel_rfl) (by kernel_rfl) (by kernel_rfl) (fun _ _ _ _ _ h => calm_fin (P := Try.prog) (fn := Try.f29) _ _ _ _ _ h) (fun w hs => sat_pulls [0, 0, 0] (G := [] ++ F0) rfl hs) (q_load 0 rfl rfl rfl (by kernel_rfl)) ?_
        refine aw_quiet 6 (m' := 615) (v := .string y34.ID) 0 [] rfl rfl rfl rfl (by kernel_rfl) (by kernel_rfl) (by kernel_rfl) (fun _ _ _ _ _ h => calm_fin (P := Try.prog) (fn := Try.f29) _ _ _ _ _ h) (fun w hs => sat_pulls [0, 0, 0] (G := [] ++ F0) rfl hs) (q_load 0 rfl rfl rfl (by kernel_rfl)) ?_
        refine aw_quiet 10 (m' := 1639) (v := .slice r38.Path.p y34.Path.length r38.Path.c) 0 [] rfl rfl rfl rfl (by kernel_rfl) (by kernel_rfl) (by kernel_rfl) (fun _ _ _ _ _ h => calm_fin (P := Try.prog) (fn := Try.f29) _ _ _ _ _ h) (fun w hs => sat_pulls [0, 0, 0] (G := [] ++ F0) rfl hs) (q_load 0 rfl rfl rfl (by kernel_rfl)) ?_
        refine aw_vals [11] (f' := 7) (m' := 3687) [1, 3, 4, 5, 27, 29, 33, 38] [(1, .pointer (some ⟨b21, 0, none⟩)), (3, .string s30), (4, .int .i64 x31), (5, .pointer (some ⟨b43, 0, none⟩)), (27, .string s30), (29, .int .i64 y34.Index), (33, .string y34.ID), (38, .int .i64 (y34.Path.length : Int))] (fun _ _ _ _ _ h => calm_fin (P := Try.prog) (fn := Try.f29) _ _ _ _ _ h) (fun w hs => sat_pulls [0, 0, 0] (G := [] ++ F0) rfl hs) rfl (by kernel_rfl) ?_
        obtain ⟨r45, h46, hF⟩ := bind_some hF
        refine aw_only 3 (m' := 3695) (by kernel_rfl) (by kernel_rfl) (pw_call (F := [pt b43 #[.int .i64 y34.Index, .string y34.ID, .slice r38.Path.p y34.Path.length r38.Path.c] 43, pt b21 #[.int .i64 x0.Size, .slice p0 x0.Sides.length c0] 35] ++ F0) rfl rfl rfl rfl rfl rfl rfl (by kernel_rfl) (perm_of_pulls [1] rfl) (c_octet_Num _ y34.Index r45 h46) ?_)
        rintro _ _ ⟨rfl, rfl⟩
        refine nw_H (H' := [imm I, pt b43 #[.int .i64 y34.Index, .string y34.ID, .slice r38.Path.p y34.Path.length r38.Path.c] 43, pt b21 #[.int .i64 x0.Size, .slice p0 x0.Sides.length c0] 35] ++ F0) rfl (aw_next (fun w hs => sat_pulls [1, 0, 0] (G := [] ++ F0) rfl hs) ?_)
        obtain ⟨h47, hF⟩ := chk_some hF
        refine aw_pure 4 (m' := 3711) (v := .string (s30 ++ r45)) rfl rfl rfl rfl (by kernel_rfl) (by kernel_rfl) (fun _ _ _ _ _ h => calm_fin (P := Try.prog) (fn := Try.f29) _ _ _ _ _ h) (fun w hs => sat_pulls [1, 0, 0] (G := [] ++ F0) rfl hs) (q_concat rfl rfl rfl h47) ?_
        obtain ⟨r48, h49, hF⟩ := bind_some hF
        refine aw_only 7 (m' := 3839) (by kernel_rfl) (by kernel_rfl) (pw_call (F := [pt b43 #[.int .i64 y34.Index, .string y34.ID, .slice r38.Path.p y34.Path.length r38.Path.c] 43, pt b21 #[.int .i64 x0.Size, .slice p0 x0.Sides.length c0] 35] ++ F0) rfl rfl rfl rfl rfl rfl rfl (by kernel_rfl) (perm_of_pulls [0] rfl) (c_octet_Text _ y34.ID r48 h49) ?_)
        rintro _ _ ⟨rfl, rfl⟩
        refine nw_H (H' := [imm I, pt b43 #[.int .i64 y34.Index, .string y34.ID, .slice r38.Path.p y34.Path.length r38.Path.c] 43, pt b21 #[.int .i64 x0.Size, .slice p0 x0.Sides.length c0] 35] ++ F0) rfl (aw_next (fun w hs => sat_pulls [1, 0, 0] (G := [] ++ F0) rfl hs) ?_)
        obtain ⟨h50, hF⟩ := chk_some hF
        refine aw_pure 8 (m' := 4095) (v := .string ((s30 ++ r45) ++ r48)) rfl rfl rfl rfl (by kernel_rfl) (by kernel_rfl) (fun _ _ _ _ _ h => calm_fin (P := Try.prog) (fn := Try.f29) _ _ _ _ _ h) (fun w hs => sat_pulls [1, 0, 0] (G := [] ++ F0) rfl hs) (q_concat rfl rfl rfl h50) ?_
        obtain ⟨r51, h52, hF⟩ := bind_some hF
        refine aw_only 12 (m' := 8191) (by kernel_rfl) (by kernel_rfl) (pw_call (F := [pt b43 #[.int .i64 y34.Index, .string y34.ID, .slice r38.Path.p y34.Path.length r38.Path.c] 43, pt b21 #[.int .i64 x0.Size, .slice p0 x0.Sides.length c0] 35] ++ F0) rfl rfl rfl rfl rfl rfl rfl (by kernel_rfl) (perm_of_pulls [0] rfl) (c_octet_Num _ (y34.Path.length : Int) r51 h52) ?_)
        rintro _ _ ⟨rfl, rfl⟩
        refine nw_H (H' := [imm I, pt b43 #[.int .i64 y34.Index, .string y34.ID, .slice r38.Path.p y34.Path.length r38.Path.c] 43, pt b21 #[.int .i64 x0.Size, .slice p0 x0.Sides.length c0] 35] ++ F0) rfl (aw_next (fun w hs => sat_pulls [1, 0, 0] (G := [] ++ F0) rfl hs) ?_)
        obtain ⟨h53, hF⟩ := chk_some hF
        refine aw_pure 13 (m' := 16383) (v := .string (((s30 ++ r45) ++ r48) ++ r51)) rfl rfl rfl rfl (by kernel_rfl) (by kernel_rfl) (fun _ _ _ _ _ h => calm_fin (P := Try.prog) (fn := Try.f29) _ _ _ _ _ h) (fun w hs => sat_pulls [1, 0, 0] (G := [] ++ F0) rfl hs) (q_concat rfl rfl rfl h53) ?_
        refine aw_vals [14] (f' := 0) (m' := 32767) [1, 3, 4, 5] [(1, .pointer (some ⟨b21, 0, none⟩)), (3, .string (((s30 ++ r45) ++ r48) ++ r51)), (4, .int .i64 x31), (5, .pointer (some ⟨b43, 0, none⟩))] (fun _ _ _ _ _ h => calm_fin (P := Try.prog) (fn := Try.f29) _ _ _ _ _ h) (fun w hs => sat_pulls [1, 0, 0] (G := [] ++ F0) rfl hs) rfl (by kernel_rfl) ?_
        refine aw_keep [1, 3, 4, 5] (L' := [(1, .pointer (some ⟨b21, 0, none⟩)), (3, .string (((s30 ++ r45) ++ r48) ++ r51)), (4, .int .i64 x31), (5, .pointer (some ⟨b43, 0, none⟩))]) rfl ?_
        refine aw_end (by kernel_rfl) ?_
        refine ew_then ?_
        refine cw_seq ?_
        refine cw_region ?_
        refine ow_vals 1 (j := 1) [1, 3, 4, 5, 6] [(1, .pointer (some ⟨b21, 0, none⟩)), (3, .string (((s30 ++ r45) ++ r48) ++ r51)), (4, .int .i64 x31), (5, .pointer (some ⟨b43, 0, none⟩)), (6, .int .i64 0)] rfl (by kernel_rfl) ?_
        refine ow_end rfl ?_
        refine ew_then ?_
        refine cw_block ?_
        refine fun a w hf hs => wp_rounds (fun k a w => ∃ (s55 : ByteArray), ∃ (x56 : Int), iter (fun x => F.law24_bytes.l1 y34 x.1 x.2) k (s55, x56) = some v33 ∧ Fr 57 [(1, .pointer (some ⟨b21, 0, none⟩)), (3, .string s55), (4, .int .i64 x31), (5, .pointer (some ⟨b43, 0, none⟩)), (6, .int .i64 x56)] a ∧ SAT w0 ([imm I, pt b43 #[.int .i64 y34.Index, .string y34.ID, .slice r38.Path.p y34.Path.length r38.Path.c] 43, pt b21 #[.int .i64 x0.Size, .slice p0 x0.Sides.length c0] 35] ++ F0) w) ?_ FUEL a w ⟨((s30 ++ r45) ++ r48) ++ r51, 0, hF, hf.keep [1, 3, 4, 5, 6], sat_to [0, 0, 0] 0 rfl hs⟩
        clear hf hs
        clear a w hF
        rintro k a w ⟨s55, x56, hF2, hf, hs⟩
        obtain ⟨k, r54, rfl, hF, hL54⟩ := iter_some hF2
        clear hF2
        revert a w
        show CW _ _ _ 57 [(1, .pointer (some ⟨b21, 0, none⟩)), (3, .string s55), (4, .int .i64 x31), (5, .pointer (some ⟨b43, 0, none⟩)), (6, .int .i64 x56)] (SAT w0 ([imm I, pt b43 #[.int .i64 y34.Index, .string y34.ID, .slice r38.Path.p y34.Path.length r38.Path.c] 43, pt b21 #[.int .i64 x0.Size, .slice p0 x0.Sides.length c0] 35] ++ F0))
        try dsimp only at hF
        unfold F.law24_bytes.l1 at hF
        refine cw_seq ?_
        refine cw_seq ?_
        refine cw_region ?_
        refine ow_vals 2 (j := 2) [1, 3, 4, 5, 6, 41, 42] [(1, .pointer (some ⟨b21, 0, none⟩)), (3, .string s55), (4, .int .i64 x31), (5, .pointer (some ⟨b43, 0, none⟩)), (6, .int .i64 x56), (41, .int .i64 x56), (42, .pointer (some ⟨b43, 2, none⟩))] rfl (by kernel_rfl) ?_
        refine ow_pw rfl (pw_quiet (v := .slice r38.Path.p y34.Path.length r38.Path.c) rfl rfl rfl rfl (q_load 1 rfl rfl rfl (by kernel_rfl)) (nw_ow ?_))
        refine ow_vals 2 (j := 5) [1, 3, 4, 5, 6, 45] [(1, .pointer (some ⟨b21, 0, none⟩)), (3, .string s55), (4, .int .i64 x31), (5, .pointer (some ⟨b43, 0, none⟩)), (6, .int .i64 x56), (45, .bool (decide (x56 < (y34.Path.length : Int))))] rfl (by kernel_rfl) ?_
        refine ow_end rfl ?_
        refine ew_then ?_
        rcases if_some hF with ⟨h57, hF⟩ | ⟨h57, hF⟩
        · refine cw_cond_t rfl rfl h57 ?_
          refine cw_skip ?_
          refine ew_then ?_
          refine cw_seq ?_
          refine cw_block ?_
          refine cw_region ?_
          refine ow_vals 2 (j := 2) [1, 4, 5, 6, 48, 49] [(1, .pointer (some ⟨b21, 0, none⟩)), (4, .int .i64 x31), (5, .pointer (some ⟨b43, 0, none⟩)), (6, .int .i64 x56), (48, .string s55), (49, .pointer (some ⟨b43, 2, none⟩))] rfl (by kernel_rfl) ?_
          refine ow_pw rfl (pw_quiet (v := .slice r38.Path.p y34.Path.length r38.Path.c) rfl rfl rfl rfl (q_load 1 rfl rfl rfl (by kernel_rfl)) (nw_ow ?_))
          refine ow_vals 1 (j := 4) [1, 4, 5, 6, 48, 50, 51] [(1, .pointer (some ⟨b21, 0, none⟩)), (4, .int .i64 x31), (5, .pointer (some ⟨b43, 0, none⟩)), (6, .int .i64 x56), (48, .string s55), (50, .slice r38.Path.p y34.Path.length r38.Path.c), (51, .int .i64 x56)] rfl (by kernel_rfl) ?_
          obtain ⟨y58, h59, hF⟩ := bind_some hF
          refine ow_pw rfl (pw_index_ro (E := 9) 1 h42 rfl rfl rfl rfl rfl (by kernel_rfl) rfl rfl rfl h59 fun q60 h61 => nw_ow ?_)
          refine ow_pw rfl (pw_quiet (v := .string y58) rfl rfl rfl rfl (q_load_el0 0 rfl h61 rfl rfl (by kernel_rfl)) (nw_ow ?_))
          obtain ⟨r62, h63, hF⟩ := bind_some hF
          refine ow_pw rfl (pw_call (F := [pt b43 #[.int .i64 y34.Index, .string y34.ID, .slice r38.Path.p y34.Path.length r38.Path.c] 43, pt b21 #[.int .i64 x0.Size, .slice p0 x0.Sides.length c0] 35] ++ F0) rfl rfl rfl rfl rfl rfl rfl (by kernel_rfl) (perm_of_pulls [0] rfl) (c_octet_Text _ y58 r62 h63) ?_)
          rintro _ _ ⟨rfl, rfl⟩
          refine nw_H (H' := [imm I, pt b43 #[.int .i64 y34.Index, .string y34.ID, .slice r38.Path.p y34.Path.length r38.Path.c] 43, pt b21 #[.int .i64 x0.Size, .slice p0 x0.Sides.length c0] 35] ++ F0) rfl (nw_ow ?_)
          obtain ⟨h64, hF⟩ := chk_some hF
          refine ow_pw rfl (pw_quiet (v := .string (s55 ++ r62)) rfl rfl rfl rfl (q_concat rfl rfl rfl h64) (nw_ow ?_))
          refine ow_vals 1 (j := 9) [1, 3, 4, 5, 6] [(1, .pointer (some ⟨b21, 0, none⟩)), (3, .string (s55 ++ r62)), (4, .int .i64 x31), (5, .pointer (some ⟨b43, 0, none⟩)), (6, .int .i64 x56)] rfl (by kernel_rfl) ?_
          refine ow_end rfl ?_
          refine ew_blk ?_
          refine ew_then ?_
          refine cw_region ?_
          refine ow_vals 3 (j := 3) [1, 3, 4, 5, 6] [(1, .pointer (some ⟨b21, 0, none⟩)), (3, .string (s55 ++ r62)), (4, .int .i64 x31), (5, .pointer (some ⟨b43, 0, none⟩)), (6, .int .i64 (IntKind.i64.wrap (x56 + 1)))] rfl (by kernel_rfl) ?_
          refine ow_end rfl ?_
          have hR := Option.some.inj hF
          subst hR
          have hR := hL54
          try dsimp only at hR
          exact fun a w hf hs => ⟨k, Nat.lt_succ_self k, s55 ++ r62, IntKind.i64.wrap (x56 + 1), hR, hf.keep [1, 3, 4, 5, 6], sat_to [0, 0, 0] 0 rfl hs⟩
        refine cw_cond_f rfl rfl h57 ?_
        refine cw_exit ?_
        refine ew_then_exit ?_
        refine ew_then_exit ?_
        refine ew_blk_exit ?_
        refine ew_blk ?_
        have hR := Option.some.inj hF
        subst hR
        have hR := hL54
        try dsimp only at hR
        exact fun a w hf hs => ⟨s55, y34.Index, y34.ID, y34.Path, b43, r38.Path.p, r38.Path.c, hR, h42, hf.keep [1, 3, 4], sat_to [0, 0, 0] 0 rfl hs⟩
      rintro a w ⟨s66, x67, s68, l69, b65, p70, c71, hv, h72, hf, hs⟩
      subst hv
      replace hF := hK33
      clear hK33
      try dsimp only at hF
      revert a w
      show CW _ _ _ 57 [(1, .pointer (some ⟨b21, 0, none⟩)), (3, .string s66), (4, .int .i64 x31)] (SAT w0 ([imm I, pt b65 #[.int .i64 x67, .string s68, .slice p70 l69.length c71] 43, pt b21 #[.int .i64 x0.Size, .slice p0 x0.Sides.length c0] 35] ++ F0))
      unfold F.law24_bytes.r2 at hF
      refine cw_region ?_
      refine ow_vals 3 (j := 3) [1, 3, 4] [(1, .pointer (some ⟨b21, 0, none⟩)), (3, .string s66), (4, .int .i64 (IntKind.i64.wrap (x31 + 1)))] rfl (by kernel_rfl) ?_
      refine ow_end rfl ?_
      have hR := Option.some.inj hF
      subst hR
      have hR := hL29
      try dsimp only at hR
      exact fun a w hf hs => ⟨k, Nat.lt_succ_self k, s66, IntKind.i64.wrap (x31 + 1), hR, hf.keep [1, 3, 4], sat_to [1, 0, 0] 1 rfl hs⟩
    refine cw_cond_f rfl rfl h32 ?_
    refine cw_exit ?_
    refine ew_then_exit ?_
    refine ew_then_exit ?_
    refine ew_blk_exit ?_
    have hR := Option.some.inj hF
    subst hR
    have hR := hL29
    try dsimp only at hR
    exact fun a w hf hs => ⟨s30, hR, hf.keep [3], sat_to [0, 0] 0 rfl hs⟩
  rintro a w ⟨s73, hv, hf, hs⟩
  subst hv
  replace hF := hK28
  clear hK28
  try dsimp only at hF
  revert a w
  show CW _ _ _ 57 [(3, .string s73)] (SAT w0 ([imm I, pt b21 #[.int .i64 x0.Size, .slice p0 x0.Sides.length c0] 35] ++ F0))
  unfold F.law24_bytes.r4 at hF
  refine cw_seq ?_
  refine cw_region ?_
  refine ow_vals 2 (j := 2) [2] [(2, .string s73)] rfl (by kernel_rfl) ?_
  refine ow_end rfl ?_
  refine ew_then ?_
  refine cw_ret ?_
  have hR := Option.some.inj hF
  subst hR
  exact fin1 (H1 := [imm I]) (fun w hs => sat_to [1, 0] 1 rfl hs) rfl (rr_tmp rfl) ⟨rfl, rfl⟩


def F.octet_Writer_Num.r1 (m0 : octet_Writer) (r21 : ByteArray) (x25 : Bool) : Option (octet_Writer) :=
  chk (m0.s_.size + r21.size ≤ 9223372036854775807) (some ((⟨m0.s_ ++ r21, x25⟩ : octet_Writer)))
def F.octet_Writer_Num (x1 : Int) (m0 : octet_Writer) : Option octet_Writer :=
  Option.bind (F.octet_Num x1) (fun (r21 : ByteArray) => Option.bind (if m0.no_ then (some (true)) else (some ((seqB r21 (ByteArray.mk #[]))))) (fun x => F.octet_Writer_Num.r1 m0 r21 x))
set_option maxRecDepth 100000 in
set_option maxHeartbeats 4000000 in
theorem c_octet_Writer_Num (I : Hl) (x1 : Int) (m0 : octet_Writer) (b0 : Nat) (res : octet_Writer) (hF : F.octet_Writer_Num x1 m0 = some res) : Tr Try.prog 48 [.pointer (some ⟨b0, 0, none⟩), .int .i64 x1] [imm I, pt b0 #[.string m0.s_, .bool m0.no_] 84] (fun r H' => r = .tuple #[] ∧ H' = [imm I, pt b0 #[.string res.s_, .bool res.no_] 84]) := by
  unfold F.octet_Writer_Num at hF
  refine tr_of_cw (fn := Try.f48) Try.func48 rfl (Nat.le_of_ble_eq_true rfl) 26 rfl fun F0 w0 => ?_
  refine cw_keep [0, 1] (L' := [(0, .pointer (some ⟨b0, 0, none⟩)), (1, .int .i64 x1)]) rfl ?_
  refine cw_state (S' := SAT w0 ([imm I, pt b0 #[.string m0.s_, .bool m0.no_] 84] ++ F0)) (fun w hs => hs) ?_
  refine cw_seq ?_
  refine cw_region ?_
  refine ow_vals 1 (j := 1) [0, 5] [(0, .pointer (some ⟨b0, 0, none⟩)), (5, .int .i64 x1)] rfl (by kernel_rfl) ?_
  obtain ⟨r21, h22, hF⟩ := bind_some hF
  refine ow_pw rfl (pw_call (F := [pt b0 #[.string m0.s_, .bool m0.no_] 84] ++ F0) rfl rfl rfl rfl rfl rfl rfl (by kernel_rfl) (perm_of_pulls [0] rfl) (c_octet_Num _ x1 r21 h22) ?_)
  rintro _ _ ⟨rfl, rfl⟩
  refine nw_H (H' := [imm I, pt b0 #[.string m0.s_, .bool m0.no_] 84] ++ F0) rfl (nw_ow ?_)
  refine ow_vals 1 (j := 3) [0, 4] [(0, .pointer (some ⟨b0, 0, none⟩)), (4, .string r21)] rfl (by kernel_rfl) ?_
  refine ow_end rfl ?_
  refine ew_then ?_
  obtain ⟨v23, hF, hK23⟩ := bind_some hF
  refine cw_mid (fun a w => ∃ (x25 : Bool), x25 = v23 ∧ Fr 26 [(0, .pointer (some ⟨b0, 0, none⟩)), (4, .string r21)] a ∧ SAT w0 ([imm I, pt b0 #[.string m0.s_, .bool x25] 84] ++ F0) w) ?_ ?_
  · refine cw_region ?_
    refine ow_vals 4 (j := 4) [0, 4, 7, 10] [(0, .pointer (some ⟨b0, 0, none⟩)), (4, .string r21), (7, .pointer (some ⟨b0, 0, none⟩)), (10, .pointer (some ⟨b0, 1, none⟩))] rfl (by kernel_rfl) ?_
    refine ow_pw rfl (pw_quiet (v := .bool m0.no_) rfl rfl rfl rfl (q_load 1 rfl rfl rfl (by kernel_rfl)) (nw_ow ?_))
    refine ow_vals 1 (j := 6) [0, 4, 7, 12] [(0, .pointer (some ⟨b0, 0, none⟩)), (4, .string r21), (7, .pointer (some ⟨b0, 0, none⟩)), (12, .bool m0.no_)] rfl (by kernel_rfl) ?_
    rcases if_some hF with ⟨h24, hF⟩ | ⟨h24, hF⟩
    · refine ow_slots (L' := [(0, .pointer (some ⟨b0, 0, none⟩)), (4, .string r21), (7, .pointer (some ⟨b0, 0, none⟩)), (12, .bool true)]) (by rw [h24]) ?_
      refine ow_vals 5 (j := 11) [0, 4, 15, 17] [(0, .pointer (some ⟨b0, 0, none⟩)), (4, .string r21), (15, .bool true), (17, .pointer (some ⟨b0, 1, none⟩))] rfl (by kernel_rfl) ?_
      refine ow_pw rfl (pw_store 1 #[.string m0.s_, .bool true] rfl rfl rfl rfl rfl rfl rfl (by kernel_rfl) (nw_H (H' := [imm I, pt b0 #[.string m0.s_, .bool true] 84] ++ F0) rfl (nw_ow ?_)))
      refine ow_end rfl ?_
      have hR := Option.some.inj hF
      exact fun a w hf hs => ⟨true, hR, hf.keep [0, 4], sat_to [0, 0] 0 rfl hs⟩
    refine ow_slots (L' := [(0, .pointer (some ⟨b0, 0, none⟩)), (4, .string r21), (7, .pointer (some ⟨b0, 0, none⟩)), (12, .bool false)]) (by rw [h24]) ?_
    refine ow_vals 5 (j := 11) [0, 4, 15, 17] [(0, .pointer (some ⟨b0, 0, none⟩)), (4, .string r21), (15, .bool (seqB r21 (ByteArray.mk #[]))), (17, .pointer (some ⟨b0, 1, none⟩))] rfl (by kernel_rfl) ?_
    refine ow_pw rfl (pw_store 1 #[.string m0.s_, .bool (seqB r21 (ByteArray.mk #[]))] rfl rfl rfl rfl rfl rfl rfl (by kernel_rfl) (nw_H (H' := [imm I, pt b0 #[.string m0.s_, .bool (seqB r21 (ByteArray.mk #[]))] 84] ++ F0) rfl (nw_ow ?_)))
    refine ow_end rfl ?_
    have hR := Option.some.inj hF
    exact fun a w hf hs => ⟨seqB r21 (ByteArray.mk #[]), hR, hf.keep [0, 4], sat_to [0, 0] 0 rfl hs⟩
  rintro a w ⟨x25, hv, hf, hs⟩
  subst hv
  replace hF := hK23
  clear hK23
  try dsimp only at hF
  revert a w
  show CW _ _ _ 26 [(0, .pointer (some ⟨b0, 0, none⟩)), (4, .string r21)] (SAT w0 ([imm I, pt b0 #[.string m0.s_, .bool x25] 84] ++ F0))
  unfold F.octet_Writer_Num.r1 at hF
  refine cw_region ?_
  refine ow_vals 3 (j := 3) [4, 18, 20] [(4, .string r21), (18, .pointer (some ⟨b0, 0, none⟩)), (20, .pointer (some ⟨b0, 0, none⟩))] rfl (by kernel_rfl) ?_
  refine ow_pw rfl (pw_quiet (v := .string m0.s_) rfl rfl rfl rfl (q_load 1 rfl rfl rfl (by kernel_rfl)) (nw_ow ?_))
  refine ow_vals 1 (j := 5) [18, 21, 22] [(18, .pointer (some ⟨b0, 0, none⟩)), (21, .string m0.s_), (22, .string r21)] rfl (by kernel_rfl) ?_
  obtain ⟨h26, hF⟩ := chk_some hF
  refine ow_pw rfl (pw_quiet (v := .string (m0.s_ ++ r21)) rfl rfl rfl rfl (q_concat rfl rfl rfl h26) (nw_ow ?_))
  refine ow_vals 2 (j := 8) [23, 25] [(23, .string (m0.s_ ++ r21)), (25, .pointer (some ⟨b0, 0, none⟩))] rfl (by kernel_rfl) ?_
  refine ow_pw rfl (pw_store 1 #[.string (m0.s_ ++ r21), .bool x25] rfl rfl rfl rfl rfl rfl rfl (by kernel_rfl) (nw_H (H' := [imm I, pt b0 #[.string (m0.s_ ++ r21), .bool x25] 84] ++ F0) rfl (nw_ow ?_)))
  refine ow_end rfl ?_
  have hR := Option.some.inj hF
  subst hR
  exact fin0n (H1 := [imm I, pt b0 #[.string ((⟨m0.s_ ++ r21, x25⟩ : octet_Writer).s_), .bool ((⟨m0.s_ ++ r21, x25⟩ : octet_Writer).no_)] 84]) (fun w hs => sat_to [0, 0] 0 rfl hs) rfl  ⟨rfl, rfl⟩


def F.octet_Writer_Text (x1 : ByteArray) (m0 : octet_Writer) : Option octet_Writer :=
  Option.bind (F.octet_Text x1) (fun (r21 : ByteArray) => chk (m0.s_.size + r21.size ≤ 9223372036854775807) (some ((⟨m0.s_ ++ r21, m0.no_⟩ : octet_Writer))))
set_option maxRecDepth 100000 in
set_option maxHeartbeats 4000000 in
theorem c_octet_Writer_Text (I : Hl) (x1 : ByteArray) (m0 : octet_Writer) (b0 : Nat) (res : octet_Writer) (hF : F.octet_Writer_Text x1 m0 = some res) : Tr Try.prog 49 [.pointer (some ⟨b0, 0, none⟩), .string x1] [imm I, pt b0 #[.string m0.s_, .bool m0.no_] 84] (fun r H' => r = .tuple #[] ∧ H' = [imm I, pt b0 #[.string res.s_, .bool res.no_] 84]) := by
  unfold F.octet_Writer_Text at hF
  refine tr_of_cw (fn := Try.f49) Try.func49 rfl (Nat.le_of_ble_eq_true rfl) 13 rfl fun F0 w0 => ?_
  refine cw_keep [0, 1] (L' := [(0, .pointer (some ⟨b0, 0, none⟩)), (1, .string x1)]) rfl ?_
  refine cw_state (S' := SAT w0 ([imm I, pt b0 #[.string m0.s_, .bool m0.no_] 84] ++ F0)) (fun w hs => hs) ?_
  refine cw_open 9 (SAT w0 ([imm I, pt b0 #[.string m0.s_, .bool m0.no_] 84])) (by kernel_rfl) (f := 10) rfl (fun w hs => sat_drew hs) ?_
  refine aw_vals [0, 1, 2, 4] (f' := 6) (m' := 23) [4, 6, 8] [(4, .pointer (some ⟨b0, 0, none⟩)), (6, .pointer (some ⟨b0, 0, none⟩)), (8, .string x1)] (fun _ _ _ _ _ h => calm_fin (P := Try.prog) (fn := Try.f49) _ _ _ _ _ h) (fun w hs => sat_pulls [0, 0] (G := [] ++ F0) rfl hs) rfl (by kernel_rfl) ?_
  refine aw_quiet 3 (m' := 31) (v := .string m0.s_) 3 [] rfl rfl rfl rfl (by kernel_rfl) (by kernel_rfl) (by kernel_rfl) (fun _ _ _ _ _ h => calm_fin (P := Try.prog) (fn := Try.f49) _ _ _ _ _ h) (fun w hs => sat_pulls [0, 0] (G := [] ++ F0) rfl hs) (q_load 1 rfl rfl rfl (by kernel_rfl)) ?_
  obtain ⟨r21, h22, hF⟩ := bind_some hF
  refine aw_only 5 (m' := 63) (by kernel_rfl) (by kernel_rfl) (pw_call (F := [pt b0 #[.string m0.s_, .bool m0.no_] 84] ++ F0) rfl rfl rfl rfl rfl rfl rfl (by kernel_rfl) (perm_of_pulls [0] rfl) (c_octet_Text _ x1 r21 h22) ?_)
  rintro _ _ ⟨rfl, rfl⟩
  refine nw_H (H' := [imm I, pt b0 #[.string m0.s_, .bool m0.no_] 84] ++ F0) rfl (aw_next (fun w hs => sat_pulls [0, 0] (G := [] ++ F0) rfl hs) ?_)
  obtain ⟨h23, hF⟩ := chk_some hF
  refine aw_pure 6 (m' := 127) (v := .string (m0.s_ ++ r21)) rfl rfl rfl rfl (by kernel_rfl) (by kernel_rfl) (fun _ _ _ _ _ h => calm_fin (P := Try.prog) (fn := Try.f49) _ _ _ _ _ h) (fun w hs => sat_pulls [0, 0] (G := [] ++ F0) rfl hs) (q_concat rfl rfl rfl h23) ?_
  refine aw_vals [7, 8] (f' := 1) (m' := 511) [10, 12] [(10, .string (m0.s_ ++ r21)), (12, .pointer (some ⟨b0, 0, none⟩))] (fun _ _ _ _ _ h => calm_fin (P := Try.prog) (fn := Try.f49) _ _ _ _ _ h) (fun w hs => sat_pulls [0, 0] (G := [] ++ F0) rfl hs) rfl (by kernel_rfl) ?_
  refine aw_only 9 (m' := 1023) (by kernel_rfl) (by kernel_rfl) (pw_store 1 #[.string (m0.s_ ++ r21), .bool m0.no_] rfl rfl rfl rfl rfl rfl rfl (by kernel_rfl) (nw_H (H' := [imm I, pt b0 #[.string (m0.s_ ++ r21), .bool m0.no_] 84] ++ F0) rfl (aw_last (by kernel_rfl) ?_)))
  refine aw_keep [] (L' := []) rfl ?_
  refine aw_end (by kernel_rfl) ?_
  have hR := Option.some.inj hF
  subst hR
  exact fin0n (H1 := [imm I, pt b0 #[.string ((⟨m0.s_ ++ r21, m0.no_⟩ : octet_Writer).s_), .bool ((⟨m0.s_ ++ r21, m0.no_⟩ : octet_Writer).no_)] 84]) (fun w hs => sat_to [0, 0] 0 rfl hs) rfl  ⟨rfl, rfl⟩


def F.octet_Writer_Texts.l1 (x1 : List ByteArray) (x24 : Int) (s25 : ByteArray) (x26 : Bool) : Option ((Int × ByteArray × Bool) ⊕ (octet_Writer)) :=
  if decide (x24 < (x1.length : Int)) then (Option.bind (at_ x1 x24) (fun (y28 : ByteArray) => Option.bind (F.octet_Writer_Text y28 (⟨s25, x26⟩ : octet_Writer)) (fun (r32 : octet_Writer) => some (.inl (IntKind.i64.wrap (x24 + 1), r32.s_, r32.no_))))) else (some (.inr ((⟨s25, x26⟩ : octet_Writer))))
def F.octet_Writer_Texts (x1 : List ByteArray) (m0 : octet_Writer) : Option octet_Writer :=
  Option.bind (F.octet_Writer_Num (x1.length : Int) m0) (fun (r21 : octet_Writer) => iter (fun x => F.octet_Writer_Texts.l1 x1 x.1 x.2.1 x.2.2) FUEL (0, r21.s_, r21.no_))
set_option maxRecDepth 100000 in
set_option maxHeartbeats 4000000 in
theorem c_octet_Writer_Texts (I : Hl) (x1 : List ByteArray) (m0 : octet_Writer) (p0 : Option Addr) (c0 : Nat) (b0 : Nat) (res : octet_Writer) (hF : F.octet_Writer_Texts x1 m0 = some res) (hr0 : ro I eStr p0 c0 x1) : Tr Try.prog 50 [.pointer (some ⟨b0, 0, none⟩), .slice p0 x1.length c0] [imm I, pt b0 #[.string m0.s_, .bool m0.no_] 84] (fun r H' => r = .tuple #[] ∧ H' = [imm I, pt b0 #[.string res.s_, .bool res.no_] 84]) := by
  unfold F.octet_Writer_Texts at hF
  refine tr_of_cw (fn := Try.f50) Try.func50 rfl (Nat.le_of_ble_eq_true rfl) 20 rfl fun F0 w0 => ?_
  refine cw_keep [0, 1] (L' := [(0, .pointer (some ⟨b0, 0, none⟩)), (1, .slice p0 x1.length c0)]) rfl ?_
  refine cw_state (S' := SAT w0 ([imm I, pt b0 #[.string m0.s_, .bool m0.no_] 84] ++ F0)) (fun w hs => hs) ?_
  refine cw_seq ?_
  refine cw_region ?_
  refine ow_vals 3 (j := 3) [0, 1, 6, 8] [(0, .pointer (some ⟨b0, 0, none⟩)), (1, .slice p0 x1.length c0), (6, .pointer (some ⟨b0, 0, none⟩)), (8, .int .i64 (x1.length : Int))] rfl (by kernel_rfl) ?_
  obtain ⟨r21, h22, hF⟩ := bind_some hF
  refine ow_pw rfl (pw_call (F := [] ++ F0) rfl rfl rfl rfl rfl rfl rfl (by kernel_rfl) (perm_of_pulls [0, 0] rfl) (c_octet_Writer_Num _ (x1.length : Int) m0 b0 r21 h22) ?_)
  rintro _ _ ⟨rfl, rfl⟩
  refine nw_H (H' := [imm I, pt b0 #[.string r21.s_, .bool r21.no_] 84] ++ F0) rfl (nw_ow ?_)
  refine ow_end rfl ?_
  refine ew_then ?_
  refine cw_seq ?_
  refine cw_region ?_
  refine ow_vals 3 (j := 3) [0, 10, 11, 12] [(0, .pointer (some ⟨b0, 0, none⟩)), (10, .slice p0 x1.length c0), (11, .int .i64 (x1.length : Int)), (12, .int .i64 0)] rfl (by kernel_rfl) ?_
  refine ow_end rfl ?_
  refine ew_then ?_
  refine cw_block ?_
  refine fun a w hf hs => wp_rounds (fun k a w => ∃ (x24 : Int), ∃ (s25 : ByteArray), ∃ (x26 : Bool), iter (fun x => F.octet_Writer_Texts.l1 x1 x.1 x.2.1 x.2.2) k (x24, s25, x26) = some res ∧ Fr 20 [(0, .pointer (some ⟨b0, 0, none⟩)), (10, .slice p0 x1.length c0), (11, .int .i64 (x1.length : Int)), (12, .int .i64 x24)] a ∧ SAT w0 ([imm I, pt b0 #[.string s25, .bool x26] 84] ++ F0) w) ?_ FUEL a w ⟨0, r21.s_, r21.no_, hF, hf.keep [0, 10, 11, 12], sat_to [0, 0] 0 rfl hs⟩
  clear hf hs
  clear a w hF
  rintro k a w ⟨x24, s25, x26, hF2, hf, hs⟩
  obtain ⟨k, r23, rfl, hF, hL23⟩ := iter_some hF2
  clear hF2
  revert a w
  show CW _ _ _ 20 [(0, .pointer (some ⟨b0, 0, none⟩)), (10, .slice p0 x1.length c0), (11, .int .i64 (x1.length : Int)), (12, .int .i64 x24)] (SAT w0 ([imm I, pt b0 #[.string s25, .bool x26] 84] ++ F0))
  try dsimp only at hF
  unfold F.octet_Writer_Texts.l1 at hF
  refine cw_seq ?_
  refine cw_region ?_
  refine ow_vals 1 (j := 1) [0, 10, 11, 12, 13] [(0, .pointer (some ⟨b0, 0, none⟩)), (10, .slice p0 x1.length c0), (11, .int .i64 (x1.length : Int)), (12, .int .i64 x24), (13, .bool (decide (x24 < (x1.length : Int))))] rfl (by kernel_rfl) ?_
  refine ow_end rfl ?_
  refine ew_then ?_
  refine cw_seq ?_
  rcases if_some hF with ⟨h27, hF⟩ | ⟨h27, hF⟩
  · refine cw_cond_t rfl rfl h27 ?_
    refine cw_skip ?_
    refine ew_then ?_
    refine cw_seq ?_
    refine cw_block ?_
    refine cw_seq ?_
    refine cw_region ?_
    obtain ⟨y28, h29, hF⟩ := bind_some hF
    refine ow_pw rfl (pw_index_ro (E := 9) 1 hr0 rfl rfl rfl rfl rfl (by kernel_rfl) rfl rfl rfl h29 fun q30 h31 => nw_ow ?_)
    refine ow_pw rfl (pw_quiet (v := .string y28) rfl rfl rfl rfl (q_load_el0 0 rfl h31 rfl rfl (by kernel_rfl)) (nw_ow ?_))
    refine ow_vals 1 (j := 3) [0, 5, 10, 11, 12] [(0, .pointer (some ⟨b0, 0, none⟩)), (5, .string y28), (10, .slice p0 x1.length c0), (11, .int .i64 (x1.length : Int)), (12, .int .i64 x24)] rfl (by kernel_rfl) ?_
    refine ow_end rfl ?_
    refine ew_then ?_
    refine cw_region ?_
    refine ow_vals 2 (j := 2) [0, 10, 11, 12, 16, 17] [(0, .pointer (some ⟨b0, 0, none⟩)), (10, .slice p0 x1.length c0), (11, .int .i64 (x1.length : Int)), (12, .int .i64 x24), (16, .pointer (some ⟨b0, 0, none⟩)), (17, .string y28)] rfl (by kernel_rfl) ?_
    obtain ⟨r32, h33, hF⟩ := bind_some hF
    refine ow_pw rfl (pw_call (F := [] ++ F0) rfl rfl rfl rfl rfl rfl rfl (by kernel_rfl) (perm_of_pulls [0, 0] rfl) (c_octet_Writer_Text _ y28 (⟨s25, x26⟩ : octet_Writer) b0 r32 h33) ?_)
    rintro _ _ ⟨rfl, rfl⟩
    refine nw_H (H' := [imm I, pt b0 #[.string r32.s_, .bool r32.no_] 84] ++ F0) rfl (nw_ow ?_)
    refine ow_end rfl ?_
    refine ew_blk ?_
    refine ew_then ?_
    refine cw_region ?_
    refine ow_vals 2 (j := 2) [0, 10, 11, 12] [(0, .pointer (some ⟨b0, 0, none⟩)), (10, .slice p0 x1.length c0), (11, .int .i64 (x1.length : Int)), (12, .int .i64 (IntKind.i64.wrap (x24 + 1)))] rfl (by kernel_rfl) ?_
    refine ow_end rfl ?_
    have hR := Option.some.inj hF
    subst hR
    have hR := hL23
    try dsimp only at hR
    exact fun a w hf hs => ⟨k, Nat.lt_succ_self k, IntKind.i64.wrap (x24 + 1), r32.s_, r32.no_, hR, hf.keep [0, 10, 11, 12], sat_to [0, 0] 0 rfl hs⟩
  refine cw_cond_f rfl rfl h27 ?_
  refine cw_exit ?_
  refine ew_then_exit ?_
  refine ew_then_exit ?_
  refine ew_blk_exit ?_
  have hR := Option.some.inj hF
  subst hR
  have hR := hL23
  try dsimp only at hR
  subst hR
  exact fin0n (H1 := [imm I, pt b0 #[.string ((⟨s25, x26⟩ : octet_Writer).s_), .bool ((⟨s25, x26⟩ : octet_Writer).no_)] 84]) (fun w hs => sat_to [0, 0] 0 rfl hs) rfl  ⟨rfl, rfl⟩


def F.octet_Writer_All (m0 : octet_Writer) : Option (ByteArray × Bool) :=
  if m0.no_ then (some (((ByteArray.mk #[]), false))) else (some ((m0.s_, true)))
set_option maxRecDepth 100000 in
set_option maxHeartbeats 4000000 in
theorem c_octet_Writer_All (I : Hl) (m0 : octet_Writer) (b0 : Nat) (res : ByteArray × Bool) (hF : F.octet_Writer_All m0 = some res) : Tr Try.prog 51 [.pointer (some ⟨b0, 0, none⟩)] [imm I, pt b0 #[.string m0.s_, .bool m0.no_] 84] (fun r H' => r = .tuple #[.string res.1, .bool res.2] ∧ H' = [imm I, pt b0 #[.string m0.s_, .bool m0.no_] 84]) := by
  unfold F.octet_Writer_All at hF
  refine tr_of_cw (fn := Try.f51) Try.func51 rfl (Nat.le_of_ble_eq_true rfl) 12 rfl fun F0 w0 => ?_
  refine cw_keep [0] (L' := [(0, .pointer (some ⟨b0, 0, none⟩))]) rfl ?_
  refine cw_state (S' := SAT w0 ([imm I, pt b0 #[.string m0.s_, .bool m0.no_] 84] ++ F0)) (fun w hs => hs) ?_
  refine cw_seq ?_
  refine cw_region ?_
  refine ow_vals 2 (j := 2) [0] [(0, .pointer (some ⟨b0, 0, none⟩))] rfl (by kernel_rfl) ?_
  refine ow_end rfl ?_
  refine ew_then ?_
  refine cw_seq ?_
  refine cw_seq ?_
  refine cw_region ?_
  refine ow_vals 3 (j := 3) [0, 6] [(0, .pointer (some ⟨b0, 0, none⟩)), (6, .pointer (some ⟨b0, 1, none⟩))] rfl (by kernel_rfl) ?_
  refine ow_pw rfl (pw_quiet (v := .bool m0.no_) rfl rfl rfl rfl (q_load 1 rfl rfl rfl (by kernel_rfl)) (nw_ow ?_))
  refine ow_end rfl ?_
  refine ew_then ?_
  rcases if_some hF with ⟨h21, hF⟩ | ⟨h21, hF⟩
  · refine cw_cond_t rfl rfl h21 ?_
    refine cw_seq ?_
    refine cw_region ?_
    refine ow_vals 2 (j := 2) [2, 3] [(2, .string (ByteArray.mk #[])), (3, .bool false)] rfl (by kernel_rfl) ?_
    refine ow_end rfl ?_
    refine ew_then ?_
    refine cw_ret ?_
    refine ew_then_ret ?_
    have hR := Option.some.inj hF
    subst hR
    exact fin2 (H1 := [imm I, pt b0 #[.string m0.s_, .bool m0.no_] 84]) (fun w hs => sat_to [0, 0] 0 rfl hs) rfl (rr_tmp rfl) (rr_tmp rfl) ⟨rfl, rfl⟩
  refine cw_cond_f rfl rfl h21 ?_
  refine cw_skip ?_
  refine ew_then ?_
  refine cw_seq ?_
  refine cw_region ?_
  refine ow_vals 3 (j := 3) [10] [(10, .pointer (some ⟨b0, 0, none⟩))] rfl (by kernel_rfl) ?_
  refine ow_pw rfl (pw_quiet (v := .string m0.s_) rfl rfl rfl rfl (q_load 1 rfl rfl rfl (by kernel_rfl)) (nw_ow ?_))
  refine ow_vals 2 (j := 6) [2, 3] [(2, .string m0.s_), (3, .bool true)] rfl (by kernel_rfl) ?_
  refine ow_end rfl ?_
  refine ew_then ?_
  refine cw_ret ?_
  have hR := Option.some.inj hF
  subst hR
  exact fin2 (H1 := [imm I, pt b0 #[.string m0.s_, .bool m0.no_] 84]) (fun w hs => sat_to [0, 0] 0 rfl hs) rfl (rr_tmp rfl) (rr_tmp rfl) ⟨rfl, rfl⟩


def F.absent_Bytes.l3 (y40 : absent_Side) (x64 : Int) : Option ((Int) ⊕ ((Unit) ⊕ ((ByteArray × Bool × Int × ByteArray × (List ByteArray)) ⊕ ((Int × ByteArray × Bool) ⊕ ((ByteArray × Bool) ⊕ (ByteArray × Bool)))))) :=
  if decide (x64 < (y40.Path.length : Int)) then (Option.bind (at_ y40.Path x64) (fun (y66 : ByteArray) => if (y66.size : Int) != 32 then (some (.inr (.inr (.inr (.inr (.inr (((ByteArray.mk #[]), false)))))))) else (some (.inl (IntKind.i64.wrap (x64 + 1)))))) else (some (.inr (.inl ())))
def F.absent_Bytes.r4 (y40 : absent_Side) (r60 : octet_Writer) : Option ((ByteArray × Bool × Int × ByteArray × (List ByteArray)) ⊕ ((Int × ByteArray × Bool) ⊕ ((ByteArray × Bool) ⊕ (ByteArray × Bool)))) :=
  Option.bind (F.octet_Writer_Texts y40.Path r60) (fun (r71 : octet_Writer) => some (.inl (r71.s_, r71.no_, y40.Index, y40.ID, y40.Path)))
def F.absent_Bytes.r2 (s36 : ByteArray) (x37 : Bool) (y40 : absent_Side) : Option ((ByteArray × Bool × Int × ByteArray × (List ByteArray)) ⊕ ((Int × ByteArray × Bool) ⊕ ((ByteArray × Bool) ⊕ (ByteArray × Bool)))) :=
  Option.bind (F.octet_Writer_Num y40.Index (⟨s36, x37⟩ : octet_Writer)) (fun (r58 : octet_Writer) => Option.bind (F.octet_Writer_Text y40.ID r58) (fun (r60 : octet_Writer) => thru (iter (fun x => F.absent_Bytes.l3 y40 x) FUEL 0) (fun x => F.absent_Bytes.r4 y40 r60)))
def F.absent_Bytes.r5 (x35 : Int) (s74 : ByteArray) (x75 : Bool) (x76 : Int) (s77 : ByteArray) (l78 : List ByteArray) : Option ((Int × ByteArray × Bool) ⊕ ((ByteArray × Bool) ⊕ (ByteArray × Bool))) :=
  some (.inl (IntKind.i64.wrap (x35 + 1), s74, x75))
def F.absent_Bytes.l6 (x0 : absent_Proof) (x35 : Int) (s36 : ByteArray) (x37 : Bool) : Option ((Int × ByteArray × Bool) ⊕ ((ByteArray × Bool) ⊕ (ByteArray × Bool))) :=
  if decide (x35 < (x0.Sides.length : Int)) then (thru (Option.bind (at_ x0.Sides x35) (fun (y40 : absent_Side) => thru (if decide (y40.Index < 0) then (some (.inr (.inr (.inr (.inr (((ByteArray.mk #[]), false))))))) else (if decide (y40.Index ≥ x0.Size) then (some (.inr (.inr (.inr (.inr (((ByteArray.mk #[]), false))))))) else (Option.bind (F.paper_IsID y40.ID) (fun (r54 : Bool) => if !r54 then (some (.inr (.inr (.inr (.inr (((ByteArray.mk #[]), false))))))) else (if decide ((y40.Path.length : Int) > 16) then (some (.inr (.inr (.inr (.inr (((ByteArray.mk #[]), false))))))) else (some (.inl ()))))))) (fun x => F.absent_Bytes.r2 s36 x37 y40))) (fun x => F.absent_Bytes.r5 x35 x.1 x.2.1 x.2.2.1 x.2.2.2.1 x.2.2.2.2)) else (some (.inr (.inl (s36, x37))))
def F.absent_Bytes.r7 (s82 : ByteArray) (x83 : Bool) : Option (ByteArray × Bool) :=
  Option.bind (F.octet_Writer_All (⟨s82, x83⟩ : octet_Writer)) (fun (r84 : ByteArray × Bool) => some ((r84.1, r84.2)))
def F.absent_Bytes.r1 (x0 : absent_Proof) : Option (ByteArray × Bool) :=
  Option.bind (F.octet_Writer_Num x0.Size (⟨(ByteArray.mk #[]), false⟩ : octet_Writer)) (fun (r29 : octet_Writer) => Option.bind (F.octet_Writer_Num (x0.Sides.length : Int) r29) (fun (r31 : octet_Writer) => thru (iter (fun x => F.absent_Bytes.l6 x0 x.1 x.2.1 x.2.2) FUEL (0, r31.s_, r31.no_)) (fun x => F.absent_Bytes.r7 x.1 x.2)))
def F.absent_Bytes (x0 : absent_Proof) : Option (ByteArray × Bool) :=
  thru (if decide (x0.Size < 0) then (some (.inr (((ByteArray.mk #[]), false)))) else (if decide (x0.Size > 65536) then (some (.inr (((ByteArray.mk #[]), false)))) else (if decide ((x0.Sides.length : Int) > 2) then (some (.inr (((ByteArray.mk #[]), false)))) else (some (.inl ()))))) (fun x => F.absent_Bytes.r1 x0)
set_option maxRecDepth 100000 in
set_option maxHeartbeats 4000000 in
theorem c_absent_Bytes (I : Hl) (x0 : absent_Proof) (p0 : Option Addr) (c0 : Nat) (res : ByteArray × Bool) (hF : F.absent_Bytes x0 = some res) (hr0 : roN I n_absent_Side p0 c0 x0.Sides) : Tr Try.prog 26 [.agg #[.int .i64 x0.Size, .slice p0 x0.Sides.length c0]] [imm I] (fun r H' => r = .tuple #[.string res.1, .bool res.2] ∧ H' = [imm I]) := by
  unfold F.absent_Bytes at hF
  refine tr_of_cw (fn := Try.f26) Try.func26 rfl (Nat.le_of_ble_eq_true rfl) 91 rfl fun F0 w0 => ?_
  refine cw_keep [0] (L' := [(0, .agg #[.int .i64 x0.Size, .slice p0 x0.Sides.length c0])]) rfl ?_
  refine cw_state (S' := SAT w0 ([imm I] ++ F0)) (fun w hs => hs) ?_
  refine cw_seq ?_
  refine cw_region ?_
  refine ow_pw rfl (pw_box (cs := #[.int .i64 x0.Size, .slice p0 x0.Sides.length c0]) rfl rfl rfl rfl rfl rfl fun b21 => nw_ow ?_)
  refine ow_vals 2 (j := 3) [1] [(1, .pointer (some ⟨b21, 0, none⟩))] rfl (by kernel_rfl) ?_
  refine ow_end rfl ?_
  refine ew_then ?_
  obtain ⟨v23, hF, hK23⟩ := thru_some hF
  refine cw_mid (fun a w => .inl () = v23 ∧ Fr 91 [(1, .pointer (some ⟨b21, 0, none⟩))] a ∧ SAT w0 ([imm I, pt b21 #[.int .i64 x0.Size, .slice p0 x0.Sides.length c0] 35] ++ F0) w) ?_ ?_
  · refine cw_seq ?_
    refine cw_region ?_
    refine ow_vals 1 (j := 1) [1, 9] [(1, .pointer (some ⟨b21, 0, none⟩)), (9, .pointer (some ⟨b21, 0, none⟩))] rfl (by kernel_rfl) ?_
    refine ow_pw rfl (pw_quiet (v := .int .i64 x0.Size) rfl rfl rfl rfl (q_load 0 rfl rfl rfl (by kernel_rfl)) (nw_ow ?_))
    refine ow_vals 2 (j := 4) [1, 12] [(1, .pointer (some ⟨b21, 0, none⟩)), (12, .bool (decide (x0.Size < 0)))] rfl (by kernel_rfl) ?_
    rcases if_some hF with ⟨h24, hF⟩ | ⟨h24, hF⟩
    · refine ow_slots (L' := [(1, .pointer (some ⟨b21, 0, none⟩)), (12, .bool true)]) (by rw [h24]) ?_
      refine ow_vals 10 (j := 14) [1, 22] [(1, .pointer (some ⟨b21, 0, none⟩)), (22, .bool true)] rfl (by kernel_rfl) ?_
      refine ow_end rfl ?_
      refine ew_then ?_
      refine cw_cond_t rfl rfl rfl ?_
      refine cw_seq ?_
      refine cw_region ?_
      refine ow_vals 2 (j := 2) [2, 3] [(2, .string (ByteArray.mk #[])), (3, .bool false)] rfl (by kernel_rfl) ?_
      refine ow_end rfl ?_
      refine ew_then ?_
      refine cw_ret ?_
      refine ew_then_ret ?_
      have hR := Option.some.inj hF
      subst hR
      have hR := hK23
      try dsimp only [Thru] at hR
      subst hR
      exact fin2 (H1 := [imm I]) (fun w hs => sat_to [0, 0] 1 rfl hs) rfl (rr_tmp rfl) (rr_tmp rfl) ⟨rfl, rfl⟩
    refine ow_slots (L' := [(1, .pointer (some ⟨b21, 0, none⟩)), (12, .bool false)]) (by rw [h24]) ?_
    refine ow_vals 1 (j := 5) [1, 12, 13] [(1, .pointer (some ⟨b21, 0, none⟩)), (12, .bool false), (13, .pointer (some ⟨b21, 0, none⟩))] rfl (by kernel_rfl) ?_
    refine ow_pw rfl (pw_quiet (v := .int .i64 x0.Size) rfl rfl rfl rfl (q_load 0 rfl rfl rfl (by kernel_rfl)) (nw_ow ?_))
    refine ow_vals 3 (j := 9) [1, 17] [(1, .pointer (some ⟨b21, 0, none⟩)), (17, .bool (decide (x0.Size > 65536)))] rfl (by kernel_rfl) ?_
    rcases if_some hF with ⟨h25, hF⟩ | ⟨h25, hF⟩
    · refine ow_slots (L' := [(1, .pointer (some ⟨b21, 0, none⟩)), (17, .bool true)]) (by rw [h25]) ?_
      refine ow_vals 5 (j := 14) [1, 22] [(1, .pointer (some ⟨b21, 0, none⟩)), (22, .bool true)] rfl (by kernel_rfl) ?_
      refine ow_end rfl ?_
      refine ew_then ?_
      refine cw_cond_t rfl rfl rfl ?_
      refine cw_seq ?_
      refine cw_region ?_
      refine ow_vals 2 (j := 2) [2, 3] [(2, .string (ByteArray.mk #[])), (3, .bool false)] rfl (by kernel_rfl) ?_
      refine ow_end rfl ?_
      refine ew_then ?_
      refine cw_ret ?_
      refine ew_then_ret ?_
      have hR := Option.some.inj hF
      subst hR
      have hR := hK23
      try dsimp only [Thru] at hR
      subst hR
      exact fin2 (H1 := [imm I]) (fun w hs => sat_to [0, 0] 1 rfl hs) rfl (rr_tmp rfl) (rr_tmp rfl) ⟨rfl, rfl⟩
    refine ow_slots (L' := [(1, .pointer (some ⟨b21, 0, none⟩)), (17, .bool false)]) (by rw [h25]) ?_
    refine ow_vals 1 (j := 10) [1, 17, 18] [(1, .pointer (some ⟨b21, 0, none⟩)), (17, .bool false), (18, .pointer (some ⟨b21, 1, none⟩))] rfl (by kernel_rfl) ?_
    refine ow_pw rfl (pw_quiet (v := .slice p0 x0.Sides.length c0) rfl rfl rfl rfl (q_load 0 rfl rfl rfl (by kernel_rfl)) (nw_ow ?_))
    refine ow_vals 3 (j := 14) [1, 22] [(1, .pointer (some ⟨b21, 0, none⟩)), (22, .bool (decide ((x0.Sides.length : Int) > 2)))] rfl (by kernel_rfl) ?_
    refine ow_end rfl ?_
    refine ew_then ?_
    rcases if_some hF with ⟨h26, hF⟩ | ⟨h26, hF⟩
    · refine cw_cond_t rfl rfl h26 ?_
      refine cw_seq ?_
      refine cw_region ?_
      refine ow_vals 2 (j := 2) [2, 3] [(2, .string (ByteArray.mk #[])), (3, .bool false)] rfl (by kernel_rfl) ?_
      refine ow_end rfl ?_
      refine ew_then ?_
      refine cw_ret ?_
      refine ew_then_ret ?_
      have hR := Option.some.inj hF
      subst hR
      have hR := hK23
      try dsimp only [Thru] at hR
      subst hR
      exact fin2 (H1 := [imm I]) (fun w hs => sat_to [0, 0] 1 rfl hs) rfl (rr_tmp rfl) (rr_tmp rfl) ⟨rfl, rfl⟩
    refine cw_cond_f rfl rfl h26 ?_
    refine cw_skip ?_
    have hR := Option.some.inj hF
    exact fun a w hf hs => ⟨hR, hf.keep [1], sat_to [1, 0] 0 rfl hs⟩
  rintro a w ⟨hv, hf, hs⟩
  subst hv
  replace hF := hK23
  clear hK23
  try dsimp only [Thru] at hF
  revert a w
  show CW _ _ _ 91 [(1, .pointer (some ⟨b21, 0, none⟩))] (SAT w0 ([imm I, pt b21 #[.int .i64 x0.Size, .slice p0 x0.Sides.length c0] 35] ++ F0))
  unfold F.absent_Bytes.r1 at hF
  refine cw_seq ?_
  refine cw_region ?_
  refine ow_vals 1 (j := 1) [1, 23] [(1, .pointer (some ⟨b21, 0, none⟩)), (23, .agg #[.string (ByteArray.mk #[]), .bool false])] rfl (by kernel_rfl) ?_
  refine ow_pw rfl (pw_box (cs := #[.string (ByteArray.mk #[]), .bool false]) rfl rfl rfl rfl rfl rfl fun b27 => nw_ow ?_)
  refine ow_vals 1 (j := 3) [1, 4] [(1, .pointer (some ⟨b21, 0, none⟩)), (4, .pointer (some ⟨b27, 0, none⟩))] rfl (by kernel_rfl) ?_
  refine ow_end rfl ?_
  refine ew_then ?_
  refine cw_seq ?_
  refine cw_region ?_
  refine ow_vals 2 (j := 2) [1, 4, 25, 26] [(1, .pointer (some ⟨b21, 0, none⟩)), (4, .pointer (some ⟨b27, 0, none⟩)), (25, .pointer (some ⟨b27, 0, none⟩)), (26, .pointer (some ⟨b21, 0, none⟩))] rfl (by kernel_rfl) ?_
  refine ow_pw rfl (pw_quiet (v := .int .i64 x0.Size) rfl rfl rfl rfl (q_load 2 rfl rfl rfl (by kernel_rfl)) (nw_ow ?_))
  obtain ⟨r29, h30, hF⟩ := bind_some hF
  refine ow_pw rfl (pw_call (F := [pt b21 #[.int .i64 x0.Size, .slice p0 x0.Sides.length c0] 35] ++ F0) rfl rfl rfl rfl rfl rfl rfl (by kernel_rfl) (perm_of_pulls [1, 0] rfl) (c_octet_Writer_Num _ x0.Size (⟨(ByteArray.mk #[]), false⟩ : octet_Writer) b27 r29 h30) ?_)
  rintro _ _ ⟨rfl, rfl⟩
  refine nw_H (H' := [imm I, pt b27 #[.string r29.s_, .bool r29.no_] 84, pt b21 #[.int .i64 x0.Size, .slice p0 x0.Sides.length c0] 35] ++ F0) rfl (nw_ow ?_)
  refine ow_end rfl ?_
  refine ew_then ?_
  refine cw_seq ?_
  refine cw_region ?_
  refine ow_vals 2 (j := 2) [1, 4, 29, 30] [(1, .pointer (some ⟨b21, 0, none⟩)), (4, .pointer (some ⟨b27, 0, none⟩)), (29, .pointer (some ⟨b27, 0, none⟩)), (30, .pointer (some ⟨b21, 1, none⟩))] rfl (by kernel_rfl) ?_
  refine ow_pw rfl (pw_quiet (v := .slice p0 x0.Sides.length c0) rfl rfl rfl rfl (q_load 2 rfl rfl rfl (by kernel_rfl)) (nw_ow ?_))
  refine ow_vals 1 (j := 4) [1, 4, 29, 32] [(1, .pointer (some ⟨b21, 0, none⟩)), (4, .pointer (some ⟨b27, 0, none⟩)), (29, .pointer (some ⟨b27, 0, none⟩)), (32, .int .i64 (x0.Sides.length : Int))] rfl (by kernel_rfl) ?_
  obtain ⟨r31, h32, hF⟩ := bind_some hF
  refine ow_pw rfl (pw_call (F := [pt b21 #[.int .i64 x0.Size, .slice p0 x0.Sides.length c0] 35] ++ F0) rfl rfl rfl rfl rfl rfl rfl (by kernel_rfl) (perm_of_pulls [0, 0] rfl) (c_octet_Writer_Num _ (x0.Sides.length : Int) r29 b27 r31 h32) ?_)
  rintro _ _ ⟨rfl, rfl⟩
  refine nw_H (H' := [imm I, pt b27 #[.string r31.s_, .bool r31.no_] 84, pt b21 #[.int .i64 x0.Size, .slice p0 x0.Sides.length c0] 35] ++ F0) rfl (nw_ow ?_)
  refine ow_end rfl ?_
  refine ew_then ?_
  obtain ⟨v33, hF, hK33⟩ := thru_some hF
  refine cw_mid (fun a w => ∃ (s82 : ByteArray), ∃ (x83 : Bool), .inl (s82, x83) = v33 ∧ Fr 91 [(4, .pointer (some ⟨b27, 0, none⟩))] a ∧ SAT w0 ([imm I, pt b27 #[.string s82, .bool x83] 84, pt b21 #[.int .i64 x0.Size, .slice p0 x0.Sides.length c0] 35] ++ F0) w) ?_ ?_
  · refine cw_seq ?_
    refine cw_region ?_
    refine ow_vals 1 (j := 1) [1, 4, 34] [(1, .pointer (some ⟨b21, 0, none⟩)), (4, .pointer (some ⟨b27, 0, none⟩)), (34, .pointer (some ⟨b21, 1, none⟩))] rfl (by kernel_rfl) ?_
    refine ow_pw rfl (pw_quiet (v := .slice p0 x0.Sides.length c0) rfl rfl rfl rfl (q_load 2 rfl rfl rfl (by kernel_rfl)) (nw_ow ?_))
    refine ow_vals 2 (j := 4) [1, 4, 35, 36, 37] [(1, .pointer (some ⟨b21, 0, none⟩)), (4, .pointer (some ⟨b27, 0, none⟩)), (35, .slice p0 x0.Sides.length c0), (36, .int .i64 (x0.Sides.length : Int)), (37, .int .i64 0)] rfl (by kernel_rfl) ?_
    refine ow_end rfl ?_
    refine ew_then ?_
    refine cw_block ?_
    refine fun a w hf hs => wp_rounds (fun k a w => ∃ (x35 : Int), ∃ (s36 : ByteArray), ∃ (x37 : Bool), iter (fun x => F.absent_Bytes.l6 x0 x.1 x.2.1 x.2.2) k (x35, s36, x37) = some v33 ∧ Fr 91 [(1, .pointer (some ⟨b21, 0, none⟩)), (4, .pointer (some ⟨b27, 0, none⟩)), (35, .slice p0 x0.Sides.length c0), (36, .int .i64 (x0.Sides.length : Int)), (37, .int .i64 x35)] a ∧ SAT w0 ([imm I, pt b27 #[.string s36, .bool x37] 84, pt b21 #[.int .i64 x0.Size, .slice p0 x0.Sides.length c0] 35] ++ F0) w) ?_ FUEL a w ⟨0, r31.s_, r31.no_, hF, hf.keep [1, 4, 35, 36, 37], sat_to [0, 0, 0] 0 rfl hs⟩
    clear hf hs
    clear a w hF
    rintro k a w ⟨x35, s36, x37, hF2, hf, hs⟩
    obtain ⟨k, r34, rfl, hF, hL34⟩ := iter_some hF2
    clear hF2
    revert a w
    show CW _ _ _ 91 [(1, .pointer (some ⟨b21, 0, none⟩)), (4, .pointer (some ⟨b27, 0, none⟩)), (35, .slice p0 x0.Sides.length c0), (36, .int .i64 (x0.Sides.length : Int)), (37, .int .i64 x35)] (SAT w0 ([imm I, pt b27 #[.string s36, .bool x37] 84, pt b21 #[.int .i64 x0.Size, .slice p0 x0.Sides.length c0] 35] ++ F0))
    try dsimp only at hF
    unfold F.absent_Bytes.l6 at hF
    refine cw_seq ?_
    refine cw_region ?_
    refine ow_vals 1 (j := 1) [1, 4, 35, 36, 37, 38] [(1, .pointer (some ⟨b21, 0, none⟩)), (4, .pointer (some ⟨b27, 0, none⟩)), (35, .slice p0 x0.Sides.length c0), (36, .int .i64 (x0.Sides.length : Int)), (37, .int .i64 x35), (38, .bool (decide (x35 < (x0.Sides.length : Int))))] rfl (by kernel_rfl) ?_
    refine ow_end rfl ?_
    refine ew_then ?_
    refine cw_seq ?_
    rcases if_some hF with ⟨h38, hF⟩ | ⟨h38, hF⟩
    · refine cw_cond_t rfl rfl h38 ?_
      refine cw_skip ?_
      refine ew_then ?_
      obtain ⟨v39, hF, hK39⟩ := thru_some hF
      refine cw_mid (fun a w => ∃ (s74 : ByteArray), ∃ (x75 : Bool), ∃ (x76 : Int), ∃ (s77 : ByteArray), ∃ (l78 : List ByteArray), ∃ (b73 : Nat), ∃ (p79 : Option Addr), ∃ (c80 : Nat), .inl (s74, x75, x76, s77, l78) = v39 ∧ ro I eStr p79 c80 l78 ∧ Fr 91 [(1, .pointer (some ⟨b21, 0, none⟩)), (4, .pointer (some ⟨b27, 0, none⟩)), (35, .slice p0 x0.Sides.length c0), (36, .int .i64 (x0.Sides.length : Int)), (37, .int .i64 x35)] a ∧ SAT w0 ([imm I, pt b27 #[.string s74, .bool x75] 84, pt b73 #[.int .i64 x76, .string s77, .slice p79 l78.length c80] 43, pt b21 #[.int .i64 x0.Size, .slice p0 x0.Sides.length c0] 35] ++ F0) w) ?_ ?_
      · refine cw_block ?_
        refine cw_seq ?_
        refine cw_region ?_
        obtain ⟨y40, h41, hF⟩ := bind_some hF
        refine ow_pw rfl (pw_index_roN (E := 43) 3 hr0 rfl rfl rfl rfl rfl (by kernel_rfl) rfl rfl rfl h41 fun q42 h43 => nw_ow ?_)
        obtain ⟨r44, h45, h46, h47⟩ := (id h43)
        have h48 : ro I eStr r44.Path.p r44.Path.c y40.Path := by subst h46; exact h47
        refine ow_pw rfl (pw_quiet (v := .agg #[.int .i64 y40.Index, .string y40.ID, .slice r44.Path.p y40.Path.length r44.Path.c]) rfl rfl rfl rfl (q_load_el0 0 rfl h45 rfl rfl (by subst h46; kernel_rfl)) (nw_ow ?_))
        refine ow_pw rfl (pw_alloc (cs := #[.int .i64 0, .string (ByteArray.mk #[]), .slice none 0 0]) rfl rfl rfl rfl rfl (by kernel_rfl) fun b49 => nw_ow ?_)
        refine ow_pw rfl (pw_store 0 #[.int .i64 y40.Index, .string y40.ID, .slice r44.Path.p y40.Path.length r44.Path.c] rfl rfl rfl rfl rfl rfl rfl (by kernel_rfl) (nw_H (H' := [pt b49 #[.int .i64 y40.Index, .string y40.ID, .slice r44.Path.p y40.Path.length r44.Path.c] 43, imm I, pt b27 #[.string s36, .bool x37] 84, pt b21 #[.int .i64 x0.Size, .slice p0 x0.Sides.length c0] 35] ++ F0) rfl (nw_ow ?_)))
        refine ow_end rfl ?_
        refine ew_then ?_
        obtain ⟨v51, hF, hK51⟩ := thru_some hF
        refine cw_mid (fun a w => .inl () = v51 ∧ Fr 91 [(1, .pointer (some ⟨b21, 0, none⟩)), (4, .pointer (some ⟨b27, 0, none⟩)), (6, .pointer (some ⟨b49, 0, none⟩)), (35, .slice p0 x0.Sides.length c0), (36, .int .i64 (x0.Sides.length : Int)), (37, .int .i64 x35)] a ∧ SAT w0 ([imm I, pt b49 #[.int .i64 y40.Index, .string y40.ID, .slice r44.Path.p y40.Path.length r44.Path.c] 43, pt b27 #[.string s36, .bool x37] 84, pt b21 #[.int .i64 x0.Size, .slice p0 x0.Sides.length c0] 35] ++ F0) w) ?_ ?_
        · refine cw_seq ?_
          refine cw_region ?_
          refine ow_vals 1 (j := 1) [1, 4, 6, 35, 36, 37, 41] [(1, .pointer (some ⟨b21, 0, none⟩)), (4, .pointer (some ⟨b27, 0, none⟩)), (6, .pointer (some ⟨b49, 0, none⟩)), (35, .slice p0 x0.Sides.length c0), (36, .int .i64 (x0.Sides.length : Int)), (37, .int .i64 x35), (41, .pointer (some ⟨b49, 0, none⟩))] rfl (by kernel_rfl) ?_
          refine ow_pw rfl (pw_quiet (v := .int .i64 y40.Index) rfl rfl rfl rfl (q_load 0 rfl rfl rfl (by kernel_rfl)) (nw_ow ?_))
          refine ow_vals 2 (j := 4) [1, 4, 6, 35, 36, 37, 44] [(1, .pointer (some ⟨b21, 0, none⟩)), (4, .pointer (some ⟨b27, 0, none⟩)), (6, .pointer (some ⟨b49, 0, none⟩)), (35, .slice p0 x0.Sides.length c0), (36, .int .i64 (x0.Sides.length : Int)), (37, .int .i64 x35), (44, .bool (decide (y40.Index < 0)))] rfl (by kernel_rfl) ?_
          rcases if_some hF with ⟨h52, hF⟩ | ⟨h52, hF⟩
          · refine ow_slots (L' := [(1, .pointer (some ⟨b21, 0, none⟩)), (4, .pointer (some ⟨b27, 0, none⟩)), (6, .pointer (some ⟨b49, 0, none⟩)), (35, .slice p0 x0.Sides.length c0), (36, .int .i64 (x0.Sides.length : Int)), (37, .int .i64 x35), (44, .bool true)]) (by rw [h52]) ?_
            refine ow_vals 18 (j := 22) [1, 4, 6, 35, 36, 37, 62] [(1, .pointer (some ⟨b21, 0, none⟩)), (4, .pointer (some ⟨b27, 0, none⟩)), (6, .pointer (some ⟨b49, 0, none⟩)), (35, .slice p0 x0.Sides.length c0), (36, .int .i64 (x0.Sides.length : Int)), (37, .int .i64 x35), (62, .bool true)] rfl (by kernel_rfl) ?_
            refine ow_end rfl ?_
            refine ew_then ?_
            refine cw_cond_t rfl rfl rfl ?_
            refine cw_seq ?_
            refine cw_region ?_
            refine ow_vals 2 (j := 2) [2, 3] [(2, .string (ByteArray.mk #[])), (3, .bool false)] rfl (by kernel_rfl) ?_
            refine ow_end rfl ?_
            refine ew_then ?_
            refine cw_ret ?_
            refine ew_then_ret ?_
            refine ew_blk_ret ?_
            refine ew_then_ret ?_
            refine ew_then_ret ?_
            refine ew_blk_ret ?_
            refine ew_then_ret ?_
            have hR := Option.some.inj hF
            subst hR
            have hR := hK51
            try dsimp only [Thru] at hR
            subst hR
            have hR := hK39
            try dsimp only [Thru] at hR
            subst hR
            have hR := hL34
            try dsimp only at hR
            subst hR
            have hR := hK33
            try dsimp only [Thru] at hR
            subst hR
            exact fin2 (H1 := [imm I]) (fun w hs => sat_to [0, 1, 1, 0] 3 rfl hs) rfl (rr_tmp rfl) (rr_tmp rfl) ⟨rfl, rfl⟩
          refine ow_slots (L' := [(1, .pointer (some ⟨b21, 0, none⟩)), (4, .pointer (some ⟨b27, 0, none⟩)), (6, .pointer (some ⟨b49, 0, none⟩)), (35, .slice p0 x0.Sides.length c0), (36, .int .i64 (x0.Sides.length : Int)), (37, .int .i64 x35), (44, .bool false)]) (by rw [h52]) ?_
          refine ow_vals 1 (j := 5) [1, 4, 6, 35, 36, 37, 44, 45] [(1, .pointer (some ⟨b21, 0, none⟩)), (4, .pointer (some ⟨b27, 0, none⟩)), (6, .pointer (some ⟨b49, 0, none⟩)), (35, .slice p0 x0.Sides.length c0), (36, .int .i64 (x0.Sides.length : Int)), (37, .int .i64 x35), (44, .bool false), (45, .pointer (some ⟨b49, 0, none⟩))] rfl (by kernel_rfl) ?_
          refine ow_pw rfl (pw_quiet (v := .int .i64 y40.Index) rfl rfl rfl rfl (q_load 0 rfl rfl rfl (by kernel_rfl)) (nw_ow ?_))
          refine ow_vals 1 (j := 7) [1, 4, 6, 35, 36, 37, 44, 46, 47] [(1, .pointer (some ⟨b21, 0, none⟩)), (4, .pointer (some ⟨b27, 0, none⟩)), (6, .pointer (some ⟨b49, 0, none⟩)), (35, .slice p0 x0.Sides.length c0), (36, .int .i64 (x0.Sides.length : Int)), (37, .int .i64 x35), (44, .bool false), (46, .int .i64 y40.Index), (47, .pointer (some ⟨b21, 0, none⟩))] rfl (by kernel_rfl) ?_
          refine ow_pw rfl (pw_quiet (v := .int .i64 x0.Size) rfl rfl rfl rfl (q_load 3 rfl rfl rfl (by kernel_rfl)) (nw_ow ?_))
          refine ow_vals 3 (j := 11) [1, 4, 6, 35, 36, 37, 51] [(1, .pointer (some ⟨b21, 0, none⟩)), (4, .pointer (some ⟨b27, 0, none⟩)), (6, .pointer (some ⟨b49, 0, none⟩)), (35, .slice p0 x0.Sides.length c0), (36, .int .i64 (x0.Sides.length : Int)), (37, .int .i64 x35), (51, .bool (decide (y40.Index ≥ x0.Size)))] rfl (by kernel_rfl) ?_
          rcases if_some hF with ⟨h53, hF⟩ | ⟨h53, hF⟩
          · refine ow_slots (L' := [(1, .pointer (some ⟨b21, 0, none⟩)), (4, .pointer (some ⟨b27, 0, none⟩)), (6, .pointer (some ⟨b49, 0, none⟩)), (35, .slice p0 x0.Sides.length c0), (36, .int .i64 (x0.Sides.length : Int)), (37, .int .i64 x35), (51, .bool true)]) (by rw [h53]) ?_
            refine ow_vals 11 (j := 22) [1, 4, 6, 35, 36, 37, 62] [(1, .pointer (some ⟨b21, 0, none⟩)), (4, .pointer (some ⟨b27, 0, none⟩)), (6, .pointer (some ⟨b49, 0, none⟩)), (35, .slice p0 x0.Sides.length c0), (36, .int .i64 (x0.Sides.length : Int)), (37, .int .i64 x35), (62, .bool true)] rfl (by kernel_rfl) ?_
            refine ow_end rfl ?_
            refine ew_then ?_
            refine cw_cond_t rfl rfl rfl ?_
            refine cw_seq ?_
            refine cw_region ?_
            refine ow_vals 2 (j := 2) [2, 3] [(2, .string (ByteArray.mk #[])), (3, .bool false)] rfl (by kernel_rfl) ?_
            refine ow_end rfl ?_
            refine ew_then ?_
            refine cw_ret ?_
            refine ew_then_ret ?_
            refine ew_blk_ret ?_
            refine ew_then_ret ?_
            refine ew_then_ret ?_
            refine ew_blk_ret ?_
            refine ew_then_ret ?_
            have hR := Option.some.inj hF
            subst hR
            have hR := hK51
            try dsimp only [Thru] at hR
            subst hR
            have hR := hK39
            try dsimp only [Thru] at hR
            subst hR
            have hR := hL34
            try dsimp only at hR
            subst hR
            have hR := hK33
            try dsimp only [Thru] at hR
            subst hR
            exact fin2 (H1 := [imm I]) (fun w hs => sat_to [0, 1, 1, 0] 3 rfl hs) rfl (rr_tmp rfl) (rr_tmp rfl) ⟨rfl, rfl⟩
          refine ow_slots (L' := [(1, .pointer (some ⟨b21, 0, none⟩)), (4, .pointer (some ⟨b27, 0, none⟩)), (6, .pointer (some ⟨b49, 0, none⟩)), (35, .slice p0 x0.Sides.length c0), (36, .int .i64 (x0.Sides.length : Int)), (37, .int .i64 x35), (51, .bool false)]) (by rw [h53]) ?_
          refine ow_vals 1 (j := 12) [1, 4, 6, 35, 36, 37, 51, 52] [(1, .pointer (some ⟨b21, 0, none⟩)), (4, .pointer (some ⟨b27, 0, none⟩)), (6, .pointer (some ⟨b49, 0, none⟩)), (35, .slice p0 x0.Sides.length c0), (36, .int .i64 (x0.Sides.length : Int)), (37, .int .i64 x35), (51, .bool false), (52, .pointer (some ⟨b49, 1, none⟩))] rfl (by kernel_rfl) ?_
          refine ow_pw rfl (pw_quiet (v := .string y40.ID) rfl rfl rfl rfl (q_load 0 rfl rfl rfl (by kernel_rfl)) (nw_ow ?_))
          obtain ⟨r54, h55, hF⟩ := bind_some hF
          refine ow_pw rfl (pw_call (F := [pt b49 #[.int .i64 y40.Index, .string y40.ID, .slice r44.Path.p y40.Path.length r44.Path.c] 43, pt b27 #[.string s36, .bool x37] 84, pt b21 #[.int .i64 x0.Size, .slice p0 x0.Sides.length c0] 35] ++ F0) rfl rfl rfl rfl rfl rfl rfl (by kernel_rfl) (perm_of_pulls [1] rfl) (c_paper_IsID _ y40.ID r54 h55) ?_)
          rintro _ _ ⟨rfl, rfl⟩
          refine nw_H (H' := [imm I, pt b49 #[.int .i64 y40.Index, .string y40.ID, .slice r44.Path.p y40.Path.length r44.Path.c] 43, pt b27 #[.string s36, .bool x37] 84, pt b21 #[.int .i64 x0.Size, .slice p0 x0.Sides.length c0] 35] ++ F0) rfl (nw_ow ?_)
          refine ow_vals 3 (j := 17) [1, 4, 6, 35, 36, 37, 57] [(1, .pointer (some ⟨b21, 0, none⟩)), (4, .pointer (some ⟨b27, 0, none⟩)), (6, .pointer (some ⟨b49, 0, none⟩)), (35, .slice p0 x0.Sides.length c0), (36, .int .i64 (x0.Sides.length : Int)), (37, .int .i64 x35), (57, .bool (!r54))] rfl (by kernel_rfl) ?_
          rcases if_some hF with ⟨h56, hF⟩ | ⟨h56, hF⟩
          · refine ow_slots (L' := [(1, .pointer (some ⟨b21, 0, none⟩)), (4, .pointer (some ⟨b27, 0, none⟩)), (6, .pointer (some ⟨b49, 0, none⟩)), (35, .slice p0 x0.Sides.length c0), (36, .int .i64 (x0.Sides.length : Int)), (37, .int .i64 x35), (57, .bool true)]) (by rw [h56]) ?_
            refine ow_vals 5 (j := 22) [1, 4, 6, 35, 36, 37, 62] [(1, .pointer (some ⟨b21, 0, none⟩)), (4, .pointer (some ⟨b27, 0, none⟩)), (6, .pointer (some ⟨b49, 0, none⟩)), (35, .slice p0 x0.Sides.length c0), (36, .int .i64 (x0.Sides.length : Int)), (37, .int .i64 x35), (62, .bool true)] rfl (by kernel_rfl) ?_
            refine ow_end rfl ?_
            refine ew_then ?_
            refine cw_cond_t rfl rfl rfl ?_
            refine cw_seq ?_
            refine cw_region ?_
            refine ow_vals 2 (j := 2) [2, 3] [(2, .string (ByteArray.mk #[])), (3, .bool false)] rfl (by kernel_rfl) ?_
            refine ow_end rfl ?_
            refine ew_then ?_
            refine cw_ret ?_
            refine ew_then_ret ?_
            refine ew_blk_ret ?_
            refine ew_then_ret ?_
            refine ew_then_ret ?_
            refine ew_blk_ret ?_
            refine ew_then_ret ?_
            have hR := Option.some.inj hF
            subst hR
            have hR := hK51
            try dsimp only [Thru] at hR
            subst hR
            have hR := hK39
            try dsimp only [Thru] at hR
            subst hR
            have hR := hL34
            try dsimp only at hR
            subst hR
            have hR := hK33
            try dsimp only [Thru] at hR
            subst hR
            exact fin2 (H1 := [imm I]) (fun w hs => sat_to [1, 1, 1, 0] 3 rfl hs) rfl (rr_tmp rfl) (rr_tmp rfl) ⟨rfl, rfl⟩
          refine ow_slots (L' := [(1, .pointer (some ⟨b21, 0, none⟩)), (4, .pointer (some ⟨b27, 0, none⟩)), (6, .pointer (some ⟨b49, 0, none⟩)), (35, .slice p0 x0.Sides.length c0), (36, .int .i64 (x0.Sides.length : Int)), (37, .int .i64 x35), (57, .bool false)]) (by rw [h56]) ?_
          refine ow_vals 1 (j := 18) [1, 4, 6, 35, 36, 37, 57, 58] [(1, .pointer (some ⟨b21, 0, none⟩)), (4, .pointer (some ⟨b27, 0, none⟩)), (6, .pointer (some ⟨b49, 0, none⟩)), (35, .slice p0 x0.Sides.length c0), (36, .int .i64 (x0.Sides.length : Int)), (37, .int .i64 x35), (57, .bool false), (58, .pointer (some ⟨b49, 2, none⟩))] rfl (by kernel_rfl) ?_
          refine ow_pw rfl (pw_quiet (v := .slice r44.Path.p y40.Path.length r44.Path.c) rfl rfl rfl rfl (q_load 1 rfl rfl rfl (by kernel_rfl)) (nw_ow ?_))
          refine ow_vals 3 (j := 22) [1, 4, 6, 35, 36, 37, 62] [(1, .pointer (some ⟨b21, 0, none⟩)), (4, .pointer (some ⟨b27, 0, none⟩)), (6, .pointer (some ⟨b49, 0, none⟩)), (35, .slice p0 x0.Sides.length c0), (36, .int .i64 (x0.Sides.length : Int)), (37, .int .i64 x35), (62, .bool (decide ((y40.Path.length : Int) > 16)))] rfl (by kernel_rfl) ?_
          refine ow_end rfl ?_
          refine ew_then ?_
          rcases if_some hF with ⟨h57, hF⟩ | ⟨h57, hF⟩
          · refine cw_cond_t rfl rfl h57 ?_
            refine cw_seq ?_
            refine cw_region ?_
            refine ow_vals 2 (j := 2) [2, 3] [(2, .string (ByteArray.mk #[])), (3, .bool false)] rfl (by kernel_rfl) ?_
            refine ow_end rfl ?_
            refine ew_then ?_
            refine cw_ret ?_
            refine ew_then_ret ?_
            refine ew_blk_ret ?_
            refine ew_then_ret ?_
            refine ew_then_ret ?_
            refine ew_blk_ret ?_
            refine ew_then_ret ?_
            have hR := Option.some.inj hF
            subst hR
            have hR := hK51
            try dsimp only [Thru] at hR
            subst hR
            have hR := hK39
            try dsimp only [Thru] at hR
            subst hR
            have hR := hL34
            try dsimp only at hR
            subst hR
            have hR := hK33
            try dsimp only [Thru] at hR
            subst hR
            exact fin2 (H1 := [imm I]) (fun w hs => sat_to [1, 1, 1, 0] 3 rfl hs) rfl (rr_tmp rfl) (rr_tmp rfl) ⟨rfl, rfl⟩
          refine cw_cond_f rfl rfl h57 ?_
          refine cw_skip ?_
          have hR := Option.some.inj hF
          exact fun a w hf hs => ⟨hR, hf.keep [1, 4, 6, 35, 36, 37], sat_to [0, 0, 0, 0] 0 rfl hs⟩
        rintro a w ⟨hv, hf, hs⟩
        subst hv
        replace hF := hK51
        clear hK51
        try dsimp only [Thru] at hF
        revert a w
        show CW _ _ _ 91 [(1, .pointer (some ⟨b21, 0, none⟩)), (4, .pointer (some ⟨b27, 0, none⟩)), (6, .pointer (some ⟨b49, 0, none⟩)), (35, .slice p0 x0.Sides.length c0), (36, .int .i64 (x0.Sides.length : Int)), (37, .int .i64 x35)] (SAT w0 ([imm I, pt b49 #[.int .i64 y40.Index, .string y40.ID, .slice r44.Path.p y40.Path.length r44.Path.c] 43, pt b27 #[.string s36, .bool x37] 84, pt b21 #[.int .i64 x0.Size, .slice p0 x0.Sides.length c0] 35] ++ F0))
        unfold F.absent_Bytes.r2 at hF
        refine cw_seq ?_
        refine cw_region ?_
        refine ow_vals 2 (j := 2) [1, 4, 6, 35, 36, 37, 63, 64] [(1, .pointer (some ⟨b21, 0, none⟩)), (4, .pointer (some ⟨b27, 0, none⟩)), (6, .pointer (some ⟨b49, 0, none⟩)), (35, .slice p0 x0.Sides.length c0), (36, .int .i64 (x0.Sides.length : Int)), (37, .int .i64 x35), (63, .pointer (some ⟨b27, 0, none⟩)), (64, .pointer (some ⟨b49, 0, none⟩))] rfl (by kernel_rfl) ?_
        refine ow_pw rfl (pw_quiet (v := .int .i64 y40.Index) rfl rfl rfl rfl (q_load 1 rfl rfl rfl (by kernel_rfl)) (nw_ow ?_))
        obtain ⟨r58, h59, hF⟩ := bind_some hF
        refine ow_pw rfl (pw_call (F := [pt b49 #[.int .i64 y40.Index, .string y40.ID, .slice r44.Path.p y40.Path.length r44.Path.c] 43, pt b21 #[.int .i64 x0.Size, .slice p0 x0.Sides.length c0] 35] ++ F0) rfl rfl rfl rfl rfl rfl rfl (by kernel_rfl) (perm_of_pulls [0, 1] rfl) (c_octet_Writer_Num _ y40.Index (⟨s36, x37⟩ : octet_Writer) b27 r58 h59) ?_)
        rintro _ _ ⟨rfl, rfl⟩
        refine nw_H (H' := [imm I, pt b27 #[.string r58.s_, .bool r58.no_] 84, pt b49 #[.int .i64 y40.Index, .string y40.ID, .slice r44.Path.p y40.Path.length r44.Path.c] 43, pt b21 #[.int .i64 x0.Size, .slice p0 x0.Sides.length c0] 35] ++ F0) rfl (nw_ow ?_)
        refine ow_end rfl ?_
        refine ew_then ?_
        refine cw_seq ?_
        refine cw_region ?_
        refine ow_vals 2 (j := 2) [1, 4, 6, 35, 36, 37, 67, 68] [(1, .pointer (some ⟨b21, 0, none⟩)), (4, .pointer (some ⟨b27, 0, none⟩)), (6, .pointer (some ⟨b49, 0, none⟩)), (35, .slice p0 x0.Sides.length c0), (36, .int .i64 (x0.Sides.length : Int)), (37, .int .i64 x35), (67, .pointer (some ⟨b27, 0, none⟩)), (68, .pointer (some ⟨b49, 1, none⟩))] rfl (by kernel_rfl) ?_
        refine ow_pw rfl (pw_quiet (v := .string y40.ID) rfl rfl rfl rfl (q_load 2 rfl rfl rfl (by kernel_rfl)) (nw_ow ?_))
        obtain ⟨r60, h61, hF⟩ := bind_some hF
        refine ow_pw rfl (pw_call (F := [pt b49 #[.int .i64 y40.Index, .string y40.ID, .slice r44.Path.p y40.Path.length r44.Path.c] 43, pt b21 #[.int .i64 x0.Size, .slice p0 x0.Sides.length c0] 35] ++ F0) rfl rfl rfl rfl rfl rfl rfl (by kernel_rfl) (perm_of_pulls [0, 0] rfl) (c_octet_Writer_Text _ y40.ID r58 b27 r60 h61) ?_)
        rintro _ _ ⟨rfl, rfl⟩
        refine nw_H (H' := [imm I, pt b27 #[.string r60.s_, .bool r60.no_] 84, pt b49 #[.int .i64 y40.Index, .string y40.ID, .slice r44.Path.p y40.Path.length r44.Path.c] 43, pt b21 #[.int .i64 x0.Size, .slice p0 x0.Sides.length c0] 35] ++ F0) rfl (nw_ow ?_)
        refine ow_end rfl ?_
        refine ew_then ?_
        obtain ⟨v62, hF, hK62⟩ := thru_some hF
        refine cw_mid (fun a w => .inl () = v62 ∧ Fr 91 [(1, .pointer (some ⟨b21, 0, none⟩)), (4, .pointer (some ⟨b27, 0, none⟩)), (6, .pointer (some ⟨b49, 0, none⟩)), (35, .slice p0 x0.Sides.length c0), (36, .int .i64 (x0.Sides.length : Int)), (37, .int .i64 x35)] a ∧ SAT w0 ([imm I, pt b27 #[.string r60.s_, .bool r60.no_] 84, pt b49 #[.int .i64 y40.Index, .string y40.ID, .slice r44.Path.p y40.Path.length r44.Path.c] 43, pt b21 #[.int .i64 x0.Size, .slice p0 x0.Sides.length c0] 35] ++ F0) w) ?_ ?_
        · refine cw_seq ?_
          refine cw_region ?_
          refine ow_vals 1 (j := 1) [1, 4, 6, 35, 36, 37, 71] [(1, .pointer (some ⟨b21, 0, none⟩)), (4, .pointer (some ⟨b27, 0, none⟩)), (6, .pointer (some ⟨b49, 0, none⟩)), (35, .slice p0 x0.Sides.length c0), (36, .int .i64 (x0.Sides.length : Int)), (37, .int .i64 x35), (71, .pointer (some ⟨b49, 2, none⟩))] rfl (by kernel_rfl) ?_
          refine ow_pw rfl (pw_quiet (v := .slice r44.Path.p y40.Path.length r44.Path.c) rfl rfl rfl rfl (q_load 2 rfl rfl rfl (by kernel_rfl)) (nw_ow ?_))
          refine ow_vals 2 (j := 4) [1, 4, 6, 35, 36, 37, 72, 73, 74] [(1, .pointer (some ⟨b21, 0, none⟩)), (4, .pointer (some ⟨b27, 0, none⟩)), (6, .pointer (some ⟨b49, 0, none⟩)), (35, .slice p0 x0.Sides.length c0), (36, .int .i64 (x0.Sides.length : Int)), (37, .int .i64 x35), (72, .slice r44.Path.p y40.Path.length r44.Path.c), (73, .int .i64 (y40.Path.length : Int)), (74, .int .i64 0)] rfl (by kernel_rfl) ?_
          refine ow_end rfl ?_
          refine ew_then ?_
          refine cw_block ?_
          refine fun a w hf hs => wp_rounds (fun k a w => ∃ (x64 : Int), iter (fun x => F.absent_Bytes.l3 y40 x) k x64 = some v62 ∧ Fr 91 [(1, .pointer (some ⟨b21, 0, none⟩)), (4, .pointer (some ⟨b27, 0, none⟩)), (6, .pointer (some ⟨b49, 0, none⟩)), (35, .slice p0 x0.Sides.length c0), (36, .int .i64 (x0.Sides.length : Int)), (37, .int .i64 x35), (72, .slice r44.Path.p y40.Path.length r44.Path.c), (73, .int .i64 (y40.Path.length : Int)), (74, .int .i64 x64)] a ∧ SAT w0 ([imm I, pt b27 #[.string r60.s_, .bool r60.no_] 84, pt b49 #[.int .i64 y40.Index, .string y40.ID, .slice r44.Path.p y40.Path.length r44.Path.c] 43, pt b21 #[.int .i64 x0.Size, .slice p0 x0.Sides.length c0] 35] ++ F0) w) ?_ FUEL a w ⟨0, hF, hf.keep [1, 4, 6, 35, 36, 37, 72, 73, 74], sat_to [0, 0, 0, 0] 0 rfl hs⟩
          clear hf hs
          clear a w hF
          rintro k a w ⟨x64, hF2, hf, hs⟩
          obtain ⟨k, r63, rfl, hF, hL63⟩ := iter_some hF2
          clear hF2
          revert a w
          show CW _ _ _ 91 [(1, .pointer (some ⟨b21, 0, none⟩)), (4, .pointer (some ⟨b27, 0, none⟩)), (6, .pointer (some ⟨b49, 0, none⟩)), (35, .slice p0 x0.Sides.length c0), (36, .int .i64 (x0.Sides.length : Int)), (37, .int .i64 x35), (72, .slice r44.Path.p y40.Path.length r44.Path.c), (73, .int .i64 (y40.Path.length : Int)), (74, .int .i64 x64)] (SAT w0 ([imm I, pt b27 #[.string r60.s_, .bool r60.no_] 84, pt b49 #[.int .i64 y40.Index, .string y40.ID, .slice r44.Path.p y40.Path.length r44.Path.c] 43, pt b21 #[.int .i64 x0.Size, .slice p0 x0.Sides.length c0] 35] ++ F0))
          try dsimp only at hF
          unfold F.absent_Bytes.l3 at hF
          refine cw_seq ?_
          refine cw_region ?_
          refine ow_vals 1 (j := 1) [1, 4, 6, 35, 36, 37, 72, 73, 74, 75] [(1, .pointer (some ⟨b21, 0, none⟩)), (4, .pointer (some ⟨b27, 0, none⟩)), (6, .pointer (some ⟨b49, 0, none⟩)), (35, .slice p0 x0.Sides.length c0), (36, .int .i64 (x0.Sides.length : Int)), (37, .int .i64 x35), (72, .slice r44.Path.p y40.Path.length r44.Path.c), (73, .int .i64 (y40.Path.length : Int)), (74, .int .i64 x64), (75, .bool (decide (x64 < (y40.Path.length : Int))))] rfl (by kernel_rfl) ?_
          refine ow_end rfl ?_
          refine ew_then ?_
          refine cw_seq ?_
          rcases if_some hF with ⟨h65, hF⟩ | ⟨h65, hF⟩
          · refine cw_cond_t rfl rfl h65 ?_
            refine cw_skip ?_
            refine ew_then ?_
            refine cw_seq ?_
            refine cw_block ?_
            refine cw_seq ?_
            refine cw_region ?_
            obtain ⟨y66, h67, hF⟩ := bind_some hF
            refine ow_pw rfl (pw_index_ro (E := 9) 1 h48 rfl rfl rfl rfl rfl (by kernel_rfl) rfl rfl rfl h67 fun q68 h69 => nw_ow ?_)
            refine ow_pw rfl (pw_quiet (v := .string y66) rfl rfl rfl rfl (q_load_el0 0 rfl h69 rfl rfl (by kernel_rfl)) (nw_ow ?_))
            refine ow_vals 1 (j := 3) [1, 4, 6, 8, 35, 36, 37, 72, 73, 74] [(1, .pointer (some ⟨b21, 0, none⟩)), (4, .pointer (some ⟨b27, 0, none⟩)), (6, .pointer (some ⟨b49, 0, none⟩)), (8, .string y66), (35, .slice p0 x0.Sides.length c0), (36, .int .i64 (x0.Sides.length : Int)), (37, .int .i64 x35), (72, .slice r44.Path.p y40.Path.length r44.Path.c), (73, .int .i64 (y40.Path.length : Int)), (74, .int .i64 x64)] rfl (by kernel_rfl) ?_
            refine ow_end rfl ?_
            refine ew_then ?_
            refine cw_seq ?_
            refine cw_region ?_
            refine ow_vals 3 (j := 3) [1, 4, 6, 35, 36, 37, 72, 73, 74, 80] [(1, .pointer (some ⟨b21, 0, none⟩)), (4, .pointer (some ⟨b27, 0, none⟩)), (6, .pointer (some ⟨b49, 0, none⟩)), (35, .slice p0 x0.Sides.length c0), (36, .int .i64 (x0.Sides.length : Int)), (37, .int .i64 x35), (72, .slice r44.Path.p y40.Path.length r44.Path.c), (73, .int .i64 (y40.Path.length : Int)), (74, .int .i64 x64), (80, .bool ((y66.size : Int) != 32))] rfl (by kernel_rfl) ?_
            refine ow_end rfl ?_
            refine ew_then ?_
            rcases if_some hF with ⟨h70, hF⟩ | ⟨h70, hF⟩
            · refine cw_cond_t rfl rfl h70 ?_
              refine cw_seq ?_
              refine cw_region ?_
              refine ow_vals 2 (j := 2) [2, 3] [(2, .string (ByteArray.mk #[])), (3, .bool false)] rfl (by kernel_rfl) ?_
              refine ow_end rfl ?_
              refine ew_then ?_
              refine cw_ret ?_
              refine ew_blk_ret ?_
              refine ew_then_ret ?_
              refine ew_then_ret ?_
              refine ew_blk_ret ?_
              refine ew_then_ret ?_
              refine ew_blk_ret ?_
              refine ew_then_ret ?_
              refine ew_then_ret ?_
              refine ew_blk_ret ?_
              refine ew_then_ret ?_
              have hR := Option.some.inj hF
              subst hR
              have hR := hL63
              try dsimp only at hR
              subst hR
              have hR := hK62
              try dsimp only [Thru] at hR
              subst hR
              have hR := hK39
              try dsimp only [Thru] at hR
              subst hR
              have hR := hL34
              try dsimp only at hR
              subst hR
              have hR := hK33
              try dsimp only [Thru] at hR
              subst hR
              exact fin2 (H1 := [imm I]) (fun w hs => sat_to [1, 1, 1, 0] 3 rfl hs) rfl (rr_tmp rfl) (rr_tmp rfl) ⟨rfl, rfl⟩
            refine cw_cond_f rfl rfl h70 ?_
            refine cw_skip ?_
            refine ew_blk ?_
            refine ew_then ?_
            refine cw_region ?_
            refine ow_vals 2 (j := 2) [1, 4, 6, 35, 36, 37, 72, 73, 74] [(1, .pointer (some ⟨b21, 0, none⟩)), (4, .pointer (some ⟨b27, 0, none⟩)), (6, .pointer (some ⟨b49, 0, none⟩)), (35, .slice p0 x0.Sides.length c0), (36, .int .i64 (x0.Sides.length : Int)), (37, .int .i64 x35), (72, .slice r44.Path.p y40.Path.length r44.Path.c), (73, .int .i64 (y40.Path.length : Int)), (74, .int .i64 (IntKind.i64.wrap (x64 + 1)))] rfl (by kernel_rfl) ?_
            refine ow_end rfl ?_
            have hR := Option.some.inj hF
            subst hR
            have hR := hL63
            try dsimp only at hR
            exact fun a w hf hs => ⟨k, Nat.lt_succ_self k, IntKind.i64.wrap (x64 + 1), hR, hf.keep [1, 4, 6, 35, 36, 37, 72, 73, 74], sat_to [0, 0, 0, 0] 0 rfl hs⟩
          refine cw_cond_f rfl rfl h65 ?_
          refine cw_exit ?_
          refine ew_then_exit ?_
          refine ew_then_exit ?_
          refine ew_blk_exit ?_
          have hR := Option.some.inj hF
          subst hR
          have hR := hL63
          try dsimp only at hR
          exact fun a w hf hs => ⟨hR, hf.keep [1, 4, 6, 35, 36, 37], sat_to [0, 0, 0, 0] 0 rfl hs⟩
        rintro a w ⟨hv, hf, hs⟩
        subst hv
        replace hF := hK62
        clear hK62
        try dsimp only [Thru] at hF
        revert a w
        show CW _ _ _ 91 [(1, .pointer (some ⟨b21, 0, none⟩)), (4, .pointer (some ⟨b27, 0, none⟩)), (6, .pointer (some ⟨b49, 0, none⟩)), (35, .slice p0 x0.Sides.length c0), (36, .int .i64 (x0.Sides.length : Int)), (37, .int .i64 x35)] (SAT w0 ([imm I, pt b27 #[.string r60.s_, .bool r60.no_] 84, pt b49 #[.int .i64 y40.Index, .string y40.ID, .slice r44.Path.p y40.Path.length r44.Path.c] 43, pt b21 #[.int .i64 x0.Size, .slice p0 x0.Sides.length c0] 35] ++ F0))
        unfold F.absent_Bytes.r4 at hF
        refine cw_region ?_
        refine ow_vals 2 (j := 2) [1, 4, 35, 36, 37, 82, 83] [(1, .pointer (some ⟨b21, 0, none⟩)), (4, .pointer (some ⟨b27, 0, none⟩)), (35, .slice p0 x0.Sides.length c0), (36, .int .i64 (x0.Sides.length : Int)), (37, .int .i64 x35), (82, .pointer (some ⟨b27, 0, none⟩)), (83, .pointer (some ⟨b49, 2, none⟩))] rfl (by kernel_rfl) ?_
        refine ow_pw rfl (pw_quiet (v := .slice r44.Path.p y40.Path.length r44.Path.c) rfl rfl rfl rfl (q_load 2 rfl rfl rfl (by kernel_rfl)) (nw_ow ?_))
        obtain ⟨r71, h72, hF⟩ := bind_some hF
        refine ow_pw rfl (pw_call (F := [pt b49 #[.int .i64 y40.Index, .string y40.ID, .slice r44.Path.p y40.Path.length r44.Path.c] 43, pt b21 #[.int .i64 x0.Size, .slice p0 x0.Sides.length c0] 35] ++ F0) rfl rfl rfl rfl rfl rfl rfl (by kernel_rfl) (perm_of_pulls [0, 0] rfl) (c_octet_Writer_Texts _ y40.Path r60 r44.Path.p r44.Path.c b27 r71 h72 h48) ?_)
        rintro _ _ ⟨rfl, rfl⟩
        refine nw_H (H' := [imm I, pt b27 #[.string r71.s_, .bool r71.no_] 84, pt b49 #[.int .i64 y40.Index, .string y40.ID, .slice r44.Path.p y40.Path.length r44.Path.c] 43, pt b21 #[.int .i64 x0.Size, .slice p0 x0.Sides.length c0] 35] ++ F0) rfl (nw_ow ?_)
        refine ow_end rfl ?_
        refine ew_blk ?_
        have hR := Option.some.inj hF
        exact fun a w hf hs => ⟨r71.s_, r71.no_, y40.Index, y40.ID, y40.Path, b49, r44.Path.p, r44.Path.c, hR, h48, hf.keep [1, 4, 35, 36, 37], sat_to [0, 0, 0, 0] 0 rfl hs⟩
      rintro a w ⟨s74, x75, x76, s77, l78, b73, p79, c80, hv, h81, hf, hs⟩
      subst hv
      replace hF := hK39
      clear hK39
      try dsimp only [Thru] at hF
      revert a w
      show CW _ _ _ 91 [(1, .pointer (some ⟨b21, 0, none⟩)), (4, .pointer (some ⟨b27, 0, none⟩)), (35, .slice p0 x0.Sides.length c0), (36, .int .i64 (x0.Sides.length : Int)), (37, .int .i64 x35)] (SAT w0 ([imm I, pt b27 #[.string s74, .bool x75] 84, pt b73 #[.int .i64 x76, .string s77, .slice p79 l78.length c80] 43, pt b21 #[.int .i64 x0.Size, .slice p0 x0.Sides.length c0] 35] ++ F0))
      unfold F.absent_Bytes.r5 at hF
      refine cw_region ?_
      refine ow_vals 2 (j := 2) [1, 4, 35, 36, 37] [(1, .pointer (some ⟨b21, 0, none⟩)), (4, .pointer (some ⟨b27, 0, none⟩)), (35, .slice p0 x0.Sides.length c0), (36, .int .i64 (x0.Sides.length : Int)), (37, .int .i64 (IntKind.i64.wrap (x35 + 1)))] rfl (by kernel_rfl) ?_
      refine ow_end rfl ?_
      have hR := Option.some.inj hF
      subst hR
      have hR := hL34
      try dsimp only at hR
      exact fun a w hf hs => ⟨k, Nat.lt_succ_self k, IntKind.i64.wrap (x35 + 1), s74, x75, hR, hf.keep [1, 4, 35, 36, 37], sat_to [2, 0, 0, 0] 1 rfl hs⟩
    refine cw_cond_f rfl rfl h38 ?_
    refine cw_exit ?_
    refine ew_then_exit ?_
    refine ew_then_exit ?_
    refine ew_blk_exit ?_
    have hR := Option.some.inj hF
    subst hR
    have hR := hL34
    try dsimp only at hR
    exact fun a w hf hs => ⟨s36, x37, hR, hf.keep [4], sat_to [0, 0, 0] 0 rfl hs⟩
  rintro a w ⟨s82, x83, hv, hf, hs⟩
  subst hv
  replace hF := hK33
  clear hK33
  try dsimp only [Thru] at hF
  revert a w
  show CW _ _ _ 91 [(4, .pointer (some ⟨b27, 0, none⟩))] (SAT w0 ([imm I, pt b27 #[.string s82, .bool x83] 84, pt b21 #[.int .i64 x0.Size, .slice p0 x0.Sides.length c0] 35] ++ F0))
  unfold F.absent_Bytes.r7 at hF
  refine cw_seq ?_
  refine cw_region ?_
  refine ow_vals 1 (j := 1) [87] [(87, .pointer (some ⟨b27, 0, none⟩))] rfl (by kernel_rfl) ?_
  obtain ⟨r84, h85, hF⟩ := bind_some hF
  refine ow_pw rfl (pw_call (F := [pt b21 #[.int .i64 x0.Size, .slice p0 x0.Sides.length c0] 35] ++ F0) rfl rfl rfl rfl rfl rfl rfl (by kernel_rfl) (perm_of_pulls [0, 0] rfl) (c_octet_Writer_All _ (⟨s82, x83⟩ : octet_Writer) b27 r84 h85) ?_)
  rintro _ _ ⟨rfl, rfl⟩
  refine nw_H (H' := [imm I, pt b27 #[.string ((⟨s82, x83⟩ : octet_Writer).s_), .bool ((⟨s82, x83⟩ : octet_Writer).no_)] 84, pt b21 #[.int .i64 x0.Size, .slice p0 x0.Sides.length c0] 35] ++ F0) rfl (nw_ow ?_)
  refine ow_vals 4 (j := 6) [2, 3] [(2, .string r84.1), (3, .bool r84.2)] rfl (by kernel_rfl) ?_
  refine ow_end rfl ?_
  refine ew_then ?_
  refine cw_ret ?_
  have hR := Option.some.inj hF
  subst hR
  exact fin2 (H1 := [imm I]) (fun w hs => sat_to [1, 1, 0] 2 rfl hs) rfl (rr_tmp rfl) (rr_tmp rfl) ⟨rfl, rfl⟩


def F.octet_Read (x0 : ByteArray) : Option octet_Reader :=
  some ((⟨x0, 0, 0⟩ : octet_Reader))
set_option maxRecDepth 100000 in
set_option maxHeartbeats 4000000 in
theorem c_octet_Read (I : Hl) (x0 : ByteArray) (res : octet_Reader) (hF : F.octet_Read x0 = some res) : Tr Try.prog 52 [.string x0] [imm I] (fun r H' => ∃ (bq1 : Nat), r = .pointer (some ⟨bq1, 0, none⟩) ∧ H' = [imm I, pt bq1 #[.string res.s_, .int .i64 res.at_, .int .i64 res.e_] 104]) := by
  unfold F.octet_Read at hF
  refine tr_of_cw (fn := Try.f52) Try.func52 rfl (Nat.le_of_ble_eq_true rfl) 6 rfl fun F0 w0 => ?_
  refine cw_keep [0] (L' := [(0, .string x0)]) rfl ?_
  refine cw_state (S' := SAT w0 ([imm I] ++ F0)) (fun w hs => hs) ?_
  refine cw_seq ?_
  refine cw_region ?_
  refine ow_vals 1 (j := 1) [0] [(0, .string x0)] rfl (by kernel_rfl) ?_
  refine ow_end rfl ?_
  refine ew_then ?_
  refine cw_seq ?_
  refine cw_region ?_
  refine ow_vals 2 (j := 2) [4] [(4, .agg #[.string x0, .int .i64 0, .int .i64 0])] rfl (by kernel_rfl) ?_
  refine ow_pw rfl (pw_box (cs := #[.string x0, .int .i64 0, .int .i64 0]) rfl rfl rfl rfl rfl rfl fun b21 => nw_ow ?_)
  refine ow_vals 1 (j := 4) [2] [(2, .pointer (some ⟨b21, 0, none⟩))] rfl (by kernel_rfl) ?_
  refine ow_end rfl ?_
  refine ew_then ?_
  refine cw_ret ?_
  have hR := Option.some.inj hF
  subst hR
  exact fin1 (H1 := [imm I, pt b21 #[.string ((⟨x0, 0, 0⟩ : octet_Reader).s_), .int .i64 ((⟨x0, 0, 0⟩ : octet_Reader).at_), .int .i64 ((⟨x0, 0, 0⟩ : octet_Reader).e_)] 104]) (fun w hs => sat_to [1, 0] 0 rfl hs) rfl (rr_tmp rfl) ⟨b21, rfl, rfl⟩


def F.octet_Reader_Text (x1 : Int) (m0 : octet_Reader) : Option (ByteArray × octet_Reader) :=
  Option.bind (F.octet_Reader_Num x1 m0) (fun (r21 : Int × octet_Reader) => Option.bind (F.octet_Reader_Raw r21.1 r21.2) (fun (r23 : ByteArray × octet_Reader) => some ((r23.1, r23.2))))
set_option maxRecDepth 100000 in
set_option maxHeartbeats 4000000 in
theorem c_octet_Reader_Text (I : Hl) (x1 : Int) (m0 : octet_Reader) (b0 : Nat) (res : ByteArray × octet_Reader) (hF : F.octet_Reader_Text x1 m0 = some res) : Tr Try.prog 54 [.pointer (some ⟨b0, 0, none⟩), .int .i64 x1] [imm I, pt b0 #[.string m0.s_, .int .i64 m0.at_, .int .i64 m0.e_] 104] (fun r H' => r = .string res.1 ∧ H' = [imm I, pt b0 #[.string res.2.s_, .int .i64 res.2.at_, .int .i64 res.2.e_] 104]) := by
  unfold F.octet_Reader_Text at hF
  refine tr_of_cw (fn := Try.f54) Try.func54 rfl (Nat.le_of_ble_eq_true rfl) 10 rfl fun F0 w0 => ?_
  refine cw_keep [0, 1] (L' := [(0, .pointer (some ⟨b0, 0, none⟩)), (1, .int .i64 x1)]) rfl ?_
  refine cw_state (S' := SAT w0 ([imm I, pt b0 #[.string m0.s_, .int .i64 m0.at_, .int .i64 m0.e_] 104] ++ F0)) (fun w hs => hs) ?_
  refine cw_seq ?_
  refine cw_region ?_
  refine ow_vals 1 (j := 1) [0, 1] [(0, .pointer (some ⟨b0, 0, none⟩)), (1, .int .i64 x1)] rfl (by kernel_rfl) ?_
  refine ow_end rfl ?_
  refine ew_then ?_
  refine cw_seq ?_
  refine cw_region ?_
  refine ow_vals 3 (j := 3) [5, 6, 7] [(5, .pointer (some ⟨b0, 0, none⟩)), (6, .pointer (some ⟨b0, 0, none⟩)), (7, .int .i64 x1)] rfl (by kernel_rfl) ?_
  obtain ⟨r21, h22, hF⟩ := bind_some hF
  refine ow_pw rfl (pw_call (F := [] ++ F0) rfl rfl rfl rfl rfl rfl rfl (by kernel_rfl) (perm_of_pulls [0, 0] rfl) (c_octet_Reader_Num _ x1 m0 b0 r21 h22) ?_)
  rintro _ _ ⟨rfl, rfl⟩
  refine nw_H (H' := [imm I, pt b0 #[.string r21.2.s_, .int .i64 r21.2.at_, .int .i64 r21.2.e_] 104] ++ F0) rfl (nw_ow ?_)
  obtain ⟨r23, h24, hF⟩ := bind_some hF
  refine ow_pw rfl (pw_call (F := [] ++ F0) rfl rfl rfl rfl rfl rfl rfl (by kernel_rfl) (perm_of_pulls [0, 0] rfl) (c_octet_Reader_Raw _ r21.1 r21.2 b0 r23 h24) ?_)
  rintro _ _ ⟨rfl, rfl⟩
  refine nw_H (H' := [imm I, pt b0 #[.string r23.2.s_, .int .i64 r23.2.at_, .int .i64 r23.2.e_] 104] ++ F0) rfl (nw_ow ?_)
  refine ow_vals 1 (j := 6) [4] [(4, .string r23.1)] rfl (by kernel_rfl) ?_
  refine ow_end rfl ?_
  refine ew_then ?_
  refine cw_ret ?_
  have hR := Option.some.inj hF
  subst hR
  exact fin1 (H1 := [imm I, pt b0 #[.string r23.2.s_, .int .i64 r23.2.at_, .int .i64 r23.2.e_] 104]) (fun w hs => sat_to [0, 0] 0 rfl hs) rfl (rr_tmp rfl) ⟨rfl, rfl⟩


def F.octet_Reader_Texts.l1 (x2 : Int) (r22 : Int × octet_Reader) (l25 : List ByteArray) (x29 : Int) (s30 : ByteArray) (x31 : Int) (x32 : Int) : Option (((List ByteArray) × Int × ByteArray × Int × Int) ⊕ (((List ByteArray) × ByteArray × Int × Int) ⊕ ((List ByteArray) × octet_Reader))) :=
  if decide (x29 < r22.1) then (Option.bind (F.octet_Reader_Text x2 (⟨s30, x31, x32⟩ : octet_Reader)) (fun (r34 : ByteArray × octet_Reader) => Option.bind (F.octet_Reader_Err r34.2) (fun (r36 : Int) => if r36 != 0 then (some (.inr (.inr ((([] : List ByteArray), r34.2))))) else (chk (room (l25.length + ([r34.1] : List ByteArray).length) 16) (some (.inl (l25 ++ ([r34.1] : List ByteArray), IntKind.i64.wrap (x29 + 1), r34.2.s_, r34.2.at_, r34.2.e_))))))) else (some (.inr (.inl (l25, s30, x31, x32))))
def F.octet_Reader_Texts.r2 (l44 : List ByteArray) (s48 : ByteArray) (x49 : Int) (x50 : Int) : Option ((List ByteArray) × octet_Reader) :=
  some ((l44, (⟨s48, x49, x50⟩ : octet_Reader)))
def F.octet_Reader_Texts (x1 : Int) (x2 : Int) (m0 : octet_Reader) : Option ((List ByteArray) × octet_Reader) :=
  thru (Option.bind (F.octet_Reader_Num x1 m0) (fun (r22 : Int × octet_Reader) => iter (fun x => F.octet_Reader_Texts.l1 x2 r22 x.1 x.2.1 x.2.2.1 x.2.2.2.1 x.2.2.2.2) FUEL ([], 0, r22.2.s_, r22.2.at_, r22.2.e_))) (fun x => F.octet_Reader_Texts.r2 x.1 x.2.1 x.2.2.1 x.2.2.2)
set_option maxRecDepth 100000 in
set_option maxHeartbeats 4000000 in
theorem c_octet_Reader_Texts (I : Hl) (x1 : Int) (x2 : Int) (m0 : octet_Reader) (b0 : Nat) (res : (List ByteArray) × octet_Reader) (hF : F.octet_Reader_Texts x1 x2 m0 = some res) : Tr Try.prog 55 [.pointer (some ⟨b0, 0, none⟩), .int .i64 x1, .int .i64 x2] [imm I, pt b0 #[.string m0.s_, .int .i64 m0.at_, .int .i64 m0.e_] 104] (fun r H' => ∃ (pq1 : Option Addr), ∃ (cq2 : Nat), r = .slice pq1 res.1.length cq2 ∧ H' = [imm I, pt b0 #[.string res.2.s_, .int .i64 res.2.at_, .int .i64 res.2.e_] 104, own eStr 9 pq1 cq2 res.1]) := by
  unfold F.octet_Reader_Texts at hF
  refine tr_of_cw (fn := Try.f55) Try.func55 rfl (Nat.le_of_ble_eq_true rfl) 26 rfl fun F0 w0 => ?_
  refine cw_keep [0, 1, 2] (L' := [(0, .pointer (some ⟨b0, 0, none⟩)), (1, .int .i64 x1), (2, .int .i64 x2)]) rfl ?_
  refine cw_state (S' := SAT w0 ([imm I, pt b0 #[.string m0.s_, .int .i64 m0.at_, .int .i64 m0.e_] 104] ++ F0)) (fun w hs => hs) ?_
  refine cw_seq ?_
  refine cw_region ?_
  refine ow_vals 1 (j := 1) [0, 1, 2] [(0, .pointer (some ⟨b0, 0, none⟩)), (1, .int .i64 x1), (2, .int .i64 x2)] rfl (by kernel_rfl) ?_
  refine ow_end rfl ?_
  refine ew_then ?_
  refine cw_seq ?_
  refine cw_region ?_
  refine ow_vals 1 (j := 1) [0, 1, 2, 7] [(0, .pointer (some ⟨b0, 0, none⟩)), (1, .int .i64 x1), (2, .int .i64 x2), (7, .slice none 0 0)] rfl (by kernel_rfl) ?_
  refine ow_end rfl ?_
  refine ew_then ?_
  obtain ⟨v21, hF, hK21⟩ := thru_some hF
  refine cw_mid (fun a w => ∃ (l44 : List ByteArray), ∃ (s48 : ByteArray), ∃ (x49 : Int), ∃ (x50 : Int), ∃ (p45 : Option Addr), ∃ (c46 : Nat), .inl (l44, s48, x49, x50) = v21 ∧ Fr 26 [(7, .slice p45 l44.length c46)] a ∧ SAT w0 ([imm I, pt b0 #[.string s48, .int .i64 x49, .int .i64 x50] 104, own eStr 9 p45 c46 l44] ++ F0) w) ?_ ?_
  · refine cw_seq ?_
    refine cw_region ?_
    refine ow_vals 2 (j := 2) [0, 2, 7, 9, 10] [(0, .pointer (some ⟨b0, 0, none⟩)), (2, .int .i64 x2), (7, .slice none 0 0), (9, .pointer (some ⟨b0, 0, none⟩)), (10, .int .i64 x1)] rfl (by kernel_rfl) ?_
    obtain ⟨r22, h23, hF⟩ := bind_some hF
    refine ow_pw rfl (pw_call (F := [] ++ F0) rfl rfl rfl rfl rfl rfl rfl (by kernel_rfl) (perm_of_pulls [0, 0] rfl) (c_octet_Reader_Num _ x1 m0 b0 r22 h23) ?_)
    rintro _ _ ⟨rfl, rfl⟩
    refine nw_H (H' := [imm I, pt b0 #[.string r22.2.s_, .int .i64 r22.2.at_, .int .i64 r22.2.e_] 104] ++ F0) rfl (nw_ow ?_)
    refine ow_vals 1 (j := 4) [0, 2, 7, 11, 12] [(0, .pointer (some ⟨b0, 0, none⟩)), (2, .int .i64 x2), (7, .slice none 0 0), (11, .int .i64 r22.1), (12, .int .i64 0)] rfl (by kernel_rfl) ?_
    refine ow_end rfl ?_
    refine ew_then ?_
    refine cw_block ?_
    refine fun a w hf hs => wp_rounds (fun k a w => ∃ (l25 : List ByteArray), ∃ (x29 : Int), ∃ (s30 : ByteArray), ∃ (x31 : Int), ∃ (x32 : Int), ∃ (p26 : Option Addr), ∃ (c27 : Nat), iter (fun x => F.octet_Reader_Texts.l1 x2 r22 x.1 x.2.1 x.2.2.1 x.2.2.2.1 x.2.2.2.2) k (l25, x29, s30, x31, x32) = some v21 ∧ Fr 26 [(0, .pointer (some ⟨b0, 0, none⟩)), (2, .int .i64 x2), (7, .slice p26 l25.length c27), (11, .int .i64 r22.1), (12, .int .i64 x29)] a ∧ SAT w0 ([imm I, pt b0 #[.string s30, .int .i64 x31, .int .i64 x32] 104, own eStr 9 p26 c27 l25] ++ F0) w) ?_ FUEL a w ⟨[], 0, r22.2.s_, r22.2.at_, r22.2.e_, none, 0, hF, hf.keep [0, 2, 7, 11, 12], sat_to [1, 1, 0] 0 rfl (sat_own_nil eStr 9 hs)⟩
    clear hf hs
    clear a w hF
    rintro k a w ⟨l25, x29, s30, x31, x32, p26, c27, hF2, hf, hs⟩
    obtain ⟨k, r24, rfl, hF, hL24⟩ := iter_some hF2
    clear hF2
    revert a w
    show CW _ _ _ 26 [(0, .pointer (some ⟨b0, 0, none⟩)), (2, .int .i64 x2), (7, .slice p26 l25.length c27), (11, .int .i64 r22.1), (12, .int .i64 x29)] (SAT w0 ([imm I, pt b0 #[.string s30, .int .i64 x31, .int .i64 x32] 104, own eStr 9 p26 c27 l25] ++ F0))
    try dsimp only at hF
    unfold F.octet_Reader_Texts.l1 at hF
    refine cw_seq ?_
    refine cw_region ?_
    refine ow_vals 1 (j := 1) [0, 2, 7, 11, 12, 13] [(0, .pointer (some ⟨b0, 0, none⟩)), (2, .int .i64 x2), (7, .slice p26 l25.length c27), (11, .int .i64 r22.1), (12, .int .i64 x29), (13, .bool (decide (x29 < r22.1)))] rfl (by kernel_rfl) ?_
    refine ow_end rfl ?_
    refine ew_then ?_
    refine cw_seq ?_
    rcases if_some hF with ⟨h33, hF⟩ | ⟨h33, hF⟩
    · refine cw_cond_t rfl rfl h33 ?_
      refine cw_skip ?_
      refine ew_then ?_
      refine cw_seq ?_
      refine cw_block ?_
      refine cw_seq ?_
      refine cw_region ?_
      refine ow_vals 2 (j := 2) [0, 2, 7, 11, 12, 14, 15] [(0, .pointer (some ⟨b0, 0, none⟩)), (2, .int .i64 x2), (7, .slice p26 l25.length c27), (11, .int .i64 r22.1), (12, .int .i64 x29), (14, .pointer (some ⟨b0, 0, none⟩)), (15, .int .i64 x2)] rfl (by kernel_rfl) ?_
      obtain ⟨r34, h35, hF⟩ := bind_some hF
      refine ow_pw rfl (pw_call (F := [own eStr 9 p26 c27 l25] ++ F0) rfl rfl rfl rfl rfl rfl rfl (by kernel_rfl) (perm_of_pulls [0, 0] rfl) (c_octet_Reader_Text _ x2 (⟨s30, x31, x32⟩ : octet_Reader) b0 r34 h35) ?_)
      rintro _ _ ⟨rfl, rfl⟩
      refine nw_H (H' := [imm I, pt b0 #[.string r34.2.s_, .int .i64 r34.2.at_, .int .i64 r34.2.e_] 104, own eStr 9 p26 c27 l25] ++ F0) rfl (nw_ow ?_)
      refine ow_vals 1 (j := 4) [0, 2, 7, 8, 11, 12] [(0, .pointer (some ⟨b0, 0, none⟩)), (2, .int .i64 x2), (7, .slice p26 l25.length c27), (8, .string r34.1), (11, .int .i64 r22.1), (12, .int .i64 x29)] rfl (by kernel_rfl) ?_
      refine ow_end rfl ?_
      refine ew_then ?_
      refine cw_seq ?_
      refine cw_seq ?_
      refine cw_region ?_
      refine ow_vals 1 (j := 1) [0, 2, 7, 8, 11, 12, 17] [(0, .pointer (some ⟨b0, 0, none⟩)), (2, .int .i64 x2), (7, .slice p26 l25.length c27), (8, .string r34.1), (11, .int .i64 r22.1), (12, .int .i64 x29), (17, .pointer (some ⟨b0, 0, none⟩))] rfl (by kernel_rfl) ?_
      obtain ⟨r36, h37, hF⟩ := bind_some hF
      refine ow_pw rfl (pw_call (F := [own eStr 9 p26 c27 l25] ++ F0) rfl rfl rfl rfl rfl rfl rfl (by kernel_rfl) (perm_of_pulls [0, 0] rfl) (c_octet_Reader_Err _ r34.2 b0 r36 h37) ?_)
      rintro _ _ ⟨rfl, rfl⟩
      refine nw_H (H' := [imm I, pt b0 #[.string r34.2.s_, .int .i64 r34.2.at_, .int .i64 r34.2.e_] 104, own eStr 9 p26 c27 l25] ++ F0) rfl (nw_ow ?_)
      refine ow_vals 1 (j := 3) [0, 2, 7, 8, 11, 12, 19] [(0, .pointer (some ⟨b0, 0, none⟩)), (2, .int .i64 x2), (7, .slice p26 l25.length c27), (8, .string r34.1), (11, .int .i64 r22.1), (12, .int .i64 x29), (19, .bool (r36 != 0))] rfl (by kernel_rfl) ?_
      refine ow_end rfl ?_
      refine ew_then ?_
      rcases if_some hF with ⟨h38, hF⟩ | ⟨h38, hF⟩
      · refine cw_cond_t rfl rfl h38 ?_
        refine cw_seq ?_
        refine cw_region ?_
        refine ow_vals 1 (j := 1) [6] [(6, .slice none 0 0)] rfl (by kernel_rfl) ?_
        refine ow_end rfl ?_
        refine ew_then ?_
        refine cw_ret ?_
        refine ew_then_ret ?_
        refine ew_blk_ret ?_
        refine ew_then_ret ?_
        refine ew_then_ret ?_
        refine ew_blk_ret ?_
        refine ew_then_ret ?_
        have hR := Option.some.inj hF
        subst hR
        have hR := hL24
        try dsimp only at hR
        subst hR
        have hR := hK21
        try dsimp only [Thru] at hR
        subst hR
        exact fin1 (H1 := [imm I, pt b0 #[.string r34.2.s_, .int .i64 r34.2.at_, .int .i64 r34.2.e_] 104, own eStr 9 none 0 ([] : List ByteArray)]) (fun w hs => sat_to [3, 1, 1, 0] 1 rfl (sat_own_nil eStr 9 hs)) rfl (rr_tmp rfl) ⟨none, 0, rfl, rfl⟩
      refine cw_cond_f rfl rfl h38 ?_
      refine cw_skip ?_
      refine ew_then ?_
      refine cw_region ?_
      refine ow_vals 2 (j := 2) [0, 2, 11, 12, 20, 21] [(0, .pointer (some ⟨b0, 0, none⟩)), (2, .int .i64 x2), (11, .int .i64 r22.1), (12, .int .i64 x29), (20, .slice p26 l25.length c27), (21, .string r34.1)] rfl (by kernel_rfl) ?_
      refine ow_pw rfl (pw_buildSlice (E := 9) eStr ([r34.1] : List ByteArray) rfl rfl rfl rfl rfl (by kernel_rfl) rfl (by kernel_rfl) rfl (by decide) rfl fun p39 => nw_ow ?_)
      obtain ⟨h41, hF⟩ := chk_some hF
      refine ow_pw rfl (pw_append 3 (l' := ([r34.1] : List ByteArray)) rfl rfl rfl rfl rfl rfl (by kernel_rfl) (by kernel_rfl) rfl rfl rfl (src_own (E' := 9) 0 rfl (by kernel_rfl) rfl) rfl h41.1 h41.2 fun p42 c43 => nw_H (H' := [own eStr 9 p39 1 ([r34.1] : List ByteArray), imm I, pt b0 #[.string r34.2.s_, .int .i64 r34.2.at_, .int .i64 r34.2.e_] 104, own eStr 9 p42 c43 (l25 ++ ([r34.1] : List ByteArray))] ++ F0) rfl (nw_ow ?_))
      refine ow_vals 1 (j := 5) [0, 2, 7, 11, 12] [(0, .pointer (some ⟨b0, 0, none⟩)), (2, .int .i64 x2), (7, .slice p42 (l25 ++ ([r34.1] : List ByteArray)).length c43), (11, .int .i64 r22.1), (12, .int .i64 x29)] rfl (by kernel_rfl) ?_
      refine ow_end rfl ?_
      refine ew_blk ?_
      refine ew_then ?_
      refine cw_region ?_
      refine ow_vals 2 (j := 2) [0, 2, 7, 11, 12] [(0, .pointer (some ⟨b0, 0, none⟩)), (2, .int .i64 x2), (7, .slice p42 (l25 ++ ([r34.1] : List ByteArray)).length c43), (11, .int .i64 r22.1), (12, .int .i64 (IntKind.i64.wrap (x29 + 1)))] rfl (by kernel_rfl) ?_
      refine ow_end rfl ?_
      have hR := Option.some.inj hF
      subst hR
      have hR := hL24
      try dsimp only at hR
      exact fun a w hf hs => ⟨k, Nat.lt_succ_self k, l25 ++ ([r34.1] : List ByteArray), IntKind.i64.wrap (x29 + 1), r34.2.s_, r34.2.at_, r34.2.e_, p42, c43, hR, hf.keep [0, 2, 7, 11, 12], sat_to [0, 0, 0, 0] 1 rfl hs⟩
    refine cw_cond_f rfl rfl h33 ?_
    refine cw_exit ?_
    refine ew_then_exit ?_
    refine ew_then_exit ?_
    refine ew_blk_exit ?_
    have hR := Option.some.inj hF
    subst hR
    have hR := hL24
    try dsimp only at hR
    exact fun a w hf hs => ⟨l25, s30, x31, x32, p26, c27, hR, hf.keep [7], sat_to [0, 0, 0] 0 rfl hs⟩
  rintro a w ⟨l44, s48, x49, x50, p45, c46, hv, hf, hs⟩
  subst hv
  replace hF := hK21
  clear hK21
  try dsimp only [Thru] at hF
  revert a w
  show CW _ _ _ 26 [(7, .slice p45 l44.length c46)] (SAT w0 ([imm I, pt b0 #[.string s48, .int .i64 x49, .int .i64 x50] 104, own eStr 9 p45 c46 l44] ++ F0))
  unfold F.octet_Reader_Texts.r2 at hF
  refine cw_seq ?_
  refine cw_region ?_
  refine ow_vals 2 (j := 2) [6] [(6, .slice p45 l44.length c46)] rfl (by kernel_rfl) ?_
  refine ow_end rfl ?_
  refine ew_then ?_
  refine cw_ret ?_
  have hR := Option.some.inj hF
  subst hR
  exact fin1 (H1 := [imm I, pt b0 #[.string ((⟨s48, x49, x50⟩ : octet_Reader).s_), .int .i64 ((⟨s48, x49, x50⟩ : octet_Reader).at_), .int .i64 ((⟨s48, x49, x50⟩ : octet_Reader).e_)] 104, own eStr 9 p45 c46 l44]) (fun w hs => sat_to [0, 0, 0] 0 rfl hs) rfl (rr_tmp rfl) ⟨p45, c46, rfl, rfl⟩


def F.octet_Reader_Left (m0 : octet_Reader) : Option Int :=
  Option.bind (F.octet_Reader_Err m0) (fun (r21 : Int) => if r21 != 0 then (some (0)) else (some ((IntKind.i64.wrap ((m0.s_.size : Int) - m0.at_)))))
set_option maxRecDepth 100000 in
set_option maxHeartbeats 4000000 in
theorem c_octet_Reader_Left (I : Hl) (m0 : octet_Reader) (b0 : Nat) (res : Int) (hF : F.octet_Reader_Left m0 = some res) : Tr Try.prog 73 [.pointer (some ⟨b0, 0, none⟩)] [imm I, pt b0 #[.string m0.s_, .int .i64 m0.at_, .int .i64 m0.e_] 104] (fun r H' => r = .int .i64 res ∧ H' = [imm I, pt b0 #[.string m0.s_, .int .i64 m0.at_, .int .i64 m0.e_] 104]) := by
  unfold F.octet_Reader_Left at hF
  refine tr_of_cw (fn := Try.f73) Try.func73 rfl (Nat.le_of_ble_eq_true rfl) 16 rfl fun F0 w0 => ?_
  refine cw_keep [0] (L' := [(0, .pointer (some ⟨b0, 0, none⟩))]) rfl ?_
  refine cw_state (S' := SAT w0 ([imm I, pt b0 #[.string m0.s_, .int .i64 m0.at_, .int .i64 m0.e_] 104] ++ F0)) (fun w hs => hs) ?_
  refine cw_seq ?_
  refine cw_region ?_
  refine ow_vals 1 (j := 1) [0] [(0, .pointer (some ⟨b0, 0, none⟩))] rfl (by kernel_rfl) ?_
  refine ow_end rfl ?_
  refine ew_then ?_
  refine cw_seq ?_
  refine cw_seq ?_
  refine cw_region ?_
  refine ow_vals 1 (j := 1) [0, 3] [(0, .pointer (some ⟨b0, 0, none⟩)), (3, .pointer (some ⟨b0, 0, none⟩))] rfl (by kernel_rfl) ?_
  obtain ⟨r21, h22, hF⟩ := bind_some hF
  refine ow_pw rfl (pw_call (F := [] ++ F0) rfl rfl rfl rfl rfl rfl rfl (by kernel_rfl) (perm_of_pulls [0, 0] rfl) (c_octet_Reader_Err _ m0 b0 r21 h22) ?_)
  rintro _ _ ⟨rfl, rfl⟩
  refine nw_H (H' := [imm I, pt b0 #[.string m0.s_, .int .i64 m0.at_, .int .i64 m0.e_] 104] ++ F0) rfl (nw_ow ?_)
  refine ow_vals 1 (j := 3) [0, 5] [(0, .pointer (some ⟨b0, 0, none⟩)), (5, .bool (r21 != 0))] rfl (by kernel_rfl) ?_
  refine ow_end rfl ?_
  refine ew_then ?_
  rcases if_some hF with ⟨h23, hF⟩ | ⟨h23, hF⟩
  · refine cw_cond_t rfl rfl h23 ?_
    refine cw_seq ?_
    refine cw_region ?_
    refine ow_vals 1 (j := 1) [2] [(2, .int .i64 0)] rfl (by kernel_rfl) ?_
    refine ow_end rfl ?_
    refine ew_then ?_
    refine cw_ret ?_
    refine ew_then_ret ?_
    have hR := Option.some.inj hF
    subst hR
    exact fin1 (H1 := [imm I, pt b0 #[.string m0.s_, .int .i64 m0.at_, .int .i64 m0.e_] 104]) (fun w hs => sat_to [0, 0] 0 rfl hs) rfl (rr_tmp rfl) ⟨rfl, rfl⟩
  refine cw_cond_f rfl rfl h23 ?_
  refine cw_skip ?_
  refine ew_then ?_
  refine cw_seq ?_
  refine cw_open 11 (SAT w0 ([imm I, pt b0 #[.string m0.s_, .int .i64 m0.at_, .int .i64 m0.e_] 104])) (by kernel_rfl) (f := 11) rfl (fun w hs => sat_drew hs) ?_
  refine aw_vals [0, 1, 2, 5, 6, 7] (f' := 5) (m' := 231) [8, 13] [(8, .pointer (some ⟨b0, 0, none⟩)), (13, .pointer (some ⟨b0, 1, none⟩))] (fun _ _ _ _ _ h => calm_fin (P := Try.prog) (fn := Try.f73) _ _ _ _ _ h) (fun w hs => sat_pulls [0, 0] (G := [] ++ F0) rfl hs) rfl (by kernel_rfl) ?_
  refine aw_quiet 3 (m' := 239) (v := .string m0.s_) 0 [] rfl rfl rfl rfl (by kernel_rfl) (by kernel_rfl) (by kernel_rfl) (fun _ _ _ _ _ h => calm_fin (P := Try.prog) (fn := Try.f73) _ _ _ _ _ h) (fun w hs => sat_pulls [0, 0] (G := [] ++ F0) rfl hs) (q_load 1 rfl rfl rfl (by kernel_rfl)) ?_
  refine aw_vals [4] (f' := 3) (m' := 255) [10, 13] [(10, .int .i64 (m0.s_.size : Int)), (13, .pointer (some ⟨b0, 1, none⟩))] (fun _ _ _ _ _ h => calm_fin (P := Try.prog) (fn := Try.f73) _ _ _ _ _ h) (fun w hs => sat_pulls [0, 0] (G := [] ++ F0) rfl hs) rfl (by kernel_rfl) ?_
  refine aw_quiet 8 (m' := 511) (v := .int .i64 m0.at_) 0 [] rfl rfl rfl rfl (by kernel_rfl) (by kernel_rfl) (by kernel_rfl) (fun _ _ _ _ _ h => calm_fin (P := Try.prog) (fn := Try.f73) _ _ _ _ _ h) (fun w hs => sat_pulls [0, 0] (G := [] ++ F0) rfl hs) (q_load 1 rfl rfl rfl (by kernel_rfl)) ?_
  refine aw_vals [9, 10] (f' := 0) (m' := 2047) [2] [(2, .int .i64 (IntKind.i64.wrap ((m0.s_.size : Int) - m0.at_)))] (fun _ _ _ _ _ h => calm_fin (P := Try.prog) (fn := Try.f73) _ _ _ _ _ h) (fun w hs => sat_pulls [0, 0] (G := [] ++ F0) rfl hs) rfl (by kernel_rfl) ?_
  refine aw_keep [2] (L' := [(2, .int .i64 (IntKind.i64.wrap ((m0.s_.size : Int) - m0.at_)))]) rfl ?_
  refine aw_end (by kernel_rfl) ?_
  refine ew_then ?_
  refine cw_ret ?_
  have hR := Option.some.inj hF
  subst hR
  exact fin1 (H1 := [imm I, pt b0 #[.string m0.s_, .int .i64 m0.at_, .int .i64 m0.e_] 104]) (fun w hs => sat_to [0, 0] 0 rfl hs) rfl (rr_tmp rfl) ⟨rfl, rfl⟩


def F.octet_Reader_End (m0 : octet_Reader) : Option (Int × octet_Reader) :=
  Option.bind (F.octet_Reader_Left m0) (fun (r21 : Int) => if decide (r21 > 0) then (Option.bind (F.octet_Reader_Fail 4 m0) (fun (r24 : octet_Reader) => Option.bind (F.octet_Reader_Err r24) (fun (r26 : Int) => some ((r26, r24))))) else (Option.bind (F.octet_Reader_Err m0) (fun (r28 : Int) => some ((r28, m0)))))
set_option maxRecDepth 100000 in
set_option maxHeartbeats 4000000 in
theorem c_octet_Reader_End (I : Hl) (m0 : octet_Reader) (b0 : Nat) (res : Int × octet_Reader) (hF : F.octet_Reader_End m0 = some res) : Tr Try.prog 56 [.pointer (some ⟨b0, 0, none⟩)] [imm I, pt b0 #[.string m0.s_, .int .i64 m0.at_, .int .i64 m0.e_] 104] (fun r H' => r = .int .i64 res.1 ∧ H' = [imm I, pt b0 #[.string res.2.s_, .int .i64 res.2.at_, .int .i64 res.2.e_] 104]) := by
  unfold F.octet_Reader_End at hF
  refine tr_of_cw (fn := Try.f56) Try.func56 rfl (Nat.le_of_ble_eq_true rfl) 10 rfl fun F0 w0 => ?_
  refine cw_keep [0] (L' := [(0, .pointer (some ⟨b0, 0, none⟩))]) rfl ?_
  refine cw_state (S' := SAT w0 ([imm I, pt b0 #[.string m0.s_, .int .i64 m0.at_, .int .i64 m0.e_] 104] ++ F0)) (fun w hs => hs) ?_
  refine cw_seq ?_
  refine cw_region ?_
  refine ow_vals 1 (j := 1) [0] [(0, .pointer (some ⟨b0, 0, none⟩))] rfl (by kernel_rfl) ?_
  refine ow_end rfl ?_
  refine ew_then ?_
  refine cw_seq ?_
  refine cw_seq ?_
  refine cw_region ?_
  refine ow_vals 1 (j := 1) [0, 3] [(0, .pointer (some ⟨b0, 0, none⟩)), (3, .pointer (some ⟨b0, 0, none⟩))] rfl (by kernel_rfl) ?_
  obtain ⟨r21, h22, hF⟩ := bind_some hF
  refine ow_pw rfl (pw_call (F := [] ++ F0) rfl rfl rfl rfl rfl rfl rfl (by kernel_rfl) (perm_of_pulls [0, 0] rfl) (c_octet_Reader_Left _ m0 b0 r21 h22) ?_)
  rintro _ _ ⟨rfl, rfl⟩
  refine nw_H (H' := [imm I, pt b0 #[.string m0.s_, .int .i64 m0.at_, .int .i64 m0.e_] 104] ++ F0) rfl (nw_ow ?_)
  refine ow_vals 1 (j := 3) [0, 5] [(0, .pointer (some ⟨b0, 0, none⟩)), (5, .bool (decide (r21 > 0)))] rfl (by kernel_rfl) ?_
  refine ow_end rfl ?_
  refine ew_then ?_
  rcases if_some hF with ⟨h23, hF⟩ | ⟨h23, hF⟩
  · refine cw_cond_t rfl rfl h23 ?_
    refine cw_region ?_
    refine ow_vals 1 (j := 1) [0, 6] [(0, .pointer (some ⟨b0, 0, none⟩)), (6, .pointer (some ⟨b0, 0, none⟩))] rfl (by kernel_rfl) ?_
    obtain ⟨r24, h25, hF⟩ := bind_some hF
    refine ow_pw rfl (pw_call (F := [] ++ F0) rfl rfl rfl rfl rfl rfl rfl (by kernel_rfl) (perm_of_pulls [0, 0] rfl) (c_octet_Reader_Fail _ 4 m0 b0 r24 h25) ?_)
    rintro _ _ ⟨rfl, rfl⟩
    refine nw_H (H' := [imm I, pt b0 #[.string r24.s_, .int .i64 r24.at_, .int .i64 r24.e_] 104] ++ F0) rfl (nw_ow ?_)
    refine ow_end rfl ?_
    refine ew_then ?_
    refine cw_seq ?_
    refine cw_region ?_
    refine ow_vals 1 (j := 1) [8] [(8, .pointer (some ⟨b0, 0, none⟩))] rfl (by kernel_rfl) ?_
    obtain ⟨r26, h27, hF⟩ := bind_some hF
    refine ow_pw rfl (pw_call (F := [] ++ F0) rfl rfl rfl rfl rfl rfl rfl (by kernel_rfl) (perm_of_pulls [0, 0] rfl) (c_octet_Reader_Err _ r24 b0 r26 h27) ?_)
    rintro _ _ ⟨rfl, rfl⟩
    refine nw_H (H' := [imm I, pt b0 #[.string r24.s_, .int .i64 r24.at_, .int .i64 r24.e_] 104] ++ F0) rfl (nw_ow ?_)
    refine ow_vals 1 (j := 3) [2] [(2, .int .i64 r26)] rfl (by kernel_rfl) ?_
    refine ow_end rfl ?_
    refine ew_then ?_
    refine cw_ret ?_
    have hR := Option.some.inj hF
    subst hR
    exact fin1 (H1 := [imm I, pt b0 #[.string r24.s_, .int .i64 r24.at_, .int .i64 r24.e_] 104]) (fun w hs => sat_to [0, 0] 0 rfl hs) rfl (rr_tmp rfl) ⟨rfl, rfl⟩
  refine cw_cond_f rfl rfl h23 ?_
  refine cw_skip ?_
  refine ew_then ?_
  refine cw_seq ?_
  refine cw_region ?_
  refine ow_vals 1 (j := 1) [8] [(8, .pointer (some ⟨b0, 0, none⟩))] rfl (by kernel_rfl) ?_
  obtain ⟨r28, h29, hF⟩ := bind_some hF
  refine ow_pw rfl (pw_call (F := [] ++ F0) rfl rfl rfl rfl rfl rfl rfl (by kernel_rfl) (perm_of_pulls [0, 0] rfl) (c_octet_Reader_Err _ m0 b0 r28 h29) ?_)
  rintro _ _ ⟨rfl, rfl⟩
  refine nw_H (H' := [imm I, pt b0 #[.string m0.s_, .int .i64 m0.at_, .int .i64 m0.e_] 104] ++ F0) rfl (nw_ow ?_)
  refine ow_vals 1 (j := 3) [2] [(2, .int .i64 r28)] rfl (by kernel_rfl) ?_
  refine ow_end rfl ?_
  refine ew_then ?_
  refine cw_ret ?_
  have hR := Option.some.inj hF
  subst hR
  exact fin1 (H1 := [imm I, pt b0 #[.string m0.s_, .int .i64 m0.at_, .int .i64 m0.e_] 104]) (fun w hs => sat_to [0, 0] 0 rfl hs) rfl (rr_tmp rfl) ⟨rfl, rfl⟩


def F.absent_Read.l1 (r31 : Int × octet_Reader) (x36 : Int) (s37 : ByteArray) (x38 : Int) (x39 : Int) (l40 : List absent_Side) : Option ((Int × ByteArray × Int × Int × (List absent_Side)) ⊕ (ByteArray × Int × Int × (List absent_Side))) :=
  if decide (x36 < r31.1) then (Option.bind (F.octet_Reader_Num 65536 (⟨s37, x38, x39⟩ : octet_Reader)) (fun (r45 : Int × octet_Reader) => Option.bind (F.octet_Reader_Text 24 r45.2) (fun (r47 : ByteArray × octet_Reader) => Option.bind (F.octet_Reader_Texts 16 32 r47.2) (fun (r51 : (List ByteArray) × octet_Reader) => chk (room (l40.length + ([(⟨r45.1, r47.1, r51.1⟩ : absent_Side)] : List absent_Side).length) 48) (some (.inl (IntKind.i64.wrap (x36 + 1), r51.2.s_, r51.2.at_, r51.2.e_, l40 ++ ([(⟨r45.1, r47.1, r51.1⟩ : absent_Side)] : List absent_Side)))))))) else (some (.inr ((s37, x38, x39, l40))))
def F.absent_Read.r2 (r26 : Int × octet_Reader) (s73 : ByteArray) (x74 : Int) (x75 : Int) (l76 : List absent_Side) : Option (absent_Proof × Int) :=
  Option.bind (F.octet_Reader_End (⟨s73, x74, x75⟩ : octet_Reader)) (fun (r80 : Int × octet_Reader) => if r80.1 != 0 then (some (((⟨0, ([] : List absent_Side)⟩ : absent_Proof), r80.1))) else (Option.bind (F.absent_Bytes (⟨r26.1, l76⟩ : absent_Proof)) (fun (r91 : ByteArray × Bool) => if !r91.2 then (some (((⟨0, ([] : List absent_Side)⟩ : absent_Proof), 4))) else (some (((⟨r26.1, l76⟩ : absent_Proof), 0))))))
def F.absent_Read (x0 : ByteArray) : Option (absent_Proof × Int) :=
  Option.bind (F.octet_Read x0) (fun (r23 : octet_Reader) => Option.bind (F.octet_Reader_Num 65536 r23) (fun (r26 : Int × octet_Reader) => Option.bind (Option.bind (F.octet_Reader_Num 2 r26.2) (fun (r31 : Int × octet_Reader) => iter (fun x => F.absent_Read.l1 r31 x.1 x.2.1 x.2.2.1 x.2.2.2.1 x.2.2.2.2) FUEL (0, r31.2.s_, r31.2.at_, r31.2.e_, []))) (fun x => F.absent_Read.r2 r26 x.1 x.2.1 x.2.2.1 x.2.2.2)))
set_option maxRecDepth 100000 in
set_option maxHeartbeats 4000000 in
theorem c_absent_Read (I : Hl) (x0 : ByteArray) (res : absent_Proof × Int) (hF : F.absent_Read x0 = some res) : Tr Try.prog 28 [.string x0] [imm I] (fun r H' => ∃ (J : Hl), ∃ (pq1 : Option Addr), ∃ (cq2 : Nat), r = .tuple #[.agg #[.int .i64 res.1.Size, .slice pq1 res.1.Sides.length cq2], .int .i64 res.2] ∧ H' = [imm J] ∧ Hl.sub I J ∧ roN J n_absent_Side pq1 cq2 res.1.Sides) := by
  unfold F.absent_Read at hF
  refine tr_of_cw (fn := Try.f28) Try.func28 rfl (Nat.le_of_ble_eq_true rfl) 49 rfl fun F0 w0 => ?_
  refine cw_keep [0] (L' := [(0, .string x0)]) rfl ?_
  refine cw_state (S' := SAT w0 ([imm I] ++ F0)) (fun w hs => hs) ?_
  refine cw_seq ?_
  refine cw_region ?_
  refine ow_pw rfl (pw_alloc (cs := #[.int .i64 0, .slice none 0 0]) rfl rfl rfl rfl rfl (by kernel_rfl) fun b21 => nw_ow ?_)
  refine ow_vals 1 (j := 2) [0, 2] [(0, .string x0), (2, .pointer (some ⟨b21, 0, none⟩))] rfl (by kernel_rfl) ?_
  refine ow_end rfl ?_
  refine ew_then ?_
  refine cw_seq ?_
  refine cw_region ?_
  refine ow_vals 1 (j := 1) [2, 10] [(2, .pointer (some ⟨b21, 0, none⟩)), (10, .string x0)] rfl (by kernel_rfl) ?_
  obtain ⟨r23, h24, hF⟩ := bind_some hF
  refine ow_pw rfl (pw_call (F := [pt b21 #[.int .i64 0, .slice none 0 0] 35] ++ F0) rfl rfl rfl rfl rfl rfl rfl (by kernel_rfl) (perm_of_pulls [1] rfl) (c_octet_Read _ x0 r23 h24) ?_)
  rintro _ _ ⟨r23_b1, rfl, rfl⟩
  refine nw_H (H' := [imm I, pt r23_b1 #[.string r23.s_, .int .i64 r23.at_, .int .i64 r23.e_] 104, pt b21 #[.int .i64 0, .slice none 0 0] 35] ++ F0) rfl (nw_ow ?_)
  refine ow_vals 1 (j := 3) [2, 4] [(2, .pointer (some ⟨b21, 0, none⟩)), (4, .pointer (some ⟨r23_b1, 0, none⟩))] rfl (by kernel_rfl) ?_
  refine ow_end rfl ?_
  refine ew_then ?_
  refine cw_seq ?_
  refine cw_region ?_
  refine ow_vals 1 (j := 1) [2, 4, 12] [(2, .pointer (some ⟨b21, 0, none⟩)), (4, .pointer (some ⟨r23_b1, 0, none⟩)), (12, .pointer (some ⟨r23_b1, 0, none⟩))] rfl (by kernel_rfl) ?_
  obtain ⟨r26, h27, hF⟩ := bind_some hF
  refine ow_pw rfl (pw_call (F := [pt b21 #[.int .i64 0, .slice none 0 0] 35] ++ F0) rfl rfl rfl rfl rfl rfl rfl (by kernel_rfl) (perm_of_pulls [0, 0] rfl) (c_octet_Reader_Num _ 65536 r23 r23_b1 r26 h27) ?_)
  rintro _ _ ⟨rfl, rfl⟩
  refine nw_H (H' := [imm I, pt r23_b1 #[.string r26.2.s_, .int .i64 r26.2.at_, .int .i64 r26.2.e_] 104, pt b21 #[.int .i64 0, .slice none 0 0] 35] ++ F0) rfl (nw_ow ?_)
  refine ow_vals 1 (j := 3) [2, 4, 14] [(2, .pointer (some ⟨b21, 0, none⟩)), (4, .pointer (some ⟨r23_b1, 0, none⟩)), (14, .agg #[.int .i64 r26.1, .slice none 0 0])] rfl (by kernel_rfl) ?_
  refine ow_pw rfl (pw_alloc (cs := #[.int .i64 0, .slice none 0 0]) rfl rfl rfl rfl rfl (by kernel_rfl) fun b28 => nw_ow ?_)
  refine ow_pw rfl (pw_store 0 #[.int .i64 r26.1, .slice none 0 0] rfl rfl rfl rfl rfl rfl rfl (by kernel_rfl) (nw_H (H' := [pt b28 #[.int .i64 r26.1, .slice none 0 0] 35, imm I, pt r23_b1 #[.string r26.2.s_, .int .i64 r26.2.at_, .int .i64 r26.2.e_] 104, pt b21 #[.int .i64 0, .slice none 0 0] 35] ++ F0) rfl (nw_ow ?_)))
  refine ow_end rfl ?_
  refine ew_then ?_
  obtain ⟨v30, hF, hK30⟩ := bind_some hF
  refine cw_mid (fun a w => ∃ (s73 : ByteArray), ∃ (x74 : Int), ∃ (x75 : Int), ∃ (l76 : List absent_Side), ∃ (J71 : Hl), ∃ (p77 : Option Addr), ∃ (c78 : Nat), (s73, x74, x75, l76) = v30 ∧ Hl.sub I J71 ∧ Fr 49 [(2, .pointer (some ⟨b21, 0, none⟩)), (4, .pointer (some ⟨r23_b1, 0, none⟩)), (5, .pointer (some ⟨b28, 0, none⟩))] a ∧ SAT w0 ([imm J71, pt r23_b1 #[.string s73, .int .i64 x74, .int .i64 x75] 104, pt b28 #[.int .i64 r26.1, .slice p77 l76.length c78] 35, pt b21 #[.int .i64 0, .slice none 0 0] 35, ownN J71 n_absent_Side 43 p77 c78 l76] ++ F0) w) ?_ ?_
  · refine cw_seq ?_
    refine cw_region ?_
    refine ow_vals 1 (j := 1) [2, 4, 5, 15] [(2, .pointer (some ⟨b21, 0, none⟩)), (4, .pointer (some ⟨r23_b1, 0, none⟩)), (5, .pointer (some ⟨b28, 0, none⟩)), (15, .pointer (some ⟨r23_b1, 0, none⟩))] rfl (by kernel_rfl) ?_
    obtain ⟨r31, h32, hF⟩ := bind_some hF
    refine ow_pw rfl (pw_call (F := [pt b28 #[.int .i64 r26.1, .slice none 0 0] 35, pt b21 #[.int .i64 0, .slice none 0 0] 35] ++ F0) rfl rfl rfl rfl rfl rfl rfl (by kernel_rfl) (perm_of_pulls [1, 1] rfl) (c_octet_Reader_Num _ 2 r26.2 r23_b1 r31 h32) ?_)
    rintro _ _ ⟨rfl, rfl⟩
    refine nw_H (H' := [imm I, pt r23_b1 #[.string r31.2.s_, .int .i64 r31.2.at_, .int .i64 r31.2.e_] 104, pt b28 #[.int .i64 r26.1, .slice none 0 0] 35, pt b21 #[.int .i64 0, .slice none 0 0] 35] ++ F0) rfl (nw_ow ?_)
    refine ow_vals 1 (j := 3) [2, 4, 5, 16, 17] [(2, .pointer (some ⟨b21, 0, none⟩)), (4, .pointer (some ⟨r23_b1, 0, none⟩)), (5, .pointer (some ⟨b28, 0, none⟩)), (16, .int .i64 r31.1), (17, .int .i64 0)] rfl (by kernel_rfl) ?_
    refine ow_end rfl ?_
    refine ew_then ?_
    refine cw_block ?_
    refine fun a w hf hs => wp_rounds (fun k a w => ∃ (x36 : Int), ∃ (s37 : ByteArray), ∃ (x38 : Int), ∃ (x39 : Int), ∃ (l40 : List absent_Side), ∃ (J34 : Hl), ∃ (p41 : Option Addr), ∃ (c42 : Nat), iter (fun x => F.absent_Read.l1 r31 x.1 x.2.1 x.2.2.1 x.2.2.2.1 x.2.2.2.2) k (x36, s37, x38, x39, l40) = some v30 ∧ Hl.sub I J34 ∧ Fr 49 [(2, .pointer (some ⟨b21, 0, none⟩)), (4, .pointer (some ⟨r23_b1, 0, none⟩)), (5, .pointer (some ⟨b28, 0, none⟩)), (16, .int .i64 r31.1), (17, .int .i64 x36)] a ∧ SAT w0 ([imm J34, pt r23_b1 #[.string s37, .int .i64 x38, .int .i64 x39] 104, pt b28 #[.int .i64 r26.1, .slice p41 l40.length c42] 35, pt b21 #[.int .i64 0, .slice none 0 0] 35, ownN J34 n_absent_Side 43 p41 c42 l40] ++ F0) w) ?_ FUEL a w ⟨0, r31.2.s_, r31.2.at_, r31.2.e_, [], I, none, 0, hF, Hl.sub_refl _, hf.keep [2, 4, 5, 16, 17], sat_to [1, 1, 1, 1, 0] 0 rfl (sat_ownN_nil I n_absent_Side 43 hs)⟩
    clear hf hs
    clear a w hF
    rintro k a w ⟨x36, s37, x38, x39, l40, J34, p41, c42, hF2, h35, hf, hs⟩
    obtain ⟨k, r33, rfl, hF, hL33⟩ := iter_some hF2
    clear hF2
    revert a w
    show CW _ _ _ 49 [(2, .pointer (some ⟨b21, 0, none⟩)), (4, .pointer (some ⟨r23_b1, 0, none⟩)), (5, .pointer (some ⟨b28, 0, none⟩)), (16, .int .i64 r31.1), (17, .int .i64 x36)] (SAT w0 ([imm J34, pt r23_b1 #[.string s37, .int .i64 x38, .int .i64 x39] 104, pt b28 #[.int .i64 r26.1, .slice p41 l40.length c42] 35, pt b21 #[.int .i64 0, .slice none 0 0] 35, ownN J34 n_absent_Side 43 p41 c42 l40] ++ F0))
    try dsimp only at hF
    unfold F.absent_Read.l1 at hF
    refine cw_seq ?_
    refine cw_region ?_
    refine ow_vals 1 (j := 1) [2, 4, 5, 16, 17, 18] [(2, .pointer (some ⟨b21, 0, none⟩)), (4, .pointer (some ⟨r23_b1, 0, none⟩)), (5, .pointer (some ⟨b28, 0, none⟩)), (16, .int .i64 r31.1), (17, .int .i64 x36), (18, .bool (decide (x36 < r31.1)))] rfl (by kernel_rfl) ?_
    refine ow_end rfl ?_
    refine ew_then ?_
    refine cw_seq ?_
    rcases if_some hF with ⟨h44, hF⟩ | ⟨h44, hF⟩
    · refine cw_cond_t rfl rfl h44 ?_
      refine cw_skip ?_
      refine ew_then ?_
      refine cw_seq ?_
      refine cw_block ?_
      refine cw_seq ?_
      refine cw_region ?_
      refine ow_vals 1 (j := 1) [2, 4, 5, 16, 17, 19] [(2, .pointer (some ⟨b21, 0, none⟩)), (4, .pointer (some ⟨r23_b1, 0, none⟩)), (5, .pointer (some ⟨b28, 0, none⟩)), (16, .int .i64 r31.1), (17, .int .i64 x36), (19, .pointer (some ⟨r23_b1, 0, none⟩))] rfl (by kernel_rfl) ?_
      obtain ⟨r45, h46, hF⟩ := bind_some hF
      refine ow_pw rfl (pw_call (F := [pt b28 #[.int .i64 r26.1, .slice p41 l40.length c42] 35, pt b21 #[.int .i64 0, .slice none 0 0] 35, ownN J34 n_absent_Side 43 p41 c42 l40] ++ F0) rfl rfl rfl rfl rfl rfl rfl (by kernel_rfl) (perm_of_pulls [0, 0] rfl) (c_octet_Reader_Num _ 65536 (⟨s37, x38, x39⟩ : octet_Reader) r23_b1 r45 h46) ?_)
      rintro _ _ ⟨rfl, rfl⟩
      refine nw_H (H' := [imm J34, pt r23_b1 #[.string r45.2.s_, .int .i64 r45.2.at_, .int .i64 r45.2.e_] 104, pt b28 #[.int .i64 r26.1, .slice p41 l40.length c42] 35, pt b21 #[.int .i64 0, .slice none 0 0] 35, ownN J34 n_absent_Side 43 p41 c42 l40] ++ F0) rfl (nw_ow ?_)
      refine ow_vals 1 (j := 3) [2, 4, 5, 16, 17, 20, 21] [(2, .pointer (some ⟨b21, 0, none⟩)), (4, .pointer (some ⟨r23_b1, 0, none⟩)), (5, .pointer (some ⟨b28, 0, none⟩)), (16, .int .i64 r31.1), (17, .int .i64 x36), (20, .int .i64 r45.1), (21, .pointer (some ⟨r23_b1, 0, none⟩))] rfl (by kernel_rfl) ?_
      obtain ⟨r47, h48, hF⟩ := bind_some hF
      refine ow_pw rfl (pw_call (F := [pt b28 #[.int .i64 r26.1, .slice p41 l40.length c42] 35, pt b21 #[.int .i64 0, .slice none 0 0] 35, ownN J34 n_absent_Side 43 p41 c42 l40] ++ F0) rfl rfl rfl rfl rfl rfl rfl (by kernel_rfl) (perm_of_pulls [0, 0] rfl) (c_octet_Reader_Text _ 24 r45.2 r23_b1 r47 h48) ?_)
      rintro _ _ ⟨rfl, rfl⟩
      refine nw_H (H' := [imm J34, pt r23_b1 #[.string r47.2.s_, .int .i64 r47.2.at_, .int .i64 r47.2.e_] 104, pt b28 #[.int .i64 r26.1, .slice p41 l40.length c42] 35, pt b21 #[.int .i64 0, .slice none 0 0] 35, ownN J34 n_absent_Side 43 p41 c42 l40] ++ F0) rfl (nw_ow ?_)
      refine ow_vals 1 (j := 5) [2, 4, 5, 16, 17, 23] [(2, .pointer (some ⟨b21, 0, none⟩)), (4, .pointer (some ⟨r23_b1, 0, none⟩)), (5, .pointer (some ⟨b28, 0, none⟩)), (16, .int .i64 r31.1), (17, .int .i64 x36), (23, .agg #[.int .i64 r45.1, .string r47.1, .slice none 0 0])] rfl (by kernel_rfl) ?_
      refine ow_pw rfl (pw_alloc (cs := #[.int .i64 0, .string (ByteArray.mk #[]), .slice none 0 0]) rfl rfl rfl rfl rfl (by kernel_rfl) fun b49 => nw_ow ?_)
      refine ow_pw rfl (pw_store 0 #[.int .i64 r45.1, .string r47.1, .slice none 0 0] rfl rfl rfl rfl rfl rfl rfl (by kernel_rfl) (nw_H (H' := [pt b49 #[.int .i64 r45.1, .string r47.1, .slice none 0 0] 43, imm J34, pt r23_b1 #[.string r47.2.s_, .int .i64 r47.2.at_, .int .i64 r47.2.e_] 104, pt b28 #[.int .i64 r26.1, .slice p41 l40.length c42] 35, pt b21 #[.int .i64 0, .slice none 0 0] 35, ownN J34 n_absent_Side 43 p41 c42 l40] ++ F0) rfl (nw_ow ?_)))
      refine ow_end rfl ?_
      refine ew_then ?_
      refine cw_seq ?_
      refine cw_region ?_
      refine ow_vals 1 (j := 1) [2, 4, 5, 6, 16, 17, 24] [(2, .pointer (some ⟨b21, 0, none⟩)), (4, .pointer (some ⟨r23_b1, 0, none⟩)), (5, .pointer (some ⟨b28, 0, none⟩)), (6, .pointer (some ⟨b49, 0, none⟩)), (16, .int .i64 r31.1), (17, .int .i64 x36), (24, .pointer (some ⟨r23_b1, 0, none⟩))] rfl (by kernel_rfl) ?_
      obtain ⟨r51, h52, hF⟩ := bind_some hF
      refine ow_pw rfl (pw_call (F := [pt b49 #[.int .i64 r45.1, .string r47.1, .slice none 0 0] 43, pt b28 #[.int .i64 r26.1, .slice p41 l40.length c42] 35, pt b21 #[.int .i64 0, .slice none 0 0] 35, ownN J34 n_absent_Side 43 p41 c42 l40] ++ F0) rfl rfl rfl rfl rfl rfl rfl (by kernel_rfl) (perm_of_pulls [1, 1] rfl) (c_octet_Reader_Texts _ 16 32 r47.2 r23_b1 r51 h52) ?_)
      rintro _ _ ⟨r51_p1, r51_c2, rfl, rfl⟩
      refine nw_H (H' := [imm J34, pt r23_b1 #[.string r51.2.s_, .int .i64 r51.2.at_, .int .i64 r51.2.e_] 104, own eStr 9 r51_p1 r51_c2 r51.1, pt b49 #[.int .i64 r45.1, .string r47.1, .slice none 0 0] 43, pt b28 #[.int .i64 r26.1, .slice p41 l40.length c42] 35, pt b21 #[.int .i64 0, .slice none 0 0] 35, ownN J34 n_absent_Side 43 p41 c42 l40] ++ F0) rfl (nw_ow ?_)
      refine ow_vals 1 (j := 3) [2, 4, 5, 6, 16, 17, 25, 26] [(2, .pointer (some ⟨b21, 0, none⟩)), (4, .pointer (some ⟨r23_b1, 0, none⟩)), (5, .pointer (some ⟨b28, 0, none⟩)), (6, .pointer (some ⟨b49, 0, none⟩)), (16, .int .i64 r31.1), (17, .int .i64 x36), (25, .slice r51_p1 r51.1.length r51_c2), (26, .pointer (some ⟨b49, 2, none⟩))] rfl (by kernel_rfl) ?_
      refine ow_pw rfl (pw_store 3 #[.int .i64 r45.1, .string r47.1, .slice r51_p1 r51.1.length r51_c2] rfl rfl rfl rfl rfl rfl rfl (by kernel_rfl) (nw_H (H' := [imm J34, pt r23_b1 #[.string r51.2.s_, .int .i64 r51.2.at_, .int .i64 r51.2.e_] 104, own eStr 9 r51_p1 r51_c2 r51.1, pt b49 #[.int .i64 r45.1, .string r47.1, .slice r51_p1 r51.1.length r51_c2] 43, pt b28 #[.int .i64 r26.1, .slice p41 l40.length c42] 35, pt b21 #[.int .i64 0, .slice none 0 0] 35, ownN J34 n_absent_Side 43 p41 c42 l40] ++ F0) rfl (nw_ow ?_)))
      refine ow_end rfl ?_
      refine ew_then ?_
      refine cw_region ?_
      refine ow_vals 1 (j := 1) [2, 4, 5, 6, 16, 17, 27] [(2, .pointer (some ⟨b21, 0, none⟩)), (4, .pointer (some ⟨r23_b1, 0, none⟩)), (5, .pointer (some ⟨b28, 0, none⟩)), (6, .pointer (some ⟨b49, 0, none⟩)), (16, .int .i64 r31.1), (17, .int .i64 x36), (27, .pointer (some ⟨b28, 1, none⟩))] rfl (by kernel_rfl) ?_
      refine ow_pw rfl (pw_quiet (v := .slice p41 l40.length c42) rfl rfl rfl rfl (q_load 4 rfl rfl rfl (by kernel_rfl)) (nw_ow ?_))
      refine ow_pw rfl (pw_quiet (v := .agg #[.int .i64 r45.1, .string r47.1, .slice r51_p1 r51.1.length r51_c2]) rfl rfl rfl rfl (q_load 3 rfl rfl rfl (by kernel_rfl)) (nw_ow ?_))
      refine ow_freeze (fun w hs => sat_to [0, 1] 0 (F := [imm J34, own eStr 9 r51_p1 r51_c2 r51.1, pt r23_b1 #[.string r51.2.s_, .int .i64 r51.2.at_, .int .i64 r51.2.e_] 104, pt b49 #[.int .i64 r45.1, .string r47.1, .slice r51_p1 r51.1.length r51_c2] 43, pt b28 #[.int .i64 r26.1, .slice p41 l40.length c42] 35, pt b21 #[.int .i64 0, .slice none 0 0] 35, ownN J34 n_absent_Side 43 p41 c42 l40] ++ F0) rfl hs) fun J54 h55 h56 => ?_
      refine ow_H (H' := [imm J54, pt r23_b1 #[.string r51.2.s_, .int .i64 r51.2.at_, .int .i64 r51.2.e_] 104, pt b49 #[.int .i64 r45.1, .string r47.1, .slice r51_p1 r51.1.length r51_c2] 43, pt b28 #[.int .i64 r26.1, .slice p41 l40.length c42] 35, pt b21 #[.int .i64 0, .slice none 0 0] 35, ownN J34 n_absent_Side 43 p41 c42 l40] ++ F0) rfl ?_
      refine ow_pw rfl (pw_buildSlice (E := 43) n_absent_Side.e ([⟨r45.1, r47.1, ⟨r51_p1, r51_c2, r51.1⟩⟩] : List absent_Side_r) rfl rfl rfl rfl rfl (by kernel_rfl) rfl (by kernel_rfl) rfl (by decide) rfl fun p57 => nw_ow ?_)
      refine ow_state (S' := SAT w0 ([ownN J54 n_absent_Side 43 p57 1 ([(⟨r45.1, r47.1, r51.1⟩ : absent_Side)] : List absent_Side), imm J54, pt r23_b1 #[.string r51.2.s_, .int .i64 r51.2.at_, .int .i64 r51.2.e_] 104, pt b49 #[.int .i64 r45.1, .string r47.1, .slice r51_p1 r51.1.length r51_c2] 43, pt b28 #[.int .i64 r26.1, .slice p41 l40.length c42] 35, pt b21 #[.int .i64 0, .slice none 0 0] 35, ownN J34 n_absent_Side 43 p41 c42 l40] ++ F0)) (fun w hs => sat_closeN 0 rfl (show List.map n_absent_Side.log ([⟨r45.1, r47.1, ⟨r51_p1, r51_c2, r51.1⟩⟩] : List absent_Side_r) = ([(⟨r45.1, r47.1, r51.1⟩ : absent_Side)] : List absent_Side) from rfl) (show ∀ r ∈ ([⟨r45.1, r47.1, ⟨r51_p1, r51_c2, r51.1⟩⟩] : List absent_Side_r), n_absent_Side.ok J54 r from (List.forall_mem_cons.2 ⟨h56, (fun r hr => by cases hr)⟩)) hs) ?_
      obtain ⟨h59, hF⟩ := chk_some hF
      refine ow_openN 6 rfl fun R60 h61 h62 => ?_
      have h63 : R60.length = l40.length := by rw [← h61, List.length_map]
      refine ow_openN 0 rfl fun R64 h65 h66 => ?_
      have h67 : R64.length = ([(⟨r45.1, r47.1, r51.1⟩ : absent_Side)] : List absent_Side).length := by rw [← h65, List.length_map]
      have h68 : room (R60.length + R64.length) 48 := by rw [h63, h67]; exact h59
      refine ow_slots (L' := [(30, .slice p57 R64.length 1), (29, .agg #[.int .i64 r45.1, .string r47.1, .slice r51_p1 r51.1.length r51_c2]), (28, .slice p41 R60.length c42), (2, .pointer (some ⟨b21, 0, none⟩)), (4, .pointer (some ⟨r23_b1, 0, none⟩)), (5, .pointer (some ⟨b28, 0, none⟩)), (6, .pointer (some ⟨b49, 0, none⟩)), (16, .int .i64 r31.1), (17, .int .i64 x36), (27, .pointer (some ⟨b28, 1, none⟩))]) (by simp only [h63, h67] <;> rfl) ?_
      refine ow_pw rfl (pw_append 6 (l' := R64) rfl rfl rfl rfl rfl rfl (by kernel_rfl) (by kernel_rfl) rfl rfl rfl (src_own (E' := 43) 0 rfl (by kernel_rfl) rfl) rfl h68.1 h68.2 fun p69 c70 => nw_H (H' := [own n_absent_Side.e 43 p57 1 R64, imm J54, pt r23_b1 #[.string r51.2.s_, .int .i64 r51.2.at_, .int .i64 r51.2.e_] 104, pt b49 #[.int .i64 r45.1, .string r47.1, .slice r51_p1 r51.1.length r51_c2] 43, pt b28 #[.int .i64 r26.1, .slice p41 l40.length c42] 35, pt b21 #[.int .i64 0, .slice none 0 0] 35, own n_absent_Side.e 43 p69 c70 (R60 ++ R64)] ++ F0) rfl (nw_ow ?_))
      refine ow_state (S' := SAT w0 ([own n_absent_Side.e 43 p57 1 R64, imm J54, pt r23_b1 #[.string r51.2.s_, .int .i64 r51.2.at_, .int .i64 r51.2.e_] 104, pt b49 #[.int .i64 r45.1, .string r47.1, .slice r51_p1 r51.1.length r51_c2] 43, pt b28 #[.int .i64 r26.1, .slice p41 l40.length c42] 35, pt b21 #[.int .i64 0, .slice none 0 0] 35, ownN J54 n_absent_Side 43 p69 c70 (l40 ++ ([(⟨r45.1, r47.1, r51.1⟩ : absent_Side)] : List absent_Side))] ++ F0)) (fun w hs => sat_closeN 6 rfl (by rw [List.map_append, h61, h65]) (fun r hr => (List.mem_append.1 hr).elim (fun hr => n_absent_Side.sub h55 r (h62 r hr)) (fun hr => n_absent_Side.sub (Hl.sub_refl _) r (h66 r hr))) hs) ?_
      refine ow_state (S' := SAT w0 ([emp, imm J54, pt r23_b1 #[.string r51.2.s_, .int .i64 r51.2.at_, .int .i64 r51.2.e_] 104, pt b49 #[.int .i64 r45.1, .string r47.1, .slice r51_p1 r51.1.length r51_c2] 43, pt b28 #[.int .i64 r26.1, .slice p41 l40.length c42] 35, pt b21 #[.int .i64 0, .slice none 0 0] 35, ownN J54 n_absent_Side 43 p69 c70 (l40 ++ ([(⟨r45.1, r47.1, r51.1⟩ : absent_Side)] : List absent_Side))] ++ F0)) (fun w hs => sat_junk 0 rfl hs) ?_
      refine ow_keep [31, 29, 2, 4, 5, 6, 16, 17, 27] (L' := [(31, .slice p69 (R60 ++ R64).length c70), (29, .agg #[.int .i64 r45.1, .string r47.1, .slice r51_p1 r51.1.length r51_c2]), (2, .pointer (some ⟨b21, 0, none⟩)), (4, .pointer (some ⟨r23_b1, 0, none⟩)), (5, .pointer (some ⟨b28, 0, none⟩)), (6, .pointer (some ⟨b49, 0, none⟩)), (16, .int .i64 r31.1), (17, .int .i64 x36), (27, .pointer (some ⟨b28, 1, none⟩))]) rfl ?_
      refine ow_slots (L' := [(31, .slice p69 (l40 ++ ([(⟨r45.1, r47.1, r51.1⟩ : absent_Side)] : List absent_Side)).length c70), (29, .agg #[.int .i64 r45.1, .string r47.1, .slice r51_p1 r51.1.length r51_c2]), (2, .pointer (some ⟨b21, 0, none⟩)), (4, .pointer (some ⟨r23_b1, 0, none⟩)), (5, .pointer (some ⟨b28, 0, none⟩)), (6, .pointer (some ⟨b49, 0, none⟩)), (16, .int .i64 r31.1), (17, .int .i64 x36), (27, .pointer (some ⟨b28, 1, none⟩))]) (by simp only [List.length_append, h63, h67] <;> rfl) ?_
      refine ow_vals 1 (j := 6) [2, 4, 5, 16, 17, 31, 32] [(2, .pointer (some ⟨b21, 0, none⟩)), (4, .pointer (some ⟨r23_b1, 0, none⟩)), (5, .pointer (some ⟨b28, 0, none⟩)), (16, .int .i64 r31.1), (17, .int .i64 x36), (31, .slice p69 (l40 ++ ([(⟨r45.1, r47.1, r51.1⟩ : absent_Side)] : List absent_Side)).length c70), (32, .pointer (some ⟨b28, 1, none⟩))] rfl (by kernel_rfl) ?_
      refine ow_pw rfl (pw_store 4 #[.int .i64 r26.1, .slice p69 (l40 ++ ([(⟨r45.1, r47.1, r51.1⟩ : absent_Side)] : List absent_Side)).length c70] rfl rfl rfl rfl rfl rfl rfl (by kernel_rfl) (nw_H (H' := [emp, imm J54, pt r23_b1 #[.string r51.2.s_, .int .i64 r51.2.at_, .int .i64 r51.2.e_] 104, pt b49 #[.int .i64 r45.1, .string r47.1, .slice r51_p1 r51.1.length r51_c2] 43, pt b28 #[.int .i64 r26.1, .slice p69 (l40 ++ ([(⟨r45.1, r47.1, r51.1⟩ : absent_Side)] : List absent_Side)).length c70] 35, pt b21 #[.int .i64 0, .slice none 0 0] 35, ownN J54 n_absent_Side 43 p69 c70 (l40 ++ ([(⟨r45.1, r47.1, r51.1⟩ : absent_Side)] : List absent_Side))] ++ F0) rfl (nw_ow ?_)))
      refine ow_end rfl ?_
      refine ew_blk ?_
      refine ew_then ?_
      refine cw_region ?_
      refine ow_vals 2 (j := 2) [2, 4, 5, 16, 17] [(2, .pointer (some ⟨b21, 0, none⟩)), (4, .pointer (some ⟨r23_b1, 0, none⟩)), (5, .pointer (some ⟨b28, 0, none⟩)), (16, .int .i64 r31.1), (17, .int .i64 (IntKind.i64.wrap (x36 + 1)))] rfl (by kernel_rfl) ?_
      refine ow_end rfl ?_
      have hR := Option.some.inj hF
      subst hR
      have hR := hL33
      try dsimp only at hR
      exact fun a w hf hs => ⟨k, Nat.lt_succ_self k, IntKind.i64.wrap (x36 + 1), r51.2.s_, r51.2.at_, r51.2.e_, l40 ++ ([(⟨r45.1, r47.1, r51.1⟩ : absent_Side)] : List absent_Side), J54, p69, c70, hR, (Hl.sub_trans h35 h55), hf.keep [2, 4, 5, 16, 17], sat_to [0, 2, 0, 0, 0, 0, 0] 2 rfl hs⟩
    refine cw_cond_f rfl rfl h44 ?_
    refine cw_exit ?_
    refine ew_then_exit ?_
    refine ew_then_exit ?_
    refine ew_blk_exit ?_
    have hR := Option.some.inj hF
    subst hR
    have hR := hL33
    try dsimp only at hR
    exact fun a w hf hs => ⟨s37, x38, x39, l40, J34, p41, c42, hR, h35, hf.keep [2, 4, 5], sat_to [0, 0, 0, 0, 0] 0 rfl hs⟩
  rintro a w ⟨s73, x74, x75, l76, J71, p77, c78, hv, h72, hf, hs⟩
  subst hv
  replace hF := hK30
  clear hK30
  try dsimp only at hF
  revert a w
  show CW _ _ _ 49 [(2, .pointer (some ⟨b21, 0, none⟩)), (4, .pointer (some ⟨r23_b1, 0, none⟩)), (5, .pointer (some ⟨b28, 0, none⟩))] (SAT w0 ([imm J71, pt r23_b1 #[.string s73, .int .i64 x74, .int .i64 x75] 104, pt b28 #[.int .i64 r26.1, .slice p77 l76.length c78] 35, pt b21 #[.int .i64 0, .slice none 0 0] 35, ownN J71 n_absent_Side 43 p77 c78 l76] ++ F0))
  unfold F.absent_Read.r2 at hF
  refine cw_seq ?_
  refine cw_seq ?_
  refine cw_region ?_
  refine ow_vals 1 (j := 1) [2, 5, 34] [(2, .pointer (some ⟨b21, 0, none⟩)), (5, .pointer (some ⟨b28, 0, none⟩)), (34, .pointer (some ⟨r23_b1, 0, none⟩))] rfl (by kernel_rfl) ?_
  obtain ⟨r80, h81, hF⟩ := bind_some hF
  refine ow_pw rfl (pw_call (F := [pt b28 #[.int .i64 r26.1, .slice p77 l76.length c78] 35, pt b21 #[.int .i64 0, .slice none 0 0] 35, ownN J71 n_absent_Side 43 p77 c78 l76] ++ F0) rfl rfl rfl rfl rfl rfl rfl (by kernel_rfl) (perm_of_pulls [0, 0] rfl) (c_octet_Reader_End _ (⟨s73, x74, x75⟩ : octet_Reader) r23_b1 r80 h81) ?_)
  rintro _ _ ⟨rfl, rfl⟩
  refine nw_H (H' := [imm J71, pt r23_b1 #[.string r80.2.s_, .int .i64 r80.2.at_, .int .i64 r80.2.e_] 104, pt b28 #[.int .i64 r26.1, .slice p77 l76.length c78] 35, pt b21 #[.int .i64 0, .slice none 0 0] 35, ownN J71 n_absent_Side 43 p77 c78 l76] ++ F0) rfl (nw_ow ?_)
  refine ow_vals 1 (j := 3) [2, 5, 7] [(2, .pointer (some ⟨b21, 0, none⟩)), (5, .pointer (some ⟨b28, 0, none⟩)), (7, .int .i64 r80.1)] rfl (by kernel_rfl) ?_
  refine ow_end rfl ?_
  refine ew_then ?_
  refine cw_seq ?_
  refine cw_region ?_
  refine ow_vals 2 (j := 2) [2, 5, 7, 37] [(2, .pointer (some ⟨b21, 0, none⟩)), (5, .pointer (some ⟨b28, 0, none⟩)), (7, .int .i64 r80.1), (37, .bool (r80.1 != 0))] rfl (by kernel_rfl) ?_
  refine ow_end rfl ?_
  refine ew_then ?_
  rcases if_some hF with ⟨h82, hF⟩ | ⟨h82, hF⟩
  · refine cw_cond_t rfl rfl h82 ?_
    refine cw_seq ?_
    refine cw_region ?_
    refine ow_vals 2 (j := 2) [2, 38, 39] [(2, .pointer (some ⟨b21, 0, none⟩)), (38, .agg #[.int .i64 0, .slice none 0 0]), (39, .int .i64 r80.1)] rfl (by kernel_rfl) ?_
    refine ow_pw rfl (pw_store 3 #[.int .i64 0, .slice none 0 0] rfl rfl rfl rfl rfl rfl rfl (by kernel_rfl) (nw_H (H' := [imm J71, pt r23_b1 #[.string r80.2.s_, .int .i64 r80.2.at_, .int .i64 r80.2.e_] 104, pt b28 #[.int .i64 r26.1, .slice p77 l76.length c78] 35, pt b21 #[.int .i64 0, .slice none 0 0] 35, ownN J71 n_absent_Side 43 p77 c78 l76] ++ F0) rfl (nw_ow ?_)))
    refine ow_vals 1 (j := 4) [2, 3] [(2, .pointer (some ⟨b21, 0, none⟩)), (3, .int .i64 r80.1)] rfl (by kernel_rfl) ?_
    refine ow_end rfl ?_
    refine ew_then ?_
    refine cw_ret ?_
    refine ew_then_ret ?_
    have hR := Option.some.inj hF
    subst hR
    exact fin2 (H1 := [imm J71]) (fun w hs => sat_to [1, 1, 1, 1, 0] 4 rfl hs) rfl (rr_cell 3 rfl rfl (by kernel_rfl)) (rr_tmp rfl) ⟨J71, none, 0, rfl, rfl, h72, roN_nil _ _⟩
  refine cw_cond_f rfl rfl h82 ?_
  refine cw_skip ?_
  refine ew_then ?_
  refine cw_seq ?_
  refine cw_seq ?_
  refine cw_region ?_
  refine ow_pw rfl (pw_quiet (v := .agg #[.int .i64 r26.1, .slice p77 l76.length c78]) rfl rfl rfl rfl (q_load 2 rfl rfl rfl (by kernel_rfl)) (nw_ow ?_))
  refine ow_openN 4 rfl fun R86 h87 h88 => ?_
  have h89 : R86.length = l76.length := by rw [← h87, List.length_map]
  refine ow_freeze (fun w hs => sat_to [0, 3] 0 (F := [imm J71, own n_absent_Side.e 43 p77 c78 R86, pt r23_b1 #[.string r80.2.s_, .int .i64 r80.2.at_, .int .i64 r80.2.e_] 104, pt b28 #[.int .i64 r26.1, .slice p77 l76.length c78] 35, pt b21 #[.int .i64 0, .slice none 0 0] 35] ++ F0) rfl hs) fun J83 h84 h90 => ?_
  have h85 : roN J83 n_absent_Side p77 c78 l76 := ⟨R86, h90, h87, fun r hr => n_absent_Side.sub h84 r (h88 r hr)⟩
  refine ow_H (H' := [imm J83, pt r23_b1 #[.string r80.2.s_, .int .i64 r80.2.at_, .int .i64 r80.2.e_] 104, pt b28 #[.int .i64 r26.1, .slice p77 l76.length c78] 35, pt b21 #[.int .i64 0, .slice none 0 0] 35] ++ F0) rfl ?_
  obtain ⟨r91, h92, hF⟩ := bind_some hF
  refine ow_pw rfl (pw_call (F := [pt r23_b1 #[.string r80.2.s_, .int .i64 r80.2.at_, .int .i64 r80.2.e_] 104, pt b28 #[.int .i64 r26.1, .slice p77 l76.length c78] 35, pt b21 #[.int .i64 0, .slice none 0 0] 35] ++ F0) rfl rfl rfl rfl rfl rfl rfl (by kernel_rfl) (perm_of_pulls [0] rfl) (c_absent_Bytes _ (⟨r26.1, l76⟩ : absent_Proof) p77 c78 r91 h92 h85) ?_)
  rintro _ _ ⟨rfl, rfl⟩
  refine nw_H (H' := [imm J83, pt r23_b1 #[.string r80.2.s_, .int .i64 r80.2.at_, .int .i64 r80.2.e_] 104, pt b28 #[.int .i64 r26.1, .slice p77 l76.length c78] 35, pt b21 #[.int .i64 0, .slice none 0 0] 35] ++ F0) rfl (nw_ow ?_)
  refine ow_vals 5 (j := 7) [2, 5, 9] [(2, .pointer (some ⟨b21, 0, none⟩)), (5, .pointer (some ⟨b28, 0, none⟩)), (9, .bool r91.2)] rfl (by kernel_rfl) ?_
  refine ow_end rfl ?_
  refine ew_then ?_
  refine cw_seq ?_
  refine cw_region ?_
  refine ow_vals 2 (j := 2) [2, 5, 46] [(2, .pointer (some ⟨b21, 0, none⟩)), (5, .pointer (some ⟨b28, 0, none⟩)), (46, .bool (!r91.2))] rfl (by kernel_rfl) ?_
  refine ow_end rfl ?_
  refine ew_then ?_
  rcases if_some hF with ⟨h93, hF⟩ | ⟨h93, hF⟩
  · refine cw_cond_t rfl rfl h93 ?_
    refine cw_seq ?_
    refine cw_region ?_
    refine ow_vals 1 (j := 1) [2, 47] [(2, .pointer (some ⟨b21, 0, none⟩)), (47, .agg #[.int .i64 0, .slice none 0 0])] rfl (by kernel_rfl) ?_
    refine ow_pw rfl (pw_store 3 #[.int .i64 0, .slice none 0 0] rfl rfl rfl rfl rfl rfl rfl (by kernel_rfl) (nw_H (H' := [imm J83, pt r23_b1 #[.string r80.2.s_, .int .i64 r80.2.at_, .int .i64 r80.2.e_] 104, pt b28 #[.int .i64 r26.1, .slice p77 l76.length c78] 35, pt b21 #[.int .i64 0, .slice none 0 0] 35] ++ F0) rfl (nw_ow ?_)))
    refine ow_vals 1 (j := 3) [2, 3] [(2, .pointer (some ⟨b21, 0, none⟩)), (3, .int .i64 4)] rfl (by kernel_rfl) ?_
    refine ow_end rfl ?_
    refine ew_then ?_
    refine cw_ret ?_
    refine ew_then_ret ?_
    have hR := Option.some.inj hF
    subst hR
    exact fin2 (H1 := [imm J83]) (fun w hs => sat_to [1, 1, 1, 0] 3 rfl hs) rfl (rr_cell 3 rfl rfl (by kernel_rfl)) (rr_tmp rfl) ⟨J83, none, 0, rfl, rfl, (Hl.sub_trans h72 h84), roN_nil _ _⟩
  refine cw_cond_f rfl rfl h93 ?_
  refine cw_skip ?_
  refine ew_then ?_
  refine cw_seq ?_
  refine cw_region ?_
  refine ow_pw rfl (pw_quiet (v := .agg #[.int .i64 r26.1, .slice p77 l76.length c78]) rfl rfl rfl rfl (q_load 2 rfl rfl rfl (by kernel_rfl)) (nw_ow ?_))
  refine ow_pw rfl (pw_store 3 #[.int .i64 r26.1, .slice p77 l76.length c78] rfl rfl rfl rfl rfl rfl rfl (by kernel_rfl) (nw_H (H' := [imm J83, pt r23_b1 #[.string r80.2.s_, .int .i64 r80.2.at_, .int .i64 r80.2.e_] 104, pt b28 #[.int .i64 r26.1, .slice p77 l76.length c78] 35, pt b21 #[.int .i64 r26.1, .slice p77 l76.length c78] 35] ++ F0) rfl (nw_ow ?_)))
  refine ow_vals 1 (j := 3) [2, 3] [(2, .pointer (some ⟨b21, 0, none⟩)), (3, .int .i64 0)] rfl (by kernel_rfl) ?_
  refine ow_end rfl ?_
  refine ew_then ?_
  refine cw_ret ?_
  have hR := Option.some.inj hF
  subst hR
  exact fin2 (H1 := [imm J83]) (fun w hs => sat_to [1, 1, 1, 0] 3 rfl hs) rfl (rr_cell 3 rfl rfl (by kernel_rfl)) (rr_tmp rfl) ⟨J83, p77, c78, rfl, rfl, (Hl.sub_trans h72 h84), h85⟩


def F.law24_AbsentBytes.r4 (s29 : ByteArray) (r62 : absent_Proof × Int) : Option (Bool) :=
  Option.bind (F.law24_right r62.1) (fun (r73 : Bool) => if r73 then (Option.bind (F.law24_bytes r62.1) (fun (r76 : ByteArray) => if seqB r76 s29 then (Option.bind (F.law24_awake) (fun (r79 : Bool) => some (r79))) else (some (false)))) else (some (false)))
def F.law24_AbsentBytes.r3 (s29 : ByteArray) : Option (Bool) :=
  Option.bind (F.absent_Read s29) (fun (r62 : absent_Proof × Int) => thru (if r62.2 != 0 then (Option.bind (F.law24_same r62.1 (⟨0, ([] : List absent_Side)⟩ : absent_Proof)) (fun (r68 : Bool) => if r68 then (Option.bind (F.law24_awake) (fun (r71 : Bool) => some (.inr (r71)))) else (some (.inr (false))))) else (some (.inl ()))) (fun x => F.law24_AbsentBytes.r4 s29 r62))
def F.law24_AbsentBytes.r2 (r23 : absent_Proof) (s29 : ByteArray) (r38 : ByteArray × Bool) : Option (Bool) :=
  thru (if r38.2 then (Option.bind (F.absent_Read r38.1) (fun (r48 : absent_Proof × Int) => Option.bind (F.law24_bytes r23) (fun (r52 : ByteArray) => if !(seqB r38.1 r52) then (some (.inr (false))) else (if r48.2 != 0 then (some (.inr (false))) else (Option.bind (F.law24_same r48.1 r23) (fun (r56 : Bool) => if !r56 then (some (.inr (false))) else (some (.inl ())))))))) else (some (.inl ()))) (fun x => F.law24_AbsentBytes.r3 s29)
def F.law24_AbsentBytes.r1 (r23 : absent_Proof) (s29 : ByteArray) : Option (Bool) :=
  Option.bind (F.absent_Bytes r23) (fun (r38 : ByteArray × Bool) => thru (Option.bind (F.law24_right r23) (fun (r41 : Bool) => if !(r38.2 == r41) then (some (.inr (false))) else (if !r38.2 then (if !(seqB r38.1 (ByteArray.mk #[])) then (some (.inr (false))) else (some (.inl ()))) else (some (.inl ()))))) (fun x => F.law24_AbsentBytes.r2 r23 s29 r38))
def F.law24_AbsentBytes (x0 : absent_Proof) (x1 : ByteArray) : Option Bool :=
  Option.bind (F.law24_Few x0) (fun (r23 : absent_Proof) => Option.bind (if decide ((x1.size : Int) > 3000) then (chk (0 ≤ (0 : Int) ∧ (0 : Int) ≤ (3000 : Int) ∧ (3000 : Int) ≤ (x1.size : Int)) (some ((x1.extract (0 : Int).toNat (3000 : Int).toNat)))) else (some (x1))) (fun x => F.law24_AbsentBytes.r1 r23 x))
set_option maxRecDepth 100000 in
set_option maxHeartbeats 4000000 in
theorem c_law24_AbsentBytes (I : Hl) (x0 : absent_Proof) (x1 : ByteArray) (p0 : Option Addr) (c0 : Nat) (res : Bool) (hF : F.law24_AbsentBytes x0 x1 = some res) (hr0 : roN I n_absent_Side p0 c0 x0.Sides) : Tr Try.prog 7 [.agg #[.int .i64 x0.Size, .slice p0 x0.Sides.length c0], .string x1] [imm I] (fun r H' => ∃ (J : Hl), r = .bool res ∧ H' = [imm J] ∧ Hl.sub I J) := by
  unfold F.law24_AbsentBytes at hF
  refine tr_of_cw (fn := Try.f7) Try.func7 rfl (Nat.le_of_ble_eq_true rfl) 79 rfl fun F0 w0 => ?_
  refine cw_keep [0, 1] (L' := [(0, .agg #[.int .i64 x0.Size, .slice p0 x0.Sides.length c0]), (1, .string x1)]) rfl ?_
  refine cw_state (S' := SAT w0 ([imm I] ++ F0)) (fun w hs => hs) ?_
  refine cw_seq ?_
  refine cw_region ?_
  refine ow_pw rfl (pw_box (cs := #[.int .i64 x0.Size, .slice p0 x0.Sides.length c0]) rfl rfl rfl rfl rfl rfl fun b21 => nw_ow ?_)
  refine ow_vals 1 (j := 2) [1, 2] [(1, .string x1), (2, .pointer (some ⟨b21, 0, none⟩))] rfl (by kernel_rfl) ?_
  refine ow_end rfl ?_
  refine ew_then ?_
  refine cw_seq ?_
  refine cw_region ?_
  refine ow_pw rfl (pw_quiet (v := .agg #[.int .i64 x0.Size, .slice p0 x0.Sides.length c0]) rfl rfl rfl rfl (q_load 0 rfl rfl rfl (by kernel_rfl)) (nw_ow ?_))
  obtain ⟨r23, h24, hF⟩ := bind_some hF
  refine ow_pw rfl (pw_call (F := [pt b21 #[.int .i64 x0.Size, .slice p0 x0.Sides.length c0] 35] ++ F0) rfl rfl rfl rfl rfl rfl rfl (by kernel_rfl) (perm_of_pulls [1] rfl) (c_law24_Few _ x0 p0 c0 r23 h24 hr0) ?_)
  rintro _ _ ⟨r23_J, r23_p1, r23_c2, rfl, rfl, r23_hJ⟩
  refine nw_H (H' := [imm r23_J, ownN r23_J n_absent_Side 43 r23_p1 r23_c2 r23.Sides, pt b21 #[.int .i64 x0.Size, .slice p0 x0.Sides.length c0] 35] ++ F0) rfl (nw_ow ?_)
  have hr0 := roN.sub r23_hJ hr0
  refine ow_pw rfl (pw_store 2 #[.int .i64 r23.Size, .slice r23_p1 r23.Sides.length r23_c2] rfl rfl rfl rfl rfl rfl rfl (by kernel_rfl) (nw_H (H' := [imm r23_J, ownN r23_J n_absent_Side 43 r23_p1 r23_c2 r23.Sides, pt b21 #[.int .i64 r23.Size, .slice r23_p1 r23.Sides.length r23_c2] 35] ++ F0) rfl (nw_ow ?_)))
  refine ow_end rfl ?_
  refine ew_then ?_
  obtain ⟨v26, hF, hK26⟩ := bind_some hF
  refine cw_mid (fun a w => ∃ (s29 : ByteArray), s29 = v26 ∧ Fr 79 [(1, .string s29), (2, .pointer (some ⟨b21, 0, none⟩))] a ∧ SAT w0 ([imm r23_J, pt b21 #[.int .i64 r23.Size, .slice r23_p1 r23.Sides.length r23_c2] 35, ownN r23_J n_absent_Side 43 r23_p1 r23_c2 r23.Sides] ++ F0) w) ?_ ?_
  · refine cw_seq ?_
    refine cw_region ?_
    refine ow_vals 3 (j := 3) [1, 2, 15] [(1, .string x1), (2, .pointer (some ⟨b21, 0, none⟩)), (15, .bool (decide ((x1.size : Int) > 3000)))] rfl (by kernel_rfl) ?_
    refine ow_end rfl ?_
    refine ew_then ?_
    rcases if_some hF with ⟨h27, hF⟩ | ⟨h27, hF⟩
    · refine cw_cond_t rfl rfl h27 ?_
      refine cw_region ?_
      refine ow_vals 1 (j := 1) [2, 16] [(2, .pointer (some ⟨b21, 0, none⟩)), (16, .string x1)] rfl (by kernel_rfl) ?_
      obtain ⟨h28, hF⟩ := chk_some hF
      refine ow_pw rfl (pw_quiet (v := .string (x1.extract (0 : Int).toNat (3000 : Int).toNat)) rfl rfl rfl rfl (q_slice_str rfl (by kernel_rfl) rfl rfl rfl h28.1 h28.2.1 h28.2.2) (nw_ow ?_))
      refine ow_vals 1 (j := 3) [1, 2] [(1, .string (x1.extract (0 : Int).toNat (3000 : Int).toNat)), (2, .pointer (some ⟨b21, 0, none⟩))] rfl (by kernel_rfl) ?_
      refine ow_end rfl ?_
      have hR := Option.some.inj hF
      exact fun a w hf hs => ⟨x1.extract (0 : Int).toNat (3000 : Int).toNat, hR, hf.keep [1, 2], sat_to [0, 1, 0] 0 rfl hs⟩
    refine cw_cond_f rfl rfl h27 ?_
    refine cw_skip ?_
    have hR := Option.some.inj hF
    exact fun a w hf hs => ⟨x1, hR, hf.keep [1, 2], sat_to [0, 1, 0] 0 rfl hs⟩
  rintro a w ⟨s29, hv, hf, hs⟩
  subst hv
  replace hF := hK26
  clear hK26
  try dsimp only at hF
  revert a w
  show CW _ _ _ 79 [(1, .string s29), (2, .pointer (some ⟨b21, 0, none⟩))] (SAT w0 ([imm r23_J, pt b21 #[.int .i64 r23.Size, .slice r23_p1 r23.Sides.length r23_c2] 35, ownN r23_J n_absent_Side 43 r23_p1 r23_c2 r23.Sides] ++ F0))
  unfold F.law24_AbsentBytes.r1 at hF
  refine cw_seq ?_
  refine cw_region ?_
  refine ow_pw rfl (pw_quiet (v := .agg #[.int .i64 r23.Size, .slice r23_p1 r23.Sides.length r23_c2]) rfl rfl rfl rfl (q_load 1 rfl rfl rfl (by kernel_rfl)) (nw_ow ?_))
  refine ow_openN 2 rfl fun R33 h34 h35 => ?_
  have h36 : R33.length = r23.Sides.length := by rw [← h34, List.length_map]
  refine ow_freeze (fun w hs => sat_to [0, 1] 0 (F := [imm r23_J, own n_absent_Side.e 43 r23_p1 r23_c2 R33, pt b21 #[.int .i64 r23.Size, .slice r23_p1 r23.Sides.length r23_c2] 35] ++ F0) rfl hs) fun J30 h31 h37 => ?_
  have h32 : roN J30 n_absent_Side r23_p1 r23_c2 r23.Sides := ⟨R33, h37, h34, fun r hr => n_absent_Side.sub h31 r (h35 r hr)⟩
  refine ow_H (H' := [imm J30, pt b21 #[.int .i64 r23.Size, .slice r23_p1 r23.Sides.length r23_c2] 35] ++ F0) rfl ?_
  obtain ⟨r38, h39, hF⟩ := bind_some hF
  refine ow_pw rfl (pw_call (F := [pt b21 #[.int .i64 r23.Size, .slice r23_p1 r23.Sides.length r23_c2] 35] ++ F0) rfl rfl rfl rfl rfl rfl rfl (by kernel_rfl) (perm_of_pulls [0] rfl) (c_absent_Bytes _ r23 r23_p1 r23_c2 r38 h39 h32) ?_)
  rintro _ _ ⟨rfl, rfl⟩
  refine nw_H (H' := [imm J30, pt b21 #[.int .i64 r23.Size, .slice r23_p1 r23.Sides.length r23_c2] 35] ++ F0) rfl (nw_ow ?_)
  refine ow_vals 5 (j := 7) [1, 2, 5, 6] [(1, .string s29), (2, .pointer (some ⟨b21, 0, none⟩)), (5, .string r38.1), (6, .bool r38.2)] rfl (by kernel_rfl) ?_
  refine ow_end rfl ?_
  refine ew_then ?_
  obtain ⟨v40, hF, hK40⟩ := thru_some hF
  refine cw_mid (fun a w => .inl () = v40 ∧ Fr 79 [(1, .string s29), (2, .pointer (some ⟨b21, 0, none⟩)), (5, .string r38.1), (6, .bool r38.2)] a ∧ SAT w0 ([imm J30, pt b21 #[.int .i64 r23.Size, .slice r23_p1 r23.Sides.length r23_c2] 35] ++ F0) w) ?_ ?_
  · refine cw_seq ?_
    refine cw_region ?_
    refine ow_vals 1 (j := 1) [1, 2, 5, 6, 23] [(1, .string s29), (2, .pointer (some ⟨b21, 0, none⟩)), (5, .string r38.1), (6, .bool r38.2), (23, .bool r38.2)] rfl (by kernel_rfl) ?_
    refine ow_pw rfl (pw_quiet (v := .agg #[.int .i64 r23.Size, .slice r23_p1 r23.Sides.length r23_c2]) rfl rfl rfl rfl (q_load 1 rfl rfl rfl (by kernel_rfl)) (nw_ow ?_))
    obtain ⟨r41, h42, hF⟩ := bind_some hF
    refine ow_pw rfl (pw_call (F := [pt b21 #[.int .i64 r23.Size, .slice r23_p1 r23.Sides.length r23_c2] 35] ++ F0) rfl rfl rfl rfl rfl rfl rfl (by kernel_rfl) (perm_of_pulls [0] rfl) (c_law24_right _ r23 r23_p1 r23_c2 r41 h42 h32) ?_)
    rintro _ _ ⟨rfl, rfl⟩
    refine nw_H (H' := [imm J30, pt b21 #[.int .i64 r23.Size, .slice r23_p1 r23.Sides.length r23_c2] 35] ++ F0) rfl (nw_ow ?_)
    refine ow_vals 2 (j := 5) [1, 2, 5, 6, 27] [(1, .string s29), (2, .pointer (some ⟨b21, 0, none⟩)), (5, .string r38.1), (6, .bool r38.2), (27, .bool (!(r38.2 == r41)))] rfl (by kernel_rfl) ?_
    rcases if_some hF with ⟨h43, hF⟩ | ⟨h43, hF⟩
    · refine ow_slots (L' := [(1, .string s29), (2, .pointer (some ⟨b21, 0, none⟩)), (5, .string r38.1), (6, .bool r38.2), (27, .bool true)]) (by rw [h43]) ?_
      refine ow_vals 7 (j := 12) [1, 2, 5, 6, 34] [(1, .string s29), (2, .pointer (some ⟨b21, 0, none⟩)), (5, .string r38.1), (6, .bool r38.2), (34, .bool true)] rfl (by kernel_rfl) ?_
      refine ow_end rfl ?_
      refine ew_then ?_
      refine cw_cond_t rfl rfl rfl ?_
      refine cw_seq ?_
      refine cw_region ?_
      refine ow_vals 1 (j := 1) [4] [(4, .bool false)] rfl (by kernel_rfl) ?_
      refine ow_end rfl ?_
      refine ew_then ?_
      refine cw_ret ?_
      refine ew_then_ret ?_
      have hR := Option.some.inj hF
      subst hR
      have hR := hK40
      try dsimp only [Thru] at hR
      subst hR
      exact fin1 (H1 := [imm J30]) (fun w hs => sat_to [1, 0] 1 rfl hs) rfl (rr_tmp rfl) ⟨J30, rfl, rfl, (Hl.sub_trans r23_hJ h31)⟩
    refine ow_slots (L' := [(1, .string s29), (2, .pointer (some ⟨b21, 0, none⟩)), (5, .string r38.1), (6, .bool r38.2), (27, .bool false)]) (by rw [h43]) ?_
    refine ow_vals 3 (j := 8) [1, 2, 5, 6, 27, 30] [(1, .string s29), (2, .pointer (some ⟨b21, 0, none⟩)), (5, .string r38.1), (6, .bool r38.2), (27, .bool false), (30, .bool (!r38.2))] rfl (by kernel_rfl) ?_
    rcases if_some hF with ⟨h44, hF⟩ | ⟨h44, hF⟩
    · refine ow_slots (L' := [(1, .string s29), (2, .pointer (some ⟨b21, 0, none⟩)), (5, .string r38.1), (6, .bool r38.2), (27, .bool false), (30, .bool true)]) (by rw [h44]) ?_
      refine ow_vals 4 (j := 12) [1, 2, 5, 6, 34] [(1, .string s29), (2, .pointer (some ⟨b21, 0, none⟩)), (5, .string r38.1), (6, .bool r38.2), (34, .bool (!(seqB r38.1 (ByteArray.mk #[]))))] rfl (by kernel_rfl) ?_
      refine ow_end rfl ?_
      refine ew_then ?_
      rcases if_some hF with ⟨h45, hF⟩ | ⟨h45, hF⟩
      · refine cw_cond_t rfl rfl h45 ?_
        refine cw_seq ?_
        refine cw_region ?_
        refine ow_vals 1 (j := 1) [4] [(4, .bool false)] rfl (by kernel_rfl) ?_
        refine ow_end rfl ?_
        refine ew_then ?_
        refine cw_ret ?_
        refine ew_then_ret ?_
        have hR := Option.some.inj hF
        subst hR
        have hR := hK40
        try dsimp only [Thru] at hR
        subst hR
        exact fin1 (H1 := [imm J30]) (fun w hs => sat_to [1, 0] 1 rfl hs) rfl (rr_tmp rfl) ⟨J30, rfl, rfl, (Hl.sub_trans r23_hJ h31)⟩
      refine cw_cond_f rfl rfl h45 ?_
      refine cw_skip ?_
      have hR := Option.some.inj hF
      exact fun a w hf hs => ⟨hR, hf.keep [1, 2, 5, 6], sat_to [0, 0] 0 rfl hs⟩
    refine ow_slots (L' := [(1, .string s29), (2, .pointer (some ⟨b21, 0, none⟩)), (5, .string r38.1), (6, .bool r38.2), (27, .bool false), (30, .bool false)]) (by rw [h44]) ?_
    refine ow_vals 4 (j := 12) [1, 2, 5, 6, 34] [(1, .string s29), (2, .pointer (some ⟨b21, 0, none⟩)), (5, .string r38.1), (6, .bool r38.2), (34, .bool false)] rfl (by kernel_rfl) ?_
    refine ow_end rfl ?_
    refine ew_then ?_
    refine cw_cond_f rfl rfl rfl ?_
    refine cw_skip ?_
    have hR := Option.some.inj hF
    exact fun a w hf hs => ⟨hR, hf.keep [1, 2, 5, 6], sat_to [0, 0] 0 rfl hs⟩
  rintro a w ⟨hv, hf, hs⟩
  subst hv
  replace hF := hK40
  clear hK40
  try dsimp only [Thru] at hF
  revert a w
  show CW _ _ _ 79 [(1, .string s29), (2, .pointer (some ⟨b21, 0, none⟩)), (5, .string r38.1), (6, .bool r38.2)] (SAT w0 ([imm J30, pt b21 #[.int .i64 r23.Size, .slice r23_p1 r23.Sides.length r23_c2] 35] ++ F0))
  unfold F.law24_AbsentBytes.r2 at hF
  obtain ⟨v46, hF, hK46⟩ := thru_some hF
  refine cw_mid (fun a w => ∃ (J59 : Hl), ∃ (b61 : Nat), .inl () = v46 ∧ Hl.sub J30 J59 ∧ Fr 79 [(1, .string s29)] a ∧ SAT w0 ([imm J59, pt b21 #[.int .i64 r23.Size, .slice r23_p1 r23.Sides.length r23_c2] 35] ++ F0) w) ?_ ?_
  · refine cw_seq ?_
    refine cw_region ?_
    refine ow_vals 1 (j := 1) [1, 2, 5, 35] [(1, .string s29), (2, .pointer (some ⟨b21, 0, none⟩)), (5, .string r38.1), (35, .bool r38.2)] rfl (by kernel_rfl) ?_
    refine ow_end rfl ?_
    refine ew_then ?_
    rcases if_some hF with ⟨h47, hF⟩ | ⟨h47, hF⟩
    · refine cw_cond_t rfl rfl h47 ?_
      refine cw_seq ?_
      refine cw_region ?_
      refine ow_vals 1 (j := 1) [1, 2, 5, 37] [(1, .string s29), (2, .pointer (some ⟨b21, 0, none⟩)), (5, .string r38.1), (37, .string r38.1)] rfl (by kernel_rfl) ?_
      obtain ⟨r48, h49, hF⟩ := bind_some hF
      refine ow_pw rfl (pw_call (F := [pt b21 #[.int .i64 r23.Size, .slice r23_p1 r23.Sides.length r23_c2] 35] ++ F0) rfl rfl rfl rfl rfl rfl rfl (by kernel_rfl) (perm_of_pulls [0] rfl) (c_absent_Read _ r38.1 r48 h49) ?_)
      rintro _ _ ⟨r48_J, r48_p1, r48_c2, rfl, rfl, r48_hJ, r48_h3⟩
      refine nw_H (H' := [imm r48_J, pt b21 #[.int .i64 r23.Size, .slice r23_p1 r23.Sides.length r23_c2] 35] ++ F0) rfl (nw_ow ?_)
      have h32 := roN.sub r48_hJ h32
      refine ow_vals 3 (j := 5) [1, 2, 5, 39, 40] [(1, .string s29), (2, .pointer (some ⟨b21, 0, none⟩)), (5, .string r38.1), (39, .agg #[.int .i64 r48.1.Size, .slice r48_p1 r48.1.Sides.length r48_c2]), (40, .int .i64 r48.2)] rfl (by kernel_rfl) ?_
      refine ow_pw rfl (pw_alloc (cs := #[.int .i64 0, .slice none 0 0]) rfl rfl rfl rfl rfl (by kernel_rfl) fun b50 => nw_ow ?_)
      refine ow_pw rfl (pw_store 0 #[.int .i64 r48.1.Size, .slice r48_p1 r48.1.Sides.length r48_c2] rfl rfl rfl rfl rfl rfl rfl (by kernel_rfl) (nw_H (H' := [pt b50 #[.int .i64 r48.1.Size, .slice r48_p1 r48.1.Sides.length r48_c2] 35, imm r48_J, pt b21 #[.int .i64 r23.Size, .slice r23_p1 r23.Sides.length r23_c2] 35] ++ F0) rfl (nw_ow ?_)))
      refine ow_vals 1 (j := 8) [1, 2, 5, 7, 8] [(1, .string s29), (2, .pointer (some ⟨b21, 0, none⟩)), (5, .string r38.1), (7, .pointer (some ⟨b50, 0, none⟩)), (8, .int .i64 r48.2)] rfl (by kernel_rfl) ?_
      refine ow_end rfl ?_
      refine ew_then ?_
      refine cw_seq ?_
      refine cw_region ?_
      refine ow_vals 1 (j := 1) [1, 2, 7, 8, 41] [(1, .string s29), (2, .pointer (some ⟨b21, 0, none⟩)), (7, .pointer (some ⟨b50, 0, none⟩)), (8, .int .i64 r48.2), (41, .string r38.1)] rfl (by kernel_rfl) ?_
      refine ow_pw rfl (pw_quiet (v := .agg #[.int .i64 r23.Size, .slice r23_p1 r23.Sides.length r23_c2]) rfl rfl rfl rfl (q_load 2 rfl rfl rfl (by kernel_rfl)) (nw_ow ?_))
      obtain ⟨r52, h53, hF⟩ := bind_some hF
      refine ow_pw rfl (pw_call (F := [pt b50 #[.int .i64 r48.1.Size, .slice r48_p1 r48.1.Sides.length r48_c2] 35, pt b21 #[.int .i64 r23.Size, .slice r23_p1 r23.Sides.length r23_c2] 35] ++ F0) rfl rfl rfl rfl rfl rfl rfl (by kernel_rfl) (perm_of_pulls [1] rfl) (c_law24_bytes _ r23 r23_p1 r23_c2 r52 h53 h32) ?_)
      rintro _ _ ⟨rfl, rfl⟩
      refine nw_H (H' := [imm r48_J, pt b50 #[.int .i64 r48.1.Size, .slice r48_p1 r48.1.Sides.length r48_c2] 35, pt b21 #[.int .i64 r23.Size, .slice r23_p1 r23.Sides.length r23_c2] 35] ++ F0) rfl (nw_ow ?_)
      refine ow_vals 2 (j := 5) [1, 2, 7, 8, 45] [(1, .string s29), (2, .pointer (some ⟨b21, 0, none⟩)), (7, .pointer (some ⟨b50, 0, none⟩)), (8, .int .i64 r48.2), (45, .bool (!(seqB r38.1 r52)))] rfl (by kernel_rfl) ?_
      rcases if_some hF with ⟨h54, hF⟩ | ⟨h54, hF⟩
      · refine ow_slots (L' := [(1, .string s29), (2, .pointer (some ⟨b21, 0, none⟩)), (7, .pointer (some ⟨b50, 0, none⟩)), (8, .int .i64 r48.2), (45, .bool true)]) (by rw [h54]) ?_
        refine ow_vals 9 (j := 14) [1, 54] [(1, .string s29), (54, .bool true)] rfl (by kernel_rfl) ?_
        refine ow_end rfl ?_
        refine ew_then ?_
        refine cw_cond_t rfl rfl rfl ?_
        refine cw_seq ?_
        refine cw_region ?_
        refine ow_vals 1 (j := 1) [4] [(4, .bool false)] rfl (by kernel_rfl) ?_
        refine ow_end rfl ?_
        refine ew_then ?_
        refine cw_ret ?_
        refine ew_then_ret ?_
        have hR := Option.some.inj hF
        subst hR
        have hR := hK46
        try dsimp only [Thru] at hR
        subst hR
        exact fin1 (H1 := [imm r48_J]) (fun w hs => sat_to [1, 1, 0] 2 rfl hs) rfl (rr_tmp rfl) ⟨r48_J, rfl, rfl, (Hl.sub_trans (Hl.sub_trans r23_hJ h31) r48_hJ)⟩
      refine ow_slots (L' := [(1, .string s29), (2, .pointer (some ⟨b21, 0, none⟩)), (7, .pointer (some ⟨b50, 0, none⟩)), (8, .int .i64 r48.2), (45, .bool false)]) (by rw [h54]) ?_
      refine ow_vals 4 (j := 9) [1, 2, 7, 49] [(1, .string s29), (2, .pointer (some ⟨b21, 0, none⟩)), (7, .pointer (some ⟨b50, 0, none⟩)), (49, .bool (r48.2 != 0))] rfl (by kernel_rfl) ?_
      rcases if_some hF with ⟨h55, hF⟩ | ⟨h55, hF⟩
      · refine ow_slots (L' := [(1, .string s29), (2, .pointer (some ⟨b21, 0, none⟩)), (7, .pointer (some ⟨b50, 0, none⟩)), (49, .bool true)]) (by rw [h55]) ?_
        refine ow_vals 5 (j := 14) [1, 54] [(1, .string s29), (54, .bool true)] rfl (by kernel_rfl) ?_
        refine ow_end rfl ?_
        refine ew_then ?_
        refine cw_cond_t rfl rfl rfl ?_
        refine cw_seq ?_
        refine cw_region ?_
        refine ow_vals 1 (j := 1) [4] [(4, .bool false)] rfl (by kernel_rfl) ?_
        refine ow_end rfl ?_
        refine ew_then ?_
        refine cw_ret ?_
        refine ew_then_ret ?_
        have hR := Option.some.inj hF
        subst hR
        have hR := hK46
        try dsimp only [Thru] at hR
        subst hR
        exact fin1 (H1 := [imm r48_J]) (fun w hs => sat_to [1, 1, 0] 2 rfl hs) rfl (rr_tmp rfl) ⟨r48_J, rfl, rfl, (Hl.sub_trans (Hl.sub_trans r23_hJ h31) r48_hJ)⟩
      refine ow_slots (L' := [(1, .string s29), (2, .pointer (some ⟨b21, 0, none⟩)), (7, .pointer (some ⟨b50, 0, none⟩)), (49, .bool false)]) (by rw [h55]) ?_
      refine ow_pw rfl (pw_quiet (v := .agg #[.int .i64 r48.1.Size, .slice r48_p1 r48.1.Sides.length r48_c2]) rfl rfl rfl rfl (q_load 1 rfl rfl rfl (by kernel_rfl)) (nw_ow ?_))
      refine ow_pw rfl (pw_quiet (v := .agg #[.int .i64 r23.Size, .slice r23_p1 r23.Sides.length r23_c2]) rfl rfl rfl rfl (q_load 2 rfl rfl rfl (by kernel_rfl)) (nw_ow ?_))
      obtain ⟨r56, h57, hF⟩ := bind_some hF
      refine ow_pw rfl (pw_call (F := [pt b50 #[.int .i64 r48.1.Size, .slice r48_p1 r48.1.Sides.length r48_c2] 35, pt b21 #[.int .i64 r23.Size, .slice r23_p1 r23.Sides.length r23_c2] 35] ++ F0) rfl rfl rfl rfl rfl rfl rfl (by kernel_rfl) (perm_of_pulls [0] rfl) (c_law24_same _ r48.1 r23 r48_p1 r48_c2 r23_p1 r23_c2 r56 h57 r48_h3 h32) ?_)
      rintro _ _ ⟨rfl, rfl⟩
      refine nw_H (H' := [imm r48_J, pt b50 #[.int .i64 r48.1.Size, .slice r48_p1 r48.1.Sides.length r48_c2] 35, pt b21 #[.int .i64 r23.Size, .slice r23_p1 r23.Sides.length r23_c2] 35] ++ F0) rfl (nw_ow ?_)
      refine ow_vals 2 (j := 14) [1, 54] [(1, .string s29), (54, .bool (!r56))] rfl (by kernel_rfl) ?_
      refine ow_end rfl ?_
      refine ew_then ?_
      rcases if_some hF with ⟨h58, hF⟩ | ⟨h58, hF⟩
      · refine cw_cond_t rfl rfl h58 ?_
        refine cw_seq ?_
        refine cw_region ?_
        refine ow_vals 1 (j := 1) [4] [(4, .bool false)] rfl (by kernel_rfl) ?_
        refine ow_end rfl ?_
        refine ew_then ?_
        refine cw_ret ?_
        refine ew_then_ret ?_
        have hR := Option.some.inj hF
        subst hR
        have hR := hK46
        try dsimp only [Thru] at hR
        subst hR
        exact fin1 (H1 := [imm r48_J]) (fun w hs => sat_to [1, 1, 0] 2 rfl hs) rfl (rr_tmp rfl) ⟨r48_J, rfl, rfl, (Hl.sub_trans (Hl.sub_trans r23_hJ h31) r48_hJ)⟩
      refine cw_cond_f rfl rfl h58 ?_
      refine cw_skip ?_
      have hR := Option.some.inj hF
      exact fun a w hf hs => ⟨r48_J, b50, hR, r48_hJ, hf.keep [1], sat_to [1, 0, 0] 1 rfl hs⟩
    refine cw_cond_f rfl rfl h47 ?_
    refine cw_skip ?_
    have hR := Option.some.inj hF
    exact fun a w hf hs => ⟨J30, 0, hR, Hl.sub_refl _, hf.keep [1], sat_to [0, 0] 0 rfl hs⟩
  rintro a w ⟨J59, b61, hv, h60, hf, hs⟩
  subst hv
  replace hF := hK46
  clear hK46
  try dsimp only [Thru] at hF
  revert a w
  show CW _ _ _ 79 [(1, .string s29)] (SAT w0 ([imm J59, pt b21 #[.int .i64 r23.Size, .slice r23_p1 r23.Sides.length r23_c2] 35] ++ F0))
  unfold F.law24_AbsentBytes.r3 at hF
  have h32 := roN.sub h60 h32
  refine cw_seq ?_
  refine cw_region ?_
  refine ow_vals 1 (j := 1) [1, 56] [(1, .string s29), (56, .string s29)] rfl (by kernel_rfl) ?_
  obtain ⟨r62, h63, hF⟩ := bind_some hF
  refine ow_pw rfl (pw_call (F := [pt b21 #[.int .i64 r23.Size, .slice r23_p1 r23.Sides.length r23_c2] 35] ++ F0) rfl rfl rfl rfl rfl rfl rfl (by kernel_rfl) (perm_of_pulls [0] rfl) (c_absent_Read _ s29 r62 h63) ?_)
  rintro _ _ ⟨r62_J, r62_p1, r62_c2, rfl, rfl, r62_hJ, r62_h3⟩
  refine nw_H (H' := [imm r62_J, pt b21 #[.int .i64 r23.Size, .slice r23_p1 r23.Sides.length r23_c2] 35] ++ F0) rfl (nw_ow ?_)
  have h32 := roN.sub r62_hJ h32
  refine ow_vals 3 (j := 5) [1, 58, 59] [(1, .string s29), (58, .agg #[.int .i64 r62.1.Size, .slice r62_p1 r62.1.Sides.length r62_c2]), (59, .int .i64 r62.2)] rfl (by kernel_rfl) ?_
  refine ow_pw rfl (pw_alloc (cs := #[.int .i64 0, .slice none 0 0]) rfl rfl rfl rfl rfl (by kernel_rfl) fun b64 => nw_ow ?_)
  refine ow_pw rfl (pw_store 0 #[.int .i64 r62.1.Size, .slice r62_p1 r62.1.Sides.length r62_c2] rfl rfl rfl rfl rfl rfl rfl (by kernel_rfl) (nw_H (H' := [pt b64 #[.int .i64 r62.1.Size, .slice r62_p1 r62.1.Sides.length r62_c2] 35, imm r62_J, pt b21 #[.int .i64 r23.Size, .slice r23_p1 r23.Sides.length r23_c2] 35] ++ F0) rfl (nw_ow ?_)))
  refine ow_vals 1 (j := 8) [1, 9, 10] [(1, .string s29), (9, .pointer (some ⟨b64, 0, none⟩)), (10, .int .i64 r62.2)] rfl (by kernel_rfl) ?_
  refine ow_end rfl ?_
  refine ew_then ?_
  obtain ⟨v66, hF, hK66⟩ := thru_some hF
  refine cw_mid (fun a w => .inl () = v66 ∧ Fr 79 [(1, .string s29), (9, .pointer (some ⟨b64, 0, none⟩))] a ∧ SAT w0 ([imm r62_J, pt b64 #[.int .i64 r62.1.Size, .slice r62_p1 r62.1.Sides.length r62_c2] 35, pt b21 #[.int .i64 r23.Size, .slice r23_p1 r23.Sides.length r23_c2] 35] ++ F0) w) ?_ ?_
  · refine cw_seq ?_
    refine cw_region ?_
    refine ow_vals 2 (j := 2) [1, 9, 61] [(1, .string s29), (9, .pointer (some ⟨b64, 0, none⟩)), (61, .bool (r62.2 != 0))] rfl (by kernel_rfl) ?_
    refine ow_end rfl ?_
    refine ew_then ?_
    rcases if_some hF with ⟨h67, hF⟩ | ⟨h67, hF⟩
    · refine cw_cond_t rfl rfl h67 ?_
      refine cw_seq ?_
      refine cw_region ?_
      refine ow_pw rfl (pw_quiet (v := .agg #[.int .i64 r62.1.Size, .slice r62_p1 r62.1.Sides.length r62_c2]) rfl rfl rfl rfl (q_load 0 rfl rfl rfl (by kernel_rfl)) (nw_ow ?_))
      refine ow_vals 1 (j := 2) [62, 63] [(62, .agg #[.int .i64 r62.1.Size, .slice r62_p1 r62.1.Sides.length r62_c2]), (63, .agg #[.int .i64 0, .slice none 0 0])] rfl (by kernel_rfl) ?_
      obtain ⟨r68, h69, hF⟩ := bind_some hF
      refine ow_pw rfl (pw_call (F := [pt b64 #[.int .i64 r62.1.Size, .slice r62_p1 r62.1.Sides.length r62_c2] 35, pt b21 #[.int .i64 r23.Size, .slice r23_p1 r23.Sides.length r23_c2] 35] ++ F0) rfl rfl rfl rfl rfl rfl rfl (by kernel_rfl) (perm_of_pulls [1] rfl) (c_law24_same _ r62.1 (⟨0, ([] : List absent_Side)⟩ : absent_Proof) r62_p1 r62_c2 none 0 r68 h69 r62_h3 (roN_nil _ _)) ?_)
      rintro _ _ ⟨rfl, rfl⟩
      refine nw_H (H' := [imm r62_J, pt b64 #[.int .i64 r62.1.Size, .slice r62_p1 r62.1.Sides.length r62_c2] 35, pt b21 #[.int .i64 r23.Size, .slice r23_p1 r23.Sides.length r23_c2] 35] ++ F0) rfl (nw_ow ?_)
      refine ow_vals 1 (j := 4) [65] [(65, .bool r68)] rfl (by kernel_rfl) ?_
      rcases if_some hF with ⟨h70, hF⟩ | ⟨h70, hF⟩
      · refine ow_slots (L' := [(65, .bool true)]) (by rw [h70]) ?_
        obtain ⟨r71, h72, hF⟩ := bind_some hF
        refine ow_pw rfl (pw_call (F := [pt b64 #[.int .i64 r62.1.Size, .slice r62_p1 r62.1.Sides.length r62_c2] 35, pt b21 #[.int .i64 r23.Size, .slice r23_p1 r23.Sides.length r23_c2] 35] ++ F0) rfl rfl rfl rfl rfl rfl rfl (by kernel_rfl) (perm_of_pulls [0] rfl) (c_law24_awake _ r71 h72) ?_)
        rintro _ _ ⟨r71_J, rfl, rfl, r71_hJ⟩
        refine nw_H (H' := [imm r71_J, pt b64 #[.int .i64 r62.1.Size, .slice r62_p1 r62.1.Sides.length r62_c2] 35, pt b21 #[.int .i64 r23.Size, .slice r23_p1 r23.Sides.length r23_c2] 35] ++ F0) rfl (nw_ow ?_)
        have h32 := roN.sub r71_hJ h32
        have r62_h3 := roN.sub r71_hJ r62_h3
        refine ow_vals 2 (j := 7) [4] [(4, .bool r71)] rfl (by kernel_rfl) ?_
        refine ow_end rfl ?_
        refine ew_then ?_
        refine cw_ret ?_
        refine ew_then_ret ?_
        have hR := Option.some.inj hF
        subst hR
        have hR := hK66
        try dsimp only [Thru] at hR
        subst hR
        exact fin1 (H1 := [imm r71_J]) (fun w hs => sat_to [1, 1, 0] 2 rfl hs) rfl (rr_tmp rfl) ⟨r71_J, rfl, rfl, (Hl.sub_trans (Hl.sub_trans (Hl.sub_trans (Hl.sub_trans r23_hJ h31) h60) r62_hJ) r71_hJ)⟩
      refine ow_slots (L' := [(65, .bool false)]) (by rw [h70]) ?_
      refine ow_vals 3 (j := 7) [4] [(4, .bool false)] rfl (by kernel_rfl) ?_
      refine ow_end rfl ?_
      refine ew_then ?_
      refine cw_ret ?_
      refine ew_then_ret ?_
      have hR := Option.some.inj hF
      subst hR
      have hR := hK66
      try dsimp only [Thru] at hR
      subst hR
      exact fin1 (H1 := [imm r62_J]) (fun w hs => sat_to [1, 1, 0] 2 rfl hs) rfl (rr_tmp rfl) ⟨r62_J, rfl, rfl, (Hl.sub_trans (Hl.sub_trans (Hl.sub_trans r23_hJ h31) h60) r62_hJ)⟩
    refine cw_cond_f rfl rfl h67 ?_
    refine cw_skip ?_
    have hR := Option.some.inj hF
    exact fun a w hf hs => ⟨hR, hf.keep [1, 9], sat_to [1, 0, 0] 0 rfl hs⟩
  rintro a w ⟨hv, hf, hs⟩
  subst hv
  replace hF := hK66
  clear hK66
  try dsimp only [Thru] at hF
  revert a w
  show CW _ _ _ 79 [(1, .string s29), (9, .pointer (some ⟨b64, 0, none⟩))] (SAT w0 ([imm r62_J, pt b64 #[.int .i64 r62.1.Size, .slice r62_p1 r62.1.Sides.length r62_c2] 35, pt b21 #[.int .i64 r23.Size, .slice r23_p1 r23.Sides.length r23_c2] 35] ++ F0))
  unfold F.law24_AbsentBytes.r4 at hF
  refine cw_seq ?_
  refine cw_region ?_
  refine ow_pw rfl (pw_quiet (v := .agg #[.int .i64 r62.1.Size, .slice r62_p1 r62.1.Sides.length r62_c2]) rfl rfl rfl rfl (q_load 1 rfl rfl rfl (by kernel_rfl)) (nw_ow ?_))
  obtain ⟨r73, h74, hF⟩ := bind_some hF
  refine ow_pw rfl (pw_call (F := [pt b64 #[.int .i64 r62.1.Size, .slice r62_p1 r62.1.Sides.length r62_c2] 35, pt b21 #[.int .i64 r23.Size, .slice r23_p1 r23.Sides.length r23_c2] 35] ++ F0) rfl rfl rfl rfl rfl rfl rfl (by kernel_rfl) (perm_of_pulls [0] rfl) (c_law24_right _ r62.1 r62_p1 r62_c2 r73 h74 r62_h3) ?_)
  rintro _ _ ⟨rfl, rfl⟩
  refine nw_H (H' := [imm r62_J, pt b64 #[.int .i64 r62.1.Size, .slice r62_p1 r62.1.Sides.length r62_c2] 35, pt b21 #[.int .i64 r23.Size, .slice r23_p1 r23.Sides.length r23_c2] 35] ++ F0) rfl (nw_ow ?_)
  refine ow_vals 1 (j := 3) [1, 9, 70] [(1, .string s29), (9, .pointer (some ⟨b64, 0, none⟩)), (70, .bool r73)] rfl (by kernel_rfl) ?_
  rcases if_some hF with ⟨h75, hF⟩ | ⟨h75, hF⟩
  · refine ow_slots (L' := [(1, .string s29), (9, .pointer (some ⟨b64, 0, none⟩)), (70, .bool true)]) (by rw [h75]) ?_
    refine ow_pw rfl (pw_quiet (v := .agg #[.int .i64 r62.1.Size, .slice r62_p1 r62.1.Sides.length r62_c2]) rfl rfl rfl rfl (q_load 1 rfl rfl rfl (by kernel_rfl)) (nw_ow ?_))
    obtain ⟨r76, h77, hF⟩ := bind_some hF
    refine ow_pw rfl (pw_call (F := [pt b64 #[.int .i64 r62.1.Size, .slice r62_p1 r62.1.Sides.length r62_c2] 35, pt b21 #[.int .i64 r23.Size, .slice r23_p1 r23.Sides.length r23_c2] 35] ++ F0) rfl rfl rfl rfl rfl rfl rfl (by kernel_rfl) (perm_of_pulls [0] rfl) (c_law24_bytes _ r62.1 r62_p1 r62_c2 r76 h77 r62_h3) ?_)
    rintro _ _ ⟨rfl, rfl⟩
    refine nw_H (H' := [imm r62_J, pt b64 #[.int .i64 r62.1.Size, .slice r62_p1 r62.1.Sides.length r62_c2] 35, pt b21 #[.int .i64 r23.Size, .slice r23_p1 r23.Sides.length r23_c2] 35] ++ F0) rfl (nw_ow ?_)
    refine ow_vals 4 (j := 9) [76] [(76, .bool (seqB r76 s29))] rfl (by kernel_rfl) ?_
    rcases if_some hF with ⟨h78, hF⟩ | ⟨h78, hF⟩
    · refine ow_slots (L' := [(76, .bool true)]) (by rw [h78]) ?_
      obtain ⟨r79, h80, hF⟩ := bind_some hF
      refine ow_pw rfl (pw_call (F := [pt b64 #[.int .i64 r62.1.Size, .slice r62_p1 r62.1.Sides.length r62_c2] 35, pt b21 #[.int .i64 r23.Size, .slice r23_p1 r23.Sides.length r23_c2] 35] ++ F0) rfl rfl rfl rfl rfl rfl rfl (by kernel_rfl) (perm_of_pulls [0] rfl) (c_law24_awake _ r79 h80) ?_)
      rintro _ _ ⟨r79_J, rfl, rfl, r79_hJ⟩
      refine nw_H (H' := [imm r79_J, pt b64 #[.int .i64 r62.1.Size, .slice r62_p1 r62.1.Sides.length r62_c2] 35, pt b21 #[.int .i64 r23.Size, .slice r23_p1 r23.Sides.length r23_c2] 35] ++ F0) rfl (nw_ow ?_)
      have r62_h3 := roN.sub r79_hJ r62_h3
      have h32 := roN.sub r79_hJ h32
      refine ow_vals 2 (j := 12) [4] [(4, .bool r79)] rfl (by kernel_rfl) ?_
      refine ow_end rfl ?_
      refine ew_then ?_
      refine cw_ret ?_
      have hR := Option.some.inj hF
      subst hR
      exact fin1 (H1 := [imm r79_J]) (fun w hs => sat_to [1, 1, 0] 2 rfl hs) rfl (rr_tmp rfl) ⟨r79_J, rfl, rfl, (Hl.sub_trans (Hl.sub_trans (Hl.sub_trans (Hl.sub_trans r23_hJ h31) h60) r62_hJ) r79_hJ)⟩
    refine ow_slots (L' := [(76, .bool false)]) (by rw [h78]) ?_
    refine ow_vals 3 (j := 12) [4] [(4, .bool false)] rfl (by kernel_rfl) ?_
    refine ow_end rfl ?_
    refine ew_then ?_
    refine cw_ret ?_
    have hR := Option.some.inj hF
    subst hR
    exact fin1 (H1 := [imm r62_J]) (fun w hs => sat_to [1, 1, 0] 2 rfl hs) rfl (rr_tmp rfl) ⟨r62_J, rfl, rfl, (Hl.sub_trans (Hl.sub_trans (Hl.sub_trans r23_hJ h31) h60) r62_hJ)⟩
  refine ow_slots (L' := [(1, .string s29), (9, .pointer (some ⟨b64, 0, none⟩)), (70, .bool false)]) (by rw [h75]) ?_
  refine ow_vals 9 (j := 12) [4] [(4, .bool false)] rfl (by kernel_rfl) ?_
  refine ow_end rfl ?_
  refine ew_then ?_
  refine cw_ret ?_
  have hR := Option.some.inj hF
  subst hR
  exact fin1 (H1 := [imm r62_J]) (fun w hs => sat_to [1, 1, 0] 2 rfl hs) rfl (rr_tmp rfl) ⟨r62_J, rfl, rfl, (Hl.sub_trans (Hl.sub_trans (Hl.sub_trans r23_hJ h31) h60) r62_hJ)⟩

end Go.Proofs.Ytileogoeoiafkaa
