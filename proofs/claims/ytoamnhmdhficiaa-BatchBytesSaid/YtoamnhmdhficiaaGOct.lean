/- What the functions compute, and that the code computes it: printed by a program of this claim (wip/tools), for the group Oct. -/
import Derived.Test.YtoamnhmdhficiaaGBatch
namespace Go.Proofs.Ytoamnhmdhficiaa
set_option linter.all false
open Go Go.RowKit Go.Fw
set_option linter.unusedVariables false

structure octet_Reader where
  s_ : ByteArray
  at_ : Int
  e_ : Int
def octet_Reader.cells (x : octet_Reader) : List Value := [.string x.s_, .int .i64 x.at_, .int .i64 x.e_]
def e_octet_Reader : Enc octet_Reader := ⟨octet_Reader.cells, 3, fun _ => rfl, fun _ => rfl, by decide⟩

def F.octet_Read (x0 : ByteArray) : Option octet_Reader :=
  some ((⟨x0, 0, 0⟩ : octet_Reader))
set_option maxRecDepth 100000 in
set_option maxHeartbeats 4000000 in
theorem c_octet_Read (I : Hl) (x0 : ByteArray) (res : octet_Reader) (hF : F.octet_Read x0 = some res) : Tr Try.prog 40 [.string x0] [imm I] (fun r H' => ∃ (b1 : Nat), r = .pointer (some ⟨b1, 0, none⟩) ∧ H' = [imm I, pt b1 #[.string res.s_, .int .i64 res.at_, .int .i64 res.e_] 90]) := by
  unfold F.octet_Read at hF
  refine tr_of_cw (fn := Try.f40) Try.func40 rfl (Nat.le_of_ble_eq_true rfl) 6 rfl fun F0 w0 => ?_
  refine cw_keep [0] (L' := [(0, .string x0)]) rfl ?_
  refine cw_state (S' := SAT w0 ([imm I] ++ F0)) (fun w hs => hs) ?_
  refine cw_seq ?_
  refine cw_region ?_
  refine ow_vals 1 (j := 1) [0] [(0, .string x0)] rfl (by kernel_rfl) ?_
  refine ow_end rfl ?_
  refine ew_then ?_
  refine cw_seq ?_
  refine cw_region ?_
  refine ow_vals 2 (j := 2) [4] [(4, .agg #[.string x0, .int .i64 0, .int .i64 0])] rfl (by kernel_rfl) ?_
  refine ow_pw rfl (pw_box (cs := #[.string x0, .int .i64 0, .int .i64 0]) rfl rfl rfl rfl rfl rfl fun b21 => nw_ow ?_)
  refine ow_vals 1 (j := 4) [2] [(2, .pointer (some ⟨b21, 0, none⟩))] rfl (by kernel_rfl) ?_
  refine ow_end rfl ?_
  refine ew_then ?_
  refine cw_ret ?_
  have hR := Option.some.inj hF
  subst hR
  exact fin1 (H1 := [imm I, pt b21 #[.string ((⟨x0, 0, 0⟩ : octet_Reader).s_), .int .i64 ((⟨x0, 0, 0⟩ : octet_Reader).at_), .int .i64 ((⟨x0, 0, 0⟩ : octet_Reader).e_)] 90]) (fun w hs => sat_to [1, 0] 0 rfl hs) rfl (rr_tmp rfl) ⟨b21, rfl, rfl⟩


def F.octet_Reader_Err (m0 : octet_Reader) : Option Int :=
  some (m0.e_)
set_option maxRecDepth 100000 in
set_option maxHeartbeats 4000000 in
theorem c_octet_Reader_Err (I : Hl) (m0 : octet_Reader) (b0 : Nat) (res : Int) (hF : F.octet_Reader_Err m0 = some res) : Tr Try.prog 55 [.pointer (some ⟨b0, 0, none⟩)] [imm I, pt b0 #[.string m0.s_, .int .i64 m0.at_, .int .i64 m0.e_] 90] (fun r H' => r = .int .i64 res ∧ H' = [imm I, pt b0 #[.string m0.s_, .int .i64 m0.at_, .int .i64 m0.e_] 90]) := by
  unfold F.octet_Reader_Err at hF
  refine tr_of_cw (fn := Try.f55) Try.func55 rfl (Nat.le_of_ble_eq_true rfl) 9 rfl fun F0 w0 => ?_
  refine cw_keep [0] (L' := [(0, .pointer (some ⟨b0, 0, none⟩))]) rfl ?_
  refine cw_state (S' := SAT w0 ([imm I, pt b0 #[.string m0.s_, .int .i64 m0.at_, .int .i64 m0.e_] 90] ++ F0)) (fun w hs => hs) ?_
  refine cw_seq ?_
  refine cw_region ?_
  refine ow_vals 1 (j := 1) [0] [(0, .pointer (some ⟨b0, 0, none⟩))] rfl (by kernel_rfl) ?_
  refine ow_end rfl ?_
  refine ew_then ?_
  refine cw_seq ?_
  refine cw_seq ?_
  refine cw_region ?_
  refine ow_vals 2 (j := 2) [0, 4] [(0, .pointer (some ⟨b0, 0, none⟩)), (4, .bool false)] rfl (by kernel_rfl) ?_
  refine ow_end rfl ?_
  refine ew_then ?_
  refine cw_cond_f rfl rfl rfl ?_
  refine cw_skip ?_
  refine ew_then ?_
  refine cw_seq ?_
  refine cw_region ?_
  refine ow_vals 3 (j := 3) [7] [(7, .pointer (some ⟨b0, 2, none⟩))] rfl (by kernel_rfl) ?_
  refine ow_pw rfl (pw_quiet (v := .int .i64 m0.e_) rfl rfl rfl rfl (q_load 1 rfl rfl rfl (by kernel_rfl)) (nw_ow ?_))
  refine ow_vals 1 (j := 5) [2] [(2, .int .i64 m0.e_)] rfl (by kernel_rfl) ?_
  refine ow_end rfl ?_
  refine ew_then ?_
  refine cw_ret ?_
  have hR := Option.some.inj hF
  subst hR
  exact fin1 (H1 := [imm I, pt b0 #[.string m0.s_, .int .i64 m0.at_, .int .i64 m0.e_] 90]) (fun w hs => sat_to [0, 0] 0 rfl hs) rfl (rr_tmp rfl) ⟨rfl, rfl⟩


def F.octet_Reader_Fail.r1 (x1 : Int) (m0 : octet_Reader) : Option (octet_Reader) :=
  if m0.e_ == 0 then (some ((⟨m0.s_, m0.at_, x1⟩ : octet_Reader))) else (some (m0))
def F.octet_Reader_Fail (x1 : Int) (m0 : octet_Reader) : Option octet_Reader :=
  Option.bind (some (())) (fun x => F.octet_Reader_Fail.r1 x1 m0)
set_option maxRecDepth 100000 in
set_option maxHeartbeats 4000000 in
theorem c_octet_Reader_Fail (I : Hl) (x1 : Int) (m0 : octet_Reader) (b0 : Nat) (res : octet_Reader) (hF : F.octet_Reader_Fail x1 m0 = some res) : Tr Try.prog 54 [.pointer (some ⟨b0, 0, none⟩), .int .i64 x1] [imm I, pt b0 #[.string m0.s_, .int .i64 m0.at_, .int .i64 m0.e_] 90] (fun r H' => r = .tuple #[] ∧ H' = [imm I, pt b0 #[.string res.s_, .int .i64 res.at_, .int .i64 res.e_] 90]) := by
  unfold F.octet_Reader_Fail at hF
  refine tr_of_cw (fn := Try.f54) Try.func54 rfl (Nat.le_of_ble_eq_true rfl) 17 rfl fun F0 w0 => ?_
  refine cw_keep [0, 1] (L' := [(0, .pointer (some ⟨b0, 0, none⟩)), (1, .int .i64 x1)]) rfl ?_
  refine cw_state (S' := SAT w0 ([imm I, pt b0 #[.string m0.s_, .int .i64 m0.at_, .int .i64 m0.e_] 90] ++ F0)) (fun w hs => hs) ?_
  obtain ⟨v21, hF, hK21⟩ := bind_some hF
  refine cw_mid (fun a w => () = v21 ∧ Fr 17 [(0, .pointer (some ⟨b0, 0, none⟩)), (1, .int .i64 x1), (12, .bool (m0.e_ == 0))] a ∧ SAT w0 ([imm I, pt b0 #[.string m0.s_, .int .i64 m0.at_, .int .i64 m0.e_] 90] ++ F0) w) ?_ ?_
  · refine cw_region ?_
    refine ow_vals 6 (j := 6) [0, 1, 6, 9] [(0, .pointer (some ⟨b0, 0, none⟩)), (1, .int .i64 x1), (6, .bool true), (9, .pointer (some ⟨b0, 2, none⟩))] rfl (by kernel_rfl) ?_
    refine ow_pw rfl (pw_quiet (v := .int .i64 m0.e_) rfl rfl rfl rfl (q_load 1 rfl rfl rfl (by kernel_rfl)) (nw_ow ?_))
    refine ow_vals 2 (j := 9) [0, 1, 12] [(0, .pointer (some ⟨b0, 0, none⟩)), (1, .int .i64 x1), (12, .bool (m0.e_ == 0))] rfl (by kernel_rfl) ?_
    refine ow_end rfl ?_
    have hR := Option.some.inj hF
    exact fun a w hf hs => ⟨hR, hf.keep [0, 1, 12], sat_to [0, 0] 0 rfl hs⟩
  · rintro a w ⟨hv, hf, hs⟩
    subst hv
    replace hF := hK21
    clear hK21
    try dsimp only at hF
    revert a w
    show CW _ _ _ 17 [(0, .pointer (some ⟨b0, 0, none⟩)), (1, .int .i64 x1), (12, .bool (m0.e_ == 0))] (SAT w0 ([imm I, pt b0 #[.string m0.s_, .int .i64 m0.at_, .int .i64 m0.e_] 90] ++ F0))
    unfold F.octet_Reader_Fail.r1 at hF
    rcases if_some hF with ⟨h22, hF⟩ | ⟨h22, hF⟩
    · refine cw_cond_t rfl rfl h22 ?_
      refine cw_region ?_
      refine ow_vals 4 (j := 4) [14, 16] [(14, .int .i64 x1), (16, .pointer (some ⟨b0, 2, none⟩))] rfl (by kernel_rfl) ?_
      refine ow_pw rfl (pw_store 1 #[.string m0.s_, .int .i64 m0.at_, .int .i64 x1] rfl rfl rfl rfl rfl rfl rfl (by kernel_rfl) (nw_H (H' := [imm I, pt b0 #[.string m0.s_, .int .i64 m0.at_, .int .i64 x1] 90] ++ F0) rfl (nw_ow ?_)))
      refine ow_end rfl ?_
      have hR := Option.some.inj hF
      subst hR
      exact fin0n (H1 := [imm I, pt b0 #[.string ((⟨m0.s_, m0.at_, x1⟩ : octet_Reader).s_), .int .i64 ((⟨m0.s_, m0.at_, x1⟩ : octet_Reader).at_), .int .i64 ((⟨m0.s_, m0.at_, x1⟩ : octet_Reader).e_)] 90]) (fun w hs => sat_to [0, 0] 0 rfl hs) rfl  ⟨rfl, rfl⟩
    · refine cw_cond_f rfl rfl h22 ?_
      refine cw_skip ?_
      have hR := Option.some.inj hF
      subst hR
      exact fin0n (H1 := [imm I, pt b0 #[.string m0.s_, .int .i64 m0.at_, .int .i64 m0.e_] 90]) (fun w hs => sat_to [0, 0] 0 rfl hs) rfl  ⟨rfl, rfl⟩


def F.octet_Reader_Raw (x1 : Int) (m0 : octet_Reader) : Option (ByteArray × octet_Reader) :=
  Option.bind (F.octet_Reader_Err m0) (fun (r21 : Int) => if r21 != 0 then (some (((ByteArray.mk #[]), m0))) else (if decide (x1 < 0) then (Option.bind (F.octet_Reader_Fail 1 m0) (fun (r25 : octet_Reader) => some (((ByteArray.mk #[]), r25)))) else (if decide (x1 > (IntKind.i64.wrap ((m0.s_.size : Int) - m0.at_))) then (Option.bind (F.octet_Reader_Fail 2 m0) (fun (r28 : octet_Reader) => some (((ByteArray.mk #[]), r28)))) else (chk (0 ≤ (IntKind.i64.wrap ((IntKind.i64.wrap (m0.at_ + x1)) - x1)) ∧ (IntKind.i64.wrap ((IntKind.i64.wrap (m0.at_ + x1)) - x1)) ≤ (IntKind.i64.wrap (m0.at_ + x1)) ∧ (IntKind.i64.wrap (m0.at_ + x1)) ≤ (m0.s_.size : Int)) (some ((m0.s_.extract (IntKind.i64.wrap ((IntKind.i64.wrap (m0.at_ + x1)) - x1)).toNat (IntKind.i64.wrap (m0.at_ + x1)).toNat, (⟨m0.s_, IntKind.i64.wrap (m0.at_ + x1), m0.e_⟩ : octet_Reader))))))))
set_option maxRecDepth 100000 in
set_option maxHeartbeats 4000000 in
theorem c_octet_Reader_Raw (I : Hl) (x1 : Int) (m0 : octet_Reader) (b0 : Nat) (res : ByteArray × octet_Reader) (hF : F.octet_Reader_Raw x1 m0 = some res) : Tr Try.prog 42 [.pointer (some ⟨b0, 0, none⟩), .int .i64 x1] [imm I, pt b0 #[.string m0.s_, .int .i64 m0.at_, .int .i64 m0.e_] 90] (fun r H' => r = .string res.1 ∧ H' = [imm I, pt b0 #[.string res.2.s_, .int .i64 res.2.at_, .int .i64 res.2.e_] 90]) := by
  unfold F.octet_Reader_Raw at hF
  refine tr_of_cw (fn := Try.f42) Try.func42 rfl (Nat.le_of_ble_eq_true rfl) 52 rfl fun F0 w0 => ?_
  refine cw_keep [0, 1] (L' := [(0, .pointer (some ⟨b0, 0, none⟩)), (1, .int .i64 x1)]) rfl ?_
  refine cw_state (S' := SAT w0 ([imm I, pt b0 #[.string m0.s_, .int .i64 m0.at_, .int .i64 m0.e_] 90] ++ F0)) (fun w hs => hs) ?_
  refine cw_seq ?_
  refine cw_region ?_
  refine ow_vals 1 (j := 1) [0, 1] [(0, .pointer (some ⟨b0, 0, none⟩)), (1, .int .i64 x1)] rfl (by kernel_rfl) ?_
  refine ow_end rfl ?_
  refine ew_then ?_
  refine cw_seq ?_
  refine cw_block ?_
  refine cw_seq ?_
  refine cw_region ?_
  refine ow_vals 1 (j := 1) [0, 1, 6] [(0, .pointer (some ⟨b0, 0, none⟩)), (1, .int .i64 x1), (6, .pointer (some ⟨b0, 0, none⟩))] rfl (by kernel_rfl) ?_
  obtain ⟨r21, h22, hF⟩ := bind_some hF
  refine ow_pw rfl (pw_call (F := [] ++ F0) rfl rfl rfl rfl rfl rfl rfl (by kernel_rfl) (perm_of_pulls [0, 0] rfl) (c_octet_Reader_Err _ m0 b0 r21 h22) ?_)
  rintro _ _ ⟨rfl, rfl⟩
  refine nw_H (H' := [imm I, pt b0 #[.string m0.s_, .int .i64 m0.at_, .int .i64 m0.e_] 90] ++ F0) rfl (nw_ow ?_)
  refine ow_vals 2 (j := 4) [0, 1, 5] [(0, .pointer (some ⟨b0, 0, none⟩)), (1, .int .i64 x1), (5, .bool (r21 != 0))] rfl (by kernel_rfl) ?_
  refine ow_end rfl ?_
  refine ew_then ?_
  rcases if_some hF with ⟨h23, hF⟩ | ⟨h23, hF⟩
  · refine cw_cond_t rfl rfl h23 ?_
    refine cw_seq ?_
    refine cw_region ?_
    refine ow_vals 1 (j := 1) [4] [(4, .string (ByteArray.mk #[]))] rfl (by kernel_rfl) ?_
    refine ow_end rfl ?_
    refine ew_then ?_
    refine cw_ret ?_
    refine ew_blk_ret ?_
    refine ew_then_ret ?_
    have hR := Option.some.inj hF
    subst hR
    exact fin1 (H1 := [imm I, pt b0 #[.string m0.s_, .int .i64 m0.at_, .int .i64 m0.e_] 90]) (fun w hs => sat_to [0, 0] 0 rfl hs) rfl (rr_tmp rfl) ⟨rfl, rfl⟩
  · refine cw_cond_f rfl rfl h23 ?_
    refine cw_seq ?_
    refine cw_region ?_
    refine ow_vals 3 (j := 3) [0, 1, 9] [(0, .pointer (some ⟨b0, 0, none⟩)), (1, .int .i64 x1), (9, .bool (decide (x1 < 0)))] rfl (by kernel_rfl) ?_
    refine ow_end rfl ?_
    refine ew_then ?_
    rcases if_some hF with ⟨h24, hF⟩ | ⟨h24, hF⟩
    · refine cw_cond_t rfl rfl h24 ?_
      refine cw_seq ?_
      refine cw_region ?_
      refine ow_vals 1 (j := 1) [12] [(12, .pointer (some ⟨b0, 0, none⟩))] rfl (by kernel_rfl) ?_
      obtain ⟨r25, h26, hF⟩ := bind_some hF
      refine ow_pw rfl (pw_call (F := [] ++ F0) rfl rfl rfl rfl rfl rfl rfl (by kernel_rfl) (perm_of_pulls [0, 0] rfl) (c_octet_Reader_Fail _ 1 m0 b0 r25 h26) ?_)
      rintro _ _ ⟨rfl, rfl⟩
      refine nw_H (H' := [imm I, pt b0 #[.string r25.s_, .int .i64 r25.at_, .int .i64 r25.e_] 90] ++ F0) rfl (nw_ow ?_)
      refine ow_end rfl ?_
      refine ew_then ?_
      refine cw_seq ?_
      refine cw_region ?_
      refine ow_vals 1 (j := 1) [4] [(4, .string (ByteArray.mk #[]))] rfl (by kernel_rfl) ?_
      refine ow_end rfl ?_
      refine ew_then ?_
      refine cw_ret ?_
      refine ew_blk_ret ?_
      refine ew_then_ret ?_
      have hR := Option.some.inj hF
      subst hR
      exact fin1 (H1 := [imm I, pt b0 #[.string r25.s_, .int .i64 r25.at_, .int .i64 r25.e_] 90]) (fun w hs => sat_to [0, 0] 0 rfl hs) rfl (rr_tmp rfl) ⟨rfl, rfl⟩
    · refine cw_cond_f rfl rfl h24 ?_
      refine cw_seq ?_
      refine cw_open 13 (SAT w0 ([imm I, pt b0 #[.string m0.s_, .int .i64 m0.at_, .int .i64 m0.e_] 90])) (by kernel_rfl) (f := 13) rfl (fun w hs => sat_drew hs) ?_
      refine aw_vals [0, 1, 2, 3, 6, 7, 8] (f' := 6) (m' := 463) [0, 1, 15, 18, 23] [(0, .pointer (some ⟨b0, 0, none⟩)), (1, .int .i64 x1), (15, .int .i64 x1), (18, .pointer (some ⟨b0, 0, none⟩)), (23, .pointer (some ⟨b0, 1, none⟩))] (fun _ _ _ _ _ h => calm_fin (P := Try.prog) (fn := Try.f42) _ _ _ _ _ h) (fun w hs => sat_pulls [0, 0] (G := [] ++ F0) rfl hs) rfl (by kernel_rfl) ?_
      refine aw_quiet 4 (m' := 479) (v := .string m0.s_) 0 [] rfl rfl rfl rfl (by kernel_rfl) (by kernel_rfl) (by kernel_rfl) (fun _ _ _ _ _ h => calm_fin (P := Try.prog) (fn := Try.f42) _ _ _ _ _ h) (fun w hs => sat_pulls [0, 0] (G := [] ++ F0) rfl hs) (q_load 1 rfl rfl rfl (by kernel_rfl)) ?_
      refine aw_vals [5] (f' := 4) (m' := 511) [0, 1, 15, 20, 23] [(0, .pointer (some ⟨b0, 0, none⟩)), (1, .int .i64 x1), (15, .int .i64 x1), (20, .int .i64 (m0.s_.size : Int)), (23, .pointer (some ⟨b0, 1, none⟩))] (fun _ _ _ _ _ h => calm_fin (P := Try.prog) (fn := Try.f42) _ _ _ _ _ h) (fun w hs => sat_pulls [0, 0] (G := [] ++ F0) rfl hs) rfl (by kernel_rfl) ?_
      refine aw_quiet 9 (m' := 1023) (v := .int .i64 m0.at_) 0 [] rfl rfl rfl rfl (by kernel_rfl) (by kernel_rfl) (by kernel_rfl) (fun _ _ _ _ _ h => calm_fin (P := Try.prog) (fn := Try.f42) _ _ _ _ _ h) (fun w hs => sat_pulls [0, 0] (G := [] ++ F0) rfl hs) (q_load 1 rfl rfl rfl (by kernel_rfl)) ?_
      refine aw_vals [10, 11, 12] (f' := 0) (m' := 8191) [0, 1, 14] [(0, .pointer (some ⟨b0, 0, none⟩)), (1, .int .i64 x1), (14, .bool (decide (x1 > (IntKind.i64.wrap ((m0.s_.size : Int) - m0.at_)))))] (fun _ _ _ _ _ h => calm_fin (P := Try.prog) (fn := Try.f42) _ _ _ _ _ h) (fun w hs => sat_pulls [0, 0] (G := [] ++ F0) rfl hs) rfl (by kernel_rfl) ?_
      refine aw_keep [0, 1, 14] (L' := [(0, .pointer (some ⟨b0, 0, none⟩)), (1, .int .i64 x1), (14, .bool (decide (x1 > (IntKind.i64.wrap ((m0.s_.size : Int) - m0.at_)))))]) rfl ?_
      refine aw_end (by kernel_rfl) ?_
      refine ew_then ?_
      rcases if_some hF with ⟨h27, hF⟩ | ⟨h27, hF⟩
      · refine cw_cond_t rfl rfl h27 ?_
        refine cw_seq ?_
        refine cw_region ?_
        refine ow_vals 1 (j := 1) [27] [(27, .pointer (some ⟨b0, 0, none⟩))] rfl (by kernel_rfl) ?_
        obtain ⟨r28, h29, hF⟩ := bind_some hF
        refine ow_pw rfl (pw_call (F := [] ++ F0) rfl rfl rfl rfl rfl rfl rfl (by kernel_rfl) (perm_of_pulls [0, 0] rfl) (c_octet_Reader_Fail _ 2 m0 b0 r28 h29) ?_)
        rintro _ _ ⟨rfl, rfl⟩
        refine nw_H (H' := [imm I, pt b0 #[.string r28.s_, .int .i64 r28.at_, .int .i64 r28.e_] 90] ++ F0) rfl (nw_ow ?_)
        refine ow_end rfl ?_
        refine ew_then ?_
        refine cw_seq ?_
        refine cw_region ?_
        refine ow_vals 1 (j := 1) [4] [(4, .string (ByteArray.mk #[]))] rfl (by kernel_rfl) ?_
        refine ow_end rfl ?_
        refine ew_then ?_
        refine cw_ret ?_
        refine ew_blk_ret ?_
        refine ew_then_ret ?_
        have hR := Option.some.inj hF
        subst hR
        exact fin1 (H1 := [imm I, pt b0 #[.string r28.s_, .int .i64 r28.at_, .int .i64 r28.e_] 90]) (fun w hs => sat_to [0, 0] 0 rfl hs) rfl (rr_tmp rfl) ⟨rfl, rfl⟩
      · refine cw_cond_f rfl rfl h27 ?_
        refine cw_skip ?_
        refine ew_blk ?_
        refine ew_then ?_
        refine cw_seq ?_
        refine cw_region ?_
        refine ow_vals 3 (j := 3) [0, 1, 29, 31] [(0, .pointer (some ⟨b0, 0, none⟩)), (1, .int .i64 x1), (29, .pointer (some ⟨b0, 0, none⟩)), (31, .pointer (some ⟨b0, 1, none⟩))] rfl (by kernel_rfl) ?_
        refine ow_pw rfl (pw_quiet (v := .int .i64 m0.at_) rfl rfl rfl rfl (q_load 1 rfl rfl rfl (by kernel_rfl)) (nw_ow ?_))
        refine ow_vals 4 (j := 8) [0, 1, 34, 36] [(0, .pointer (some ⟨b0, 0, none⟩)), (1, .int .i64 x1), (34, .int .i64 (IntKind.i64.wrap (m0.at_ + x1))), (36, .pointer (some ⟨b0, 1, none⟩))] rfl (by kernel_rfl) ?_
        refine ow_pw rfl (pw_store 1 #[.string m0.s_, .int .i64 (IntKind.i64.wrap (m0.at_ + x1)), .int .i64 m0.e_] rfl rfl rfl rfl rfl rfl rfl (by kernel_rfl) (nw_H (H' := [imm I, pt b0 #[.string m0.s_, .int .i64 (IntKind.i64.wrap (m0.at_ + x1)), .int .i64 m0.e_] 90] ++ F0) rfl (nw_ow ?_)))
        refine ow_end rfl ?_
        refine ew_then ?_
        refine cw_seq ?_
        refine cw_open 16 (SAT w0 ([imm I, pt b0 #[.string m0.s_, .int .i64 (IntKind.i64.wrap (m0.at_ + x1)), .int .i64 m0.e_] 90])) (by kernel_rfl) (f := 16) rfl (fun w hs => sat_drew hs) ?_
        refine aw_vals [0, 1, 2, 4, 5, 6, 8, 10, 11, 12] (f' := 6) (m' := 7543) [39, 43, 45, 49] [(39, .pointer (some ⟨b0, 0, none⟩)), (43, .pointer (some ⟨b0, 1, none⟩)), (45, .int .i64 x1), (49, .pointer (some ⟨b0, 1, none⟩))] (fun _ _ _ _ _ h => calm_fin (P := Try.prog) (fn := Try.f42) _ _ _ _ _ h) (fun w hs => sat_pulls [0, 0] (G := [] ++ F0) rfl hs) rfl (by kernel_rfl) ?_
        refine aw_quiet 3 (m' := 7551) (v := .string m0.s_) 0 [] rfl rfl rfl rfl (by kernel_rfl) (by kernel_rfl) (by kernel_rfl) (fun _ _ _ _ _ h => calm_fin (P := Try.prog) (fn := Try.f42) _ _ _ _ _ h) (fun w hs => sat_pulls [0, 0] (G := [] ++ F0) rfl hs) (q_load 1 rfl rfl rfl (by kernel_rfl)) ?_
        refine aw_quiet 7 (m' := 7679) (v := .int .i64 (IntKind.i64.wrap (m0.at_ + x1))) 0 [] rfl rfl rfl rfl (by kernel_rfl) (by kernel_rfl) (by kernel_rfl) (fun _ _ _ _ _ h => calm_fin (P := Try.prog) (fn := Try.f42) _ _ _ _ _ h) (fun w hs => sat_pulls [0, 0] (G := [] ++ F0) rfl hs) (q_load 1 rfl rfl rfl (by kernel_rfl)) ?_
        refine aw_vals [9] (f' := 3) (m' := 8191) [40, 46, 49] [(40, .string m0.s_), (46, .int .i64 (IntKind.i64.wrap ((IntKind.i64.wrap (m0.at_ + x1)) - x1))), (49, .pointer (some ⟨b0, 1, none⟩))] (fun _ _ _ _ _ h => calm_fin (P := Try.prog) (fn := Try.f42) _ _ _ _ _ h) (fun w hs => sat_pulls [0, 0] (G := [] ++ F0) rfl hs) rfl (by kernel_rfl) ?_
        refine aw_quiet 13 (m' := 16383) (v := .int .i64 (IntKind.i64.wrap (m0.at_ + x1))) 0 [] rfl rfl rfl rfl (by kernel_rfl) (by kernel_rfl) (by kernel_rfl) (fun _ _ _ _ _ h => calm_fin (P := Try.prog) (fn := Try.f42) _ _ _ _ _ h) (fun w hs => sat_pulls [0, 0] (G := [] ++ F0) rfl hs) (q_load 1 rfl rfl rfl (by kernel_rfl)) ?_
        obtain ⟨h30, hF⟩ := chk_some hF
        refine aw_pure 14 (m' := 32767) (v := .string (m0.s_.extract (IntKind.i64.wrap ((IntKind.i64.wrap (m0.at_ + x1)) - x1)).toNat (IntKind.i64.wrap (m0.at_ + x1)).toNat)) rfl rfl rfl rfl (by kernel_rfl) (by kernel_rfl) (fun _ _ _ _ _ h => calm_fin (P := Try.prog) (fn := Try.f42) _ _ _ _ _ h) (fun w hs => sat_pulls [0, 0] (G := [] ++ F0) rfl hs) (q_slice_str rfl (by kernel_rfl) rfl rfl rfl h30.1 h30.2.1 h30.2.2) ?_
        refine aw_vals [15] (f' := 0) (m' := 65535) [4] [(4, .string (m0.s_.extract (IntKind.i64.wrap ((IntKind.i64.wrap (m0.at_ + x1)) - x1)).toNat (IntKind.i64.wrap (m0.at_ + x1)).toNat))] (fun _ _ _ _ _ h => calm_fin (P := Try.prog) (fn := Try.f42) _ _ _ _ _ h) (fun w hs => sat_pulls [0, 0] (G := [] ++ F0) rfl hs) rfl (by kernel_rfl) ?_
        refine aw_keep [4] (L' := [(4, .string (m0.s_.extract (IntKind.i64.wrap ((IntKind.i64.wrap (m0.at_ + x1)) - x1)).toNat (IntKind.i64.wrap (m0.at_ + x1)).toNat))]) rfl ?_
        refine aw_end (by kernel_rfl) ?_
        refine ew_then ?_
        refine cw_ret ?_
        have hR := Option.some.inj hF
        subst hR
        exact fin1 (H1 := [imm I, pt b0 #[.string ((⟨m0.s_, IntKind.i64.wrap (m0.at_ + x1), m0.e_⟩ : octet_Reader).s_), .int .i64 ((⟨m0.s_, IntKind.i64.wrap (m0.at_ + x1), m0.e_⟩ : octet_Reader).at_), .int .i64 ((⟨m0.s_, IntKind.i64.wrap (m0.at_ + x1), m0.e_⟩ : octet_Reader).e_)] 90]) (fun w hs => sat_to [0, 0] 0 rfl hs) rfl (rr_tmp rfl) ⟨rfl, rfl⟩


def F.octet_Reader_Num.r1 (x36 : Int) (x37 : Int) (y39 : Int) : Option ((Int × Int) ⊕ ((Int × ByteArray × Int × Int) ⊕ (Int × octet_Reader))) :=
  some (.inl (ior .i64 (IntKind.i64.wrap (x36 * 2 ^ 8)) (IntKind.i64.wrap (y39)), IntKind.i64.wrap (x37 + 1)))
def F.octet_Reader_Num.l2 (r29 : ByteArray × octet_Reader) (x36 : Int) (x37 : Int) : Option ((Int × Int) ⊕ ((Int × ByteArray × Int × Int) ⊕ (Int × octet_Reader))) :=
  if decide (x37 < ((sbytes r29.1).length : Int)) then (Option.bind (at_ (sbytes r29.1) x37) (fun (y39 : Int) => thru (if x37 == 0 then (if y39 == 0 then (Option.bind (F.octet_Reader_Fail 4 r29.2) (fun (r44 : octet_Reader) => some (.inr (.inr (.inr ((0, r44))))))) else (some (.inl ()))) else (some (.inl ()))) (fun x => F.octet_Reader_Num.r1 x36 x37 y39))) else (some (.inr (.inl (x36, r29.2.s_, r29.2.at_, r29.2.e_))))
def F.octet_Reader_Num.r3 (x1 : Int) (x46 : Int) (s47 : ByteArray) (x48 : Int) (x49 : Int) : Option (Int × octet_Reader) :=
  Option.bind (F.octet_Reader_Err (⟨s47, x48, x49⟩ : octet_Reader)) (fun (r50 : Int) => if r50 != 0 then (some ((0, (⟨s47, x48, x49⟩ : octet_Reader)))) else (if decide (x46 > x1) then (Option.bind (F.octet_Reader_Fail 3 (⟨s47, x48, x49⟩ : octet_Reader)) (fun (r54 : octet_Reader) => some ((0, r54)))) else (some ((x46, (⟨s47, x48, x49⟩ : octet_Reader))))))
def F.octet_Reader_Num (x1 : Int) (m0 : octet_Reader) : Option (Int × octet_Reader) :=
  Option.bind (F.octet_Reader_Raw 1 m0) (fun (r21 : ByteArray × octet_Reader) => if seqB r21.1 (ByteArray.mk #[]) then (some ((0, r21.2))) else (chk (0 ≤ (0 : Int) ∧ 0 < (r21.1.size : Int)) (if decide ((IntKind.i64.wrap (bt r21.1 0)) > 7) then (Option.bind (F.octet_Reader_Fail 4 r21.2) (fun (r26 : octet_Reader) => some ((0, r26)))) else (thru (Option.bind (F.octet_Reader_Raw (IntKind.i64.wrap (bt r21.1 0)) r21.2) (fun (r29 : ByteArray × octet_Reader) => chk (r29.1.size ≤ maxLen) (iter (fun x => F.octet_Reader_Num.l2 r29 x.1 x.2) FUEL (0, 0)))) (fun x => F.octet_Reader_Num.r3 x1 x.1 x.2.1 x.2.2.1 x.2.2.2)))))
set_option maxRecDepth 100000 in
set_option maxHeartbeats 4000000 in
theorem c_octet_Reader_Num (I : Hl) (x1 : Int) (m0 : octet_Reader) (b0 : Nat) (res : Int × octet_Reader) (hF : F.octet_Reader_Num x1 m0 = some res) : Tr Try.prog 41 [.pointer (some ⟨b0, 0, none⟩), .int .i64 x1] [imm I, pt b0 #[.string m0.s_, .int .i64 m0.at_, .int .i64 m0.e_] 90] (fun r H' => r = .int .i64 res.1 ∧ H' = [imm I, pt b0 #[.string res.2.s_, .int .i64 res.2.at_, .int .i64 res.2.e_] 90]) := by
  unfold F.octet_Reader_Num at hF
  refine tr_of_cw (fn := Try.f41) Try.func41 rfl (Nat.le_of_ble_eq_true rfl) 54 rfl fun F0 w0 => ?_
  refine cw_keep [0, 1] (L' := [(0, .pointer (some ⟨b0, 0, none⟩)), (1, .int .i64 x1)]) rfl ?_
  refine cw_state (S' := SAT w0 ([imm I, pt b0 #[.string m0.s_, .int .i64 m0.at_, .int .i64 m0.e_] 90] ++ F0)) (fun w hs => hs) ?_
  refine cw_seq ?_
  refine cw_region ?_
  refine ow_vals 1 (j := 1) [0, 1] [(0, .pointer (some ⟨b0, 0, none⟩)), (1, .int .i64 x1)] rfl (by kernel_rfl) ?_
  refine ow_end rfl ?_
  refine ew_then ?_
  refine cw_seq ?_
  refine cw_region ?_
  refine ow_vals 1 (j := 1) [0, 1, 10] [(0, .pointer (some ⟨b0, 0, none⟩)), (1, .int .i64 x1), (10, .pointer (some ⟨b0, 0, none⟩))] rfl (by kernel_rfl) ?_
  obtain ⟨r21, h22, hF⟩ := bind_some hF
  refine ow_pw rfl (pw_call (F := [] ++ F0) rfl rfl rfl rfl rfl rfl rfl (by kernel_rfl) (perm_of_pulls [0, 0] rfl) (c_octet_Reader_Raw _ 1 m0 b0 r21 h22) ?_)
  rintro _ _ ⟨rfl, rfl⟩
  refine nw_H (H' := [imm I, pt b0 #[.string r21.2.s_, .int .i64 r21.2.at_, .int .i64 r21.2.e_] 90] ++ F0) rfl (nw_ow ?_)
  refine ow_vals 1 (j := 3) [0, 1, 5] [(0, .pointer (some ⟨b0, 0, none⟩)), (1, .int .i64 x1), (5, .string r21.1)] rfl (by kernel_rfl) ?_
  refine ow_end rfl ?_
  refine ew_then ?_
  refine cw_seq ?_
  refine cw_seq ?_
  refine cw_region ?_
  refine ow_vals 2 (j := 2) [0, 1, 5, 13] [(0, .pointer (some ⟨b0, 0, none⟩)), (1, .int .i64 x1), (5, .string r21.1), (13, .bool (seqB r21.1 (ByteArray.mk #[])))] rfl (by kernel_rfl) ?_
  refine ow_end rfl ?_
  refine ew_then ?_
  rcases if_some hF with ⟨h23, hF⟩ | ⟨h23, hF⟩
  · refine cw_cond_t rfl rfl h23 ?_
    refine cw_seq ?_
    refine cw_region ?_
    refine ow_vals 1 (j := 1) [4] [(4, .int .i64 0)] rfl (by kernel_rfl) ?_
    refine ow_end rfl ?_
    refine ew_then ?_
    refine cw_ret ?_
    refine ew_then_ret ?_
    have hR := Option.some.inj hF
    subst hR
    exact fin1 (H1 := [imm I, pt b0 #[.string r21.2.s_, .int .i64 r21.2.at_, .int .i64 r21.2.e_] 90]) (fun w hs => sat_to [0, 0] 0 rfl hs) rfl (rr_tmp rfl) ⟨rfl, rfl⟩
  · refine cw_cond_f rfl rfl h23 ?_
    refine cw_skip ?_
    refine ew_then ?_
    refine cw_seq ?_
    refine cw_region ?_
    refine ow_vals 1 (j := 1) [0, 1, 14] [(0, .pointer (some ⟨b0, 0, none⟩)), (1, .int .i64 x1), (14, .string r21.1)] rfl (by kernel_rfl) ?_
    obtain ⟨h24, hF⟩ := chk_some hF
    refine ow_pw rfl (pw_quiet (v := .int .u8 (bt r21.1 0)) rfl rfl rfl rfl (q_index_str rfl (by kernel_rfl) rfl rfl h24.1 h24.2) (nw_ow ?_))
    refine ow_vals 2 (j := 4) [0, 1, 6] [(0, .pointer (some ⟨b0, 0, none⟩)), (1, .int .i64 x1), (6, .int .i64 (IntKind.i64.wrap (bt r21.1 0)))] rfl (by kernel_rfl) ?_
    refine ow_end rfl ?_
    refine ew_then ?_
    refine cw_seq ?_
    refine cw_seq ?_
    refine cw_region ?_
    refine ow_vals 2 (j := 2) [0, 1, 6, 18] [(0, .pointer (some ⟨b0, 0, none⟩)), (1, .int .i64 x1), (6, .int .i64 (IntKind.i64.wrap (bt r21.1 0))), (18, .bool (decide ((IntKind.i64.wrap (bt r21.1 0)) > 7)))] rfl (by kernel_rfl) ?_
    refine ow_end rfl ?_
    refine ew_then ?_
    rcases if_some hF with ⟨h25, hF⟩ | ⟨h25, hF⟩
    · refine cw_cond_t rfl rfl h25 ?_
      refine cw_seq ?_
      refine cw_region ?_
      refine ow_vals 1 (j := 1) [19] [(19, .pointer (some ⟨b0, 0, none⟩))] rfl (by kernel_rfl) ?_
      obtain ⟨r26, h27, hF⟩ := bind_some hF
      refine ow_pw rfl (pw_call (F := [] ++ F0) rfl rfl rfl rfl rfl rfl rfl (by kernel_rfl) (perm_of_pulls [0, 0] rfl) (c_octet_Reader_Fail _ 4 r21.2 b0 r26 h27) ?_)
      rintro _ _ ⟨rfl, rfl⟩
      refine nw_H (H' := [imm I, pt b0 #[.string r26.s_, .int .i64 r26.at_, .int .i64 r26.e_] 90] ++ F0) rfl (nw_ow ?_)
      refine ow_end rfl ?_
      refine ew_then ?_
      refine cw_seq ?_
      refine cw_region ?_
      refine ow_vals 1 (j := 1) [4] [(4, .int .i64 0)] rfl (by kernel_rfl) ?_
      refine ow_end rfl ?_
      refine ew_then ?_
      refine cw_ret ?_
      refine ew_then_ret ?_
      have hR := Option.some.inj hF
      subst hR
      exact fin1 (H1 := [imm I, pt b0 #[.string r26.s_, .int .i64 r26.at_, .int .i64 r26.e_] 90]) (fun w hs => sat_to [0, 0] 0 rfl hs) rfl (rr_tmp rfl) ⟨rfl, rfl⟩
    · refine cw_cond_f rfl rfl h25 ?_
      refine cw_skip ?_
      refine ew_then ?_
      refine cw_seq ?_
      refine cw_region ?_
      refine ow_vals 1 (j := 1) [0, 1, 6, 7] [(0, .pointer (some ⟨b0, 0, none⟩)), (1, .int .i64 x1), (6, .int .i64 (IntKind.i64.wrap (bt r21.1 0))), (7, .int .i64 0)] rfl (by kernel_rfl) ?_
      refine ow_end rfl ?_
      refine ew_then ?_
      obtain ⟨v28, hF, hK28⟩ := thru_some hF
      refine cw_mid (fun a w => ∃ (x46 : Int), ∃ (s47 : ByteArray), ∃ (x48 : Int), ∃ (x49 : Int), .inl (x46, s47, x48, x49) = v28 ∧ Fr 54 [(0, .pointer (some ⟨b0, 0, none⟩)), (1, .int .i64 x1), (7, .int .i64 x46)] a ∧ SAT w0 ([imm I, pt b0 #[.string s47, .int .i64 x48, .int .i64 x49] 90] ++ F0) w) ?_ ?_
      · refine cw_seq ?_
        refine cw_region ?_
        refine ow_vals 2 (j := 2) [0, 1, 7, 21, 22] [(0, .pointer (some ⟨b0, 0, none⟩)), (1, .int .i64 x1), (7, .int .i64 0), (21, .pointer (some ⟨b0, 0, none⟩)), (22, .int .i64 (IntKind.i64.wrap (bt r21.1 0)))] rfl (by kernel_rfl) ?_
        obtain ⟨r29, h30, hF⟩ := bind_some hF
        refine ow_pw rfl (pw_call (F := [] ++ F0) rfl rfl rfl rfl rfl rfl rfl (by kernel_rfl) (perm_of_pulls [0, 0] rfl) (c_octet_Reader_Raw _ (IntKind.i64.wrap (bt r21.1 0)) r21.2 b0 r29 h30) ?_)
        rintro _ _ ⟨rfl, rfl⟩
        refine nw_H (H' := [imm I, pt b0 #[.string r29.2.s_, .int .i64 r29.2.at_, .int .i64 r29.2.e_] 90] ++ F0) rfl (nw_ow ?_)
        obtain ⟨h31, hF⟩ := chk_some hF
        refine ow_pw rfl (pw_str_bytes (E := 5) rfl rfl rfl rfl rfl (by kernel_rfl) (by kernel_rfl) (by kernel_rfl) rfl h31 fun p32 c33 => nw_ow ?_)
        refine ow_vals 2 (j := 6) [0, 1, 7, 24, 25, 26] [(0, .pointer (some ⟨b0, 0, none⟩)), (1, .int .i64 x1), (7, .int .i64 0), (24, .slice p32 (sbytes r29.1).length c33), (25, .int .i64 ((sbytes r29.1).length : Int)), (26, .int .i64 0)] rfl (by kernel_rfl) ?_
        refine ow_end rfl ?_
        refine ew_then ?_
        refine cw_block ?_
        refine fun a w hf hs => wp_rounds (fun k a w => ∃ (x36 : Int), ∃ (x37 : Int), iter (fun x => F.octet_Reader_Num.l2 r29 x.1 x.2) k (x36, x37) = some v28 ∧ Fr 54 [(0, .pointer (some ⟨b0, 0, none⟩)), (1, .int .i64 x1), (7, .int .i64 x36), (24, .slice p32 (sbytes r29.1).length c33), (25, .int .i64 ((sbytes r29.1).length : Int)), (26, .int .i64 x37)] a ∧ SAT w0 ([imm I, pt b0 #[.string r29.2.s_, .int .i64 r29.2.at_, .int .i64 r29.2.e_] 90, own (eInt .u8) 5 p32 c33 (sbytes r29.1)] ++ F0) w) ?_ FUEL a w ⟨0, 0, hF, hf.keep [0, 1, 7, 24, 25, 26], sat_to [1, 1, 0] 0 rfl hs⟩
        clear hf hs
        clear a w hF
        rintro k a w ⟨x36, x37, hF2, hf, hs⟩
        obtain ⟨k, r35, rfl, hF, hL35⟩ := iter_some hF2
        clear hF2
        revert a w
        show CW _ _ _ 54 [(0, .pointer (some ⟨b0, 0, none⟩)), (1, .int .i64 x1), (7, .int .i64 x36), (24, .slice p32 (sbytes r29.1).length c33), (25, .int .i64 ((sbytes r29.1).length : Int)), (26, .int .i64 x37)] (SAT w0 ([imm I, pt b0 #[.string r29.2.s_, .int .i64 r29.2.at_, .int .i64 r29.2.e_] 90, own (eInt .u8) 5 p32 c33 (sbytes r29.1)] ++ F0))
        try dsimp only at hF
        unfold F.octet_Reader_Num.l2 at hF
        refine cw_seq ?_
        refine cw_region ?_
        refine ow_vals 1 (j := 1) [0, 1, 7, 24, 25, 26, 27] [(0, .pointer (some ⟨b0, 0, none⟩)), (1, .int .i64 x1), (7, .int .i64 x36), (24, .slice p32 (sbytes r29.1).length c33), (25, .int .i64 ((sbytes r29.1).length : Int)), (26, .int .i64 x37), (27, .bool (decide (x37 < ((sbytes r29.1).length : Int))))] rfl (by kernel_rfl) ?_
        refine ow_end rfl ?_
        refine ew_then ?_
        refine cw_seq ?_
        rcases if_some hF with ⟨h38, hF⟩ | ⟨h38, hF⟩
        · refine cw_cond_t rfl rfl h38 ?_
          refine cw_skip ?_
          refine ew_then ?_
          refine cw_seq ?_
          refine cw_block ?_
          refine cw_seq ?_
          refine cw_region ?_
          refine ow_vals 1 (j := 1) [0, 1, 7, 24, 25, 26, 28] [(0, .pointer (some ⟨b0, 0, none⟩)), (1, .int .i64 x1), (7, .int .i64 x36), (24, .slice p32 (sbytes r29.1).length c33), (25, .int .i64 ((sbytes r29.1).length : Int)), (26, .int .i64 x37), (28, .int .i64 x37)] rfl (by kernel_rfl) ?_
          obtain ⟨y39, h40, hF⟩ := bind_some hF
          refine ow_pw rfl (pw_quiet (v := .pointer (some ((base p32).add (x37.toNat * 1)))) rfl rfl rfl rfl (q_index_own 2 1 rfl rfl (by kernel_rfl) rfl rfl (at_some h40).1 (at_lt h40)) (nw_ow ?_))
          refine ow_pw rfl (pw_quiet (v := .int .u8 y39) rfl rfl rfl rfl (q_load_own0 2 1 rfl rfl rfl rfl (at_some h40).2 (by kernel_rfl)) (nw_ow ?_))
          refine ow_vals 2 (j := 5) [0, 1, 7, 8, 9, 24, 25, 26] [(0, .pointer (some ⟨b0, 0, none⟩)), (1, .int .i64 x1), (7, .int .i64 x36), (8, .int .i64 x37), (9, .int .u8 y39), (24, .slice p32 (sbytes r29.1).length c33), (25, .int .i64 ((sbytes r29.1).length : Int)), (26, .int .i64 x37)] rfl (by kernel_rfl) ?_
          refine ow_end rfl ?_
          refine ew_then ?_
          obtain ⟨v41, hF, hK41⟩ := thru_some hF
          refine cw_mid (fun a w => .inl () = v41 ∧ Fr 54 [(0, .pointer (some ⟨b0, 0, none⟩)), (1, .int .i64 x1), (7, .int .i64 x36), (9, .int .u8 y39), (24, .slice p32 (sbytes r29.1).length c33), (25, .int .i64 ((sbytes r29.1).length : Int)), (26, .int .i64 x37)] a ∧ SAT w0 ([imm I, pt b0 #[.string r29.2.s_, .int .i64 r29.2.at_, .int .i64 r29.2.e_] 90, own (eInt .u8) 5 p32 c33 (sbytes r29.1)] ++ F0) w) ?_ ?_
          · refine cw_seq ?_
            refine cw_region ?_
            refine ow_vals 3 (j := 3) [0, 1, 7, 9, 24, 25, 26, 33] [(0, .pointer (some ⟨b0, 0, none⟩)), (1, .int .i64 x1), (7, .int .i64 x36), (9, .int .u8 y39), (24, .slice p32 (sbytes r29.1).length c33), (25, .int .i64 ((sbytes r29.1).length : Int)), (26, .int .i64 x37), (33, .bool (x37 == 0))] rfl (by kernel_rfl) ?_
            rcases if_some hF with ⟨h42, hF⟩ | ⟨h42, hF⟩
            · refine ow_slots (L' := [(0, .pointer (some ⟨b0, 0, none⟩)), (1, .int .i64 x1), (7, .int .i64 x36), (9, .int .u8 y39), (24, .slice p32 (sbytes r29.1).length c33), (25, .int .i64 ((sbytes r29.1).length : Int)), (26, .int .i64 x37), (33, .bool true)]) (by rw [h42]) ?_
              refine ow_vals 3 (j := 6) [0, 1, 7, 9, 24, 25, 26, 36] [(0, .pointer (some ⟨b0, 0, none⟩)), (1, .int .i64 x1), (7, .int .i64 x36), (9, .int .u8 y39), (24, .slice p32 (sbytes r29.1).length c33), (25, .int .i64 ((sbytes r29.1).length : Int)), (26, .int .i64 x37), (36, .bool (y39 == 0))] rfl (by kernel_rfl) ?_
              refine ow_end rfl ?_
              refine ew_then ?_
              rcases if_some hF with ⟨h43, hF⟩ | ⟨h43, hF⟩
              · refine cw_cond_t rfl rfl h43 ?_
                refine cw_seq ?_
                refine cw_region ?_
                refine ow_vals 1 (j := 1) [37] [(37, .pointer (some ⟨b0, 0, none⟩))] rfl (by kernel_rfl) ?_
                obtain ⟨r44, h45, hF⟩ := bind_some hF
                refine ow_pw rfl (pw_call (F := [own (eInt .u8) 5 p32 c33 (sbytes r29.1)] ++ F0) rfl rfl rfl rfl rfl rfl rfl (by kernel_rfl) (perm_of_pulls [0, 0] rfl) (c_octet_Reader_Fail _ 4 r29.2 b0 r44 h45) ?_)
                rintro _ _ ⟨rfl, rfl⟩
                refine nw_H (H' := [imm I, pt b0 #[.string r44.s_, .int .i64 r44.at_, .int .i64 r44.e_] 90, own (eInt .u8) 5 p32 c33 (sbytes r29.1)] ++ F0) rfl (nw_ow ?_)
                refine ow_end rfl ?_
                refine ew_then ?_
                refine cw_seq ?_
                refine cw_region ?_
                refine ow_vals 1 (j := 1) [4] [(4, .int .i64 0)] rfl (by kernel_rfl) ?_
                refine ow_end rfl ?_
                refine ew_then ?_
                refine cw_ret ?_
                refine ew_then_ret ?_
                refine ew_blk_ret ?_
                refine ew_then_ret ?_
                refine ew_then_ret ?_
                refine ew_blk_ret ?_
                refine ew_then_ret ?_
                have hR := Option.some.inj hF
                subst hR
                have hR := hK41
                try dsimp only [Thru] at hR
                subst hR
                have hR := hL35
                try dsimp only at hR
                subst hR
                have hR := hK28
                try dsimp only [Thru] at hR
                subst hR
                exact fin1 (H1 := [imm I, pt b0 #[.string r44.s_, .int .i64 r44.at_, .int .i64 r44.e_] 90]) (fun w hs => sat_to [2, 0, 0] 1 rfl hs) rfl (rr_tmp rfl) ⟨rfl, rfl⟩
              · refine cw_cond_f rfl rfl h43 ?_
                refine cw_skip ?_
                have hR := Option.some.inj hF
                exact fun a w hf hs => ⟨hR, hf.keep [0, 1, 7, 9, 24, 25, 26], sat_to [0, 0, 0] 0 rfl hs⟩
            · refine ow_slots (L' := [(0, .pointer (some ⟨b0, 0, none⟩)), (1, .int .i64 x1), (7, .int .i64 x36), (9, .int .u8 y39), (24, .slice p32 (sbytes r29.1).length c33), (25, .int .i64 ((sbytes r29.1).length : Int)), (26, .int .i64 x37), (33, .bool false)]) (by rw [h42]) ?_
              refine ow_vals 3 (j := 6) [0, 1, 7, 9, 24, 25, 26, 36] [(0, .pointer (some ⟨b0, 0, none⟩)), (1, .int .i64 x1), (7, .int .i64 x36), (9, .int .u8 y39), (24, .slice p32 (sbytes r29.1).length c33), (25, .int .i64 ((sbytes r29.1).length : Int)), (26, .int .i64 x37), (36, .bool false)] rfl (by kernel_rfl) ?_
              refine ow_end rfl ?_
              refine ew_then ?_
              refine cw_cond_f rfl rfl rfl ?_
              refine cw_skip ?_
              have hR := Option.some.inj hF
              exact fun a w hf hs => ⟨hR, hf.keep [0, 1, 7, 9, 24, 25, 26], sat_to [0, 0, 0] 0 rfl hs⟩
          · rintro a w ⟨hv, hf, hs⟩
            subst hv
            replace hF := hK41
            clear hK41
            try dsimp only [Thru] at hF
            revert a w
            show CW _ _ _ 54 [(0, .pointer (some ⟨b0, 0, none⟩)), (1, .int .i64 x1), (7, .int .i64 x36), (9, .int .u8 y39), (24, .slice p32 (sbytes r29.1).length c33), (25, .int .i64 ((sbytes r29.1).length : Int)), (26, .int .i64 x37)] (SAT w0 ([imm I, pt b0 #[.string r29.2.s_, .int .i64 r29.2.at_, .int .i64 r29.2.e_] 90, own (eInt .u8) 5 p32 c33 (sbytes r29.1)] ++ F0))
            unfold F.octet_Reader_Num.r1 at hF
            refine cw_region ?_
            refine ow_vals 6 (j := 6) [0, 1, 7, 24, 25, 26] [(0, .pointer (some ⟨b0, 0, none⟩)), (1, .int .i64 x1), (7, .int .i64 (ior .i64 (IntKind.i64.wrap (x36 * 2 ^ 8)) (IntKind.i64.wrap (y39)))), (24, .slice p32 (sbytes r29.1).length c33), (25, .int .i64 ((sbytes r29.1).length : Int)), (26, .int .i64 x37)] rfl (by kernel_rfl) ?_
            refine ow_end rfl ?_
            refine ew_blk ?_
            refine ew_then ?_
            refine cw_region ?_
            refine ow_vals 2 (j := 2) [0, 1, 7, 24, 25, 26] [(0, .pointer (some ⟨b0, 0, none⟩)), (1, .int .i64 x1), (7, .int .i64 (ior .i64 (IntKind.i64.wrap (x36 * 2 ^ 8)) (IntKind.i64.wrap (y39)))), (24, .slice p32 (sbytes r29.1).length c33), (25, .int .i64 ((sbytes r29.1).length : Int)), (26, .int .i64 (IntKind.i64.wrap (x37 + 1)))] rfl (by kernel_rfl) ?_
            refine ow_end rfl ?_
            have hR := Option.some.inj hF
            subst hR
            have hR := hL35
            try dsimp only at hR
            exact fun a w hf hs => ⟨k, Nat.lt_succ_self k, ior .i64 (IntKind.i64.wrap (x36 * 2 ^ 8)) (IntKind.i64.wrap (y39)), IntKind.i64.wrap (x37 + 1), hR, hf.keep [0, 1, 7, 24, 25, 26], sat_to [0, 0, 0] 0 rfl hs⟩
        · refine cw_cond_f rfl rfl h38 ?_
          refine cw_exit ?_
          refine ew_then_exit ?_
          refine ew_then_exit ?_
          refine ew_blk_exit ?_
          have hR := Option.some.inj hF
          subst hR
          have hR := hL35
          try dsimp only at hR
          exact fun a w hf hs => ⟨x36, r29.2.s_, r29.2.at_, r29.2.e_, hR, hf.keep [0, 1, 7], sat_to [2, 0, 0] 1 rfl hs⟩
      · rintro a w ⟨x46, s47, x48, x49, hv, hf, hs⟩
        subst hv
        replace hF := hK28
        clear hK28
        try dsimp only [Thru] at hF
        revert a w
        show CW _ _ _ 54 [(0, .pointer (some ⟨b0, 0, none⟩)), (1, .int .i64 x1), (7, .int .i64 x46)] (SAT w0 ([imm I, pt b0 #[.string s47, .int .i64 x48, .int .i64 x49] 90] ++ F0))
        unfold F.octet_Reader_Num.r3 at hF
        refine cw_seq ?_
        refine cw_seq ?_
        refine cw_region ?_
        refine ow_vals 1 (j := 1) [0, 1, 7, 45] [(0, .pointer (some ⟨b0, 0, none⟩)), (1, .int .i64 x1), (7, .int .i64 x46), (45, .pointer (some ⟨b0, 0, none⟩))] rfl (by kernel_rfl) ?_
        obtain ⟨r50, h51, hF⟩ := bind_some hF
        refine ow_pw rfl (pw_call (F := [] ++ F0) rfl rfl rfl rfl rfl rfl rfl (by kernel_rfl) (perm_of_pulls [0, 0] rfl) (c_octet_Reader_Err _ (⟨s47, x48, x49⟩ : octet_Reader) b0 r50 h51) ?_)
        rintro _ _ ⟨rfl, rfl⟩
        refine nw_H (H' := [imm I, pt b0 #[.string ((⟨s47, x48, x49⟩ : octet_Reader).s_), .int .i64 ((⟨s47, x48, x49⟩ : octet_Reader).at_), .int .i64 ((⟨s47, x48, x49⟩ : octet_Reader).e_)] 90] ++ F0) rfl (nw_ow ?_)
        refine ow_vals 1 (j := 3) [0, 1, 7, 47] [(0, .pointer (some ⟨b0, 0, none⟩)), (1, .int .i64 x1), (7, .int .i64 x46), (47, .bool (r50 != 0))] rfl (by kernel_rfl) ?_
        refine ow_end rfl ?_
        refine ew_then ?_
        rcases if_some hF with ⟨h52, hF⟩ | ⟨h52, hF⟩
        · refine cw_cond_t rfl rfl h52 ?_
          refine cw_seq ?_
          refine cw_region ?_
          refine ow_vals 1 (j := 1) [4] [(4, .int .i64 0)] rfl (by kernel_rfl) ?_
          refine ow_end rfl ?_
          refine ew_then ?_
          refine cw_ret ?_
          refine ew_then_ret ?_
          have hR := Option.some.inj hF
          subst hR
          exact fin1 (H1 := [imm I, pt b0 #[.string ((⟨s47, x48, x49⟩ : octet_Reader).s_), .int .i64 ((⟨s47, x48, x49⟩ : octet_Reader).at_), .int .i64 ((⟨s47, x48, x49⟩ : octet_Reader).e_)] 90]) (fun w hs => sat_to [0, 0] 0 rfl hs) rfl (rr_tmp rfl) ⟨rfl, rfl⟩
        · refine cw_cond_f rfl rfl h52 ?_
          refine cw_skip ?_
          refine ew_then ?_
          refine cw_seq ?_
          refine cw_seq ?_
          refine cw_region ?_
          refine ow_vals 3 (j := 3) [0, 7, 50] [(0, .pointer (some ⟨b0, 0, none⟩)), (7, .int .i64 x46), (50, .bool (decide (x46 > x1)))] rfl (by kernel_rfl) ?_
          refine ow_end rfl ?_
          refine ew_then ?_
          rcases if_some hF with ⟨h53, hF⟩ | ⟨h53, hF⟩
          · refine cw_cond_t rfl rfl h53 ?_
            refine cw_seq ?_
            refine cw_region ?_
            refine ow_vals 1 (j := 1) [51] [(51, .pointer (some ⟨b0, 0, none⟩))] rfl (by kernel_rfl) ?_
            obtain ⟨r54, h55, hF⟩ := bind_some hF
            refine ow_pw rfl (pw_call (F := [] ++ F0) rfl rfl rfl rfl rfl rfl rfl (by kernel_rfl) (perm_of_pulls [0, 0] rfl) (c_octet_Reader_Fail _ 3 (⟨s47, x48, x49⟩ : octet_Reader) b0 r54 h55) ?_)
            rintro _ _ ⟨rfl, rfl⟩
            refine nw_H (H' := [imm I, pt b0 #[.string r54.s_, .int .i64 r54.at_, .int .i64 r54.e_] 90] ++ F0) rfl (nw_ow ?_)
            refine ow_end rfl ?_
            refine ew_then ?_
            refine cw_seq ?_
            refine cw_region ?_
            refine ow_vals 1 (j := 1) [4] [(4, .int .i64 0)] rfl (by kernel_rfl) ?_
            refine ow_end rfl ?_
            refine ew_then ?_
            refine cw_ret ?_
            refine ew_then_ret ?_
            have hR := Option.some.inj hF
            subst hR
            exact fin1 (H1 := [imm I, pt b0 #[.string r54.s_, .int .i64 r54.at_, .int .i64 r54.e_] 90]) (fun w hs => sat_to [0, 0] 0 rfl hs) rfl (rr_tmp rfl) ⟨rfl, rfl⟩
          · refine cw_cond_f rfl rfl h53 ?_
            refine cw_skip ?_
            refine ew_then ?_
            refine cw_seq ?_
            refine cw_region ?_
            refine ow_vals 2 (j := 2) [4] [(4, .int .i64 x46)] rfl (by kernel_rfl) ?_
            refine ow_end rfl ?_
            refine ew_then ?_
            refine cw_ret ?_
            have hR := Option.some.inj hF
            subst hR
            exact fin1 (H1 := [imm I, pt b0 #[.string ((⟨s47, x48, x49⟩ : octet_Reader).s_), .int .i64 ((⟨s47, x48, x49⟩ : octet_Reader).at_), .int .i64 ((⟨s47, x48, x49⟩ : octet_Reader).e_)] 90]) (fun w hs => sat_to [0, 0] 0 rfl hs) rfl (rr_tmp rfl) ⟨rfl, rfl⟩


def F.octet_Reader_Left (m0 : octet_Reader) : Option Int :=
  Option.bind (F.octet_Reader_Err m0) (fun (r21 : Int) => if r21 != 0 then (some (0)) else (some ((IntKind.i64.wrap ((m0.s_.size : Int) - m0.at_)))))
set_option maxRecDepth 100000 in
set_option maxHeartbeats 4000000 in
theorem c_octet_Reader_Left (I : Hl) (m0 : octet_Reader) (b0 : Nat) (res : Int) (hF : F.octet_Reader_Left m0 = some res) : Tr Try.prog 56 [.pointer (some ⟨b0, 0, none⟩)] [imm I, pt b0 #[.string m0.s_, .int .i64 m0.at_, .int .i64 m0.e_] 90] (fun r H' => r = .int .i64 res ∧ H' = [imm I, pt b0 #[.string m0.s_, .int .i64 m0.at_, .int .i64 m0.e_] 90]) := by
  unfold F.octet_Reader_Left at hF
  refine tr_of_cw (fn := Try.f56) Try.func56 rfl (Nat.le_of_ble_eq_true rfl) 16 rfl fun F0 w0 => ?_
  refine cw_keep [0] (L' := [(0, .pointer (some ⟨b0, 0, none⟩))]) rfl ?_
  refine cw_state (S' := SAT w0 ([imm I, pt b0 #[.string m0.s_, .int .i64 m0.at_, .int .i64 m0.e_] 90] ++ F0)) (fun w hs => hs) ?_
  refine cw_seq ?_
  refine cw_region ?_
  refine ow_vals 1 (j := 1) [0] [(0, .pointer (some ⟨b0, 0, none⟩))] rfl (by kernel_rfl) ?_
  refine ow_end rfl ?_
  refine ew_then ?_
  refine cw_seq ?_
  refine cw_seq ?_
  refine cw_region ?_
  refine ow_vals 1 (j := 1) [0, 3] [(0, .pointer (some ⟨b0, 0, none⟩)), (3, .pointer (some ⟨b0, 0, none⟩))] rfl (by kernel_rfl) ?_
  obtain ⟨r21, h22, hF⟩ := bind_some hF
  refine ow_pw rfl (pw_call (F := [] ++ F0) rfl rfl rfl rfl rfl rfl rfl (by kernel_rfl) (perm_of_pulls [0, 0] rfl) (c_octet_Reader_Err _ m0 b0 r21 h22) ?_)
  rintro _ _ ⟨rfl, rfl⟩
  refine nw_H (H' := [imm I, pt b0 #[.string m0.s_, .int .i64 m0.at_, .int .i64 m0.e_] 90] ++ F0) rfl (nw_ow ?_)
  refine ow_vals 1 (j := 3) [0, 5] [(0, .pointer (some ⟨b0, 0, none⟩)), (5, .bool (r21 != 0))] rfl (by kernel_rfl) ?_
  refine ow_end rfl ?_
  refine ew_then ?_
  rcases if_some hF with ⟨h23, hF⟩ | ⟨h23, hF⟩
  · refine cw_cond_t rfl rfl h23 ?_
    refine cw_seq ?_
    refine cw_region ?_
    refine ow_vals 1 (j := 1) [2] [(2, .int .i64 0)] rfl (by kernel_rfl) ?_
    refine ow_end rfl ?_
    refine ew_then ?_
    refine cw_ret ?_
    refine ew_then_ret ?_
    have hR := Option.some.inj hF
    subst hR
    exact fin1 (H1 := [imm I, pt b0 #[.string m0.s_, .int .i64 m0.at_, .int .i64 m0.e_] 90]) (fun w hs => sat_to [0, 0] 0 rfl hs) rfl (rr_tmp rfl) ⟨rfl, rfl⟩
  · refine cw_cond_f rfl rfl h23 ?_
    refine cw_skip ?_
    refine ew_then ?_
    refine cw_seq ?_
    refine cw_open 11 (SAT w0 ([imm I, pt b0 #[.string m0.s_, .int .i64 m0.at_, .int .i64 m0.e_] 90])) (by kernel_rfl) (f := 11) rfl (fun w hs => sat_drew hs) ?_
    refine aw_vals [0, 1, 2, 5, 6, 7] (f' := 5) (m' := 231) [8, 13] [(8, .pointer (some ⟨b0, 0, none⟩)), (13, .pointer (some ⟨b0, 1, none⟩))] (fun _ _ _ _ _ h => calm_fin (P := Try.prog) (fn := Try.f56) _ _ _ _ _ h) (fun w hs => sat_pulls [0, 0] (G := [] ++ F0) rfl hs) rfl (by kernel_rfl) ?_
    refine aw_quiet 3 (m' := 239) (v := .string m0.s_) 0 [] rfl rfl rfl rfl (by kernel_rfl) (by kernel_rfl) (by kernel_rfl) (fun _ _ _ _ _ h => calm_fin (P := Try.prog) (fn := Try.f56) _ _ _ _ _ h) (fun w hs => sat_pulls [0, 0] (G := [] ++ F0) rfl hs) (q_load 1 rfl rfl rfl (by kernel_rfl)) ?_
    refine aw_vals [4] (f' := 3) (m' := 255) [10, 13] [(10, .int .i64 (m0.s_.size : Int)), (13, .pointer (some ⟨b0, 1, none⟩))] (fun _ _ _ _ _ h => calm_fin (P := Try.prog) (fn := Try.f56) _ _ _ _ _ h) (fun w hs => sat_pulls [0, 0] (G := [] ++ F0) rfl hs) rfl (by kernel_rfl) ?_
    refine aw_quiet 8 (m' := 511) (v := .int .i64 m0.at_) 0 [] rfl rfl rfl rfl (by kernel_rfl) (by kernel_rfl) (by kernel_rfl) (fun _ _ _ _ _ h => calm_fin (P := Try.prog) (fn := Try.f56) _ _ _ _ _ h) (fun w hs => sat_pulls [0, 0] (G := [] ++ F0) rfl hs) (q_load 1 rfl rfl rfl (by kernel_rfl)) ?_
    refine aw_vals [9, 10] (f' := 0) (m' := 2047) [2] [(2, .int .i64 (IntKind.i64.wrap ((m0.s_.size : Int) - m0.at_)))] (fun _ _ _ _ _ h => calm_fin (P := Try.prog) (fn := Try.f56) _ _ _ _ _ h) (fun w hs => sat_pulls [0, 0] (G := [] ++ F0) rfl hs) rfl (by kernel_rfl) ?_
    refine aw_keep [2] (L' := [(2, .int .i64 (IntKind.i64.wrap ((m0.s_.size : Int) - m0.at_)))]) rfl ?_
    refine aw_end (by kernel_rfl) ?_
    refine ew_then ?_
    refine cw_ret ?_
    have hR := Option.some.inj hF
    subst hR
    exact fin1 (H1 := [imm I, pt b0 #[.string m0.s_, .int .i64 m0.at_, .int .i64 m0.e_] 90]) (fun w hs => sat_to [0, 0] 0 rfl hs) rfl (rr_tmp rfl) ⟨rfl, rfl⟩


def F.octet_Reader_End (m0 : octet_Reader) : Option (Int × octet_Reader) :=
  Option.bind (F.octet_Reader_Left m0) (fun (r21 : Int) => if decide (r21 > 0) then (Option.bind (F.octet_Reader_Fail 4 m0) (fun (r24 : octet_Reader) => Option.bind (F.octet_Reader_Err r24) (fun (r26 : Int) => some ((r26, r24))))) else (Option.bind (F.octet_Reader_Err m0) (fun (r28 : Int) => some ((r28, m0)))))
set_option maxRecDepth 100000 in
set_option maxHeartbeats 4000000 in
theorem c_octet_Reader_End (I : Hl) (m0 : octet_Reader) (b0 : Nat) (res : Int × octet_Reader) (hF : F.octet_Reader_End m0 = some res) : Tr Try.prog 43 [.pointer (some ⟨b0, 0, none⟩)] [imm I, pt b0 #[.string m0.s_, .int .i64 m0.at_, .int .i64 m0.e_] 90] (fun r H' => r = .int .i64 res.1 ∧ H' = [imm I, pt b0 #[.string res.2.s_, .int .i64 res.2.at_, .int .i64 res.2.e_] 90]) := by
  unfold F.octet_Reader_End at hF
  refine tr_of_cw (fn := Try.f43) Try.func43 rfl (Nat.le_of_ble_eq_true rfl) 10 rfl fun F0 w0 => ?_
  refine cw_keep [0] (L' := [(0, .pointer (some ⟨b0, 0, none⟩))]) rfl ?_
  refine cw_state (S' := SAT w0 ([imm I, pt b0 #[.string m0.s_, .int .i64 m0.at_, .int .i64 m0.e_] 90] ++ F0)) (fun w hs => hs) ?_
  refine cw_seq ?_
  refine cw_region ?_
  refine ow_vals 1 (j := 1) [0] [(0, .pointer (some ⟨b0, 0, none⟩))] rfl (by kernel_rfl) ?_
  refine ow_end rfl ?_
  refine ew_then ?_
  refine cw_seq ?_
  refine cw_seq ?_
  refine cw_region ?_
  refine ow_vals 1 (j := 1) [0, 3] [(0, .pointer (some ⟨b0, 0, none⟩)), (3, .pointer (some ⟨b0, 0, none⟩))] rfl (by kernel_rfl) ?_
  obtain ⟨r21, h22, hF⟩ := bind_some hF
  refine ow_pw rfl (pw_call (F := [] ++ F0) rfl rfl rfl rfl rfl rfl rfl (by kernel_rfl) (perm_of_pulls [0, 0] rfl) (c_octet_Reader_Left _ m0 b0 r21 h22) ?_)
  rintro _ _ ⟨rfl, rfl⟩
  refine nw_H (H' := [imm I, pt b0 #[.string m0.s_, .int .i64 m0.at_, .int .i64 m0.e_] 90] ++ F0) rfl (nw_ow ?_)
  refine ow_vals 1 (j := 3) [0, 5] [(0, .pointer (some ⟨b0, 0, none⟩)), (5, .bool (decide (r21 > 0)))] rfl (by kernel_rfl) ?_
  refine ow_end rfl ?_
  refine ew_then ?_
  rcases if_some hF with ⟨h23, hF⟩ | ⟨h23, hF⟩
  · refine cw_cond_t rfl rfl h23 ?_
    refine cw_region ?_
    refine ow_vals 1 (j := 1) [0, 6] [(0, .pointer (some ⟨b0, 0, none⟩)), (6, .pointer (some ⟨b0, 0, none⟩))] rfl (by kernel_rfl) ?_
    obtain ⟨r24, h25, hF⟩ := bind_some hF
    refine ow_pw rfl (pw_call (F := [] ++ F0) rfl rfl rfl rfl rfl rfl rfl (by kernel_rfl) (perm_of_pulls [0, 0] rfl) (c_octet_Reader_Fail _ 4 m0 b0 r24 h25) ?_)
    rintro _ _ ⟨rfl, rfl⟩
    refine nw_H (H' := [imm I, pt b0 #[.string r24.s_, .int .i64 r24.at_, .int .i64 r24.e_] 90] ++ F0) rfl (nw_ow ?_)
    refine ow_end rfl ?_
    refine ew_then ?_
    refine cw_seq ?_
    refine cw_region ?_
    refine ow_vals 1 (j := 1) [8] [(8, .pointer (some ⟨b0, 0, none⟩))] rfl (by kernel_rfl) ?_
    obtain ⟨r26, h27, hF⟩ := bind_some hF
    refine ow_pw rfl (pw_call (F := [] ++ F0) rfl rfl rfl rfl rfl rfl rfl (by kernel_rfl) (perm_of_pulls [0, 0] rfl) (c_octet_Reader_Err _ r24 b0 r26 h27) ?_)
    rintro _ _ ⟨rfl, rfl⟩
    refine nw_H (H' := [imm I, pt b0 #[.string r24.s_, .int .i64 r24.at_, .int .i64 r24.e_] 90] ++ F0) rfl (nw_ow ?_)
    refine ow_vals 1 (j := 3) [2] [(2, .int .i64 r26)] rfl (by kernel_rfl) ?_
    refine ow_end rfl ?_
    refine ew_then ?_
    refine cw_ret ?_
    have hR := Option.some.inj hF
    subst hR
    exact fin1 (H1 := [imm I, pt b0 #[.string r24.s_, .int .i64 r24.at_, .int .i64 r24.e_] 90]) (fun w hs => sat_to [0, 0] 0 rfl hs) rfl (rr_tmp rfl) ⟨rfl, rfl⟩
  · refine cw_cond_f rfl rfl h23 ?_
    refine cw_skip ?_
    refine ew_then ?_
    refine cw_seq ?_
    refine cw_region ?_
    refine ow_vals 1 (j := 1) [8] [(8, .pointer (some ⟨b0, 0, none⟩))] rfl (by kernel_rfl) ?_
    obtain ⟨r28, h29, hF⟩ := bind_some hF
    refine ow_pw rfl (pw_call (F := [] ++ F0) rfl rfl rfl rfl rfl rfl rfl (by kernel_rfl) (perm_of_pulls [0, 0] rfl) (c_octet_Reader_Err _ m0 b0 r28 h29) ?_)
    rintro _ _ ⟨rfl, rfl⟩
    refine nw_H (H' := [imm I, pt b0 #[.string m0.s_, .int .i64 m0.at_, .int .i64 m0.e_] 90] ++ F0) rfl (nw_ow ?_)
    refine ow_vals 1 (j := 3) [2] [(2, .int .i64 r28)] rfl (by kernel_rfl) ?_
    refine ow_end rfl ?_
    refine ew_then ?_
    refine cw_ret ?_
    have hR := Option.some.inj hF
    subst hR
    exact fin1 (H1 := [imm I, pt b0 #[.string m0.s_, .int .i64 m0.at_, .int .i64 m0.e_] 90]) (fun w hs => sat_to [0, 0] 0 rfl hs) rfl (rr_tmp rfl) ⟨rfl, rfl⟩


def F.octet_Num.l2 (x26 : Int) (s27 : ByteArray) : Option ((Int × ByteArray) ⊕ (ByteArray)) :=
  if decide (x26 > 0) then (chk ((bstr ([IntKind.u8.wrap (x26)] : List Int)).size + s27.size ≤ 9223372036854775807) (some (.inl (x26.fdiv (2 ^ 8), (bstr ([IntKind.u8.wrap (x26)] : List Int)) ++ s27)))) else (some (.inr (s27)))
def F.octet_Num.r3 (s32 : ByteArray) : Option (ByteArray) :=
  chk ((bstr ([IntKind.u8.wrap ((s32.size : Int))] : List Int)).size + s32.size ≤ 9223372036854775807) (some (((bstr ([IntKind.u8.wrap ((s32.size : Int))] : List Int)) ++ s32)))
def F.octet_Num.r1 (x0 : Int) : Option (ByteArray) :=
  Option.bind (iter (fun x => F.octet_Num.l2 x.1 x.2) FUEL (x0, (ByteArray.mk #[]))) (fun x => F.octet_Num.r3 x)
def F.octet_Num (x0 : Int) : Option ByteArray :=
  thru (if decide (x0 < 0) then (some (.inr ((ByteArray.mk #[])))) else (if decide (x0 ≥ 72057594037927936) then (some (.inr ((ByteArray.mk #[])))) else (some (.inl ())))) (fun x => F.octet_Num.r1 x0)
set_option maxRecDepth 100000 in
set_option maxHeartbeats 4000000 in
theorem c_octet_Num (I : Hl) (x0 : Int) (res : ByteArray) (hF : F.octet_Num x0 = some res) : Tr Try.prog 44 [.int .i64 x0] [imm I] (fun r H' => r = .string res ∧ H' = [imm I]) := by
  unfold F.octet_Num at hF
  refine tr_of_cw (fn := Try.f44) Try.func44 rfl (Nat.le_of_ble_eq_true rfl) 27 rfl fun F0 w0 => ?_
  refine cw_keep [0] (L' := [(0, .int .i64 x0)]) rfl ?_
  refine cw_state (S' := SAT w0 ([imm I] ++ F0)) (fun w hs => hs) ?_
  refine cw_seq ?_
  refine cw_region ?_
  refine ow_vals 1 (j := 1) [0] [(0, .int .i64 x0)] rfl (by kernel_rfl) ?_
  refine ow_end rfl ?_
  refine ew_then ?_
  obtain ⟨v21, hF, hK21⟩ := thru_some hF
  refine cw_mid (fun a w => .inl () = v21 ∧ Fr 27 [(0, .int .i64 x0)] a ∧ SAT w0 ([imm I] ++ F0) w) ?_ ?_
  · refine cw_seq ?_
    refine cw_region ?_
    refine ow_vals 3 (j := 3) [0, 6] [(0, .int .i64 x0), (6, .bool (decide (x0 < 0)))] rfl (by kernel_rfl) ?_
    rcases if_some hF with ⟨h22, hF⟩ | ⟨h22, hF⟩
    · refine ow_slots (L' := [(0, .int .i64 x0), (6, .bool true)]) (by rw [h22]) ?_
      refine ow_vals 3 (j := 6) [0, 9] [(0, .int .i64 x0), (9, .bool true)] rfl (by kernel_rfl) ?_
      refine ow_end rfl ?_
      refine ew_then ?_
      refine cw_cond_t rfl rfl rfl ?_
      refine cw_seq ?_
      refine cw_region ?_
      refine ow_vals 1 (j := 1) [2] [(2, .string (ByteArray.mk #[]))] rfl (by kernel_rfl) ?_
      refine ow_end rfl ?_
      refine ew_then ?_
      refine cw_ret ?_
      refine ew_then_ret ?_
      have hR := Option.some.inj hF
      subst hR
      have hR := hK21
      try dsimp only [Thru] at hR
      subst hR
      exact fin1 (H1 := [imm I]) (fun w hs => sat_to [0] 0 rfl hs) rfl (rr_tmp rfl) ⟨rfl, rfl⟩
    · refine ow_slots (L' := [(0, .int .i64 x0), (6, .bool false)]) (by rw [h22]) ?_
      refine ow_vals 3 (j := 6) [0, 9] [(0, .int .i64 x0), (9, .bool (decide (x0 ≥ 72057594037927936)))] rfl (by kernel_rfl) ?_
      refine ow_end rfl ?_
      refine ew_then ?_
      rcases if_some hF with ⟨h23, hF⟩ | ⟨h23, hF⟩
      · refine cw_cond_t rfl rfl h23 ?_
        refine cw_seq ?_
        refine cw_region ?_
        refine ow_vals 1 (j := 1) [2] [(2, .string (ByteArray.mk #[]))] rfl (by kernel_rfl) ?_
        refine ow_end rfl ?_
        refine ew_then ?_
        refine cw_ret ?_
        refine ew_then_ret ?_
        have hR := Option.some.inj hF
        subst hR
        have hR := hK21
        try dsimp only [Thru] at hR
        subst hR
        exact fin1 (H1 := [imm I]) (fun w hs => sat_to [0] 0 rfl hs) rfl (rr_tmp rfl) ⟨rfl, rfl⟩
      · refine cw_cond_f rfl rfl h23 ?_
        refine cw_skip ?_
        have hR := Option.some.inj hF
        exact fun a w hf hs => ⟨hR, hf.keep [0], sat_to [0] 0 rfl hs⟩
  · rintro a w ⟨hv, hf, hs⟩
    subst hv
    replace hF := hK21
    clear hK21
    try dsimp only [Thru] at hF
    revert a w
    show CW _ _ _ 27 [(0, .int .i64 x0)] (SAT w0 ([imm I] ++ F0))
    unfold F.octet_Num.r1 at hF
    refine cw_seq ?_
    refine cw_region ?_
    refine ow_vals 1 (j := 1) [0, 3] [(0, .int .i64 x0), (3, .string (ByteArray.mk #[]))] rfl (by kernel_rfl) ?_
    refine ow_end rfl ?_
    refine ew_then ?_
    obtain ⟨v24, hF, hK24⟩ := bind_some hF
    refine cw_mid (fun a w => ∃ (s32 : ByteArray), s32 = v24 ∧ Fr 27 [(3, .string s32)] a ∧ SAT w0 ([imm I] ++ F0) w) ?_ ?_
    · refine cw_block ?_
      refine fun a w hf hs => wp_rounds (fun k a w => ∃ (x26 : Int), ∃ (s27 : ByteArray), iter (fun x => F.octet_Num.l2 x.1 x.2) k (x26, s27) = some v24 ∧ Fr 27 [(0, .int .i64 x26), (3, .string s27)] a ∧ SAT w0 ([imm I] ++ F0) w) ?_ FUEL a w ⟨x0, (ByteArray.mk #[]), hF, hf.keep [0, 3], sat_to [0] 0 rfl hs⟩
      clear hf hs
      clear a w hF
      rintro k a w ⟨x26, s27, hF2, hf, hs⟩
      obtain ⟨k, r25, rfl, hF, hL25⟩ := iter_some hF2
      clear hF2
      revert a w
      show CW _ _ _ 27 [(0, .int .i64 x26), (3, .string s27)] (SAT w0 ([imm I] ++ F0))
      try dsimp only at hF
      unfold F.octet_Num.l2 at hF
      refine cw_seq ?_
      refine cw_seq ?_
      refine cw_region ?_
      refine ow_vals 2 (j := 2) [0, 3, 11] [(0, .int .i64 x26), (3, .string s27), (11, .bool (decide (x26 > 0)))] rfl (by kernel_rfl) ?_
      refine ow_end rfl ?_
      refine ew_then ?_
      rcases if_some hF with ⟨h28, hF⟩ | ⟨h28, hF⟩
      · refine cw_cond_t rfl rfl h28 ?_
        refine cw_skip ?_
        refine ew_then ?_
        refine cw_seq ?_
        refine cw_block ?_
        refine cw_region ?_
        refine ow_vals 2 (j := 2) [0, 3, 15] [(0, .int .i64 x26), (3, .string s27), (15, .int .u8 (IntKind.u8.wrap (x26)))] rfl (by kernel_rfl) ?_
        refine ow_pw rfl (pw_buildSlice (E := 5) (eInt .u8) ([IntKind.u8.wrap (x26)] : List Int) rfl rfl rfl rfl rfl (by kernel_rfl) rfl (by kernel_rfl) rfl (by decide) rfl fun p29 => nw_ow ?_)
        refine ow_pw rfl (pw_quiet (v := .string (bstr ([IntKind.u8.wrap (x26)] : List Int))) rfl rfl rfl rfl (q_bytes_str_own 0 rfl rfl (by kernel_rfl) (by kernel_rfl) rfl) (nw_ow ?_))
        refine ow_vals 1 (j := 5) [0, 17, 18] [(0, .int .i64 x26), (17, .string (bstr ([IntKind.u8.wrap (x26)] : List Int))), (18, .string s27)] rfl (by kernel_rfl) ?_
        obtain ⟨h31, hF⟩ := chk_some hF
        refine ow_pw rfl (pw_quiet (v := .string ((bstr ([IntKind.u8.wrap (x26)] : List Int)) ++ s27)) rfl rfl rfl rfl (q_concat rfl rfl rfl h31) (nw_ow ?_))
        refine ow_vals 1 (j := 7) [0, 3] [(0, .int .i64 x26), (3, .string ((bstr ([IntKind.u8.wrap (x26)] : List Int)) ++ s27))] rfl (by kernel_rfl) ?_
        refine ow_end rfl ?_
        refine ew_blk ?_
        refine ew_then ?_
        refine cw_region ?_
        refine ow_vals 3 (j := 3) [0, 3] [(0, .int .i64 (x26.fdiv (2 ^ 8))), (3, .string ((bstr ([IntKind.u8.wrap (x26)] : List Int)) ++ s27))] rfl (by kernel_rfl) ?_
        refine ow_end rfl ?_
        have hR := Option.some.inj hF
        subst hR
        have hR := hL25
        try dsimp only at hR
        exact fun a w hf hs => ⟨k, Nat.lt_succ_self k, x26.fdiv (2 ^ 8), (bstr ([IntKind.u8.wrap (x26)] : List Int)) ++ s27, hR, hf.keep [0, 3], sat_to [0, 0] 1 rfl hs⟩
      · refine cw_cond_f rfl rfl h28 ?_
        refine cw_exit ?_
        refine ew_then_exit ?_
        refine ew_then_exit ?_
        refine ew_blk_exit ?_
        have hR := Option.some.inj hF
        subst hR
        have hR := hL25
        try dsimp only at hR
        exact fun a w hf hs => ⟨s27, hR, hf.keep [3], sat_to [0] 0 rfl hs⟩
    · rintro a w ⟨s32, hv, hf, hs⟩
      subst hv
      replace hF := hK24
      clear hK24
      try dsimp only at hF
      revert a w
      show CW _ _ _ 27 [(3, .string s32)] (SAT w0 ([imm I] ++ F0))
      unfold F.octet_Num.r3 at hF
      refine cw_seq ?_
      refine cw_region ?_
      refine ow_vals 3 (j := 3) [3, 22] [(3, .string s32), (22, .int .u8 (IntKind.u8.wrap ((s32.size : Int))))] rfl (by kernel_rfl) ?_
      refine ow_pw rfl (pw_buildSlice (E := 5) (eInt .u8) ([IntKind.u8.wrap ((s32.size : Int))] : List Int) rfl rfl rfl rfl rfl (by kernel_rfl) rfl (by kernel_rfl) rfl (by decide) rfl fun p33 => nw_ow ?_)
      refine ow_pw rfl (pw_quiet (v := .string (bstr ([IntKind.u8.wrap ((s32.size : Int))] : List Int))) rfl rfl rfl rfl (q_bytes_str_own 0 rfl rfl (by kernel_rfl) (by kernel_rfl) rfl) (nw_ow ?_))
      refine ow_vals 1 (j := 6) [24, 25] [(24, .string (bstr ([IntKind.u8.wrap ((s32.size : Int))] : List Int))), (25, .string s32)] rfl (by kernel_rfl) ?_
      obtain ⟨h35, hF⟩ := chk_some hF
      refine ow_pw rfl (pw_quiet (v := .string ((bstr ([IntKind.u8.wrap ((s32.size : Int))] : List Int)) ++ s32)) rfl rfl rfl rfl (q_concat rfl rfl rfl h35) (nw_ow ?_))
      refine ow_vals 1 (j := 8) [2] [(2, .string ((bstr ([IntKind.u8.wrap ((s32.size : Int))] : List Int)) ++ s32))] rfl (by kernel_rfl) ?_
      refine ow_end rfl ?_
      refine ew_then ?_
      refine cw_ret ?_
      have hR := Option.some.inj hF
      subst hR
      exact fin1 (H1 := [imm I]) (fun w hs => sat_to [0, 0] 1 rfl hs) rfl (rr_tmp rfl) ⟨rfl, rfl⟩


def F.batch_Read.l1 (r31 : Int × octet_Reader) (x34 : Int) (s35 : ByteArray) (x36 : Int) (x37 : Int) (l38 : List Int) (l42 : List ByteArray) : Option ((Int × ByteArray × Int × Int × (List Int) × (List ByteArray)) ⊕ (ByteArray × Int × Int × (List Int) × (List ByteArray))) :=
  if decide (x34 < r31.1) then (Option.bind (F.octet_Reader_Num 65536 (⟨s35, x36, x37⟩ : octet_Reader)) (fun (r47 : Int × octet_Reader) => Option.bind (F.octet_Reader_Raw 32 r47.2) (fun (r49 : ByteArray × octet_Reader) => chk (room (l38.length + ([r47.1] : List Int).length) 8) (chk (room (l42.length + ([r49.1] : List ByteArray).length) 16) (some (.inl (IntKind.i64.wrap (x34 + 1), r49.2.s_, r49.2.at_, r49.2.e_, l38 ++ ([r47.1] : List Int), l42 ++ ([r49.1] : List ByteArray)))))))) else (some (.inr ((s35, x36, x37, l38, l42))))
def F.batch_Read.l3 (r81 : Int × octet_Reader) (x84 : Int) (s85 : ByteArray) (x86 : Int) (x87 : Int) (l88 : List ByteArray) : Option ((Int × ByteArray × Int × Int × (List ByteArray)) ⊕ (ByteArray × Int × Int × (List ByteArray))) :=
  if decide (x84 < r81.1) then (Option.bind (F.octet_Reader_Raw 32 (⟨s85, x86, x87⟩ : octet_Reader)) (fun (r93 : ByteArray × octet_Reader) => chk (room (l88.length + ([r93.1] : List ByteArray).length) 16) (some (.inl (IntKind.i64.wrap (x84 + 1), r93.2.s_, r93.2.at_, r93.2.e_, l88 ++ ([r93.1] : List ByteArray)))))) else (some (.inr ((s85, x86, x87, l88))))
def F.batch_Read.r4 (r26 : Int × octet_Reader) (l72 : List Int) (l76 : List ByteArray) (s100 : ByteArray) (x101 : Int) (x102 : Int) (l103 : List ByteArray) : Option (batch_Proof × Int) :=
  Option.bind (F.octet_Reader_End (⟨s100, x101, x102⟩ : octet_Reader)) (fun (r107 : Int × octet_Reader) => if r107.1 != 0 then (some (((⟨0, ([] : List Int), ([] : List ByteArray), ([] : List ByteArray)⟩ : batch_Proof), r107.1))) else (Option.bind (F.batch_Right (⟨r26.1, l72, l76, l103⟩ : batch_Proof)) (fun (r119 : Bool) => if !r119 then (some (((⟨0, ([] : List Int), ([] : List ByteArray), ([] : List ByteArray)⟩ : batch_Proof), 4))) else (some (((⟨r26.1, l72, l76, l103⟩ : batch_Proof), 0))))))
def F.batch_Read.r2 (r26 : Int × octet_Reader) (s69 : ByteArray) (x70 : Int) (x71 : Int) (l72 : List Int) (l76 : List ByteArray) : Option (batch_Proof × Int) :=
  Option.bind (Option.bind (F.octet_Reader_Num 1024 (⟨s69, x70, x71⟩ : octet_Reader)) (fun (r81 : Int × octet_Reader) => iter (fun x => F.batch_Read.l3 r81 x.1 x.2.1 x.2.2.1 x.2.2.2.1 x.2.2.2.2) FUEL (0, r81.2.s_, r81.2.at_, r81.2.e_, []))) (fun x => F.batch_Read.r4 r26 l72 l76 x.1 x.2.1 x.2.2.1 x.2.2.2)
def F.batch_Read (x0 : ByteArray) : Option (batch_Proof × Int) :=
  Option.bind (F.octet_Read x0) (fun (r23 : octet_Reader) => Option.bind (F.octet_Reader_Num 65536 r23) (fun (r26 : Int × octet_Reader) => Option.bind (Option.bind (F.octet_Reader_Num 64 r26.2) (fun (r31 : Int × octet_Reader) => iter (fun x => F.batch_Read.l1 r31 x.1 x.2.1 x.2.2.1 x.2.2.2.1 x.2.2.2.2.1 x.2.2.2.2.2) FUEL (0, r31.2.s_, r31.2.at_, r31.2.e_, [], []))) (fun x => F.batch_Read.r2 r26 x.1 x.2.1 x.2.2.1 x.2.2.2.1 x.2.2.2.2)))
set_option maxRecDepth 100000 in
set_option maxHeartbeats 4000000 in
theorem c_batch_Read (I : Hl) (x0 : ByteArray) (res : batch_Proof × Int) (hF : F.batch_Read x0 = some res) : Tr Try.prog 25 [.string x0] [imm I] (fun r H' => ∃ (J : Hl), ∃ (p1 : Option Addr), ∃ (c2 : Nat), ∃ (p4 : Option Addr), ∃ (c5 : Nat), ∃ (p7 : Option Addr), ∃ (c8 : Nat), r = .tuple #[.agg #[.int .i64 res.1.Size, .slice p1 res.1.Picks.length c2, .slice p4 res.1.Leaf.length c5, .slice p7 res.1.Nodes.length c8], .int .i64 res.2] ∧ H' = [imm J] ∧ Hl.sub I J ∧ ro J (eInt .i64) p1 c2 res.1.Picks ∧ ro J eStr p4 c5 res.1.Leaf ∧ ro J eStr p7 c8 res.1.Nodes) := by
  unfold F.batch_Read at hF
  refine tr_of_cw (fn := Try.f25) Try.func25 rfl (Nat.le_of_ble_eq_true rfl) 58 rfl fun F0 w0 => ?_
  refine cw_keep [0] (L' := [(0, .string x0)]) rfl ?_
  refine cw_state (S' := SAT w0 ([imm I] ++ F0)) (fun w hs => hs) ?_
  refine cw_seq ?_
  refine cw_region ?_
  refine ow_pw rfl (pw_alloc (cs := #[.int .i64 0, .slice none 0 0, .slice none 0 0, .slice none 0 0]) rfl rfl rfl rfl rfl (by kernel_rfl) fun b21 => nw_ow ?_)
  refine ow_vals 1 (j := 2) [0, 2] [(0, .string x0), (2, .pointer (some ⟨b21, 0, none⟩))] rfl (by kernel_rfl) ?_
  refine ow_end rfl ?_
  refine ew_then ?_
  refine cw_seq ?_
  refine cw_region ?_
  refine ow_vals 1 (j := 1) [2, 9] [(2, .pointer (some ⟨b21, 0, none⟩)), (9, .string x0)] rfl (by kernel_rfl) ?_
  obtain ⟨r23, h24, hF⟩ := bind_some hF
  refine ow_pw rfl (pw_call (F := [pt b21 #[.int .i64 0, .slice none 0 0, .slice none 0 0, .slice none 0 0] 25] ++ F0) rfl rfl rfl rfl rfl rfl rfl (by kernel_rfl) (perm_of_pulls [1] rfl) (c_octet_Read _ x0 r23 h24) ?_)
  rintro _ _ ⟨r23_b1, rfl, rfl⟩
  refine nw_H (H' := [imm I, pt r23_b1 #[.string r23.s_, .int .i64 r23.at_, .int .i64 r23.e_] 90, pt b21 #[.int .i64 0, .slice none 0 0, .slice none 0 0, .slice none 0 0] 25] ++ F0) rfl (nw_ow ?_)
  refine ow_vals 1 (j := 3) [2, 4] [(2, .pointer (some ⟨b21, 0, none⟩)), (4, .pointer (some ⟨r23_b1, 0, none⟩))] rfl (by kernel_rfl) ?_
  refine ow_end rfl ?_
  refine ew_then ?_
  refine cw_seq ?_
  refine cw_region ?_
  refine ow_vals 1 (j := 1) [2, 4, 11] [(2, .pointer (some ⟨b21, 0, none⟩)), (4, .pointer (some ⟨r23_b1, 0, none⟩)), (11, .pointer (some ⟨r23_b1, 0, none⟩))] rfl (by kernel_rfl) ?_
  obtain ⟨r26, h27, hF⟩ := bind_some hF
  refine ow_pw rfl (pw_call (F := [pt b21 #[.int .i64 0, .slice none 0 0, .slice none 0 0, .slice none 0 0] 25] ++ F0) rfl rfl rfl rfl rfl rfl rfl (by kernel_rfl) (perm_of_pulls [0, 0] rfl) (c_octet_Reader_Num _ 65536 r23 r23_b1 r26 h27) ?_)
  rintro _ _ ⟨rfl, rfl⟩
  refine nw_H (H' := [imm I, pt r23_b1 #[.string r26.2.s_, .int .i64 r26.2.at_, .int .i64 r26.2.e_] 90, pt b21 #[.int .i64 0, .slice none 0 0, .slice none 0 0, .slice none 0 0] 25] ++ F0) rfl (nw_ow ?_)
  refine ow_vals 1 (j := 3) [2, 4, 13] [(2, .pointer (some ⟨b21, 0, none⟩)), (4, .pointer (some ⟨r23_b1, 0, none⟩)), (13, .agg #[.int .i64 r26.1, .slice none 0 0, .slice none 0 0, .slice none 0 0])] rfl (by kernel_rfl) ?_
  refine ow_pw rfl (pw_alloc (cs := #[.int .i64 0, .slice none 0 0, .slice none 0 0, .slice none 0 0]) rfl rfl rfl rfl rfl (by kernel_rfl) fun b28 => nw_ow ?_)
  refine ow_pw rfl (pw_store 0 #[.int .i64 r26.1, .slice none 0 0, .slice none 0 0, .slice none 0 0] rfl rfl rfl rfl rfl rfl rfl (by kernel_rfl) (nw_H (H' := [pt b28 #[.int .i64 r26.1, .slice none 0 0, .slice none 0 0, .slice none 0 0] 25, imm I, pt r23_b1 #[.string r26.2.s_, .int .i64 r26.2.at_, .int .i64 r26.2.e_] 90, pt b21 #[.int .i64 0, .slice none 0 0, .slice none 0 0, .slice none 0 0] 25] ++ F0) rfl (nw_ow ?_)))
  refine ow_end rfl ?_
  refine ew_then ?_
  obtain ⟨v30, hF, hK30⟩ := bind_some hF
  refine cw_mid (fun a w => ∃ (s69 : ByteArray), ∃ (x70 : Int), ∃ (x71 : Int), ∃ (l72 : List Int), ∃ (l76 : List ByteArray), ∃ (p73 : Option Addr), ∃ (c74 : Nat), ∃ (p77 : Option Addr), ∃ (c78 : Nat), (s69, x70, x71, l72, l76) = v30 ∧ Fr 58 [(2, .pointer (some ⟨b21, 0, none⟩)), (4, .pointer (some ⟨r23_b1, 0, none⟩)), (5, .pointer (some ⟨b28, 0, none⟩))] a ∧ SAT w0 ([imm I, pt r23_b1 #[.string s69, .int .i64 x70, .int .i64 x71] 90, pt b28 #[.int .i64 r26.1, .slice p73 l72.length c74, .slice p77 l76.length c78, .slice none 0 0] 25, pt b21 #[.int .i64 0, .slice none 0 0, .slice none 0 0, .slice none 0 0] 25, own (eInt .i64) 3 p73 c74 l72, own eStr 9 p77 c78 l76] ++ F0) w) ?_ ?_
  · refine cw_seq ?_
    refine cw_region ?_
    refine ow_vals 1 (j := 1) [2, 4, 5, 14] [(2, .pointer (some ⟨b21, 0, none⟩)), (4, .pointer (some ⟨r23_b1, 0, none⟩)), (5, .pointer (some ⟨b28, 0, none⟩)), (14, .pointer (some ⟨r23_b1, 0, none⟩))] rfl (by kernel_rfl) ?_
    obtain ⟨r31, h32, hF⟩ := bind_some hF
    refine ow_pw rfl (pw_call (F := [pt b28 #[.int .i64 r26.1, .slice none 0 0, .slice none 0 0, .slice none 0 0] 25, pt b21 #[.int .i64 0, .slice none 0 0, .slice none 0 0, .slice none 0 0] 25] ++ F0) rfl rfl rfl rfl rfl rfl rfl (by kernel_rfl) (perm_of_pulls [1, 1] rfl) (c_octet_Reader_Num _ 64 r26.2 r23_b1 r31 h32) ?_)
    rintro _ _ ⟨rfl, rfl⟩
    refine nw_H (H' := [imm I, pt r23_b1 #[.string r31.2.s_, .int .i64 r31.2.at_, .int .i64 r31.2.e_] 90, pt b28 #[.int .i64 r26.1, .slice none 0 0, .slice none 0 0, .slice none 0 0] 25, pt b21 #[.int .i64 0, .slice none 0 0, .slice none 0 0, .slice none 0 0] 25] ++ F0) rfl (nw_ow ?_)
    refine ow_vals 1 (j := 3) [2, 4, 5, 15, 16] [(2, .pointer (some ⟨b21, 0, none⟩)), (4, .pointer (some ⟨r23_b1, 0, none⟩)), (5, .pointer (some ⟨b28, 0, none⟩)), (15, .int .i64 r31.1), (16, .int .i64 0)] rfl (by kernel_rfl) ?_
    refine ow_end rfl ?_
    refine ew_then ?_
    refine cw_block ?_
    refine fun a w hf hs => wp_rounds (fun k a w => ∃ (x34 : Int), ∃ (s35 : ByteArray), ∃ (x36 : Int), ∃ (x37 : Int), ∃ (l38 : List Int), ∃ (l42 : List ByteArray), ∃ (p39 : Option Addr), ∃ (c40 : Nat), ∃ (p43 : Option Addr), ∃ (c44 : Nat), iter (fun x => F.batch_Read.l1 r31 x.1 x.2.1 x.2.2.1 x.2.2.2.1 x.2.2.2.2.1 x.2.2.2.2.2) k (x34, s35, x36, x37, l38, l42) = some v30 ∧ Fr 58 [(2, .pointer (some ⟨b21, 0, none⟩)), (4, .pointer (some ⟨r23_b1, 0, none⟩)), (5, .pointer (some ⟨b28, 0, none⟩)), (15, .int .i64 r31.1), (16, .int .i64 x34)] a ∧ SAT w0 ([imm I, pt r23_b1 #[.string s35, .int .i64 x36, .int .i64 x37] 90, pt b28 #[.int .i64 r26.1, .slice p39 l38.length c40, .slice p43 l42.length c44, .slice none 0 0] 25, pt b21 #[.int .i64 0, .slice none 0 0, .slice none 0 0, .slice none 0 0] 25, own (eInt .i64) 3 p39 c40 l38, own eStr 9 p43 c44 l42] ++ F0) w) ?_ FUEL a w ⟨0, r31.2.s_, r31.2.at_, r31.2.e_, [], [], none, 0, none, 0, hF, hf.keep [2, 4, 5, 15, 16], sat_to [2, 2, 2, 2, 1, 0] 0 rfl (sat_own_nil eStr 9 (sat_own_nil (eInt .i64) 3 hs))⟩
    clear hf hs
    clear a w hF
    rintro k a w ⟨x34, s35, x36, x37, l38, l42, p39, c40, p43, c44, hF2, hf, hs⟩
    obtain ⟨k, r33, rfl, hF, hL33⟩ := iter_some hF2
    clear hF2
    revert a w
    show CW _ _ _ 58 [(2, .pointer (some ⟨b21, 0, none⟩)), (4, .pointer (some ⟨r23_b1, 0, none⟩)), (5, .pointer (some ⟨b28, 0, none⟩)), (15, .int .i64 r31.1), (16, .int .i64 x34)] (SAT w0 ([imm I, pt r23_b1 #[.string s35, .int .i64 x36, .int .i64 x37] 90, pt b28 #[.int .i64 r26.1, .slice p39 l38.length c40, .slice p43 l42.length c44, .slice none 0 0] 25, pt b21 #[.int .i64 0, .slice none 0 0, .slice none 0 0, .slice none 0 0] 25, own (eInt .i64) 3 p39 c40 l38, own eStr 9 p43 c44 l42] ++ F0))
    try dsimp only at hF
    unfold F.batch_Read.l1 at hF
    refine cw_seq ?_
    refine cw_region ?_
    refine ow_vals 1 (j := 1) [2, 4, 5, 15, 16, 17] [(2, .pointer (some ⟨b21, 0, none⟩)), (4, .pointer (some ⟨r23_b1, 0, none⟩)), (5, .pointer (some ⟨b28, 0, none⟩)), (15, .int .i64 r31.1), (16, .int .i64 x34), (17, .bool (decide (x34 < r31.1)))] rfl (by kernel_rfl) ?_
    refine ow_end rfl ?_
    refine ew_then ?_
    refine cw_seq ?_
    rcases if_some hF with ⟨h46, hF⟩ | ⟨h46, hF⟩
    · refine cw_cond_t rfl rfl h46 ?_
      refine cw_skip ?_
      refine ew_then ?_
      refine cw_seq ?_
      refine cw_block ?_
      refine cw_seq ?_
      refine cw_region ?_
      refine ow_vals 1 (j := 1) [2, 4, 5, 15, 16, 18] [(2, .pointer (some ⟨b21, 0, none⟩)), (4, .pointer (some ⟨r23_b1, 0, none⟩)), (5, .pointer (some ⟨b28, 0, none⟩)), (15, .int .i64 r31.1), (16, .int .i64 x34), (18, .pointer (some ⟨r23_b1, 0, none⟩))] rfl (by kernel_rfl) ?_
      obtain ⟨r47, h48, hF⟩ := bind_some hF
      refine ow_pw rfl (pw_call (F := [pt b28 #[.int .i64 r26.1, .slice p39 l38.length c40, .slice p43 l42.length c44, .slice none 0 0] 25, pt b21 #[.int .i64 0, .slice none 0 0, .slice none 0 0, .slice none 0 0] 25, own (eInt .i64) 3 p39 c40 l38, own eStr 9 p43 c44 l42] ++ F0) rfl rfl rfl rfl rfl rfl rfl (by kernel_rfl) (perm_of_pulls [0, 0] rfl) (c_octet_Reader_Num _ 65536 (⟨s35, x36, x37⟩ : octet_Reader) r23_b1 r47 h48) ?_)
      rintro _ _ ⟨rfl, rfl⟩
      refine nw_H (H' := [imm I, pt r23_b1 #[.string r47.2.s_, .int .i64 r47.2.at_, .int .i64 r47.2.e_] 90, pt b28 #[.int .i64 r26.1, .slice p39 l38.length c40, .slice p43 l42.length c44, .slice none 0 0] 25, pt b21 #[.int .i64 0, .slice none 0 0, .slice none 0 0, .slice none 0 0] 25, own (eInt .i64) 3 p39 c40 l38, own eStr 9 p43 c44 l42] ++ F0) rfl (nw_ow ?_)
      refine ow_vals 1 (j := 3) [2, 4, 5, 6, 15, 16] [(2, .pointer (some ⟨b21, 0, none⟩)), (4, .pointer (some ⟨r23_b1, 0, none⟩)), (5, .pointer (some ⟨b28, 0, none⟩)), (6, .int .i64 r47.1), (15, .int .i64 r31.1), (16, .int .i64 x34)] rfl (by kernel_rfl) ?_
      refine ow_end rfl ?_
      refine ew_then ?_
      refine cw_seq ?_
      refine cw_region ?_
      refine ow_vals 1 (j := 1) [2, 4, 5, 6, 15, 16, 20] [(2, .pointer (some ⟨b21, 0, none⟩)), (4, .pointer (some ⟨r23_b1, 0, none⟩)), (5, .pointer (some ⟨b28, 0, none⟩)), (6, .int .i64 r47.1), (15, .int .i64 r31.1), (16, .int .i64 x34), (20, .pointer (some ⟨r23_b1, 0, none⟩))] rfl (by kernel_rfl) ?_
      obtain ⟨r49, h50, hF⟩ := bind_some hF
      refine ow_pw rfl (pw_call (F := [pt b28 #[.int .i64 r26.1, .slice p39 l38.length c40, .slice p43 l42.length c44, .slice none 0 0] 25, pt b21 #[.int .i64 0, .slice none 0 0, .slice none 0 0, .slice none 0 0] 25, own (eInt .i64) 3 p39 c40 l38, own eStr 9 p43 c44 l42] ++ F0) rfl rfl rfl rfl rfl rfl rfl (by kernel_rfl) (perm_of_pulls [0, 0] rfl) (c_octet_Reader_Raw _ 32 r47.2 r23_b1 r49 h50) ?_)
      rintro _ _ ⟨rfl, rfl⟩
      refine nw_H (H' := [imm I, pt r23_b1 #[.string r49.2.s_, .int .i64 r49.2.at_, .int .i64 r49.2.e_] 90, pt b28 #[.int .i64 r26.1, .slice p39 l38.length c40, .slice p43 l42.length c44, .slice none 0 0] 25, pt b21 #[.int .i64 0, .slice none 0 0, .slice none 0 0, .slice none 0 0] 25, own (eInt .i64) 3 p39 c40 l38, own eStr 9 p43 c44 l42] ++ F0) rfl (nw_ow ?_)
      refine ow_vals 1 (j := 3) [2, 4, 5, 6, 7, 15, 16] [(2, .pointer (some ⟨b21, 0, none⟩)), (4, .pointer (some ⟨r23_b1, 0, none⟩)), (5, .pointer (some ⟨b28, 0, none⟩)), (6, .int .i64 r47.1), (7, .string r49.1), (15, .int .i64 r31.1), (16, .int .i64 x34)] rfl (by kernel_rfl) ?_
      refine ow_end rfl ?_
      refine ew_then ?_
      refine cw_open 11 (SAT w0 ([imm I, pt r23_b1 #[.string r49.2.s_, .int .i64 r49.2.at_, .int .i64 r49.2.e_] 90, pt b28 #[.int .i64 r26.1, .slice p39 l38.length c40, .slice p43 l42.length c44, .slice none 0 0] 25, pt b21 #[.int .i64 0, .slice none 0 0, .slice none 0 0, .slice none 0 0] 25])) (by kernel_rfl) (f := 14) rfl (fun w hs => sat_drew hs) ?_
      refine aw_vals [0, 2, 5, 7] (f' := 10) (m' := 165) [2, 4, 5, 15, 16, 22, 24, 27, 29] [(2, .pointer (some ⟨b21, 0, none⟩)), (4, .pointer (some ⟨r23_b1, 0, none⟩)), (5, .pointer (some ⟨b28, 0, none⟩)), (15, .int .i64 r31.1), (16, .int .i64 x34), (22, .pointer (some ⟨b28, 1, none⟩)), (24, .int .i64 r47.1), (27, .pointer (some ⟨b28, 2, none⟩)), (29, .string r49.1)] (fun _ _ _ _ _ h => calm_fin (P := Try.prog) (fn := Try.f25) _ _ _ _ _ h) (fun w hs => sat_pulls [0, 0, 0, 0] (G := [own (eInt .i64) 3 p39 c40 l38, own eStr 9 p43 c44 l42] ++ F0) rfl hs) rfl (by kernel_rfl) ?_
      refine aw_quiet 1 (m' := 167) (v := .slice p39 l38.length c40) 1 [] rfl rfl rfl rfl (by kernel_rfl) (by kernel_rfl) (by kernel_rfl) (fun _ _ _ _ _ h => calm_fin (P := Try.prog) (fn := Try.f25) _ _ _ _ _ h) (fun w hs => sat_pulls [0, 0, 0, 0] (G := [own (eInt .i64) 3 p39 c40 l38, own eStr 9 p43 c44 l42] ++ F0) rfl hs) (q_load 2 rfl rfl rfl (by kernel_rfl)) ?_
      refine aw_quiet 6 (m' := 231) (v := .slice p43 l42.length c44) 6 [] rfl rfl rfl rfl (by kernel_rfl) (by kernel_rfl) (by kernel_rfl) (fun _ _ _ _ _ h => calm_fin (P := Try.prog) (fn := Try.f25) _ _ _ _ _ h) (fun w hs => sat_pulls [0, 0, 0, 0] (G := [own (eInt .i64) 3 p39 c40 l38, own eStr 9 p43 c44 l42] ++ F0) rfl hs) (q_load 2 rfl rfl rfl (by kernel_rfl)) ?_
      obtain ⟨h53, hF⟩ := chk_some hF
      obtain ⟨h58, hF⟩ := chk_some hF
      refine aw_two 3 8 (mi := 239) (mj := 487) (by kernel_rfl) (by kernel_rfl) (by kernel_rfl) ?_ ?_
      · refine pw_buildSlice (E := 3) (eInt .i64) ([r47.1] : List Int) rfl rfl rfl rfl rfl (by kernel_rfl) rfl (by kernel_rfl) rfl (by decide) rfl fun p61 => aw_next (fun w hs => sat_pulls [1, 1, 1, 1] (G := [own (eInt .i64) 3 p61 1 ([r47.1] : List Int), own (eInt .i64) 3 p39 c40 l38, own eStr 9 p43 c44 l42] ++ F0) rfl hs) ?_
        refine aw_two 4 8 (mi := 255) (mj := 495) (by kernel_rfl) (by kernel_rfl) (by kernel_rfl) ?_ ?_
        · refine pw_append 5 (l' := ([r47.1] : List Int)) rfl rfl rfl rfl rfl rfl (by kernel_rfl) (by kernel_rfl) rfl rfl rfl (src_own (E' := 3) 0 rfl (by kernel_rfl) rfl) rfl h53.1 h53.2 fun p63 c64 => nw_H (H' := [own (eInt .i64) 3 p61 1 ([r47.1] : List Int), imm I, pt r23_b1 #[.string r49.2.s_, .int .i64 r49.2.at_, .int .i64 r49.2.e_] 90, pt b28 #[.int .i64 r26.1, .slice p39 l38.length c40, .slice p43 l42.length c44, .slice none 0 0] 25, pt b21 #[.int .i64 0, .slice none 0 0, .slice none 0 0, .slice none 0 0] 25, own (eInt .i64) 3 p63 c64 (l38 ++ ([r47.1] : List Int)), own eStr 9 p43 c44 l42] ++ F0) rfl (aw_next (fun w hs => sat_pulls [1, 1, 1, 1] (G := [own (eInt .i64) 3 p61 1 ([r47.1] : List Int), own (eInt .i64) 3 p63 c64 (l38 ++ ([r47.1] : List Int)), own eStr 9 p43 c44 l42] ++ F0) rfl hs) ?_)
          refine aw_vals [10] (f' := 5) (m' := 1279) [2, 4, 5, 15, 16, 26, 28, 29, 32] [(2, .pointer (some ⟨b21, 0, none⟩)), (4, .pointer (some ⟨r23_b1, 0, none⟩)), (5, .pointer (some ⟨b28, 0, none⟩)), (15, .int .i64 r31.1), (16, .int .i64 x34), (26, .slice p63 (l38 ++ ([r47.1] : List Int)).length c64), (28, .slice p43 l42.length c44), (29, .string r49.1), (32, .pointer (some ⟨b28, 1, none⟩))] (fun _ _ _ _ _ h => calm_fin (P := Try.prog) (fn := Try.f25) _ _ _ _ _ h) (fun w hs => sat_pulls [1, 1, 1, 1] (G := [own (eInt .i64) 3 p61 1 ([r47.1] : List Int), own (eInt .i64) 3 p63 c64 (l38 ++ ([r47.1] : List Int)), own eStr 9 p43 c44 l42] ++ F0) rfl hs) rfl (by kernel_rfl) ?_
          refine aw_only 8 (m' := 1535) (by kernel_rfl) (by kernel_rfl) (pw_buildSlice (E := 9) eStr ([r49.1] : List ByteArray) rfl rfl rfl rfl rfl (by kernel_rfl) rfl (by kernel_rfl) rfl (by decide) rfl fun p65 => aw_next (fun w hs => sat_pulls [2, 2, 2, 2] (G := [own eStr 9 p65 1 ([r49.1] : List ByteArray), own (eInt .i64) 3 p61 1 ([r47.1] : List Int), own (eInt .i64) 3 p63 c64 (l38 ++ ([r47.1] : List Int)), own eStr 9 p43 c44 l42] ++ F0) rfl hs) ?_)
          refine aw_only 9 (m' := 2047) (by kernel_rfl) (by kernel_rfl) (pw_append 7 (l' := ([r49.1] : List ByteArray)) rfl rfl rfl rfl rfl rfl (by kernel_rfl) (by kernel_rfl) rfl rfl rfl (src_own (E' := 9) 0 rfl (by kernel_rfl) rfl) rfl h58.1 h58.2 fun p67 c68 => nw_H (H' := [own eStr 9 p65 1 ([r49.1] : List ByteArray), own (eInt .i64) 3 p61 1 ([r47.1] : List Int), imm I, pt r23_b1 #[.string r49.2.s_, .int .i64 r49.2.at_, .int .i64 r49.2.e_] 90, pt b28 #[.int .i64 r26.1, .slice p39 l38.length c40, .slice p43 l42.length c44, .slice none 0 0] 25, pt b21 #[.int .i64 0, .slice none 0 0, .slice none 0 0, .slice none 0 0] 25, own (eInt .i64) 3 p63 c64 (l38 ++ ([r47.1] : List Int)), own eStr 9 p67 c68 (l42 ++ ([r49.1] : List ByteArray))] ++ F0) rfl (aw_next (fun w hs => sat_pulls [2, 2, 2, 2] (G := [own eStr 9 p65 1 ([r49.1] : List ByteArray), own (eInt .i64) 3 p61 1 ([r47.1] : List Int), own (eInt .i64) 3 p63 c64 (l38 ++ ([r47.1] : List Int)), own eStr 9 p67 c68 (l42 ++ ([r49.1] : List ByteArray))] ++ F0) rfl hs) ?_))
          refine aw_only 11 (m' := 4095) (by kernel_rfl) (by kernel_rfl) (pw_store 4 #[.int .i64 r26.1, .slice p63 (l38 ++ ([r47.1] : List Int)).length c64, .slice p43 l42.length c44, .slice none 0 0] rfl rfl rfl rfl rfl rfl rfl (by kernel_rfl) (nw_H (H' := [own eStr 9 p65 1 ([r49.1] : List ByteArray), own (eInt .i64) 3 p61 1 ([r47.1] : List Int), imm I, pt r23_b1 #[.string r49.2.s_, .int .i64 r49.2.at_, .int .i64 r49.2.e_] 90, pt b28 #[.int .i64 r26.1, .slice p63 (l38 ++ ([r47.1] : List Int)).length c64, .slice p43 l42.length c44, .slice none 0 0] 25, pt b21 #[.int .i64 0, .slice none 0 0, .slice none 0 0, .slice none 0 0] 25, own (eInt .i64) 3 p63 c64 (l38 ++ ([r47.1] : List Int)), own eStr 9 p67 c68 (l42 ++ ([r49.1] : List ByteArray))] ++ F0) rfl (aw_last (by kernel_rfl) ?_)))
          refine aw_past (by kernel_rfl) ?_
          refine aw_vals [12] (f' := 1) (m' := 8191) [2, 4, 5, 15, 16, 31, 33] [(2, .pointer (some ⟨b21, 0, none⟩)), (4, .pointer (some ⟨r23_b1, 0, none⟩)), (5, .pointer (some ⟨b28, 0, none⟩)), (15, .int .i64 r31.1), (16, .int .i64 x34), (31, .slice p67 (l42 ++ ([r49.1] : List ByteArray)).length c68), (33, .pointer (some ⟨b28, 2, none⟩))] (fun _ _ _ _ _ h => calm_fin (P := Try.prog) (fn := Try.f25) _ _ _ _ _ h) (fun _ _ => trivial) rfl (by kernel_rfl) ?_
          refine aw_only 13 (m' := 16383) (by kernel_rfl) (by kernel_rfl) (pw_store 4 #[.int .i64 r26.1, .slice p63 (l38 ++ ([r47.1] : List Int)).length c64, .slice p67 (l42 ++ ([r49.1] : List ByteArray)).length c68, .slice none 0 0] rfl rfl rfl rfl rfl rfl rfl (by kernel_rfl) (nw_H (H' := [own eStr 9 p65 1 ([r49.1] : List ByteArray), own (eInt .i64) 3 p61 1 ([r47.1] : List Int), imm I, pt r23_b1 #[.string r49.2.s_, .int .i64 r49.2.at_, .int .i64 r49.2.e_] 90, pt b28 #[.int .i64 r26.1, .slice p63 (l38 ++ ([r47.1] : List Int)).length c64, .slice p67 (l42 ++ ([r49.1] : List ByteArray)).length c68, .slice none 0 0] 25, pt b21 #[.int .i64 0, .slice none 0 0, .slice none 0 0, .slice none 0 0] 25, own (eInt .i64) 3 p63 c64 (l38 ++ ([r47.1] : List Int)), own eStr 9 p67 c68 (l42 ++ ([r49.1] : List ByteArray))] ++ F0) rfl (aw_next (fun _ _ => trivial) ?_)))
          refine aw_keep [2, 4, 5, 15, 16] (L' := [(2, .pointer (some ⟨b21, 0, none⟩)), (4, .pointer (some ⟨r23_b1, 0, none⟩)), (5, .pointer (some ⟨b28, 0, none⟩)), (15, .int .i64 r31.1), (16, .int .i64 x34)]) rfl ?_
          refine aw_end (by kernel_rfl) ?_
          refine ew_blk ?_
          refine ew_then ?_
          refine cw_region ?_
          refine ow_vals 2 (j := 2) [2, 4, 5, 15, 16] [(2, .pointer (some ⟨b21, 0, none⟩)), (4, .pointer (some ⟨r23_b1, 0, none⟩)), (5, .pointer (some ⟨b28, 0, none⟩)), (15, .int .i64 r31.1), (16, .int .i64 (IntKind.i64.wrap (x34 + 1)))] rfl (by kernel_rfl) ?_
          refine ow_end rfl ?_
          have hR := Option.some.inj hF
          subst hR
          have hR := hL33
          try dsimp only at hR
          exact fun a w hf hs => ⟨k, Nat.lt_succ_self k, IntKind.i64.wrap (x34 + 1), r49.2.s_, r49.2.at_, r49.2.e_, l38 ++ ([r47.1] : List Int), l42 ++ ([r49.1] : List ByteArray), p63, c64, p67, c68, hR, hf.keep [2, 4, 5, 15, 16], sat_to [0, 0, 0, 0, 0, 0, 0, 0] 2 rfl hs⟩
        · refine pw_buildSlice (E := 9) eStr ([r49.1] : List ByteArray) rfl rfl rfl rfl rfl (by kernel_rfl) rfl (by kernel_rfl) rfl (by decide) rfl fun p63 => aw_next (fun w hs => sat_pulls [2, 2, 2, 2] (G := [own eStr 9 p63 1 ([r49.1] : List ByteArray), own (eInt .i64) 3 p61 1 ([r47.1] : List Int), own (eInt .i64) 3 p39 c40 l38, own eStr 9 p43 c44 l42] ++ F0) rfl hs) ?_
          refine aw_only 4 (m' := 511) (by kernel_rfl) (by kernel_rfl) (pw_append 6 (l' := ([r47.1] : List Int)) rfl rfl rfl rfl rfl rfl (by kernel_rfl) (by kernel_rfl) rfl rfl rfl (src_own (E' := 3) 1 rfl (by kernel_rfl) rfl) rfl h53.1 h53.2 fun p65 c66 => nw_H (H' := [own eStr 9 p63 1 ([r49.1] : List ByteArray), own (eInt .i64) 3 p61 1 ([r47.1] : List Int), imm I, pt r23_b1 #[.string r49.2.s_, .int .i64 r49.2.at_, .int .i64 r49.2.e_] 90, pt b28 #[.int .i64 r26.1, .slice p39 l38.length c40, .slice p43 l42.length c44, .slice none 0 0] 25, pt b21 #[.int .i64 0, .slice none 0 0, .slice none 0 0, .slice none 0 0] 25, own (eInt .i64) 3 p65 c66 (l38 ++ ([r47.1] : List Int)), own eStr 9 p43 c44 l42] ++ F0) rfl (aw_next (fun w hs => sat_pulls [2, 2, 2, 2] (G := [own eStr 9 p63 1 ([r49.1] : List ByteArray), own (eInt .i64) 3 p61 1 ([r47.1] : List Int), own (eInt .i64) 3 p65 c66 (l38 ++ ([r47.1] : List Int)), own eStr 9 p43 c44 l42] ++ F0) rfl hs) ?_))
          refine aw_vals [10] (f' := 4) (m' := 1535) [2, 4, 5, 15, 16, 26, 28, 30, 32] [(2, .pointer (some ⟨b21, 0, none⟩)), (4, .pointer (some ⟨r23_b1, 0, none⟩)), (5, .pointer (some ⟨b28, 0, none⟩)), (15, .int .i64 r31.1), (16, .int .i64 x34), (26, .slice p65 (l38 ++ ([r47.1] : List Int)).length c66), (28, .slice p43 l42.length c44), (30, .slice p63 ([r49.1] : List ByteArray).length 1), (32, .pointer (some ⟨b28, 1, none⟩))] (fun _ _ _ _ _ h => calm_fin (P := Try.prog) (fn := Try.f25) _ _ _ _ _ h) (fun w hs => sat_pulls [2, 2, 2, 2] (G := [own eStr 9 p63 1 ([r49.1] : List ByteArray), own (eInt .i64) 3 p61 1 ([r47.1] : List Int), own (eInt .i64) 3 p65 c66 (l38 ++ ([r47.1] : List Int)), own eStr 9 p43 c44 l42] ++ F0) rfl hs) rfl (by kernel_rfl) ?_
          refine aw_only 9 (m' := 2047) (by kernel_rfl) (by kernel_rfl) (pw_append 7 (l' := ([r49.1] : List ByteArray)) rfl rfl rfl rfl rfl rfl (by kernel_rfl) (by kernel_rfl) rfl rfl rfl (src_own (E' := 9) 0 rfl (by kernel_rfl) rfl) rfl h58.1 h58.2 fun p67 c68 => nw_H (H' := [own eStr 9 p63 1 ([r49.1] : List ByteArray), own (eInt .i64) 3 p61 1 ([r47.1] : List Int), imm I, pt r23_b1 #[.string r49.2.s_, .int .i64 r49.2.at_, .int .i64 r49.2.e_] 90, pt b28 #[.int .i64 r26.1, .slice p39 l38.length c40, .slice p43 l42.length c44, .slice none 0 0] 25, pt b21 #[.int .i64 0, .slice none 0 0, .slice none 0 0, .slice none 0 0] 25, own (eInt .i64) 3 p65 c66 (l38 ++ ([r47.1] : List Int)), own eStr 9 p67 c68 (l42 ++ ([r49.1] : List ByteArray))] ++ F0) rfl (aw_next (fun w hs => sat_pulls [2, 2, 2, 2] (G := [own eStr 9 p63 1 ([r49.1] : List ByteArray), own (eInt .i64) 3 p61 1 ([r47.1] : List Int), own (eInt .i64) 3 p65 c66 (l38 ++ ([r47.1] : List Int)), own eStr 9 p67 c68 (l42 ++ ([r49.1] : List ByteArray))] ++ F0) rfl hs) ?_))
          refine aw_only 11 (m' := 4095) (by kernel_rfl) (by kernel_rfl) (pw_store 4 #[.int .i64 r26.1, .slice p65 (l38 ++ ([r47.1] : List Int)).length c66, .slice p43 l42.length c44, .slice none 0 0] rfl rfl rfl rfl rfl rfl rfl (by kernel_rfl) (nw_H (H' := [own eStr 9 p63 1 ([r49.1] : List ByteArray), own (eInt .i64) 3 p61 1 ([r47.1] : List Int), imm I, pt r23_b1 #[.string r49.2.s_, .int .i64 r49.2.at_, .int .i64 r49.2.e_] 90, pt b28 #[.int .i64 r26.1, .slice p65 (l38 ++ ([r47.1] : List Int)).length c66, .slice p43 l42.length c44, .slice none 0 0] 25, pt b21 #[.int .i64 0, .slice none 0 0, .slice none 0 0, .slice none 0 0] 25, own (eInt .i64) 3 p65 c66 (l38 ++ ([r47.1] : List Int)), own eStr 9 p67 c68 (l42 ++ ([r49.1] : List ByteArray))] ++ F0) rfl (aw_last (by kernel_rfl) ?_)))
          refine aw_past (by kernel_rfl) ?_
          refine aw_vals [12] (f' := 1) (m' := 8191) [2, 4, 5, 15, 16, 31, 33] [(2, .pointer (some ⟨b21, 0, none⟩)), (4, .pointer (some ⟨r23_b1, 0, none⟩)), (5, .pointer (some ⟨b28, 0, none⟩)), (15, .int .i64 r31.1), (16, .int .i64 x34), (31, .slice p67 (l42 ++ ([r49.1] : List ByteArray)).length c68), (33, .pointer (some ⟨b28, 2, none⟩))] (fun _ _ _ _ _ h => calm_fin (P := Try.prog) (fn := Try.f25) _ _ _ _ _ h) (fun _ _ => trivial) rfl (by kernel_rfl) ?_
          refine aw_only 13 (m' := 16383) (by kernel_rfl) (by kernel_rfl) (pw_store 4 #[.int .i64 r26.1, .slice p65 (l38 ++ ([r47.1] : List Int)).length c66, .slice p67 (l42 ++ ([r49.1] : List ByteArray)).length c68, .slice none 0 0] rfl rfl rfl rfl rfl rfl rfl (by kernel_rfl) (nw_H (H' := [own eStr 9 p63 1 ([r49.1] : List ByteArray), own (eInt .i64) 3 p61 1 ([r47.1] : List Int), imm I, pt r23_b1 #[.string r49.2.s_, .int .i64 r49.2.at_, .int .i64 r49.2.e_] 90, pt b28 #[.int .i64 r26.1, .slice p65 (l38 ++ ([r47.1] : List Int)).length c66, .slice p67 (l42 ++ ([r49.1] : List ByteArray)).length c68, .slice none 0 0] 25, pt b21 #[.int .i64 0, .slice none 0 0, .slice none 0 0, .slice none 0 0] 25, own (eInt .i64) 3 p65 c66 (l38 ++ ([r47.1] : List Int)), own eStr 9 p67 c68 (l42 ++ ([r49.1] : List ByteArray))] ++ F0) rfl (aw_next (fun _ _ => trivial) ?_)))
          refine aw_keep [2, 4, 5, 15, 16] (L' := [(2, .pointer (some ⟨b21, 0, none⟩)), (4, .pointer (some ⟨r23_b1, 0, none⟩)), (5, .pointer (some ⟨b28, 0, none⟩)), (15, .int .i64 r31.1), (16, .int .i64 x34)]) rfl ?_
          refine aw_end (by kernel_rfl) ?_
          refine ew_blk ?_
          refine ew_then ?_
          refine cw_region ?_
          refine ow_vals 2 (j := 2) [2, 4, 5, 15, 16] [(2, .pointer (some ⟨b21, 0, none⟩)), (4, .pointer (some ⟨r23_b1, 0, none⟩)), (5, .pointer (some ⟨b28, 0, none⟩)), (15, .int .i64 r31.1), (16, .int .i64 (IntKind.i64.wrap (x34 + 1)))] rfl (by kernel_rfl) ?_
          refine ow_end rfl ?_
          have hR := Option.some.inj hF
          subst hR
          have hR := hL33
          try dsimp only at hR
          exact fun a w hf hs => ⟨k, Nat.lt_succ_self k, IntKind.i64.wrap (x34 + 1), r49.2.s_, r49.2.at_, r49.2.e_, l38 ++ ([r47.1] : List Int), l42 ++ ([r49.1] : List ByteArray), p65, c66, p67, c68, hR, hf.keep [2, 4, 5, 15, 16], sat_to [0, 0, 0, 0, 0, 0, 0, 0] 2 rfl hs⟩
      · refine pw_buildSlice (E := 9) eStr ([r49.1] : List ByteArray) rfl rfl rfl rfl rfl (by kernel_rfl) rfl (by kernel_rfl) rfl (by decide) rfl fun p61 => aw_next (fun w hs => sat_pulls [1, 1, 1, 1] (G := [own eStr 9 p61 1 ([r49.1] : List ByteArray), own (eInt .i64) 3 p39 c40 l38, own eStr 9 p43 c44 l42] ++ F0) rfl hs) ?_
        refine aw_only 3 (m' := 495) (by kernel_rfl) (by kernel_rfl) (pw_buildSlice (E := 3) (eInt .i64) ([r47.1] : List Int) rfl rfl rfl rfl rfl (by kernel_rfl) rfl (by kernel_rfl) rfl (by decide) rfl fun p63 => aw_next (fun w hs => sat_pulls [2, 2, 2, 2] (G := [own (eInt .i64) 3 p63 1 ([r47.1] : List Int), own eStr 9 p61 1 ([r49.1] : List ByteArray), own (eInt .i64) 3 p39 c40 l38, own eStr 9 p43 c44 l42] ++ F0) rfl hs) ?_)
        refine aw_only 4 (m' := 511) (by kernel_rfl) (by kernel_rfl) (pw_append 6 (l' := ([r47.1] : List Int)) rfl rfl rfl rfl rfl rfl (by kernel_rfl) (by kernel_rfl) rfl rfl rfl (src_own (E' := 3) 0 rfl (by kernel_rfl) rfl) rfl h53.1 h53.2 fun p65 c66 => nw_H (H' := [own (eInt .i64) 3 p63 1 ([r47.1] : List Int), own eStr 9 p61 1 ([r49.1] : List ByteArray), imm I, pt r23_b1 #[.string r49.2.s_, .int .i64 r49.2.at_, .int .i64 r49.2.e_] 90, pt b28 #[.int .i64 r26.1, .slice p39 l38.length c40, .slice p43 l42.length c44, .slice none 0 0] 25, pt b21 #[.int .i64 0, .slice none 0 0, .slice none 0 0, .slice none 0 0] 25, own (eInt .i64) 3 p65 c66 (l38 ++ ([r47.1] : List Int)), own eStr 9 p43 c44 l42] ++ F0) rfl (aw_next (fun w hs => sat_pulls [2, 2, 2, 2] (G := [own (eInt .i64) 3 p63 1 ([r47.1] : List Int), own eStr 9 p61 1 ([r49.1] : List ByteArray), own (eInt .i64) 3 p65 c66 (l38 ++ ([r47.1] : List Int)), own eStr 9 p43 c44 l42] ++ F0) rfl hs) ?_))
        refine aw_vals [10] (f' := 4) (m' := 1535) [2, 4, 5, 15, 16, 26, 28, 30, 32] [(2, .pointer (some ⟨b21, 0, none⟩)), (4, .pointer (some ⟨r23_b1, 0, none⟩)), (5, .pointer (some ⟨b28, 0, none⟩)), (15, .int .i64 r31.1), (16, .int .i64 x34), (26, .slice p65 (l38 ++ ([r47.1] : List Int)).length c66), (28, .slice p43 l42.length c44), (30, .slice p61 ([r49.1] : List ByteArray).length 1), (32, .pointer (some ⟨b28, 1, none⟩))] (fun _ _ _ _ _ h => calm_fin (P := Try.prog) (fn := Try.f25) _ _ _ _ _ h) (fun w hs => sat_pulls [2, 2, 2, 2] (G := [own (eInt .i64) 3 p63 1 ([r47.1] : List Int), own eStr 9 p61 1 ([r49.1] : List ByteArray), own (eInt .i64) 3 p65 c66 (l38 ++ ([r47.1] : List Int)), own eStr 9 p43 c44 l42] ++ F0) rfl hs) rfl (by kernel_rfl) ?_
        refine aw_only 9 (m' := 2047) (by kernel_rfl) (by kernel_rfl) (pw_append 7 (l' := ([r49.1] : List ByteArray)) rfl rfl rfl rfl rfl rfl (by kernel_rfl) (by kernel_rfl) rfl rfl rfl (src_own (E' := 9) 1 rfl (by kernel_rfl) rfl) rfl h58.1 h58.2 fun p67 c68 => nw_H (H' := [own (eInt .i64) 3 p63 1 ([r47.1] : List Int), own eStr 9 p61 1 ([r49.1] : List ByteArray), imm I, pt r23_b1 #[.string r49.2.s_, .int .i64 r49.2.at_, .int .i64 r49.2.e_] 90, pt b28 #[.int .i64 r26.1, .slice p39 l38.length c40, .slice p43 l42.length c44, .slice none 0 0] 25, pt b21 #[.int .i64 0, .slice none 0 0, .slice none 0 0, .slice none 0 0] 25, own (eInt .i64) 3 p65 c66 (l38 ++ ([r47.1] : List Int)), own eStr 9 p67 c68 (l42 ++ ([r49.1] : List ByteArray))] ++ F0) rfl (aw_next (fun w hs => sat_pulls [2, 2, 2, 2] (G := [own (eInt .i64) 3 p63 1 ([r47.1] : List Int), own eStr 9 p61 1 ([r49.1] : List ByteArray), own (eInt .i64) 3 p65 c66 (l38 ++ ([r47.1] : List Int)), own eStr 9 p67 c68 (l42 ++ ([r49.1] : List ByteArray))] ++ F0) rfl hs) ?_))
        refine aw_only 11 (m' := 4095) (by kernel_rfl) (by kernel_rfl) (pw_store 4 #[.int .i64 r26.1, .slice p65 (l38 ++ ([r47.1] : List Int)).length c66, .slice p43 l42.length c44, .slice none 0 0] rfl rfl rfl rfl rfl rfl rfl (by kernel_rfl) (nw_H (H' := [own (eInt .i64) 3 p63 1 ([r47.1] : List Int), own eStr 9 p61 1 ([r49.1] : List ByteArray), imm I, pt r23_b1 #[.string r49.2.s_, .int .i64 r49.2.at_, .int .i64 r49.2.e_] 90, pt b28 #[.int .i64 r26.1, .slice p65 (l38 ++ ([r47.1] : List Int)).length c66, .slice p43 l42.length c44, .slice none 0 0] 25, pt b21 #[.int .i64 0, .slice none 0 0, .slice none 0 0, .slice none 0 0] 25, own (eInt .i64) 3 p65 c66 (l38 ++ ([r47.1] : List Int)), own eStr 9 p67 c68 (l42 ++ ([r49.1] : List ByteArray))] ++ F0) rfl (aw_last (by kernel_rfl) ?_)))
        refine aw_past (by kernel_rfl) ?_
        refine aw_vals [12] (f' := 1) (m' := 8191) [2, 4, 5, 15, 16, 31, 33] [(2, .pointer (some ⟨b21, 0, none⟩)), (4, .pointer (some ⟨r23_b1, 0, none⟩)), (5, .pointer (some ⟨b28, 0, none⟩)), (15, .int .i64 r31.1), (16, .int .i64 x34), (31, .slice p67 (l42 ++ ([r49.1] : List ByteArray)).length c68), (33, .pointer (some ⟨b28, 2, none⟩))] (fun _ _ _ _ _ h => calm_fin (P := Try.prog) (fn := Try.f25) _ _ _ _ _ h) (fun _ _ => trivial) rfl (by kernel_rfl) ?_
        refine aw_only 13 (m' := 16383) (by kernel_rfl) (by kernel_rfl) (pw_store 4 #[.int .i64 r26.1, .slice p65 (l38 ++ ([r47.1] : List Int)).length c66, .slice p67 (l42 ++ ([r49.1] : List ByteArray)).length c68, .slice none 0 0] rfl rfl rfl rfl rfl rfl rfl (by kernel_rfl) (nw_H (H' := [own (eInt .i64) 3 p63 1 ([r47.1] : List Int), own eStr 9 p61 1 ([r49.1] : List ByteArray), imm I, pt r23_b1 #[.string r49.2.s_, .int .i64 r49.2.at_, .int .i64 r49.2.e_] 90, pt b28 #[.int .i64 r26.1, .slice p65 (l38 ++ ([r47.1] : List Int)).length c66, .slice p67 (l42 ++ ([r49.1] : List ByteArray)).length c68, .slice none 0 0] 25, pt b21 #[.int .i64 0, .slice none 0 0, .slice none 0 0, .slice none 0 0] 25, own (eInt .i64) 3 p65 c66 (l38 ++ ([r47.1] : List Int)), own eStr 9 p67 c68 (l42 ++ ([r49.1] : List ByteArray))] ++ F0) rfl (aw_next (fun _ _ => trivial) ?_)))
        refine aw_keep [2, 4, 5, 15, 16] (L' := [(2, .pointer (some ⟨b21, 0, none⟩)), (4, .pointer (some ⟨r23_b1, 0, none⟩)), (5, .pointer (some ⟨b28, 0, none⟩)), (15, .int .i64 r31.1), (16, .int .i64 x34)]) rfl ?_
        refine aw_end (by kernel_rfl) ?_
        refine ew_blk ?_
        refine ew_then ?_
        refine cw_region ?_
        refine ow_vals 2 (j := 2) [2, 4, 5, 15, 16] [(2, .pointer (some ⟨b21, 0, none⟩)), (4, .pointer (some ⟨r23_b1, 0, none⟩)), (5, .pointer (some ⟨b28, 0, none⟩)), (15, .int .i64 r31.1), (16, .int .i64 (IntKind.i64.wrap (x34 + 1)))] rfl (by kernel_rfl) ?_
        refine ow_end rfl ?_
        have hR := Option.some.inj hF
        subst hR
        have hR := hL33
        try dsimp only at hR
        exact fun a w hf hs => ⟨k, Nat.lt_succ_self k, IntKind.i64.wrap (x34 + 1), r49.2.s_, r49.2.at_, r49.2.e_, l38 ++ ([r47.1] : List Int), l42 ++ ([r49.1] : List ByteArray), p65, c66, p67, c68, hR, hf.keep [2, 4, 5, 15, 16], sat_to [0, 0, 0, 0, 0, 0, 0, 0] 2 rfl hs⟩
    · refine cw_cond_f rfl rfl h46 ?_
      refine cw_exit ?_
      refine ew_then_exit ?_
      refine ew_then_exit ?_
      refine ew_blk_exit ?_
      have hR := Option.some.inj hF
      subst hR
      have hR := hL33
      try dsimp only at hR
      exact fun a w hf hs => ⟨s35, x36, x37, l38, l42, p39, c40, p43, c44, hR, hf.keep [2, 4, 5], sat_to [0, 0, 0, 0, 0, 0] 0 rfl hs⟩
  · rintro a w ⟨s69, x70, x71, l72, l76, p73, c74, p77, c78, hv, hf, hs⟩
    subst hv
    replace hF := hK30
    clear hK30
    try dsimp only at hF
    revert a w
    show CW _ _ _ 58 [(2, .pointer (some ⟨b21, 0, none⟩)), (4, .pointer (some ⟨r23_b1, 0, none⟩)), (5, .pointer (some ⟨b28, 0, none⟩))] (SAT w0 ([imm I, pt r23_b1 #[.string s69, .int .i64 x70, .int .i64 x71] 90, pt b28 #[.int .i64 r26.1, .slice p73 l72.length c74, .slice p77 l76.length c78, .slice none 0 0] 25, pt b21 #[.int .i64 0, .slice none 0 0, .slice none 0 0, .slice none 0 0] 25, own (eInt .i64) 3 p73 c74 l72, own eStr 9 p77 c78 l76] ++ F0))
    unfold F.batch_Read.r2 at hF
    obtain ⟨v80, hF, hK80⟩ := bind_some hF
    refine cw_mid (fun a w => ∃ (s100 : ByteArray), ∃ (x101 : Int), ∃ (x102 : Int), ∃ (l103 : List ByteArray), ∃ (p104 : Option Addr), ∃ (c105 : Nat), (s100, x101, x102, l103) = v80 ∧ Fr 58 [(2, .pointer (some ⟨b21, 0, none⟩)), (4, .pointer (some ⟨r23_b1, 0, none⟩)), (5, .pointer (some ⟨b28, 0, none⟩))] a ∧ SAT w0 ([imm I, pt r23_b1 #[.string s100, .int .i64 x101, .int .i64 x102] 90, pt b28 #[.int .i64 r26.1, .slice p73 l72.length c74, .slice p77 l76.length c78, .slice p104 l103.length c105] 25, pt b21 #[.int .i64 0, .slice none 0 0, .slice none 0 0, .slice none 0 0] 25, own (eInt .i64) 3 p73 c74 l72, own eStr 9 p77 c78 l76, own eStr 9 p104 c105 l103] ++ F0) w) ?_ ?_
    · refine cw_seq ?_
      refine cw_region ?_
      refine ow_vals 1 (j := 1) [2, 4, 5, 35] [(2, .pointer (some ⟨b21, 0, none⟩)), (4, .pointer (some ⟨r23_b1, 0, none⟩)), (5, .pointer (some ⟨b28, 0, none⟩)), (35, .pointer (some ⟨r23_b1, 0, none⟩))] rfl (by kernel_rfl) ?_
      obtain ⟨r81, h82, hF⟩ := bind_some hF
      refine ow_pw rfl (pw_call (F := [pt b28 #[.int .i64 r26.1, .slice p73 l72.length c74, .slice p77 l76.length c78, .slice none 0 0] 25, pt b21 #[.int .i64 0, .slice none 0 0, .slice none 0 0, .slice none 0 0] 25, own (eInt .i64) 3 p73 c74 l72, own eStr 9 p77 c78 l76] ++ F0) rfl rfl rfl rfl rfl rfl rfl (by kernel_rfl) (perm_of_pulls [0, 0] rfl) (c_octet_Reader_Num _ 1024 (⟨s69, x70, x71⟩ : octet_Reader) r23_b1 r81 h82) ?_)
      rintro _ _ ⟨rfl, rfl⟩
      refine nw_H (H' := [imm I, pt r23_b1 #[.string r81.2.s_, .int .i64 r81.2.at_, .int .i64 r81.2.e_] 90, pt b28 #[.int .i64 r26.1, .slice p73 l72.length c74, .slice p77 l76.length c78, .slice none 0 0] 25, pt b21 #[.int .i64 0, .slice none 0 0, .slice none 0 0, .slice none 0 0] 25, own (eInt .i64) 3 p73 c74 l72, own eStr 9 p77 c78 l76] ++ F0) rfl (nw_ow ?_)
      refine ow_vals 1 (j := 3) [2, 4, 5, 36, 37] [(2, .pointer (some ⟨b21, 0, none⟩)), (4, .pointer (some ⟨r23_b1, 0, none⟩)), (5, .pointer (some ⟨b28, 0, none⟩)), (36, .int .i64 r81.1), (37, .int .i64 0)] rfl (by kernel_rfl) ?_
      refine ow_end rfl ?_
      refine ew_then ?_
      refine cw_block ?_
      refine fun a w hf hs => wp_rounds (fun k a w => ∃ (x84 : Int), ∃ (s85 : ByteArray), ∃ (x86 : Int), ∃ (x87 : Int), ∃ (l88 : List ByteArray), ∃ (p89 : Option Addr), ∃ (c90 : Nat), iter (fun x => F.batch_Read.l3 r81 x.1 x.2.1 x.2.2.1 x.2.2.2.1 x.2.2.2.2) k (x84, s85, x86, x87, l88) = some v80 ∧ Fr 58 [(2, .pointer (some ⟨b21, 0, none⟩)), (4, .pointer (some ⟨r23_b1, 0, none⟩)), (5, .pointer (some ⟨b28, 0, none⟩)), (36, .int .i64 r81.1), (37, .int .i64 x84)] a ∧ SAT w0 ([imm I, pt r23_b1 #[.string s85, .int .i64 x86, .int .i64 x87] 90, pt b28 #[.int .i64 r26.1, .slice p73 l72.length c74, .slice p77 l76.length c78, .slice p89 l88.length c90] 25, pt b21 #[.int .i64 0, .slice none 0 0, .slice none 0 0, .slice none 0 0] 25, own (eInt .i64) 3 p73 c74 l72, own eStr 9 p77 c78 l76, own eStr 9 p89 c90 l88] ++ F0) w) ?_ FUEL a w ⟨0, r81.2.s_, r81.2.at_, r81.2.e_, [], none, 0, hF, hf.keep [2, 4, 5, 36, 37], sat_to [1, 1, 1, 1, 1, 1, 0] 0 rfl (sat_own_nil eStr 9 hs)⟩
      clear hf hs
      clear a w hF
      rintro k a w ⟨x84, s85, x86, x87, l88, p89, c90, hF2, hf, hs⟩
      obtain ⟨k, r83, rfl, hF, hL83⟩ := iter_some hF2
      clear hF2
      revert a w
      show CW _ _ _ 58 [(2, .pointer (some ⟨b21, 0, none⟩)), (4, .pointer (some ⟨r23_b1, 0, none⟩)), (5, .pointer (some ⟨b28, 0, none⟩)), (36, .int .i64 r81.1), (37, .int .i64 x84)] (SAT w0 ([imm I, pt r23_b1 #[.string s85, .int .i64 x86, .int .i64 x87] 90, pt b28 #[.int .i64 r26.1, .slice p73 l72.length c74, .slice p77 l76.length c78, .slice p89 l88.length c90] 25, pt b21 #[.int .i64 0, .slice none 0 0, .slice none 0 0, .slice none 0 0] 25, own (eInt .i64) 3 p73 c74 l72, own eStr 9 p77 c78 l76, own eStr 9 p89 c90 l88] ++ F0))
      try dsimp only at hF
      unfold F.batch_Read.l3 at hF
      refine cw_seq ?_
      refine cw_region ?_
      refine ow_vals 1 (j := 1) [2, 4, 5, 36, 37, 38] [(2, .pointer (some ⟨b21, 0, none⟩)), (4, .pointer (some ⟨r23_b1, 0, none⟩)), (5, .pointer (some ⟨b28, 0, none⟩)), (36, .int .i64 r81.1), (37, .int .i64 x84), (38, .bool (decide (x84 < r81.1)))] rfl (by kernel_rfl) ?_
      refine ow_end rfl ?_
      refine ew_then ?_
      refine cw_seq ?_
      rcases if_some hF with ⟨h92, hF⟩ | ⟨h92, hF⟩
      · refine cw_cond_t rfl rfl h92 ?_
        refine cw_skip ?_
        refine ew_then ?_
        refine cw_seq ?_
        refine cw_block ?_
        refine cw_open 7 (SAT w0 ([imm I, pt b28 #[.int .i64 r26.1, .slice p73 l72.length c74, .slice p77 l76.length c78, .slice p89 l88.length c90] 25, pt b21 #[.int .i64 0, .slice none 0 0, .slice none 0 0, .slice none 0 0] 25, own (eInt .i64) 3 p73 c74 l72, own eStr 9 p77 c78 l76])) (by kernel_rfl) (f := 8) rfl (fun w hs => sat_drew hs) ?_
        refine aw_vals [0, 2] (f' := 6) (m' := 5) [2, 4, 5, 36, 37, 39, 41] [(2, .pointer (some ⟨b21, 0, none⟩)), (4, .pointer (some ⟨r23_b1, 0, none⟩)), (5, .pointer (some ⟨b28, 0, none⟩)), (36, .int .i64 r81.1), (37, .int .i64 x84), (39, .pointer (some ⟨b28, 3, none⟩)), (41, .pointer (some ⟨r23_b1, 0, none⟩))] (fun _ _ _ _ _ h => calm_fin (P := Try.prog) (fn := Try.f25) _ _ _ _ _ h) (fun w hs => sat_pulls [0, 1, 1, 1, 1] (G := [pt r23_b1 #[.string s85, .int .i64 x86, .int .i64 x87] 90, own eStr 9 p89 c90 l88] ++ F0) rfl hs) rfl (by kernel_rfl) ?_
        refine aw_quiet 1 (m' := 7) (v := .slice p89 l88.length c90) 1 [] rfl rfl rfl rfl (by kernel_rfl) (by kernel_rfl) (by kernel_rfl) (fun _ _ _ _ _ h => calm_fin (P := Try.prog) (fn := Try.f25) _ _ _ _ _ h) (fun w hs => sat_pulls [0, 1, 1, 1, 1] (G := [pt r23_b1 #[.string s85, .int .i64 x86, .int .i64 x87] 90, own eStr 9 p89 c90 l88] ++ F0) rfl hs) (q_load 1 rfl rfl rfl (by kernel_rfl)) ?_
        obtain ⟨r93, h94, hF⟩ := bind_some hF
        refine aw_only 3 (m' := 15) (by kernel_rfl) (by kernel_rfl) (pw_call (F := [pt b28 #[.int .i64 r26.1, .slice p73 l72.length c74, .slice p77 l76.length c78, .slice p89 l88.length c90] 25, pt b21 #[.int .i64 0, .slice none 0 0, .slice none 0 0, .slice none 0 0] 25, own (eInt .i64) 3 p73 c74 l72, own eStr 9 p77 c78 l76, own eStr 9 p89 c90 l88] ++ F0) rfl rfl rfl rfl rfl rfl rfl (by kernel_rfl) (perm_of_pulls [0, 0] rfl) (c_octet_Reader_Raw _ 32 (⟨s85, x86, x87⟩ : octet_Reader) r23_b1 r93 h94) ?_)
        rintro _ _ ⟨rfl, rfl⟩
        refine nw_H (H' := [imm I, pt r23_b1 #[.string r93.2.s_, .int .i64 r93.2.at_, .int .i64 r93.2.e_] 90, pt b28 #[.int .i64 r26.1, .slice p73 l72.length c74, .slice p77 l76.length c78, .slice p89 l88.length c90] 25, pt b21 #[.int .i64 0, .slice none 0 0, .slice none 0 0, .slice none 0 0] 25, own (eInt .i64) 3 p73 c74 l72, own eStr 9 p77 c78 l76, own eStr 9 p89 c90 l88] ++ F0) rfl (aw_next (fun w hs => sat_pulls [0, 1, 1, 1, 1] (G := [pt r23_b1 #[.string r93.2.s_, .int .i64 r93.2.at_, .int .i64 r93.2.e_] 90, own eStr 9 p89 c90 l88] ++ F0) rfl hs) ?_)
        refine aw_only 4 (m' := 31) (by kernel_rfl) (by kernel_rfl) (pw_buildSlice (E := 9) eStr ([r93.1] : List ByteArray) rfl rfl rfl rfl rfl (by kernel_rfl) rfl (by kernel_rfl) rfl (by decide) rfl fun p95 => aw_next (fun w hs => sat_pulls [1, 2, 2, 2, 2] (G := [own eStr 9 p95 1 ([r93.1] : List ByteArray), pt r23_b1 #[.string r93.2.s_, .int .i64 r93.2.at_, .int .i64 r93.2.e_] 90, own eStr 9 p89 c90 l88] ++ F0) rfl hs) ?_)
        obtain ⟨h97, hF⟩ := chk_some hF
        refine aw_only 5 (m' := 63) (by kernel_rfl) (by kernel_rfl) (pw_append 7 (l' := ([r93.1] : List ByteArray)) rfl rfl rfl rfl rfl rfl (by kernel_rfl) (by kernel_rfl) rfl rfl rfl (src_own (E' := 9) 0 rfl (by kernel_rfl) rfl) rfl h97.1 h97.2 fun p98 c99 => nw_H (H' := [own eStr 9 p95 1 ([r93.1] : List ByteArray), imm I, pt r23_b1 #[.string r93.2.s_, .int .i64 r93.2.at_, .int .i64 r93.2.e_] 90, pt b28 #[.int .i64 r26.1, .slice p73 l72.length c74, .slice p77 l76.length c78, .slice p89 l88.length c90] 25, pt b21 #[.int .i64 0, .slice none 0 0, .slice none 0 0, .slice none 0 0] 25, own (eInt .i64) 3 p73 c74 l72, own eStr 9 p77 c78 l76, own eStr 9 p98 c99 (l88 ++ ([r93.1] : List ByteArray))] ++ F0) rfl (aw_next (fun w hs => sat_pulls [1, 2, 2, 2, 2] (G := [own eStr 9 p95 1 ([r93.1] : List ByteArray), pt r23_b1 #[.string r93.2.s_, .int .i64 r93.2.at_, .int .i64 r93.2.e_] 90, own eStr 9 p98 c99 (l88 ++ ([r93.1] : List ByteArray))] ++ F0) rfl hs) ?_))
        refine aw_vals [6] (f' := 1) (m' := 127) [2, 4, 5, 36, 37, 44, 45] [(2, .pointer (some ⟨b21, 0, none⟩)), (4, .pointer (some ⟨r23_b1, 0, none⟩)), (5, .pointer (some ⟨b28, 0, none⟩)), (36, .int .i64 r81.1), (37, .int .i64 x84), (44, .slice p98 (l88 ++ ([r93.1] : List ByteArray)).length c99), (45, .pointer (some ⟨b28, 3, none⟩))] (fun _ _ _ _ _ h => calm_fin (P := Try.prog) (fn := Try.f25) _ _ _ _ _ h) (fun w hs => sat_pulls [1, 2, 2, 2, 2] (G := [own eStr 9 p95 1 ([r93.1] : List ByteArray), pt r23_b1 #[.string r93.2.s_, .int .i64 r93.2.at_, .int .i64 r93.2.e_] 90, own eStr 9 p98 c99 (l88 ++ ([r93.1] : List ByteArray))] ++ F0) rfl hs) rfl (by kernel_rfl) ?_
        refine aw_only 7 (m' := 255) (by kernel_rfl) (by kernel_rfl) (pw_store 3 #[.int .i64 r26.1, .slice p73 l72.length c74, .slice p77 l76.length c78, .slice p98 (l88 ++ ([r93.1] : List ByteArray)).length c99] rfl rfl rfl rfl rfl rfl rfl (by kernel_rfl) (nw_H (H' := [own eStr 9 p95 1 ([r93.1] : List ByteArray), imm I, pt r23_b1 #[.string r93.2.s_, .int .i64 r93.2.at_, .int .i64 r93.2.e_] 90, pt b28 #[.int .i64 r26.1, .slice p73 l72.length c74, .slice p77 l76.length c78, .slice p98 (l88 ++ ([r93.1] : List ByteArray)).length c99] 25, pt b21 #[.int .i64 0, .slice none 0 0, .slice none 0 0, .slice none 0 0] 25, own (eInt .i64) 3 p73 c74 l72, own eStr 9 p77 c78 l76, own eStr 9 p98 c99 (l88 ++ ([r93.1] : List ByteArray))] ++ F0) rfl (aw_last (by kernel_rfl) ?_)))
        refine aw_keep [2, 4, 5, 36, 37] (L' := [(2, .pointer (some ⟨b21, 0, none⟩)), (4, .pointer (some ⟨r23_b1, 0, none⟩)), (5, .pointer (some ⟨b28, 0, none⟩)), (36, .int .i64 r81.1), (37, .int .i64 x84)]) rfl ?_
        refine aw_end (by kernel_rfl) ?_
        refine ew_blk ?_
        refine ew_then ?_
        refine cw_region ?_
        refine ow_vals 2 (j := 2) [2, 4, 5, 36, 37] [(2, .pointer (some ⟨b21, 0, none⟩)), (4, .pointer (some ⟨r23_b1, 0, none⟩)), (5, .pointer (some ⟨b28, 0, none⟩)), (36, .int .i64 r81.1), (37, .int .i64 (IntKind.i64.wrap (x84 + 1)))] rfl (by kernel_rfl) ?_
        refine ow_end rfl ?_
        have hR := Option.some.inj hF
        subst hR
        have hR := hL83
        try dsimp only at hR
        exact fun a w hf hs => ⟨k, Nat.lt_succ_self k, IntKind.i64.wrap (x84 + 1), r93.2.s_, r93.2.at_, r93.2.e_, l88 ++ ([r93.1] : List ByteArray), p98, c99, hR, hf.keep [2, 4, 5, 36, 37], sat_to [0, 0, 0, 0, 0, 0, 0, 0] 1 rfl hs⟩
      · refine cw_cond_f rfl rfl h92 ?_
        refine cw_exit ?_
        refine ew_then_exit ?_
        refine ew_then_exit ?_
        refine ew_blk_exit ?_
        have hR := Option.some.inj hF
        subst hR
        have hR := hL83
        try dsimp only at hR
        exact fun a w hf hs => ⟨s85, x86, x87, l88, p89, c90, hR, hf.keep [2, 4, 5], sat_to [0, 0, 0, 0, 0, 0, 0] 0 rfl hs⟩
    · rintro a w ⟨s100, x101, x102, l103, p104, c105, hv, hf, hs⟩
      subst hv
      replace hF := hK80
      clear hK80
      try dsimp only at hF
      revert a w
      show CW _ _ _ 58 [(2, .pointer (some ⟨b21, 0, none⟩)), (4, .pointer (some ⟨r23_b1, 0, none⟩)), (5, .pointer (some ⟨b28, 0, none⟩))] (SAT w0 ([imm I, pt r23_b1 #[.string s100, .int .i64 x101, .int .i64 x102] 90, pt b28 #[.int .i64 r26.1, .slice p73 l72.length c74, .slice p77 l76.length c78, .slice p104 l103.length c105] 25, pt b21 #[.int .i64 0, .slice none 0 0, .slice none 0 0, .slice none 0 0] 25, own (eInt .i64) 3 p73 c74 l72, own eStr 9 p77 c78 l76, own eStr 9 p104 c105 l103] ++ F0))
      unfold F.batch_Read.r4 at hF
      refine cw_seq ?_
      refine cw_seq ?_
      refine cw_region ?_
      refine ow_vals 1 (j := 1) [2, 5, 47] [(2, .pointer (some ⟨b21, 0, none⟩)), (5, .pointer (some ⟨b28, 0, none⟩)), (47, .pointer (some ⟨r23_b1, 0, none⟩))] rfl (by kernel_rfl) ?_
      obtain ⟨r107, h108, hF⟩ := bind_some hF
      refine ow_pw rfl (pw_call (F := [pt b28 #[.int .i64 r26.1, .slice p73 l72.length c74, .slice p77 l76.length c78, .slice p104 l103.length c105] 25, pt b21 #[.int .i64 0, .slice none 0 0, .slice none 0 0, .slice none 0 0] 25, own (eInt .i64) 3 p73 c74 l72, own eStr 9 p77 c78 l76, own eStr 9 p104 c105 l103] ++ F0) rfl rfl rfl rfl rfl rfl rfl (by kernel_rfl) (perm_of_pulls [0, 0] rfl) (c_octet_Reader_End _ (⟨s100, x101, x102⟩ : octet_Reader) r23_b1 r107 h108) ?_)
      rintro _ _ ⟨rfl, rfl⟩
      refine nw_H (H' := [imm I, pt r23_b1 #[.string r107.2.s_, .int .i64 r107.2.at_, .int .i64 r107.2.e_] 90, pt b28 #[.int .i64 r26.1, .slice p73 l72.length c74, .slice p77 l76.length c78, .slice p104 l103.length c105] 25, pt b21 #[.int .i64 0, .slice none 0 0, .slice none 0 0, .slice none 0 0] 25, own (eInt .i64) 3 p73 c74 l72, own eStr 9 p77 c78 l76, own eStr 9 p104 c105 l103] ++ F0) rfl (nw_ow ?_)
      refine ow_vals 1 (j := 3) [2, 5, 8] [(2, .pointer (some ⟨b21, 0, none⟩)), (5, .pointer (some ⟨b28, 0, none⟩)), (8, .int .i64 r107.1)] rfl (by kernel_rfl) ?_
      refine ow_end rfl ?_
      refine ew_then ?_
      refine cw_seq ?_
      refine cw_region ?_
      refine ow_vals 2 (j := 2) [2, 5, 8, 50] [(2, .pointer (some ⟨b21, 0, none⟩)), (5, .pointer (some ⟨b28, 0, none⟩)), (8, .int .i64 r107.1), (50, .bool (r107.1 != 0))] rfl (by kernel_rfl) ?_
      refine ow_end rfl ?_
      refine ew_then ?_
      rcases if_some hF with ⟨h109, hF⟩ | ⟨h109, hF⟩
      · refine cw_cond_t rfl rfl h109 ?_
        refine cw_seq ?_
        refine cw_region ?_
        refine ow_vals 2 (j := 2) [2, 51, 52] [(2, .pointer (some ⟨b21, 0, none⟩)), (51, .agg #[.int .i64 0, .slice none 0 0, .slice none 0 0, .slice none 0 0]), (52, .int .i64 r107.1)] rfl (by kernel_rfl) ?_
        refine ow_pw rfl (pw_store 3 #[.int .i64 0, .slice none 0 0, .slice none 0 0, .slice none 0 0] rfl rfl rfl rfl rfl rfl rfl (by kernel_rfl) (nw_H (H' := [imm I, pt r23_b1 #[.string r107.2.s_, .int .i64 r107.2.at_, .int .i64 r107.2.e_] 90, pt b28 #[.int .i64 r26.1, .slice p73 l72.length c74, .slice p77 l76.length c78, .slice p104 l103.length c105] 25, pt b21 #[.int .i64 0, .slice none 0 0, .slice none 0 0, .slice none 0 0] 25, own (eInt .i64) 3 p73 c74 l72, own eStr 9 p77 c78 l76, own eStr 9 p104 c105 l103] ++ F0) rfl (nw_ow ?_)))
        refine ow_vals 1 (j := 4) [2, 3] [(2, .pointer (some ⟨b21, 0, none⟩)), (3, .int .i64 r107.1)] rfl (by kernel_rfl) ?_
        refine ow_end rfl ?_
        refine ew_then ?_
        refine cw_ret ?_
        refine ew_then_ret ?_
        have hR := Option.some.inj hF
        subst hR
        exact fin2 (H1 := [imm I]) (fun w hs => sat_to [1, 1, 1, 1, 1, 1, 0] 6 rfl hs) rfl (rr_cell 3 rfl rfl (by kernel_rfl)) (rr_tmp rfl) ⟨I, none, 0, none, 0, none, 0, rfl, rfl, Hl.sub_refl _, ro_nil _ _, ro_nil _ _, ro_nil _ _⟩
      · refine cw_cond_f rfl rfl h109 ?_
        refine cw_skip ?_
        refine ew_then ?_
        refine cw_seq ?_
        refine cw_seq ?_
        refine cw_region ?_
        refine ow_pw rfl (pw_quiet (v := .agg #[.int .i64 r26.1, .slice p73 l72.length c74, .slice p77 l76.length c78, .slice p104 l103.length c105]) rfl rfl rfl rfl (q_load 2 rfl rfl rfl (by kernel_rfl)) (nw_ow ?_))
        refine ow_freeze (fun w hs => sat_to [0, 5] 0 (F := [imm I, own eStr 9 p104 c105 l103, pt r23_b1 #[.string r107.2.s_, .int .i64 r107.2.at_, .int .i64 r107.2.e_] 90, pt b28 #[.int .i64 r26.1, .slice p73 l72.length c74, .slice p77 l76.length c78, .slice p104 l103.length c105] 25, pt b21 #[.int .i64 0, .slice none 0 0, .slice none 0 0, .slice none 0 0] 25, own (eInt .i64) 3 p73 c74 l72, own eStr 9 p77 c78 l76] ++ F0) rfl hs) fun J110 h111 h112 => ?_
        refine ow_H (H' := [imm J110, pt r23_b1 #[.string r107.2.s_, .int .i64 r107.2.at_, .int .i64 r107.2.e_] 90, pt b28 #[.int .i64 r26.1, .slice p73 l72.length c74, .slice p77 l76.length c78, .slice p104 l103.length c105] 25, pt b21 #[.int .i64 0, .slice none 0 0, .slice none 0 0, .slice none 0 0] 25, own (eInt .i64) 3 p73 c74 l72, own eStr 9 p77 c78 l76] ++ F0) rfl ?_
        refine ow_freeze (fun w hs => sat_to [0, 3] 0 (F := [imm J110, own (eInt .i64) 3 p73 c74 l72, pt r23_b1 #[.string r107.2.s_, .int .i64 r107.2.at_, .int .i64 r107.2.e_] 90, pt b28 #[.int .i64 r26.1, .slice p73 l72.length c74, .slice p77 l76.length c78, .slice p104 l103.length c105] 25, pt b21 #[.int .i64 0, .slice none 0 0, .slice none 0 0, .slice none 0 0] 25, own eStr 9 p77 c78 l76] ++ F0) rfl hs) fun J113 h114 h115 => ?_
        have h112 := ro.sub h114 h112
        refine ow_H (H' := [imm J113, pt r23_b1 #[.string r107.2.s_, .int .i64 r107.2.at_, .int .i64 r107.2.e_] 90, pt b28 #[.int .i64 r26.1, .slice p73 l72.length c74, .slice p77 l76.length c78, .slice p104 l103.length c105] 25, pt b21 #[.int .i64 0, .slice none 0 0, .slice none 0 0, .slice none 0 0] 25, own eStr 9 p77 c78 l76] ++ F0) rfl ?_
        refine ow_freeze (fun w hs => sat_to [0, 3] 0 (F := [imm J113, own eStr 9 p77 c78 l76, pt r23_b1 #[.string r107.2.s_, .int .i64 r107.2.at_, .int .i64 r107.2.e_] 90, pt b28 #[.int .i64 r26.1, .slice p73 l72.length c74, .slice p77 l76.length c78, .slice p104 l103.length c105] 25, pt b21 #[.int .i64 0, .slice none 0 0, .slice none 0 0, .slice none 0 0] 25] ++ F0) rfl hs) fun J116 h117 h118 => ?_
        have h115 := ro.sub h117 h115
        have h112 := ro.sub h117 h112
        refine ow_H (H' := [imm J116, pt r23_b1 #[.string r107.2.s_, .int .i64 r107.2.at_, .int .i64 r107.2.e_] 90, pt b28 #[.int .i64 r26.1, .slice p73 l72.length c74, .slice p77 l76.length c78, .slice p104 l103.length c105] 25, pt b21 #[.int .i64 0, .slice none 0 0, .slice none 0 0, .slice none 0 0] 25] ++ F0) rfl ?_
        obtain ⟨r119, h120, hF⟩ := bind_some hF
        refine ow_pw rfl (pw_call (F := [pt r23_b1 #[.string r107.2.s_, .int .i64 r107.2.at_, .int .i64 r107.2.e_] 90, pt b28 #[.int .i64 r26.1, .slice p73 l72.length c74, .slice p77 l76.length c78, .slice p104 l103.length c105] 25, pt b21 #[.int .i64 0, .slice none 0 0, .slice none 0 0, .slice none 0 0] 25] ++ F0) rfl rfl rfl rfl rfl rfl rfl (by kernel_rfl) (perm_of_pulls [0] rfl) (c_batch_Right _ (⟨r26.1, l72, l76, l103⟩ : batch_Proof) p73 c74 p77 c78 p104 c105 r119 h120 h115 h118 h112) ?_)
        rintro _ _ ⟨rfl, rfl⟩
        refine nw_H (H' := [imm J116, pt r23_b1 #[.string r107.2.s_, .int .i64 r107.2.at_, .int .i64 r107.2.e_] 90, pt b28 #[.int .i64 r26.1, .slice p73 l72.length c74, .slice p77 l76.length c78, .slice p104 l103.length c105] 25, pt b21 #[.int .i64 0, .slice none 0 0, .slice none 0 0, .slice none 0 0] 25] ++ F0) rfl (nw_ow ?_)
        refine ow_vals 1 (j := 3) [2, 5, 55] [(2, .pointer (some ⟨b21, 0, none⟩)), (5, .pointer (some ⟨b28, 0, none⟩)), (55, .bool (!r119))] rfl (by kernel_rfl) ?_
        refine ow_end rfl ?_
        refine ew_then ?_
        rcases if_some hF with ⟨h121, hF⟩ | ⟨h121, hF⟩
        · refine cw_cond_t rfl rfl h121 ?_
          refine cw_seq ?_
          refine cw_region ?_
          refine ow_vals 1 (j := 1) [2, 56] [(2, .pointer (some ⟨b21, 0, none⟩)), (56, .agg #[.int .i64 0, .slice none 0 0, .slice none 0 0, .slice none 0 0])] rfl (by kernel_rfl) ?_
          refine ow_pw rfl (pw_store 3 #[.int .i64 0, .slice none 0 0, .slice none 0 0, .slice none 0 0] rfl rfl rfl rfl rfl rfl rfl (by kernel_rfl) (nw_H (H' := [imm J116, pt r23_b1 #[.string r107.2.s_, .int .i64 r107.2.at_, .int .i64 r107.2.e_] 90, pt b28 #[.int .i64 r26.1, .slice p73 l72.length c74, .slice p77 l76.length c78, .slice p104 l103.length c105] 25, pt b21 #[.int .i64 0, .slice none 0 0, .slice none 0 0, .slice none 0 0] 25] ++ F0) rfl (nw_ow ?_)))
          refine ow_vals 1 (j := 3) [2, 3] [(2, .pointer (some ⟨b21, 0, none⟩)), (3, .int .i64 4)] rfl (by kernel_rfl) ?_
          refine ow_end rfl ?_
          refine ew_then ?_
          refine cw_ret ?_
          refine ew_then_ret ?_
          have hR := Option.some.inj hF
          subst hR
          exact fin2 (H1 := [imm J116]) (fun w hs => sat_to [1, 1, 1, 0] 3 rfl hs) rfl (rr_cell 3 rfl rfl (by kernel_rfl)) (rr_tmp rfl) ⟨J116, none, 0, none, 0, none, 0, rfl, rfl, (Hl.sub_trans (Hl.sub_trans h111 h114) h117), ro_nil _ _, ro_nil _ _, ro_nil _ _⟩
        · refine cw_cond_f rfl rfl h121 ?_
          refine cw_skip ?_
          refine ew_then ?_
          refine cw_seq ?_
          refine cw_region ?_
          refine ow_pw rfl (pw_quiet (v := .agg #[.int .i64 r26.1, .slice p73 l72.length c74, .slice p77 l76.length c78, .slice p104 l103.length c105]) rfl rfl rfl rfl (q_load 2 rfl rfl rfl (by kernel_rfl)) (nw_ow ?_))
          refine ow_pw rfl (pw_store 3 #[.int .i64 r26.1, .slice p73 l72.length c74, .slice p77 l76.length c78, .slice p104 l103.length c105] rfl rfl rfl rfl rfl rfl rfl (by kernel_rfl) (nw_H (H' := [imm J116, pt r23_b1 #[.string r107.2.s_, .int .i64 r107.2.at_, .int .i64 r107.2.e_] 90, pt b28 #[.int .i64 r26.1, .slice p73 l72.length c74, .slice p77 l76.length c78, .slice p104 l103.length c105] 25, pt b21 #[.int .i64 r26.1, .slice p73 l72.length c74, .slice p77 l76.length c78, .slice p104 l103.length c105] 25] ++ F0) rfl (nw_ow ?_)))
          refine ow_vals 1 (j := 3) [2, 3] [(2, .pointer (some ⟨b21, 0, none⟩)), (3, .int .i64 0)] rfl (by kernel_rfl) ?_
          refine ow_end rfl ?_
          refine ew_then ?_
          refine cw_ret ?_
          have hR := Option.some.inj hF
          subst hR
          exact fin2 (H1 := [imm J116]) (fun w hs => sat_to [1, 1, 1, 0] 3 rfl hs) rfl (rr_cell 3 rfl rfl (by kernel_rfl)) (rr_tmp rfl) ⟨J116, p73, c74, p77, c78, p104, c105, rfl, rfl, (Hl.sub_trans (Hl.sub_trans h111 h114) h117), h115, h118, h112⟩


def F.law30_bytes.r1 (x0 : batch_Proof) (s30 : ByteArray) (x31 : Int) : Option ((ByteArray × Int) ⊕ (ByteArray)) :=
  Option.bind (at_ x0.Picks x31) (fun (y35 : Int) => Option.bind (at_ x0.Leaf x31) (fun (y39 : ByteArray) => Option.bind (F.octet_Num y35) (fun (r43 : ByteArray) => chk (s30.size + r43.size ≤ 9223372036854775807) (chk ((s30 ++ r43).size + y39.size ≤ 9223372036854775807) (some (.inl ((s30 ++ r43) ++ y39, IntKind.i64.wrap (x31 + 1))))))))
def F.law30_bytes.l2 (x0 : batch_Proof) (s30 : ByteArray) (x31 : Int) : Option ((ByteArray × Int) ⊕ (ByteArray)) :=
  thru (if decide (x31 < (x0.Picks.length : Int)) then (if decide (x31 < (x0.Leaf.length : Int)) then (some (.inl ())) else (some (.inr (.inr (s30))))) else (some (.inr (.inr (s30))))) (fun x => F.law30_bytes.r1 x0 s30 x31)
def F.law30_bytes.l4 (x0 : batch_Proof) (s53 : ByteArray) (x54 : Int) : Option ((ByteArray × Int) ⊕ (ByteArray)) :=
  if decide (x54 < (x0.Nodes.length : Int)) then (Option.bind (at_ x0.Nodes x54) (fun (y56 : ByteArray) => chk (s53.size + y56.size ≤ 9223372036854775807) (some (.inl (s53 ++ y56, IntKind.i64.wrap (x54 + 1)))))) else (some (.inr (s53)))
def F.law30_bytes.r5 (s61 : ByteArray) : Option (ByteArray) :=
  some (s61)
def F.law30_bytes.r3 (x0 : batch_Proof) (s47 : ByteArray) : Option (ByteArray) :=
  Option.bind (F.octet_Num (x0.Nodes.length : Int)) (fun (r48 : ByteArray) => chk (s47.size + r48.size ≤ 9223372036854775807) (Option.bind (iter (fun x => F.law30_bytes.l4 x0 x.1 x.2) FUEL (s47 ++ r48, 0)) (fun x => F.law30_bytes.r5 x)))
def F.law30_bytes (x0 : batch_Proof) : Option ByteArray :=
  Option.bind (F.octet_Num x0.Size) (fun (r23 : ByteArray) => Option.bind (F.octet_Num (x0.Picks.length : Int)) (fun (r25 : ByteArray) => chk (r23.size + r25.size ≤ 9223372036854775807) (Option.bind (iter (fun x => F.law30_bytes.l2 x0 x.1 x.2) FUEL (r23 ++ r25, 0)) (fun x => F.law30_bytes.r3 x0 x))))
set_option maxRecDepth 100000 in
set_option maxHeartbeats 4000000 in
theorem c_law30_bytes (I : Hl) (x0 : batch_Proof) (p0 : Option Addr) (c0 : Nat) (p1 : Option Addr) (c1 : Nat) (p2 : Option Addr) (c2 : Nat) (res : ByteArray) (hF : F.law30_bytes x0 = some res) (hr0 : ro I (eInt .i64) p0 c0 x0.Picks) (hr1 : ro I eStr p1 c1 x0.Leaf) (hr2 : ro I eStr p2 c2 x0.Nodes) : Tr Try.prog 26 [.agg #[.int .i64 x0.Size, .slice p0 x0.Picks.length c0, .slice p1 x0.Leaf.length c1, .slice p2 x0.Nodes.length c2]] [imm I] (fun r H' => r = .string res ∧ H' = [imm I]) := by
  unfold F.law30_bytes at hF
  refine tr_of_cw (fn := Try.f26) Try.func26 rfl (Nat.le_of_ble_eq_true rfl) 63 rfl fun F0 w0 => ?_
  refine cw_keep [0] (L' := [(0, .agg #[.int .i64 x0.Size, .slice p0 x0.Picks.length c0, .slice p1 x0.Leaf.length c1, .slice p2 x0.Nodes.length c2])]) rfl ?_
  refine cw_state (S' := SAT w0 ([imm I] ++ F0)) (fun w hs => hs) ?_
  refine cw_seq ?_
  refine cw_region ?_
  refine ow_pw rfl (pw_box (cs := #[.int .i64 x0.Size, .slice p0 x0.Picks.length c0, .slice p1 x0.Leaf.length c1, .slice p2 x0.Nodes.length c2]) rfl rfl rfl rfl rfl rfl fun b21 => nw_ow ?_)
  refine ow_vals 1 (j := 2) [1] [(1, .pointer (some ⟨b21, 0, none⟩))] rfl (by kernel_rfl) ?_
  refine ow_end rfl ?_
  refine ew_then ?_
  refine cw_seq ?_
  refine cw_open 9 (SAT w0 ([pt b21 #[.int .i64 x0.Size, .slice p0 x0.Picks.length c0, .slice p1 x0.Leaf.length c1, .slice p2 x0.Nodes.length c2] 25, imm I])) (by kernel_rfl) (f := 9) rfl (fun w hs => sat_drew hs) ?_
  refine aw_vals [0, 3] (f' := 7) (m' := 9) [1, 6, 9] [(1, .pointer (some ⟨b21, 0, none⟩)), (6, .pointer (some ⟨b21, 0, none⟩)), (9, .pointer (some ⟨b21, 1, none⟩))] (fun _ _ _ _ _ h => calm_fin (P := Try.prog) (fn := Try.f26) _ _ _ _ _ h) (fun w hs => sat_pulls [0, 0] (G := [] ++ F0) rfl hs) rfl (by kernel_rfl) ?_
  refine aw_quiet 1 (m' := 11) (v := .int .i64 x0.Size) 0 [] rfl rfl rfl rfl (by kernel_rfl) (by kernel_rfl) (by kernel_rfl) (fun _ _ _ _ _ h => calm_fin (P := Try.prog) (fn := Try.f26) _ _ _ _ _ h) (fun w hs => sat_pulls [0, 0] (G := [] ++ F0) rfl hs) (q_load 0 rfl rfl rfl (by kernel_rfl)) ?_
  refine aw_quiet 4 (m' := 27) (v := .slice p0 x0.Picks.length c0) 0 [] rfl rfl rfl rfl (by kernel_rfl) (by kernel_rfl) (by kernel_rfl) (fun _ _ _ _ _ h => calm_fin (P := Try.prog) (fn := Try.f26) _ _ _ _ _ h) (fun w hs => sat_pulls [0, 0] (G := [] ++ F0) rfl hs) (q_load 0 rfl rfl rfl (by kernel_rfl)) ?_
  refine aw_vals [5] (f' := 4) (m' := 59) [1, 7, 11] [(1, .pointer (some ⟨b21, 0, none⟩)), (7, .int .i64 x0.Size), (11, .int .i64 (x0.Picks.length : Int))] (fun _ _ _ _ _ h => calm_fin (P := Try.prog) (fn := Try.f26) _ _ _ _ _ h) (fun w hs => sat_pulls [0, 0] (G := [] ++ F0) rfl hs) rfl (by kernel_rfl) ?_
  obtain ⟨r23, h24, hF⟩ := bind_some hF
  refine aw_only 2 (m' := 63) (by kernel_rfl) (by kernel_rfl) (pw_call (F := [pt b21 #[.int .i64 x0.Size, .slice p0 x0.Picks.length c0, .slice p1 x0.Leaf.length c1, .slice p2 x0.Nodes.length c2] 25] ++ F0) rfl rfl rfl rfl rfl rfl rfl (by kernel_rfl) (perm_of_pulls [1] rfl) (c_octet_Num _ x0.Size r23 h24) ?_)
  rintro _ _ ⟨rfl, rfl⟩
  refine nw_H (H' := [imm I, pt b21 #[.int .i64 x0.Size, .slice p0 x0.Picks.length c0, .slice p1 x0.Leaf.length c1, .slice p2 x0.Nodes.length c2] 25] ++ F0) rfl (aw_next (fun w hs => sat_pulls [1, 0] (G := [] ++ F0) rfl hs) ?_)
  obtain ⟨r25, h26, hF⟩ := bind_some hF
  refine aw_only 6 (m' := 127) (by kernel_rfl) (by kernel_rfl) (pw_call (F := [pt b21 #[.int .i64 x0.Size, .slice p0 x0.Picks.length c0, .slice p1 x0.Leaf.length c1, .slice p2 x0.Nodes.length c2] 25] ++ F0) rfl rfl rfl rfl rfl rfl rfl (by kernel_rfl) (perm_of_pulls [0] rfl) (c_octet_Num _ (x0.Picks.length : Int) r25 h26) ?_)
  rintro _ _ ⟨rfl, rfl⟩
  refine nw_H (H' := [imm I, pt b21 #[.int .i64 x0.Size, .slice p0 x0.Picks.length c0, .slice p1 x0.Leaf.length c1, .slice p2 x0.Nodes.length c2] 25] ++ F0) rfl (aw_next (fun w hs => sat_pulls [1, 0] (G := [] ++ F0) rfl hs) ?_)
  obtain ⟨h27, hF⟩ := chk_some hF
  refine aw_pure 7 (m' := 255) (v := .string (r23 ++ r25)) rfl rfl rfl rfl (by kernel_rfl) (by kernel_rfl) (fun _ _ _ _ _ h => calm_fin (P := Try.prog) (fn := Try.f26) _ _ _ _ _ h) (fun w hs => sat_pulls [1, 0] (G := [] ++ F0) rfl hs) (q_concat rfl rfl rfl h27) ?_
  refine aw_vals [8] (f' := 0) (m' := 511) [1, 3] [(1, .pointer (some ⟨b21, 0, none⟩)), (3, .string (r23 ++ r25))] (fun _ _ _ _ _ h => calm_fin (P := Try.prog) (fn := Try.f26) _ _ _ _ _ h) (fun w hs => sat_pulls [1, 0] (G := [] ++ F0) rfl hs) rfl (by kernel_rfl) ?_
  refine aw_keep [1, 3] (L' := [(1, .pointer (some ⟨b21, 0, none⟩)), (3, .string (r23 ++ r25))]) rfl ?_
  refine aw_end (by kernel_rfl) ?_
  refine ew_then ?_
  obtain ⟨v28, hF, hK28⟩ := bind_some hF
  refine cw_mid (fun a w => ∃ (s47 : ByteArray), s47 = v28 ∧ Fr 63 [(1, .pointer (some ⟨b21, 0, none⟩)), (3, .string s47)] a ∧ SAT w0 ([imm I, pt b21 #[.int .i64 x0.Size, .slice p0 x0.Picks.length c0, .slice p1 x0.Leaf.length c1, .slice p2 x0.Nodes.length c2] 25] ++ F0) w) ?_ ?_
  · refine cw_seq ?_
    refine cw_region ?_
    refine ow_vals 1 (j := 1) [1, 3, 4] [(1, .pointer (some ⟨b21, 0, none⟩)), (3, .string (r23 ++ r25)), (4, .int .i64 0)] rfl (by kernel_rfl) ?_
    refine ow_end rfl ?_
    refine ew_then ?_
    refine cw_block ?_
    refine fun a w hf hs => wp_rounds (fun k a w => ∃ (s30 : ByteArray), ∃ (x31 : Int), iter (fun x => F.law30_bytes.l2 x0 x.1 x.2) k (s30, x31) = some v28 ∧ Fr 63 [(1, .pointer (some ⟨b21, 0, none⟩)), (3, .string s30), (4, .int .i64 x31)] a ∧ SAT w0 ([imm I, pt b21 #[.int .i64 x0.Size, .slice p0 x0.Picks.length c0, .slice p1 x0.Leaf.length c1, .slice p2 x0.Nodes.length c2] 25] ++ F0) w) ?_ FUEL a w ⟨r23 ++ r25, 0, hF, hf.keep [1, 3, 4], sat_to [0, 0] 0 rfl hs⟩
    clear hf hs
    clear a w hF
    rintro k a w ⟨s30, x31, hF2, hf, hs⟩
    obtain ⟨k, r29, rfl, hF, hL29⟩ := iter_some hF2
    clear hF2
    revert a w
    show CW _ _ _ 63 [(1, .pointer (some ⟨b21, 0, none⟩)), (3, .string s30), (4, .int .i64 x31)] (SAT w0 ([imm I, pt b21 #[.int .i64 x0.Size, .slice p0 x0.Picks.length c0, .slice p1 x0.Leaf.length c1, .slice p2 x0.Nodes.length c2] 25] ++ F0))
    try dsimp only at hF
    unfold F.law30_bytes.l2 at hF
    obtain ⟨v32, hF, hK32⟩ := thru_some hF
    refine cw_mid (fun a w => .inl () = v32 ∧ Fr 63 [(1, .pointer (some ⟨b21, 0, none⟩)), (3, .string s30), (4, .int .i64 x31)] a ∧ SAT w0 ([imm I, pt b21 #[.int .i64 x0.Size, .slice p0 x0.Picks.length c0, .slice p1 x0.Leaf.length c1, .slice p2 x0.Nodes.length c2] 25] ++ F0) w) ?_ ?_
    · refine cw_seq ?_
      refine cw_region ?_
      refine ow_vals 2 (j := 2) [1, 3, 4, 14, 15] [(1, .pointer (some ⟨b21, 0, none⟩)), (3, .string s30), (4, .int .i64 x31), (14, .int .i64 x31), (15, .pointer (some ⟨b21, 1, none⟩))] rfl (by kernel_rfl) ?_
      refine ow_pw rfl (pw_quiet (v := .slice p0 x0.Picks.length c0) rfl rfl rfl rfl (q_load 1 rfl rfl rfl (by kernel_rfl)) (nw_ow ?_))
      refine ow_vals 3 (j := 6) [1, 3, 4, 19] [(1, .pointer (some ⟨b21, 0, none⟩)), (3, .string s30), (4, .int .i64 x31), (19, .bool (decide (x31 < (x0.Picks.length : Int))))] rfl (by kernel_rfl) ?_
      rcases if_some hF with ⟨h33, hF⟩ | ⟨h33, hF⟩
      · refine ow_slots (L' := [(1, .pointer (some ⟨b21, 0, none⟩)), (3, .string s30), (4, .int .i64 x31), (19, .bool true)]) (by rw [h33]) ?_
        refine ow_vals 2 (j := 8) [1, 3, 4, 19, 20, 21] [(1, .pointer (some ⟨b21, 0, none⟩)), (3, .string s30), (4, .int .i64 x31), (19, .bool true), (20, .int .i64 x31), (21, .pointer (some ⟨b21, 2, none⟩))] rfl (by kernel_rfl) ?_
        refine ow_pw rfl (pw_quiet (v := .slice p1 x0.Leaf.length c1) rfl rfl rfl rfl (q_load 1 rfl rfl rfl (by kernel_rfl)) (nw_ow ?_))
        refine ow_vals 3 (j := 12) [1, 3, 4, 25] [(1, .pointer (some ⟨b21, 0, none⟩)), (3, .string s30), (4, .int .i64 x31), (25, .bool (decide (x31 < (x0.Leaf.length : Int))))] rfl (by kernel_rfl) ?_
        refine ow_end rfl ?_
        refine ew_then ?_
        rcases if_some hF with ⟨h34, hF⟩ | ⟨h34, hF⟩
        · refine cw_cond_t rfl rfl h34 ?_
          refine cw_skip ?_
          have hR := Option.some.inj hF
          exact fun a w hf hs => ⟨hR, hf.keep [1, 3, 4], sat_to [0, 0] 0 rfl hs⟩
        · refine cw_cond_f rfl rfl h34 ?_
          refine cw_exit ?_
          refine ew_then_exit ?_
          refine ew_then_exit ?_
          refine ew_blk_exit ?_
          have hR := Option.some.inj hF
          subst hR
          have hR := hK32
          try dsimp only [Thru] at hR
          subst hR
          have hR := hL29
          try dsimp only at hR
          exact fun a w hf hs => ⟨s30, hR, hf.keep [1, 3], sat_to [0, 0] 0 rfl hs⟩
      · refine ow_slots (L' := [(1, .pointer (some ⟨b21, 0, none⟩)), (3, .string s30), (4, .int .i64 x31), (19, .bool false)]) (by rw [h33]) ?_
        refine ow_vals 6 (j := 12) [1, 3, 4, 25] [(1, .pointer (some ⟨b21, 0, none⟩)), (3, .string s30), (4, .int .i64 x31), (25, .bool false)] rfl (by kernel_rfl) ?_
        refine ow_end rfl ?_
        refine ew_then ?_
        refine cw_cond_f rfl rfl rfl ?_
        refine cw_exit ?_
        refine ew_then_exit ?_
        refine ew_then_exit ?_
        refine ew_blk_exit ?_
        have hR := Option.some.inj hF
        subst hR
        have hR := hK32
        try dsimp only [Thru] at hR
        subst hR
        have hR := hL29
        try dsimp only at hR
        exact fun a w hf hs => ⟨s30, hR, hf.keep [1, 3], sat_to [0, 0] 0 rfl hs⟩
    · rintro a w ⟨hv, hf, hs⟩
      subst hv
      replace hF := hK32
      clear hK32
      try dsimp only [Thru] at hF
      revert a w
      show CW _ _ _ 63 [(1, .pointer (some ⟨b21, 0, none⟩)), (3, .string s30), (4, .int .i64 x31)] (SAT w0 ([imm I, pt b21 #[.int .i64 x0.Size, .slice p0 x0.Picks.length c0, .slice p1 x0.Leaf.length c1, .slice p2 x0.Nodes.length c2] 25] ++ F0))
      unfold F.law30_bytes.r1 at hF
      refine cw_seq ?_
      refine cw_block ?_
      refine cw_open 15 (SAT w0 ([imm I, pt b21 #[.int .i64 x0.Size, .slice p0 x0.Picks.length c0, .slice p1 x0.Leaf.length c1, .slice p2 x0.Nodes.length c2] 25])) (by kernel_rfl) (f := 15) rfl (fun w hs => sat_drew hs) ?_
      refine aw_vals [0, 1, 3, 8, 10] (f' := 10) (m' := 1291) [1, 3, 4, 28, 29, 31, 36, 38] [(1, .pointer (some ⟨b21, 0, none⟩)), (3, .string s30), (4, .int .i64 x31), (28, .string s30), (29, .pointer (some ⟨b21, 1, none⟩)), (31, .int .i64 x31), (36, .pointer (some ⟨b21, 2, none⟩)), (38, .int .i64 x31)] (fun _ _ _ _ _ h => calm_fin (P := Try.prog) (fn := Try.f26) _ _ _ _ _ h) (fun w hs => sat_pulls [0, 0] (G := [] ++ F0) rfl hs) rfl (by kernel_rfl) ?_
      refine aw_quiet 2 (m' := 1295) (v := .slice p0 x0.Picks.length c0) 0 [] rfl rfl rfl rfl (by kernel_rfl) (by kernel_rfl) (by kernel_rfl) (fun _ _ _ _ _ h => calm_fin (P := Try.prog) (fn := Try.f26) _ _ _ _ _ h) (fun w hs => sat_pulls [0, 0] (G := [] ++ F0) rfl hs) (q_load 1 rfl rfl rfl (by kernel_rfl)) ?_
      obtain ⟨y35, h36, hF⟩ := bind_some hF
      refine aw_index_ro (E := 3) 4 (m' := 1311) 1 hr0 rfl rfl rfl rfl rfl (by kernel_rfl) (by kernel_rfl) (fun _ _ _ _ _ h => calm_fin (P := Try.prog) (fn := Try.f26) _ _ _ _ _ h) (fun w hs => sat_pulls [0, 0] (G := [] ++ F0) rfl hs) (by kernel_rfl) rfl rfl rfl h36 fun q37 h38 => ?_
      refine aw_quiet 5 (m' := 1343) (v := .int .i64 y35) 0 [] rfl rfl rfl rfl (by kernel_rfl) (by kernel_rfl) (by kernel_rfl) (fun _ _ _ _ _ h => calm_fin (P := Try.prog) (fn := Try.f26) _ _ _ _ _ h) (fun w hs => sat_pulls [0, 0] (G := [] ++ F0) rfl hs) (q_load_el0 0 rfl h38 rfl rfl (by kernel_rfl)) ?_
      refine aw_quiet 9 (m' := 1855) (v := .slice p1 x0.Leaf.length c1) 0 [] rfl rfl rfl rfl (by kernel_rfl) (by kernel_rfl) (by kernel_rfl) (fun _ _ _ _ _ h => calm_fin (P := Try.prog) (fn := Try.f26) _ _ _ _ _ h) (fun w hs => sat_pulls [0, 0] (G := [] ++ F0) rfl hs) (q_load 1 rfl rfl rfl (by kernel_rfl)) ?_
      obtain ⟨y39, h40, hF⟩ := bind_some hF
      refine aw_index_ro (E := 9) 11 (m' := 3903) 1 hr1 rfl rfl rfl rfl rfl (by kernel_rfl) (by kernel_rfl) (fun _ _ _ _ _ h => calm_fin (P := Try.prog) (fn := Try.f26) _ _ _ _ _ h) (fun w hs => sat_pulls [0, 0] (G := [] ++ F0) rfl hs) (by kernel_rfl) rfl rfl rfl h40 fun q41 h42 => ?_
      refine aw_quiet 12 (m' := 7999) (v := .string y39) 0 [] rfl rfl rfl rfl (by kernel_rfl) (by kernel_rfl) (by kernel_rfl) (fun _ _ _ _ _ h => calm_fin (P := Try.prog) (fn := Try.f26) _ _ _ _ _ h) (fun w hs => sat_pulls [0, 0] (G := [] ++ F0) rfl hs) (q_load_el0 0 rfl h42 rfl rfl (by kernel_rfl)) ?_
      obtain ⟨r43, h44, hF⟩ := bind_some hF
      refine aw_only 6 (m' := 8063) (by kernel_rfl) (by kernel_rfl) (pw_call (F := [pt b21 #[.int .i64 x0.Size, .slice p0 x0.Picks.length c0, .slice p1 x0.Leaf.length c1, .slice p2 x0.Nodes.length c2] 25] ++ F0) rfl rfl rfl rfl rfl rfl rfl (by kernel_rfl) (perm_of_pulls [0] rfl) (c_octet_Num _ y35 r43 h44) ?_)
      rintro _ _ ⟨rfl, rfl⟩
      refine nw_H (H' := [imm I, pt b21 #[.int .i64 x0.Size, .slice p0 x0.Picks.length c0, .slice p1 x0.Leaf.length c1, .slice p2 x0.Nodes.length c2] 25] ++ F0) rfl (aw_next (fun w hs => sat_pulls [0, 0] (G := [] ++ F0) rfl hs) ?_)
      obtain ⟨h45, hF⟩ := chk_some hF
      refine aw_pure 7 (m' := 8191) (v := .string (s30 ++ r43)) rfl rfl rfl rfl (by kernel_rfl) (by kernel_rfl) (fun _ _ _ _ _ h => calm_fin (P := Try.prog) (fn := Try.f26) _ _ _ _ _ h) (fun w hs => sat_pulls [0, 0] (G := [] ++ F0) rfl hs) (q_concat rfl rfl rfl h45) ?_
      obtain ⟨h46, hF⟩ := chk_some hF
      refine aw_pure 13 (m' := 16383) (v := .string ((s30 ++ r43) ++ y39)) rfl rfl rfl rfl (by kernel_rfl) (by kernel_rfl) (fun _ _ _ _ _ h => calm_fin (P := Try.prog) (fn := Try.f26) _ _ _ _ _ h) (fun w hs => sat_pulls [0, 0] (G := [] ++ F0) rfl hs) (q_concat rfl rfl rfl h46) ?_
      refine aw_vals [14] (f' := 0) (m' := 32767) [1, 3, 4] [(1, .pointer (some ⟨b21, 0, none⟩)), (3, .string ((s30 ++ r43) ++ y39)), (4, .int .i64 x31)] (fun _ _ _ _ _ h => calm_fin (P := Try.prog) (fn := Try.f26) _ _ _ _ _ h) (fun w hs => sat_pulls [0, 0] (G := [] ++ F0) rfl hs) rfl (by kernel_rfl) ?_
      refine aw_keep [1, 3, 4] (L' := [(1, .pointer (some ⟨b21, 0, none⟩)), (3, .string ((s30 ++ r43) ++ y39)), (4, .int .i64 x31)]) rfl ?_
      refine aw_end (by kernel_rfl) ?_
      refine ew_blk ?_
      refine ew_then ?_
      refine cw_region ?_
      refine ow_vals 3 (j := 3) [1, 3, 4] [(1, .pointer (some ⟨b21, 0, none⟩)), (3, .string ((s30 ++ r43) ++ y39)), (4, .int .i64 (IntKind.i64.wrap (x31 + 1)))] rfl (by kernel_rfl) ?_
      refine ow_end rfl ?_
      have hR := Option.some.inj hF
      subst hR
      have hR := hL29
      try dsimp only at hR
      exact fun a w hf hs => ⟨k, Nat.lt_succ_self k, (s30 ++ r43) ++ y39, IntKind.i64.wrap (x31 + 1), hR, hf.keep [1, 3, 4], sat_to [0, 0] 0 rfl hs⟩
  · rintro a w ⟨s47, hv, hf, hs⟩
    subst hv
    replace hF := hK28
    clear hK28
    try dsimp only at hF
    revert a w
    show CW _ _ _ 63 [(1, .pointer (some ⟨b21, 0, none⟩)), (3, .string s47)] (SAT w0 ([imm I, pt b21 #[.int .i64 x0.Size, .slice p0 x0.Picks.length c0, .slice p1 x0.Leaf.length c1, .slice p2 x0.Nodes.length c2] 25] ++ F0))
    unfold F.law30_bytes.r3 at hF
    refine cw_seq ?_
    refine cw_region ?_
    refine ow_vals 2 (j := 2) [1, 42, 43] [(1, .pointer (some ⟨b21, 0, none⟩)), (42, .string s47), (43, .pointer (some ⟨b21, 3, none⟩))] rfl (by kernel_rfl) ?_
    refine ow_pw rfl (pw_quiet (v := .slice p2 x0.Nodes.length c2) rfl rfl rfl rfl (q_load 1 rfl rfl rfl (by kernel_rfl)) (nw_ow ?_))
    refine ow_vals 1 (j := 4) [1, 42, 45] [(1, .pointer (some ⟨b21, 0, none⟩)), (42, .string s47), (45, .int .i64 (x0.Nodes.length : Int))] rfl (by kernel_rfl) ?_
    obtain ⟨r48, h49, hF⟩ := bind_some hF
    refine ow_pw rfl (pw_call (F := [pt b21 #[.int .i64 x0.Size, .slice p0 x0.Picks.length c0, .slice p1 x0.Leaf.length c1, .slice p2 x0.Nodes.length c2] 25] ++ F0) rfl rfl rfl rfl rfl rfl rfl (by kernel_rfl) (perm_of_pulls [0] rfl) (c_octet_Num _ (x0.Nodes.length : Int) r48 h49) ?_)
    rintro _ _ ⟨rfl, rfl⟩
    refine nw_H (H' := [imm I, pt b21 #[.int .i64 x0.Size, .slice p0 x0.Picks.length c0, .slice p1 x0.Leaf.length c1, .slice p2 x0.Nodes.length c2] 25] ++ F0) rfl (nw_ow ?_)
    obtain ⟨h50, hF⟩ := chk_some hF
    refine ow_pw rfl (pw_quiet (v := .string (s47 ++ r48)) rfl rfl rfl rfl (q_concat rfl rfl rfl h50) (nw_ow ?_))
    refine ow_vals 1 (j := 7) [1, 3] [(1, .pointer (some ⟨b21, 0, none⟩)), (3, .string (s47 ++ r48))] rfl (by kernel_rfl) ?_
    refine ow_end rfl ?_
    refine ew_then ?_
    obtain ⟨v51, hF, hK51⟩ := bind_some hF
    refine cw_mid (fun a w => ∃ (s61 : ByteArray), s61 = v51 ∧ Fr 63 [(3, .string s61)] a ∧ SAT w0 ([imm I, pt b21 #[.int .i64 x0.Size, .slice p0 x0.Picks.length c0, .slice p1 x0.Leaf.length c1, .slice p2 x0.Nodes.length c2] 25] ++ F0) w) ?_ ?_
    · refine cw_seq ?_
      refine cw_region ?_
      refine ow_vals 1 (j := 1) [1, 3, 5] [(1, .pointer (some ⟨b21, 0, none⟩)), (3, .string (s47 ++ r48)), (5, .int .i64 0)] rfl (by kernel_rfl) ?_
      refine ow_end rfl ?_
      refine ew_then ?_
      refine cw_block ?_
      refine fun a w hf hs => wp_rounds (fun k a w => ∃ (s53 : ByteArray), ∃ (x54 : Int), iter (fun x => F.law30_bytes.l4 x0 x.1 x.2) k (s53, x54) = some v51 ∧ Fr 63 [(1, .pointer (some ⟨b21, 0, none⟩)), (3, .string s53), (5, .int .i64 x54)] a ∧ SAT w0 ([imm I, pt b21 #[.int .i64 x0.Size, .slice p0 x0.Picks.length c0, .slice p1 x0.Leaf.length c1, .slice p2 x0.Nodes.length c2] 25] ++ F0) w) ?_ FUEL a w ⟨s47 ++ r48, 0, hF, hf.keep [1, 3, 5], sat_to [0, 0] 0 rfl hs⟩
      clear hf hs
      clear a w hF
      rintro k a w ⟨s53, x54, hF2, hf, hs⟩
      obtain ⟨k, r52, rfl, hF, hL52⟩ := iter_some hF2
      clear hF2
      revert a w
      show CW _ _ _ 63 [(1, .pointer (some ⟨b21, 0, none⟩)), (3, .string s53), (5, .int .i64 x54)] (SAT w0 ([imm I, pt b21 #[.int .i64 x0.Size, .slice p0 x0.Picks.length c0, .slice p1 x0.Leaf.length c1, .slice p2 x0.Nodes.length c2] 25] ++ F0))
      try dsimp only at hF
      unfold F.law30_bytes.l4 at hF
      refine cw_seq ?_
      refine cw_seq ?_
      refine cw_region ?_
      refine ow_vals 2 (j := 2) [1, 3, 5, 48, 49] [(1, .pointer (some ⟨b21, 0, none⟩)), (3, .string s53), (5, .int .i64 x54), (48, .int .i64 x54), (49, .pointer (some ⟨b21, 3, none⟩))] rfl (by kernel_rfl) ?_
      refine ow_pw rfl (pw_quiet (v := .slice p2 x0.Nodes.length c2) rfl rfl rfl rfl (q_load 1 rfl rfl rfl (by kernel_rfl)) (nw_ow ?_))
      refine ow_vals 2 (j := 5) [1, 3, 5, 52] [(1, .pointer (some ⟨b21, 0, none⟩)), (3, .string s53), (5, .int .i64 x54), (52, .bool (decide (x54 < (x0.Nodes.length : Int))))] rfl (by kernel_rfl) ?_
      refine ow_end rfl ?_
      refine ew_then ?_
      rcases if_some hF with ⟨h55, hF⟩ | ⟨h55, hF⟩
      · refine cw_cond_t rfl rfl h55 ?_
        refine cw_skip ?_
        refine ew_then ?_
        refine cw_seq ?_
        refine cw_block ?_
        refine cw_region ?_
        refine ow_vals 2 (j := 2) [1, 5, 55, 56] [(1, .pointer (some ⟨b21, 0, none⟩)), (5, .int .i64 x54), (55, .string s53), (56, .pointer (some ⟨b21, 3, none⟩))] rfl (by kernel_rfl) ?_
        refine ow_pw rfl (pw_quiet (v := .slice p2 x0.Nodes.length c2) rfl rfl rfl rfl (q_load 1 rfl rfl rfl (by kernel_rfl)) (nw_ow ?_))
        refine ow_vals 1 (j := 4) [1, 5, 55, 57, 58] [(1, .pointer (some ⟨b21, 0, none⟩)), (5, .int .i64 x54), (55, .string s53), (57, .slice p2 x0.Nodes.length c2), (58, .int .i64 x54)] rfl (by kernel_rfl) ?_
        obtain ⟨y56, h57, hF⟩ := bind_some hF
        refine ow_pw rfl (pw_index_ro (E := 9) 1 hr2 rfl rfl rfl rfl rfl (by kernel_rfl) rfl rfl rfl h57 fun q58 h59 => nw_ow ?_)
        refine ow_pw rfl (pw_quiet (v := .string y56) rfl rfl rfl rfl (q_load_el0 0 rfl h59 rfl rfl (by kernel_rfl)) (nw_ow ?_))
        obtain ⟨h60, hF⟩ := chk_some hF
        refine ow_pw rfl (pw_quiet (v := .string (s53 ++ y56)) rfl rfl rfl rfl (q_concat rfl rfl rfl h60) (nw_ow ?_))
        refine ow_vals 1 (j := 8) [1, 3, 5] [(1, .pointer (some ⟨b21, 0, none⟩)), (3, .string (s53 ++ y56)), (5, .int .i64 x54)] rfl (by kernel_rfl) ?_
        refine ow_end rfl ?_
        refine ew_blk ?_
        refine ew_then ?_
        refine cw_region ?_
        refine ow_vals 3 (j := 3) [1, 3, 5] [(1, .pointer (some ⟨b21, 0, none⟩)), (3, .string (s53 ++ y56)), (5, .int .i64 (IntKind.i64.wrap (x54 + 1)))] rfl (by kernel_rfl) ?_
        refine ow_end rfl ?_
        have hR := Option.some.inj hF
        subst hR
        have hR := hL52
        try dsimp only at hR
        exact fun a w hf hs => ⟨k, Nat.lt_succ_self k, s53 ++ y56, IntKind.i64.wrap (x54 + 1), hR, hf.keep [1, 3, 5], sat_to [0, 0] 0 rfl hs⟩
      · refine cw_cond_f rfl rfl h55 ?_
        refine cw_exit ?_
        refine ew_then_exit ?_
        refine ew_then_exit ?_
        refine ew_blk_exit ?_
        have hR := Option.some.inj hF
        subst hR
        have hR := hL52
        try dsimp only at hR
        exact fun a w hf hs => ⟨s53, hR, hf.keep [3], sat_to [0, 0] 0 rfl hs⟩
    · rintro a w ⟨s61, hv, hf, hs⟩
      subst hv
      replace hF := hK51
      clear hK51
      try dsimp only at hF
      revert a w
      show CW _ _ _ 63 [(3, .string s61)] (SAT w0 ([imm I, pt b21 #[.int .i64 x0.Size, .slice p0 x0.Picks.length c0, .slice p1 x0.Leaf.length c1, .slice p2 x0.Nodes.length c2] 25] ++ F0))
      unfold F.law30_bytes.r5 at hF
      refine cw_seq ?_
      refine cw_region ?_
      refine ow_vals 2 (j := 2) [2] [(2, .string s61)] rfl (by kernel_rfl) ?_
      refine ow_end rfl ?_
      refine ew_then ?_
      refine cw_ret ?_
      have hR := Option.some.inj hF
      subst hR
      exact fin1 (H1 := [imm I]) (fun w hs => sat_to [1, 0] 1 rfl hs) rfl (rr_tmp rfl) ⟨rfl, rfl⟩

end Go.Proofs.Ytoamnhmdhficiaa
