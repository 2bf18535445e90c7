/- What the functions compute, and that the code computes it: printed by a program of this claim (wip/tools), for the group Bytes. -/
import Derived.Test.YtoamnhmdhficiaaGOct
import Derived.Test.YtoamnhmdhficiaaGSame
namespace Go.Proofs.Ytoamnhmdhficiaa
set_option linter.all false
open Go Go.RowKit Go.Fw
set_option linter.unusedVariables false

structure octet_Writer where
  s_ : ByteArray
  no_ : Bool
def octet_Writer.cells (x : octet_Writer) : List Value := [.string x.s_, .bool x.no_]
def e_octet_Writer : Enc octet_Writer := ⟨octet_Writer.cells, 2, fun _ => rfl, fun _ => rfl, by decide⟩

def F.octet_Writer_Num.r1 (m0 : octet_Writer) (r21 : ByteArray) (x25 : Bool) : Option (octet_Writer) :=
  chk (m0.s_.size + r21.size ≤ 9223372036854775807) (some ((⟨m0.s_ ++ r21, x25⟩ : octet_Writer)))
def F.octet_Writer_Num (x1 : Int) (m0 : octet_Writer) : Option octet_Writer :=
  Option.bind (F.octet_Num x1) (fun (r21 : ByteArray) => Option.bind (if m0.no_ then (some (true)) else (some ((seqB r21 (ByteArray.mk #[]))))) (fun x => F.octet_Writer_Num.r1 m0 r21 x))
set_option maxRecDepth 100000 in
set_option maxHeartbeats 4000000 in
theorem c_octet_Writer_Num (I : Hl) (x1 : Int) (m0 : octet_Writer) (b0 : Nat) (res : octet_Writer) (hF : F.octet_Writer_Num x1 m0 = some res) : Tr Try.prog 45 [.pointer (some ⟨b0, 0, none⟩), .int .i64 x1] [imm I, pt b0 #[.string m0.s_, .bool m0.no_] 81] (fun r H' => r = .tuple #[] ∧ H' = [imm I, pt b0 #[.string res.s_, .bool res.no_] 81]) := by
  unfold F.octet_Writer_Num at hF
  refine tr_of_cw (fn := Try.f45) Try.func45 rfl (Nat.le_of_ble_eq_true rfl) 26 rfl fun F0 w0 => ?_
  refine cw_keep [0, 1] (L' := [(0, .pointer (some ⟨b0, 0, none⟩)), (1, .int .i64 x1)]) rfl ?_
  refine cw_state (S' := SAT w0 ([imm I, pt b0 #[.string m0.s_, .bool m0.no_] 81] ++ F0)) (fun w hs => hs) ?_
  refine cw_seq ?_
  refine cw_region ?_
  refine ow_vals 1 (j := 1) [0, 5] [(0, .pointer (some ⟨b0, 0, none⟩)), (5, .int .i64 x1)] rfl (by kernel_rfl) ?_
  obtain ⟨r21, h22, hF⟩ := bind_some hF
  refine ow_pw rfl (pw_call (F := [pt b0 #[.string m0.s_, .bool m0.no_] 81] ++ F0) rfl rfl rfl rfl rfl rfl rfl (by kernel_rfl) (perm_of_pulls [0] rfl) (c_octet_Num _ x1 r21 h22) ?_)
  rintro _ _ ⟨rfl, rfl⟩
  refine nw_H (H' := [imm I, pt b0 #[.string m0.s_, .bool m0.no_] 81] ++ F0) rfl (nw_ow ?_)
  refine ow_vals 1 (j := 3) [0, 4] [(0, .pointer (some ⟨b0, 0, none⟩)), (4, .string r21)] rfl (by kernel_rfl) ?_
  refine ow_end rfl ?_
  refine ew_then ?_
  obtain ⟨v23, hF, hK23⟩ := bind_some hF
  refine cw_mid (fun a w => ∃ (x25 : Bool), x25 = v23 ∧ Fr 26 [(0, .pointer (some ⟨b0, 0, none⟩)), (4, .string r21)] a ∧ SAT w0 ([imm I, pt b0 #[.string m0.s_, .bool x25] 81] ++ F0) w) ?_ ?_
  · refine cw_region ?_
    refine ow_vals 4 (j := 4) [0, 4, 7, 10] [(0, .pointer (some ⟨b0, 0, none⟩)), (4, .string r21), (7, .pointer (some ⟨b0, 0, none⟩)), (10, .pointer (some ⟨b0, 1, none⟩))] rfl (by kernel_rfl) ?_
    refine ow_pw rfl (pw_quiet (v := .bool m0.no_) rfl rfl rfl rfl (q_load 1 rfl rfl rfl (by kernel_rfl)) (nw_ow ?_))
    refine ow_vals 1 (j := 6) [0, 4, 7, 12] [(0, .pointer (some ⟨b0, 0, none⟩)), (4, .string r21), (7, .pointer (some ⟨b0, 0, none⟩)), (12, .bool m0.no_)] rfl (by kernel_rfl) ?_
    rcases if_some hF with ⟨h24, hF⟩ | ⟨h24, hF⟩
    · refine ow_slots (L' := [(0, .pointer (some ⟨b0, 0, none⟩)), (4, .string r21), (7, .pointer (some ⟨b0, 0, none⟩)), (12, .bool true)]) (by rw [h24]) ?_
      refine ow_vals 5 (j := 11) [0, 4, 15, 17] [(0, .pointer (some ⟨b0, 0, none⟩)), (4, .string r21), (15, .bool true), (17, .pointer (some ⟨b0, 1, none⟩))] rfl (by kernel_rfl) ?_
      refine ow_pw rfl (pw_store 1 #[.string m0.s_, .bool true] rfl rfl rfl rfl rfl rfl rfl (by kernel_rfl) (nw_H (H' := [imm I, pt b0 #[.string m0.s_, .bool true] 81] ++ F0) rfl (nw_ow ?_)))
      refine ow_end rfl ?_
      have hR := Option.some.inj hF
      exact fun a w hf hs => ⟨true, hR, hf.keep [0, 4], sat_to [0, 0] 0 rfl hs⟩
    · refine ow_slots (L' := [(0, .pointer (some ⟨b0, 0, none⟩)), (4, .string r21), (7, .pointer (some ⟨b0, 0, none⟩)), (12, .bool false)]) (by rw [h24]) ?_
      refine ow_vals 5 (j := 11) [0, 4, 15, 17] [(0, .pointer (some ⟨b0, 0, none⟩)), (4, .string r21), (15, .bool (seqB r21 (ByteArray.mk #[]))), (17, .pointer (some ⟨b0, 1, none⟩))] rfl (by kernel_rfl) ?_
      refine ow_pw rfl (pw_store 1 #[.string m0.s_, .bool (seqB r21 (ByteArray.mk #[]))] rfl rfl rfl rfl rfl rfl rfl (by kernel_rfl) (nw_H (H' := [imm I, pt b0 #[.string m0.s_, .bool (seqB r21 (ByteArray.mk #[]))] 81] ++ F0) rfl (nw_ow ?_)))
      refine ow_end rfl ?_
      have hR := Option.some.inj hF
      exact fun a w hf hs => ⟨seqB r21 (ByteArray.mk #[]), hR, hf.keep [0, 4], sat_to [0, 0] 0 rfl hs⟩
  · rintro a w ⟨x25, hv, hf, hs⟩
    subst hv
    replace hF := hK23
    clear hK23
    try dsimp only at hF
    revert a w
    show CW _ _ _ 26 [(0, .pointer (some ⟨b0, 0, none⟩)), (4, .string r21)] (SAT w0 ([imm I, pt b0 #[.string m0.s_, .bool x25] 81] ++ F0))
    unfold F.octet_Writer_Num.r1 at hF
    refine cw_region ?_
    refine ow_vals 3 (j := 3) [4, 18, 20] [(4, .string r21), (18, .pointer (some ⟨b0, 0, none⟩)), (20, .pointer (some ⟨b0, 0, none⟩))] rfl (by kernel_rfl) ?_
    refine ow_pw rfl (pw_quiet (v := .string m0.s_) rfl rfl rfl rfl (q_load 1 rfl rfl rfl (by kernel_rfl)) (nw_ow ?_))
    refine ow_vals 1 (j := 5) [18, 21, 22] [(18, .pointer (some ⟨b0, 0, none⟩)), (21, .string m0.s_), (22, .string r21)] rfl (by kernel_rfl) ?_
    obtain ⟨h26, hF⟩ := chk_some hF
    refine ow_pw rfl (pw_quiet (v := .string (m0.s_ ++ r21)) rfl rfl rfl rfl (q_concat rfl rfl rfl h26) (nw_ow ?_))
    refine ow_vals 2 (j := 8) [23, 25] [(23, .string (m0.s_ ++ r21)), (25, .pointer (some ⟨b0, 0, none⟩))] rfl (by kernel_rfl) ?_
    refine ow_pw rfl (pw_store 1 #[.string (m0.s_ ++ r21), .bool x25] rfl rfl rfl rfl rfl rfl rfl (by kernel_rfl) (nw_H (H' := [imm I, pt b0 #[.string (m0.s_ ++ r21), .bool x25] 81] ++ F0) rfl (nw_ow ?_)))
    refine ow_end rfl ?_
    have hR := Option.some.inj hF
    subst hR
    exact fin0n (H1 := [imm I, pt b0 #[.string ((⟨m0.s_ ++ r21, x25⟩ : octet_Writer).s_), .bool ((⟨m0.s_ ++ r21, x25⟩ : octet_Writer).no_)] 81]) (fun w hs => sat_to [0, 0] 0 rfl hs) rfl  ⟨rfl, rfl⟩


def F.octet_Writer_Raw (x1 : ByteArray) (m0 : octet_Writer) : Option octet_Writer :=
  chk (m0.s_.size + x1.size ≤ 9223372036854775807) (some ((⟨m0.s_ ++ x1, m0.no_⟩ : octet_Writer)))
set_option maxRecDepth 100000 in
set_option maxHeartbeats 4000000 in
theorem c_octet_Writer_Raw (I : Hl) (x1 : ByteArray) (m0 : octet_Writer) (b0 : Nat) (res : octet_Writer) (hF : F.octet_Writer_Raw x1 m0 = some res) : Tr Try.prog 46 [.pointer (some ⟨b0, 0, none⟩), .string x1] [imm I, pt b0 #[.string m0.s_, .bool m0.no_] 81] (fun r H' => r = .tuple #[] ∧ H' = [imm I, pt b0 #[.string res.s_, .bool res.no_] 81]) := by
  unfold F.octet_Writer_Raw at hF
  refine tr_of_cw (fn := Try.f46) Try.func46 rfl (Nat.le_of_ble_eq_true rfl) 12 rfl fun F0 w0 => ?_
  refine cw_keep [0, 1] (L' := [(0, .pointer (some ⟨b0, 0, none⟩)), (1, .string x1)]) rfl ?_
  refine cw_state (S' := SAT w0 ([imm I, pt b0 #[.string m0.s_, .bool m0.no_] 81] ++ F0)) (fun w hs => hs) ?_
  refine cw_region ?_
  refine ow_vals 3 (j := 3) [1, 4, 6] [(1, .string x1), (4, .pointer (some ⟨b0, 0, none⟩)), (6, .pointer (some ⟨b0, 0, none⟩))] rfl (by kernel_rfl) ?_
  refine ow_pw rfl (pw_quiet (v := .string m0.s_) rfl rfl rfl rfl (q_load 1 rfl rfl rfl (by kernel_rfl)) (nw_ow ?_))
  refine ow_vals 1 (j := 5) [4, 7, 8] [(4, .pointer (some ⟨b0, 0, none⟩)), (7, .string m0.s_), (8, .string x1)] rfl (by kernel_rfl) ?_
  obtain ⟨h21, hF⟩ := chk_some hF
  refine ow_pw rfl (pw_quiet (v := .string (m0.s_ ++ x1)) rfl rfl rfl rfl (q_concat rfl rfl rfl h21) (nw_ow ?_))
  refine ow_vals 2 (j := 8) [9, 11] [(9, .string (m0.s_ ++ x1)), (11, .pointer (some ⟨b0, 0, none⟩))] rfl (by kernel_rfl) ?_
  refine ow_pw rfl (pw_store 1 #[.string (m0.s_ ++ x1), .bool m0.no_] rfl rfl rfl rfl rfl rfl rfl (by kernel_rfl) (nw_H (H' := [imm I, pt b0 #[.string (m0.s_ ++ x1), .bool m0.no_] 81] ++ F0) rfl (nw_ow ?_)))
  refine ow_end rfl ?_
  have hR := Option.some.inj hF
  subst hR
  exact fin0n (H1 := [imm I, pt b0 #[.string ((⟨m0.s_ ++ x1, m0.no_⟩ : octet_Writer).s_), .bool ((⟨m0.s_ ++ x1, m0.no_⟩ : octet_Writer).no_)] 81]) (fun w hs => sat_to [0, 0] 0 rfl hs) rfl  ⟨rfl, rfl⟩


def F.octet_Writer_All (m0 : octet_Writer) : Option (ByteArray × Bool) :=
  if m0.no_ then (some (((ByteArray.mk #[]), false))) else (some ((m0.s_, true)))
set_option maxRecDepth 100000 in
set_option maxHeartbeats 4000000 in
theorem c_octet_Writer_All (I : Hl) (m0 : octet_Writer) (b0 : Nat) (res : ByteArray × Bool) (hF : F.octet_Writer_All m0 = some res) : Tr Try.prog 47 [.pointer (some ⟨b0, 0, none⟩)] [imm I, pt b0 #[.string m0.s_, .bool m0.no_] 81] (fun r H' => r = .tuple #[.string res.1, .bool res.2] ∧ H' = [imm I, pt b0 #[.string m0.s_, .bool m0.no_] 81]) := by
  unfold F.octet_Writer_All at hF
  refine tr_of_cw (fn := Try.f47) Try.func47 rfl (Nat.le_of_ble_eq_true rfl) 12 rfl fun F0 w0 => ?_
  refine cw_keep [0] (L' := [(0, .pointer (some ⟨b0, 0, none⟩))]) rfl ?_
  refine cw_state (S' := SAT w0 ([imm I, pt b0 #[.string m0.s_, .bool m0.no_] 81] ++ F0)) (fun w hs => hs) ?_
  refine cw_seq ?_
  refine cw_region ?_
  refine ow_vals 2 (j := 2) [0] [(0, .pointer (some ⟨b0, 0, none⟩))] rfl (by kernel_rfl) ?_
  refine ow_end rfl ?_
  refine ew_then ?_
  refine cw_seq ?_
  refine cw_seq ?_
  refine cw_region ?_
  refine ow_vals 3 (j := 3) [0, 6] [(0, .pointer (some ⟨b0, 0, none⟩)), (6, .pointer (some ⟨b0, 1, none⟩))] rfl (by kernel_rfl) ?_
  refine ow_pw rfl (pw_quiet (v := .bool m0.no_) rfl rfl rfl rfl (q_load 1 rfl rfl rfl (by kernel_rfl)) (nw_ow ?_))
  refine ow_end rfl ?_
  refine ew_then ?_
  rcases if_some hF with ⟨h21, hF⟩ | ⟨h21, hF⟩
  · refine cw_cond_t rfl rfl h21 ?_
    refine cw_seq ?_
    refine cw_region ?_
    refine ow_vals 2 (j := 2) [2, 3] [(2, .string (ByteArray.mk #[])), (3, .bool false)] rfl (by kernel_rfl) ?_
    refine ow_end rfl ?_
    refine ew_then ?_
    refine cw_ret ?_
    refine ew_then_ret ?_
    have hR := Option.some.inj hF
    subst hR
    exact fin2 (H1 := [imm I, pt b0 #[.string m0.s_, .bool m0.no_] 81]) (fun w hs => sat_to [0, 0] 0 rfl hs) rfl (rr_tmp rfl) (rr_tmp rfl) ⟨rfl, rfl⟩
  · refine cw_cond_f rfl rfl h21 ?_
    refine cw_skip ?_
    refine ew_then ?_
    refine cw_seq ?_
    refine cw_region ?_
    refine ow_vals 3 (j := 3) [10] [(10, .pointer (some ⟨b0, 0, none⟩))] rfl (by kernel_rfl) ?_
    refine ow_pw rfl (pw_quiet (v := .string m0.s_) rfl rfl rfl rfl (q_load 1 rfl rfl rfl (by kernel_rfl)) (nw_ow ?_))
    refine ow_vals 2 (j := 6) [2, 3] [(2, .string m0.s_), (3, .bool true)] rfl (by kernel_rfl) ?_
    refine ow_end rfl ?_
    refine ew_then ?_
    refine cw_ret ?_
    have hR := Option.some.inj hF
    subst hR
    exact fin2 (H1 := [imm I, pt b0 #[.string m0.s_, .bool m0.no_] 81]) (fun w hs => sat_to [0, 0] 0 rfl hs) rfl (rr_tmp rfl) (rr_tmp rfl) ⟨rfl, rfl⟩


def F.batch_Bytes.l1 (x0 : batch_Proof) (x34 : Int) (s35 : ByteArray) (x36 : Bool) : Option ((Int × ByteArray × Bool) ⊕ (ByteArray × Bool)) :=
  if decide (x34 < (x0.Picks.length : Int)) then (Option.bind (at_ x0.Picks x34) (fun (y38 : Int) => Option.bind (F.octet_Writer_Num y38 (⟨s35, x36⟩ : octet_Writer)) (fun (r42 : octet_Writer) => Option.bind (at_ x0.Leaf x34) (fun (y44 : ByteArray) => Option.bind (F.octet_Writer_Raw y44 r42) (fun (r48 : octet_Writer) => some (.inl (IntKind.i64.wrap (x34 + 1), r48.s_, r48.no_))))))) else (some (.inr ((s35, x36))))
def F.batch_Bytes.l3 (x0 : batch_Proof) (x56 : Int) (s57 : ByteArray) (x58 : Bool) : Option ((Int × ByteArray × Bool) ⊕ (ByteArray × Bool)) :=
  if decide (x56 < (x0.Nodes.length : Int)) then (Option.bind (at_ x0.Nodes x56) (fun (y60 : ByteArray) => Option.bind (F.octet_Writer_Raw y60 (⟨s57, x58⟩ : octet_Writer)) (fun (r64 : octet_Writer) => some (.inl (IntKind.i64.wrap (x56 + 1), r64.s_, r64.no_))))) else (some (.inr ((s57, x58))))
def F.batch_Bytes.r4 (s66 : ByteArray) (x67 : Bool) : Option (ByteArray) :=
  Option.bind (F.octet_Writer_All (⟨s66, x67⟩ : octet_Writer)) (fun (r68 : ByteArray × Bool) => some (r68.1))
def F.batch_Bytes.r2 (x0 : batch_Proof) (s50 : ByteArray) (x51 : Bool) : Option (ByteArray) :=
  Option.bind (F.octet_Writer_Num (x0.Nodes.length : Int) (⟨s50, x51⟩ : octet_Writer)) (fun (r52 : octet_Writer) => Option.bind (iter (fun x => F.batch_Bytes.l3 x0 x.1 x.2.1 x.2.2) FUEL (0, r52.s_, r52.no_)) (fun x => F.batch_Bytes.r4 x.1 x.2))
def F.batch_Bytes (x0 : batch_Proof) : Option ByteArray :=
  Option.bind (F.batch_Right x0) (fun (r23 : Bool) => if !r23 then (some ((ByteArray.mk #[]))) else (Option.bind (F.octet_Writer_Num x0.Size (⟨(ByteArray.mk #[]), false⟩ : octet_Writer)) (fun (r28 : octet_Writer) => Option.bind (F.octet_Writer_Num (x0.Picks.length : Int) r28) (fun (r30 : octet_Writer) => Option.bind (iter (fun x => F.batch_Bytes.l1 x0 x.1 x.2.1 x.2.2) FUEL (0, r30.s_, r30.no_)) (fun x => F.batch_Bytes.r2 x0 x.1 x.2)))))
set_option maxRecDepth 100000 in
set_option maxHeartbeats 4000000 in
theorem c_batch_Bytes (I : Hl) (x0 : batch_Proof) (p0 : Option Addr) (c0 : Nat) (p1 : Option Addr) (c1 : Nat) (p2 : Option Addr) (c2 : Nat) (res : ByteArray) (hF : F.batch_Bytes x0 = some res) (hr0 : ro I (eInt .i64) p0 c0 x0.Picks) (hr1 : ro I eStr p1 c1 x0.Leaf) (hr2 : ro I eStr p2 c2 x0.Nodes) : Tr Try.prog 27 [.agg #[.int .i64 x0.Size, .slice p0 x0.Picks.length c0, .slice p1 x0.Leaf.length c1, .slice p2 x0.Nodes.length c2]] [imm I] (fun r H' => r = .string res ∧ H' = [imm I]) := by
  unfold F.batch_Bytes at hF
  refine tr_of_cw (fn := Try.f27) Try.func27 rfl (Nat.le_of_ble_eq_true rfl) 65 rfl fun F0 w0 => ?_
  refine cw_keep [0] (L' := [(0, .agg #[.int .i64 x0.Size, .slice p0 x0.Picks.length c0, .slice p1 x0.Leaf.length c1, .slice p2 x0.Nodes.length c2])]) rfl ?_
  refine cw_state (S' := SAT w0 ([imm I] ++ F0)) (fun w hs => hs) ?_
  refine cw_seq ?_
  refine cw_region ?_
  refine ow_pw rfl (pw_box (cs := #[.int .i64 x0.Size, .slice p0 x0.Picks.length c0, .slice p1 x0.Leaf.length c1, .slice p2 x0.Nodes.length c2]) rfl rfl rfl rfl rfl rfl fun b21 => nw_ow ?_)
  refine ow_vals 1 (j := 2) [1] [(1, .pointer (some ⟨b21, 0, none⟩))] rfl (by kernel_rfl) ?_
  refine ow_end rfl ?_
  refine ew_then ?_
  refine cw_seq ?_
  refine cw_seq ?_
  refine cw_region ?_
  refine ow_pw rfl (pw_quiet (v := .agg #[.int .i64 x0.Size, .slice p0 x0.Picks.length c0, .slice p1 x0.Leaf.length c1, .slice p2 x0.Nodes.length c2]) rfl rfl rfl rfl (q_load 0 rfl rfl rfl (by kernel_rfl)) (nw_ow ?_))
  obtain ⟨r23, h24, hF⟩ := bind_some hF
  refine ow_pw rfl (pw_call (F := [pt b21 #[.int .i64 x0.Size, .slice p0 x0.Picks.length c0, .slice p1 x0.Leaf.length c1, .slice p2 x0.Nodes.length c2] 25] ++ F0) rfl rfl rfl rfl rfl rfl rfl (by kernel_rfl) (perm_of_pulls [1] rfl) (c_batch_Right _ x0 p0 c0 p1 c1 p2 c2 r23 h24 hr0 hr1 hr2) ?_)
  rintro _ _ ⟨rfl, rfl⟩
  refine nw_H (H' := [imm I, pt b21 #[.int .i64 x0.Size, .slice p0 x0.Picks.length c0, .slice p1 x0.Leaf.length c1, .slice p2 x0.Nodes.length c2] 25] ++ F0) rfl (nw_ow ?_)
  refine ow_vals 1 (j := 3) [1, 12] [(1, .pointer (some ⟨b21, 0, none⟩)), (12, .bool (!r23))] rfl (by kernel_rfl) ?_
  refine ow_end rfl ?_
  refine ew_then ?_
  rcases if_some hF with ⟨h25, hF⟩ | ⟨h25, hF⟩
  · refine cw_cond_t rfl rfl h25 ?_
    refine cw_seq ?_
    refine cw_region ?_
    refine ow_vals 1 (j := 1) [2] [(2, .string (ByteArray.mk #[]))] rfl (by kernel_rfl) ?_
    refine ow_end rfl ?_
    refine ew_then ?_
    refine cw_ret ?_
    refine ew_then_ret ?_
    have hR := Option.some.inj hF
    subst hR
    exact fin1 (H1 := [imm I]) (fun w hs => sat_to [1, 0] 1 rfl hs) rfl (rr_tmp rfl) ⟨rfl, rfl⟩
  · refine cw_cond_f rfl rfl h25 ?_
    refine cw_skip ?_
    refine ew_then ?_
    refine cw_seq ?_
    refine cw_region ?_
    refine ow_vals 1 (j := 1) [1, 13] [(1, .pointer (some ⟨b21, 0, none⟩)), (13, .agg #[.string (ByteArray.mk #[]), .bool false])] rfl (by kernel_rfl) ?_
    refine ow_pw rfl (pw_box (cs := #[.string (ByteArray.mk #[]), .bool false]) rfl rfl rfl rfl rfl rfl fun b26 => nw_ow ?_)
    refine ow_vals 1 (j := 3) [1, 3] [(1, .pointer (some ⟨b21, 0, none⟩)), (3, .pointer (some ⟨b26, 0, none⟩))] rfl (by kernel_rfl) ?_
    refine ow_end rfl ?_
    refine ew_then ?_
    refine cw_seq ?_
    refine cw_region ?_
    refine ow_vals 2 (j := 2) [1, 3, 15, 16] [(1, .pointer (some ⟨b21, 0, none⟩)), (3, .pointer (some ⟨b26, 0, none⟩)), (15, .pointer (some ⟨b26, 0, none⟩)), (16, .pointer (some ⟨b21, 0, none⟩))] rfl (by kernel_rfl) ?_
    refine ow_pw rfl (pw_quiet (v := .int .i64 x0.Size) rfl rfl rfl rfl (q_load 2 rfl rfl rfl (by kernel_rfl)) (nw_ow ?_))
    obtain ⟨r28, h29, hF⟩ := bind_some hF
    refine ow_pw rfl (pw_call (F := [pt b21 #[.int .i64 x0.Size, .slice p0 x0.Picks.length c0, .slice p1 x0.Leaf.length c1, .slice p2 x0.Nodes.length c2] 25] ++ F0) rfl rfl rfl rfl rfl rfl rfl (by kernel_rfl) (perm_of_pulls [1, 0] rfl) (c_octet_Writer_Num _ x0.Size (⟨(ByteArray.mk #[]), false⟩ : octet_Writer) b26 r28 h29) ?_)
    rintro _ _ ⟨rfl, rfl⟩
    refine nw_H (H' := [imm I, pt b26 #[.string r28.s_, .bool r28.no_] 81, pt b21 #[.int .i64 x0.Size, .slice p0 x0.Picks.length c0, .slice p1 x0.Leaf.length c1, .slice p2 x0.Nodes.length c2] 25] ++ F0) rfl (nw_ow ?_)
    refine ow_end rfl ?_
    refine ew_then ?_
    refine cw_seq ?_
    refine cw_region ?_
    refine ow_vals 2 (j := 2) [1, 3, 19, 20] [(1, .pointer (some ⟨b21, 0, none⟩)), (3, .pointer (some ⟨b26, 0, none⟩)), (19, .pointer (some ⟨b26, 0, none⟩)), (20, .pointer (some ⟨b21, 1, none⟩))] rfl (by kernel_rfl) ?_
    refine ow_pw rfl (pw_quiet (v := .slice p0 x0.Picks.length c0) rfl rfl rfl rfl (q_load 2 rfl rfl rfl (by kernel_rfl)) (nw_ow ?_))
    refine ow_vals 1 (j := 4) [1, 3, 19, 22] [(1, .pointer (some ⟨b21, 0, none⟩)), (3, .pointer (some ⟨b26, 0, none⟩)), (19, .pointer (some ⟨b26, 0, none⟩)), (22, .int .i64 (x0.Picks.length : Int))] rfl (by kernel_rfl) ?_
    obtain ⟨r30, h31, hF⟩ := bind_some hF
    refine ow_pw rfl (pw_call (F := [pt b21 #[.int .i64 x0.Size, .slice p0 x0.Picks.length c0, .slice p1 x0.Leaf.length c1, .slice p2 x0.Nodes.length c2] 25] ++ F0) rfl rfl rfl rfl rfl rfl rfl (by kernel_rfl) (perm_of_pulls [0, 0] rfl) (c_octet_Writer_Num _ (x0.Picks.length : Int) r28 b26 r30 h31) ?_)
    rintro _ _ ⟨rfl, rfl⟩
    refine nw_H (H' := [imm I, pt b26 #[.string r30.s_, .bool r30.no_] 81, pt b21 #[.int .i64 x0.Size, .slice p0 x0.Picks.length c0, .slice p1 x0.Leaf.length c1, .slice p2 x0.Nodes.length c2] 25] ++ F0) rfl (nw_ow ?_)
    refine ow_end rfl ?_
    refine ew_then ?_
    obtain ⟨v32, hF, hK32⟩ := bind_some hF
    refine cw_mid (fun a w => ∃ (s50 : ByteArray), ∃ (x51 : Bool), (s50, x51) = v32 ∧ Fr 65 [(1, .pointer (some ⟨b21, 0, none⟩)), (3, .pointer (some ⟨b26, 0, none⟩))] a ∧ SAT w0 ([imm I, pt b26 #[.string s50, .bool x51] 81, pt b21 #[.int .i64 x0.Size, .slice p0 x0.Picks.length c0, .slice p1 x0.Leaf.length c1, .slice p2 x0.Nodes.length c2] 25] ++ F0) w) ?_ ?_
    · refine cw_seq ?_
      refine cw_region ?_
      refine ow_vals 1 (j := 1) [1, 3, 24] [(1, .pointer (some ⟨b21, 0, none⟩)), (3, .pointer (some ⟨b26, 0, none⟩)), (24, .pointer (some ⟨b21, 1, none⟩))] rfl (by kernel_rfl) ?_
      refine ow_pw rfl (pw_quiet (v := .slice p0 x0.Picks.length c0) rfl rfl rfl rfl (q_load 2 rfl rfl rfl (by kernel_rfl)) (nw_ow ?_))
      refine ow_vals 2 (j := 4) [1, 3, 25, 26, 27] [(1, .pointer (some ⟨b21, 0, none⟩)), (3, .pointer (some ⟨b26, 0, none⟩)), (25, .slice p0 x0.Picks.length c0), (26, .int .i64 (x0.Picks.length : Int)), (27, .int .i64 0)] rfl (by kernel_rfl) ?_
      refine ow_end rfl ?_
      refine ew_then ?_
      refine cw_block ?_
      refine fun a w hf hs => wp_rounds (fun k a w => ∃ (x34 : Int), ∃ (s35 : ByteArray), ∃ (x36 : Bool), iter (fun x => F.batch_Bytes.l1 x0 x.1 x.2.1 x.2.2) k (x34, s35, x36) = some v32 ∧ Fr 65 [(1, .pointer (some ⟨b21, 0, none⟩)), (3, .pointer (some ⟨b26, 0, none⟩)), (25, .slice p0 x0.Picks.length c0), (26, .int .i64 (x0.Picks.length : Int)), (27, .int .i64 x34)] a ∧ SAT w0 ([imm I, pt b26 #[.string s35, .bool x36] 81, pt b21 #[.int .i64 x0.Size, .slice p0 x0.Picks.length c0, .slice p1 x0.Leaf.length c1, .slice p2 x0.Nodes.length c2] 25] ++ F0) w) ?_ FUEL a w ⟨0, r30.s_, r30.no_, hF, hf.keep [1, 3, 25, 26, 27], sat_to [0, 0, 0] 0 rfl hs⟩
      clear hf hs
      clear a w hF
      rintro k a w ⟨x34, s35, x36, hF2, hf, hs⟩
      obtain ⟨k, r33, rfl, hF, hL33⟩ := iter_some hF2
      clear hF2
      revert a w
      show CW _ _ _ 65 [(1, .pointer (some ⟨b21, 0, none⟩)), (3, .pointer (some ⟨b26, 0, none⟩)), (25, .slice p0 x0.Picks.length c0), (26, .int .i64 (x0.Picks.length : Int)), (27, .int .i64 x34)] (SAT w0 ([imm I, pt b26 #[.string s35, .bool x36] 81, pt b21 #[.int .i64 x0.Size, .slice p0 x0.Picks.length c0, .slice p1 x0.Leaf.length c1, .slice p2 x0.Nodes.length c2] 25] ++ F0))
      try dsimp only at hF
      unfold F.batch_Bytes.l1 at hF
      refine cw_seq ?_
      refine cw_region ?_
      refine ow_vals 1 (j := 1) [1, 3, 25, 26, 27, 28] [(1, .pointer (some ⟨b21, 0, none⟩)), (3, .pointer (some ⟨b26, 0, none⟩)), (25, .slice p0 x0.Picks.length c0), (26, .int .i64 (x0.Picks.length : Int)), (27, .int .i64 x34), (28, .bool (decide (x34 < (x0.Picks.length : Int))))] rfl (by kernel_rfl) ?_
      refine ow_end rfl ?_
      refine ew_then ?_
      refine cw_seq ?_
      rcases if_some hF with ⟨h37, hF⟩ | ⟨h37, hF⟩
      · refine cw_cond_t rfl rfl h37 ?_
        refine cw_skip ?_
        refine ew_then ?_
        refine cw_seq ?_
        refine cw_block ?_
        refine cw_seq ?_
        refine cw_region ?_
        refine ow_vals 1 (j := 1) [1, 3, 25, 26, 27, 29] [(1, .pointer (some ⟨b21, 0, none⟩)), (3, .pointer (some ⟨b26, 0, none⟩)), (25, .slice p0 x0.Picks.length c0), (26, .int .i64 (x0.Picks.length : Int)), (27, .int .i64 x34), (29, .int .i64 x34)] rfl (by kernel_rfl) ?_
        obtain ⟨y38, h39, hF⟩ := bind_some hF
        refine ow_pw rfl (pw_index_ro (E := 3) 1 hr0 rfl rfl rfl rfl rfl (by kernel_rfl) rfl rfl rfl h39 fun q40 h41 => nw_ow ?_)
        refine ow_pw rfl (pw_quiet (v := .int .i64 y38) rfl rfl rfl rfl (q_load_el0 0 rfl h41 rfl rfl (by kernel_rfl)) (nw_ow ?_))
        refine ow_vals 2 (j := 5) [1, 3, 4, 5, 25, 26, 27] [(1, .pointer (some ⟨b21, 0, none⟩)), (3, .pointer (some ⟨b26, 0, none⟩)), (4, .int .i64 x34), (5, .int .i64 y38), (25, .slice p0 x0.Picks.length c0), (26, .int .i64 (x0.Picks.length : Int)), (27, .int .i64 x34)] rfl (by kernel_rfl) ?_
        refine ow_end rfl ?_
        refine ew_then ?_
        refine cw_seq ?_
        refine cw_region ?_
        refine ow_vals 2 (j := 2) [1, 3, 4, 25, 26, 27, 32, 33] [(1, .pointer (some ⟨b21, 0, none⟩)), (3, .pointer (some ⟨b26, 0, none⟩)), (4, .int .i64 x34), (25, .slice p0 x0.Picks.length c0), (26, .int .i64 (x0.Picks.length : Int)), (27, .int .i64 x34), (32, .pointer (some ⟨b26, 0, none⟩)), (33, .int .i64 y38)] rfl (by kernel_rfl) ?_
        obtain ⟨r42, h43, hF⟩ := bind_some hF
        refine ow_pw rfl (pw_call (F := [pt b21 #[.int .i64 x0.Size, .slice p0 x0.Picks.length c0, .slice p1 x0.Leaf.length c1, .slice p2 x0.Nodes.length c2] 25] ++ F0) rfl rfl rfl rfl rfl rfl rfl (by kernel_rfl) (perm_of_pulls [0, 0] rfl) (c_octet_Writer_Num _ y38 (⟨s35, x36⟩ : octet_Writer) b26 r42 h43) ?_)
        rintro _ _ ⟨rfl, rfl⟩
        refine nw_H (H' := [imm I, pt b26 #[.string r42.s_, .bool r42.no_] 81, pt b21 #[.int .i64 x0.Size, .slice p0 x0.Picks.length c0, .slice p1 x0.Leaf.length c1, .slice p2 x0.Nodes.length c2] 25] ++ F0) rfl (nw_ow ?_)
        refine ow_end rfl ?_
        refine ew_then ?_
        refine cw_region ?_
        refine ow_vals 2 (j := 2) [1, 3, 4, 25, 26, 27, 35, 36] [(1, .pointer (some ⟨b21, 0, none⟩)), (3, .pointer (some ⟨b26, 0, none⟩)), (4, .int .i64 x34), (25, .slice p0 x0.Picks.length c0), (26, .int .i64 (x0.Picks.length : Int)), (27, .int .i64 x34), (35, .pointer (some ⟨b26, 0, none⟩)), (36, .pointer (some ⟨b21, 2, none⟩))] rfl (by kernel_rfl) ?_
        refine ow_pw rfl (pw_quiet (v := .slice p1 x0.Leaf.length c1) rfl rfl rfl rfl (q_load 2 rfl rfl rfl (by kernel_rfl)) (nw_ow ?_))
        refine ow_vals 1 (j := 4) [1, 3, 25, 26, 27, 35, 37, 38] [(1, .pointer (some ⟨b21, 0, none⟩)), (3, .pointer (some ⟨b26, 0, none⟩)), (25, .slice p0 x0.Picks.length c0), (26, .int .i64 (x0.Picks.length : Int)), (27, .int .i64 x34), (35, .pointer (some ⟨b26, 0, none⟩)), (37, .slice p1 x0.Leaf.length c1), (38, .int .i64 x34)] rfl (by kernel_rfl) ?_
        obtain ⟨y44, h45, hF⟩ := bind_some hF
        refine ow_pw rfl (pw_index_ro (E := 9) 1 hr1 rfl rfl rfl rfl rfl (by kernel_rfl) rfl rfl rfl h45 fun q46 h47 => nw_ow ?_)
        refine ow_pw rfl (pw_quiet (v := .string y44) rfl rfl rfl rfl (q_load_el0 0 rfl h47 rfl rfl (by kernel_rfl)) (nw_ow ?_))
        obtain ⟨r48, h49, hF⟩ := bind_some hF
        refine ow_pw rfl (pw_call (F := [pt b21 #[.int .i64 x0.Size, .slice p0 x0.Picks.length c0, .slice p1 x0.Leaf.length c1, .slice p2 x0.Nodes.length c2] 25] ++ F0) rfl rfl rfl rfl rfl rfl rfl (by kernel_rfl) (perm_of_pulls [0, 0] rfl) (c_octet_Writer_Raw _ y44 r42 b26 r48 h49) ?_)
        rintro _ _ ⟨rfl, rfl⟩
        refine nw_H (H' := [imm I, pt b26 #[.string r48.s_, .bool r48.no_] 81, pt b21 #[.int .i64 x0.Size, .slice p0 x0.Picks.length c0, .slice p1 x0.Leaf.length c1, .slice p2 x0.Nodes.length c2] 25] ++ F0) rfl (nw_ow ?_)
        refine ow_end rfl ?_
        refine ew_blk ?_
        refine ew_then ?_
        refine cw_region ?_
        refine ow_vals 2 (j := 2) [1, 3, 25, 26, 27] [(1, .pointer (some ⟨b21, 0, none⟩)), (3, .pointer (some ⟨b26, 0, none⟩)), (25, .slice p0 x0.Picks.length c0), (26, .int .i64 (x0.Picks.length : Int)), (27, .int .i64 (IntKind.i64.wrap (x34 + 1)))] rfl (by kernel_rfl) ?_
        refine ow_end rfl ?_
        have hR := Option.some.inj hF
        subst hR
        have hR := hL33
        try dsimp only at hR
        exact fun a w hf hs => ⟨k, Nat.lt_succ_self k, IntKind.i64.wrap (x34 + 1), r48.s_, r48.no_, hR, hf.keep [1, 3, 25, 26, 27], sat_to [0, 0, 0] 0 rfl hs⟩
      · refine cw_cond_f rfl rfl h37 ?_
        refine cw_exit ?_
        refine ew_then_exit ?_
        refine ew_then_exit ?_
        refine ew_blk_exit ?_
        have hR := Option.some.inj hF
        subst hR
        have hR := hL33
        try dsimp only at hR
        exact fun a w hf hs => ⟨s35, x36, hR, hf.keep [1, 3], sat_to [0, 0, 0] 0 rfl hs⟩
    · rintro a w ⟨s50, x51, hv, hf, hs⟩
      subst hv
      replace hF := hK32
      clear hK32
      try dsimp only at hF
      revert a w
      show CW _ _ _ 65 [(1, .pointer (some ⟨b21, 0, none⟩)), (3, .pointer (some ⟨b26, 0, none⟩))] (SAT w0 ([imm I, pt b26 #[.string s50, .bool x51] 81, pt b21 #[.int .i64 x0.Size, .slice p0 x0.Picks.length c0, .slice p1 x0.Leaf.length c1, .slice p2 x0.Nodes.length c2] 25] ++ F0))
      unfold F.batch_Bytes.r2 at hF
      refine cw_seq ?_
      refine cw_region ?_
      refine ow_vals 2 (j := 2) [1, 3, 43, 44] [(1, .pointer (some ⟨b21, 0, none⟩)), (3, .pointer (some ⟨b26, 0, none⟩)), (43, .pointer (some ⟨b26, 0, none⟩)), (44, .pointer (some ⟨b21, 3, none⟩))] rfl (by kernel_rfl) ?_
      refine ow_pw rfl (pw_quiet (v := .slice p2 x0.Nodes.length c2) rfl rfl rfl rfl (q_load 2 rfl rfl rfl (by kernel_rfl)) (nw_ow ?_))
      refine ow_vals 1 (j := 4) [1, 3, 43, 46] [(1, .pointer (some ⟨b21, 0, none⟩)), (3, .pointer (some ⟨b26, 0, none⟩)), (43, .pointer (some ⟨b26, 0, none⟩)), (46, .int .i64 (x0.Nodes.length : Int))] rfl (by kernel_rfl) ?_
      obtain ⟨r52, h53, hF⟩ := bind_some hF
      refine ow_pw rfl (pw_call (F := [pt b21 #[.int .i64 x0.Size, .slice p0 x0.Picks.length c0, .slice p1 x0.Leaf.length c1, .slice p2 x0.Nodes.length c2] 25] ++ F0) rfl rfl rfl rfl rfl rfl rfl (by kernel_rfl) (perm_of_pulls [0, 0] rfl) (c_octet_Writer_Num _ (x0.Nodes.length : Int) (⟨s50, x51⟩ : octet_Writer) b26 r52 h53) ?_)
      rintro _ _ ⟨rfl, rfl⟩
      refine nw_H (H' := [imm I, pt b26 #[.string r52.s_, .bool r52.no_] 81, pt b21 #[.int .i64 x0.Size, .slice p0 x0.Picks.length c0, .slice p1 x0.Leaf.length c1, .slice p2 x0.Nodes.length c2] 25] ++ F0) rfl (nw_ow ?_)
      refine ow_end rfl ?_
      refine ew_then ?_
      obtain ⟨v54, hF, hK54⟩ := bind_some hF
      refine cw_mid (fun a w => ∃ (s66 : ByteArray), ∃ (x67 : Bool), (s66, x67) = v54 ∧ Fr 65 [(3, .pointer (some ⟨b26, 0, none⟩))] a ∧ SAT w0 ([imm I, pt b26 #[.string s66, .bool x67] 81, pt b21 #[.int .i64 x0.Size, .slice p0 x0.Picks.length c0, .slice p1 x0.Leaf.length c1, .slice p2 x0.Nodes.length c2] 25] ++ F0) w) ?_ ?_
      · refine cw_seq ?_
        refine cw_region ?_
        refine ow_vals 1 (j := 1) [3, 48] [(3, .pointer (some ⟨b26, 0, none⟩)), (48, .pointer (some ⟨b21, 3, none⟩))] rfl (by kernel_rfl) ?_
        refine ow_pw rfl (pw_quiet (v := .slice p2 x0.Nodes.length c2) rfl rfl rfl rfl (q_load 2 rfl rfl rfl (by kernel_rfl)) (nw_ow ?_))
        refine ow_vals 2 (j := 4) [3, 49, 50, 51] [(3, .pointer (some ⟨b26, 0, none⟩)), (49, .slice p2 x0.Nodes.length c2), (50, .int .i64 (x0.Nodes.length : Int)), (51, .int .i64 0)] rfl (by kernel_rfl) ?_
        refine ow_end rfl ?_
        refine ew_then ?_
        refine cw_block ?_
        refine fun a w hf hs => wp_rounds (fun k a w => ∃ (x56 : Int), ∃ (s57 : ByteArray), ∃ (x58 : Bool), iter (fun x => F.batch_Bytes.l3 x0 x.1 x.2.1 x.2.2) k (x56, s57, x58) = some v54 ∧ Fr 65 [(3, .pointer (some ⟨b26, 0, none⟩)), (49, .slice p2 x0.Nodes.length c2), (50, .int .i64 (x0.Nodes.length : Int)), (51, .int .i64 x56)] a ∧ SAT w0 ([imm I, pt b26 #[.string s57, .bool x58] 81, pt b21 #[.int .i64 x0.Size, .slice p0 x0.Picks.length c0, .slice p1 x0.Leaf.length c1, .slice p2 x0.Nodes.length c2] 25] ++ F0) w) ?_ FUEL a w ⟨0, r52.s_, r52.no_, hF, hf.keep [3, 49, 50, 51], sat_to [0, 0, 0] 0 rfl hs⟩
        clear hf hs
        clear a w hF
        rintro k a w ⟨x56, s57, x58, hF2, hf, hs⟩
        obtain ⟨k, r55, rfl, hF, hL55⟩ := iter_some hF2
        clear hF2
        revert a w
        show CW _ _ _ 65 [(3, .pointer (some ⟨b26, 0, none⟩)), (49, .slice p2 x0.Nodes.length c2), (50, .int .i64 (x0.Nodes.length : Int)), (51, .int .i64 x56)] (SAT w0 ([imm I, pt b26 #[.string s57, .bool x58] 81, pt b21 #[.int .i64 x0.Size, .slice p0 x0.Picks.length c0, .slice p1 x0.Leaf.length c1, .slice p2 x0.Nodes.length c2] 25] ++ F0))
        try dsimp only at hF
        unfold F.batch_Bytes.l3 at hF
        refine cw_seq ?_
        refine cw_region ?_
        refine ow_vals 1 (j := 1) [3, 49, 50, 51, 52] [(3, .pointer (some ⟨b26, 0, none⟩)), (49, .slice p2 x0.Nodes.length c2), (50, .int .i64 (x0.Nodes.length : Int)), (51, .int .i64 x56), (52, .bool (decide (x56 < (x0.Nodes.length : Int))))] rfl (by kernel_rfl) ?_
        refine ow_end rfl ?_
        refine ew_then ?_
        refine cw_seq ?_
        rcases if_some hF with ⟨h59, hF⟩ | ⟨h59, hF⟩
        · refine cw_cond_t rfl rfl h59 ?_
          refine cw_skip ?_
          refine ew_then ?_
          refine cw_seq ?_
          refine cw_block ?_
          refine cw_seq ?_
          refine cw_region ?_
          obtain ⟨y60, h61, hF⟩ := bind_some hF
          refine ow_pw rfl (pw_index_ro (E := 9) 1 hr2 rfl rfl rfl rfl rfl (by kernel_rfl) rfl rfl rfl h61 fun q62 h63 => nw_ow ?_)
          refine ow_pw rfl (pw_quiet (v := .string y60) rfl rfl rfl rfl (q_load_el0 0 rfl h63 rfl rfl (by kernel_rfl)) (nw_ow ?_))
          refine ow_vals 1 (j := 3) [3, 7, 49, 50, 51] [(3, .pointer (some ⟨b26, 0, none⟩)), (7, .string y60), (49, .slice p2 x0.Nodes.length c2), (50, .int .i64 (x0.Nodes.length : Int)), (51, .int .i64 x56)] rfl (by kernel_rfl) ?_
          refine ow_end rfl ?_
          refine ew_then ?_
          refine cw_region ?_
          refine ow_vals 2 (j := 2) [3, 49, 50, 51, 55, 56] [(3, .pointer (some ⟨b26, 0, none⟩)), (49, .slice p2 x0.Nodes.length c2), (50, .int .i64 (x0.Nodes.length : Int)), (51, .int .i64 x56), (55, .pointer (some ⟨b26, 0, none⟩)), (56, .string y60)] rfl (by kernel_rfl) ?_
          obtain ⟨r64, h65, hF⟩ := bind_some hF
          refine ow_pw rfl (pw_call (F := [pt b21 #[.int .i64 x0.Size, .slice p0 x0.Picks.length c0, .slice p1 x0.Leaf.length c1, .slice p2 x0.Nodes.length c2] 25] ++ F0) rfl rfl rfl rfl rfl rfl rfl (by kernel_rfl) (perm_of_pulls [0, 0] rfl) (c_octet_Writer_Raw _ y60 (⟨s57, x58⟩ : octet_Writer) b26 r64 h65) ?_)
          rintro _ _ ⟨rfl, rfl⟩
          refine nw_H (H' := [imm I, pt b26 #[.string r64.s_, .bool r64.no_] 81, pt b21 #[.int .i64 x0.Size, .slice p0 x0.Picks.length c0, .slice p1 x0.Leaf.length c1, .slice p2 x0.Nodes.length c2] 25] ++ F0) rfl (nw_ow ?_)
          refine ow_end rfl ?_
          refine ew_blk ?_
          refine ew_then ?_
          refine cw_region ?_
          refine ow_vals 2 (j := 2) [3, 49, 50, 51] [(3, .pointer (some ⟨b26, 0, none⟩)), (49, .slice p2 x0.Nodes.length c2), (50, .int .i64 (x0.Nodes.length : Int)), (51, .int .i64 (IntKind.i64.wrap (x56 + 1)))] rfl (by kernel_rfl) ?_
          refine ow_end rfl ?_
          have hR := Option.some.inj hF
          subst hR
          have hR := hL55
          try dsimp only at hR
          exact fun a w hf hs => ⟨k, Nat.lt_succ_self k, IntKind.i64.wrap (x56 + 1), r64.s_, r64.no_, hR, hf.keep [3, 49, 50, 51], sat_to [0, 0, 0] 0 rfl hs⟩
        · refine cw_cond_f rfl rfl h59 ?_
          refine cw_exit ?_
          refine ew_then_exit ?_
          refine ew_then_exit ?_
          refine ew_blk_exit ?_
          have hR := Option.some.inj hF
          subst hR
          have hR := hL55
          try dsimp only at hR
          exact fun a w hf hs => ⟨s57, x58, hR, hf.keep [3], sat_to [0, 0, 0] 0 rfl hs⟩
      · rintro a w ⟨s66, x67, hv, hf, hs⟩
        subst hv
        replace hF := hK54
        clear hK54
        try dsimp only at hF
        revert a w
        show CW _ _ _ 65 [(3, .pointer (some ⟨b26, 0, none⟩))] (SAT w0 ([imm I, pt b26 #[.string s66, .bool x67] 81, pt b21 #[.int .i64 x0.Size, .slice p0 x0.Picks.length c0, .slice p1 x0.Leaf.length c1, .slice p2 x0.Nodes.length c2] 25] ++ F0))
        unfold F.batch_Bytes.r4 at hF
        refine cw_seq ?_
        refine cw_region ?_
        refine ow_vals 1 (j := 1) [60] [(60, .pointer (some ⟨b26, 0, none⟩))] rfl (by kernel_rfl) ?_
        obtain ⟨r68, h69, hF⟩ := bind_some hF
        refine ow_pw rfl (pw_call (F := [pt b21 #[.int .i64 x0.Size, .slice p0 x0.Picks.length c0, .slice p1 x0.Leaf.length c1, .slice p2 x0.Nodes.length c2] 25] ++ F0) rfl rfl rfl rfl rfl rfl rfl (by kernel_rfl) (perm_of_pulls [0, 0] rfl) (c_octet_Writer_All _ (⟨s66, x67⟩ : octet_Writer) b26 r68 h69) ?_)
        rintro _ _ ⟨rfl, rfl⟩
        refine nw_H (H' := [imm I, pt b26 #[.string ((⟨s66, x67⟩ : octet_Writer).s_), .bool ((⟨s66, x67⟩ : octet_Writer).no_)] 81, pt b21 #[.int .i64 x0.Size, .slice p0 x0.Picks.length c0, .slice p1 x0.Leaf.length c1, .slice p2 x0.Nodes.length c2] 25] ++ F0) rfl (nw_ow ?_)
        refine ow_vals 5 (j := 7) [8] [(8, .string r68.1)] rfl (by kernel_rfl) ?_
        refine ow_end rfl ?_
        refine ew_then ?_
        refine cw_seq ?_
        refine cw_region ?_
        refine ow_vals 2 (j := 2) [2] [(2, .string r68.1)] rfl (by kernel_rfl) ?_
        refine ow_end rfl ?_
        refine ew_then ?_
        refine cw_ret ?_
        have hR := Option.some.inj hF
        subst hR
        exact fin1 (H1 := [imm I]) (fun w hs => sat_to [1, 1, 0] 2 rfl hs) rfl (rr_tmp rfl) ⟨rfl, rfl⟩


def F.law30_BatchBytes.l3 (r23 : batch_Proof) (r34 : batch_Proof × Int) (x50 : Int) : Option ((Int) ⊕ ((Unit) ⊕ (Bool))) :=
  if decide (x50 < (r23.Picks.length : Int)) then (Option.bind (at_ r34.1.Picks x50) (fun (y52 : Int) => Option.bind (at_ r23.Picks x50) (fun (y56 : Int) => if y52 != y56 then (some (.inr (.inr (false)))) else (some (.inl (IntKind.i64.wrap (x50 + 1))))))) else (some (.inr (.inl ())))
def F.law30_BatchBytes.r4 (r23 : batch_Proof) (r25 : ByteArray) : Option (Bool) :=
  Option.bind (F.law30_bytes r23) (fun (r61 : ByteArray) => if seqB r25 r61 then (Option.bind (F.law30_awake) (fun (r64 : Bool) => some (r64))) else (some (false)))
def F.law30_BatchBytes.r2 (r23 : batch_Proof) (r25 : ByteArray) (r34 : batch_Proof × Int) : Option (Bool) :=
  thru (iter (fun x => F.law30_BatchBytes.l3 r23 r34 x) FUEL 0) (fun x => F.law30_BatchBytes.r4 r23 r25)
def F.law30_BatchBytes.r1 (r23 : batch_Proof) (r25 : ByteArray) : Option (Bool) :=
  Option.bind (F.batch_Read r25) (fun (r34 : batch_Proof × Int) => thru (if r34.2 != 0 then (some (.inr (false))) else (if r34.1.Size != r23.Size then (some (.inr (false))) else (if (r34.1.Picks.length : Int) != (r23.Picks.length : Int) then (some (.inr (false))) else (Option.bind (F.law30_same r34.1.Leaf r23.Leaf) (fun (r42 : Bool) => if !r42 then (some (.inr (false))) else (Option.bind (F.law30_same r34.1.Nodes r23.Nodes) (fun (r45 : Bool) => if !r45 then (some (.inr (false))) else (some (.inl ()))))))))) (fun x => F.law30_BatchBytes.r2 r23 r25 r34))
def F.law30_BatchBytes (x0 : batch_Proof) : Option Bool :=
  Option.bind (F.law30_few x0) (fun (r23 : batch_Proof) => Option.bind (F.batch_Bytes r23) (fun (r25 : ByteArray) => thru (Option.bind (F.law30_right r23) (fun (r28 : Bool) => if !r28 then (if seqB r25 (ByteArray.mk #[]) then (Option.bind (F.law30_awake) (fun (r32 : Bool) => some (.inr (r32)))) else (some (.inr (false)))) else (some (.inl ())))) (fun x => F.law30_BatchBytes.r1 r23 r25)))
set_option maxRecDepth 100000 in
set_option maxHeartbeats 4000000 in
theorem c_law30_BatchBytes (I : Hl) (x0 : batch_Proof) (p0 : Option Addr) (c0 : Nat) (p1 : Option Addr) (c1 : Nat) (p2 : Option Addr) (c2 : Nat) (res : Bool) (hF : F.law30_BatchBytes x0 = some res) (hr0 : ro I (eInt .i64) p0 c0 x0.Picks) (hr1 : ro I eStr p1 c1 x0.Leaf) (hr2 : ro I eStr p2 c2 x0.Nodes) : Tr Try.prog 7 [.agg #[.int .i64 x0.Size, .slice p0 x0.Picks.length c0, .slice p1 x0.Leaf.length c1, .slice p2 x0.Nodes.length c2]] [imm I] (fun r H' => ∃ (J : Hl), r = .bool res ∧ H' = [imm J] ∧ Hl.sub I J) := by
  unfold F.law30_BatchBytes at hF
  refine tr_of_cw (fn := Try.f7) Try.func7 rfl (Nat.le_of_ble_eq_true rfl) 83 rfl fun F0 w0 => ?_
  refine cw_keep [0] (L' := [(0, .agg #[.int .i64 x0.Size, .slice p0 x0.Picks.length c0, .slice p1 x0.Leaf.length c1, .slice p2 x0.Nodes.length c2])]) rfl ?_
  refine cw_state (S' := SAT w0 ([imm I] ++ F0)) (fun w hs => hs) ?_
  refine cw_seq ?_
  refine cw_region ?_
  refine ow_pw rfl (pw_box (cs := #[.int .i64 x0.Size, .slice p0 x0.Picks.length c0, .slice p1 x0.Leaf.length c1, .slice p2 x0.Nodes.length c2]) rfl rfl rfl rfl rfl rfl fun b21 => nw_ow ?_)
  refine ow_vals 1 (j := 2) [1] [(1, .pointer (some ⟨b21, 0, none⟩))] rfl (by kernel_rfl) ?_
  refine ow_end rfl ?_
  refine ew_then ?_
  refine cw_seq ?_
  refine cw_region ?_
  refine ow_pw rfl (pw_quiet (v := .agg #[.int .i64 x0.Size, .slice p0 x0.Picks.length c0, .slice p1 x0.Leaf.length c1, .slice p2 x0.Nodes.length c2]) rfl rfl rfl rfl (q_load 0 rfl rfl rfl (by kernel_rfl)) (nw_ow ?_))
  obtain ⟨r23, h24, hF⟩ := bind_some hF
  refine ow_pw rfl (pw_call (F := [pt b21 #[.int .i64 x0.Size, .slice p0 x0.Picks.length c0, .slice p1 x0.Leaf.length c1, .slice p2 x0.Nodes.length c2] 25] ++ F0) rfl rfl rfl rfl rfl rfl rfl (by kernel_rfl) (perm_of_pulls [1] rfl) (c_law30_few _ x0 p0 c0 p1 c1 p2 c2 r23 h24 hr0 hr1 hr2) ?_)
  rintro _ _ ⟨r23_p1, r23_c2, r23_p4, r23_c5, r23_p7, r23_c8, rfl, rfl, r23_h3, r23_h6, r23_h9⟩
  refine nw_H (H' := [imm I, pt b21 #[.int .i64 x0.Size, .slice p0 x0.Picks.length c0, .slice p1 x0.Leaf.length c1, .slice p2 x0.Nodes.length c2] 25] ++ F0) rfl (nw_ow ?_)
  refine ow_pw rfl (pw_store 1 #[.int .i64 r23.Size, .slice r23_p1 r23.Picks.length r23_c2, .slice r23_p4 r23.Leaf.length r23_c5, .slice r23_p7 r23.Nodes.length r23_c8] rfl rfl rfl rfl rfl rfl rfl (by kernel_rfl) (nw_H (H' := [imm I, pt b21 #[.int .i64 r23.Size, .slice r23_p1 r23.Picks.length r23_c2, .slice r23_p4 r23.Leaf.length r23_c5, .slice r23_p7 r23.Nodes.length r23_c8] 25] ++ F0) rfl (nw_ow ?_)))
  refine ow_end rfl ?_
  refine ew_then ?_
  refine cw_seq ?_
  refine cw_region ?_
  refine ow_pw rfl (pw_quiet (v := .agg #[.int .i64 r23.Size, .slice r23_p1 r23.Picks.length r23_c2, .slice r23_p4 r23.Leaf.length r23_c5, .slice r23_p7 r23.Nodes.length r23_c8]) rfl rfl rfl rfl (q_load 1 rfl rfl rfl (by kernel_rfl)) (nw_ow ?_))
  obtain ⟨r25, h26, hF⟩ := bind_some hF
  refine ow_pw rfl (pw_call (F := [pt b21 #[.int .i64 r23.Size, .slice r23_p1 r23.Picks.length r23_c2, .slice r23_p4 r23.Leaf.length r23_c5, .slice r23_p7 r23.Nodes.length r23_c8] 25] ++ F0) rfl rfl rfl rfl rfl rfl rfl (by kernel_rfl) (perm_of_pulls [0] rfl) (c_batch_Bytes _ r23 r23_p1 r23_c2 r23_p4 r23_c5 r23_p7 r23_c8 r25 h26 r23_h3 r23_h6 r23_h9) ?_)
  rintro _ _ ⟨rfl, rfl⟩
  refine nw_H (H' := [imm I, pt b21 #[.int .i64 r23.Size, .slice r23_p1 r23.Picks.length r23_c2, .slice r23_p4 r23.Leaf.length r23_c5, .slice r23_p7 r23.Nodes.length r23_c8] 25] ++ F0) rfl (nw_ow ?_)
  refine ow_vals 1 (j := 3) [1, 3] [(1, .pointer (some ⟨b21, 0, none⟩)), (3, .string r25)] rfl (by kernel_rfl) ?_
  refine ow_end rfl ?_
  refine ew_then ?_
  obtain ⟨v27, hF, hK27⟩ := thru_some hF
  refine cw_mid (fun a w => .inl () = v27 ∧ Fr 83 [(1, .pointer (some ⟨b21, 0, none⟩)), (3, .string r25)] a ∧ SAT w0 ([imm I, pt b21 #[.int .i64 r23.Size, .slice r23_p1 r23.Picks.length r23_c2, .slice r23_p4 r23.Leaf.length r23_c5, .slice r23_p7 r23.Nodes.length r23_c8] 25] ++ F0) w) ?_ ?_
  · refine cw_seq ?_
    refine cw_region ?_
    refine ow_pw rfl (pw_quiet (v := .agg #[.int .i64 r23.Size, .slice r23_p1 r23.Picks.length r23_c2, .slice r23_p4 r23.Leaf.length r23_c5, .slice r23_p7 r23.Nodes.length r23_c8]) rfl rfl rfl rfl (q_load 1 rfl rfl rfl (by kernel_rfl)) (nw_ow ?_))
    obtain ⟨r28, h29, hF⟩ := bind_some hF
    refine ow_pw rfl (pw_call (F := [pt b21 #[.int .i64 r23.Size, .slice r23_p1 r23.Picks.length r23_c2, .slice r23_p4 r23.Leaf.length r23_c5, .slice r23_p7 r23.Nodes.length r23_c8] 25] ++ F0) rfl rfl rfl rfl rfl rfl rfl (by kernel_rfl) (perm_of_pulls [0] rfl) (c_law30_right _ r23 r23_p1 r23_c2 r23_p4 r23_c5 r23_p7 r23_c8 r28 h29 r23_h3 r23_h6 r23_h9) ?_)
    rintro _ _ ⟨rfl, rfl⟩
    refine nw_H (H' := [imm I, pt b21 #[.int .i64 r23.Size, .slice r23_p1 r23.Picks.length r23_c2, .slice r23_p4 r23.Leaf.length r23_c5, .slice r23_p7 r23.Nodes.length r23_c8] 25] ++ F0) rfl (nw_ow ?_)
    refine ow_vals 1 (j := 3) [1, 3, 13] [(1, .pointer (some ⟨b21, 0, none⟩)), (3, .string r25), (13, .bool (!r28))] rfl (by kernel_rfl) ?_
    refine ow_end rfl ?_
    refine ew_then ?_
    rcases if_some hF with ⟨h30, hF⟩ | ⟨h30, hF⟩
    · refine cw_cond_t rfl rfl h30 ?_
      refine cw_seq ?_
      refine cw_region ?_
      refine ow_vals 3 (j := 3) [16] [(16, .bool (seqB r25 (ByteArray.mk #[])))] rfl (by kernel_rfl) ?_
      rcases if_some hF with ⟨h31, hF⟩ | ⟨h31, hF⟩
      · refine ow_slots (L' := [(16, .bool true)]) (by rw [h31]) ?_
        obtain ⟨r32, h33, hF⟩ := bind_some hF
        refine ow_pw rfl (pw_call (F := [pt b21 #[.int .i64 r23.Size, .slice r23_p1 r23.Picks.length r23_c2, .slice r23_p4 r23.Leaf.length r23_c5, .slice r23_p7 r23.Nodes.length r23_c8] 25] ++ F0) rfl rfl rfl rfl rfl rfl rfl (by kernel_rfl) (perm_of_pulls [0] rfl) (c_law30_awake _ r32 h33) ?_)
        rintro _ _ ⟨r32_J, rfl, rfl, r32_hJ⟩
        refine nw_H (H' := [imm r32_J, pt b21 #[.int .i64 r23.Size, .slice r23_p1 r23.Picks.length r23_c2, .slice r23_p4 r23.Leaf.length r23_c5, .slice r23_p7 r23.Nodes.length r23_c8] 25] ++ F0) rfl (nw_ow ?_)
        have r23_h3 := ro.sub r32_hJ r23_h3
        have r23_h6 := ro.sub r32_hJ r23_h6
        have r23_h9 := ro.sub r32_hJ r23_h9
        refine ow_vals 2 (j := 6) [2] [(2, .bool r32)] rfl (by kernel_rfl) ?_
        refine ow_end rfl ?_
        refine ew_then ?_
        refine cw_ret ?_
        refine ew_then_ret ?_
        have hR := Option.some.inj hF
        subst hR
        have hR := hK27
        try dsimp only [Thru] at hR
        subst hR
        exact fin1 (H1 := [imm r32_J]) (fun w hs => sat_to [1, 0] 1 rfl hs) rfl (rr_tmp rfl) ⟨r32_J, rfl, rfl, r32_hJ⟩
      · refine ow_slots (L' := [(16, .bool false)]) (by rw [h31]) ?_
        refine ow_vals 3 (j := 6) [2] [(2, .bool false)] rfl (by kernel_rfl) ?_
        refine ow_end rfl ?_
        refine ew_then ?_
        refine cw_ret ?_
        refine ew_then_ret ?_
        have hR := Option.some.inj hF
        subst hR
        have hR := hK27
        try dsimp only [Thru] at hR
        subst hR
        exact fin1 (H1 := [imm I]) (fun w hs => sat_to [1, 0] 1 rfl hs) rfl (rr_tmp rfl) ⟨I, rfl, rfl, Hl.sub_refl _⟩
    · refine cw_cond_f rfl rfl h30 ?_
      refine cw_skip ?_
      have hR := Option.some.inj hF
      exact fun a w hf hs => ⟨hR, hf.keep [1, 3], sat_to [0, 0] 0 rfl hs⟩
  · rintro a w ⟨hv, hf, hs⟩
    subst hv
    replace hF := hK27
    clear hK27
    try dsimp only [Thru] at hF
    revert a w
    show CW _ _ _ 83 [(1, .pointer (some ⟨b21, 0, none⟩)), (3, .string r25)] (SAT w0 ([imm I, pt b21 #[.int .i64 r23.Size, .slice r23_p1 r23.Picks.length r23_c2, .slice r23_p4 r23.Leaf.length r23_c5, .slice r23_p7 r23.Nodes.length r23_c8] 25] ++ F0))
    unfold F.law30_BatchBytes.r1 at hF
    refine cw_seq ?_
    refine cw_region ?_
    refine ow_vals 1 (j := 1) [1, 3, 20] [(1, .pointer (some ⟨b21, 0, none⟩)), (3, .string r25), (20, .string r25)] rfl (by kernel_rfl) ?_
    obtain ⟨r34, h35, hF⟩ := bind_some hF
    refine ow_pw rfl (pw_call (F := [pt b21 #[.int .i64 r23.Size, .slice r23_p1 r23.Picks.length r23_c2, .slice r23_p4 r23.Leaf.length r23_c5, .slice r23_p7 r23.Nodes.length r23_c8] 25] ++ F0) rfl rfl rfl rfl rfl rfl rfl (by kernel_rfl) (perm_of_pulls [0] rfl) (c_batch_Read _ r25 r34 h35) ?_)
    rintro _ _ ⟨r34_J, r34_p1, r34_c2, r34_p4, r34_c5, r34_p7, r34_c8, rfl, rfl, r34_hJ, r34_h3, r34_h6, r34_h9⟩
    refine nw_H (H' := [imm r34_J, pt b21 #[.int .i64 r23.Size, .slice r23_p1 r23.Picks.length r23_c2, .slice r23_p4 r23.Leaf.length r23_c5, .slice r23_p7 r23.Nodes.length r23_c8] 25] ++ F0) rfl (nw_ow ?_)
    have r23_h3 := ro.sub r34_hJ r23_h3
    have r23_h6 := ro.sub r34_hJ r23_h6
    have r23_h9 := ro.sub r34_hJ r23_h9
    refine ow_vals 3 (j := 5) [1, 3, 22, 23] [(1, .pointer (some ⟨b21, 0, none⟩)), (3, .string r25), (22, .agg #[.int .i64 r34.1.Size, .slice r34_p1 r34.1.Picks.length r34_c2, .slice r34_p4 r34.1.Leaf.length r34_c5, .slice r34_p7 r34.1.Nodes.length r34_c8]), (23, .int .i64 r34.2)] rfl (by kernel_rfl) ?_
    refine ow_pw rfl (pw_alloc (cs := #[.int .i64 0, .slice none 0 0, .slice none 0 0, .slice none 0 0]) rfl rfl rfl rfl rfl (by kernel_rfl) fun b36 => nw_ow ?_)
    refine ow_pw rfl (pw_store 0 #[.int .i64 r34.1.Size, .slice r34_p1 r34.1.Picks.length r34_c2, .slice r34_p4 r34.1.Leaf.length r34_c5, .slice r34_p7 r34.1.Nodes.length r34_c8] rfl rfl rfl rfl rfl rfl rfl (by kernel_rfl) (nw_H (H' := [pt b36 #[.int .i64 r34.1.Size, .slice r34_p1 r34.1.Picks.length r34_c2, .slice r34_p4 r34.1.Leaf.length r34_c5, .slice r34_p7 r34.1.Nodes.length r34_c8] 25, imm r34_J, pt b21 #[.int .i64 r23.Size, .slice r23_p1 r23.Picks.length r23_c2, .slice r23_p4 r23.Leaf.length r23_c5, .slice r23_p7 r23.Nodes.length r23_c8] 25] ++ F0) rfl (nw_ow ?_)))
    refine ow_vals 1 (j := 8) [1, 3, 4, 5] [(1, .pointer (some ⟨b21, 0, none⟩)), (3, .string r25), (4, .pointer (some ⟨b36, 0, none⟩)), (5, .int .i64 r34.2)] rfl (by kernel_rfl) ?_
    refine ow_end rfl ?_
    refine ew_then ?_
    obtain ⟨v38, hF, hK38⟩ := thru_some hF
    refine cw_mid (fun a w => .inl () = v38 ∧ Fr 83 [(1, .pointer (some ⟨b21, 0, none⟩)), (3, .string r25), (4, .pointer (some ⟨b36, 0, none⟩))] a ∧ SAT w0 ([imm r34_J, pt b36 #[.int .i64 r34.1.Size, .slice r34_p1 r34.1.Picks.length r34_c2, .slice r34_p4 r34.1.Leaf.length r34_c5, .slice r34_p7 r34.1.Nodes.length r34_c8] 25, pt b21 #[.int .i64 r23.Size, .slice r23_p1 r23.Picks.length r23_c2, .slice r23_p4 r23.Leaf.length r23_c5, .slice r23_p7 r23.Nodes.length r23_c8] 25] ++ F0) w) ?_ ?_
    · refine cw_seq ?_
      refine cw_region ?_
      refine ow_vals 3 (j := 3) [1, 3, 4, 26] [(1, .pointer (some ⟨b21, 0, none⟩)), (3, .string r25), (4, .pointer (some ⟨b36, 0, none⟩)), (26, .bool (r34.2 != 0))] rfl (by kernel_rfl) ?_
      rcases if_some hF with ⟨h39, hF⟩ | ⟨h39, hF⟩
      · refine ow_slots (L' := [(1, .pointer (some ⟨b21, 0, none⟩)), (3, .string r25), (4, .pointer (some ⟨b36, 0, none⟩)), (26, .bool true)]) (by rw [h39]) ?_
        refine ow_vals 31 (j := 34) [1, 3, 4, 57] [(1, .pointer (some ⟨b21, 0, none⟩)), (3, .string r25), (4, .pointer (some ⟨b36, 0, none⟩)), (57, .bool true)] rfl (by kernel_rfl) ?_
        refine ow_end rfl ?_
        refine ew_then ?_
        refine cw_cond_t rfl rfl rfl ?_
        refine cw_seq ?_
        refine cw_region ?_
        refine ow_vals 1 (j := 1) [2] [(2, .bool false)] rfl (by kernel_rfl) ?_
        refine ow_end rfl ?_
        refine ew_then ?_
        refine cw_ret ?_
        refine ew_then_ret ?_
        have hR := Option.some.inj hF
        subst hR
        have hR := hK38
        try dsimp only [Thru] at hR
        subst hR
        exact fin1 (H1 := [imm r34_J]) (fun w hs => sat_to [0, 1, 0] 2 rfl hs) rfl (rr_tmp rfl) ⟨r34_J, rfl, rfl, r34_hJ⟩
      · refine ow_slots (L' := [(1, .pointer (some ⟨b21, 0, none⟩)), (3, .string r25), (4, .pointer (some ⟨b36, 0, none⟩)), (26, .bool false)]) (by rw [h39]) ?_
        refine ow_vals 1 (j := 4) [1, 3, 4, 26, 27] [(1, .pointer (some ⟨b21, 0, none⟩)), (3, .string r25), (4, .pointer (some ⟨b36, 0, none⟩)), (26, .bool false), (27, .pointer (some ⟨b36, 0, none⟩))] rfl (by kernel_rfl) ?_
        refine ow_pw rfl (pw_quiet (v := .int .i64 r34.1.Size) rfl rfl rfl rfl (q_load 0 rfl rfl rfl (by kernel_rfl)) (nw_ow ?_))
        refine ow_vals 1 (j := 6) [1, 3, 4, 26, 28, 29] [(1, .pointer (some ⟨b21, 0, none⟩)), (3, .string r25), (4, .pointer (some ⟨b36, 0, none⟩)), (26, .bool false), (28, .int .i64 r34.1.Size), (29, .pointer (some ⟨b21, 0, none⟩))] rfl (by kernel_rfl) ?_
        refine ow_pw rfl (pw_quiet (v := .int .i64 r23.Size) rfl rfl rfl rfl (q_load 2 rfl rfl rfl (by kernel_rfl)) (nw_ow ?_))
        refine ow_vals 3 (j := 10) [1, 3, 4, 33] [(1, .pointer (some ⟨b21, 0, none⟩)), (3, .string r25), (4, .pointer (some ⟨b36, 0, none⟩)), (33, .bool (r34.1.Size != r23.Size))] rfl (by kernel_rfl) ?_
        rcases if_some hF with ⟨h40, hF⟩ | ⟨h40, hF⟩
        · refine ow_slots (L' := [(1, .pointer (some ⟨b21, 0, none⟩)), (3, .string r25), (4, .pointer (some ⟨b36, 0, none⟩)), (33, .bool true)]) (by rw [h40]) ?_
          refine ow_vals 24 (j := 34) [1, 3, 4, 57] [(1, .pointer (some ⟨b21, 0, none⟩)), (3, .string r25), (4, .pointer (some ⟨b36, 0, none⟩)), (57, .bool true)] rfl (by kernel_rfl) ?_
          refine ow_end rfl ?_
          refine ew_then ?_
          refine cw_cond_t rfl rfl rfl ?_
          refine cw_seq ?_
          refine cw_region ?_
          refine ow_vals 1 (j := 1) [2] [(2, .bool false)] rfl (by kernel_rfl) ?_
          refine ow_end rfl ?_
          refine ew_then ?_
          refine cw_ret ?_
          refine ew_then_ret ?_
          have hR := Option.some.inj hF
          subst hR
          have hR := hK38
          try dsimp only [Thru] at hR
          subst hR
          exact fin1 (H1 := [imm r34_J]) (fun w hs => sat_to [0, 1, 0] 2 rfl hs) rfl (rr_tmp rfl) ⟨r34_J, rfl, rfl, r34_hJ⟩
        · refine ow_slots (L' := [(1, .pointer (some ⟨b21, 0, none⟩)), (3, .string r25), (4, .pointer (some ⟨b36, 0, none⟩)), (33, .bool false)]) (by rw [h40]) ?_
          refine ow_vals 1 (j := 11) [1, 3, 4, 33, 34] [(1, .pointer (some ⟨b21, 0, none⟩)), (3, .string r25), (4, .pointer (some ⟨b36, 0, none⟩)), (33, .bool false), (34, .pointer (some ⟨b36, 1, none⟩))] rfl (by kernel_rfl) ?_
          refine ow_pw rfl (pw_quiet (v := .slice r34_p1 r34.1.Picks.length r34_c2) rfl rfl rfl rfl (q_load 0 rfl rfl rfl (by kernel_rfl)) (nw_ow ?_))
          refine ow_vals 2 (j := 14) [1, 3, 4, 33, 36, 37] [(1, .pointer (some ⟨b21, 0, none⟩)), (3, .string r25), (4, .pointer (some ⟨b36, 0, none⟩)), (33, .bool false), (36, .int .i64 (r34.1.Picks.length : Int)), (37, .pointer (some ⟨b21, 1, none⟩))] rfl (by kernel_rfl) ?_
          refine ow_pw rfl (pw_quiet (v := .slice r23_p1 r23.Picks.length r23_c2) rfl rfl rfl rfl (q_load 2 rfl rfl rfl (by kernel_rfl)) (nw_ow ?_))
          refine ow_vals 4 (j := 19) [1, 3, 4, 42] [(1, .pointer (some ⟨b21, 0, none⟩)), (3, .string r25), (4, .pointer (some ⟨b36, 0, none⟩)), (42, .bool ((r34.1.Picks.length : Int) != (r23.Picks.length : Int)))] rfl (by kernel_rfl) ?_
          rcases if_some hF with ⟨h41, hF⟩ | ⟨h41, hF⟩
          · refine ow_slots (L' := [(1, .pointer (some ⟨b21, 0, none⟩)), (3, .string r25), (4, .pointer (some ⟨b36, 0, none⟩)), (42, .bool true)]) (by rw [h41]) ?_
            refine ow_vals 15 (j := 34) [1, 3, 4, 57] [(1, .pointer (some ⟨b21, 0, none⟩)), (3, .string r25), (4, .pointer (some ⟨b36, 0, none⟩)), (57, .bool true)] rfl (by kernel_rfl) ?_
            refine ow_end rfl ?_
            refine ew_then ?_
            refine cw_cond_t rfl rfl rfl ?_
            refine cw_seq ?_
            refine cw_region ?_
            refine ow_vals 1 (j := 1) [2] [(2, .bool false)] rfl (by kernel_rfl) ?_
            refine ow_end rfl ?_
            refine ew_then ?_
            refine cw_ret ?_
            refine ew_then_ret ?_
            have hR := Option.some.inj hF
            subst hR
            have hR := hK38
            try dsimp only [Thru] at hR
            subst hR
            exact fin1 (H1 := [imm r34_J]) (fun w hs => sat_to [0, 1, 0] 2 rfl hs) rfl (rr_tmp rfl) ⟨r34_J, rfl, rfl, r34_hJ⟩
          · refine ow_slots (L' := [(1, .pointer (some ⟨b21, 0, none⟩)), (3, .string r25), (4, .pointer (some ⟨b36, 0, none⟩)), (42, .bool false)]) (by rw [h41]) ?_
            refine ow_vals 1 (j := 20) [1, 3, 4, 42, 43] [(1, .pointer (some ⟨b21, 0, none⟩)), (3, .string r25), (4, .pointer (some ⟨b36, 0, none⟩)), (42, .bool false), (43, .pointer (some ⟨b36, 2, none⟩))] rfl (by kernel_rfl) ?_
            refine ow_pw rfl (pw_quiet (v := .slice r34_p4 r34.1.Leaf.length r34_c5) rfl rfl rfl rfl (q_load 0 rfl rfl rfl (by kernel_rfl)) (nw_ow ?_))
            refine ow_vals 1 (j := 22) [1, 3, 4, 42, 44, 45] [(1, .pointer (some ⟨b21, 0, none⟩)), (3, .string r25), (4, .pointer (some ⟨b36, 0, none⟩)), (42, .bool false), (44, .slice r34_p4 r34.1.Leaf.length r34_c5), (45, .pointer (some ⟨b21, 2, none⟩))] rfl (by kernel_rfl) ?_
            refine ow_pw rfl (pw_quiet (v := .slice r23_p4 r23.Leaf.length r23_c5) rfl rfl rfl rfl (q_load 2 rfl rfl rfl (by kernel_rfl)) (nw_ow ?_))
            obtain ⟨r42, h43, hF⟩ := bind_some hF
            refine ow_pw rfl (pw_call (F := [pt b36 #[.int .i64 r34.1.Size, .slice r34_p1 r34.1.Picks.length r34_c2, .slice r34_p4 r34.1.Leaf.length r34_c5, .slice r34_p7 r34.1.Nodes.length r34_c8] 25, pt b21 #[.int .i64 r23.Size, .slice r23_p1 r23.Picks.length r23_c2, .slice r23_p4 r23.Leaf.length r23_c5, .slice r23_p7 r23.Nodes.length r23_c8] 25] ++ F0) rfl rfl rfl rfl rfl rfl rfl (by kernel_rfl) (perm_of_pulls [1] rfl) (c_law30_same _ r34.1.Leaf r23.Leaf r34_p4 r34_c5 r23_p4 r23_c5 r42 h43 r34_h6 r23_h6) ?_)
            rintro _ _ ⟨rfl, rfl⟩
            refine nw_H (H' := [imm r34_J, pt b36 #[.int .i64 r34.1.Size, .slice r34_p1 r34.1.Picks.length r34_c2, .slice r34_p4 r34.1.Leaf.length r34_c5, .slice r34_p7 r34.1.Nodes.length r34_c8] 25, pt b21 #[.int .i64 r23.Size, .slice r23_p1 r23.Picks.length r23_c2, .slice r23_p4 r23.Leaf.length r23_c5, .slice r23_p7 r23.Nodes.length r23_c8] 25] ++ F0) rfl (nw_ow ?_)
            refine ow_vals 3 (j := 27) [1, 3, 4, 50] [(1, .pointer (some ⟨b21, 0, none⟩)), (3, .string r25), (4, .pointer (some ⟨b36, 0, none⟩)), (50, .bool (!r42))] rfl (by kernel_rfl) ?_
            rcases if_some hF with ⟨h44, hF⟩ | ⟨h44, hF⟩
            · refine ow_slots (L' := [(1, .pointer (some ⟨b21, 0, none⟩)), (3, .string r25), (4, .pointer (some ⟨b36, 0, none⟩)), (50, .bool true)]) (by rw [h44]) ?_
              refine ow_vals 7 (j := 34) [1, 3, 4, 57] [(1, .pointer (some ⟨b21, 0, none⟩)), (3, .string r25), (4, .pointer (some ⟨b36, 0, none⟩)), (57, .bool true)] rfl (by kernel_rfl) ?_
              refine ow_end rfl ?_
              refine ew_then ?_
              refine cw_cond_t rfl rfl rfl ?_
              refine cw_seq ?_
              refine cw_region ?_
              refine ow_vals 1 (j := 1) [2] [(2, .bool false)] rfl (by kernel_rfl) ?_
              refine ow_end rfl ?_
              refine ew_then ?_
              refine cw_ret ?_
              refine ew_then_ret ?_
              have hR := Option.some.inj hF
              subst hR
              have hR := hK38
              try dsimp only [Thru] at hR
              subst hR
              exact fin1 (H1 := [imm r34_J]) (fun w hs => sat_to [1, 1, 0] 2 rfl hs) rfl (rr_tmp rfl) ⟨r34_J, rfl, rfl, r34_hJ⟩
            · refine ow_slots (L' := [(1, .pointer (some ⟨b21, 0, none⟩)), (3, .string r25), (4, .pointer (some ⟨b36, 0, none⟩)), (50, .bool false)]) (by rw [h44]) ?_
              refine ow_vals 1 (j := 28) [1, 3, 4, 50, 51] [(1, .pointer (some ⟨b21, 0, none⟩)), (3, .string r25), (4, .pointer (some ⟨b36, 0, none⟩)), (50, .bool false), (51, .pointer (some ⟨b36, 3, none⟩))] rfl (by kernel_rfl) ?_
              refine ow_pw rfl (pw_quiet (v := .slice r34_p7 r34.1.Nodes.length r34_c8) rfl rfl rfl rfl (q_load 1 rfl rfl rfl (by kernel_rfl)) (nw_ow ?_))
              refine ow_vals 1 (j := 30) [1, 3, 4, 50, 52, 53] [(1, .pointer (some ⟨b21, 0, none⟩)), (3, .string r25), (4, .pointer (some ⟨b36, 0, none⟩)), (50, .bool false), (52, .slice r34_p7 r34.1.Nodes.length r34_c8), (53, .pointer (some ⟨b21, 3, none⟩))] rfl (by kernel_rfl) ?_
              refine ow_pw rfl (pw_quiet (v := .slice r23_p7 r23.Nodes.length r23_c8) rfl rfl rfl rfl (q_load 2 rfl rfl rfl (by kernel_rfl)) (nw_ow ?_))
              obtain ⟨r45, h46, hF⟩ := bind_some hF
              refine ow_pw rfl (pw_call (F := [pt b36 #[.int .i64 r34.1.Size, .slice r34_p1 r34.1.Picks.length r34_c2, .slice r34_p4 r34.1.Leaf.length r34_c5, .slice r34_p7 r34.1.Nodes.length r34_c8] 25, pt b21 #[.int .i64 r23.Size, .slice r23_p1 r23.Picks.length r23_c2, .slice r23_p4 r23.Leaf.length r23_c5, .slice r23_p7 r23.Nodes.length r23_c8] 25] ++ F0) rfl rfl rfl rfl rfl rfl rfl (by kernel_rfl) (perm_of_pulls [0] rfl) (c_law30_same _ r34.1.Nodes r23.Nodes r34_p7 r34_c8 r23_p7 r23_c8 r45 h46 r34_h9 r23_h9) ?_)
              rintro _ _ ⟨rfl, rfl⟩
              refine nw_H (H' := [imm r34_J, pt b36 #[.int .i64 r34.1.Size, .slice r34_p1 r34.1.Picks.length r34_c2, .slice r34_p4 r34.1.Leaf.length r34_c5, .slice r34_p7 r34.1.Nodes.length r34_c8] 25, pt b21 #[.int .i64 r23.Size, .slice r23_p1 r23.Picks.length r23_c2, .slice r23_p4 r23.Leaf.length r23_c5, .slice r23_p7 r23.Nodes.length r23_c8] 25] ++ F0) rfl (nw_ow ?_)
              refine ow_vals 2 (j := 34) [1, 3, 4, 57] [(1, .pointer (some ⟨b21, 0, none⟩)), (3, .string r25), (4, .pointer (some ⟨b36, 0, none⟩)), (57, .bool (!r45))] rfl (by kernel_rfl) ?_
              refine ow_end rfl ?_
              refine ew_then ?_
              rcases if_some hF with ⟨h47, hF⟩ | ⟨h47, hF⟩
              · refine cw_cond_t rfl rfl h47 ?_
                refine cw_seq ?_
                refine cw_region ?_
                refine ow_vals 1 (j := 1) [2] [(2, .bool false)] rfl (by kernel_rfl) ?_
                refine ow_end rfl ?_
                refine ew_then ?_
                refine cw_ret ?_
                refine ew_then_ret ?_
                have hR := Option.some.inj hF
                subst hR
                have hR := hK38
                try dsimp only [Thru] at hR
                subst hR
                exact fin1 (H1 := [imm r34_J]) (fun w hs => sat_to [1, 1, 0] 2 rfl hs) rfl (rr_tmp rfl) ⟨r34_J, rfl, rfl, r34_hJ⟩
              · refine cw_cond_f rfl rfl h47 ?_
                refine cw_skip ?_
                have hR := Option.some.inj hF
                exact fun a w hf hs => ⟨hR, hf.keep [1, 3, 4], sat_to [0, 0, 0] 0 rfl hs⟩
    · rintro a w ⟨hv, hf, hs⟩
      subst hv
      replace hF := hK38
      clear hK38
      try dsimp only [Thru] at hF
      revert a w
      show CW _ _ _ 83 [(1, .pointer (some ⟨b21, 0, none⟩)), (3, .string r25), (4, .pointer (some ⟨b36, 0, none⟩))] (SAT w0 ([imm r34_J, pt b36 #[.int .i64 r34.1.Size, .slice r34_p1 r34.1.Picks.length r34_c2, .slice r34_p4 r34.1.Leaf.length r34_c5, .slice r34_p7 r34.1.Nodes.length r34_c8] 25, pt b21 #[.int .i64 r23.Size, .slice r23_p1 r23.Picks.length r23_c2, .slice r23_p4 r23.Leaf.length r23_c5, .slice r23_p7 r23.Nodes.length r23_c8] 25] ++ F0))
      unfold F.law30_BatchBytes.r2 at hF
      obtain ⟨v48, hF, hK48⟩ := thru_some hF
      refine cw_mid (fun a w => .inl () = v48 ∧ Fr 83 [(1, .pointer (some ⟨b21, 0, none⟩)), (3, .string r25)] a ∧ SAT w0 ([imm r34_J, pt b36 #[.int .i64 r34.1.Size, .slice r34_p1 r34.1.Picks.length r34_c2, .slice r34_p4 r34.1.Leaf.length r34_c5, .slice r34_p7 r34.1.Nodes.length r34_c8] 25, pt b21 #[.int .i64 r23.Size, .slice r23_p1 r23.Picks.length r23_c2, .slice r23_p4 r23.Leaf.length r23_c5, .slice r23_p7 r23.Nodes.length r23_c8] 25] ++ F0) w) ?_ ?_
      · refine cw_seq ?_
        refine cw_region ?_
        refine ow_vals 1 (j := 1) [1, 3, 4, 6] [(1, .pointer (some ⟨b21, 0, none⟩)), (3, .string r25), (4, .pointer (some ⟨b36, 0, none⟩)), (6, .int .i64 0)] rfl (by kernel_rfl) ?_
        refine ow_end rfl ?_
        refine ew_then ?_
        refine cw_block ?_
        refine fun a w hf hs => wp_rounds (fun k a w => ∃ (x50 : Int), iter (fun x => F.law30_BatchBytes.l3 r23 r34 x) k x50 = some v48 ∧ Fr 83 [(1, .pointer (some ⟨b21, 0, none⟩)), (3, .string r25), (4, .pointer (some ⟨b36, 0, none⟩)), (6, .int .i64 x50)] a ∧ SAT w0 ([imm r34_J, pt b36 #[.int .i64 r34.1.Size, .slice r34_p1 r34.1.Picks.length r34_c2, .slice r34_p4 r34.1.Leaf.length r34_c5, .slice r34_p7 r34.1.Nodes.length r34_c8] 25, pt b21 #[.int .i64 r23.Size, .slice r23_p1 r23.Picks.length r23_c2, .slice r23_p4 r23.Leaf.length r23_c5, .slice r23_p7 r23.Nodes.length r23_c8] 25] ++ F0) w) ?_ FUEL a w ⟨0, hF, hf.keep [1, 3, 4, 6], sat_to [0, 0, 0] 0 rfl hs⟩
        clear hf hs
        clear a w hF
        rintro k a w ⟨x50, hF2, hf, hs⟩
        obtain ⟨k, r49, rfl, hF, hL49⟩ := iter_some hF2
        clear hF2
        revert a w
        show CW _ _ _ 83 [(1, .pointer (some ⟨b21, 0, none⟩)), (3, .string r25), (4, .pointer (some ⟨b36, 0, none⟩)), (6, .int .i64 x50)] (SAT w0 ([imm r34_J, pt b36 #[.int .i64 r34.1.Size, .slice r34_p1 r34.1.Picks.length r34_c2, .slice r34_p4 r34.1.Leaf.length r34_c5, .slice r34_p7 r34.1.Nodes.length r34_c8] 25, pt b21 #[.int .i64 r23.Size, .slice r23_p1 r23.Picks.length r23_c2, .slice r23_p4 r23.Leaf.length r23_c5, .slice r23_p7 r23.Nodes.length r23_c8] 25] ++ F0))
        try dsimp only at hF
        unfold F.law30_BatchBytes.l3 at hF
        refine cw_seq ?_
        refine cw_seq ?_
        refine cw_region ?_
        refine ow_vals 2 (j := 2) [1, 3, 4, 6, 58, 59] [(1, .pointer (some ⟨b21, 0, none⟩)), (3, .string r25), (4, .pointer (some ⟨b36, 0, none⟩)), (6, .int .i64 x50), (58, .int .i64 x50), (59, .pointer (some ⟨b21, 1, none⟩))] rfl (by kernel_rfl) ?_
        refine ow_pw rfl (pw_quiet (v := .slice r23_p1 r23.Picks.length r23_c2) rfl rfl rfl rfl (q_load 2 rfl rfl rfl (by kernel_rfl)) (nw_ow ?_))
        refine ow_vals 2 (j := 5) [1, 3, 4, 6, 62] [(1, .pointer (some ⟨b21, 0, none⟩)), (3, .string r25), (4, .pointer (some ⟨b36, 0, none⟩)), (6, .int .i64 x50), (62, .bool (decide (x50 < (r23.Picks.length : Int))))] rfl (by kernel_rfl) ?_
        refine ow_end rfl ?_
        refine ew_then ?_
        rcases if_some hF with ⟨h51, hF⟩ | ⟨h51, hF⟩
        · refine cw_cond_t rfl rfl h51 ?_
          refine cw_skip ?_
          refine ew_then ?_
          refine cw_seq ?_
          refine cw_block ?_
          refine cw_seq ?_
          refine cw_open 11 (SAT w0 ([imm r34_J, pt b36 #[.int .i64 r34.1.Size, .slice r34_p1 r34.1.Picks.length r34_c2, .slice r34_p4 r34.1.Leaf.length r34_c5, .slice r34_p7 r34.1.Nodes.length r34_c8] 25, pt b21 #[.int .i64 r23.Size, .slice r23_p1 r23.Picks.length r23_c2, .slice r23_p4 r23.Leaf.length r23_c5, .slice r23_p7 r23.Nodes.length r23_c8] 25])) (by kernel_rfl) (f := 11) rfl (fun w hs => sat_drew hs) ?_
          refine aw_vals [0, 2, 5, 7] (f' := 7) (m' := 165) [1, 3, 4, 6, 65, 67, 70, 72] [(1, .pointer (some ⟨b21, 0, none⟩)), (3, .string r25), (4, .pointer (some ⟨b36, 0, none⟩)), (6, .int .i64 x50), (65, .pointer (some ⟨b36, 1, none⟩)), (67, .int .i64 x50), (70, .pointer (some ⟨b21, 1, none⟩)), (72, .int .i64 x50)] (fun _ _ _ _ _ h => calm_fin (P := Try.prog) (fn := Try.f7) _ _ _ _ _ h) (fun w hs => sat_pulls [0, 0, 0] (G := [] ++ F0) rfl hs) rfl (by kernel_rfl) ?_
          refine aw_quiet 1 (m' := 167) (v := .slice r34_p1 r34.1.Picks.length r34_c2) 0 [] rfl rfl rfl rfl (by kernel_rfl) (by kernel_rfl) (by kernel_rfl) (fun _ _ _ _ _ h => calm_fin (P := Try.prog) (fn := Try.f7) _ _ _ _ _ h) (fun w hs => sat_pulls [0, 0, 0] (G := [] ++ F0) rfl hs) (q_load 1 rfl rfl rfl (by kernel_rfl)) ?_
          obtain ⟨y52, h53, hF⟩ := bind_some hF
          refine aw_index_ro (E := 3) 3 (m' := 175) 1 r34_h3 rfl rfl rfl rfl rfl (by kernel_rfl) (by kernel_rfl) (fun _ _ _ _ _ h => calm_fin (P := Try.prog) (fn := Try.f7) _ _ _ _ _ h) (fun w hs => sat_pulls [0, 0, 0] (G := [] ++ F0) rfl hs) (by kernel_rfl) rfl rfl rfl h53 fun q54 h55 => ?_
          refine aw_quiet 4 (m' := 191) (v := .int .i64 y52) 0 [] rfl rfl rfl rfl (by kernel_rfl) (by kernel_rfl) (by kernel_rfl) (fun _ _ _ _ _ h => calm_fin (P := Try.prog) (fn := Try.f7) _ _ _ _ _ h) (fun w hs => sat_pulls [0, 0, 0] (G := [] ++ F0) rfl hs) (q_load_el0 0 rfl h55 rfl rfl (by kernel_rfl)) ?_
          refine aw_quiet 6 (m' := 255) (v := .slice r23_p1 r23.Picks.length r23_c2) 0 [] rfl rfl rfl rfl (by kernel_rfl) (by kernel_rfl) (by kernel_rfl) (fun _ _ _ _ _ h => calm_fin (P := Try.prog) (fn := Try.f7) _ _ _ _ _ h) (fun w hs => sat_pulls [0, 0, 0] (G := [] ++ F0) rfl hs) (q_load 2 rfl rfl rfl (by kernel_rfl)) ?_
          obtain ⟨y56, h57, hF⟩ := bind_some hF
          refine aw_index_ro (E := 3) 8 (m' := 511) 1 r23_h3 rfl rfl rfl rfl rfl (by kernel_rfl) (by kernel_rfl) (fun _ _ _ _ _ h => calm_fin (P := Try.prog) (fn := Try.f7) _ _ _ _ _ h) (fun w hs => sat_pulls [0, 0, 0] (G := [] ++ F0) rfl hs) (by kernel_rfl) rfl rfl rfl h57 fun q58 h59 => ?_
          refine aw_quiet 9 (m' := 1023) (v := .int .i64 y56) 0 [] rfl rfl rfl rfl (by kernel_rfl) (by kernel_rfl) (by kernel_rfl) (fun _ _ _ _ _ h => calm_fin (P := Try.prog) (fn := Try.f7) _ _ _ _ _ h) (fun w hs => sat_pulls [0, 0, 0] (G := [] ++ F0) rfl hs) (q_load_el0 0 rfl h59 rfl rfl (by kernel_rfl)) ?_
          refine aw_vals [10] (f' := 0) (m' := 2047) [1, 3, 4, 6, 75] [(1, .pointer (some ⟨b21, 0, none⟩)), (3, .string r25), (4, .pointer (some ⟨b36, 0, none⟩)), (6, .int .i64 x50), (75, .bool (y52 != y56))] (fun _ _ _ _ _ h => calm_fin (P := Try.prog) (fn := Try.f7) _ _ _ _ _ h) (fun w hs => sat_pulls [0, 0, 0] (G := [] ++ F0) rfl hs) rfl (by kernel_rfl) ?_
          refine aw_keep [1, 3, 4, 6, 75] (L' := [(1, .pointer (some ⟨b21, 0, none⟩)), (3, .string r25), (4, .pointer (some ⟨b36, 0, none⟩)), (6, .int .i64 x50), (75, .bool (y52 != y56))]) rfl ?_
          refine aw_end (by kernel_rfl) ?_
          refine ew_then ?_
          rcases if_some hF with ⟨h60, hF⟩ | ⟨h60, hF⟩
          · refine cw_cond_t rfl rfl h60 ?_
            refine cw_seq ?_
            refine cw_region ?_
            refine ow_vals 1 (j := 1) [2] [(2, .bool false)] rfl (by kernel_rfl) ?_
            refine ow_end rfl ?_
            refine ew_then ?_
            refine cw_ret ?_
            refine ew_blk_ret ?_
            refine ew_then_ret ?_
            refine ew_then_ret ?_
            refine ew_blk_ret ?_
            refine ew_then_ret ?_
            have hR := Option.some.inj hF
            subst hR
            have hR := hL49
            try dsimp only at hR
            subst hR
            have hR := hK48
            try dsimp only [Thru] at hR
            subst hR
            exact fin1 (H1 := [imm r34_J]) (fun w hs => sat_to [1, 1, 0] 2 rfl hs) rfl (rr_tmp rfl) ⟨r34_J, rfl, rfl, r34_hJ⟩
          · refine cw_cond_f rfl rfl h60 ?_
            refine cw_skip ?_
            refine ew_blk ?_
            refine ew_then ?_
            refine cw_region ?_
            refine ow_vals 3 (j := 3) [1, 3, 4, 6] [(1, .pointer (some ⟨b21, 0, none⟩)), (3, .string r25), (4, .pointer (some ⟨b36, 0, none⟩)), (6, .int .i64 (IntKind.i64.wrap (x50 + 1)))] rfl (by kernel_rfl) ?_
            refine ow_end rfl ?_
            have hR := Option.some.inj hF
            subst hR
            have hR := hL49
            try dsimp only at hR
            exact fun a w hf hs => ⟨k, Nat.lt_succ_self k, IntKind.i64.wrap (x50 + 1), hR, hf.keep [1, 3, 4, 6], sat_to [0, 0, 0] 0 rfl hs⟩
        · refine cw_cond_f rfl rfl h51 ?_
          refine cw_exit ?_
          refine ew_then_exit ?_
          refine ew_then_exit ?_
          refine ew_blk_exit ?_
          have hR := Option.some.inj hF
          subst hR
          have hR := hL49
          try dsimp only at hR
          exact fun a w hf hs => ⟨hR, hf.keep [1, 3], sat_to [0, 0, 0] 0 rfl hs⟩
      · rintro a w ⟨hv, hf, hs⟩
        subst hv
        replace hF := hK48
        clear hK48
        try dsimp only [Thru] at hF
        revert a w
        show CW _ _ _ 83 [(1, .pointer (some ⟨b21, 0, none⟩)), (3, .string r25)] (SAT w0 ([imm r34_J, pt b36 #[.int .i64 r34.1.Size, .slice r34_p1 r34.1.Picks.length r34_c2, .slice r34_p4 r34.1.Leaf.length r34_c5, .slice r34_p7 r34.1.Nodes.length r34_c8] 25, pt b21 #[.int .i64 r23.Size, .slice r23_p1 r23.Picks.length r23_c2, .slice r23_p4 r23.Leaf.length r23_c5, .slice r23_p7 r23.Nodes.length r23_c8] 25] ++ F0))
        unfold F.law30_BatchBytes.r4 at hF
        refine cw_seq ?_
        refine cw_region ?_
        refine ow_vals 1 (j := 1) [1, 76] [(1, .pointer (some ⟨b21, 0, none⟩)), (76, .string r25)] rfl (by kernel_rfl) ?_
        refine ow_pw rfl (pw_quiet (v := .agg #[.int .i64 r23.Size, .slice r23_p1 r23.Picks.length r23_c2, .slice r23_p4 r23.Leaf.length r23_c5, .slice r23_p7 r23.Nodes.length r23_c8]) rfl rfl rfl rfl (q_load 2 rfl rfl rfl (by kernel_rfl)) (nw_ow ?_))
        obtain ⟨r61, h62, hF⟩ := bind_some hF
        refine ow_pw rfl (pw_call (F := [pt b36 #[.int .i64 r34.1.Size, .slice r34_p1 r34.1.Picks.length r34_c2, .slice r34_p4 r34.1.Leaf.length r34_c5, .slice r34_p7 r34.1.Nodes.length r34_c8] 25, pt b21 #[.int .i64 r23.Size, .slice r23_p1 r23.Picks.length r23_c2, .slice r23_p4 r23.Leaf.length r23_c5, .slice r23_p7 r23.Nodes.length r23_c8] 25] ++ F0) rfl rfl rfl rfl rfl rfl rfl (by kernel_rfl) (perm_of_pulls [0] rfl) (c_law30_bytes _ r23 r23_p1 r23_c2 r23_p4 r23_c5 r23_p7 r23_c8 r61 h62 r23_h3 r23_h6 r23_h9) ?_)
        rintro _ _ ⟨rfl, rfl⟩
        refine nw_H (H' := [imm r34_J, pt b36 #[.int .i64 r34.1.Size, .slice r34_p1 r34.1.Picks.length r34_c2, .slice r34_p4 r34.1.Leaf.length r34_c5, .slice r34_p7 r34.1.Nodes.length r34_c8] 25, pt b21 #[.int .i64 r23.Size, .slice r23_p1 r23.Picks.length r23_c2, .slice r23_p4 r23.Leaf.length r23_c5, .slice r23_p7 r23.Nodes.length r23_c8] 25] ++ F0) rfl (nw_ow ?_)
        refine ow_vals 2 (j := 5) [80] [(80, .bool (seqB r25 r61))] rfl (by kernel_rfl) ?_
        rcases if_some hF with ⟨h63, hF⟩ | ⟨h63, hF⟩
        · refine ow_slots (L' := [(80, .bool true)]) (by rw [h63]) ?_
          obtain ⟨r64, h65, hF⟩ := bind_some hF
          refine ow_pw rfl (pw_call (F := [pt b36 #[.int .i64 r34.1.Size, .slice r34_p1 r34.1.Picks.length r34_c2, .slice r34_p4 r34.1.Leaf.length r34_c5, .slice r34_p7 r34.1.Nodes.length r34_c8] 25, pt b21 #[.int .i64 r23.Size, .slice r23_p1 r23.Picks.length r23_c2, .slice r23_p4 r23.Leaf.length r23_c5, .slice r23_p7 r23.Nodes.length r23_c8] 25] ++ F0) rfl rfl rfl rfl rfl rfl rfl (by kernel_rfl) (perm_of_pulls [0] rfl) (c_law30_awake _ r64 h65) ?_)
          rintro _ _ ⟨r64_J, rfl, rfl, r64_hJ⟩
          refine nw_H (H' := [imm r64_J, pt b36 #[.int .i64 r34.1.Size, .slice r34_p1 r34.1.Picks.length r34_c2, .slice r34_p4 r34.1.Leaf.length r34_c5, .slice r34_p7 r34.1.Nodes.length r34_c8] 25, pt b21 #[.int .i64 r23.Size, .slice r23_p1 r23.Picks.length r23_c2, .slice r23_p4 r23.Leaf.length r23_c5, .slice r23_p7 r23.Nodes.length r23_c8] 25] ++ F0) rfl (nw_ow ?_)
          have r34_h3 := ro.sub r64_hJ r34_h3
          have r34_h6 := ro.sub r64_hJ r34_h6
          have r34_h9 := ro.sub r64_hJ r34_h9
          have r23_h3 := ro.sub r64_hJ r23_h3
          have r23_h6 := ro.sub r64_hJ r23_h6
          have r23_h9 := ro.sub r64_hJ r23_h9
          refine ow_vals 2 (j := 8) [2] [(2, .bool r64)] rfl (by kernel_rfl) ?_
          refine ow_end rfl ?_
          refine ew_then ?_
          refine cw_ret ?_
          have hR := Option.some.inj hF
          subst hR
          exact fin1 (H1 := [imm r64_J]) (fun w hs => sat_to [1, 1, 0] 2 rfl hs) rfl (rr_tmp rfl) ⟨r64_J, rfl, rfl, (Hl.sub_trans r34_hJ r64_hJ)⟩
        · refine ow_slots (L' := [(80, .bool false)]) (by rw [h63]) ?_
          refine ow_vals 3 (j := 8) [2] [(2, .bool false)] rfl (by kernel_rfl) ?_
          refine ow_end rfl ?_
          refine ew_then ?_
          refine cw_ret ?_
          have hR := Option.some.inj hF
          subst hR
          exact fin1 (H1 := [imm r34_J]) (fun w hs => sat_to [1, 1, 0] 2 rfl hs) rfl (rr_tmp rfl) ⟨r34_J, rfl, rfl, r34_hJ⟩

end Go.Proofs.Ytoamnhmdhficiaa
