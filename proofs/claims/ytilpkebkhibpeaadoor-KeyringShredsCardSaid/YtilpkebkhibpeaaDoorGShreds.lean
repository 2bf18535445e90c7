/- What the functions compute, and that the code computes it: printed by a program of this claim (wip/tools), for the group Shreds. -/
import Derived.Test.YtilpkebkhibpeaaDoorGRingb
namespace Go.Proofs.YtilpkebkhibpeaaDoor
set_option linter.all false
open Go Go.RowKit Go.Fw
set_option linter.unusedVariables false

structure strings_Builder where
  buf_ : List Int

def F.strings_Builder_copyCheck (m0 : strings_Builder) : Option strings_Builder :=
  some m0
theorem c_strings_Builder_copyCheck (I : Hl) (m0 : strings_Builder) (p0 : Option Addr) (c0 : Nat) (b0 : Nat) (res : strings_Builder) (hF : F.strings_Builder_copyCheck m0 = some res) : Tr Tryd.prog 46 [.pointer (some ⟨b0, 0, none⟩)] [imm I, pt b0 #[.pointer none, .slice p0 m0.buf_.length c0] 72, own (eInt .u8) 5 p0 c0 m0.buf_] (fun r H' => ∃ (pq1 : Option Addr), ∃ (cq2 : Nat), r = .tuple #[] ∧ H' = [imm I, pt b0 #[.pointer (some ⟨b0, 0, none⟩), .slice pq1 res.buf_.length cq2] 72, own (eInt .u8) 5 pq1 cq2 res.buf_]) := by
  unfold F.strings_Builder_copyCheck at hF
  obtain rfl := Option.some.inj hF
  exact tr_weak (tr_copy_fresh (fun w h0 h1 h2 => Any.Builder_copyCheck_fresh (ρ := Tryd.lays105_ren) { Tryd.lays105 with } { Tryd.Builder_Extra_105 with } b0 w h0 h1 h2)) (by rintro r H' ⟨rfl, rfl⟩; exact ⟨p0, c0, rfl, rfl⟩)


def F.strings_Builder_WriteString_1 (x1 : ByteArray) (m0 : strings_Builder) : Option (Int × strings_Builder) :=
  Option.bind (F.strings_Builder_copyCheck m0) (fun (r21 : strings_Builder) => chk (room (r21.buf_.length + (sbytes x1).length) 1) (some (((x1.size : Int), (⟨r21.buf_ ++ (sbytes x1)⟩ : strings_Builder)))))
set_option maxRecDepth 100000 in
set_option maxHeartbeats 4000000 in
theorem c_strings_Builder_WriteString_1 (I : Hl) (x1 : ByteArray) (m0 : strings_Builder) (p0 : Option Addr) (c0 : Nat) (b0 : Nat) (res : Int × strings_Builder) (hF : F.strings_Builder_WriteString_1 x1 m0 = some res) : Tr Tryd.prog 34 [.pointer (some ⟨b0, 0, none⟩), .string x1] [imm I, pt b0 #[.pointer none, .slice p0 m0.buf_.length c0] 72, own (eInt .u8) 5 p0 c0 m0.buf_] (fun r H' => ∃ (pq1 : Option Addr), ∃ (cq2 : Nat), r = .tuple #[.int .i64 res.1, .nilIface] ∧ H' = [imm I, pt b0 #[.pointer (some ⟨b0, 0, none⟩), .slice pq1 res.2.buf_.length cq2] 72, own (eInt .u8) 5 pq1 cq2 res.2.buf_]) := by
  unfold F.strings_Builder_WriteString_1 at hF
  refine tr_of_cw (fn := Tryd.f34) Tryd.func34 rfl (Nat.le_of_ble_eq_true rfl) 19 rfl fun F0 w0 => ?_
  refine cw_keep [0, 1] (L' := [(0, .pointer (some ⟨b0, 0, none⟩)), (1, .string x1)]) rfl ?_
  refine cw_state (S' := SAT w0 ([imm I, pt b0 #[.pointer none, .slice p0 m0.buf_.length c0] 72, own (eInt .u8) 5 p0 c0 m0.buf_] ++ F0)) (fun w hs => hs) ?_
  refine cw_seq ?_
  refine cw_region ?_
  refine ow_vals 2 (j := 2) [0, 1] [(0, .pointer (some ⟨b0, 0, none⟩)), (1, .string x1)] rfl (by kernel_rfl) ?_
  refine ow_end rfl ?_
  refine ew_then ?_
  refine cw_seq ?_
  refine cw_region ?_
  refine ow_vals 1 (j := 1) [0, 1, 6] [(0, .pointer (some ⟨b0, 0, none⟩)), (1, .string x1), (6, .pointer (some ⟨b0, 0, none⟩))] rfl (by kernel_rfl) ?_
  obtain ⟨r21, h22, hF⟩ := bind_some hF
  refine ow_pw rfl (pw_call (F := [] ++ F0) rfl rfl rfl rfl rfl rfl rfl (by kernel_rfl) (perm_of_pulls [0, 0, 0] rfl) (c_strings_Builder_copyCheck _ m0 p0 c0 b0 r21 h22) ?_)
  rintro _ _ ⟨r21_p1, r21_c2, rfl, rfl⟩
  refine nw_H (H' := [imm I, pt b0 #[.pointer (some ⟨b0, 0, none⟩), .slice r21_p1 r21.buf_.length r21_c2] 72, own (eInt .u8) 5 r21_p1 r21_c2 r21.buf_] ++ F0) rfl (nw_ow ?_)
  refine ow_end rfl ?_
  refine ew_then ?_
  refine cw_seq ?_
  refine cw_region ?_
  refine ow_vals 4 (j := 4) [1, 8, 11] [(1, .string x1), (8, .pointer (some ⟨b0, 0, none⟩)), (11, .pointer (some ⟨b0, 1, none⟩))] rfl (by kernel_rfl) ?_
  refine ow_pw rfl (pw_quiet (v := .slice r21_p1 r21.buf_.length r21_c2) rfl rfl rfl rfl (q_load 1 rfl rfl rfl (by kernel_rfl)) (nw_ow ?_))
  refine ow_vals 1 (j := 6) [1, 8, 12, 13] [(1, .string x1), (8, .pointer (some ⟨b0, 0, none⟩)), (12, .slice r21_p1 r21.buf_.length r21_c2), (13, .string x1)] rfl (by kernel_rfl) ?_
  obtain ⟨h24, hF⟩ := chk_some hF
  refine ow_pw rfl (pw_append 2 (l' := sbytes x1) rfl rfl rfl rfl rfl rfl (by kernel_rfl) (by kernel_rfl) rfl rfl rfl (src_strL (by kernel_rfl)) rfl h24.1 h24.2 fun p25 c26 => nw_H (H' := [imm I, pt b0 #[.pointer (some ⟨b0, 0, none⟩), .slice r21_p1 r21.buf_.length r21_c2] 72, own (eInt .u8) 5 p25 c26 (r21.buf_ ++ (sbytes x1))] ++ F0) rfl (nw_ow ?_))
  refine ow_vals 2 (j := 9) [1, 14, 16] [(1, .string x1), (14, .slice p25 (r21.buf_ ++ (sbytes x1)).length c26), (16, .pointer (some ⟨b0, 1, none⟩))] rfl (by kernel_rfl) ?_
  refine ow_pw rfl (pw_store 1 #[.pointer (some ⟨b0, 0, none⟩), .slice p25 (r21.buf_ ++ (sbytes x1)).length c26] rfl rfl rfl rfl rfl rfl rfl (by kernel_rfl) (nw_H (H' := [imm I, pt b0 #[.pointer (some ⟨b0, 0, none⟩), .slice p25 (r21.buf_ ++ (sbytes x1)).length c26] 72, own (eInt .u8) 5 p25 c26 (r21.buf_ ++ (sbytes x1))] ++ F0) rfl (nw_ow ?_)))
  refine ow_end rfl ?_
  refine ew_then ?_
  refine cw_seq ?_
  refine cw_region ?_
  refine ow_vals 4 (j := 4) [4, 5] [(4, .int .i64 (x1.size : Int)), (5, .nilIface)] rfl (by kernel_rfl) ?_
  refine ow_end rfl ?_
  refine ew_then ?_
  refine cw_ret ?_
  have hR := Option.some.inj hF
  subst hR
  exact fin2 (H1 := [imm I, pt b0 #[.pointer (some ⟨b0, 0, none⟩), .slice p25 ((⟨r21.buf_ ++ (sbytes x1)⟩ : strings_Builder).buf_).length c26] 72, own (eInt .u8) 5 p25 c26 ((⟨r21.buf_ ++ (sbytes x1)⟩ : strings_Builder).buf_)]) (fun w hs => sat_to [0, 0, 0] 0 rfl hs) rfl (rr_tmp rfl) (rr_tmp rfl) ⟨p25, c26, rfl, rfl⟩


def F.strings_Builder_copyCheck_1 (m0 : strings_Builder) : Option Unit :=
  some ()
theorem c_strings_Builder_copyCheck_1 (I : Hl) (m0 : strings_Builder) (p0 : Option Addr) (c0 : Nat) (b0 : Nat) (res : Unit) (hF : F.strings_Builder_copyCheck_1 m0 = some res) : Tr Tryd.prog 46 [.pointer (some ⟨b0, 0, none⟩)] [imm I, pt b0 #[.pointer (some ⟨b0, 0, none⟩), .slice p0 m0.buf_.length c0] 72, own (eInt .u8) 5 p0 c0 m0.buf_] (fun r H' => r = .tuple #[] ∧ H' = [imm I, pt b0 #[.pointer (some ⟨b0, 0, none⟩), .slice p0 m0.buf_.length c0] 72, own (eInt .u8) 5 p0 c0 m0.buf_]) := by
  unfold F.strings_Builder_copyCheck_1 at hF
  obtain rfl := Option.some.inj hF
  exact tr_weak (tr_copy_used (fun w h0 => Any.Builder_copyCheck_used (ρ := Tryd.lays105_ren) { Tryd.lays105 with } { Tryd.Builder_Extra_105 with } b0 w h0)) (by rintro r H' ⟨rfl, rfl⟩; exact ⟨rfl, rfl⟩)


def F.strings_Builder_WriteString_2 (x1 : ByteArray) (m0 : strings_Builder) : Option (Int × strings_Builder) :=
  Option.bind (F.strings_Builder_copyCheck_1 m0) (fun (r21 : Unit) => chk (room (m0.buf_.length + (sbytes x1).length) 1) (some (((x1.size : Int), (⟨m0.buf_ ++ (sbytes x1)⟩ : strings_Builder)))))
set_option maxRecDepth 100000 in
set_option maxHeartbeats 4000000 in
theorem c_strings_Builder_WriteString_2 (I : Hl) (x1 : ByteArray) (m0 : strings_Builder) (p0 : Option Addr) (c0 : Nat) (b0 : Nat) (res : Int × strings_Builder) (hF : F.strings_Builder_WriteString_2 x1 m0 = some res) : Tr Tryd.prog 34 [.pointer (some ⟨b0, 0, none⟩), .string x1] [imm I, pt b0 #[.pointer (some ⟨b0, 0, none⟩), .slice p0 m0.buf_.length c0] 72, own (eInt .u8) 5 p0 c0 m0.buf_] (fun r H' => ∃ (pq1 : Option Addr), ∃ (cq2 : Nat), r = .tuple #[.int .i64 res.1, .nilIface] ∧ H' = [imm I, pt b0 #[.pointer (some ⟨b0, 0, none⟩), .slice pq1 res.2.buf_.length cq2] 72, own (eInt .u8) 5 pq1 cq2 res.2.buf_]) := by
  unfold F.strings_Builder_WriteString_2 at hF
  refine tr_of_cw (fn := Tryd.f34) Tryd.func34 rfl (Nat.le_of_ble_eq_true rfl) 19 rfl fun F0 w0 => ?_
  refine cw_keep [0, 1] (L' := [(0, .pointer (some ⟨b0, 0, none⟩)), (1, .string x1)]) rfl ?_
  refine cw_state (S' := SAT w0 ([imm I, pt b0 #[.pointer (some ⟨b0, 0, none⟩), .slice p0 m0.buf_.length c0] 72, own (eInt .u8) 5 p0 c0 m0.buf_] ++ F0)) (fun w hs => hs) ?_
  refine cw_seq ?_
  refine cw_region ?_
  refine ow_vals 2 (j := 2) [0, 1] [(0, .pointer (some ⟨b0, 0, none⟩)), (1, .string x1)] rfl (by kernel_rfl) ?_
  refine ow_end rfl ?_
  refine ew_then ?_
  refine cw_seq ?_
  refine cw_region ?_
  refine ow_vals 1 (j := 1) [0, 1, 6] [(0, .pointer (some ⟨b0, 0, none⟩)), (1, .string x1), (6, .pointer (some ⟨b0, 0, none⟩))] rfl (by kernel_rfl) ?_
  obtain ⟨r21, h22, hF⟩ := bind_some hF
  refine ow_pw rfl (pw_call (F := [] ++ F0) rfl rfl rfl rfl rfl rfl rfl (by kernel_rfl) (perm_of_pulls [0, 0, 0] rfl) (c_strings_Builder_copyCheck_1 _ m0 p0 c0 b0 r21 h22) ?_)
  rintro _ _ ⟨rfl, rfl⟩
  refine nw_H (H' := [imm I, pt b0 #[.pointer (some ⟨b0, 0, none⟩), .slice p0 m0.buf_.length c0] 72, own (eInt .u8) 5 p0 c0 m0.buf_] ++ F0) rfl (nw_ow ?_)
  refine ow_end rfl ?_
  refine ew_then ?_
  refine cw_seq ?_
  refine cw_region ?_
  refine ow_vals 4 (j := 4) [1, 8, 11] [(1, .string x1), (8, .pointer (some ⟨b0, 0, none⟩)), (11, .pointer (some ⟨b0, 1, none⟩))] rfl (by kernel_rfl) ?_
  refine ow_pw rfl (pw_quiet (v := .slice p0 m0.buf_.length c0) rfl rfl rfl rfl (q_load 1 rfl rfl rfl (by kernel_rfl)) (nw_ow ?_))
  refine ow_vals 1 (j := 6) [1, 8, 12, 13] [(1, .string x1), (8, .pointer (some ⟨b0, 0, none⟩)), (12, .slice p0 m0.buf_.length c0), (13, .string x1)] rfl (by kernel_rfl) ?_
  obtain ⟨h23, hF⟩ := chk_some hF
  refine ow_pw rfl (pw_append 2 (l' := sbytes x1) rfl rfl rfl rfl rfl rfl (by kernel_rfl) (by kernel_rfl) rfl rfl rfl (src_strL (by kernel_rfl)) rfl h23.1 h23.2 fun p24 c25 => nw_H (H' := [imm I, pt b0 #[.pointer (some ⟨b0, 0, none⟩), .slice p0 m0.buf_.length c0] 72, own (eInt .u8) 5 p24 c25 (m0.buf_ ++ (sbytes x1))] ++ F0) rfl (nw_ow ?_))
  refine ow_vals 2 (j := 9) [1, 14, 16] [(1, .string x1), (14, .slice p24 (m0.buf_ ++ (sbytes x1)).length c25), (16, .pointer (some ⟨b0, 1, none⟩))] rfl (by kernel_rfl) ?_
  refine ow_pw rfl (pw_store 1 #[.pointer (some ⟨b0, 0, none⟩), .slice p24 (m0.buf_ ++ (sbytes x1)).length c25] rfl rfl rfl rfl rfl rfl rfl (by kernel_rfl) (nw_H (H' := [imm I, pt b0 #[.pointer (some ⟨b0, 0, none⟩), .slice p24 (m0.buf_ ++ (sbytes x1)).length c25] 72, own (eInt .u8) 5 p24 c25 (m0.buf_ ++ (sbytes x1))] ++ F0) rfl (nw_ow ?_)))
  refine ow_end rfl ?_
  refine ew_then ?_
  refine cw_seq ?_
  refine cw_region ?_
  refine ow_vals 4 (j := 4) [4, 5] [(4, .int .i64 (x1.size : Int)), (5, .nilIface)] rfl (by kernel_rfl) ?_
  refine ow_end rfl ?_
  refine ew_then ?_
  refine cw_ret ?_
  have hR := Option.some.inj hF
  subst hR
  exact fin2 (H1 := [imm I, pt b0 #[.pointer (some ⟨b0, 0, none⟩), .slice p24 ((⟨m0.buf_ ++ (sbytes x1)⟩ : strings_Builder).buf_).length c25] 72, own (eInt .u8) 5 p24 c25 ((⟨m0.buf_ ++ (sbytes x1)⟩ : strings_Builder).buf_)]) (fun w hs => sat_to [0, 0, 0] 0 rfl hs) rfl (rr_tmp rfl) (rr_tmp rfl) ⟨p24, c25, rfl, rfl⟩


def F.strings_Builder_WriteString (x1 : ByteArray) (m0 : ByteArray) : Option (Int × ByteArray) :=
  chk (room (m0.size + x1.size) 1) (some ((x1.size : Int), (m0 ++ x1)))
theorem c_strings_Builder_WriteString (I : Hl) (x1 : ByteArray) (m0 : ByteArray) (b0 : Nat) (res : Int × ByteArray) (hF : F.strings_Builder_WriteString x1 m0 = some res) : Tr Tryd.prog 34 [.pointer (some ⟨b0, 0, none⟩), .string x1] [imm I, bld 72 5 b0 m0] (fun r H' => r = .tuple #[.int .i64 res.1, .nilIface] ∧ H' = [imm I, bld 72 5 b0 res.2]) := by
  unfold F.strings_Builder_WriteString at hF
  obtain ⟨hc, hF⟩ := chk_some hF
  obtain rfl := Option.some.inj hF
  intro G0 w hs
  obtain ⟨ad, p, c, ha, hs⟩ := sat_bld hs
  have e1 : F.strings_Builder_WriteString_1 x1 ⟨sbytes m0⟩ = some ((x1.size : Int), ⟨sbytes (m0 ++ x1)⟩) := by
    unfold F.strings_Builder_WriteString_1; simp only [F.strings_Builder_copyCheck, F.strings_Builder_copyCheck_1, Option.bind_some]; rw [chk_pos (by simpa [sbytes_length] using hc), sbytes_append]
  have e2 : F.strings_Builder_WriteString_2 x1 ⟨sbytes m0⟩ = some ((x1.size : Int), ⟨sbytes (m0 ++ x1)⟩) := by
    unfold F.strings_Builder_WriteString_2; simp only [F.strings_Builder_copyCheck, F.strings_Builder_copyCheck_1, Option.bind_some]; rw [chk_pos (by simpa [sbytes_length] using hc), sbytes_append]
  rcases ha with rfl | rfl
  · refine (c_strings_Builder_WriteString_1 I x1 ⟨sbytes m0⟩ p c b0 _ e1 G0 w hs).mono ?_
    rintro e w' ⟨r, H', rfl, ⟨p2, c2, rfl, rfl⟩, hs2, hk⟩
    exact ⟨_, _, rfl, ⟨rfl, rfl⟩, bld_sat (.inr rfl) hs2, hk⟩
  · refine (c_strings_Builder_WriteString_2 I x1 ⟨sbytes m0⟩ p c b0 _ e2 G0 w hs).mono ?_
    rintro e w' ⟨r, H', rfl, ⟨p2, c2, rfl, rfl⟩, hs2, hk⟩
    exact ⟨_, _, rfl, ⟨rfl, rfl⟩, bld_sat (.inr rfl) hs2, hk⟩


def F.strings_Builder_String_1 (m0 : strings_Builder) : Option ByteArray :=
  chk (m0.buf_ = sbytes (bstr m0.buf_)) (some ((bstr m0.buf_)))
set_option maxRecDepth 100000 in
set_option maxHeartbeats 4000000 in
theorem c_strings_Builder_String_1 (I : Hl) (m0 : strings_Builder) (p0 : Option Addr) (c0 : Nat) (b0 : Nat) (res : ByteArray) (hF : F.strings_Builder_String_1 m0 = some res) : Tr Tryd.prog 35 [.pointer (some ⟨b0, 0, none⟩)] [imm I, pt b0 #[.pointer none, .slice p0 m0.buf_.length c0] 72, own (eInt .u8) 5 p0 c0 m0.buf_] (fun r H' => r = .string res ∧ H' = [imm I]) := by
  unfold F.strings_Builder_String_1 at hF
  refine tr_of_cw (fn := Tryd.f35) Tryd.func35 rfl (Nat.le_of_ble_eq_true rfl) 14 rfl fun F0 w0 => ?_
  refine cw_keep [0] (L' := [(0, .pointer (some ⟨b0, 0, none⟩))]) rfl ?_
  refine cw_state (S' := SAT w0 ([imm I, pt b0 #[.pointer none, .slice p0 m0.buf_.length c0] 72, own (eInt .u8) 5 p0 c0 m0.buf_] ++ F0)) (fun w hs => hs) ?_
  refine cw_seq ?_
  refine cw_region ?_
  refine ow_vals 1 (j := 1) [0] [(0, .pointer (some ⟨b0, 0, none⟩))] rfl (by kernel_rfl) ?_
  refine ow_end rfl ?_
  refine ew_then ?_
  refine cw_seq ?_
  refine cw_open 10 (SAT w0 ([imm I, pt b0 #[.pointer none, .slice p0 m0.buf_.length c0] 72, own (eInt .u8) 5 p0 c0 m0.buf_])) (by kernel_rfl) (f := 12) rfl (fun w hs => sat_drew hs) ?_
  refine aw_vals [0, 1, 2, 5, 6, 7] (f' := 6) (m' := 231) [5, 10] [(5, .pointer (some ⟨b0, 1, none⟩)), (10, .pointer (some ⟨b0, 1, none⟩))] (fun _ _ _ _ _ h => calm_fin (P := Tryd.prog) (fn := Tryd.f35) _ _ _ _ _ h) (fun w hs => sat_pulls [0, 0, 0] (G := [] ++ F0) rfl hs) rfl (by kernel_rfl) ?_
  refine aw_quiet 3 (m' := 239) (v := .slice p0 m0.buf_.length c0) 4 [3] rfl rfl rfl rfl (by kernel_rfl) (by kernel_rfl) (by kernel_rfl) (fun _ _ _ _ _ h => calm_fin (P := Tryd.prog) (fn := Tryd.f35) _ _ _ _ _ h) (fun w hs => sat_pulls [0, 0, 0] (G := [] ++ F0) rfl hs) (q_load 1 rfl rfl rfl (by kernel_rfl)) ?_
  refine aw_quiet 8 (m' := 495) (v := .slice p0 m0.buf_.length c0) 9 [8] rfl rfl rfl rfl (by kernel_rfl) (by kernel_rfl) (by kernel_rfl) (fun _ _ _ _ _ h => calm_fin (P := Tryd.prog) (fn := Tryd.f35) _ _ _ _ _ h) (fun w hs => sat_pulls [0, 0, 0] (G := [] ++ F0) rfl hs) (q_load 1 rfl rfl rfl (by kernel_rfl)) ?_
  refine aw_vals [9] (f' := 3) (m' := 1007) [6, 12] [(6, .slice p0 m0.buf_.length c0), (12, .int .i64 (m0.buf_.length : Int))] (fun _ _ _ _ _ h => calm_fin (P := Tryd.prog) (fn := Tryd.f35) _ _ _ _ _ h) (fun w hs => sat_pulls [0, 0, 0] (G := [] ++ F0) rfl hs) rfl (by kernel_rfl) ?_
  refine aw_only 4 (m' := 1023) (by kernel_rfl) (by kernel_rfl) (pw_sliceData 2 rfl rfl rfl rfl rfl rfl rfl (by kernel_rfl) rfl fun q21 h22 => aw_next (fun w hs => sat_pulls [0, 0, 0] (G := [] ++ F0) rfl hs) ?_)
  obtain ⟨h23, hF⟩ := chk_some hF
  refine aw_only 10 (m' := 2047) (by kernel_rfl) (by kernel_rfl) (pw_uString 2 h23 h22 rfl rfl rfl rfl (by kernel_rfl) rfl rfl (by kernel_rfl) rfl rfl (nw_H (H' := [imm I, pt b0 #[.pointer none, .slice p0 m0.buf_.length c0] 72, emp] ++ F0) rfl (aw_last (by kernel_rfl) ?_)))
  refine aw_past (by kernel_rfl) ?_
  refine aw_vals [11] (f' := 0) (m' := 4095) [2] [(2, .string (bstr m0.buf_))] (fun _ _ _ _ _ h => calm_fin (P := Tryd.prog) (fn := Tryd.f35) _ _ _ _ _ h) (fun _ _ => trivial) rfl (by kernel_rfl) ?_
  refine aw_keep [2] (L' := [(2, .string (bstr m0.buf_))]) rfl ?_
  refine aw_end (by kernel_rfl) ?_
  refine ew_then ?_
  refine cw_ret ?_
  have hR := Option.some.inj hF
  subst hR
  exact fin1 (H1 := [imm I]) (fun w hs => sat_to [1, 1, 0] 2 rfl hs) rfl (rr_tmp rfl) ⟨rfl, rfl⟩


def F.strings_Builder_String_2 (m0 : strings_Builder) : Option ByteArray :=
  chk (m0.buf_ = sbytes (bstr m0.buf_)) (some ((bstr m0.buf_)))
set_option maxRecDepth 100000 in
set_option maxHeartbeats 4000000 in
theorem c_strings_Builder_String_2 (I : Hl) (m0 : strings_Builder) (p0 : Option Addr) (c0 : Nat) (b0 : Nat) (res : ByteArray) (hF : F.strings_Builder_String_2 m0 = some res) : Tr Tryd.prog 35 [.pointer (some ⟨b0, 0, none⟩)] [imm I, pt b0 #[.pointer (some ⟨b0, 0, none⟩), .slice p0 m0.buf_.length c0] 72, own (eInt .u8) 5 p0 c0 m0.buf_] (fun r H' => r = .string res ∧ H' = [imm I]) := by
  unfold F.strings_Builder_String_2 at hF
  refine tr_of_cw (fn := Tryd.f35) Tryd.func35 rfl (Nat.le_of_ble_eq_true rfl) 14 rfl fun F0 w0 => ?_
  refine cw_keep [0] (L' := [(0, .pointer (some ⟨b0, 0, none⟩))]) rfl ?_
  refine cw_state (S' := SAT w0 ([imm I, pt b0 #[.pointer (some ⟨b0, 0, none⟩), .slice p0 m0.buf_.length c0] 72, own (eInt .u8) 5 p0 c0 m0.buf_] ++ F0)) (fun w hs => hs) ?_
  refine cw_seq ?_
  refine cw_region ?_
  refine ow_vals 1 (j := 1) [0] [(0, .pointer (some ⟨b0, 0, none⟩))] rfl (by kernel_rfl) ?_
  refine ow_end rfl ?_
  refine ew_then ?_
  refine cw_seq ?_
  refine cw_open 10 (SAT w0 ([imm I, pt b0 #[.pointer (some ⟨b0, 0, none⟩), .slice p0 m0.buf_.length c0] 72, own (eInt .u8) 5 p0 c0 m0.buf_])) (by kernel_rfl) (f := 12) rfl (fun w hs => sat_drew hs) ?_
  refine aw_vals [0, 1, 2, 5, 6, 7] (f' := 6) (m' := 231) [5, 10] [(5, .pointer (some ⟨b0, 1, none⟩)), (10, .pointer (some ⟨b0, 1, none⟩))] (fun _ _ _ _ _ h => calm_fin (P := Tryd.prog) (fn := Tryd.f35) _ _ _ _ _ h) (fun w hs => sat_pulls [0, 0, 0] (G := [] ++ F0) rfl hs) rfl (by kernel_rfl) ?_
  refine aw_quiet 3 (m' := 239) (v := .slice p0 m0.buf_.length c0) 4 [3] rfl rfl rfl rfl (by kernel_rfl) (by kernel_rfl) (by kernel_rfl) (fun _ _ _ _ _ h => calm_fin (P := Tryd.prog) (fn := Tryd.f35) _ _ _ _ _ h) (fun w hs => sat_pulls [0, 0, 0] (G := [] ++ F0) rfl hs) (q_load 1 rfl rfl rfl (by kernel_rfl)) ?_
  refine aw_quiet 8 (m' := 495) (v := .slice p0 m0.buf_.length c0) 9 [8] rfl rfl rfl rfl (by kernel_rfl) (by kernel_rfl) (by kernel_rfl) (fun _ _ _ _ _ h => calm_fin (P := Tryd.prog) (fn := Tryd.f35) _ _ _ _ _ h) (fun w hs => sat_pulls [0, 0, 0] (G := [] ++ F0) rfl hs) (q_load 1 rfl rfl rfl (by kernel_rfl)) ?_
  refine aw_vals [9] (f' := 3) (m' := 1007) [6, 12] [(6, .slice p0 m0.buf_.length c0), (12, .int .i64 (m0.buf_.length : Int))] (fun _ _ _ _ _ h => calm_fin (P := Tryd.prog) (fn := Tryd.f35) _ _ _ _ _ h) (fun w hs => sat_pulls [0, 0, 0] (G := [] ++ F0) rfl hs) rfl (by kernel_rfl) ?_
  refine aw_only 4 (m' := 1023) (by kernel_rfl) (by kernel_rfl) (pw_sliceData 2 rfl rfl rfl rfl rfl rfl rfl (by kernel_rfl) rfl fun q21 h22 => aw_next (fun w hs => sat_pulls [0, 0, 0] (G := [] ++ F0) rfl hs) ?_)
  obtain ⟨h23, hF⟩ := chk_some hF
  refine aw_only 10 (m' := 2047) (by kernel_rfl) (by kernel_rfl) (pw_uString 2 h23 h22 rfl rfl rfl rfl (by kernel_rfl) rfl rfl (by kernel_rfl) rfl rfl (nw_H (H' := [imm I, pt b0 #[.pointer (some ⟨b0, 0, none⟩), .slice p0 m0.buf_.length c0] 72, emp] ++ F0) rfl (aw_last (by kernel_rfl) ?_)))
  refine aw_past (by kernel_rfl) ?_
  refine aw_vals [11] (f' := 0) (m' := 4095) [2] [(2, .string (bstr m0.buf_))] (fun _ _ _ _ _ h => calm_fin (P := Tryd.prog) (fn := Tryd.f35) _ _ _ _ _ h) (fun _ _ => trivial) rfl (by kernel_rfl) ?_
  refine aw_keep [2] (L' := [(2, .string (bstr m0.buf_))]) rfl ?_
  refine aw_end (by kernel_rfl) ?_
  refine ew_then ?_
  refine cw_ret ?_
  have hR := Option.some.inj hF
  subst hR
  exact fin1 (H1 := [imm I]) (fun w hs => sat_to [1, 1, 0] 2 rfl hs) rfl (rr_tmp rfl) ⟨rfl, rfl⟩


def F.strings_Builder_String (m0 : ByteArray) : Option ByteArray :=
  some m0
theorem c_strings_Builder_String (I : Hl) (m0 : ByteArray) (b0 : Nat) (res : ByteArray) (hF : F.strings_Builder_String m0 = some res) : Tr Tryd.prog 35 [.pointer (some ⟨b0, 0, none⟩)] [imm I, bld 72 5 b0 m0] (fun r H' => r = .string res ∧ H' = [imm I]) := by
  unfold F.strings_Builder_String at hF
  obtain rfl := Option.some.inj hF
  intro G0 w hs
  obtain ⟨ad, p, c, ha, hs⟩ := sat_bld hs
  have e1 : F.strings_Builder_String_1 ⟨sbytes m0⟩ = some m0 := by unfold F.strings_Builder_String_1; rw [chk_pos (by rw [bstr_sbytes]), bstr_sbytes]
  have e2 : F.strings_Builder_String_2 ⟨sbytes m0⟩ = some m0 := by unfold F.strings_Builder_String_2; rw [chk_pos (by rw [bstr_sbytes]), bstr_sbytes]
  rcases ha with rfl | rfl
  · refine (c_strings_Builder_String_1 I ⟨sbytes m0⟩ p c b0 _ e1 G0 w hs).mono ?_
    rintro e w' ⟨r, H', rfl, ⟨rfl, rfl⟩, hs2, hk⟩
    exact ⟨_, _, rfl, ⟨rfl, rfl⟩, hs2, hk⟩
  · refine (c_strings_Builder_String_2 I ⟨sbytes m0⟩ p c b0 _ e2 G0 w hs).mono ?_
    rintro e w' ⟨r, H', rfl, ⟨rfl, rfl⟩, hs2, hk⟩
    exact ⟨_, _, rfl, ⟨rfl, rfl⟩, hs2, hk⟩


def F.disk_Disk_Image.l1 (m0 : disk_Disk) (x28 : Int) (m29 : ByteArray) : Option ((Int × ByteArray) ⊕ (ByteArray)) :=
  if decide (x28 < (m0.sure_.length : Int)) then (Option.bind (at_ m0.sure_ x28) (fun (y31 : disk_sector) => Option.bind (F.strings_Builder_WriteString y31.s_ m29) (fun (r35 : Int × ByteArray) => some (.inl (IntKind.i64.wrap (x28 + 1), r35.2))))) else (some (.inr (m29)))
def F.disk_Disk_Image.r2 (m37 : ByteArray) : Option (ByteArray) :=
  Option.bind (F.strings_Builder_String m37) (fun (r38 : ByteArray) => some (r38))
def F.disk_Disk_Image (m0 : disk_Disk) : Option ByteArray :=
  Option.bind (F.disk_Disk_Size m0) (fun (r21 : Int) => if r21 == 0 then (some ((ByteArray.mk #[]))) else (Option.bind (iter (fun x => F.disk_Disk_Image.l1 m0 x.1 x.2) FUEL (0, ByteArray.empty)) (fun x => F.disk_Disk_Image.r2 x)))
set_option maxRecDepth 100000 in
set_option maxHeartbeats 4000000 in
theorem c_disk_Disk_Image (I : Hl) (m0 : disk_Disk) (p0 : Option Addr) (c0 : Nat) (p1 : Nat) (b0 : Nat) (res : ByteArray) (hF : F.disk_Disk_Image m0 = some res) : Tr Tryd.prog 17 [.pointer (some ⟨b0, 0, none⟩)] [imm I, pt b0 #[.slice p0 m0.sure_.length c0, .map (some p1), .bool m0.off_, .bool m0.armed_, .int .i64 m0.left_, .int .u64 m0.fall_.Keep, .int .i64 m0.fall_.Tear, .int .i64 m0.acts_, .int .i64 m0.falls_] 60, own e_disk_sector 62 p0 c0 m0.sure_, mpo (kInt .i64) (fun x : disk_sector => Value.agg #[.string x.s_, .int .i64 x.at_]) p1 m0.wait_] (fun r H' => r = .string res ∧ H' = [imm I, pt b0 #[.slice p0 m0.sure_.length c0, .map (some p1), .bool m0.off_, .bool m0.armed_, .int .i64 m0.left_, .int .u64 m0.fall_.Keep, .int .i64 m0.fall_.Tear, .int .i64 m0.acts_, .int .i64 m0.falls_] 60, own e_disk_sector 62 p0 c0 m0.sure_, mpo (kInt .i64) (fun x : disk_sector => Value.agg #[.string x.s_, .int .i64 x.at_]) p1 m0.wait_]) := by
  unfold F.disk_Disk_Image at hF
  refine tr_of_cw (fn := Tryd.f17) Tryd.func17 rfl (Nat.le_of_ble_eq_true rfl) 23 rfl fun F0 w0 => ?_
  refine cw_keep [0] (L' := [(0, .pointer (some ⟨b0, 0, none⟩))]) rfl ?_
  refine cw_state (S' := SAT w0 ([imm I, pt b0 #[.slice p0 m0.sure_.length c0, .map (some p1), .bool m0.off_, .bool m0.armed_, .int .i64 m0.left_, .int .u64 m0.fall_.Keep, .int .i64 m0.fall_.Tear, .int .i64 m0.acts_, .int .i64 m0.falls_] 60, own e_disk_sector 62 p0 c0 m0.sure_, mpo (kInt .i64) (fun x : disk_sector => Value.agg #[.string x.s_, .int .i64 x.at_]) p1 m0.wait_] ++ F0)) (fun w hs => hs) ?_
  refine cw_seq ?_
  refine cw_region ?_
  refine ow_vals 1 (j := 1) [0] [(0, .pointer (some ⟨b0, 0, none⟩))] rfl (by kernel_rfl) ?_
  refine ow_end rfl ?_
  refine ew_then ?_
  refine cw_seq ?_
  refine cw_seq ?_
  refine cw_region ?_
  refine ow_vals 1 (j := 1) [0, 6] [(0, .pointer (some ⟨b0, 0, none⟩)), (6, .pointer (some ⟨b0, 0, none⟩))] rfl (by kernel_rfl) ?_
  obtain ⟨r21, h22, hF⟩ := bind_some hF
  refine ow_pw rfl (pw_call (F := [] ++ F0) rfl rfl rfl rfl rfl rfl rfl (by kernel_rfl) (perm_of_pulls [0, 0, 0, 0] rfl) (c_disk_Disk_Size _ m0 p0 c0 p1 b0 r21 h22) ?_)
  rintro _ _ ⟨rfl, rfl⟩
  refine nw_H (H' := [imm I, pt b0 #[.slice p0 m0.sure_.length c0, .map (some p1), .bool m0.off_, .bool m0.armed_, .int .i64 m0.left_, .int .u64 m0.fall_.Keep, .int .i64 m0.fall_.Tear, .int .i64 m0.acts_, .int .i64 m0.falls_] 60, own e_disk_sector 62 p0 c0 m0.sure_, mpo (kInt .i64) (fun x : disk_sector => Value.agg #[.string x.s_, .int .i64 x.at_]) p1 m0.wait_] ++ F0) rfl (nw_ow ?_)
  refine ow_vals 1 (j := 3) [0, 8] [(0, .pointer (some ⟨b0, 0, none⟩)), (8, .bool (r21 == 0))] rfl (by kernel_rfl) ?_
  refine ow_end rfl ?_
  refine ew_then ?_
  rcases if_some hF with ⟨h23, hF⟩ | ⟨h23, hF⟩
  · refine cw_cond_t rfl rfl h23 ?_
    refine cw_seq ?_
    refine cw_region ?_
    refine ow_vals 1 (j := 1) [2] [(2, .string (ByteArray.mk #[]))] rfl (by kernel_rfl) ?_
    refine ow_end rfl ?_
    refine ew_then ?_
    refine cw_ret ?_
    refine ew_then_ret ?_
    have hR := Option.some.inj hF
    subst hR
    exact fin1 (H1 := [imm I, pt b0 #[.slice p0 m0.sure_.length c0, .map (some p1), .bool m0.off_, .bool m0.armed_, .int .i64 m0.left_, .int .u64 m0.fall_.Keep, .int .i64 m0.fall_.Tear, .int .i64 m0.acts_, .int .i64 m0.falls_] 60, own e_disk_sector 62 p0 c0 m0.sure_, mpo (kInt .i64) (fun x : disk_sector => Value.agg #[.string x.s_, .int .i64 x.at_]) p1 m0.wait_]) (fun w hs => sat_to [0, 0, 0, 0] 0 rfl hs) rfl (rr_tmp rfl) ⟨rfl, rfl⟩
  · refine cw_cond_f rfl rfl h23 ?_
    refine cw_skip ?_
    refine ew_then ?_
    refine cw_seq ?_
    refine cw_region ?_
    refine ow_pw rfl (pw_alloc (cs := #[.pointer none, .slice none 0 0]) rfl rfl rfl rfl rfl (by kernel_rfl) fun b24 => nw_state (S' := SAT w0 ([bld 72 5 b24 ByteArray.empty, imm I, pt b0 #[.slice p0 m0.sure_.length c0, .map (some p1), .bool m0.off_, .bool m0.armed_, .int .i64 m0.left_, .int .u64 m0.fall_.Keep, .int .i64 m0.fall_.Tear, .int .i64 m0.acts_, .int .i64 m0.falls_] 60, own e_disk_sector 62 p0 c0 m0.sure_, mpo (kInt .i64) (fun x : disk_sector => Value.agg #[.string x.s_, .int .i64 x.at_]) p1 m0.wait_] ++ F0)) (fun w hs => bld_new hs) (nw_ow ?_))
    refine ow_end rfl ?_
    refine ew_then ?_
    obtain ⟨v26, hF, hK26⟩ := bind_some hF
    refine cw_mid (fun a w => ∃ (m37 : ByteArray), m37 = v26 ∧ Fr 23 [(3, .pointer (some ⟨b24, 0, none⟩))] a ∧ SAT w0 ([imm I, bld 72 5 b24 m37, pt b0 #[.slice p0 m0.sure_.length c0, .map (some p1), .bool m0.off_, .bool m0.armed_, .int .i64 m0.left_, .int .u64 m0.fall_.Keep, .int .i64 m0.fall_.Tear, .int .i64 m0.acts_, .int .i64 m0.falls_] 60, own e_disk_sector 62 p0 c0 m0.sure_, mpo (kInt .i64) (fun x : disk_sector => Value.agg #[.string x.s_, .int .i64 x.at_]) p1 m0.wait_] ++ F0) w) ?_ ?_
    · refine cw_seq ?_
      refine cw_region ?_
      refine ow_vals 3 (j := 3) [3, 11] [(3, .pointer (some ⟨b24, 0, none⟩)), (11, .pointer (some ⟨b0, 0, none⟩))] rfl (by kernel_rfl) ?_
      refine ow_pw rfl (pw_quiet (v := .slice p0 m0.sure_.length c0) rfl rfl rfl rfl (q_load 2 rfl rfl rfl (by kernel_rfl)) (nw_ow ?_))
      refine ow_vals 2 (j := 6) [3, 12, 13, 14] [(3, .pointer (some ⟨b24, 0, none⟩)), (12, .slice p0 m0.sure_.length c0), (13, .int .i64 (m0.sure_.length : Int)), (14, .int .i64 0)] rfl (by kernel_rfl) ?_
      refine ow_end rfl ?_
      refine ew_then ?_
      refine cw_block ?_
      refine fun a w hf hs => wp_rounds (fun k a w => ∃ (x28 : Int), ∃ (m29 : ByteArray), iter (fun x => F.disk_Disk_Image.l1 m0 x.1 x.2) k (x28, m29) = some v26 ∧ Fr 23 [(3, .pointer (some ⟨b24, 0, none⟩)), (12, .slice p0 m0.sure_.length c0), (13, .int .i64 (m0.sure_.length : Int)), (14, .int .i64 x28)] a ∧ SAT w0 ([imm I, bld 72 5 b24 m29, pt b0 #[.slice p0 m0.sure_.length c0, .map (some p1), .bool m0.off_, .bool m0.armed_, .int .i64 m0.left_, .int .u64 m0.fall_.Keep, .int .i64 m0.fall_.Tear, .int .i64 m0.acts_, .int .i64 m0.falls_] 60, own e_disk_sector 62 p0 c0 m0.sure_, mpo (kInt .i64) (fun x : disk_sector => Value.agg #[.string x.s_, .int .i64 x.at_]) p1 m0.wait_] ++ F0) w) ?_ FUEL a w ⟨0, ByteArray.empty, hF, hf.keep [3, 12, 13, 14], sat_to [1, 0, 0, 0, 0] 0 rfl hs⟩
      clear hf hs
      clear a w hF
      rintro k a w ⟨x28, m29, hF2, hf, hs⟩
      obtain ⟨k, r27, rfl, hF, hL27⟩ := iter_some hF2
      clear hF2
      revert a w
      show CW _ _ _ 23 [(3, .pointer (some ⟨b24, 0, none⟩)), (12, .slice p0 m0.sure_.length c0), (13, .int .i64 (m0.sure_.length : Int)), (14, .int .i64 x28)] (SAT w0 ([imm I, bld 72 5 b24 m29, pt b0 #[.slice p0 m0.sure_.length c0, .map (some p1), .bool m0.off_, .bool m0.armed_, .int .i64 m0.left_, .int .u64 m0.fall_.Keep, .int .i64 m0.fall_.Tear, .int .i64 m0.acts_, .int .i64 m0.falls_] 60, own e_disk_sector 62 p0 c0 m0.sure_, mpo (kInt .i64) (fun x : disk_sector => Value.agg #[.string x.s_, .int .i64 x.at_]) p1 m0.wait_] ++ F0))
      try dsimp only at hF
      unfold F.disk_Disk_Image.l1 at hF
      refine cw_seq ?_
      refine cw_region ?_
      refine ow_vals 1 (j := 1) [3, 12, 13, 14, 15] [(3, .pointer (some ⟨b24, 0, none⟩)), (12, .slice p0 m0.sure_.length c0), (13, .int .i64 (m0.sure_.length : Int)), (14, .int .i64 x28), (15, .bool (decide (x28 < (m0.sure_.length : Int))))] rfl (by kernel_rfl) ?_
      refine ow_end rfl ?_
      refine ew_then ?_
      refine cw_seq ?_
      rcases if_some hF with ⟨h30, hF⟩ | ⟨h30, hF⟩
      · refine cw_cond_t rfl rfl h30 ?_
        refine cw_skip ?_
        refine ew_then ?_
        refine cw_seq ?_
        refine cw_block ?_
        refine cw_seq ?_
        refine cw_region ?_
        obtain ⟨y31, h32, hF⟩ := bind_some hF
        refine ow_pw rfl (pw_quiet (v := .pointer (some ((base p0).add (x28.toNat * 2)))) rfl rfl rfl rfl (q_index_own 3 2 rfl rfl (by kernel_rfl) rfl rfl (at_some h32).1 (at_lt h32)) (nw_ow ?_))
        refine ow_pw rfl (pw_quiet (v := .agg #[.string y31.s_, .int .i64 y31.at_]) rfl rfl rfl rfl (q_load_own0 3 2 rfl rfl rfl rfl (at_some h32).2 (by kernel_rfl)) (nw_ow ?_))
        refine ow_pw rfl (pw_alloc (cs := #[.string (ByteArray.mk #[]), .int .i64 0]) rfl rfl rfl rfl rfl (by kernel_rfl) fun b33 => nw_ow ?_)
        refine ow_pw rfl (pw_store 0 #[.string y31.s_, .int .i64 y31.at_] rfl rfl rfl rfl rfl rfl rfl (by kernel_rfl) (nw_H (H' := [pt b33 #[.string y31.s_, .int .i64 y31.at_] 62, imm I, bld 72 5 b24 m29, pt b0 #[.slice p0 m0.sure_.length c0, .map (some p1), .bool m0.off_, .bool m0.armed_, .int .i64 m0.left_, .int .u64 m0.fall_.Keep, .int .i64 m0.fall_.Tear, .int .i64 m0.acts_, .int .i64 m0.falls_] 60, own e_disk_sector 62 p0 c0 m0.sure_, mpo (kInt .i64) (fun x : disk_sector => Value.agg #[.string x.s_, .int .i64 x.at_]) p1 m0.wait_] ++ F0) rfl (nw_ow ?_)))
        refine ow_end rfl ?_
        refine ew_then ?_
        refine cw_region ?_
        refine ow_vals 1 (j := 1) [3, 12, 13, 14, 18] [(3, .pointer (some ⟨b24, 0, none⟩)), (12, .slice p0 m0.sure_.length c0), (13, .int .i64 (m0.sure_.length : Int)), (14, .int .i64 x28), (18, .pointer (some ⟨b33, 0, none⟩))] rfl (by kernel_rfl) ?_
        refine ow_pw rfl (pw_quiet (v := .string y31.s_) rfl rfl rfl rfl (q_load 0 rfl rfl rfl (by kernel_rfl)) (nw_ow ?_))
        obtain ⟨r35, h36, hF⟩ := bind_some hF
        refine ow_pw rfl (pw_call (F := [pt b33 #[.string y31.s_, .int .i64 y31.at_] 62, pt b0 #[.slice p0 m0.sure_.length c0, .map (some p1), .bool m0.off_, .bool m0.armed_, .int .i64 m0.left_, .int .u64 m0.fall_.Keep, .int .i64 m0.fall_.Tear, .int .i64 m0.acts_, .int .i64 m0.falls_] 60, own e_disk_sector 62 p0 c0 m0.sure_, mpo (kInt .i64) (fun x : disk_sector => Value.agg #[.string x.s_, .int .i64 x.at_]) p1 m0.wait_] ++ F0) rfl rfl rfl rfl rfl rfl rfl (by kernel_rfl) (perm_of_pulls [1, 1] rfl) (c_strings_Builder_WriteString _ y31.s_ m29 b24 r35 h36) ?_)
        rintro _ _ ⟨rfl, rfl⟩
        refine nw_H (H' := [imm I, bld 72 5 b24 r35.2, pt b33 #[.string y31.s_, .int .i64 y31.at_] 62, pt b0 #[.slice p0 m0.sure_.length c0, .map (some p1), .bool m0.off_, .bool m0.armed_, .int .i64 m0.left_, .int .u64 m0.fall_.Keep, .int .i64 m0.fall_.Tear, .int .i64 m0.acts_, .int .i64 m0.falls_] 60, own e_disk_sector 62 p0 c0 m0.sure_, mpo (kInt .i64) (fun x : disk_sector => Value.agg #[.string x.s_, .int .i64 x.at_]) p1 m0.wait_] ++ F0) rfl (nw_ow ?_)
        refine ow_end rfl ?_
        refine ew_blk ?_
        refine ew_then ?_
        refine cw_region ?_
        refine ow_vals 2 (j := 2) [3, 12, 13, 14] [(3, .pointer (some ⟨b24, 0, none⟩)), (12, .slice p0 m0.sure_.length c0), (13, .int .i64 (m0.sure_.length : Int)), (14, .int .i64 (IntKind.i64.wrap (x28 + 1)))] rfl (by kernel_rfl) ?_
        refine ow_end rfl ?_
        have hR := Option.some.inj hF
        subst hR
        have hR := hL27
        try dsimp only at hR
        exact fun a w hf hs => ⟨k, Nat.lt_succ_self k, IntKind.i64.wrap (x28 + 1), r35.2, hR, hf.keep [3, 12, 13, 14], sat_to [2, 0, 0, 0, 0, 0] 1 rfl hs⟩
      · refine cw_cond_f rfl rfl h30 ?_
        refine cw_exit ?_
        refine ew_then_exit ?_
        refine ew_then_exit ?_
        refine ew_blk_exit ?_
        have hR := Option.some.inj hF
        subst hR
        have hR := hL27
        try dsimp only at hR
        exact fun a w hf hs => ⟨m29, hR, hf.keep [3], sat_to [0, 0, 0, 0, 0] 0 rfl hs⟩
    · rintro a w ⟨m37, hv, hf, hs⟩
      subst hv
      replace hF := hK26
      clear hK26
      try dsimp only at hF
      revert a w
      show CW _ _ _ 23 [(3, .pointer (some ⟨b24, 0, none⟩))] (SAT w0 ([imm I, bld 72 5 b24 m37, pt b0 #[.slice p0 m0.sure_.length c0, .map (some p1), .bool m0.off_, .bool m0.armed_, .int .i64 m0.left_, .int .u64 m0.fall_.Keep, .int .i64 m0.fall_.Tear, .int .i64 m0.acts_, .int .i64 m0.falls_] 60, own e_disk_sector 62 p0 c0 m0.sure_, mpo (kInt .i64) (fun x : disk_sector => Value.agg #[.string x.s_, .int .i64 x.at_]) p1 m0.wait_] ++ F0))
      unfold F.disk_Disk_Image.r2 at hF
      refine cw_seq ?_
      refine cw_region ?_
      obtain ⟨r38, h39, hF⟩ := bind_some hF
      refine ow_pw rfl (pw_call (F := [pt b0 #[.slice p0 m0.sure_.length c0, .map (some p1), .bool m0.off_, .bool m0.armed_, .int .i64 m0.left_, .int .u64 m0.fall_.Keep, .int .i64 m0.fall_.Tear, .int .i64 m0.acts_, .int .i64 m0.falls_] 60, own e_disk_sector 62 p0 c0 m0.sure_, mpo (kInt .i64) (fun x : disk_sector => Value.agg #[.string x.s_, .int .i64 x.at_]) p1 m0.wait_] ++ F0) rfl rfl rfl rfl rfl rfl rfl (by kernel_rfl) (perm_of_pulls [0, 0] rfl) (c_strings_Builder_String _ m37 b24 r38 h39) ?_)
      rintro _ _ ⟨rfl, rfl⟩
      refine nw_H (H' := [imm I, pt b0 #[.slice p0 m0.sure_.length c0, .map (some p1), .bool m0.off_, .bool m0.armed_, .int .i64 m0.left_, .int .u64 m0.fall_.Keep, .int .i64 m0.fall_.Tear, .int .i64 m0.acts_, .int .i64 m0.falls_] 60, own e_disk_sector 62 p0 c0 m0.sure_, mpo (kInt .i64) (fun x : disk_sector => Value.agg #[.string x.s_, .int .i64 x.at_]) p1 m0.wait_] ++ F0) rfl (nw_ow ?_)
      refine ow_vals 1 (j := 2) [2] [(2, .string r38)] rfl (by kernel_rfl) ?_
      refine ow_end rfl ?_
      refine ew_then ?_
      refine cw_ret ?_
      have hR := Option.some.inj hF
      subst hR
      exact fin1 (H1 := [imm I, pt b0 #[.slice p0 m0.sure_.length c0, .map (some p1), .bool m0.off_, .bool m0.armed_, .int .i64 m0.left_, .int .u64 m0.fall_.Keep, .int .i64 m0.fall_.Tear, .int .i64 m0.acts_, .int .i64 m0.falls_] 60, own e_disk_sector 62 p0 c0 m0.sure_, mpo (kInt .i64) (fun x : disk_sector => Value.agg #[.string x.s_, .int .i64 x.at_]) p1 m0.wait_]) (fun w hs => sat_to [0, 0, 0, 0] 0 rfl hs) rfl (rr_tmp rfl) ⟨rfl, rfl⟩


def F.disk_Disk_Crash (x1 : disk_Fall) (m0 : disk_Disk) : Option (Int × disk_Disk) :=
  Option.bind (F.disk_Disk_why 0 m0) (fun (r23 : Int) => if r23 != 0 then (some ((r23, m0))) else (Option.bind (F.disk_Disk_drop x1 m0) (fun (r26 : disk_Disk) => some ((0, r26)))))
set_option maxRecDepth 100000 in
set_option maxHeartbeats 4000000 in
theorem c_disk_Disk_Crash (I : Hl) (x1 : disk_Fall) (m0 : disk_Disk) (p0 : Option Addr) (c0 : Nat) (p1 : Nat) (b0 : Nat) (res : Int × disk_Disk) (hF : F.disk_Disk_Crash x1 m0 = some res) : Tr Tryd.prog 18 [.pointer (some ⟨b0, 0, none⟩), .agg #[.int .u64 x1.Keep, .int .i64 x1.Tear]] [imm I, pt b0 #[.slice p0 m0.sure_.length c0, .map (some p1), .bool m0.off_, .bool m0.armed_, .int .i64 m0.left_, .int .u64 m0.fall_.Keep, .int .i64 m0.fall_.Tear, .int .i64 m0.acts_, .int .i64 m0.falls_] 60, own e_disk_sector 62 p0 c0 m0.sure_, mpo (kInt .i64) (fun x : disk_sector => Value.agg #[.string x.s_, .int .i64 x.at_]) p1 m0.wait_] (fun r H' => ∃ (pq1 : Option Addr), ∃ (cq2 : Nat), ∃ (bq4 : Nat), r = .int .i64 res.1 ∧ H' = [imm I, pt b0 #[.slice pq1 res.2.sure_.length cq2, .map (some bq4), .bool res.2.off_, .bool res.2.armed_, .int .i64 res.2.left_, .int .u64 res.2.fall_.Keep, .int .i64 res.2.fall_.Tear, .int .i64 res.2.acts_, .int .i64 res.2.falls_] 60, own e_disk_sector 62 pq1 cq2 res.2.sure_, mpo (kInt .i64) (fun x : disk_sector => Value.agg #[.string x.s_, .int .i64 x.at_]) bq4 res.2.wait_]) := by
  unfold F.disk_Disk_Crash at hF
  refine tr_of_cw (fn := Tryd.f18) Tryd.func18 rfl (Nat.le_of_ble_eq_true rfl) 14 rfl fun F0 w0 => ?_
  refine cw_keep [0, 1] (L' := [(0, .pointer (some ⟨b0, 0, none⟩)), (1, .agg #[.int .u64 x1.Keep, .int .i64 x1.Tear])]) rfl ?_
  refine cw_state (S' := SAT w0 ([imm I, pt b0 #[.slice p0 m0.sure_.length c0, .map (some p1), .bool m0.off_, .bool m0.armed_, .int .i64 m0.left_, .int .u64 m0.fall_.Keep, .int .i64 m0.fall_.Tear, .int .i64 m0.acts_, .int .i64 m0.falls_] 60, own e_disk_sector 62 p0 c0 m0.sure_, mpo (kInt .i64) (fun x : disk_sector => Value.agg #[.string x.s_, .int .i64 x.at_]) p1 m0.wait_] ++ F0)) (fun w hs => hs) ?_
  refine cw_seq ?_
  refine cw_region ?_
  refine ow_pw rfl (pw_box (cs := #[.int .u64 x1.Keep, .int .i64 x1.Tear]) rfl rfl rfl rfl rfl rfl fun b21 => nw_ow ?_)
  refine ow_vals 1 (j := 2) [0, 3] [(0, .pointer (some ⟨b0, 0, none⟩)), (3, .pointer (some ⟨b21, 0, none⟩))] rfl (by kernel_rfl) ?_
  refine ow_end rfl ?_
  refine ew_then ?_
  refine cw_seq ?_
  refine cw_seq ?_
  refine cw_region ?_
  refine ow_vals 1 (j := 1) [0, 3, 6] [(0, .pointer (some ⟨b0, 0, none⟩)), (3, .pointer (some ⟨b21, 0, none⟩)), (6, .pointer (some ⟨b0, 0, none⟩))] rfl (by kernel_rfl) ?_
  obtain ⟨r23, h24, hF⟩ := bind_some hF
  refine ow_pw rfl (pw_call (F := [pt b21 #[.int .u64 x1.Keep, .int .i64 x1.Tear] 40] ++ F0) rfl rfl rfl rfl rfl rfl rfl (by kernel_rfl) (perm_of_pulls [1, 1, 1, 1] rfl) (c_disk_Disk_why _ 0 m0 p0 c0 p1 b0 r23 h24) ?_)
  rintro _ _ ⟨rfl, rfl⟩
  refine nw_H (H' := [imm I, pt b0 #[.slice p0 m0.sure_.length c0, .map (some p1), .bool m0.off_, .bool m0.armed_, .int .i64 m0.left_, .int .u64 m0.fall_.Keep, .int .i64 m0.fall_.Tear, .int .i64 m0.acts_, .int .i64 m0.falls_] 60, own e_disk_sector 62 p0 c0 m0.sure_, mpo (kInt .i64) (fun x : disk_sector => Value.agg #[.string x.s_, .int .i64 x.at_]) p1 m0.wait_, pt b21 #[.int .u64 x1.Keep, .int .i64 x1.Tear] 40] ++ F0) rfl (nw_ow ?_)
  refine ow_vals 1 (j := 3) [0, 3, 5] [(0, .pointer (some ⟨b0, 0, none⟩)), (3, .pointer (some ⟨b21, 0, none⟩)), (5, .int .i64 r23)] rfl (by kernel_rfl) ?_
  refine ow_end rfl ?_
  refine ew_then ?_
  refine cw_seq ?_
  refine cw_region ?_
  refine ow_vals 2 (j := 2) [0, 3, 5, 9] [(0, .pointer (some ⟨b0, 0, none⟩)), (3, .pointer (some ⟨b21, 0, none⟩)), (5, .int .i64 r23), (9, .bool (r23 != 0))] rfl (by kernel_rfl) ?_
  refine ow_end rfl ?_
  refine ew_then ?_
  rcases if_some hF with ⟨h25, hF⟩ | ⟨h25, hF⟩
  · refine cw_cond_t rfl rfl h25 ?_
    refine cw_seq ?_
    refine cw_region ?_
    refine ow_vals 2 (j := 2) [4] [(4, .int .i64 r23)] rfl (by kernel_rfl) ?_
    refine ow_end rfl ?_
    refine ew_then ?_
    refine cw_ret ?_
    refine ew_then_ret ?_
    have hR := Option.some.inj hF
    subst hR
    exact fin1 (H1 := [imm I, pt b0 #[.slice p0 m0.sure_.length c0, .map (some p1), .bool m0.off_, .bool m0.armed_, .int .i64 m0.left_, .int .u64 m0.fall_.Keep, .int .i64 m0.fall_.Tear, .int .i64 m0.acts_, .int .i64 m0.falls_] 60, own e_disk_sector 62 p0 c0 m0.sure_, mpo (kInt .i64) (fun x : disk_sector => Value.agg #[.string x.s_, .int .i64 x.at_]) p1 m0.wait_]) (fun w hs => sat_to [4, 0, 0, 0, 0] 1 rfl hs) rfl (rr_tmp rfl) ⟨p0, c0, p1, rfl, rfl⟩
  · refine cw_cond_f rfl rfl h25 ?_
    refine cw_skip ?_
    refine ew_then ?_
    refine cw_seq ?_
    refine cw_region ?_
    refine ow_vals 1 (j := 1) [3, 11] [(3, .pointer (some ⟨b21, 0, none⟩)), (11, .pointer (some ⟨b0, 0, none⟩))] rfl (by kernel_rfl) ?_
    refine ow_pw rfl (pw_quiet (v := .agg #[.int .u64 x1.Keep, .int .i64 x1.Tear]) rfl rfl rfl rfl (q_load 4 rfl rfl rfl (by kernel_rfl)) (nw_ow ?_))
    obtain ⟨r26, h27, hF⟩ := bind_some hF
    refine ow_pw rfl (pw_call (F := [pt b21 #[.int .u64 x1.Keep, .int .i64 x1.Tear] 40] ++ F0) rfl rfl rfl rfl rfl rfl rfl (by kernel_rfl) (perm_of_pulls [0, 0, 0, 0] rfl) (c_disk_Disk_drop _ x1 m0 p0 c0 p1 b0 r26 h27) ?_)
    rintro _ _ ⟨r26_p1, r26_c2, r26_b4, rfl, rfl⟩
    refine nw_H (H' := [imm I, pt b0 #[.slice r26_p1 r26.sure_.length r26_c2, .map (some r26_b4), .bool r26.off_, .bool r26.armed_, .int .i64 r26.left_, .int .u64 r26.fall_.Keep, .int .i64 r26.fall_.Tear, .int .i64 r26.acts_, .int .i64 r26.falls_] 60, own e_disk_sector 62 r26_p1 r26_c2 r26.sure_, mpo (kInt .i64) (fun x : disk_sector => Value.agg #[.string x.s_, .int .i64 x.at_]) r26_b4 r26.wait_, pt b21 #[.int .u64 x1.Keep, .int .i64 x1.Tear] 40] ++ F0) rfl (nw_ow ?_)
    refine ow_end rfl ?_
    refine ew_then ?_
    refine cw_seq ?_
    refine cw_region ?_
    refine ow_vals 1 (j := 1) [4] [(4, .int .i64 0)] rfl (by kernel_rfl) ?_
    refine ow_end rfl ?_
    refine ew_then ?_
    refine cw_ret ?_
    have hR := Option.some.inj hF
    subst hR
    exact fin1 (H1 := [imm I, pt b0 #[.slice r26_p1 r26.sure_.length r26_c2, .map (some r26_b4), .bool r26.off_, .bool r26.armed_, .int .i64 r26.left_, .int .u64 r26.fall_.Keep, .int .i64 r26.fall_.Tear, .int .i64 r26.acts_, .int .i64 r26.falls_] 60, own e_disk_sector 62 r26_p1 r26_c2 r26.sure_, mpo (kInt .i64) (fun x : disk_sector => Value.agg #[.string x.s_, .int .i64 x.at_]) r26_b4 r26.wait_]) (fun w hs => sat_to [4, 0, 0, 0, 0] 1 rfl hs) rfl (rr_tmp rfl) ⟨r26_p1, r26_c2, r26_b4, rfl, rfl⟩


def F.disk_Disk_Start (m0 : disk_Disk) : Option (Int × disk_Disk) :=
  Option.bind (F.disk_Disk_Size m0) (fun (r21 : Int) => if r21 == 0 then (some ((9, m0))) else (if !m0.off_ then (some ((25, m0))) else (some ((0, (⟨m0.sure_, m0.wait_, false, m0.armed_, m0.left_, m0.fall_, m0.acts_, m0.falls_⟩ : disk_Disk))))))
set_option maxRecDepth 100000 in
set_option maxHeartbeats 4000000 in
theorem c_disk_Disk_Start (I : Hl) (m0 : disk_Disk) (p0 : Option Addr) (c0 : Nat) (p1 : Nat) (b0 : Nat) (res : Int × disk_Disk) (hF : F.disk_Disk_Start m0 = some res) : Tr Tryd.prog 19 [.pointer (some ⟨b0, 0, none⟩)] [imm I, pt b0 #[.slice p0 m0.sure_.length c0, .map (some p1), .bool m0.off_, .bool m0.armed_, .int .i64 m0.left_, .int .u64 m0.fall_.Keep, .int .i64 m0.fall_.Tear, .int .i64 m0.acts_, .int .i64 m0.falls_] 60, own e_disk_sector 62 p0 c0 m0.sure_, mpo (kInt .i64) (fun x : disk_sector => Value.agg #[.string x.s_, .int .i64 x.at_]) p1 m0.wait_] (fun r H' => ∃ (pq1 : Option Addr), ∃ (cq2 : Nat), ∃ (bq4 : Nat), r = .int .i64 res.1 ∧ H' = [imm I, pt b0 #[.slice pq1 res.2.sure_.length cq2, .map (some bq4), .bool res.2.off_, .bool res.2.armed_, .int .i64 res.2.left_, .int .u64 res.2.fall_.Keep, .int .i64 res.2.fall_.Tear, .int .i64 res.2.acts_, .int .i64 res.2.falls_] 60, own e_disk_sector 62 pq1 cq2 res.2.sure_, mpo (kInt .i64) (fun x : disk_sector => Value.agg #[.string x.s_, .int .i64 x.at_]) bq4 res.2.wait_]) := by
  unfold F.disk_Disk_Start at hF
  refine tr_of_cw (fn := Tryd.f19) Tryd.func19 rfl (Nat.le_of_ble_eq_true rfl) 16 rfl fun F0 w0 => ?_
  refine cw_keep [0] (L' := [(0, .pointer (some ⟨b0, 0, none⟩))]) rfl ?_
  refine cw_state (S' := SAT w0 ([imm I, pt b0 #[.slice p0 m0.sure_.length c0, .map (some p1), .bool m0.off_, .bool m0.armed_, .int .i64 m0.left_, .int .u64 m0.fall_.Keep, .int .i64 m0.fall_.Tear, .int .i64 m0.acts_, .int .i64 m0.falls_] 60, own e_disk_sector 62 p0 c0 m0.sure_, mpo (kInt .i64) (fun x : disk_sector => Value.agg #[.string x.s_, .int .i64 x.at_]) p1 m0.wait_] ++ F0)) (fun w hs => hs) ?_
  refine cw_seq ?_
  refine cw_region ?_
  refine ow_vals 1 (j := 1) [0] [(0, .pointer (some ⟨b0, 0, none⟩))] rfl (by kernel_rfl) ?_
  refine ow_end rfl ?_
  refine ew_then ?_
  refine cw_seq ?_
  refine cw_block ?_
  refine cw_seq ?_
  refine cw_region ?_
  refine ow_vals 1 (j := 1) [0, 4] [(0, .pointer (some ⟨b0, 0, none⟩)), (4, .pointer (some ⟨b0, 0, none⟩))] rfl (by kernel_rfl) ?_
  obtain ⟨r21, h22, hF⟩ := bind_some hF
  refine ow_pw rfl (pw_call (F := [] ++ F0) rfl rfl rfl rfl rfl rfl rfl (by kernel_rfl) (perm_of_pulls [0, 0, 0, 0] rfl) (c_disk_Disk_Size _ m0 p0 c0 p1 b0 r21 h22) ?_)
  rintro _ _ ⟨rfl, rfl⟩
  refine nw_H (H' := [imm I, pt b0 #[.slice p0 m0.sure_.length c0, .map (some p1), .bool m0.off_, .bool m0.armed_, .int .i64 m0.left_, .int .u64 m0.fall_.Keep, .int .i64 m0.fall_.Tear, .int .i64 m0.acts_, .int .i64 m0.falls_] 60, own e_disk_sector 62 p0 c0 m0.sure_, mpo (kInt .i64) (fun x : disk_sector => Value.agg #[.string x.s_, .int .i64 x.at_]) p1 m0.wait_] ++ F0) rfl (nw_ow ?_)
  refine ow_vals 2 (j := 4) [0, 3] [(0, .pointer (some ⟨b0, 0, none⟩)), (3, .bool (r21 == 0))] rfl (by kernel_rfl) ?_
  refine ow_end rfl ?_
  refine ew_then ?_
  rcases if_some hF with ⟨h23, hF⟩ | ⟨h23, hF⟩
  · refine cw_cond_t rfl rfl h23 ?_
    refine cw_seq ?_
    refine cw_region ?_
    refine ow_vals 1 (j := 1) [2] [(2, .int .i64 9)] rfl (by kernel_rfl) ?_
    refine ow_end rfl ?_
    refine ew_then ?_
    refine cw_ret ?_
    refine ew_blk_ret ?_
    refine ew_then_ret ?_
    have hR := Option.some.inj hF
    subst hR
    exact fin1 (H1 := [imm I, pt b0 #[.slice p0 m0.sure_.length c0, .map (some p1), .bool m0.off_, .bool m0.armed_, .int .i64 m0.left_, .int .u64 m0.fall_.Keep, .int .i64 m0.fall_.Tear, .int .i64 m0.acts_, .int .i64 m0.falls_] 60, own e_disk_sector 62 p0 c0 m0.sure_, mpo (kInt .i64) (fun x : disk_sector => Value.agg #[.string x.s_, .int .i64 x.at_]) p1 m0.wait_]) (fun w hs => sat_to [0, 0, 0, 0] 0 rfl hs) rfl (rr_tmp rfl) ⟨p0, c0, p1, rfl, rfl⟩
  · refine cw_cond_f rfl rfl h23 ?_
    refine cw_seq ?_
    refine cw_region ?_
    refine ow_vals 3 (j := 3) [0, 10] [(0, .pointer (some ⟨b0, 0, none⟩)), (10, .pointer (some ⟨b0, 2, none⟩))] rfl (by kernel_rfl) ?_
    refine ow_pw rfl (pw_quiet (v := .bool m0.off_) rfl rfl rfl rfl (q_load 1 rfl rfl rfl (by kernel_rfl)) (nw_ow ?_))
    refine ow_vals 2 (j := 6) [0, 7] [(0, .pointer (some ⟨b0, 0, none⟩)), (7, .bool (!m0.off_))] rfl (by kernel_rfl) ?_
    refine ow_end rfl ?_
    refine ew_then ?_
    rcases if_some hF with ⟨h24, hF⟩ | ⟨h24, hF⟩
    · refine cw_cond_t rfl rfl h24 ?_
      refine cw_seq ?_
      refine cw_region ?_
      refine ow_vals 1 (j := 1) [2] [(2, .int .i64 25)] rfl (by kernel_rfl) ?_
      refine ow_end rfl ?_
      refine ew_then ?_
      refine cw_ret ?_
      refine ew_blk_ret ?_
      refine ew_then_ret ?_
      have hR := Option.some.inj hF
      subst hR
      exact fin1 (H1 := [imm I, pt b0 #[.slice p0 m0.sure_.length c0, .map (some p1), .bool m0.off_, .bool m0.armed_, .int .i64 m0.left_, .int .u64 m0.fall_.Keep, .int .i64 m0.fall_.Tear, .int .i64 m0.acts_, .int .i64 m0.falls_] 60, own e_disk_sector 62 p0 c0 m0.sure_, mpo (kInt .i64) (fun x : disk_sector => Value.agg #[.string x.s_, .int .i64 x.at_]) p1 m0.wait_]) (fun w hs => sat_to [0, 0, 0, 0] 0 rfl hs) rfl (rr_tmp rfl) ⟨p0, c0, p1, rfl, rfl⟩
    · refine cw_cond_f rfl rfl h24 ?_
      refine cw_skip ?_
      refine ew_blk ?_
      refine ew_then ?_
      refine cw_seq ?_
      refine cw_region ?_
      refine ow_vals 3 (j := 3) [15] [(15, .pointer (some ⟨b0, 2, none⟩))] rfl (by kernel_rfl) ?_
      refine ow_pw rfl (pw_store 1 #[.slice p0 m0.sure_.length c0, .map (some p1), .bool false, .bool m0.armed_, .int .i64 m0.left_, .int .u64 m0.fall_.Keep, .int .i64 m0.fall_.Tear, .int .i64 m0.acts_, .int .i64 m0.falls_] rfl rfl rfl rfl rfl rfl rfl (by kernel_rfl) (nw_H (H' := [imm I, pt b0 #[.slice p0 m0.sure_.length c0, .map (some p1), .bool false, .bool m0.armed_, .int .i64 m0.left_, .int .u64 m0.fall_.Keep, .int .i64 m0.fall_.Tear, .int .i64 m0.acts_, .int .i64 m0.falls_] 60, own e_disk_sector 62 p0 c0 m0.sure_, mpo (kInt .i64) (fun x : disk_sector => Value.agg #[.string x.s_, .int .i64 x.at_]) p1 m0.wait_] ++ F0) rfl (nw_ow ?_)))
      refine ow_end rfl ?_
      refine ew_then ?_
      refine cw_seq ?_
      refine cw_region ?_
      refine ow_vals 1 (j := 1) [2] [(2, .int .i64 0)] rfl (by kernel_rfl) ?_
      refine ow_end rfl ?_
      refine ew_then ?_
      refine cw_ret ?_
      have hR := Option.some.inj hF
      subst hR
      exact fin1 (H1 := [imm I, pt b0 #[.slice p0 ((⟨m0.sure_, m0.wait_, false, m0.armed_, m0.left_, m0.fall_, m0.acts_, m0.falls_⟩ : disk_Disk).sure_).length c0, .map (some p1), .bool ((⟨m0.sure_, m0.wait_, false, m0.armed_, m0.left_, m0.fall_, m0.acts_, m0.falls_⟩ : disk_Disk).off_), .bool ((⟨m0.sure_, m0.wait_, false, m0.armed_, m0.left_, m0.fall_, m0.acts_, m0.falls_⟩ : disk_Disk).armed_), .int .i64 ((⟨m0.sure_, m0.wait_, false, m0.armed_, m0.left_, m0.fall_, m0.acts_, m0.falls_⟩ : disk_Disk).left_), .int .u64 (((⟨m0.sure_, m0.wait_, false, m0.armed_, m0.left_, m0.fall_, m0.acts_, m0.falls_⟩ : disk_Disk).fall_).Keep), .int .i64 (((⟨m0.sure_, m0.wait_, false, m0.armed_, m0.left_, m0.fall_, m0.acts_, m0.falls_⟩ : disk_Disk).fall_).Tear), .int .i64 ((⟨m0.sure_, m0.wait_, false, m0.armed_, m0.left_, m0.fall_, m0.acts_, m0.falls_⟩ : disk_Disk).acts_), .int .i64 ((⟨m0.sure_, m0.wait_, false, m0.armed_, m0.left_, m0.fall_, m0.acts_, m0.falls_⟩ : disk_Disk).falls_)] 60, own e_disk_sector 62 p0 c0 ((⟨m0.sure_, m0.wait_, false, m0.armed_, m0.left_, m0.fall_, m0.acts_, m0.falls_⟩ : disk_Disk).sure_), mpo (kInt .i64) (fun x : disk_sector => Value.agg #[.string x.s_, .int .i64 x.at_]) p1 ((⟨m0.sure_, m0.wait_, false, m0.armed_, m0.left_, m0.fall_, m0.acts_, m0.falls_⟩ : disk_Disk).wait_)]) (fun w hs => sat_to [0, 0, 0, 0] 0 rfl hs) rfl (rr_tmp rfl) ⟨p0, c0, p1, rfl, rfl⟩


def F.law13_KeyringShreds.r2 : Option (Bool) :=
  some (false)
def F.law13_KeyringShreds.r3 (x43 : Bool) : Option ((Unit) ⊕ (Bool)) :=
  if x43 then (Option.bind (F.law13_awake) (fun (r45 : Bool) => some (.inr (r45)))) else (some (.inl ()))
def F.law13_KeyringShreds.r6 (x0 : Int) (x67 : Int) (x68 : Int) (x69 : Int) (x70 : Int) (x71 : Int) (r86 : ByteArray) (r88 : Int × disk_Disk) : Option (Bool) :=
  chk (0 ≤ (IntKind.i64.wrap (64 * (IntKind.i64.wrap (5 + x0)))) ∧ (IntKind.i64.wrap (64 * (IntKind.i64.wrap (5 + x0)))) ≤ (IntKind.i64.wrap (64 * (IntKind.i64.wrap (6 + x0)))) ∧ (IntKind.i64.wrap (64 * (IntKind.i64.wrap (6 + x0)))) ≤ (r86.size : Int)) (chk (0 ≤ (64 : Int) ∧ room (64 : Int).toNat 1) (if seqB (r86.extract (IntKind.i64.wrap (64 * (IntKind.i64.wrap (5 + x0)))).toNat (IntKind.i64.wrap (64 * (IntKind.i64.wrap (6 + x0)))).toNat) (bstr (List.replicate (64 : Int).toNat 0 : List Int)) then (Option.bind (F.disk_Disk_Start r88.2) (fun (r103 : Int × disk_Disk) => if r103.1 == 0 then (Option.bind (F.keyring_Ring_Free x0 (⟨x67, x68, x69⟩ : keyring_Ring) (⟨x70, x71⟩ : guard_Guard) r103.2) (fun (r108 : Bool) => if r108 then (Option.bind (F.keyring_Ring_Free (IntKind.i64.wrap (x0 + 1)) (⟨x67, x68, x69⟩ : keyring_Ring) (⟨x70, x71⟩ : guard_Guard) r103.2) (fun (r111 : Bool) => if !r111 then (Option.bind (F.law13_awake) (fun (r114 : Bool) => some (r114))) else (some (false)))) else (some (false)))) else (some (false)))) else (some (false))))
def F.law13_KeyringShreds.r5 (x0 : Int) (x3 : disk_Fall) (x67 : Int) (x68 : Int) (x69 : Int) (x70 : Int) (x71 : Int) (l72 : List disk_sector) (l76 : List (Int × disk_sector)) (x79 : Bool) (x80 : Bool) (x81 : Int) (x82 : Int) (x83 : Int) (x84 : Int) (x85 : Int) : Option (Bool) :=
  Option.bind (F.disk_Disk_Image (⟨l72, l76, x79, x80, x81, (⟨x82, x83⟩ : disk_Fall), x84, x85⟩ : disk_Disk)) (fun (r86 : ByteArray) => Option.bind (F.disk_Disk_Crash x3 (⟨l72, l76, x79, x80, x81, (⟨x82, x83⟩ : disk_Fall), x84, x85⟩ : disk_Disk)) (fun (r88 : Int × disk_Disk) => thru (Option.bind (F.disk_Disk_Image r88.2) (fun (r93 : ByteArray) => if !(seqB r86 r93) then (some (.inr (false))) else (if (r86.size : Int) != 1280 then (some (.inr (false))) else (some (.inl ()))))) (fun x => F.law13_KeyringShreds.r6 x0 x67 x68 x69 x70 x71 r86 r88)))
def F.law13_KeyringShreds.r4 (x0 : Int) (x1 : Int) (x2 : Int) (x3 : disk_Fall) (r23_s1 : disk_Disk) (r32_s1 : (keyring_Ring × guard_Guard)) : Option (Bool) :=
  thru (Option.bind (F.law13_key x1) (fun (r48 : ByteArray) => Option.bind (F.keyring_Ring_Put x0 r48 r32_s1.1 r32_s1.2 r23_s1) (fun (r50 : Int × guard_Guard × disk_Disk) => if r50.1 != 0 then (some (.inr (false))) else (Option.bind (F.law13_key x2) (fun (r55 : ByteArray) => Option.bind (F.keyring_Ring_Put (IntKind.i64.wrap (x0 + 1)) r55 r32_s1.1 r50.2.1 r50.2.2) (fun (r57 : Int × guard_Guard × disk_Disk) => if r57.1 != 0 then (some (.inr (false))) else (Option.bind (F.keyring_Ring_Shred x0 r32_s1.1 r57.2.1 r57.2.2) (fun (r62 : Int × keyring_Ring × disk_Disk) => if r62.1 != 0 then (some (.inr (false))) else (some (.inl (r62.2.1.base_, r62.2.1.slots_, r62.2.1.shred_, r57.2.1.boot_, r57.2.1.n_, r62.2.2.sure_, r62.2.2.wait_, r62.2.2.off_, r62.2.2.armed_, r62.2.2.left_, r62.2.2.fall_.Keep, r62.2.2.fall_.Tear, r62.2.2.acts_, r62.2.2.falls_))))))))))) (fun x => F.law13_KeyringShreds.r5 x0 x3 x.1 x.2.1 x.2.2.1 x.2.2.2.1 x.2.2.2.2.1 x.2.2.2.2.2.1 x.2.2.2.2.2.2.1 x.2.2.2.2.2.2.2.1 x.2.2.2.2.2.2.2.2.1 x.2.2.2.2.2.2.2.2.2.1 x.2.2.2.2.2.2.2.2.2.2.1 x.2.2.2.2.2.2.2.2.2.2.2.1 x.2.2.2.2.2.2.2.2.2.2.2.2.1 x.2.2.2.2.2.2.2.2.2.2.2.2.2)
def F.law13_KeyringShreds.r1 (x0 : Int) (x1 : Int) (x2 : Int) (x3 : disk_Fall) (r23_s1 : disk_Disk) : Option (Bool) :=
  Option.bind (F.law13_made 1 r23_s1) (fun (r32 : (Option (keyring_Ring × guard_Guard))) => optC r32 (Option.bind (some (())) (fun x => F.law13_KeyringShreds.r2)) (fun (r32_s1 : (keyring_Ring × guard_Guard)) => thru (Option.bind (if decide (x0 < 0) then (some (true)) else (if decide (x0 ≥ 7) then (some (true)) else (if x1 == 0 then (some (true)) else (some ((x1 == x2)))))) (fun x => F.law13_KeyringShreds.r3 x)) (fun x => F.law13_KeyringShreds.r4 x0 x1 x2 x3 r23_s1 r32_s1)))
def F.law13_KeyringShreds (x0 : Int) (x1 : Int) (x2 : Int) (x3 : disk_Fall) : Option Bool :=
  Option.bind (F.disk_New 20) (fun (r23 : (Option disk_Disk) × Int) => optC r23.1 (if r23.2 != 0 then (some (false)) else (some (false))) (fun (r23_s1 : disk_Disk) => thru (if r23.2 != 0 then (some (.inr (false))) else (some (.inl ()))) (fun x => F.law13_KeyringShreds.r1 x0 x1 x2 x3 r23_s1)))
set_option maxRecDepth 100000 in
set_option maxHeartbeats 4000000 in
theorem c_law13_KeyringShreds (I : Hl) (x0 : Int) (x1 : Int) (x2 : Int) (x3 : disk_Fall) (res : Bool) (hF : F.law13_KeyringShreds x0 x1 x2 x3 = some res) : Tr Tryd.prog 4 [.int .i64 x0, .int .u8 x1, .int .u8 x2, .agg #[.int .u64 x3.Keep, .int .i64 x3.Tear]] [imm I] (fun r H' => r = .bool res ∧ H' = [imm I]) := by
  unfold F.law13_KeyringShreds at hF
  refine tr_of_cw (fn := Tryd.f4) Tryd.func4 rfl (Nat.le_of_ble_eq_true rfl) 117 rfl fun F0 w0 => ?_
  refine cw_keep [0, 1, 2, 3] (L' := [(0, .int .i64 x0), (1, .int .u8 x1), (2, .int .u8 x2), (3, .agg #[.int .u64 x3.Keep, .int .i64 x3.Tear])]) rfl ?_
  refine cw_state (S' := SAT w0 ([imm I] ++ F0)) (fun w hs => hs) ?_
  refine cw_seq ?_
  refine cw_region ?_
  refine ow_pw rfl (pw_box (cs := #[.int .u64 x3.Keep, .int .i64 x3.Tear]) rfl rfl rfl rfl rfl rfl fun b21 => nw_ow ?_)
  refine ow_vals 1 (j := 2) [0, 1, 2, 7] [(0, .int .i64 x0), (1, .int .u8 x1), (2, .int .u8 x2), (7, .pointer (some ⟨b21, 0, none⟩))] rfl (by kernel_rfl) ?_
  refine ow_end rfl ?_
  refine ew_then ?_
  refine cw_seq ?_
  refine cw_region ?_
  obtain ⟨r23, h24, hF⟩ := bind_some hF
  refine ow_pw rfl (pw_call (F := [pt b21 #[.int .u64 x3.Keep, .int .i64 x3.Tear] 40] ++ F0) rfl rfl rfl rfl rfl rfl rfl (by kernel_rfl) (perm_of_pulls [1] rfl) (c_disk_New _ 20 r23 h24) ?_)
  rintro _ _ (⟨hO, rfl, rfl⟩ | ⟨r23_s1, r23_b2, r23_p4, r23_c5, r23_b7, hO, rfl, rfl⟩)
  · rw [hO] at hF
    try dsimp only [optC] at hF
    refine nw_H (H' := [imm I, pt b21 #[.int .u64 x3.Keep, .int .i64 x3.Tear] 40] ++ F0) rfl (nw_ow ?_)
    refine ow_vals 5 (j := 6) [0, 1, 2, 7, 9, 10] [(0, .int .i64 x0), (1, .int .u8 x1), (2, .int .u8 x2), (7, .pointer (some ⟨b21, 0, none⟩)), (9, .pointer none), (10, .int .i64 r23.2)] rfl (by kernel_rfl) ?_
    refine ow_end rfl ?_
    refine ew_then ?_
    refine cw_seq ?_
    refine cw_seq ?_
    refine cw_region ?_
    refine ow_vals 3 (j := 3) [0, 1, 2, 7, 9, 20] [(0, .int .i64 x0), (1, .int .u8 x1), (2, .int .u8 x2), (7, .pointer (some ⟨b21, 0, none⟩)), (9, .pointer none), (20, .bool (r23.2 != 0))] rfl (by kernel_rfl) ?_
    rcases if_some hF with ⟨h29, hF⟩ | ⟨h29, hF⟩
    · refine ow_slots (L' := [(0, .int .i64 x0), (1, .int .u8 x1), (2, .int .u8 x2), (7, .pointer (some ⟨b21, 0, none⟩)), (9, .pointer none), (20, .bool true)]) (by rw [h29]) ?_
      refine ow_vals 3 (j := 6) [0, 1, 2, 7, 9, 23] [(0, .int .i64 x0), (1, .int .u8 x1), (2, .int .u8 x2), (7, .pointer (some ⟨b21, 0, none⟩)), (9, .pointer none), (23, .bool true)] rfl (by kernel_rfl) ?_
      refine ow_end rfl ?_
      refine ew_then ?_
      refine cw_cond_t rfl rfl rfl ?_
      refine cw_seq ?_
      refine cw_region ?_
      refine ow_vals 1 (j := 1) [8] [(8, .bool false)] rfl (by kernel_rfl) ?_
      refine ow_end rfl ?_
      refine ew_then ?_
      refine cw_ret ?_
      refine ew_then_ret ?_
      have hR := Option.some.inj hF
      subst hR
      exact fin1 (H1 := [imm I]) (fun w hs => sat_to [1, 0] 1 rfl hs) rfl (rr_tmp rfl) ⟨rfl, rfl⟩
    · refine ow_slots (L' := [(0, .int .i64 x0), (1, .int .u8 x1), (2, .int .u8 x2), (7, .pointer (some ⟨b21, 0, none⟩)), (9, .pointer none), (20, .bool false)]) (by rw [h29]) ?_
      refine ow_vals 3 (j := 6) [0, 1, 2, 7, 9, 23] [(0, .int .i64 x0), (1, .int .u8 x1), (2, .int .u8 x2), (7, .pointer (some ⟨b21, 0, none⟩)), (9, .pointer none), (23, .bool true)] rfl (by kernel_rfl) ?_
      refine ow_end rfl ?_
      refine ew_then ?_
      refine cw_cond_t rfl rfl rfl ?_
      refine cw_seq ?_
      refine cw_region ?_
      refine ow_vals 1 (j := 1) [8] [(8, .bool false)] rfl (by kernel_rfl) ?_
      refine ow_end rfl ?_
      refine ew_then ?_
      refine cw_ret ?_
      refine ew_then_ret ?_
      have hR := Option.some.inj hF
      subst hR
      exact fin1 (H1 := [imm I]) (fun w hs => sat_to [1, 0] 1 rfl hs) rfl (rr_tmp rfl) ⟨rfl, rfl⟩
  · rw [hO] at hF
    try dsimp only [optC] at hF
    refine nw_H (H' := [imm I, pt r23_b2 #[.slice r23_p4 r23_s1.sure_.length r23_c5, .map (some r23_b7), .bool r23_s1.off_, .bool r23_s1.armed_, .int .i64 r23_s1.left_, .int .u64 r23_s1.fall_.Keep, .int .i64 r23_s1.fall_.Tear, .int .i64 r23_s1.acts_, .int .i64 r23_s1.falls_] 60, own e_disk_sector 62 r23_p4 r23_c5 r23_s1.sure_, mpo (kInt .i64) (fun x : disk_sector => Value.agg #[.string x.s_, .int .i64 x.at_]) r23_b7 r23_s1.wait_, pt b21 #[.int .u64 x3.Keep, .int .i64 x3.Tear] 40] ++ F0) rfl (nw_ow ?_)
    refine ow_vals 5 (j := 6) [0, 1, 2, 7, 9, 10] [(0, .int .i64 x0), (1, .int .u8 x1), (2, .int .u8 x2), (7, .pointer (some ⟨b21, 0, none⟩)), (9, .pointer (some ⟨r23_b2, 0, none⟩)), (10, .int .i64 r23.2)] rfl (by kernel_rfl) ?_
    refine ow_end rfl ?_
    refine ew_then ?_
    obtain ⟨v30, hF, hK30⟩ := thru_some hF
    refine cw_mid (fun a w => .inl () = v30 ∧ Fr 117 [(0, .int .i64 x0), (1, .int .u8 x1), (2, .int .u8 x2), (7, .pointer (some ⟨b21, 0, none⟩)), (9, .pointer (some ⟨r23_b2, 0, none⟩))] a ∧ SAT w0 ([imm I, pt r23_b2 #[.slice r23_p4 r23_s1.sure_.length r23_c5, .map (some r23_b7), .bool r23_s1.off_, .bool r23_s1.armed_, .int .i64 r23_s1.left_, .int .u64 r23_s1.fall_.Keep, .int .i64 r23_s1.fall_.Tear, .int .i64 r23_s1.acts_, .int .i64 r23_s1.falls_] 60, pt b21 #[.int .u64 x3.Keep, .int .i64 x3.Tear] 40, own e_disk_sector 62 r23_p4 r23_c5 r23_s1.sure_, mpo (kInt .i64) (fun x : disk_sector => Value.agg #[.string x.s_, .int .i64 x.at_]) r23_b7 r23_s1.wait_] ++ F0) w) ?_ ?_
    · refine cw_seq ?_
      refine cw_region ?_
      refine ow_vals 3 (j := 3) [0, 1, 2, 7, 9, 20] [(0, .int .i64 x0), (1, .int .u8 x1), (2, .int .u8 x2), (7, .pointer (some ⟨b21, 0, none⟩)), (9, .pointer (some ⟨r23_b2, 0, none⟩)), (20, .bool (r23.2 != 0))] rfl (by kernel_rfl) ?_
      rcases if_some hF with ⟨h31, hF⟩ | ⟨h31, hF⟩
      · refine ow_slots (L' := [(0, .int .i64 x0), (1, .int .u8 x1), (2, .int .u8 x2), (7, .pointer (some ⟨b21, 0, none⟩)), (9, .pointer (some ⟨r23_b2, 0, none⟩)), (20, .bool true)]) (by rw [h31]) ?_
        refine ow_vals 3 (j := 6) [0, 1, 2, 7, 9, 23] [(0, .int .i64 x0), (1, .int .u8 x1), (2, .int .u8 x2), (7, .pointer (some ⟨b21, 0, none⟩)), (9, .pointer (some ⟨r23_b2, 0, none⟩)), (23, .bool true)] rfl (by kernel_rfl) ?_
        refine ow_end rfl ?_
        refine ew_then ?_
        refine cw_cond_t rfl rfl rfl ?_
        refine cw_seq ?_
        refine cw_region ?_
        refine ow_vals 1 (j := 1) [8] [(8, .bool false)] rfl (by kernel_rfl) ?_
        refine ow_end rfl ?_
        refine ew_then ?_
        refine cw_ret ?_
        refine ew_then_ret ?_
        have hR := Option.some.inj hF
        subst hR
        have hR := hK30
        try dsimp only [Thru] at hR
        subst hR
        exact fin1 (H1 := [imm I]) (fun w hs => sat_to [1, 1, 1, 1, 0] 4 rfl hs) rfl (rr_tmp rfl) ⟨rfl, rfl⟩
      · refine ow_slots (L' := [(0, .int .i64 x0), (1, .int .u8 x1), (2, .int .u8 x2), (7, .pointer (some ⟨b21, 0, none⟩)), (9, .pointer (some ⟨r23_b2, 0, none⟩)), (20, .bool false)]) (by rw [h31]) ?_
        refine ow_vals 3 (j := 6) [0, 1, 2, 7, 9, 23] [(0, .int .i64 x0), (1, .int .u8 x1), (2, .int .u8 x2), (7, .pointer (some ⟨b21, 0, none⟩)), (9, .pointer (some ⟨r23_b2, 0, none⟩)), (23, .bool false)] rfl (by kernel_rfl) ?_
        refine ow_end rfl ?_
        refine ew_then ?_
        refine cw_cond_f rfl rfl rfl ?_
        refine cw_skip ?_
        have hR := Option.some.inj hF
        exact fun a w hf hs => ⟨hR, hf.keep [0, 1, 2, 7, 9], sat_to [0, 0, 2, 0, 0] 0 rfl hs⟩
    · rintro a w ⟨hv, hf, hs⟩
      subst hv
      replace hF := hK30
      clear hK30
      try dsimp only [Thru] at hF
      revert a w
      show CW _ _ _ 117 [(0, .int .i64 x0), (1, .int .u8 x1), (2, .int .u8 x2), (7, .pointer (some ⟨b21, 0, none⟩)), (9, .pointer (some ⟨r23_b2, 0, none⟩))] (SAT w0 ([imm I, pt r23_b2 #[.slice r23_p4 r23_s1.sure_.length r23_c5, .map (some r23_b7), .bool r23_s1.off_, .bool r23_s1.armed_, .int .i64 r23_s1.left_, .int .u64 r23_s1.fall_.Keep, .int .i64 r23_s1.fall_.Tear, .int .i64 r23_s1.acts_, .int .i64 r23_s1.falls_] 60, pt b21 #[.int .u64 x3.Keep, .int .i64 x3.Tear] 40, own e_disk_sector 62 r23_p4 r23_c5 r23_s1.sure_, mpo (kInt .i64) (fun x : disk_sector => Value.agg #[.string x.s_, .int .i64 x.at_]) r23_b7 r23_s1.wait_] ++ F0))
      unfold F.law13_KeyringShreds.r1 at hF
      refine cw_seq ?_
      refine cw_region ?_
      refine ow_vals 1 (j := 1) [0, 1, 2, 7, 9, 24] [(0, .int .i64 x0), (1, .int .u8 x1), (2, .int .u8 x2), (7, .pointer (some ⟨b21, 0, none⟩)), (9, .pointer (some ⟨r23_b2, 0, none⟩)), (24, .pointer (some ⟨r23_b2, 0, none⟩))] rfl (by kernel_rfl) ?_
      obtain ⟨r32, h33, hF⟩ := bind_some hF
      refine ow_pw rfl (pw_call (F := [pt b21 #[.int .u64 x3.Keep, .int .i64 x3.Tear] 40] ++ F0) rfl rfl rfl rfl rfl rfl rfl (by kernel_rfl) (perm_of_pulls [0, 0, 1, 1] rfl) (c_law13_made _ 1 r23_s1 r23_p4 r23_c5 r23_b7 r23_b2 r32 h33) ?_)
      rintro _ _ (⟨hO, rfl, rfl⟩ | ⟨r32_s1, r32_b2, r32_b4, hO, rfl, rfl⟩)
      · rw [hO] at hF
        try dsimp only [optC] at hF
        refine nw_H (H' := [imm I, pt r23_b2 #[.slice r23_p4 r23_s1.sure_.length r23_c5, .map (some r23_b7), .bool r23_s1.off_, .bool r23_s1.armed_, .int .i64 r23_s1.left_, .int .u64 r23_s1.fall_.Keep, .int .i64 r23_s1.fall_.Tear, .int .i64 r23_s1.acts_, .int .i64 r23_s1.falls_] 60, own e_disk_sector 62 r23_p4 r23_c5 r23_s1.sure_, mpo (kInt .i64) (fun x : disk_sector => Value.agg #[.string x.s_, .int .i64 x.at_]) r23_b7 r23_s1.wait_, pt b21 #[.int .u64 x3.Keep, .int .i64 x3.Tear] 40] ++ F0) rfl (nw_ow ?_)
        refine ow_vals 1 (j := 3) [0, 1, 2, 7, 9, 11] [(0, .int .i64 x0), (1, .int .u8 x1), (2, .int .u8 x2), (7, .pointer (some ⟨b21, 0, none⟩)), (9, .pointer (some ⟨r23_b2, 0, none⟩)), (11, .pointer none)] rfl (by kernel_rfl) ?_
        refine ow_end rfl ?_
        refine ew_then ?_
        refine cw_seq ?_
        obtain ⟨v37, hF, hK37⟩ := bind_some hF
        refine cw_mid (fun a w => () = v37 ∧ Fr 117 [(0, .int .i64 x0), (1, .int .u8 x1), (2, .int .u8 x2), (7, .pointer (some ⟨b21, 0, none⟩)), (9, .pointer (some ⟨r23_b2, 0, none⟩)), (11, .pointer none), (44, .bool true)] a ∧ SAT w0 ([imm I, pt r23_b2 #[.slice r23_p4 r23_s1.sure_.length r23_c5, .map (some r23_b7), .bool r23_s1.off_, .bool r23_s1.armed_, .int .i64 r23_s1.left_, .int .u64 r23_s1.fall_.Keep, .int .i64 r23_s1.fall_.Tear, .int .i64 r23_s1.acts_, .int .i64 r23_s1.falls_] 60, pt b21 #[.int .u64 x3.Keep, .int .i64 x3.Tear] 40, own e_disk_sector 62 r23_p4 r23_c5 r23_s1.sure_, mpo (kInt .i64) (fun x : disk_sector => Value.agg #[.string x.s_, .int .i64 x.at_]) r23_b7 r23_s1.wait_] ++ F0) w) ?_ ?_
        · refine cw_region ?_
          refine ow_vals 19 (j := 19) [0, 1, 2, 7, 9, 11, 44] [(0, .int .i64 x0), (1, .int .u8 x1), (2, .int .u8 x2), (7, .pointer (some ⟨b21, 0, none⟩)), (9, .pointer (some ⟨r23_b2, 0, none⟩)), (11, .pointer none), (44, .bool true)] rfl (by kernel_rfl) ?_
          refine ow_end rfl ?_
          have hR := Option.some.inj hF
          exact fun a w hf hs => ⟨hR, hf.keep [0, 1, 2, 7, 9, 11, 44], sat_to [0, 0, 2, 0, 0] 0 rfl hs⟩
        · rintro a w ⟨hv, hf, hs⟩
          subst hv
          replace hF := hK37
          clear hK37
          try dsimp only at hF
          revert a w
          show CW _ _ _ 117 [(0, .int .i64 x0), (1, .int .u8 x1), (2, .int .u8 x2), (7, .pointer (some ⟨b21, 0, none⟩)), (9, .pointer (some ⟨r23_b2, 0, none⟩)), (11, .pointer none), (44, .bool true)] (SAT w0 ([imm I, pt r23_b2 #[.slice r23_p4 r23_s1.sure_.length r23_c5, .map (some r23_b7), .bool r23_s1.off_, .bool r23_s1.armed_, .int .i64 r23_s1.left_, .int .u64 r23_s1.fall_.Keep, .int .i64 r23_s1.fall_.Tear, .int .i64 r23_s1.acts_, .int .i64 r23_s1.falls_] 60, pt b21 #[.int .u64 x3.Keep, .int .i64 x3.Tear] 40, own e_disk_sector 62 r23_p4 r23_c5 r23_s1.sure_, mpo (kInt .i64) (fun x : disk_sector => Value.agg #[.string x.s_, .int .i64 x.at_]) r23_b7 r23_s1.wait_] ++ F0))
          unfold F.law13_KeyringShreds.r2 at hF
          refine cw_cond_t rfl rfl rfl ?_
          refine cw_seq ?_
          refine cw_region ?_
          refine ow_vals 6 (j := 6) [8] [(8, .bool false)] rfl (by kernel_rfl) ?_
          refine ow_end rfl ?_
          refine ew_then ?_
          refine cw_ret ?_
          refine ew_then_ret ?_
          have hR := Option.some.inj hF
          subst hR
          exact fin1 (H1 := [imm I]) (fun w hs => sat_to [1, 1, 1, 1, 0] 4 rfl hs) rfl (rr_tmp rfl) ⟨rfl, rfl⟩
      · rw [hO] at hF
        try dsimp only [optC] at hF
        refine nw_H (H' := [imm I, pt r23_b2 #[.slice r23_p4 r23_s1.sure_.length r23_c5, .map (some r23_b7), .bool r23_s1.off_, .bool r23_s1.armed_, .int .i64 r23_s1.left_, .int .u64 r23_s1.fall_.Keep, .int .i64 r23_s1.fall_.Tear, .int .i64 r23_s1.acts_, .int .i64 r23_s1.falls_] 60, pt r32_b4 #[.pointer (some ⟨r23_b2, 0, none⟩), .int .i64 r32_s1.2.boot_, .int .i64 r32_s1.2.n_] 64, pt r32_b2 #[.pointer (some ⟨r32_b4, 0, none⟩), .int .i64 r32_s1.1.base_, .int .i64 r32_s1.1.slots_, .int .i64 r32_s1.1.shred_] 51, own e_disk_sector 62 r23_p4 r23_c5 r23_s1.sure_, mpo (kInt .i64) (fun x : disk_sector => Value.agg #[.string x.s_, .int .i64 x.at_]) r23_b7 r23_s1.wait_, pt b21 #[.int .u64 x3.Keep, .int .i64 x3.Tear] 40] ++ F0) rfl (nw_ow ?_)
        refine ow_vals 1 (j := 3) [0, 1, 2, 7, 9, 11] [(0, .int .i64 x0), (1, .int .u8 x1), (2, .int .u8 x2), (7, .pointer (some ⟨b21, 0, none⟩)), (9, .pointer (some ⟨r23_b2, 0, none⟩)), (11, .pointer (some ⟨r32_b2, 0, none⟩))] rfl (by kernel_rfl) ?_
        refine ow_end rfl ?_
        refine ew_then ?_
        obtain ⟨v38, hF, hK38⟩ := thru_some hF
        refine cw_mid (fun a w => .inl () = v38 ∧ Fr 117 [(0, .int .i64 x0), (1, .int .u8 x1), (2, .int .u8 x2), (7, .pointer (some ⟨b21, 0, none⟩)), (9, .pointer (some ⟨r23_b2, 0, none⟩)), (11, .pointer (some ⟨r32_b2, 0, none⟩))] a ∧ SAT w0 ([imm I, pt r23_b2 #[.slice r23_p4 r23_s1.sure_.length r23_c5, .map (some r23_b7), .bool r23_s1.off_, .bool r23_s1.armed_, .int .i64 r23_s1.left_, .int .u64 r23_s1.fall_.Keep, .int .i64 r23_s1.fall_.Tear, .int .i64 r23_s1.acts_, .int .i64 r23_s1.falls_] 60, pt r32_b4 #[.pointer (some ⟨r23_b2, 0, none⟩), .int .i64 r32_s1.2.boot_, .int .i64 r32_s1.2.n_] 64, pt r32_b2 #[.pointer (some ⟨r32_b4, 0, none⟩), .int .i64 r32_s1.1.base_, .int .i64 r32_s1.1.slots_, .int .i64 r32_s1.1.shred_] 51, pt b21 #[.int .u64 x3.Keep, .int .i64 x3.Tear] 40, own e_disk_sector 62 r23_p4 r23_c5 r23_s1.sure_, mpo (kInt .i64) (fun x : disk_sector => Value.agg #[.string x.s_, .int .i64 x.at_]) r23_b7 r23_s1.wait_] ++ F0) w) ?_ ?_
        · obtain ⟨v39, hF, hK39⟩ := bind_some hF
          refine cw_mid (fun a w => ∃ (x43 : Bool), x43 = v39 ∧ Fr 117 [(0, .int .i64 x0), (1, .int .u8 x1), (2, .int .u8 x2), (7, .pointer (some ⟨b21, 0, none⟩)), (9, .pointer (some ⟨r23_b2, 0, none⟩)), (11, .pointer (some ⟨r32_b2, 0, none⟩)), (44, .bool x43)] a ∧ SAT w0 ([imm I, pt r23_b2 #[.slice r23_p4 r23_s1.sure_.length r23_c5, .map (some r23_b7), .bool r23_s1.off_, .bool r23_s1.armed_, .int .i64 r23_s1.left_, .int .u64 r23_s1.fall_.Keep, .int .i64 r23_s1.fall_.Tear, .int .i64 r23_s1.acts_, .int .i64 r23_s1.falls_] 60, pt r32_b4 #[.pointer (some ⟨r23_b2, 0, none⟩), .int .i64 r32_s1.2.boot_, .int .i64 r32_s1.2.n_] 64, pt r32_b2 #[.pointer (some ⟨r32_b4, 0, none⟩), .int .i64 r32_s1.1.base_, .int .i64 r32_s1.1.slots_, .int .i64 r32_s1.1.shred_] 51, pt b21 #[.int .u64 x3.Keep, .int .i64 x3.Tear] 40, own e_disk_sector 62 r23_p4 r23_c5 r23_s1.sure_, mpo (kInt .i64) (fun x : disk_sector => Value.agg #[.string x.s_, .int .i64 x.at_]) r23_b7 r23_s1.wait_] ++ F0) w) ?_ ?_
          · refine cw_region ?_
            refine ow_vals 7 (j := 7) [0, 1, 2, 7, 9, 11, 32] [(0, .int .i64 x0), (1, .int .u8 x1), (2, .int .u8 x2), (7, .pointer (some ⟨b21, 0, none⟩)), (9, .pointer (some ⟨r23_b2, 0, none⟩)), (11, .pointer (some ⟨r32_b2, 0, none⟩)), (32, .bool (decide (x0 < 0)))] rfl (by kernel_rfl) ?_
            rcases if_some hF with ⟨h40, hF⟩ | ⟨h40, hF⟩
            · refine ow_slots (L' := [(0, .int .i64 x0), (1, .int .u8 x1), (2, .int .u8 x2), (7, .pointer (some ⟨b21, 0, none⟩)), (9, .pointer (some ⟨r23_b2, 0, none⟩)), (11, .pointer (some ⟨r32_b2, 0, none⟩)), (32, .bool true)]) (by rw [h40]) ?_
              refine ow_vals 12 (j := 19) [0, 1, 2, 7, 9, 11, 44] [(0, .int .i64 x0), (1, .int .u8 x1), (2, .int .u8 x2), (7, .pointer (some ⟨b21, 0, none⟩)), (9, .pointer (some ⟨r23_b2, 0, none⟩)), (11, .pointer (some ⟨r32_b2, 0, none⟩)), (44, .bool true)] rfl (by kernel_rfl) ?_
              refine ow_end rfl ?_
              have hR := Option.some.inj hF
              exact fun a w hf hs => ⟨true, hR, hf.keep [0, 1, 2, 7, 9, 11, 44], sat_to [0, 0, 0, 0, 2, 0, 0] 0 rfl hs⟩
            · refine ow_slots (L' := [(0, .int .i64 x0), (1, .int .u8 x1), (2, .int .u8 x2), (7, .pointer (some ⟨b21, 0, none⟩)), (9, .pointer (some ⟨r23_b2, 0, none⟩)), (11, .pointer (some ⟨r32_b2, 0, none⟩)), (32, .bool false)]) (by rw [h40]) ?_
              refine ow_vals 4 (j := 11) [0, 1, 2, 7, 9, 11, 36] [(0, .int .i64 x0), (1, .int .u8 x1), (2, .int .u8 x2), (7, .pointer (some ⟨b21, 0, none⟩)), (9, .pointer (some ⟨r23_b2, 0, none⟩)), (11, .pointer (some ⟨r32_b2, 0, none⟩)), (36, .bool (decide (x0 ≥ 7)))] rfl (by kernel_rfl) ?_
              rcases if_some hF with ⟨h41, hF⟩ | ⟨h41, hF⟩
              · refine ow_slots (L' := [(0, .int .i64 x0), (1, .int .u8 x1), (2, .int .u8 x2), (7, .pointer (some ⟨b21, 0, none⟩)), (9, .pointer (some ⟨r23_b2, 0, none⟩)), (11, .pointer (some ⟨r32_b2, 0, none⟩)), (36, .bool true)]) (by rw [h41]) ?_
                refine ow_vals 8 (j := 19) [0, 1, 2, 7, 9, 11, 44] [(0, .int .i64 x0), (1, .int .u8 x1), (2, .int .u8 x2), (7, .pointer (some ⟨b21, 0, none⟩)), (9, .pointer (some ⟨r23_b2, 0, none⟩)), (11, .pointer (some ⟨r32_b2, 0, none⟩)), (44, .bool true)] rfl (by kernel_rfl) ?_
                refine ow_end rfl ?_
                have hR := Option.some.inj hF
                exact fun a w hf hs => ⟨true, hR, hf.keep [0, 1, 2, 7, 9, 11, 44], sat_to [0, 0, 0, 0, 2, 0, 0] 0 rfl hs⟩
              · refine ow_slots (L' := [(0, .int .i64 x0), (1, .int .u8 x1), (2, .int .u8 x2), (7, .pointer (some ⟨b21, 0, none⟩)), (9, .pointer (some ⟨r23_b2, 0, none⟩)), (11, .pointer (some ⟨r32_b2, 0, none⟩)), (36, .bool false)]) (by rw [h41]) ?_
                refine ow_vals 4 (j := 15) [0, 1, 2, 7, 9, 11, 40] [(0, .int .i64 x0), (1, .int .u8 x1), (2, .int .u8 x2), (7, .pointer (some ⟨b21, 0, none⟩)), (9, .pointer (some ⟨r23_b2, 0, none⟩)), (11, .pointer (some ⟨r32_b2, 0, none⟩)), (40, .bool (x1 == 0))] rfl (by kernel_rfl) ?_
                rcases if_some hF with ⟨h42, hF⟩ | ⟨h42, hF⟩
                · refine ow_slots (L' := [(0, .int .i64 x0), (1, .int .u8 x1), (2, .int .u8 x2), (7, .pointer (some ⟨b21, 0, none⟩)), (9, .pointer (some ⟨r23_b2, 0, none⟩)), (11, .pointer (some ⟨r32_b2, 0, none⟩)), (40, .bool true)]) (by rw [h42]) ?_
                  refine ow_vals 4 (j := 19) [0, 1, 2, 7, 9, 11, 44] [(0, .int .i64 x0), (1, .int .u8 x1), (2, .int .u8 x2), (7, .pointer (some ⟨b21, 0, none⟩)), (9, .pointer (some ⟨r23_b2, 0, none⟩)), (11, .pointer (some ⟨r32_b2, 0, none⟩)), (44, .bool true)] rfl (by kernel_rfl) ?_
                  refine ow_end rfl ?_
                  have hR := Option.some.inj hF
                  exact fun a w hf hs => ⟨true, hR, hf.keep [0, 1, 2, 7, 9, 11, 44], sat_to [0, 0, 0, 0, 2, 0, 0] 0 rfl hs⟩
                · refine ow_slots (L' := [(0, .int .i64 x0), (1, .int .u8 x1), (2, .int .u8 x2), (7, .pointer (some ⟨b21, 0, none⟩)), (9, .pointer (some ⟨r23_b2, 0, none⟩)), (11, .pointer (some ⟨r32_b2, 0, none⟩)), (40, .bool false)]) (by rw [h42]) ?_
                  refine ow_vals 4 (j := 19) [0, 1, 2, 7, 9, 11, 44] [(0, .int .i64 x0), (1, .int .u8 x1), (2, .int .u8 x2), (7, .pointer (some ⟨b21, 0, none⟩)), (9, .pointer (some ⟨r23_b2, 0, none⟩)), (11, .pointer (some ⟨r32_b2, 0, none⟩)), (44, .bool (x1 == x2))] rfl (by kernel_rfl) ?_
                  refine ow_end rfl ?_
                  have hR := Option.some.inj hF
                  exact fun a w hf hs => ⟨x1 == x2, hR, hf.keep [0, 1, 2, 7, 9, 11, 44], sat_to [0, 0, 0, 0, 2, 0, 0] 0 rfl hs⟩
          · rintro a w ⟨x43, hv, hf, hs⟩
            subst hv
            replace hF := hK39
            clear hK39
            try dsimp only at hF
            revert a w
            show CW _ _ _ 117 [(0, .int .i64 x0), (1, .int .u8 x1), (2, .int .u8 x2), (7, .pointer (some ⟨b21, 0, none⟩)), (9, .pointer (some ⟨r23_b2, 0, none⟩)), (11, .pointer (some ⟨r32_b2, 0, none⟩)), (44, .bool x43)] (SAT w0 ([imm I, pt r23_b2 #[.slice r23_p4 r23_s1.sure_.length r23_c5, .map (some r23_b7), .bool r23_s1.off_, .bool r23_s1.armed_, .int .i64 r23_s1.left_, .int .u64 r23_s1.fall_.Keep, .int .i64 r23_s1.fall_.Tear, .int .i64 r23_s1.acts_, .int .i64 r23_s1.falls_] 60, pt r32_b4 #[.pointer (some ⟨r23_b2, 0, none⟩), .int .i64 r32_s1.2.boot_, .int .i64 r32_s1.2.n_] 64, pt r32_b2 #[.pointer (some ⟨r32_b4, 0, none⟩), .int .i64 r32_s1.1.base_, .int .i64 r32_s1.1.slots_, .int .i64 r32_s1.1.shred_] 51, pt b21 #[.int .u64 x3.Keep, .int .i64 x3.Tear] 40, own e_disk_sector 62 r23_p4 r23_c5 r23_s1.sure_, mpo (kInt .i64) (fun x : disk_sector => Value.agg #[.string x.s_, .int .i64 x.at_]) r23_b7 r23_s1.wait_] ++ F0))
            unfold F.law13_KeyringShreds.r3 at hF
            rcases if_some hF with ⟨h44, hF⟩ | ⟨h44, hF⟩
            · refine cw_cond_t rfl rfl h44 ?_
              refine cw_seq ?_
              refine cw_region ?_
              refine ow_vals 3 (j := 3) [47] [(47, .bool true)] rfl (by kernel_rfl) ?_
              obtain ⟨r45, h46, hF⟩ := bind_some hF
              refine ow_pw rfl (pw_call (F := [pt r23_b2 #[.slice r23_p4 r23_s1.sure_.length r23_c5, .map (some r23_b7), .bool r23_s1.off_, .bool r23_s1.armed_, .int .i64 r23_s1.left_, .int .u64 r23_s1.fall_.Keep, .int .i64 r23_s1.fall_.Tear, .int .i64 r23_s1.acts_, .int .i64 r23_s1.falls_] 60, pt r32_b4 #[.pointer (some ⟨r23_b2, 0, none⟩), .int .i64 r32_s1.2.boot_, .int .i64 r32_s1.2.n_] 64, pt r32_b2 #[.pointer (some ⟨r32_b4, 0, none⟩), .int .i64 r32_s1.1.base_, .int .i64 r32_s1.1.slots_, .int .i64 r32_s1.1.shred_] 51, pt b21 #[.int .u64 x3.Keep, .int .i64 x3.Tear] 40, own e_disk_sector 62 r23_p4 r23_c5 r23_s1.sure_, mpo (kInt .i64) (fun x : disk_sector => Value.agg #[.string x.s_, .int .i64 x.at_]) r23_b7 r23_s1.wait_] ++ F0) rfl rfl rfl rfl rfl rfl rfl (by kernel_rfl) (perm_of_pulls [0] rfl) (c_law13_awake _ r45 h46) ?_)
              rintro _ _ ⟨rfl, rfl⟩
              refine nw_H (H' := [imm I, pt r23_b2 #[.slice r23_p4 r23_s1.sure_.length r23_c5, .map (some r23_b7), .bool r23_s1.off_, .bool r23_s1.armed_, .int .i64 r23_s1.left_, .int .u64 r23_s1.fall_.Keep, .int .i64 r23_s1.fall_.Tear, .int .i64 r23_s1.acts_, .int .i64 r23_s1.falls_] 60, pt r32_b4 #[.pointer (some ⟨r23_b2, 0, none⟩), .int .i64 r32_s1.2.boot_, .int .i64 r32_s1.2.n_] 64, pt r32_b2 #[.pointer (some ⟨r32_b4, 0, none⟩), .int .i64 r32_s1.1.base_, .int .i64 r32_s1.1.slots_, .int .i64 r32_s1.1.shred_] 51, pt b21 #[.int .u64 x3.Keep, .int .i64 x3.Tear] 40, own e_disk_sector 62 r23_p4 r23_c5 r23_s1.sure_, mpo (kInt .i64) (fun x : disk_sector => Value.agg #[.string x.s_, .int .i64 x.at_]) r23_b7 r23_s1.wait_] ++ F0) rfl (nw_ow ?_)
              refine ow_vals 2 (j := 6) [8] [(8, .bool r45)] rfl (by kernel_rfl) ?_
              refine ow_end rfl ?_
              refine ew_then ?_
              refine cw_ret ?_
              refine ew_then_ret ?_
              have hR := Option.some.inj hF
              subst hR
              have hR := hK38
              try dsimp only [Thru] at hR
              subst hR
              exact fin1 (H1 := [imm I]) (fun w hs => sat_to [1, 1, 1, 1, 1, 1, 0] 6 rfl hs) rfl (rr_tmp rfl) ⟨rfl, rfl⟩
            · refine cw_cond_f rfl rfl h44 ?_
              refine cw_skip ?_
              have hR := Option.some.inj hF
              exact fun a w hf hs => ⟨hR, hf.keep [0, 1, 2, 7, 9, 11], sat_to [0, 0, 0, 0, 0, 0, 0] 0 rfl hs⟩
        · rintro a w ⟨hv, hf, hs⟩
          subst hv
          replace hF := hK38
          clear hK38
          try dsimp only [Thru] at hF
          revert a w
          show CW _ _ _ 117 [(0, .int .i64 x0), (1, .int .u8 x1), (2, .int .u8 x2), (7, .pointer (some ⟨b21, 0, none⟩)), (9, .pointer (some ⟨r23_b2, 0, none⟩)), (11, .pointer (some ⟨r32_b2, 0, none⟩))] (SAT w0 ([imm I, pt r23_b2 #[.slice r23_p4 r23_s1.sure_.length r23_c5, .map (some r23_b7), .bool r23_s1.off_, .bool r23_s1.armed_, .int .i64 r23_s1.left_, .int .u64 r23_s1.fall_.Keep, .int .i64 r23_s1.fall_.Tear, .int .i64 r23_s1.acts_, .int .i64 r23_s1.falls_] 60, pt r32_b4 #[.pointer (some ⟨r23_b2, 0, none⟩), .int .i64 r32_s1.2.boot_, .int .i64 r32_s1.2.n_] 64, pt r32_b2 #[.pointer (some ⟨r32_b4, 0, none⟩), .int .i64 r32_s1.1.base_, .int .i64 r32_s1.1.slots_, .int .i64 r32_s1.1.shred_] 51, pt b21 #[.int .u64 x3.Keep, .int .i64 x3.Tear] 40, own e_disk_sector 62 r23_p4 r23_c5 r23_s1.sure_, mpo (kInt .i64) (fun x : disk_sector => Value.agg #[.string x.s_, .int .i64 x.at_]) r23_b7 r23_s1.wait_] ++ F0))
          unfold F.law13_KeyringShreds.r4 at hF
          obtain ⟨v47, hF, hK47⟩ := thru_some hF
          refine cw_mid (fun a w => ∃ (x67 : Int), ∃ (x68 : Int), ∃ (x69 : Int), ∃ (x70 : Int), ∃ (x71 : Int), ∃ (l72 : List disk_sector), ∃ (l76 : List (Int × disk_sector)), ∃ (x79 : Bool), ∃ (x80 : Bool), ∃ (x81 : Int), ∃ (x82 : Int), ∃ (x83 : Int), ∃ (x84 : Int), ∃ (x85 : Int), ∃ (p73 : Option Addr), ∃ (c74 : Nat), ∃ (b78 : Nat), .inl (x67, x68, x69, x70, x71, l72, l76, x79, x80, x81, x82, x83, x84, x85) = v47 ∧ Fr 117 [(0, .int .i64 x0), (7, .pointer (some ⟨b21, 0, none⟩)), (9, .pointer (some ⟨r23_b2, 0, none⟩)), (11, .pointer (some ⟨r32_b2, 0, none⟩))] a ∧ SAT w0 ([imm I, pt r32_b2 #[.pointer (some ⟨r32_b4, 0, none⟩), .int .i64 x67, .int .i64 x68, .int .i64 x69] 51, pt r32_b4 #[.pointer (some ⟨r23_b2, 0, none⟩), .int .i64 x70, .int .i64 x71] 64, pt r23_b2 #[.slice p73 l72.length c74, .map (some b78), .bool x79, .bool x80, .int .i64 x81, .int .u64 x82, .int .i64 x83, .int .i64 x84, .int .i64 x85] 60, pt b21 #[.int .u64 x3.Keep, .int .i64 x3.Tear] 40, own e_disk_sector 62 p73 c74 l72, mpo (kInt .i64) (fun x : disk_sector => Value.agg #[.string x.s_, .int .i64 x.at_]) b78 l76] ++ F0) w) ?_ ?_
          · refine cw_seq ?_
            refine cw_region ?_
            refine ow_vals 3 (j := 3) [0, 2, 7, 9, 11, 50, 51, 52] [(0, .int .i64 x0), (2, .int .u8 x2), (7, .pointer (some ⟨b21, 0, none⟩)), (9, .pointer (some ⟨r23_b2, 0, none⟩)), (11, .pointer (some ⟨r32_b2, 0, none⟩)), (50, .pointer (some ⟨r32_b2, 0, none⟩)), (51, .int .i64 x0), (52, .int .u8 x1)] rfl (by kernel_rfl) ?_
            obtain ⟨r48, h49, hF⟩ := bind_some hF
            refine ow_pw rfl (pw_call (F := [pt r23_b2 #[.slice r23_p4 r23_s1.sure_.length r23_c5, .map (some r23_b7), .bool r23_s1.off_, .bool r23_s1.armed_, .int .i64 r23_s1.left_, .int .u64 r23_s1.fall_.Keep, .int .i64 r23_s1.fall_.Tear, .int .i64 r23_s1.acts_, .int .i64 r23_s1.falls_] 60, pt r32_b4 #[.pointer (some ⟨r23_b2, 0, none⟩), .int .i64 r32_s1.2.boot_, .int .i64 r32_s1.2.n_] 64, pt r32_b2 #[.pointer (some ⟨r32_b4, 0, none⟩), .int .i64 r32_s1.1.base_, .int .i64 r32_s1.1.slots_, .int .i64 r32_s1.1.shred_] 51, pt b21 #[.int .u64 x3.Keep, .int .i64 x3.Tear] 40, own e_disk_sector 62 r23_p4 r23_c5 r23_s1.sure_, mpo (kInt .i64) (fun x : disk_sector => Value.agg #[.string x.s_, .int .i64 x.at_]) r23_b7 r23_s1.wait_] ++ F0) rfl rfl rfl rfl rfl rfl rfl (by kernel_rfl) (perm_of_pulls [0] rfl) (c_law13_key _ x1 r48 h49) ?_)
            rintro _ _ ⟨rfl, rfl⟩
            refine nw_H (H' := [imm I, pt r23_b2 #[.slice r23_p4 r23_s1.sure_.length r23_c5, .map (some r23_b7), .bool r23_s1.off_, .bool r23_s1.armed_, .int .i64 r23_s1.left_, .int .u64 r23_s1.fall_.Keep, .int .i64 r23_s1.fall_.Tear, .int .i64 r23_s1.acts_, .int .i64 r23_s1.falls_] 60, pt r32_b4 #[.pointer (some ⟨r23_b2, 0, none⟩), .int .i64 r32_s1.2.boot_, .int .i64 r32_s1.2.n_] 64, pt r32_b2 #[.pointer (some ⟨r32_b4, 0, none⟩), .int .i64 r32_s1.1.base_, .int .i64 r32_s1.1.slots_, .int .i64 r32_s1.1.shred_] 51, pt b21 #[.int .u64 x3.Keep, .int .i64 x3.Tear] 40, own e_disk_sector 62 r23_p4 r23_c5 r23_s1.sure_, mpo (kInt .i64) (fun x : disk_sector => Value.agg #[.string x.s_, .int .i64 x.at_]) r23_b7 r23_s1.wait_] ++ F0) rfl (nw_ow ?_)
            obtain ⟨r50, h51, hF⟩ := bind_some hF
            refine ow_pw rfl (pw_call (F := [pt b21 #[.int .u64 x3.Keep, .int .i64 x3.Tear] 40] ++ F0) rfl rfl rfl rfl rfl rfl rfl (by kernel_rfl) (perm_of_pulls [0, 2, 1, 0, 1, 1] rfl) (c_keyring_Ring_Put _ x0 r48 r32_s1.1 r32_s1.2 r23_s1 r32_b2 r32_b4 r23_p4 r23_c5 r23_b7 r23_b2 r50 h51) ?_)
            rintro _ _ ⟨r50_p1, r50_c2, r50_b4, rfl, rfl⟩
            refine nw_H (H' := [imm I, pt r32_b2 #[.pointer (some ⟨r32_b4, 0, none⟩), .int .i64 r32_s1.1.base_, .int .i64 r32_s1.1.slots_, .int .i64 r32_s1.1.shred_] 51, pt r32_b4 #[.pointer (some ⟨r23_b2, 0, none⟩), .int .i64 r50.2.1.boot_, .int .i64 r50.2.1.n_] 64, pt r23_b2 #[.slice r50_p1 r50.2.2.sure_.length r50_c2, .map (some r50_b4), .bool r50.2.2.off_, .bool r50.2.2.armed_, .int .i64 r50.2.2.left_, .int .u64 r50.2.2.fall_.Keep, .int .i64 r50.2.2.fall_.Tear, .int .i64 r50.2.2.acts_, .int .i64 r50.2.2.falls_] 60, own e_disk_sector 62 r50_p1 r50_c2 r50.2.2.sure_, mpo (kInt .i64) (fun x : disk_sector => Value.agg #[.string x.s_, .int .i64 x.at_]) r50_b4 r50.2.2.wait_, pt b21 #[.int .u64 x3.Keep, .int .i64 x3.Tear] 40] ++ F0) rfl (nw_ow ?_)
            refine ow_vals 2 (j := 7) [0, 2, 7, 9, 11, 56] [(0, .int .i64 x0), (2, .int .u8 x2), (7, .pointer (some ⟨b21, 0, none⟩)), (9, .pointer (some ⟨r23_b2, 0, none⟩)), (11, .pointer (some ⟨r32_b2, 0, none⟩)), (56, .bool (r50.1 != 0))] rfl (by kernel_rfl) ?_
            rcases if_some hF with ⟨h54, hF⟩ | ⟨h54, hF⟩
            · refine ow_slots (L' := [(0, .int .i64 x0), (2, .int .u8 x2), (7, .pointer (some ⟨b21, 0, none⟩)), (9, .pointer (some ⟨r23_b2, 0, none⟩)), (11, .pointer (some ⟨r32_b2, 0, none⟩)), (56, .bool true)]) (by rw [h54]) ?_
              refine ow_vals 14 (j := 21) [0, 7, 9, 11, 70] [(0, .int .i64 x0), (7, .pointer (some ⟨b21, 0, none⟩)), (9, .pointer (some ⟨r23_b2, 0, none⟩)), (11, .pointer (some ⟨r32_b2, 0, none⟩)), (70, .bool true)] rfl (by kernel_rfl) ?_
              refine ow_end rfl ?_
              refine ew_then ?_
              refine cw_cond_t rfl rfl rfl ?_
              refine cw_seq ?_
              refine cw_region ?_
              refine ow_vals 1 (j := 1) [8] [(8, .bool false)] rfl (by kernel_rfl) ?_
              refine ow_end rfl ?_
              refine ew_then ?_
              refine cw_ret ?_
              refine ew_then_ret ?_
              have hR := Option.some.inj hF
              subst hR
              have hR := hK47
              try dsimp only [Thru] at hR
              subst hR
              exact fin1 (H1 := [imm I]) (fun w hs => sat_to [1, 1, 1, 1, 1, 1, 0] 6 rfl hs) rfl (rr_tmp rfl) ⟨rfl, rfl⟩
            · refine ow_slots (L' := [(0, .int .i64 x0), (2, .int .u8 x2), (7, .pointer (some ⟨b21, 0, none⟩)), (9, .pointer (some ⟨r23_b2, 0, none⟩)), (11, .pointer (some ⟨r32_b2, 0, none⟩)), (56, .bool false)]) (by rw [h54]) ?_
              refine ow_vals 4 (j := 11) [0, 7, 9, 11, 56, 57, 59, 60] [(0, .int .i64 x0), (7, .pointer (some ⟨b21, 0, none⟩)), (9, .pointer (some ⟨r23_b2, 0, none⟩)), (11, .pointer (some ⟨r32_b2, 0, none⟩)), (56, .bool false), (57, .pointer (some ⟨r32_b2, 0, none⟩)), (59, .int .i64 (IntKind.i64.wrap (x0 + 1))), (60, .int .u8 x2)] rfl (by kernel_rfl) ?_
              obtain ⟨r55, h56, hF⟩ := bind_some hF
              refine ow_pw rfl (pw_call (F := [pt r32_b2 #[.pointer (some ⟨r32_b4, 0, none⟩), .int .i64 r32_s1.1.base_, .int .i64 r32_s1.1.slots_, .int .i64 r32_s1.1.shred_] 51, pt r32_b4 #[.pointer (some ⟨r23_b2, 0, none⟩), .int .i64 r50.2.1.boot_, .int .i64 r50.2.1.n_] 64, pt r23_b2 #[.slice r50_p1 r50.2.2.sure_.length r50_c2, .map (some r50_b4), .bool r50.2.2.off_, .bool r50.2.2.armed_, .int .i64 r50.2.2.left_, .int .u64 r50.2.2.fall_.Keep, .int .i64 r50.2.2.fall_.Tear, .int .i64 r50.2.2.acts_, .int .i64 r50.2.2.falls_] 60, own e_disk_sector 62 r50_p1 r50_c2 r50.2.2.sure_, mpo (kInt .i64) (fun x : disk_sector => Value.agg #[.string x.s_, .int .i64 x.at_]) r50_b4 r50.2.2.wait_, pt b21 #[.int .u64 x3.Keep, .int .i64 x3.Tear] 40] ++ F0) rfl rfl rfl rfl rfl rfl rfl (by kernel_rfl) (perm_of_pulls [0] rfl) (c_law13_key _ x2 r55 h56) ?_)
              rintro _ _ ⟨rfl, rfl⟩
              refine nw_H (H' := [imm I, pt r32_b2 #[.pointer (some ⟨r32_b4, 0, none⟩), .int .i64 r32_s1.1.base_, .int .i64 r32_s1.1.slots_, .int .i64 r32_s1.1.shred_] 51, pt r32_b4 #[.pointer (some ⟨r23_b2, 0, none⟩), .int .i64 r50.2.1.boot_, .int .i64 r50.2.1.n_] 64, pt r23_b2 #[.slice r50_p1 r50.2.2.sure_.length r50_c2, .map (some r50_b4), .bool r50.2.2.off_, .bool r50.2.2.armed_, .int .i64 r50.2.2.left_, .int .u64 r50.2.2.fall_.Keep, .int .i64 r50.2.2.fall_.Tear, .int .i64 r50.2.2.acts_, .int .i64 r50.2.2.falls_] 60, own e_disk_sector 62 r50_p1 r50_c2 r50.2.2.sure_, mpo (kInt .i64) (fun x : disk_sector => Value.agg #[.string x.s_, .int .i64 x.at_]) r50_b4 r50.2.2.wait_, pt b21 #[.int .u64 x3.Keep, .int .i64 x3.Tear] 40] ++ F0) rfl (nw_ow ?_)
              obtain ⟨r57, h58, hF⟩ := bind_some hF
              refine ow_pw rfl (pw_call (F := [pt b21 #[.int .u64 x3.Keep, .int .i64 x3.Tear] 40] ++ F0) rfl rfl rfl rfl rfl rfl rfl (by kernel_rfl) (perm_of_pulls [0, 0, 0, 0, 0, 0] rfl) (c_keyring_Ring_Put _ (IntKind.i64.wrap (x0 + 1)) r55 r32_s1.1 r50.2.1 r50.2.2 r32_b2 r32_b4 r50_p1 r50_c2 r50_b4 r23_b2 r57 h58) ?_)
              rintro _ _ ⟨r57_p1, r57_c2, r57_b4, rfl, rfl⟩
              refine nw_H (H' := [imm I, pt r32_b2 #[.pointer (some ⟨r32_b4, 0, none⟩), .int .i64 r32_s1.1.base_, .int .i64 r32_s1.1.slots_, .int .i64 r32_s1.1.shred_] 51, pt r32_b4 #[.pointer (some ⟨r23_b2, 0, none⟩), .int .i64 r57.2.1.boot_, .int .i64 r57.2.1.n_] 64, pt r23_b2 #[.slice r57_p1 r57.2.2.sure_.length r57_c2, .map (some r57_b4), .bool r57.2.2.off_, .bool r57.2.2.armed_, .int .i64 r57.2.2.left_, .int .u64 r57.2.2.fall_.Keep, .int .i64 r57.2.2.fall_.Tear, .int .i64 r57.2.2.acts_, .int .i64 r57.2.2.falls_] 60, own e_disk_sector 62 r57_p1 r57_c2 r57.2.2.sure_, mpo (kInt .i64) (fun x : disk_sector => Value.agg #[.string x.s_, .int .i64 x.at_]) r57_b4 r57.2.2.wait_, pt b21 #[.int .u64 x3.Keep, .int .i64 x3.Tear] 40] ++ F0) rfl (nw_ow ?_)
              refine ow_vals 3 (j := 16) [0, 7, 9, 11, 65] [(0, .int .i64 x0), (7, .pointer (some ⟨b21, 0, none⟩)), (9, .pointer (some ⟨r23_b2, 0, none⟩)), (11, .pointer (some ⟨r32_b2, 0, none⟩)), (65, .bool (r57.1 != 0))] rfl (by kernel_rfl) ?_
              rcases if_some hF with ⟨h61, hF⟩ | ⟨h61, hF⟩
              · refine ow_slots (L' := [(0, .int .i64 x0), (7, .pointer (some ⟨b21, 0, none⟩)), (9, .pointer (some ⟨r23_b2, 0, none⟩)), (11, .pointer (some ⟨r32_b2, 0, none⟩)), (65, .bool true)]) (by rw [h61]) ?_
                refine ow_vals 5 (j := 21) [0, 7, 9, 11, 70] [(0, .int .i64 x0), (7, .pointer (some ⟨b21, 0, none⟩)), (9, .pointer (some ⟨r23_b2, 0, none⟩)), (11, .pointer (some ⟨r32_b2, 0, none⟩)), (70, .bool true)] rfl (by kernel_rfl) ?_
                refine ow_end rfl ?_
                refine ew_then ?_
                refine cw_cond_t rfl rfl rfl ?_
                refine cw_seq ?_
                refine cw_region ?_
                refine ow_vals 1 (j := 1) [8] [(8, .bool false)] rfl (by kernel_rfl) ?_
                refine ow_end rfl ?_
                refine ew_then ?_
                refine cw_ret ?_
                refine ew_then_ret ?_
                have hR := Option.some.inj hF
                subst hR
                have hR := hK47
                try dsimp only [Thru] at hR
                subst hR
                exact fin1 (H1 := [imm I]) (fun w hs => sat_to [1, 1, 1, 1, 1, 1, 0] 6 rfl hs) rfl (rr_tmp rfl) ⟨rfl, rfl⟩
              · refine ow_slots (L' := [(0, .int .i64 x0), (7, .pointer (some ⟨b21, 0, none⟩)), (9, .pointer (some ⟨r23_b2, 0, none⟩)), (11, .pointer (some ⟨r32_b2, 0, none⟩)), (65, .bool false)]) (by rw [h61]) ?_
                refine ow_vals 2 (j := 18) [0, 7, 9, 11, 65, 66, 67] [(0, .int .i64 x0), (7, .pointer (some ⟨b21, 0, none⟩)), (9, .pointer (some ⟨r23_b2, 0, none⟩)), (11, .pointer (some ⟨r32_b2, 0, none⟩)), (65, .bool false), (66, .pointer (some ⟨r32_b2, 0, none⟩)), (67, .int .i64 x0)] rfl (by kernel_rfl) ?_
                obtain ⟨r62, h63, hF⟩ := bind_some hF
                refine ow_pw rfl (pw_call (F := [pt b21 #[.int .u64 x3.Keep, .int .i64 x3.Tear] 40] ++ F0) rfl rfl rfl rfl rfl rfl rfl (by kernel_rfl) (perm_of_pulls [0, 0, 0, 0, 0, 0] rfl) (c_keyring_Ring_Shred _ x0 r32_s1.1 r57.2.1 r57.2.2 r32_b2 r32_b4 r57_p1 r57_c2 r57_b4 r23_b2 r62 h63) ?_)
                rintro _ _ ⟨r62_p1, r62_c2, r62_b4, rfl, rfl⟩
                refine nw_H (H' := [imm I, pt r32_b2 #[.pointer (some ⟨r32_b4, 0, none⟩), .int .i64 r62.2.1.base_, .int .i64 r62.2.1.slots_, .int .i64 r62.2.1.shred_] 51, pt r32_b4 #[.pointer (some ⟨r23_b2, 0, none⟩), .int .i64 r57.2.1.boot_, .int .i64 r57.2.1.n_] 64, pt r23_b2 #[.slice r62_p1 r62.2.2.sure_.length r62_c2, .map (some r62_b4), .bool r62.2.2.off_, .bool r62.2.2.armed_, .int .i64 r62.2.2.left_, .int .u64 r62.2.2.fall_.Keep, .int .i64 r62.2.2.fall_.Tear, .int .i64 r62.2.2.acts_, .int .i64 r62.2.2.falls_] 60, own e_disk_sector 62 r62_p1 r62_c2 r62.2.2.sure_, mpo (kInt .i64) (fun x : disk_sector => Value.agg #[.string x.s_, .int .i64 x.at_]) r62_b4 r62.2.2.wait_, pt b21 #[.int .u64 x3.Keep, .int .i64 x3.Tear] 40] ++ F0) rfl (nw_ow ?_)
                refine ow_vals 2 (j := 21) [0, 7, 9, 11, 70] [(0, .int .i64 x0), (7, .pointer (some ⟨b21, 0, none⟩)), (9, .pointer (some ⟨r23_b2, 0, none⟩)), (11, .pointer (some ⟨r32_b2, 0, none⟩)), (70, .bool (r62.1 != 0))] rfl (by kernel_rfl) ?_
                refine ow_end rfl ?_
                refine ew_then ?_
                rcases if_some hF with ⟨h66, hF⟩ | ⟨h66, hF⟩
                · refine cw_cond_t rfl rfl h66 ?_
                  refine cw_seq ?_
                  refine cw_region ?_
                  refine ow_vals 1 (j := 1) [8] [(8, .bool false)] rfl (by kernel_rfl) ?_
                  refine ow_end rfl ?_
                  refine ew_then ?_
                  refine cw_ret ?_
                  refine ew_then_ret ?_
                  have hR := Option.some.inj hF
                  subst hR
                  have hR := hK47
                  try dsimp only [Thru] at hR
                  subst hR
                  exact fin1 (H1 := [imm I]) (fun w hs => sat_to [1, 1, 1, 1, 1, 1, 0] 6 rfl hs) rfl (rr_tmp rfl) ⟨rfl, rfl⟩
                · refine cw_cond_f rfl rfl h66 ?_
                  refine cw_skip ?_
                  have hR := Option.some.inj hF
                  exact fun a w hf hs => ⟨r62.2.1.base_, r62.2.1.slots_, r62.2.1.shred_, r57.2.1.boot_, r57.2.1.n_, r62.2.2.sure_, r62.2.2.wait_, r62.2.2.off_, r62.2.2.armed_, r62.2.2.left_, r62.2.2.fall_.Keep, r62.2.2.fall_.Tear, r62.2.2.acts_, r62.2.2.falls_, r62_p1, r62_c2, r62_b4, hR, hf.keep [0, 7, 9, 11], sat_to [0, 0, 0, 0, 2, 0, 0] 0 rfl hs⟩
          · rintro a w ⟨x67, x68, x69, x70, x71, l72, l76, x79, x80, x81, x82, x83, x84, x85, p73, c74, b78, hv, hf, hs⟩
            subst hv
            replace hF := hK47
            clear hK47
            try dsimp only [Thru] at hF
            revert a w
            show CW _ _ _ 117 [(0, .int .i64 x0), (7, .pointer (some ⟨b21, 0, none⟩)), (9, .pointer (some ⟨r23_b2, 0, none⟩)), (11, .pointer (some ⟨r32_b2, 0, none⟩))] (SAT w0 ([imm I, pt r32_b2 #[.pointer (some ⟨r32_b4, 0, none⟩), .int .i64 x67, .int .i64 x68, .int .i64 x69] 51, pt r32_b4 #[.pointer (some ⟨r23_b2, 0, none⟩), .int .i64 x70, .int .i64 x71] 64, pt r23_b2 #[.slice p73 l72.length c74, .map (some b78), .bool x79, .bool x80, .int .i64 x81, .int .u64 x82, .int .i64 x83, .int .i64 x84, .int .i64 x85] 60, pt b21 #[.int .u64 x3.Keep, .int .i64 x3.Tear] 40, own e_disk_sector 62 p73 c74 l72, mpo (kInt .i64) (fun x : disk_sector => Value.agg #[.string x.s_, .int .i64 x.at_]) b78 l76] ++ F0))
            unfold F.law13_KeyringShreds.r5 at hF
            refine cw_seq ?_
            refine cw_region ?_
            refine ow_vals 1 (j := 1) [0, 7, 9, 11, 71] [(0, .int .i64 x0), (7, .pointer (some ⟨b21, 0, none⟩)), (9, .pointer (some ⟨r23_b2, 0, none⟩)), (11, .pointer (some ⟨r32_b2, 0, none⟩)), (71, .pointer (some ⟨r23_b2, 0, none⟩))] rfl (by kernel_rfl) ?_
            obtain ⟨r86, h87, hF⟩ := bind_some hF
            refine ow_pw rfl (pw_call (F := [pt r32_b2 #[.pointer (some ⟨r32_b4, 0, none⟩), .int .i64 x67, .int .i64 x68, .int .i64 x69] 51, pt r32_b4 #[.pointer (some ⟨r23_b2, 0, none⟩), .int .i64 x70, .int .i64 x71] 64, pt b21 #[.int .u64 x3.Keep, .int .i64 x3.Tear] 40] ++ F0) rfl rfl rfl rfl rfl rfl rfl (by kernel_rfl) (perm_of_pulls [0, 2, 3, 3] rfl) (c_disk_Disk_Image _ (⟨l72, l76, x79, x80, x81, (⟨x82, x83⟩ : disk_Fall), x84, x85⟩ : disk_Disk) p73 c74 b78 r23_b2 r86 h87) ?_)
            rintro _ _ ⟨rfl, rfl⟩
            refine nw_H (H' := [imm I, pt r23_b2 #[.slice p73 ((⟨l72, l76, x79, x80, x81, (⟨x82, x83⟩ : disk_Fall), x84, x85⟩ : disk_Disk).sure_).length c74, .map (some b78), .bool ((⟨l72, l76, x79, x80, x81, (⟨x82, x83⟩ : disk_Fall), x84, x85⟩ : disk_Disk).off_), .bool ((⟨l72, l76, x79, x80, x81, (⟨x82, x83⟩ : disk_Fall), x84, x85⟩ : disk_Disk).armed_), .int .i64 ((⟨l72, l76, x79, x80, x81, (⟨x82, x83⟩ : disk_Fall), x84, x85⟩ : disk_Disk).left_), .int .u64 ((⟨l72, l76, x79, x80, x81, (⟨x82, x83⟩ : disk_Fall), x84, x85⟩ : disk_Disk).fall_.Keep), .int .i64 ((⟨l72, l76, x79, x80, x81, (⟨x82, x83⟩ : disk_Fall), x84, x85⟩ : disk_Disk).fall_.Tear), .int .i64 ((⟨l72, l76, x79, x80, x81, (⟨x82, x83⟩ : disk_Fall), x84, x85⟩ : disk_Disk).acts_), .int .i64 ((⟨l72, l76, x79, x80, x81, (⟨x82, x83⟩ : disk_Fall), x84, x85⟩ : disk_Disk).falls_)] 60, own e_disk_sector 62 p73 c74 ((⟨l72, l76, x79, x80, x81, (⟨x82, x83⟩ : disk_Fall), x84, x85⟩ : disk_Disk).sure_), mpo (kInt .i64) (fun x : disk_sector => Value.agg #[.string x.s_, .int .i64 x.at_]) b78 ((⟨l72, l76, x79, x80, x81, (⟨x82, x83⟩ : disk_Fall), x84, x85⟩ : disk_Disk).wait_), pt r32_b2 #[.pointer (some ⟨r32_b4, 0, none⟩), .int .i64 x67, .int .i64 x68, .int .i64 x69] 51, pt r32_b4 #[.pointer (some ⟨r23_b2, 0, none⟩), .int .i64 x70, .int .i64 x71] 64, pt b21 #[.int .u64 x3.Keep, .int .i64 x3.Tear] 40] ++ F0) rfl (nw_ow ?_)
            refine ow_vals 1 (j := 3) [0, 7, 9, 11, 12] [(0, .int .i64 x0), (7, .pointer (some ⟨b21, 0, none⟩)), (9, .pointer (some ⟨r23_b2, 0, none⟩)), (11, .pointer (some ⟨r32_b2, 0, none⟩)), (12, .string r86)] rfl (by kernel_rfl) ?_
            refine ow_end rfl ?_
            refine ew_then ?_
            refine cw_seq ?_
            refine cw_region ?_
            refine ow_vals 1 (j := 1) [0, 7, 9, 11, 12, 73] [(0, .int .i64 x0), (7, .pointer (some ⟨b21, 0, none⟩)), (9, .pointer (some ⟨r23_b2, 0, none⟩)), (11, .pointer (some ⟨r32_b2, 0, none⟩)), (12, .string r86), (73, .pointer (some ⟨r23_b2, 0, none⟩))] rfl (by kernel_rfl) ?_
            refine ow_pw rfl (pw_quiet (v := .agg #[.int .u64 x3.Keep, .int .i64 x3.Tear]) rfl rfl rfl rfl (q_load 6 rfl rfl rfl (by kernel_rfl)) (nw_ow ?_))
            obtain ⟨r88, h89, hF⟩ := bind_some hF
            refine ow_pw rfl (pw_call (F := [pt r32_b2 #[.pointer (some ⟨r32_b4, 0, none⟩), .int .i64 x67, .int .i64 x68, .int .i64 x69] 51, pt r32_b4 #[.pointer (some ⟨r23_b2, 0, none⟩), .int .i64 x70, .int .i64 x71] 64, pt b21 #[.int .u64 x3.Keep, .int .i64 x3.Tear] 40] ++ F0) rfl rfl rfl rfl rfl rfl rfl (by kernel_rfl) (perm_of_pulls [0, 0, 0, 0] rfl) (c_disk_Disk_Crash _ x3 (⟨l72, l76, x79, x80, x81, (⟨x82, x83⟩ : disk_Fall), x84, x85⟩ : disk_Disk) p73 c74 b78 r23_b2 r88 h89) ?_)
            rintro _ _ ⟨r88_p1, r88_c2, r88_b4, rfl, rfl⟩
            refine nw_H (H' := [imm I, pt r23_b2 #[.slice r88_p1 r88.2.sure_.length r88_c2, .map (some r88_b4), .bool r88.2.off_, .bool r88.2.armed_, .int .i64 r88.2.left_, .int .u64 r88.2.fall_.Keep, .int .i64 r88.2.fall_.Tear, .int .i64 r88.2.acts_, .int .i64 r88.2.falls_] 60, own e_disk_sector 62 r88_p1 r88_c2 r88.2.sure_, mpo (kInt .i64) (fun x : disk_sector => Value.agg #[.string x.s_, .int .i64 x.at_]) r88_b4 r88.2.wait_, pt r32_b2 #[.pointer (some ⟨r32_b4, 0, none⟩), .int .i64 x67, .int .i64 x68, .int .i64 x69] 51, pt r32_b4 #[.pointer (some ⟨r23_b2, 0, none⟩), .int .i64 x70, .int .i64 x71] 64, pt b21 #[.int .u64 x3.Keep, .int .i64 x3.Tear] 40] ++ F0) rfl (nw_ow ?_)
            refine ow_end rfl ?_
            refine ew_then ?_
            obtain ⟨v92, hF, hK92⟩ := thru_some hF
            refine cw_mid (fun a w => .inl () = v92 ∧ Fr 117 [(0, .int .i64 x0), (9, .pointer (some ⟨r23_b2, 0, none⟩)), (11, .pointer (some ⟨r32_b2, 0, none⟩)), (12, .string r86)] a ∧ SAT w0 ([imm I, pt r23_b2 #[.slice r88_p1 r88.2.sure_.length r88_c2, .map (some r88_b4), .bool r88.2.off_, .bool r88.2.armed_, .int .i64 r88.2.left_, .int .u64 r88.2.fall_.Keep, .int .i64 r88.2.fall_.Tear, .int .i64 r88.2.acts_, .int .i64 r88.2.falls_] 60, pt r32_b2 #[.pointer (some ⟨r32_b4, 0, none⟩), .int .i64 x67, .int .i64 x68, .int .i64 x69] 51, pt r32_b4 #[.pointer (some ⟨r23_b2, 0, none⟩), .int .i64 x70, .int .i64 x71] 64, pt b21 #[.int .u64 x3.Keep, .int .i64 x3.Tear] 40, own e_disk_sector 62 r88_p1 r88_c2 r88.2.sure_, mpo (kInt .i64) (fun x : disk_sector => Value.agg #[.string x.s_, .int .i64 x.at_]) r88_b4 r88.2.wait_] ++ F0) w) ?_ ?_
            · refine cw_seq ?_
              refine cw_region ?_
              refine ow_vals 2 (j := 2) [0, 9, 11, 12, 76, 77] [(0, .int .i64 x0), (9, .pointer (some ⟨r23_b2, 0, none⟩)), (11, .pointer (some ⟨r32_b2, 0, none⟩)), (12, .string r86), (76, .string r86), (77, .pointer (some ⟨r23_b2, 0, none⟩))] rfl (by kernel_rfl) ?_
              obtain ⟨r93, h94, hF⟩ := bind_some hF
              refine ow_pw rfl (pw_call (F := [pt r32_b2 #[.pointer (some ⟨r32_b4, 0, none⟩), .int .i64 x67, .int .i64 x68, .int .i64 x69] 51, pt r32_b4 #[.pointer (some ⟨r23_b2, 0, none⟩), .int .i64 x70, .int .i64 x71] 64, pt b21 #[.int .u64 x3.Keep, .int .i64 x3.Tear] 40] ++ F0) rfl rfl rfl rfl rfl rfl rfl (by kernel_rfl) (perm_of_pulls [0, 0, 0, 0] rfl) (c_disk_Disk_Image _ r88.2 r88_p1 r88_c2 r88_b4 r23_b2 r93 h94) ?_)
              rintro _ _ ⟨rfl, rfl⟩
              refine nw_H (H' := [imm I, pt r23_b2 #[.slice r88_p1 r88.2.sure_.length r88_c2, .map (some r88_b4), .bool r88.2.off_, .bool r88.2.armed_, .int .i64 r88.2.left_, .int .u64 r88.2.fall_.Keep, .int .i64 r88.2.fall_.Tear, .int .i64 r88.2.acts_, .int .i64 r88.2.falls_] 60, own e_disk_sector 62 r88_p1 r88_c2 r88.2.sure_, mpo (kInt .i64) (fun x : disk_sector => Value.agg #[.string x.s_, .int .i64 x.at_]) r88_b4 r88.2.wait_, pt r32_b2 #[.pointer (some ⟨r32_b4, 0, none⟩), .int .i64 x67, .int .i64 x68, .int .i64 x69] 51, pt r32_b4 #[.pointer (some ⟨r23_b2, 0, none⟩), .int .i64 x70, .int .i64 x71] 64, pt b21 #[.int .u64 x3.Keep, .int .i64 x3.Tear] 40] ++ F0) rfl (nw_ow ?_)
              refine ow_vals 2 (j := 5) [0, 9, 11, 12, 80] [(0, .int .i64 x0), (9, .pointer (some ⟨r23_b2, 0, none⟩)), (11, .pointer (some ⟨r32_b2, 0, none⟩)), (12, .string r86), (80, .bool (!(seqB r86 r93)))] rfl (by kernel_rfl) ?_
              rcases if_some hF with ⟨h95, hF⟩ | ⟨h95, hF⟩
              · refine ow_slots (L' := [(0, .int .i64 x0), (9, .pointer (some ⟨r23_b2, 0, none⟩)), (11, .pointer (some ⟨r32_b2, 0, none⟩)), (12, .string r86), (80, .bool true)]) (by rw [h95]) ?_
                refine ow_vals 4 (j := 9) [0, 9, 11, 12, 84] [(0, .int .i64 x0), (9, .pointer (some ⟨r23_b2, 0, none⟩)), (11, .pointer (some ⟨r32_b2, 0, none⟩)), (12, .string r86), (84, .bool true)] rfl (by kernel_rfl) ?_
                refine ow_end rfl ?_
                refine ew_then ?_
                refine cw_cond_t rfl rfl rfl ?_
                refine cw_seq ?_
                refine cw_region ?_
                refine ow_vals 1 (j := 1) [8] [(8, .bool false)] rfl (by kernel_rfl) ?_
                refine ow_end rfl ?_
                refine ew_then ?_
                refine cw_ret ?_
                refine ew_then_ret ?_
                have hR := Option.some.inj hF
                subst hR
                have hR := hK92
                try dsimp only [Thru] at hR
                subst hR
                exact fin1 (H1 := [imm I]) (fun w hs => sat_to [1, 1, 1, 1, 1, 1, 0] 6 rfl hs) rfl (rr_tmp rfl) ⟨rfl, rfl⟩
              · refine ow_slots (L' := [(0, .int .i64 x0), (9, .pointer (some ⟨r23_b2, 0, none⟩)), (11, .pointer (some ⟨r32_b2, 0, none⟩)), (12, .string r86), (80, .bool false)]) (by rw [h95]) ?_
                refine ow_vals 4 (j := 9) [0, 9, 11, 12, 84] [(0, .int .i64 x0), (9, .pointer (some ⟨r23_b2, 0, none⟩)), (11, .pointer (some ⟨r32_b2, 0, none⟩)), (12, .string r86), (84, .bool ((r86.size : Int) != 1280))] rfl (by kernel_rfl) ?_
                refine ow_end rfl ?_
                refine ew_then ?_
                rcases if_some hF with ⟨h96, hF⟩ | ⟨h96, hF⟩
                · refine cw_cond_t rfl rfl h96 ?_
                  refine cw_seq ?_
                  refine cw_region ?_
                  refine ow_vals 1 (j := 1) [8] [(8, .bool false)] rfl (by kernel_rfl) ?_
                  refine ow_end rfl ?_
                  refine ew_then ?_
                  refine cw_ret ?_
                  refine ew_then_ret ?_
                  have hR := Option.some.inj hF
                  subst hR
                  have hR := hK92
                  try dsimp only [Thru] at hR
                  subst hR
                  exact fin1 (H1 := [imm I]) (fun w hs => sat_to [1, 1, 1, 1, 1, 1, 0] 6 rfl hs) rfl (rr_tmp rfl) ⟨rfl, rfl⟩
                · refine cw_cond_f rfl rfl h96 ?_
                  refine cw_skip ?_
                  have hR := Option.some.inj hF
                  exact fun a w hf hs => ⟨hR, hf.keep [0, 9, 11, 12], sat_to [0, 0, 2, 2, 2, 0, 0] 0 rfl hs⟩
            · rintro a w ⟨hv, hf, hs⟩
              subst hv
              replace hF := hK92
              clear hK92
              try dsimp only [Thru] at hF
              revert a w
              show CW _ _ _ 117 [(0, .int .i64 x0), (9, .pointer (some ⟨r23_b2, 0, none⟩)), (11, .pointer (some ⟨r32_b2, 0, none⟩)), (12, .string r86)] (SAT w0 ([imm I, pt r23_b2 #[.slice r88_p1 r88.2.sure_.length r88_c2, .map (some r88_b4), .bool r88.2.off_, .bool r88.2.armed_, .int .i64 r88.2.left_, .int .u64 r88.2.fall_.Keep, .int .i64 r88.2.fall_.Tear, .int .i64 r88.2.acts_, .int .i64 r88.2.falls_] 60, pt r32_b2 #[.pointer (some ⟨r32_b4, 0, none⟩), .int .i64 x67, .int .i64 x68, .int .i64 x69] 51, pt r32_b4 #[.pointer (some ⟨r23_b2, 0, none⟩), .int .i64 x70, .int .i64 x71] 64, pt b21 #[.int .u64 x3.Keep, .int .i64 x3.Tear] 40, own e_disk_sector 62 r88_p1 r88_c2 r88.2.sure_, mpo (kInt .i64) (fun x : disk_sector => Value.agg #[.string x.s_, .int .i64 x.at_]) r88_b4 r88.2.wait_] ++ F0))
              unfold F.law13_KeyringShreds.r6 at hF
              refine cw_seq ?_
              refine cw_region ?_
              refine ow_vals 7 (j := 7) [0, 9, 11, 85, 88, 91] [(0, .int .i64 x0), (9, .pointer (some ⟨r23_b2, 0, none⟩)), (11, .pointer (some ⟨r32_b2, 0, none⟩)), (85, .string r86), (88, .int .i64 (IntKind.i64.wrap (64 * (IntKind.i64.wrap (5 + x0))))), (91, .int .i64 (IntKind.i64.wrap (64 * (IntKind.i64.wrap (6 + x0)))))] rfl (by kernel_rfl) ?_
              obtain ⟨h97, hF⟩ := chk_some hF
              refine ow_pw rfl (pw_quiet (v := .string (r86.extract (IntKind.i64.wrap (64 * (IntKind.i64.wrap (5 + x0)))).toNat (IntKind.i64.wrap (64 * (IntKind.i64.wrap (6 + x0)))).toNat)) rfl rfl rfl rfl (q_slice_str rfl (by kernel_rfl) rfl rfl rfl h97.1 h97.2.1 h97.2.2) (nw_ow ?_))
              refine ow_vals 1 (j := 9) [0, 9, 11, 13] [(0, .int .i64 x0), (9, .pointer (some ⟨r23_b2, 0, none⟩)), (11, .pointer (some ⟨r32_b2, 0, none⟩)), (13, .string (r86.extract (IntKind.i64.wrap (64 * (IntKind.i64.wrap (5 + x0)))).toNat (IntKind.i64.wrap (64 * (IntKind.i64.wrap (6 + x0)))).toNat))] rfl (by kernel_rfl) ?_
              refine ow_end rfl ?_
              refine ew_then ?_
              refine cw_seq ?_
              refine cw_region ?_
              refine ow_vals 1 (j := 1) [0, 9, 11, 93] [(0, .int .i64 x0), (9, .pointer (some ⟨r23_b2, 0, none⟩)), (11, .pointer (some ⟨r32_b2, 0, none⟩)), (93, .string (r86.extract (IntKind.i64.wrap (64 * (IntKind.i64.wrap (5 + x0)))).toNat (IntKind.i64.wrap (64 * (IntKind.i64.wrap (6 + x0)))).toNat))] rfl (by kernel_rfl) ?_
              obtain ⟨h98, hF⟩ := chk_some hF
              refine ow_pw rfl (pw_make (E := 5) (eInt .u8) 0 rfl rfl rfl rfl rfl (by kernel_rfl) (by kernel_rfl) rfl rfl rfl h98.1 (room_max h98.1 h98.2) (room_bytes h98.1 h98.2) fun p99 c100 => nw_ow ?_)
              refine ow_pw rfl (pw_quiet (v := .string (bstr (List.replicate (64 : Int).toNat 0 : List Int))) rfl rfl rfl rfl (q_bytes_str_own 0 rfl rfl (by kernel_rfl) (by kernel_rfl) rfl) (nw_ow ?_))
              refine ow_vals 2 (j := 5) [0, 9, 11, 97] [(0, .int .i64 x0), (9, .pointer (some ⟨r23_b2, 0, none⟩)), (11, .pointer (some ⟨r32_b2, 0, none⟩)), (97, .bool (seqB (r86.extract (IntKind.i64.wrap (64 * (IntKind.i64.wrap (5 + x0)))).toNat (IntKind.i64.wrap (64 * (IntKind.i64.wrap (6 + x0)))).toNat) (bstr (List.replicate (64 : Int).toNat 0 : List Int))))] rfl (by kernel_rfl) ?_
              rcases if_some hF with ⟨h102, hF⟩ | ⟨h102, hF⟩
              · refine ow_slots (L' := [(0, .int .i64 x0), (9, .pointer (some ⟨r23_b2, 0, none⟩)), (11, .pointer (some ⟨r32_b2, 0, none⟩)), (97, .bool true)]) (by rw [h102]) ?_
                refine ow_vals 1 (j := 6) [0, 11, 97, 98] [(0, .int .i64 x0), (11, .pointer (some ⟨r32_b2, 0, none⟩)), (97, .bool true), (98, .pointer (some ⟨r23_b2, 0, none⟩))] rfl (by kernel_rfl) ?_
                obtain ⟨r103, h104, hF⟩ := bind_some hF
                refine ow_pw rfl (pw_call (F := [own (eInt .u8) 5 p99 c100 (List.replicate (64 : Int).toNat 0 : List Int), pt r32_b2 #[.pointer (some ⟨r32_b4, 0, none⟩), .int .i64 x67, .int .i64 x68, .int .i64 x69] 51, pt r32_b4 #[.pointer (some ⟨r23_b2, 0, none⟩), .int .i64 x70, .int .i64 x71] 64, pt b21 #[.int .u64 x3.Keep, .int .i64 x3.Tear] 40] ++ F0) rfl rfl rfl rfl rfl rfl rfl (by kernel_rfl) (perm_of_pulls [1, 1, 4, 4] rfl) (c_disk_Disk_Start _ r88.2 r88_p1 r88_c2 r88_b4 r23_b2 r103 h104) ?_)
                rintro _ _ ⟨r103_p1, r103_c2, r103_b4, rfl, rfl⟩
                refine nw_H (H' := [imm I, pt r23_b2 #[.slice r103_p1 r103.2.sure_.length r103_c2, .map (some r103_b4), .bool r103.2.off_, .bool r103.2.armed_, .int .i64 r103.2.left_, .int .u64 r103.2.fall_.Keep, .int .i64 r103.2.fall_.Tear, .int .i64 r103.2.acts_, .int .i64 r103.2.falls_] 60, own e_disk_sector 62 r103_p1 r103_c2 r103.2.sure_, mpo (kInt .i64) (fun x : disk_sector => Value.agg #[.string x.s_, .int .i64 x.at_]) r103_b4 r103.2.wait_, own (eInt .u8) 5 p99 c100 (List.replicate (64 : Int).toNat 0 : List Int), pt r32_b2 #[.pointer (some ⟨r32_b4, 0, none⟩), .int .i64 x67, .int .i64 x68, .int .i64 x69] 51, pt r32_b4 #[.pointer (some ⟨r23_b2, 0, none⟩), .int .i64 x70, .int .i64 x71] 64, pt b21 #[.int .u64 x3.Keep, .int .i64 x3.Tear] 40] ++ F0) rfl (nw_ow ?_)
                refine ow_vals 3 (j := 10) [0, 11, 102] [(0, .int .i64 x0), (11, .pointer (some ⟨r32_b2, 0, none⟩)), (102, .bool (r103.1 == 0))] rfl (by kernel_rfl) ?_
                rcases if_some hF with ⟨h107, hF⟩ | ⟨h107, hF⟩
                · refine ow_slots (L' := [(0, .int .i64 x0), (11, .pointer (some ⟨r32_b2, 0, none⟩)), (102, .bool true)]) (by rw [h107]) ?_
                  refine ow_vals 2 (j := 12) [0, 11, 102, 103, 104] [(0, .int .i64 x0), (11, .pointer (some ⟨r32_b2, 0, none⟩)), (102, .bool true), (103, .pointer (some ⟨r32_b2, 0, none⟩)), (104, .int .i64 x0)] rfl (by kernel_rfl) ?_
                  obtain ⟨r108, h109, hF⟩ := bind_some hF
                  refine ow_pw rfl (pw_call (F := [own (eInt .u8) 5 p99 c100 (List.replicate (64 : Int).toNat 0 : List Int), pt b21 #[.int .u64 x3.Keep, .int .i64 x3.Tear] 40] ++ F0) rfl rfl rfl rfl rfl rfl rfl (by kernel_rfl) (perm_of_pulls [0, 4, 4, 0, 0, 0] rfl) (c_keyring_Ring_Free _ x0 (⟨x67, x68, x69⟩ : keyring_Ring) (⟨x70, x71⟩ : guard_Guard) r103.2 r32_b2 r32_b4 r103_p1 r103_c2 r103_b4 r23_b2 r108 h109) ?_)
                  rintro _ _ ⟨rfl, rfl⟩
                  refine nw_H (H' := [imm I, pt r32_b2 #[.pointer (some ⟨r32_b4, 0, none⟩), .int .i64 ((⟨x67, x68, x69⟩ : keyring_Ring).base_), .int .i64 ((⟨x67, x68, x69⟩ : keyring_Ring).slots_), .int .i64 ((⟨x67, x68, x69⟩ : keyring_Ring).shred_)] 51, pt r32_b4 #[.pointer (some ⟨r23_b2, 0, none⟩), .int .i64 ((⟨x70, x71⟩ : guard_Guard).boot_), .int .i64 ((⟨x70, x71⟩ : guard_Guard).n_)] 64, pt r23_b2 #[.slice r103_p1 r103.2.sure_.length r103_c2, .map (some r103_b4), .bool r103.2.off_, .bool r103.2.armed_, .int .i64 r103.2.left_, .int .u64 r103.2.fall_.Keep, .int .i64 r103.2.fall_.Tear, .int .i64 r103.2.acts_, .int .i64 r103.2.falls_] 60, own e_disk_sector 62 r103_p1 r103_c2 r103.2.sure_, mpo (kInt .i64) (fun x : disk_sector => Value.agg #[.string x.s_, .int .i64 x.at_]) r103_b4 r103.2.wait_, own (eInt .u8) 5 p99 c100 (List.replicate (64 : Int).toNat 0 : List Int), pt b21 #[.int .u64 x3.Keep, .int .i64 x3.Tear] 40] ++ F0) rfl (nw_ow ?_)
                  refine ow_vals 2 (j := 15) [0, 11, 107] [(0, .int .i64 x0), (11, .pointer (some ⟨r32_b2, 0, none⟩)), (107, .bool r108)] rfl (by kernel_rfl) ?_
                  rcases if_some hF with ⟨h110, hF⟩ | ⟨h110, hF⟩
                  · refine ow_slots (L' := [(0, .int .i64 x0), (11, .pointer (some ⟨r32_b2, 0, none⟩)), (107, .bool true)]) (by rw [h110]) ?_
                    refine ow_vals 3 (j := 18) [107, 108, 110] [(107, .bool true), (108, .pointer (some ⟨r32_b2, 0, none⟩)), (110, .int .i64 (IntKind.i64.wrap (x0 + 1)))] rfl (by kernel_rfl) ?_
                    obtain ⟨r111, h112, hF⟩ := bind_some hF
                    refine ow_pw rfl (pw_call (F := [own (eInt .u8) 5 p99 c100 (List.replicate (64 : Int).toNat 0 : List Int), pt b21 #[.int .u64 x3.Keep, .int .i64 x3.Tear] 40] ++ F0) rfl rfl rfl rfl rfl rfl rfl (by kernel_rfl) (perm_of_pulls [0, 0, 0, 0, 0, 0] rfl) (c_keyring_Ring_Free _ (IntKind.i64.wrap (x0 + 1)) (⟨x67, x68, x69⟩ : keyring_Ring) (⟨x70, x71⟩ : guard_Guard) r103.2 r32_b2 r32_b4 r103_p1 r103_c2 r103_b4 r23_b2 r111 h112) ?_)
                    rintro _ _ ⟨rfl, rfl⟩
                    refine nw_H (H' := [imm I, pt r32_b2 #[.pointer (some ⟨r32_b4, 0, none⟩), .int .i64 ((⟨x67, x68, x69⟩ : keyring_Ring).base_), .int .i64 ((⟨x67, x68, x69⟩ : keyring_Ring).slots_), .int .i64 ((⟨x67, x68, x69⟩ : keyring_Ring).shred_)] 51, pt r32_b4 #[.pointer (some ⟨r23_b2, 0, none⟩), .int .i64 ((⟨x70, x71⟩ : guard_Guard).boot_), .int .i64 ((⟨x70, x71⟩ : guard_Guard).n_)] 64, pt r23_b2 #[.slice r103_p1 r103.2.sure_.length r103_c2, .map (some r103_b4), .bool r103.2.off_, .bool r103.2.armed_, .int .i64 r103.2.left_, .int .u64 r103.2.fall_.Keep, .int .i64 r103.2.fall_.Tear, .int .i64 r103.2.acts_, .int .i64 r103.2.falls_] 60, own e_disk_sector 62 r103_p1 r103_c2 r103.2.sure_, mpo (kInt .i64) (fun x : disk_sector => Value.agg #[.string x.s_, .int .i64 x.at_]) r103_b4 r103.2.wait_, own (eInt .u8) 5 p99 c100 (List.replicate (64 : Int).toNat 0 : List Int), pt b21 #[.int .u64 x3.Keep, .int .i64 x3.Tear] 40] ++ F0) rfl (nw_ow ?_)
                    refine ow_vals 3 (j := 22) [114] [(114, .bool (!r111))] rfl (by kernel_rfl) ?_
                    rcases if_some hF with ⟨h113, hF⟩ | ⟨h113, hF⟩
                    · refine ow_slots (L' := [(114, .bool true)]) (by rw [h113]) ?_
                      obtain ⟨r114, h115, hF⟩ := bind_some hF
                      refine ow_pw rfl (pw_call (F := [pt r32_b2 #[.pointer (some ⟨r32_b4, 0, none⟩), .int .i64 ((⟨x67, x68, x69⟩ : keyring_Ring).base_), .int .i64 ((⟨x67, x68, x69⟩ : keyring_Ring).slots_), .int .i64 ((⟨x67, x68, x69⟩ : keyring_Ring).shred_)] 51, pt r32_b4 #[.pointer (some ⟨r23_b2, 0, none⟩), .int .i64 ((⟨x70, x71⟩ : guard_Guard).boot_), .int .i64 ((⟨x70, x71⟩ : guard_Guard).n_)] 64, pt r23_b2 #[.slice r103_p1 r103.2.sure_.length r103_c2, .map (some r103_b4), .bool r103.2.off_, .bool r103.2.armed_, .int .i64 r103.2.left_, .int .u64 r103.2.fall_.Keep, .int .i64 r103.2.fall_.Tear, .int .i64 r103.2.acts_, .int .i64 r103.2.falls_] 60, own e_disk_sector 62 r103_p1 r103_c2 r103.2.sure_, mpo (kInt .i64) (fun x : disk_sector => Value.agg #[.string x.s_, .int .i64 x.at_]) r103_b4 r103.2.wait_, own (eInt .u8) 5 p99 c100 (List.replicate (64 : Int).toNat 0 : List Int), pt b21 #[.int .u64 x3.Keep, .int .i64 x3.Tear] 40] ++ F0) rfl rfl rfl rfl rfl rfl rfl (by kernel_rfl) (perm_of_pulls [0] rfl) (c_law13_awake _ r114 h115) ?_)
                      rintro _ _ ⟨rfl, rfl⟩
                      refine nw_H (H' := [imm I, pt r32_b2 #[.pointer (some ⟨r32_b4, 0, none⟩), .int .i64 ((⟨x67, x68, x69⟩ : keyring_Ring).base_), .int .i64 ((⟨x67, x68, x69⟩ : keyring_Ring).slots_), .int .i64 ((⟨x67, x68, x69⟩ : keyring_Ring).shred_)] 51, pt r32_b4 #[.pointer (some ⟨r23_b2, 0, none⟩), .int .i64 ((⟨x70, x71⟩ : guard_Guard).boot_), .int .i64 ((⟨x70, x71⟩ : guard_Guard).n_)] 64, pt r23_b2 #[.slice r103_p1 r103.2.sure_.length r103_c2, .map (some r103_b4), .bool r103.2.off_, .bool r103.2.armed_, .int .i64 r103.2.left_, .int .u64 r103.2.fall_.Keep, .int .i64 r103.2.fall_.Tear, .int .i64 r103.2.acts_, .int .i64 r103.2.falls_] 60, own e_disk_sector 62 r103_p1 r103_c2 r103.2.sure_, mpo (kInt .i64) (fun x : disk_sector => Value.agg #[.string x.s_, .int .i64 x.at_]) r103_b4 r103.2.wait_, own (eInt .u8) 5 p99 c100 (List.replicate (64 : Int).toNat 0 : List Int), pt b21 #[.int .u64 x3.Keep, .int .i64 x3.Tear] 40] ++ F0) rfl (nw_ow ?_)
                      refine ow_vals 2 (j := 25) [8] [(8, .bool r114)] rfl (by kernel_rfl) ?_
                      refine ow_end rfl ?_
                      refine ew_then ?_
                      refine cw_ret ?_
                      have hR := Option.some.inj hF
                      subst hR
                      exact fin1 (H1 := [imm I]) (fun w hs => sat_to [1, 1, 1, 1, 1, 1, 1, 0] 7 rfl hs) rfl (rr_tmp rfl) ⟨rfl, rfl⟩
                    · refine ow_slots (L' := [(114, .bool false)]) (by rw [h113]) ?_
                      refine ow_vals 3 (j := 25) [8] [(8, .bool false)] rfl (by kernel_rfl) ?_
                      refine ow_end rfl ?_
                      refine ew_then ?_
                      refine cw_ret ?_
                      have hR := Option.some.inj hF
                      subst hR
                      exact fin1 (H1 := [imm I]) (fun w hs => sat_to [1, 1, 1, 1, 1, 1, 1, 0] 7 rfl hs) rfl (rr_tmp rfl) ⟨rfl, rfl⟩
                  · refine ow_slots (L' := [(0, .int .i64 x0), (11, .pointer (some ⟨r32_b2, 0, none⟩)), (107, .bool false)]) (by rw [h110]) ?_
                    refine ow_vals 10 (j := 25) [8] [(8, .bool false)] rfl (by kernel_rfl) ?_
                    refine ow_end rfl ?_
                    refine ew_then ?_
                    refine cw_ret ?_
                    have hR := Option.some.inj hF
                    subst hR
                    exact fin1 (H1 := [imm I]) (fun w hs => sat_to [1, 1, 1, 1, 1, 1, 1, 0] 7 rfl hs) rfl (rr_tmp rfl) ⟨rfl, rfl⟩
                · refine ow_slots (L' := [(0, .int .i64 x0), (11, .pointer (some ⟨r32_b2, 0, none⟩)), (102, .bool false)]) (by rw [h107]) ?_
                  refine ow_vals 15 (j := 25) [8] [(8, .bool false)] rfl (by kernel_rfl) ?_
                  refine ow_end rfl ?_
                  refine ew_then ?_
                  refine cw_ret ?_
                  have hR := Option.some.inj hF
                  subst hR
                  exact fin1 (H1 := [imm I]) (fun w hs => sat_to [1, 1, 1, 1, 1, 1, 1, 0] 7 rfl hs) rfl (rr_tmp rfl) ⟨rfl, rfl⟩
              · refine ow_slots (L' := [(0, .int .i64 x0), (9, .pointer (some ⟨r23_b2, 0, none⟩)), (11, .pointer (some ⟨r32_b2, 0, none⟩)), (97, .bool false)]) (by rw [h102]) ?_
                refine ow_vals 20 (j := 25) [8] [(8, .bool false)] rfl (by kernel_rfl) ?_
                refine ow_end rfl ?_
                refine ew_then ?_
                refine cw_ret ?_
                have hR := Option.some.inj hF
                subst hR
                exact fin1 (H1 := [imm I]) (fun w hs => sat_to [0, 1, 1, 1, 1, 1, 1, 0] 7 rfl hs) rfl (rr_tmp rfl) ⟨rfl, rfl⟩

end Go.Proofs.YtilpkebkhibpeaaDoor
