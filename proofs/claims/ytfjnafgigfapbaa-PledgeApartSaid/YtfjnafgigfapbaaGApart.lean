/- What the functions compute, and that the code computes it: printed by a program of this claim (wip/tools), for the group Apart. -/
import Derived.Test.YtfjnafgigfapbaaGNobody
namespace Go.Proofs.Ytfjnafgigfapbaa
set_option linter.all false
open Go Go.RowKit Go.Fw
set_option linter.unusedVariables false

structure law06_Field where
  ID : ByteArray
  Name : ByteArray
  Salt : ByteArray
  Value : ByteArray
def law06_Field.cells (x : law06_Field) : List Go.Value := [.string x.ID, .string x.Name, .string x.Salt, .string x.Value]
def e_law06_Field : Enc law06_Field := ⟨law06_Field.cells, 4, fun _ => rfl, fun _ => rfl, by decide⟩

def F.mill_Mill_Twins_1 : Option (ByteArray × ByteArray × Bool) :=
  Option.bind (F.mill_Mill_none_1) (fun (r21 : Bool) => if r21 then (some (((ByteArray.mk #[]), (ByteArray.mk #[]), false))) else (none))
set_option maxRecDepth 100000 in
set_option maxHeartbeats 4000000 in
theorem c_mill_Mill_Twins_1 (I : Hl) (res : ByteArray × ByteArray × Bool) (hF : F.mill_Mill_Twins_1 = some res) : Tr Try.prog 29 [.pointer none] [imm I] (fun r H' => r = .tuple #[.string res.1, .string res.2.1, .bool res.2.2] ∧ H' = [imm I]) := by
  unfold F.mill_Mill_Twins_1 at hF
  refine tr_of_cw (fn := Try.f29) Try.func29 rfl (Nat.le_of_ble_eq_true rfl) 21 rfl fun F0 w0 => ?_
  refine cw_keep [0] (L' := [(0, .pointer none)]) rfl ?_
  refine cw_state (S' := SAT w0 ([imm I] ++ F0)) (fun w hs => hs) ?_
  refine cw_seq ?_
  refine cw_region ?_
  refine ow_vals 3 (j := 3) [0] [(0, .pointer none)] rfl (by kernel_rfl) ?_
  refine ow_end rfl ?_
  refine ew_then ?_
  refine cw_seq ?_
  refine cw_seq ?_
  refine cw_region ?_
  refine ow_vals 1 (j := 1) [0, 5] [(0, .pointer none), (5, .pointer none)] rfl (by kernel_rfl) ?_
  obtain ⟨r21, h22, hF⟩ := bind_some hF
  refine ow_pw rfl (pw_call (F := [] ++ F0) rfl rfl rfl rfl rfl rfl rfl (by kernel_rfl) (perm_of_pulls [0] rfl) (c_mill_Mill_none_1 _ r21 h22) ?_)
  rintro _ _ ⟨rfl, rfl⟩
  refine nw_H (H' := [imm I] ++ F0) rfl (nw_ow ?_)
  refine ow_end rfl ?_
  refine ew_then ?_
  rcases if_some hF with ⟨h23, hF⟩ | ⟨h23, hF⟩
  · refine cw_cond_t rfl rfl h23 ?_
    refine cw_seq ?_
    refine cw_region ?_
    refine ow_vals 3 (j := 3) [2, 3, 4] [(2, .string (ByteArray.mk #[])), (3, .string (ByteArray.mk #[])), (4, .bool false)] rfl (by kernel_rfl) ?_
    refine ow_end rfl ?_
    refine ew_then ?_
    refine cw_ret ?_
    refine ew_then_ret ?_
    have hR := Option.some.inj hF
    subst hR
    exact fin3 (H1 := [imm I]) (fun w hs => sat_to [0] 0 rfl hs) rfl (rr_tmp rfl) (rr_tmp rfl) (rr_tmp rfl) ⟨rfl, rfl⟩
  · refine cw_cond_f rfl rfl h23 ?_
    refine cw_skip ?_
    refine ew_then ?_
    refine cw_seq ?_
    refine cw_open 17 (SAT w0 ([imm I])) (by kernel_rfl) (f := 17) rfl (fun w hs => sat_drew hs) ?_
    refine aw_vals [0] (f' := 16) (m' := 1) [0, 7] [(0, .pointer none), (7, .pointer none)] (fun _ _ _ _ _ h => calm_fin (P := Try.prog) (fn := Try.f29) _ _ _ _ _ h) (fun w hs => sat_pulls [0] (G := [] ++ F0) rfl hs) rfl (by kernel_rfl) ?_
    cases hF


def F.law06_PledgeApart.r1 (x1 : law06_Field) (x2 : law06_Field) (l31 : List mill_Entry) : Option (Bool) :=
  Option.bind (F.mill_With l31) (fun (r35 : (Option mill_Mill) × Int) => optC r35.1 (if r35.2 != 0 then (Option.bind (F.law06_awake) (fun (r41 : Bool) => some (r41))) else (Option.bind (F.law06_cut x1.ID) (fun (r43 : ByteArray) => Option.bind (F.law06_cut x1.Name) (fun (r45 : ByteArray) => Option.bind (F.law06_cut x1.Salt) (fun (r47 : ByteArray) => Option.bind (F.law06_cut x1.Value) (fun (r49 : ByteArray) => Option.bind (F.law06_cut x2.ID) (fun (r51 : ByteArray) => Option.bind (F.law06_cut x2.Name) (fun (r53 : ByteArray) => Option.bind (F.law06_cut x2.Salt) (fun (r55 : ByteArray) => Option.bind (F.law06_cut x2.Value) (fun (r57 : ByteArray) => Option.bind (F.pledge_Of_1 r43 r45 r47 r49) (fun (r59 : ByteArray) => Option.bind (F.pledge_Of_1 r51 r53 r55 r57) (fun (r61 : ByteArray) => Option.bind (F.mill_Mill_Twins_1) (fun (r63 : ByteArray × ByteArray × Bool) => if ((seqB r43 r51) && ((seqB r45 r53) && ((seqB r47 r55) && ((seqB r49 r57) && (true))))) then (Option.bind (F.law06_awake) (fun (r66 : Bool) => some (r66))) else (if !(seqB r59 r61) then (Option.bind (F.law06_awake) (fun (r69 : Bool) => some (r69))) else (if r63.2.2 then (if !(seqB r63.1 r63.2.1) then (Option.bind (F.law06_awake) (fun (r73 : Bool) => some (r73))) else (some (false))) else (some (false))))))))))))))))) (fun (r35_s1 : mill_Mill) => if r35.2 != 0 then (Option.bind (F.law06_awake) (fun (r76 : Bool) => some (r76))) else (Option.bind (F.law06_cut x1.ID) (fun (r78 : ByteArray) => Option.bind (F.law06_cut x1.Name) (fun (r80 : ByteArray) => Option.bind (F.law06_cut x1.Salt) (fun (r82 : ByteArray) => Option.bind (F.law06_cut x1.Value) (fun (r84 : ByteArray) => Option.bind (F.law06_cut x2.ID) (fun (r86 : ByteArray) => Option.bind (F.law06_cut x2.Name) (fun (r88 : ByteArray) => Option.bind (F.law06_cut x2.Salt) (fun (r90 : ByteArray) => Option.bind (F.law06_cut x2.Value) (fun (r92 : ByteArray) => Option.bind (F.pledge_Of r78 r80 r82 r84 r35_s1) (fun (r94 : ByteArray × mill_Mill) => Option.bind (F.pledge_Of r86 r88 r90 r92 r94.2) (fun (r98 : ByteArray × mill_Mill) => Option.bind (F.mill_Mill_Twins r98.2) (fun (r102 : ByteArray × ByteArray × Bool) => if ((seqB r78 r86) && ((seqB r80 r88) && ((seqB r82 r90) && ((seqB r84 r92) && (true))))) then (Option.bind (F.law06_awake) (fun (r105 : Bool) => some (r105))) else (if !(seqB r94.1 r98.1) then (Option.bind (F.law06_awake) (fun (r108 : Bool) => some (r108))) else (if r102.2.2 then (if !(seqB r102.1 r102.2.1) then (Option.bind (F.law06_awake) (fun (r112 : Bool) => some (r112))) else (some (false))) else (some (false))))))))))))))))))
def F.law06_PledgeApart (x0 : List mill_Entry) (x1 : law06_Field) (x2 : law06_Field) : Option Bool :=
  Option.bind (if decide ((x0.length : Int) > 10) then (chk (0 ≤ (0 : Int) ∧ (0 : Int) ≤ (10 : Int) ∧ (10 : Int) ≤ (x0.length : Int)) (some (((x0.drop (0 : Int).toNat).take ((10 : Int).toNat - (0 : Int).toNat))))) else (some (x0))) (fun x => F.law06_PledgeApart.r1 x1 x2 x)
set_option maxRecDepth 100000 in
set_option maxHeartbeats 4000000 in
theorem c_law06_PledgeApart (I : Hl) (x0 : List mill_Entry) (x1 : law06_Field) (x2 : law06_Field) (p0 : Option Addr) (c0 : Nat) (res : Bool) (hF : F.law06_PledgeApart x0 x1 x2 = some res) (hr0 : ro I e_mill_Entry p0 c0 x0) : Tr Try.prog 9 [.slice p0 x0.length c0, .agg #[.string x1.ID, .string x1.Name, .string x1.Salt, .string x1.Value], .agg #[.string x2.ID, .string x2.Name, .string x2.Salt, .string x2.Value]] [imm I] (fun r H' => r = .bool res ∧ H' = [imm I]) := by
  unfold F.law06_PledgeApart at hF
  refine tr_of_cw (fn := Try.f9) Try.func9 rfl (Nat.le_of_ble_eq_true rfl) 98 rfl fun F0 w0 => ?_
  refine cw_keep [0, 1, 2] (L' := [(0, .slice p0 x0.length c0), (1, .agg #[.string x1.ID, .string x1.Name, .string x1.Salt, .string x1.Value]), (2, .agg #[.string x2.ID, .string x2.Name, .string x2.Salt, .string x2.Value])]) rfl ?_
  refine cw_state (S' := SAT w0 ([imm I] ++ F0)) (fun w hs => hs) ?_
  refine cw_seq ?_
  refine cw_region ?_
  refine ow_pw rfl (pw_box (cs := #[.string x1.ID, .string x1.Name, .string x1.Salt, .string x1.Value]) rfl rfl rfl rfl rfl rfl fun b21 => nw_ow ?_)
  refine ow_pw rfl (pw_box (cs := #[.string x2.ID, .string x2.Name, .string x2.Salt, .string x2.Value]) rfl rfl rfl rfl rfl rfl fun b23 => nw_ow ?_)
  refine ow_vals 1 (j := 3) [0, 4, 5] [(0, .slice p0 x0.length c0), (4, .pointer (some ⟨b21, 0, none⟩)), (5, .pointer (some ⟨b23, 0, none⟩))] rfl (by kernel_rfl) ?_
  refine ow_end rfl ?_
  refine ew_then ?_
  obtain ⟨v25, hF, hK25⟩ := bind_some hF
  refine cw_mid (fun a w => ∃ (l31 : List mill_Entry), ∃ (p32 : Option Addr), ∃ (c33 : Nat), l31 = v25 ∧ ro I e_mill_Entry p32 c33 l31 ∧ Fr 98 [(0, .slice p32 l31.length c33), (4, .pointer (some ⟨b21, 0, none⟩)), (5, .pointer (some ⟨b23, 0, none⟩))] a ∧ SAT w0 ([imm I, pt b23 #[.string x2.ID, .string x2.Name, .string x2.Salt, .string x2.Value] 45, pt b21 #[.string x1.ID, .string x1.Name, .string x1.Salt, .string x1.Value] 45] ++ F0) w) ?_ ?_
  · refine cw_seq ?_
    refine cw_region ?_
    refine ow_vals 3 (j := 3) [0, 4, 5, 16] [(0, .slice p0 x0.length c0), (4, .pointer (some ⟨b21, 0, none⟩)), (5, .pointer (some ⟨b23, 0, none⟩)), (16, .bool (decide ((x0.length : Int) > 10)))] rfl (by kernel_rfl) ?_
    refine ow_end rfl ?_
    refine ew_then ?_
    rcases if_some hF with ⟨h26, hF⟩ | ⟨h26, hF⟩
    · refine cw_cond_t rfl rfl h26 ?_
      refine cw_region ?_
      refine ow_vals 1 (j := 1) [4, 5, 17] [(4, .pointer (some ⟨b21, 0, none⟩)), (5, .pointer (some ⟨b23, 0, none⟩)), (17, .slice p0 x0.length c0)] rfl (by kernel_rfl) ?_
      obtain ⟨h27, hF⟩ := chk_some hF
      refine ow_pw rfl (pw_slice_ro (E := 63) 4 hr0 rfl rfl rfl rfl rfl (by kernel_rfl) rfl rfl rfl rfl h27 fun p28 c29 h30 => nw_ow ?_)
      refine ow_vals 1 (j := 3) [0, 4, 5] [(0, .slice p28 ((x0.drop (0 : Int).toNat).take ((10 : Int).toNat - (0 : Int).toNat)).length c29), (4, .pointer (some ⟨b21, 0, none⟩)), (5, .pointer (some ⟨b23, 0, none⟩))] rfl (by kernel_rfl) ?_
      refine ow_end rfl ?_
      have hR := Option.some.inj hF
      exact fun a w hf hs => ⟨(x0.drop (0 : Int).toNat).take ((10 : Int).toNat - (0 : Int).toNat), p28, c29, hR, h30, hf.keep [0, 4, 5], sat_to [2, 0, 0] 0 rfl hs⟩
    · refine cw_cond_f rfl rfl h26 ?_
      refine cw_skip ?_
      have hR := Option.some.inj hF
      exact fun a w hf hs => ⟨x0, p0, c0, hR, hr0, hf.keep [0, 4, 5], sat_to [2, 0, 0] 0 rfl hs⟩
  · rintro a w ⟨l31, p32, c33, hv, h34, hf, hs⟩
    subst hv
    replace hF := hK25
    clear hK25
    try dsimp only at hF
    revert a w
    show CW _ _ _ 98 [(0, .slice p32 l31.length c33), (4, .pointer (some ⟨b21, 0, none⟩)), (5, .pointer (some ⟨b23, 0, none⟩))] (SAT w0 ([imm I, pt b23 #[.string x2.ID, .string x2.Name, .string x2.Salt, .string x2.Value] 45, pt b21 #[.string x1.ID, .string x1.Name, .string x1.Salt, .string x1.Value] 45] ++ F0))
    unfold F.law06_PledgeApart.r1 at hF
    refine cw_seq ?_
    refine cw_region ?_
    refine ow_vals 1 (j := 1) [4, 5, 20] [(4, .pointer (some ⟨b21, 0, none⟩)), (5, .pointer (some ⟨b23, 0, none⟩)), (20, .slice p32 l31.length c33)] rfl (by kernel_rfl) ?_
    obtain ⟨r35, h36, hF⟩ := bind_some hF
    refine ow_pw rfl (pw_call (F := [pt b23 #[.string x2.ID, .string x2.Name, .string x2.Salt, .string x2.Value] 45, pt b21 #[.string x1.ID, .string x1.Name, .string x1.Salt, .string x1.Value] 45] ++ F0) rfl rfl rfl rfl rfl rfl rfl (by kernel_rfl) (perm_of_pulls [0] rfl) (c_mill_With _ l31 p32 c33 r35 h36 h34) ?_)
    rintro _ _ (⟨hO, rfl, rfl⟩ | ⟨r35_s1, r35_b2, r35_b4, r35_b6, hO, rfl, rfl⟩)
    · rw [hO] at hF
      try dsimp only [optC] at hF
      refine nw_H (H' := [imm I, pt b23 #[.string x2.ID, .string x2.Name, .string x2.Salt, .string x2.Value] 45, pt b21 #[.string x1.ID, .string x1.Name, .string x1.Salt, .string x1.Value] 45] ++ F0) rfl (nw_ow ?_)
      refine ow_vals 5 (j := 7) [4, 5, 7, 8] [(4, .pointer (some ⟨b21, 0, none⟩)), (5, .pointer (some ⟨b23, 0, none⟩)), (7, .pointer none), (8, .int .i64 r35.2)] rfl (by kernel_rfl) ?_
      refine ow_end rfl ?_
      refine ew_then ?_
      refine cw_seq ?_
      refine cw_seq ?_
      refine cw_region ?_
      refine ow_vals 2 (j := 2) [4, 5, 7, 25] [(4, .pointer (some ⟨b21, 0, none⟩)), (5, .pointer (some ⟨b23, 0, none⟩)), (7, .pointer none), (25, .bool (r35.2 != 0))] rfl (by kernel_rfl) ?_
      refine ow_end rfl ?_
      refine ew_then ?_
      rcases if_some hF with ⟨h40, hF⟩ | ⟨h40, hF⟩
      · refine cw_cond_t rfl rfl h40 ?_
        refine cw_seq ?_
        refine cw_region ?_
        obtain ⟨r41, h42, hF⟩ := bind_some hF
        refine ow_pw rfl (pw_call (F := [pt b23 #[.string x2.ID, .string x2.Name, .string x2.Salt, .string x2.Value] 45, pt b21 #[.string x1.ID, .string x1.Name, .string x1.Salt, .string x1.Value] 45] ++ F0) rfl rfl rfl rfl rfl rfl rfl (by kernel_rfl) (perm_of_pulls [0] rfl) (c_law06_awake _ r41 h42) ?_)
        rintro _ _ ⟨rfl, rfl⟩
        refine nw_H (H' := [imm I, pt b23 #[.string x2.ID, .string x2.Name, .string x2.Salt, .string x2.Value] 45, pt b21 #[.string x1.ID, .string x1.Name, .string x1.Salt, .string x1.Value] 45] ++ F0) rfl (nw_ow ?_)
        refine ow_vals 1 (j := 2) [6] [(6, .bool r41)] rfl (by kernel_rfl) ?_
        refine ow_end rfl ?_
        refine ew_then ?_
        refine cw_ret ?_
        refine ew_then_ret ?_
        have hR := Option.some.inj hF
        subst hR
        exact fin1 (H1 := [imm I]) (fun w hs => sat_to [1, 1, 0] 2 rfl hs) rfl (rr_tmp rfl) ⟨rfl, rfl⟩
      · refine cw_cond_f rfl rfl h40 ?_
        refine cw_skip ?_
        refine ew_then ?_
        refine cw_seq ?_
        refine cw_open 13 (SAT w0 ([imm I, pt b23 #[.string x2.ID, .string x2.Name, .string x2.Salt, .string x2.Value] 45, pt b21 #[.string x1.ID, .string x1.Name, .string x1.Salt, .string x1.Value] 45])) (by kernel_rfl) (f := 14) rfl (fun w hs => sat_drew hs) ?_
        refine aw_vals [0, 3, 6, 9] (f' := 10) (m' := 585) [4, 5, 7, 27, 30, 33, 36] [(4, .pointer (some ⟨b21, 0, none⟩)), (5, .pointer (some ⟨b23, 0, none⟩)), (7, .pointer none), (27, .pointer (some ⟨b21, 0, none⟩)), (30, .pointer (some ⟨b21, 1, none⟩)), (33, .pointer (some ⟨b21, 2, none⟩)), (36, .pointer (some ⟨b21, 3, none⟩))] (fun _ _ _ _ _ h => calm_fin (P := Try.prog) (fn := Try.f9) _ _ _ _ _ h) (fun w hs => sat_pulls [0, 0, 0] (G := [] ++ F0) rfl hs) rfl (by kernel_rfl) ?_
        refine aw_quiet 1 (m' := 587) (v := .string x1.ID) 1 [] rfl rfl rfl rfl (by kernel_rfl) (by kernel_rfl) (by kernel_rfl) (fun _ _ _ _ _ h => calm_fin (P := Try.prog) (fn := Try.f9) _ _ _ _ _ h) (fun w hs => sat_pulls [0, 0, 0] (G := [] ++ F0) rfl hs) (q_load 2 rfl rfl rfl (by kernel_rfl)) ?_
        refine aw_quiet 4 (m' := 603) (v := .string x1.Name) 4 [] rfl rfl rfl rfl (by kernel_rfl) (by kernel_rfl) (by kernel_rfl) (fun _ _ _ _ _ h => calm_fin (P := Try.prog) (fn := Try.f9) _ _ _ _ _ h) (fun w hs => sat_pulls [0, 0, 0] (G := [] ++ F0) rfl hs) (q_load 2 rfl rfl rfl (by kernel_rfl)) ?_
        refine aw_quiet 7 (m' := 731) (v := .string x1.Salt) 7 [] rfl rfl rfl rfl (by kernel_rfl) (by kernel_rfl) (by kernel_rfl) (fun _ _ _ _ _ h => calm_fin (P := Try.prog) (fn := Try.f9) _ _ _ _ _ h) (fun w hs => sat_pulls [0, 0, 0] (G := [] ++ F0) rfl hs) (q_load 2 rfl rfl rfl (by kernel_rfl)) ?_
        refine aw_quiet 10 (m' := 1755) (v := .string x1.Value) 10 [] rfl rfl rfl rfl (by kernel_rfl) (by kernel_rfl) (by kernel_rfl) (fun _ _ _ _ _ h => calm_fin (P := Try.prog) (fn := Try.f9) _ _ _ _ _ h) (fun w hs => sat_pulls [0, 0, 0] (G := [] ++ F0) rfl hs) (q_load 2 rfl rfl rfl (by kernel_rfl)) ?_
        obtain ⟨r43, h44, hF⟩ := bind_some hF
        refine aw_only 2 (m' := 1759) (by kernel_rfl) (by kernel_rfl) (pw_call (F := [pt b23 #[.string x2.ID, .string x2.Name, .string x2.Salt, .string x2.Value] 45, pt b21 #[.string x1.ID, .string x1.Name, .string x1.Salt, .string x1.Value] 45] ++ F0) rfl rfl rfl rfl rfl rfl rfl (by kernel_rfl) (perm_of_pulls [0] rfl) (c_law06_cut _ x1.ID r43 h44) ?_)
        rintro _ _ ⟨rfl, rfl⟩
        refine nw_H (H' := [imm I, pt b23 #[.string x2.ID, .string x2.Name, .string x2.Salt, .string x2.Value] 45, pt b21 #[.string x1.ID, .string x1.Name, .string x1.Salt, .string x1.Value] 45] ++ F0) rfl (aw_next (fun w hs => sat_pulls [0, 0, 0] (G := [] ++ F0) rfl hs) ?_)
        obtain ⟨r45, h46, hF⟩ := bind_some hF
        refine aw_only 5 (m' := 1791) (by kernel_rfl) (by kernel_rfl) (pw_call (F := [pt b23 #[.string x2.ID, .string x2.Name, .string x2.Salt, .string x2.Value] 45, pt b21 #[.string x1.ID, .string x1.Name, .string x1.Salt, .string x1.Value] 45] ++ F0) rfl rfl rfl rfl rfl rfl rfl (by kernel_rfl) (perm_of_pulls [0] rfl) (c_law06_cut _ x1.Name r45 h46) ?_)
        rintro _ _ ⟨rfl, rfl⟩
        refine nw_H (H' := [imm I, pt b23 #[.string x2.ID, .string x2.Name, .string x2.Salt, .string x2.Value] 45, pt b21 #[.string x1.ID, .string x1.Name, .string x1.Salt, .string x1.Value] 45] ++ F0) rfl (aw_next (fun w hs => sat_pulls [0, 0, 0] (G := [] ++ F0) rfl hs) ?_)
        obtain ⟨r47, h48, hF⟩ := bind_some hF
        refine aw_only 8 (m' := 2047) (by kernel_rfl) (by kernel_rfl) (pw_call (F := [pt b23 #[.string x2.ID, .string x2.Name, .string x2.Salt, .string x2.Value] 45, pt b21 #[.string x1.ID, .string x1.Name, .string x1.Salt, .string x1.Value] 45] ++ F0) rfl rfl rfl rfl rfl rfl rfl (by kernel_rfl) (perm_of_pulls [0] rfl) (c_law06_cut _ x1.Salt r47 h48) ?_)
        rintro _ _ ⟨rfl, rfl⟩
        refine nw_H (H' := [imm I, pt b23 #[.string x2.ID, .string x2.Name, .string x2.Salt, .string x2.Value] 45, pt b21 #[.string x1.ID, .string x1.Name, .string x1.Salt, .string x1.Value] 45] ++ F0) rfl (aw_next (fun w hs => sat_pulls [0, 0, 0] (G := [] ++ F0) rfl hs) ?_)
        obtain ⟨r49, h50, hF⟩ := bind_some hF
        refine aw_only 11 (m' := 4095) (by kernel_rfl) (by kernel_rfl) (pw_call (F := [pt b23 #[.string x2.ID, .string x2.Name, .string x2.Salt, .string x2.Value] 45, pt b21 #[.string x1.ID, .string x1.Name, .string x1.Salt, .string x1.Value] 45] ++ F0) rfl rfl rfl rfl rfl rfl rfl (by kernel_rfl) (perm_of_pulls [0] rfl) (c_law06_cut _ x1.Value r49 h50) ?_)
        rintro _ _ ⟨rfl, rfl⟩
        refine nw_H (H' := [imm I, pt b23 #[.string x2.ID, .string x2.Name, .string x2.Salt, .string x2.Value] 45, pt b21 #[.string x1.ID, .string x1.Name, .string x1.Salt, .string x1.Value] 45] ++ F0) rfl (aw_next (fun w hs => sat_pulls [0, 0, 0] (G := [] ++ F0) rfl hs) ?_)
        refine aw_vals [12] (f' := 1) (m' := 8191) [4, 5, 7, 39] [(4, .pointer (some ⟨b21, 0, none⟩)), (5, .pointer (some ⟨b23, 0, none⟩)), (7, .pointer none), (39, .agg #[.string r43, .string r45, .string r47, .string r49])] (fun _ _ _ _ _ h => calm_fin (P := Try.prog) (fn := Try.f9) _ _ _ _ _ h) (fun w hs => sat_pulls [0, 0, 0] (G := [] ++ F0) rfl hs) rfl (by kernel_rfl) ?_
        refine aw_only 13 (m' := 16383) (by kernel_rfl) (by kernel_rfl) (pw_store 2 #[.string r43, .string r45, .string r47, .string r49] rfl rfl rfl rfl rfl rfl rfl (by kernel_rfl) (nw_H (H' := [imm I, pt b23 #[.string x2.ID, .string x2.Name, .string x2.Salt, .string x2.Value] 45, pt b21 #[.string r43, .string r45, .string r47, .string r49] 45] ++ F0) rfl (aw_last (by kernel_rfl) ?_)))
        refine aw_keep [4, 5, 7] (L' := [(4, .pointer (some ⟨b21, 0, none⟩)), (5, .pointer (some ⟨b23, 0, none⟩)), (7, .pointer none)]) rfl ?_
        refine aw_end (by kernel_rfl) ?_
        refine ew_then ?_
        refine cw_seq ?_
        refine cw_open 13 (SAT w0 ([imm I, pt b23 #[.string x2.ID, .string x2.Name, .string x2.Salt, .string x2.Value] 45, pt b21 #[.string r43, .string r45, .string r47, .string r49] 45])) (by kernel_rfl) (f := 14) rfl (fun w hs => sat_drew hs) ?_
        refine aw_vals [0, 3, 6, 9] (f' := 10) (m' := 585) [4, 5, 7, 40, 43, 46, 49] [(4, .pointer (some ⟨b21, 0, none⟩)), (5, .pointer (some ⟨b23, 0, none⟩)), (7, .pointer none), (40, .pointer (some ⟨b23, 0, none⟩)), (43, .pointer (some ⟨b23, 1, none⟩)), (46, .pointer (some ⟨b23, 2, none⟩)), (49, .pointer (some ⟨b23, 3, none⟩))] (fun _ _ _ _ _ h => calm_fin (P := Try.prog) (fn := Try.f9) _ _ _ _ _ h) (fun w hs => sat_pulls [0, 0, 0] (G := [] ++ F0) rfl hs) rfl (by kernel_rfl) ?_
        refine aw_quiet 1 (m' := 587) (v := .string x2.ID) 1 [] rfl rfl rfl rfl (by kernel_rfl) (by kernel_rfl) (by kernel_rfl) (fun _ _ _ _ _ h => calm_fin (P := Try.prog) (fn := Try.f9) _ _ _ _ _ h) (fun w hs => sat_pulls [0, 0, 0] (G := [] ++ F0) rfl hs) (q_load 1 rfl rfl rfl (by kernel_rfl)) ?_
        refine aw_quiet 4 (m' := 603) (v := .string x2.Name) 4 [] rfl rfl rfl rfl (by kernel_rfl) (by kernel_rfl) (by kernel_rfl) (fun _ _ _ _ _ h => calm_fin (P := Try.prog) (fn := Try.f9) _ _ _ _ _ h) (fun w hs => sat_pulls [0, 0, 0] (G := [] ++ F0) rfl hs) (q_load 1 rfl rfl rfl (by kernel_rfl)) ?_
        refine aw_quiet 7 (m' := 731) (v := .string x2.Salt) 7 [] rfl rfl rfl rfl (by kernel_rfl) (by kernel_rfl) (by kernel_rfl) (fun _ _ _ _ _ h => calm_fin (P := Try.prog) (fn := Try.f9) _ _ _ _ _ h) (fun w hs => sat_pulls [0, 0, 0] (G := [] ++ F0) rfl hs) (q_load 1 rfl rfl rfl (by kernel_rfl)) ?_
        refine aw_quiet 10 (m' := 1755) (v := .string x2.Value) 10 [] rfl rfl rfl rfl (by kernel_rfl) (by kernel_rfl) (by kernel_rfl) (fun _ _ _ _ _ h => calm_fin (P := Try.prog) (fn := Try.f9) _ _ _ _ _ h) (fun w hs => sat_pulls [0, 0, 0] (G := [] ++ F0) rfl hs) (q_load 1 rfl rfl rfl (by kernel_rfl)) ?_
        obtain ⟨r51, h52, hF⟩ := bind_some hF
        refine aw_only 2 (m' := 1759) (by kernel_rfl) (by kernel_rfl) (pw_call (F := [pt b23 #[.string x2.ID, .string x2.Name, .string x2.Salt, .string x2.Value] 45, pt b21 #[.string r43, .string r45, .string r47, .string r49] 45] ++ F0) rfl rfl rfl rfl rfl rfl rfl (by kernel_rfl) (perm_of_pulls [0] rfl) (c_law06_cut _ x2.ID r51 h52) ?_)
        rintro _ _ ⟨rfl, rfl⟩
        refine nw_H (H' := [imm I, pt b23 #[.string x2.ID, .string x2.Name, .string x2.Salt, .string x2.Value] 45, pt b21 #[.string r43, .string r45, .string r47, .string r49] 45] ++ F0) rfl (aw_next (fun w hs => sat_pulls [0, 0, 0] (G := [] ++ F0) rfl hs) ?_)
        obtain ⟨r53, h54, hF⟩ := bind_some hF
        refine aw_only 5 (m' := 1791) (by kernel_rfl) (by kernel_rfl) (pw_call (F := [pt b23 #[.string x2.ID, .string x2.Name, .string x2.Salt, .string x2.Value] 45, pt b21 #[.string r43, .string r45, .string r47, .string r49] 45] ++ F0) rfl rfl rfl rfl rfl rfl rfl (by kernel_rfl) (perm_of_pulls [0] rfl) (c_law06_cut _ x2.Name r53 h54) ?_)
        rintro _ _ ⟨rfl, rfl⟩
        refine nw_H (H' := [imm I, pt b23 #[.string x2.ID, .string x2.Name, .string x2.Salt, .string x2.Value] 45, pt b21 #[.string r43, .string r45, .string r47, .string r49] 45] ++ F0) rfl (aw_next (fun w hs => sat_pulls [0, 0, 0] (G := [] ++ F0) rfl hs) ?_)
        obtain ⟨r55, h56, hF⟩ := bind_some hF
        refine aw_only 8 (m' := 2047) (by kernel_rfl) (by kernel_rfl) (pw_call (F := [pt b23 #[.string x2.ID, .string x2.Name, .string x2.Salt, .string x2.Value] 45, pt b21 #[.string r43, .string r45, .string r47, .string r49] 45] ++ F0) rfl rfl rfl rfl rfl rfl rfl (by kernel_rfl) (perm_of_pulls [0] rfl) (c_law06_cut _ x2.Salt r55 h56) ?_)
        rintro _ _ ⟨rfl, rfl⟩
        refine nw_H (H' := [imm I, pt b23 #[.string x2.ID, .string x2.Name, .string x2.Salt, .string x2.Value] 45, pt b21 #[.string r43, .string r45, .string r47, .string r49] 45] ++ F0) rfl (aw_next (fun w hs => sat_pulls [0, 0, 0] (G := [] ++ F0) rfl hs) ?_)
        obtain ⟨r57, h58, hF⟩ := bind_some hF
        refine aw_only 11 (m' := 4095) (by kernel_rfl) (by kernel_rfl) (pw_call (F := [pt b23 #[.string x2.ID, .string x2.Name, .string x2.Salt, .string x2.Value] 45, pt b21 #[.string r43, .string r45, .string r47, .string r49] 45] ++ F0) rfl rfl rfl rfl rfl rfl rfl (by kernel_rfl) (perm_of_pulls [0] rfl) (c_law06_cut _ x2.Value r57 h58) ?_)
        rintro _ _ ⟨rfl, rfl⟩
        refine nw_H (H' := [imm I, pt b23 #[.string x2.ID, .string x2.Name, .string x2.Salt, .string x2.Value] 45, pt b21 #[.string r43, .string r45, .string r47, .string r49] 45] ++ F0) rfl (aw_next (fun w hs => sat_pulls [0, 0, 0] (G := [] ++ F0) rfl hs) ?_)
        refine aw_vals [12] (f' := 1) (m' := 8191) [4, 5, 7, 52] [(4, .pointer (some ⟨b21, 0, none⟩)), (5, .pointer (some ⟨b23, 0, none⟩)), (7, .pointer none), (52, .agg #[.string r51, .string r53, .string r55, .string r57])] (fun _ _ _ _ _ h => calm_fin (P := Try.prog) (fn := Try.f9) _ _ _ _ _ h) (fun w hs => sat_pulls [0, 0, 0] (G := [] ++ F0) rfl hs) rfl (by kernel_rfl) ?_
        refine aw_only 13 (m' := 16383) (by kernel_rfl) (by kernel_rfl) (pw_store 1 #[.string r51, .string r53, .string r55, .string r57] rfl rfl rfl rfl rfl rfl rfl (by kernel_rfl) (nw_H (H' := [imm I, pt b23 #[.string r51, .string r53, .string r55, .string r57] 45, pt b21 #[.string r43, .string r45, .string r47, .string r49] 45] ++ F0) rfl (aw_last (by kernel_rfl) ?_)))
        refine aw_keep [4, 5, 7] (L' := [(4, .pointer (some ⟨b21, 0, none⟩)), (5, .pointer (some ⟨b23, 0, none⟩)), (7, .pointer none)]) rfl ?_
        refine aw_end (by kernel_rfl) ?_
        refine ew_then ?_
        refine cw_seq ?_
        refine cw_region ?_
        refine ow_vals 2 (j := 2) [4, 5, 7, 53, 54] [(4, .pointer (some ⟨b21, 0, none⟩)), (5, .pointer (some ⟨b23, 0, none⟩)), (7, .pointer none), (53, .pointer none), (54, .pointer (some ⟨b21, 0, none⟩))] rfl (by kernel_rfl) ?_
        refine ow_pw rfl (pw_quiet (v := .string r43) rfl rfl rfl rfl (q_load 2 rfl rfl rfl (by kernel_rfl)) (nw_ow ?_))
        refine ow_vals 1 (j := 4) [4, 5, 7, 53, 55, 56] [(4, .pointer (some ⟨b21, 0, none⟩)), (5, .pointer (some ⟨b23, 0, none⟩)), (7, .pointer none), (53, .pointer none), (55, .string r43), (56, .pointer (some ⟨b21, 1, none⟩))] rfl (by kernel_rfl) ?_
        refine ow_pw rfl (pw_quiet (v := .string r45) rfl rfl rfl rfl (q_load 2 rfl rfl rfl (by kernel_rfl)) (nw_ow ?_))
        refine ow_vals 1 (j := 6) [4, 5, 7, 53, 55, 57, 58] [(4, .pointer (some ⟨b21, 0, none⟩)), (5, .pointer (some ⟨b23, 0, none⟩)), (7, .pointer none), (53, .pointer none), (55, .string r43), (57, .string r45), (58, .pointer (some ⟨b21, 2, none⟩))] rfl (by kernel_rfl) ?_
        refine ow_pw rfl (pw_quiet (v := .string r47) rfl rfl rfl rfl (q_load 2 rfl rfl rfl (by kernel_rfl)) (nw_ow ?_))
        refine ow_vals 1 (j := 8) [4, 5, 7, 53, 55, 57, 59, 60] [(4, .pointer (some ⟨b21, 0, none⟩)), (5, .pointer (some ⟨b23, 0, none⟩)), (7, .pointer none), (53, .pointer none), (55, .string r43), (57, .string r45), (59, .string r47), (60, .pointer (some ⟨b21, 3, none⟩))] rfl (by kernel_rfl) ?_
        refine ow_pw rfl (pw_quiet (v := .string r49) rfl rfl rfl rfl (q_load 2 rfl rfl rfl (by kernel_rfl)) (nw_ow ?_))
        obtain ⟨r59, h60, hF⟩ := bind_some hF
        refine ow_pw rfl (pw_call (F := [pt b23 #[.string r51, .string r53, .string r55, .string r57] 45, pt b21 #[.string r43, .string r45, .string r47, .string r49] 45] ++ F0) rfl rfl rfl rfl rfl rfl rfl (by kernel_rfl) (perm_of_pulls [0] rfl) (c_pledge_Of_1 _ r43 r45 r47 r49 r59 h60) ?_)
        rintro _ _ ⟨rfl, rfl⟩
        refine nw_H (H' := [imm I, pt b23 #[.string r51, .string r53, .string r55, .string r57] 45, pt b21 #[.string r43, .string r45, .string r47, .string r49] 45] ++ F0) rfl (nw_ow ?_)
        refine ow_vals 1 (j := 11) [4, 5, 7, 9] [(4, .pointer (some ⟨b21, 0, none⟩)), (5, .pointer (some ⟨b23, 0, none⟩)), (7, .pointer none), (9, .string r59)] rfl (by kernel_rfl) ?_
        refine ow_end rfl ?_
        refine ew_then ?_
        refine cw_seq ?_
        refine cw_region ?_
        refine ow_vals 2 (j := 2) [4, 5, 7, 9, 63, 64] [(4, .pointer (some ⟨b21, 0, none⟩)), (5, .pointer (some ⟨b23, 0, none⟩)), (7, .pointer none), (9, .string r59), (63, .pointer none), (64, .pointer (some ⟨b23, 0, none⟩))] rfl (by kernel_rfl) ?_
        refine ow_pw rfl (pw_quiet (v := .string r51) rfl rfl rfl rfl (q_load 1 rfl rfl rfl (by kernel_rfl)) (nw_ow ?_))
        refine ow_vals 1 (j := 4) [4, 5, 7, 9, 63, 65, 66] [(4, .pointer (some ⟨b21, 0, none⟩)), (5, .pointer (some ⟨b23, 0, none⟩)), (7, .pointer none), (9, .string r59), (63, .pointer none), (65, .string r51), (66, .pointer (some ⟨b23, 1, none⟩))] rfl (by kernel_rfl) ?_
        refine ow_pw rfl (pw_quiet (v := .string r53) rfl rfl rfl rfl (q_load 1 rfl rfl rfl (by kernel_rfl)) (nw_ow ?_))
        refine ow_vals 1 (j := 6) [4, 5, 7, 9, 63, 65, 67, 68] [(4, .pointer (some ⟨b21, 0, none⟩)), (5, .pointer (some ⟨b23, 0, none⟩)), (7, .pointer none), (9, .string r59), (63, .pointer none), (65, .string r51), (67, .string r53), (68, .pointer (some ⟨b23, 2, none⟩))] rfl (by kernel_rfl) ?_
        refine ow_pw rfl (pw_quiet (v := .string r55) rfl rfl rfl rfl (q_load 1 rfl rfl rfl (by kernel_rfl)) (nw_ow ?_))
        refine ow_vals 1 (j := 8) [4, 5, 7, 9, 63, 65, 67, 69, 70] [(4, .pointer (some ⟨b21, 0, none⟩)), (5, .pointer (some ⟨b23, 0, none⟩)), (7, .pointer none), (9, .string r59), (63, .pointer none), (65, .string r51), (67, .string r53), (69, .string r55), (70, .pointer (some ⟨b23, 3, none⟩))] rfl (by kernel_rfl) ?_
        refine ow_pw rfl (pw_quiet (v := .string r57) rfl rfl rfl rfl (q_load 1 rfl rfl rfl (by kernel_rfl)) (nw_ow ?_))
        obtain ⟨r61, h62, hF⟩ := bind_some hF
        refine ow_pw rfl (pw_call (F := [pt b23 #[.string r51, .string r53, .string r55, .string r57] 45, pt b21 #[.string r43, .string r45, .string r47, .string r49] 45] ++ F0) rfl rfl rfl rfl rfl rfl rfl (by kernel_rfl) (perm_of_pulls [0] rfl) (c_pledge_Of_1 _ r51 r53 r55 r57 r61 h62) ?_)
        rintro _ _ ⟨rfl, rfl⟩
        refine nw_H (H' := [imm I, pt b23 #[.string r51, .string r53, .string r55, .string r57] 45, pt b21 #[.string r43, .string r45, .string r47, .string r49] 45] ++ F0) rfl (nw_ow ?_)
        refine ow_vals 1 (j := 11) [4, 5, 7, 9, 10] [(4, .pointer (some ⟨b21, 0, none⟩)), (5, .pointer (some ⟨b23, 0, none⟩)), (7, .pointer none), (9, .string r59), (10, .string r61)] rfl (by kernel_rfl) ?_
        refine ow_end rfl ?_
        refine ew_then ?_
        refine cw_seq ?_
        refine cw_region ?_
        refine ow_vals 1 (j := 1) [4, 5, 9, 10, 74] [(4, .pointer (some ⟨b21, 0, none⟩)), (5, .pointer (some ⟨b23, 0, none⟩)), (9, .string r59), (10, .string r61), (74, .pointer none)] rfl (by kernel_rfl) ?_
        obtain ⟨r63, h64, hF⟩ := bind_some hF
        refine ow_pw rfl (pw_call (F := [pt b23 #[.string r51, .string r53, .string r55, .string r57] 45, pt b21 #[.string r43, .string r45, .string r47, .string r49] 45] ++ F0) rfl rfl rfl rfl rfl rfl rfl (by kernel_rfl) (perm_of_pulls [0] rfl) (c_mill_Mill_Twins_1 _ r63 h64) ?_)
        rintro _ _ ⟨rfl, rfl⟩
        refine nw_H (H' := [imm I, pt b23 #[.string r51, .string r53, .string r55, .string r57] 45, pt b21 #[.string r43, .string r45, .string r47, .string r49] 45] ++ F0) rfl (nw_ow ?_)
        refine ow_vals 7 (j := 9) [4, 5, 9, 10, 11, 12, 13] [(4, .pointer (some ⟨b21, 0, none⟩)), (5, .pointer (some ⟨b23, 0, none⟩)), (9, .string r59), (10, .string r61), (11, .string r63.1), (12, .string r63.2.1), (13, .bool r63.2.2)] rfl (by kernel_rfl) ?_
        refine ow_end rfl ?_
        refine ew_then ?_
        refine cw_seq ?_
        refine cw_region ?_
        refine ow_pw rfl (pw_quiet (v := .agg #[.string r43, .string r45, .string r47, .string r49]) rfl rfl rfl rfl (q_load 2 rfl rfl rfl (by kernel_rfl)) (nw_ow ?_))
        refine ow_pw rfl (pw_quiet (v := .agg #[.string r51, .string r53, .string r55, .string r57]) rfl rfl rfl rfl (q_load 1 rfl rfl rfl (by kernel_rfl)) (nw_ow ?_))
        refine ow_pw rfl (pw_quiet (v := .bool ((seqB r43 r51) && ((seqB r45 r53) && ((seqB r47 r55) && ((seqB r49 r57) && (true)))))) rfl rfl rfl rfl (q_eql_struct (b := ((seqB r43 r51) && ((seqB r45 r53) && ((seqB r47 r55) && ((seqB r49 r57) && (true)))))) rfl rfl rfl (by kernel_rfl) (by kernel_rfl) (by kernel_rfl) (by kernel_rfl)) (nw_ow ?_))
        refine ow_vals 1 (j := 4) [9, 10, 11, 12, 13, 82] [(9, .string r59), (10, .string r61), (11, .string r63.1), (12, .string r63.2.1), (13, .bool r63.2.2), (82, .bool ((seqB r43 r51) && ((seqB r45 r53) && ((seqB r47 r55) && ((seqB r49 r57) && (true))))))] rfl (by kernel_rfl) ?_
        rcases if_some hF with ⟨h65, hF⟩ | ⟨h65, hF⟩
        · refine ow_slots (L' := [(9, .string r59), (10, .string r61), (11, .string r63.1), (12, .string r63.2.1), (13, .bool r63.2.2), (82, .bool true)]) (by rw [h65]) ?_
          refine ow_vals 13 (j := 17) [95] [(95, .bool true)] rfl (by kernel_rfl) ?_
          obtain ⟨r66, h67, hF⟩ := bind_some hF
          refine ow_pw rfl (pw_call (F := [pt b23 #[.string r51, .string r53, .string r55, .string r57] 45, pt b21 #[.string r43, .string r45, .string r47, .string r49] 45] ++ F0) rfl rfl rfl rfl rfl rfl rfl (by kernel_rfl) (perm_of_pulls [0] rfl) (c_law06_awake _ r66 h67) ?_)
          rintro _ _ ⟨rfl, rfl⟩
          refine nw_H (H' := [imm I, pt b23 #[.string r51, .string r53, .string r55, .string r57] 45, pt b21 #[.string r43, .string r45, .string r47, .string r49] 45] ++ F0) rfl (nw_ow ?_)
          refine ow_vals 2 (j := 20) [6] [(6, .bool r66)] rfl (by kernel_rfl) ?_
          refine ow_end rfl ?_
          refine ew_then ?_
          refine cw_ret ?_
          have hR := Option.some.inj hF
          subst hR
          exact fin1 (H1 := [imm I]) (fun w hs => sat_to [1, 1, 0] 2 rfl hs) rfl (rr_tmp rfl) ⟨rfl, rfl⟩
        · refine ow_slots (L' := [(9, .string r59), (10, .string r61), (11, .string r63.1), (12, .string r63.2.1), (13, .bool r63.2.2), (82, .bool false)]) (by rw [h65]) ?_
          refine ow_vals 5 (j := 9) [11, 12, 13, 87] [(11, .string r63.1), (12, .string r63.2.1), (13, .bool r63.2.2), (87, .bool (!(seqB r59 r61)))] rfl (by kernel_rfl) ?_
          rcases if_some hF with ⟨h68, hF⟩ | ⟨h68, hF⟩
          · refine ow_slots (L' := [(11, .string r63.1), (12, .string r63.2.1), (13, .bool r63.2.2), (87, .bool true)]) (by rw [h68]) ?_
            refine ow_vals 8 (j := 17) [95] [(95, .bool true)] rfl (by kernel_rfl) ?_
            obtain ⟨r69, h70, hF⟩ := bind_some hF
            refine ow_pw rfl (pw_call (F := [pt b23 #[.string r51, .string r53, .string r55, .string r57] 45, pt b21 #[.string r43, .string r45, .string r47, .string r49] 45] ++ F0) rfl rfl rfl rfl rfl rfl rfl (by kernel_rfl) (perm_of_pulls [0] rfl) (c_law06_awake _ r69 h70) ?_)
            rintro _ _ ⟨rfl, rfl⟩
            refine nw_H (H' := [imm I, pt b23 #[.string r51, .string r53, .string r55, .string r57] 45, pt b21 #[.string r43, .string r45, .string r47, .string r49] 45] ++ F0) rfl (nw_ow ?_)
            refine ow_vals 2 (j := 20) [6] [(6, .bool r69)] rfl (by kernel_rfl) ?_
            refine ow_end rfl ?_
            refine ew_then ?_
            refine cw_ret ?_
            have hR := Option.some.inj hF
            subst hR
            exact fin1 (H1 := [imm I]) (fun w hs => sat_to [1, 1, 0] 2 rfl hs) rfl (rr_tmp rfl) ⟨rfl, rfl⟩
          · refine ow_slots (L' := [(11, .string r63.1), (12, .string r63.2.1), (13, .bool r63.2.2), (87, .bool false)]) (by rw [h68]) ?_
            refine ow_vals 2 (j := 11) [11, 12, 87, 89] [(11, .string r63.1), (12, .string r63.2.1), (87, .bool false), (89, .bool r63.2.2)] rfl (by kernel_rfl) ?_
            rcases if_some hF with ⟨h71, hF⟩ | ⟨h71, hF⟩
            · refine ow_slots (L' := [(11, .string r63.1), (12, .string r63.2.1), (87, .bool false), (89, .bool true)]) (by rw [h71]) ?_
              refine ow_vals 6 (j := 17) [95] [(95, .bool (!(seqB r63.1 r63.2.1)))] rfl (by kernel_rfl) ?_
              rcases if_some hF with ⟨h72, hF⟩ | ⟨h72, hF⟩
              · refine ow_slots (L' := [(95, .bool true)]) (by rw [h72]) ?_
                obtain ⟨r73, h74, hF⟩ := bind_some hF
                refine ow_pw rfl (pw_call (F := [pt b23 #[.string r51, .string r53, .string r55, .string r57] 45, pt b21 #[.string r43, .string r45, .string r47, .string r49] 45] ++ F0) rfl rfl rfl rfl rfl rfl rfl (by kernel_rfl) (perm_of_pulls [0] rfl) (c_law06_awake _ r73 h74) ?_)
                rintro _ _ ⟨rfl, rfl⟩
                refine nw_H (H' := [imm I, pt b23 #[.string r51, .string r53, .string r55, .string r57] 45, pt b21 #[.string r43, .string r45, .string r47, .string r49] 45] ++ F0) rfl (nw_ow ?_)
                refine ow_vals 2 (j := 20) [6] [(6, .bool r73)] rfl (by kernel_rfl) ?_
                refine ow_end rfl ?_
                refine ew_then ?_
                refine cw_ret ?_
                have hR := Option.some.inj hF
                subst hR
                exact fin1 (H1 := [imm I]) (fun w hs => sat_to [1, 1, 0] 2 rfl hs) rfl (rr_tmp rfl) ⟨rfl, rfl⟩
              · refine ow_slots (L' := [(95, .bool false)]) (by rw [h72]) ?_
                refine ow_vals 3 (j := 20) [6] [(6, .bool false)] rfl (by kernel_rfl) ?_
                refine ow_end rfl ?_
                refine ew_then ?_
                refine cw_ret ?_
                have hR := Option.some.inj hF
                subst hR
                exact fin1 (H1 := [imm I]) (fun w hs => sat_to [1, 1, 0] 2 rfl hs) rfl (rr_tmp rfl) ⟨rfl, rfl⟩
            · refine ow_slots (L' := [(11, .string r63.1), (12, .string r63.2.1), (87, .bool false), (89, .bool false)]) (by rw [h71]) ?_
              refine ow_vals 9 (j := 20) [6] [(6, .bool false)] rfl (by kernel_rfl) ?_
              refine ow_end rfl ?_
              refine ew_then ?_
              refine cw_ret ?_
              have hR := Option.some.inj hF
              subst hR
              exact fin1 (H1 := [imm I]) (fun w hs => sat_to [1, 1, 0] 2 rfl hs) rfl (rr_tmp rfl) ⟨rfl, rfl⟩
    · rw [hO] at hF
      try dsimp only [optC] at hF
      refine nw_H (H' := [imm I, pt r35_b2 #[.map (some r35_b4), .map (some r35_b6), .string r35_s1.twins_.e0, .string r35_s1.twins_.e1, .bool r35_s1.found_, .bool r35_s1.full_, .int .i64 r35_s1.sums_] 54, mpo kStr kStr r35_b4 r35_s1.table_, mpo kStr kStr r35_b6 r35_s1.notes_, pt b23 #[.string x2.ID, .string x2.Name, .string x2.Salt, .string x2.Value] 45, pt b21 #[.string x1.ID, .string x1.Name, .string x1.Salt, .string x1.Value] 45] ++ F0) rfl (nw_ow ?_)
      refine ow_vals 5 (j := 7) [4, 5, 7, 8] [(4, .pointer (some ⟨b21, 0, none⟩)), (5, .pointer (some ⟨b23, 0, none⟩)), (7, .pointer (some ⟨r35_b2, 0, none⟩)), (8, .int .i64 r35.2)] rfl (by kernel_rfl) ?_
      refine ow_end rfl ?_
      refine ew_then ?_
      refine cw_seq ?_
      refine cw_seq ?_
      refine cw_region ?_
      refine ow_vals 2 (j := 2) [4, 5, 7, 25] [(4, .pointer (some ⟨b21, 0, none⟩)), (5, .pointer (some ⟨b23, 0, none⟩)), (7, .pointer (some ⟨r35_b2, 0, none⟩)), (25, .bool (r35.2 != 0))] rfl (by kernel_rfl) ?_
      refine ow_end rfl ?_
      refine ew_then ?_
      rcases if_some hF with ⟨h75, hF⟩ | ⟨h75, hF⟩
      · refine cw_cond_t rfl rfl h75 ?_
        refine cw_seq ?_
        refine cw_region ?_
        obtain ⟨r76, h77, hF⟩ := bind_some hF
        refine ow_pw rfl (pw_call (F := [pt r35_b2 #[.map (some r35_b4), .map (some r35_b6), .string r35_s1.twins_.e0, .string r35_s1.twins_.e1, .bool r35_s1.found_, .bool r35_s1.full_, .int .i64 r35_s1.sums_] 54, mpo kStr kStr r35_b4 r35_s1.table_, mpo kStr kStr r35_b6 r35_s1.notes_, pt b23 #[.string x2.ID, .string x2.Name, .string x2.Salt, .string x2.Value] 45, pt b21 #[.string x1.ID, .string x1.Name, .string x1.Salt, .string x1.Value] 45] ++ F0) rfl rfl rfl rfl rfl rfl rfl (by kernel_rfl) (perm_of_pulls [0] rfl) (c_law06_awake _ r76 h77) ?_)
        rintro _ _ ⟨rfl, rfl⟩
        refine nw_H (H' := [imm I, pt r35_b2 #[.map (some r35_b4), .map (some r35_b6), .string r35_s1.twins_.e0, .string r35_s1.twins_.e1, .bool r35_s1.found_, .bool r35_s1.full_, .int .i64 r35_s1.sums_] 54, mpo kStr kStr r35_b4 r35_s1.table_, mpo kStr kStr r35_b6 r35_s1.notes_, pt b23 #[.string x2.ID, .string x2.Name, .string x2.Salt, .string x2.Value] 45, pt b21 #[.string x1.ID, .string x1.Name, .string x1.Salt, .string x1.Value] 45] ++ F0) rfl (nw_ow ?_)
        refine ow_vals 1 (j := 2) [6] [(6, .bool r76)] rfl (by kernel_rfl) ?_
        refine ow_end rfl ?_
        refine ew_then ?_
        refine cw_ret ?_
        refine ew_then_ret ?_
        have hR := Option.some.inj hF
        subst hR
        exact fin1 (H1 := [imm I]) (fun w hs => sat_to [1, 1, 1, 1, 1, 0] 5 rfl hs) rfl (rr_tmp rfl) ⟨rfl, rfl⟩
      · refine cw_cond_f rfl rfl h75 ?_
        refine cw_skip ?_
        refine ew_then ?_
        refine cw_seq ?_
        refine cw_open 13 (SAT w0 ([imm I, pt r35_b2 #[.map (some r35_b4), .map (some r35_b6), .string r35_s1.twins_.e0, .string r35_s1.twins_.e1, .bool r35_s1.found_, .bool r35_s1.full_, .int .i64 r35_s1.sums_] 54, mpo kStr kStr r35_b4 r35_s1.table_, mpo kStr kStr r35_b6 r35_s1.notes_, pt b23 #[.string x2.ID, .string x2.Name, .string x2.Salt, .string x2.Value] 45, pt b21 #[.string x1.ID, .string x1.Name, .string x1.Salt, .string x1.Value] 45])) (by kernel_rfl) (f := 14) rfl (fun w hs => sat_drew hs) ?_
        refine aw_vals [0, 3, 6, 9] (f' := 10) (m' := 585) [4, 5, 7, 27, 30, 33, 36] [(4, .pointer (some ⟨b21, 0, none⟩)), (5, .pointer (some ⟨b23, 0, none⟩)), (7, .pointer (some ⟨r35_b2, 0, none⟩)), (27, .pointer (some ⟨b21, 0, none⟩)), (30, .pointer (some ⟨b21, 1, none⟩)), (33, .pointer (some ⟨b21, 2, none⟩)), (36, .pointer (some ⟨b21, 3, none⟩))] (fun _ _ _ _ _ h => calm_fin (P := Try.prog) (fn := Try.f9) _ _ _ _ _ h) (fun w hs => sat_pulls [0, 0, 0, 0, 0, 0] (G := [] ++ F0) rfl hs) rfl (by kernel_rfl) ?_
        refine aw_quiet 1 (m' := 587) (v := .string x1.ID) 1 [] rfl rfl rfl rfl (by kernel_rfl) (by kernel_rfl) (by kernel_rfl) (fun _ _ _ _ _ h => calm_fin (P := Try.prog) (fn := Try.f9) _ _ _ _ _ h) (fun w hs => sat_pulls [0, 0, 0, 0, 0, 0] (G := [] ++ F0) rfl hs) (q_load 5 rfl rfl rfl (by kernel_rfl)) ?_
        refine aw_quiet 4 (m' := 603) (v := .string x1.Name) 4 [] rfl rfl rfl rfl (by kernel_rfl) (by kernel_rfl) (by kernel_rfl) (fun _ _ _ _ _ h => calm_fin (P := Try.prog) (fn := Try.f9) _ _ _ _ _ h) (fun w hs => sat_pulls [0, 0, 0, 0, 0, 0] (G := [] ++ F0) rfl hs) (q_load 5 rfl rfl rfl (by kernel_rfl)) ?_
        refine aw_quiet 7 (m' := 731) (v := .string x1.Salt) 7 [] rfl rfl rfl rfl (by kernel_rfl) (by kernel_rfl) (by kernel_rfl) (fun _ _ _ _ _ h => calm_fin (P := Try.prog) (fn := Try.f9) _ _ _ _ _ h) (fun w hs => sat_pulls [0, 0, 0, 0, 0, 0] (G := [] ++ F0) rfl hs) (q_load 5 rfl rfl rfl (by kernel_rfl)) ?_
        refine aw_quiet 10 (m' := 1755) (v := .string x1.Value) 10 [] rfl rfl rfl rfl (by kernel_rfl) (by kernel_rfl) (by kernel_rfl) (fun _ _ _ _ _ h => calm_fin (P := Try.prog) (fn := Try.f9) _ _ _ _ _ h) (fun w hs => sat_pulls [0, 0, 0, 0, 0, 0] (G := [] ++ F0) rfl hs) (q_load 5 rfl rfl rfl (by kernel_rfl)) ?_
        obtain ⟨r78, h79, hF⟩ := bind_some hF
        refine aw_only 2 (m' := 1759) (by kernel_rfl) (by kernel_rfl) (pw_call (F := [pt r35_b2 #[.map (some r35_b4), .map (some r35_b6), .string r35_s1.twins_.e0, .string r35_s1.twins_.e1, .bool r35_s1.found_, .bool r35_s1.full_, .int .i64 r35_s1.sums_] 54, mpo kStr kStr r35_b4 r35_s1.table_, mpo kStr kStr r35_b6 r35_s1.notes_, pt b23 #[.string x2.ID, .string x2.Name, .string x2.Salt, .string x2.Value] 45, pt b21 #[.string x1.ID, .string x1.Name, .string x1.Salt, .string x1.Value] 45] ++ F0) rfl rfl rfl rfl rfl rfl rfl (by kernel_rfl) (perm_of_pulls [0] rfl) (c_law06_cut _ x1.ID r78 h79) ?_)
        rintro _ _ ⟨rfl, rfl⟩
        refine nw_H (H' := [imm I, pt r35_b2 #[.map (some r35_b4), .map (some r35_b6), .string r35_s1.twins_.e0, .string r35_s1.twins_.e1, .bool r35_s1.found_, .bool r35_s1.full_, .int .i64 r35_s1.sums_] 54, mpo kStr kStr r35_b4 r35_s1.table_, mpo kStr kStr r35_b6 r35_s1.notes_, pt b23 #[.string x2.ID, .string x2.Name, .string x2.Salt, .string x2.Value] 45, pt b21 #[.string x1.ID, .string x1.Name, .string x1.Salt, .string x1.Value] 45] ++ F0) rfl (aw_next (fun w hs => sat_pulls [0, 0, 0, 0, 0, 0] (G := [] ++ F0) rfl hs) ?_)
        obtain ⟨r80, h81, hF⟩ := bind_some hF
        refine aw_only 5 (m' := 1791) (by kernel_rfl) (by kernel_rfl) (pw_call (F := [pt r35_b2 #[.map (some r35_b4), .map (some r35_b6), .string r35_s1.twins_.e0, .string r35_s1.twins_.e1, .bool r35_s1.found_, .bool r35_s1.full_, .int .i64 r35_s1.sums_] 54, mpo kStr kStr r35_b4 r35_s1.table_, mpo kStr kStr r35_b6 r35_s1.notes_, pt b23 #[.string x2.ID, .string x2.Name, .string x2.Salt, .string x2.Value] 45, pt b21 #[.string x1.ID, .string x1.Name, .string x1.Salt, .string x1.Value] 45] ++ F0) rfl rfl rfl rfl rfl rfl rfl (by kernel_rfl) (perm_of_pulls [0] rfl) (c_law06_cut _ x1.Name r80 h81) ?_)
        rintro _ _ ⟨rfl, rfl⟩
        refine nw_H (H' := [imm I, pt r35_b2 #[.map (some r35_b4), .map (some r35_b6), .string r35_s1.twins_.e0, .string r35_s1.twins_.e1, .bool r35_s1.found_, .bool r35_s1.full_, .int .i64 r35_s1.sums_] 54, mpo kStr kStr r35_b4 r35_s1.table_, mpo kStr kStr r35_b6 r35_s1.notes_, pt b23 #[.string x2.ID, .string x2.Name, .string x2.Salt, .string x2.Value] 45, pt b21 #[.string x1.ID, .string x1.Name, .string x1.Salt, .string x1.Value] 45] ++ F0) rfl (aw_next (fun w hs => sat_pulls [0, 0, 0, 0, 0, 0] (G := [] ++ F0) rfl hs) ?_)
        obtain ⟨r82, h83, hF⟩ := bind_some hF
        refine aw_only 8 (m' := 2047) (by kernel_rfl) (by kernel_rfl) (pw_call (F := [pt r35_b2 #[.map (some r35_b4), .map (some r35_b6), .string r35_s1.twins_.e0, .string r35_s1.twins_.e1, .bool r35_s1.found_, .bool r35_s1.full_, .int .i64 r35_s1.sums_] 54, mpo kStr kStr r35_b4 r35_s1.table_, mpo kStr kStr r35_b6 r35_s1.notes_, pt b23 #[.string x2.ID, .string x2.Name, .string x2.Salt, .string x2.Value] 45, pt b21 #[.string x1.ID, .string x1.Name, .string x1.Salt, .string x1.Value] 45] ++ F0) rfl rfl rfl rfl rfl rfl rfl (by kernel_rfl) (perm_of_pulls [0] rfl) (c_law06_cut _ x1.Salt r82 h83) ?_)
        rintro _ _ ⟨rfl, rfl⟩
        refine nw_H (H' := [imm I, pt r35_b2 #[.map (some r35_b4), .map (some r35_b6), .string r35_s1.twins_.e0, .string r35_s1.twins_.e1, .bool r35_s1.found_, .bool r35_s1.full_, .int .i64 r35_s1.sums_] 54, mpo kStr kStr r35_b4 r35_s1.table_, mpo kStr kStr r35_b6 r35_s1.notes_, pt b23 #[.string x2.ID, .string x2.Name, .string x2.Salt, .string x2.Value] 45, pt b21 #[.string x1.ID, .string x1.Name, .string x1.Salt, .string x1.Value] 45] ++ F0) rfl (aw_next (fun w hs => sat_pulls [0, 0, 0, 0, 0, 0] (G := [] ++ F0) rfl hs) ?_)
        obtain ⟨r84, h85, hF⟩ := bind_some hF
        refine aw_only 11 (m' := 4095) (by kernel_rfl) (by kernel_rfl) (pw_call (F := [pt r35_b2 #[.map (some r35_b4), .map (some r35_b6), .string r35_s1.twins_.e0, .string r35_s1.twins_.e1, .bool r35_s1.found_, .bool r35_s1.full_, .int .i64 r35_s1.sums_] 54, mpo kStr kStr r35_b4 r35_s1.table_, mpo kStr kStr r35_b6 r35_s1.notes_, pt b23 #[.string x2.ID, .string x2.Name, .string x2.Salt, .string x2.Value] 45, pt b21 #[.string x1.ID, .string x1.Name, .string x1.Salt, .string x1.Value] 45] ++ F0) rfl rfl rfl rfl rfl rfl rfl (by kernel_rfl) (perm_of_pulls [0] rfl) (c_law06_cut _ x1.Value r84 h85) ?_)
        rintro _ _ ⟨rfl, rfl⟩
        refine nw_H (H' := [imm I, pt r35_b2 #[.map (some r35_b4), .map (some r35_b6), .string r35_s1.twins_.e0, .string r35_s1.twins_.e1, .bool r35_s1.found_, .bool r35_s1.full_, .int .i64 r35_s1.sums_] 54, mpo kStr kStr r35_b4 r35_s1.table_, mpo kStr kStr r35_b6 r35_s1.notes_, pt b23 #[.string x2.ID, .string x2.Name, .string x2.Salt, .string x2.Value] 45, pt b21 #[.string x1.ID, .string x1.Name, .string x1.Salt, .string x1.Value] 45] ++ F0) rfl (aw_next (fun w hs => sat_pulls [0, 0, 0, 0, 0, 0] (G := [] ++ F0) rfl hs) ?_)
        refine aw_vals [12] (f' := 1) (m' := 8191) [4, 5, 7, 39] [(4, .pointer (some ⟨b21, 0, none⟩)), (5, .pointer (some ⟨b23, 0, none⟩)), (7, .pointer (some ⟨r35_b2, 0, none⟩)), (39, .agg #[.string r78, .string r80, .string r82, .string r84])] (fun _ _ _ _ _ h => calm_fin (P := Try.prog) (fn := Try.f9) _ _ _ _ _ h) (fun w hs => sat_pulls [0, 0, 0, 0, 0, 0] (G := [] ++ F0) rfl hs) rfl (by kernel_rfl) ?_
        refine aw_only 13 (m' := 16383) (by kernel_rfl) (by kernel_rfl) (pw_store 5 #[.string r78, .string r80, .string r82, .string r84] rfl rfl rfl rfl rfl rfl rfl (by kernel_rfl) (nw_H (H' := [imm I, pt r35_b2 #[.map (some r35_b4), .map (some r35_b6), .string r35_s1.twins_.e0, .string r35_s1.twins_.e1, .bool r35_s1.found_, .bool r35_s1.full_, .int .i64 r35_s1.sums_] 54, mpo kStr kStr r35_b4 r35_s1.table_, mpo kStr kStr r35_b6 r35_s1.notes_, pt b23 #[.string x2.ID, .string x2.Name, .string x2.Salt, .string x2.Value] 45, pt b21 #[.string r78, .string r80, .string r82, .string r84] 45] ++ F0) rfl (aw_last (by kernel_rfl) ?_)))
        refine aw_keep [4, 5, 7] (L' := [(4, .pointer (some ⟨b21, 0, none⟩)), (5, .pointer (some ⟨b23, 0, none⟩)), (7, .pointer (some ⟨r35_b2, 0, none⟩))]) rfl ?_
        refine aw_end (by kernel_rfl) ?_
        refine ew_then ?_
        refine cw_seq ?_
        refine cw_open 13 (SAT w0 ([imm I, pt r35_b2 #[.map (some r35_b4), .map (some r35_b6), .string r35_s1.twins_.e0, .string r35_s1.twins_.e1, .bool r35_s1.found_, .bool r35_s1.full_, .int .i64 r35_s1.sums_] 54, mpo kStr kStr r35_b4 r35_s1.table_, mpo kStr kStr r35_b6 r35_s1.notes_, pt b23 #[.string x2.ID, .string x2.Name, .string x2.Salt, .string x2.Value] 45, pt b21 #[.string r78, .string r80, .string r82, .string r84] 45])) (by kernel_rfl) (f := 14) rfl (fun w hs => sat_drew hs) ?_
        refine aw_vals [0, 3, 6, 9] (f' := 10) (m' := 585) [4, 5, 7, 40, 43, 46, 49] [(4, .pointer (some ⟨b21, 0, none⟩)), (5, .pointer (some ⟨b23, 0, none⟩)), (7, .pointer (some ⟨r35_b2, 0, none⟩)), (40, .pointer (some ⟨b23, 0, none⟩)), (43, .pointer (some ⟨b23, 1, none⟩)), (46, .pointer (some ⟨b23, 2, none⟩)), (49, .pointer (some ⟨b23, 3, none⟩))] (fun _ _ _ _ _ h => calm_fin (P := Try.prog) (fn := Try.f9) _ _ _ _ _ h) (fun w hs => sat_pulls [0, 0, 0, 0, 0, 0] (G := [] ++ F0) rfl hs) rfl (by kernel_rfl) ?_
        refine aw_quiet 1 (m' := 587) (v := .string x2.ID) 1 [] rfl rfl rfl rfl (by kernel_rfl) (by kernel_rfl) (by kernel_rfl) (fun _ _ _ _ _ h => calm_fin (P := Try.prog) (fn := Try.f9) _ _ _ _ _ h) (fun w hs => sat_pulls [0, 0, 0, 0, 0, 0] (G := [] ++ F0) rfl hs) (q_load 4 rfl rfl rfl (by kernel_rfl)) ?_
        refine aw_quiet 4 (m' := 603) (v := .string x2.Name) 4 [] rfl rfl rfl rfl (by kernel_rfl) (by kernel_rfl) (by kernel_rfl) (fun _ _ _ _ _ h => calm_fin (P := Try.prog) (fn := Try.f9) _ _ _ _ _ h) (fun w hs => sat_pulls [0, 0, 0, 0, 0, 0] (G := [] ++ F0) rfl hs) (q_load 4 rfl rfl rfl (by kernel_rfl)) ?_
        refine aw_quiet 7 (m' := 731) (v := .string x2.Salt) 7 [] rfl rfl rfl rfl (by kernel_rfl) (by kernel_rfl) (by kernel_rfl) (fun _ _ _ _ _ h => calm_fin (P := Try.prog) (fn := Try.f9) _ _ _ _ _ h) (fun w hs => sat_pulls [0, 0, 0, 0, 0, 0] (G := [] ++ F0) rfl hs) (q_load 4 rfl rfl rfl (by kernel_rfl)) ?_
        refine aw_quiet 10 (m' := 1755) (v := .string x2.Value) 10 [] rfl rfl rfl rfl (by kernel_rfl) (by kernel_rfl) (by kernel_rfl) (fun _ _ _ _ _ h => calm_fin (P := Try.prog) (fn := Try.f9) _ _ _ _ _ h) (fun w hs => sat_pulls [0, 0, 0, 0, 0, 0] (G := [] ++ F0) rfl hs) (q_load 4 rfl rfl rfl (by kernel_rfl)) ?_
        obtain ⟨r86, h87, hF⟩ := bind_some hF
        refine aw_only 2 (m' := 1759) (by kernel_rfl) (by kernel_rfl) (pw_call (F := [pt r35_b2 #[.map (some r35_b4), .map (some r35_b6), .string r35_s1.twins_.e0, .string r35_s1.twins_.e1, .bool r35_s1.found_, .bool r35_s1.full_, .int .i64 r35_s1.sums_] 54, mpo kStr kStr r35_b4 r35_s1.table_, mpo kStr kStr r35_b6 r35_s1.notes_, pt b23 #[.string x2.ID, .string x2.Name, .string x2.Salt, .string x2.Value] 45, pt b21 #[.string r78, .string r80, .string r82, .string r84] 45] ++ F0) rfl rfl rfl rfl rfl rfl rfl (by kernel_rfl) (perm_of_pulls [0] rfl) (c_law06_cut _ x2.ID r86 h87) ?_)
        rintro _ _ ⟨rfl, rfl⟩
        refine nw_H (H' := [imm I, pt r35_b2 #[.map (some r35_b4), .map (some r35_b6), .string r35_s1.twins_.e0, .string r35_s1.twins_.e1, .bool r35_s1.found_, .bool r35_s1.full_, .int .i64 r35_s1.sums_] 54, mpo kStr kStr r35_b4 r35_s1.table_, mpo kStr kStr r35_b6 r35_s1.notes_, pt b23 #[.string x2.ID, .string x2.Name, .string x2.Salt, .string x2.Value] 45, pt b21 #[.string r78, .string r80, .string r82, .string r84] 45] ++ F0) rfl (aw_next (fun w hs => sat_pulls [0, 0, 0, 0, 0, 0] (G := [] ++ F0) rfl hs) ?_)
        obtain ⟨r88, h89, hF⟩ := bind_some hF
        refine aw_only 5 (m' := 1791) (by kernel_rfl) (by kernel_rfl) (pw_call (F := [pt r35_b2 #[.map (some r35_b4), .map (some r35_b6), .string r35_s1.twins_.e0, .string r35_s1.twins_.e1, .bool r35_s1.found_, .bool r35_s1.full_, .int .i64 r35_s1.sums_] 54, mpo kStr kStr r35_b4 r35_s1.table_, mpo kStr kStr r35_b6 r35_s1.notes_, pt b23 #[.string x2.ID, .string x2.Name, .string x2.Salt, .string x2.Value] 45, pt b21 #[.string r78, .string r80, .string r82, .string r84] 45] ++ F0) rfl rfl rfl rfl rfl rfl rfl (by kernel_rfl) (perm_of_pulls [0] rfl) (c_law06_cut _ x2.Name r88 h89) ?_)
        rintro _ _ ⟨rfl, rfl⟩
        refine nw_H (H' := [imm I, pt r35_b2 #[.map (some r35_b4), .map (some r35_b6), .string r35_s1.twins_.e0, .string r35_s1.twins_.e1, .bool r35_s1.found_, .bool r35_s1.full_, .int .i64 r35_s1.sums_] 54, mpo kStr kStr r35_b4 r35_s1.table_, mpo kStr kStr r35_b6 r35_s1.notes_, pt b23 #[.string x2.ID, .string x2.Name, .string x2.Salt, .string x2.Value] 45, pt b21 #[.string r78, .string r80, .string r82, .string r84] 45] ++ F0) rfl (aw_next (fun w hs => sat_pulls [0, 0, 0, 0, 0, 0] (G := [] ++ F0) rfl hs) ?_)
        obtain ⟨r90, h91, hF⟩ := bind_some hF
        refine aw_only 8 (m' := 2047) (by kernel_rfl) (by kernel_rfl) (pw_call (F := [pt r35_b2 #[.map (some r35_b4), .map (some r35_b6), .string r35_s1.twins_.e0, .string r35_s1.twins_.e1, .bool r35_s1.found_, .bool r35_s1.full_, .int .i64 r35_s1.sums_] 54, mpo kStr kStr r35_b4 r35_s1.table_, mpo kStr kStr r35_b6 r35_s1.notes_, pt b23 #[.string x2.ID, .string x2.Name, .string x2.Salt, .string x2.Value] 45, pt b21 #[.string r78, .string r80, .string r82, .string r84] 45] ++ F0) rfl rfl rfl rfl rfl rfl rfl (by kernel_rfl) (perm_of_pulls [0] rfl) (c_law06_cut _ x2.Salt r90 h91) ?_)
        rintro _ _ ⟨rfl, rfl⟩
        refine nw_H (H' := [imm I, pt r35_b2 #[.map (some r35_b4), .map (some r35_b6), .string r35_s1.twins_.e0, .string r35_s1.twins_.e1, .bool r35_s1.found_, .bool r35_s1.full_, .int .i64 r35_s1.sums_] 54, mpo kStr kStr r35_b4 r35_s1.table_, mpo kStr kStr r35_b6 r35_s1.notes_, pt b23 #[.string x2.ID, .string x2.Name, .string x2.Salt, .string x2.Value] 45, pt b21 #[.string r78, .string r80, .string r82, .string r84] 45] ++ F0) rfl (aw_next (fun w hs => sat_pulls [0, 0, 0, 0, 0, 0] (G := [] ++ F0) rfl hs) ?_)
        obtain ⟨r92, h93, hF⟩ := bind_some hF
        refine aw_only 11 (m' := 4095) (by kernel_rfl) (by kernel_rfl) (pw_call (F := [pt r35_b2 #[.map (some r35_b4), .map (some r35_b6), .string r35_s1.twins_.e0, .string r35_s1.twins_.e1, .bool r35_s1.found_, .bool r35_s1.full_, .int .i64 r35_s1.sums_] 54, mpo kStr kStr r35_b4 r35_s1.table_, mpo kStr kStr r35_b6 r35_s1.notes_, pt b23 #[.string x2.ID, .string x2.Name, .string x2.Salt, .string x2.Value] 45, pt b21 #[.string r78, .string r80, .string r82, .string r84] 45] ++ F0) rfl rfl rfl rfl rfl rfl rfl (by kernel_rfl) (perm_of_pulls [0] rfl) (c_law06_cut _ x2.Value r92 h93) ?_)
        rintro _ _ ⟨rfl, rfl⟩
        refine nw_H (H' := [imm I, pt r35_b2 #[.map (some r35_b4), .map (some r35_b6), .string r35_s1.twins_.e0, .string r35_s1.twins_.e1, .bool r35_s1.found_, .bool r35_s1.full_, .int .i64 r35_s1.sums_] 54, mpo kStr kStr r35_b4 r35_s1.table_, mpo kStr kStr r35_b6 r35_s1.notes_, pt b23 #[.string x2.ID, .string x2.Name, .string x2.Salt, .string x2.Value] 45, pt b21 #[.string r78, .string r80, .string r82, .string r84] 45] ++ F0) rfl (aw_next (fun w hs => sat_pulls [0, 0, 0, 0, 0, 0] (G := [] ++ F0) rfl hs) ?_)
        refine aw_vals [12] (f' := 1) (m' := 8191) [4, 5, 7, 52] [(4, .pointer (some ⟨b21, 0, none⟩)), (5, .pointer (some ⟨b23, 0, none⟩)), (7, .pointer (some ⟨r35_b2, 0, none⟩)), (52, .agg #[.string r86, .string r88, .string r90, .string r92])] (fun _ _ _ _ _ h => calm_fin (P := Try.prog) (fn := Try.f9) _ _ _ _ _ h) (fun w hs => sat_pulls [0, 0, 0, 0, 0, 0] (G := [] ++ F0) rfl hs) rfl (by kernel_rfl) ?_
        refine aw_only 13 (m' := 16383) (by kernel_rfl) (by kernel_rfl) (pw_store 4 #[.string r86, .string r88, .string r90, .string r92] rfl rfl rfl rfl rfl rfl rfl (by kernel_rfl) (nw_H (H' := [imm I, pt r35_b2 #[.map (some r35_b4), .map (some r35_b6), .string r35_s1.twins_.e0, .string r35_s1.twins_.e1, .bool r35_s1.found_, .bool r35_s1.full_, .int .i64 r35_s1.sums_] 54, mpo kStr kStr r35_b4 r35_s1.table_, mpo kStr kStr r35_b6 r35_s1.notes_, pt b23 #[.string r86, .string r88, .string r90, .string r92] 45, pt b21 #[.string r78, .string r80, .string r82, .string r84] 45] ++ F0) rfl (aw_last (by kernel_rfl) ?_)))
        refine aw_keep [4, 5, 7] (L' := [(4, .pointer (some ⟨b21, 0, none⟩)), (5, .pointer (some ⟨b23, 0, none⟩)), (7, .pointer (some ⟨r35_b2, 0, none⟩))]) rfl ?_
        refine aw_end (by kernel_rfl) ?_
        refine ew_then ?_
        refine cw_seq ?_
        refine cw_region ?_
        refine ow_vals 2 (j := 2) [4, 5, 7, 53, 54] [(4, .pointer (some ⟨b21, 0, none⟩)), (5, .pointer (some ⟨b23, 0, none⟩)), (7, .pointer (some ⟨r35_b2, 0, none⟩)), (53, .pointer (some ⟨r35_b2, 0, none⟩)), (54, .pointer (some ⟨b21, 0, none⟩))] rfl (by kernel_rfl) ?_
        refine ow_pw rfl (pw_quiet (v := .string r78) rfl rfl rfl rfl (q_load 5 rfl rfl rfl (by kernel_rfl)) (nw_ow ?_))
        refine ow_vals 1 (j := 4) [4, 5, 7, 53, 55, 56] [(4, .pointer (some ⟨b21, 0, none⟩)), (5, .pointer (some ⟨b23, 0, none⟩)), (7, .pointer (some ⟨r35_b2, 0, none⟩)), (53, .pointer (some ⟨r35_b2, 0, none⟩)), (55, .string r78), (56, .pointer (some ⟨b21, 1, none⟩))] rfl (by kernel_rfl) ?_
        refine ow_pw rfl (pw_quiet (v := .string r80) rfl rfl rfl rfl (q_load 5 rfl rfl rfl (by kernel_rfl)) (nw_ow ?_))
        refine ow_vals 1 (j := 6) [4, 5, 7, 53, 55, 57, 58] [(4, .pointer (some ⟨b21, 0, none⟩)), (5, .pointer (some ⟨b23, 0, none⟩)), (7, .pointer (some ⟨r35_b2, 0, none⟩)), (53, .pointer (some ⟨r35_b2, 0, none⟩)), (55, .string r78), (57, .string r80), (58, .pointer (some ⟨b21, 2, none⟩))] rfl (by kernel_rfl) ?_
        refine ow_pw rfl (pw_quiet (v := .string r82) rfl rfl rfl rfl (q_load 5 rfl rfl rfl (by kernel_rfl)) (nw_ow ?_))
        refine ow_vals 1 (j := 8) [4, 5, 7, 53, 55, 57, 59, 60] [(4, .pointer (some ⟨b21, 0, none⟩)), (5, .pointer (some ⟨b23, 0, none⟩)), (7, .pointer (some ⟨r35_b2, 0, none⟩)), (53, .pointer (some ⟨r35_b2, 0, none⟩)), (55, .string r78), (57, .string r80), (59, .string r82), (60, .pointer (some ⟨b21, 3, none⟩))] rfl (by kernel_rfl) ?_
        refine ow_pw rfl (pw_quiet (v := .string r84) rfl rfl rfl rfl (q_load 5 rfl rfl rfl (by kernel_rfl)) (nw_ow ?_))
        obtain ⟨r94, h95, hF⟩ := bind_some hF
        refine ow_pw rfl (pw_call (F := [pt b23 #[.string r86, .string r88, .string r90, .string r92] 45, pt b21 #[.string r78, .string r80, .string r82, .string r84] 45] ++ F0) rfl rfl rfl rfl rfl rfl rfl (by kernel_rfl) (perm_of_pulls [0, 0, 0, 0] rfl) (c_pledge_Of _ r78 r80 r82 r84 r35_s1 r35_b4 r35_b6 r35_b2 r94 h95) ?_)
        rintro _ _ ⟨r94_b1, r94_b3, rfl, rfl⟩
        refine nw_H (H' := [imm I, pt r35_b2 #[.map (some r94_b1), .map (some r94_b3), .string r94.2.twins_.e0, .string r94.2.twins_.e1, .bool r94.2.found_, .bool r94.2.full_, .int .i64 r94.2.sums_] 54, mpo kStr kStr r94_b1 r94.2.table_, mpo kStr kStr r94_b3 r94.2.notes_, pt b23 #[.string r86, .string r88, .string r90, .string r92] 45, pt b21 #[.string r78, .string r80, .string r82, .string r84] 45] ++ F0) rfl (nw_ow ?_)
        refine ow_vals 1 (j := 11) [4, 5, 7, 9] [(4, .pointer (some ⟨b21, 0, none⟩)), (5, .pointer (some ⟨b23, 0, none⟩)), (7, .pointer (some ⟨r35_b2, 0, none⟩)), (9, .string r94.1)] rfl (by kernel_rfl) ?_
        refine ow_end rfl ?_
        refine ew_then ?_
        refine cw_seq ?_
        refine cw_region ?_
        refine ow_vals 2 (j := 2) [4, 5, 7, 9, 63, 64] [(4, .pointer (some ⟨b21, 0, none⟩)), (5, .pointer (some ⟨b23, 0, none⟩)), (7, .pointer (some ⟨r35_b2, 0, none⟩)), (9, .string r94.1), (63, .pointer (some ⟨r35_b2, 0, none⟩)), (64, .pointer (some ⟨b23, 0, none⟩))] rfl (by kernel_rfl) ?_
        refine ow_pw rfl (pw_quiet (v := .string r86) rfl rfl rfl rfl (q_load 4 rfl rfl rfl (by kernel_rfl)) (nw_ow ?_))
        refine ow_vals 1 (j := 4) [4, 5, 7, 9, 63, 65, 66] [(4, .pointer (some ⟨b21, 0, none⟩)), (5, .pointer (some ⟨b23, 0, none⟩)), (7, .pointer (some ⟨r35_b2, 0, none⟩)), (9, .string r94.1), (63, .pointer (some ⟨r35_b2, 0, none⟩)), (65, .string r86), (66, .pointer (some ⟨b23, 1, none⟩))] rfl (by kernel_rfl) ?_
        refine ow_pw rfl (pw_quiet (v := .string r88) rfl rfl rfl rfl (q_load 4 rfl rfl rfl (by kernel_rfl)) (nw_ow ?_))
        refine ow_vals 1 (j := 6) [4, 5, 7, 9, 63, 65, 67, 68] [(4, .pointer (some ⟨b21, 0, none⟩)), (5, .pointer (some ⟨b23, 0, none⟩)), (7, .pointer (some ⟨r35_b2, 0, none⟩)), (9, .string r94.1), (63, .pointer (some ⟨r35_b2, 0, none⟩)), (65, .string r86), (67, .string r88), (68, .pointer (some ⟨b23, 2, none⟩))] rfl (by kernel_rfl) ?_
        refine ow_pw rfl (pw_quiet (v := .string r90) rfl rfl rfl rfl (q_load 4 rfl rfl rfl (by kernel_rfl)) (nw_ow ?_))
        refine ow_vals 1 (j := 8) [4, 5, 7, 9, 63, 65, 67, 69, 70] [(4, .pointer (some ⟨b21, 0, none⟩)), (5, .pointer (some ⟨b23, 0, none⟩)), (7, .pointer (some ⟨r35_b2, 0, none⟩)), (9, .string r94.1), (63, .pointer (some ⟨r35_b2, 0, none⟩)), (65, .string r86), (67, .string r88), (69, .string r90), (70, .pointer (some ⟨b23, 3, none⟩))] rfl (by kernel_rfl) ?_
        refine ow_pw rfl (pw_quiet (v := .string r92) rfl rfl rfl rfl (q_load 4 rfl rfl rfl (by kernel_rfl)) (nw_ow ?_))
        obtain ⟨r98, h99, hF⟩ := bind_some hF
        refine ow_pw rfl (pw_call (F := [pt b23 #[.string r86, .string r88, .string r90, .string r92] 45, pt b21 #[.string r78, .string r80, .string r82, .string r84] 45] ++ F0) rfl rfl rfl rfl rfl rfl rfl (by kernel_rfl) (perm_of_pulls [0, 0, 0, 0] rfl) (c_pledge_Of _ r86 r88 r90 r92 r94.2 r94_b1 r94_b3 r35_b2 r98 h99) ?_)
        rintro _ _ ⟨r98_b1, r98_b3, rfl, rfl⟩
        refine nw_H (H' := [imm I, pt r35_b2 #[.map (some r98_b1), .map (some r98_b3), .string r98.2.twins_.e0, .string r98.2.twins_.e1, .bool r98.2.found_, .bool r98.2.full_, .int .i64 r98.2.sums_] 54, mpo kStr kStr r98_b1 r98.2.table_, mpo kStr kStr r98_b3 r98.2.notes_, pt b23 #[.string r86, .string r88, .string r90, .string r92] 45, pt b21 #[.string r78, .string r80, .string r82, .string r84] 45] ++ F0) rfl (nw_ow ?_)
        refine ow_vals 1 (j := 11) [4, 5, 7, 9, 10] [(4, .pointer (some ⟨b21, 0, none⟩)), (5, .pointer (some ⟨b23, 0, none⟩)), (7, .pointer (some ⟨r35_b2, 0, none⟩)), (9, .string r94.1), (10, .string r98.1)] rfl (by kernel_rfl) ?_
        refine ow_end rfl ?_
        refine ew_then ?_
        refine cw_seq ?_
        refine cw_region ?_
        refine ow_vals 1 (j := 1) [4, 5, 9, 10, 74] [(4, .pointer (some ⟨b21, 0, none⟩)), (5, .pointer (some ⟨b23, 0, none⟩)), (9, .string r94.1), (10, .string r98.1), (74, .pointer (some ⟨r35_b2, 0, none⟩))] rfl (by kernel_rfl) ?_
        obtain ⟨r102, h103, hF⟩ := bind_some hF
        refine ow_pw rfl (pw_call (F := [pt b23 #[.string r86, .string r88, .string r90, .string r92] 45, pt b21 #[.string r78, .string r80, .string r82, .string r84] 45] ++ F0) rfl rfl rfl rfl rfl rfl rfl (by kernel_rfl) (perm_of_pulls [0, 0, 0, 0] rfl) (c_mill_Mill_Twins _ r98.2 r98_b1 r98_b3 r35_b2 r102 h103) ?_)
        rintro _ _ ⟨rfl, rfl⟩
        refine nw_H (H' := [imm I, pt r35_b2 #[.map (some r98_b1), .map (some r98_b3), .string r98.2.twins_.e0, .string r98.2.twins_.e1, .bool r98.2.found_, .bool r98.2.full_, .int .i64 r98.2.sums_] 54, mpo kStr kStr r98_b1 r98.2.table_, mpo kStr kStr r98_b3 r98.2.notes_, pt b23 #[.string r86, .string r88, .string r90, .string r92] 45, pt b21 #[.string r78, .string r80, .string r82, .string r84] 45] ++ F0) rfl (nw_ow ?_)
        refine ow_vals 7 (j := 9) [4, 5, 9, 10, 11, 12, 13] [(4, .pointer (some ⟨b21, 0, none⟩)), (5, .pointer (some ⟨b23, 0, none⟩)), (9, .string r94.1), (10, .string r98.1), (11, .string r102.1), (12, .string r102.2.1), (13, .bool r102.2.2)] rfl (by kernel_rfl) ?_
        refine ow_end rfl ?_
        refine ew_then ?_
        refine cw_seq ?_
        refine cw_region ?_
        refine ow_pw rfl (pw_quiet (v := .agg #[.string r78, .string r80, .string r82, .string r84]) rfl rfl rfl rfl (q_load 5 rfl rfl rfl (by kernel_rfl)) (nw_ow ?_))
        refine ow_pw rfl (pw_quiet (v := .agg #[.string r86, .string r88, .string r90, .string r92]) rfl rfl rfl rfl (q_load 4 rfl rfl rfl (by kernel_rfl)) (nw_ow ?_))
        refine ow_pw rfl (pw_quiet (v := .bool ((seqB r78 r86) && ((seqB r80 r88) && ((seqB r82 r90) && ((seqB r84 r92) && (true)))))) rfl rfl rfl rfl (q_eql_struct (b := ((seqB r78 r86) && ((seqB r80 r88) && ((seqB r82 r90) && ((seqB r84 r92) && (true)))))) rfl rfl rfl (by kernel_rfl) (by kernel_rfl) (by kernel_rfl) (by kernel_rfl)) (nw_ow ?_))
        refine ow_vals 1 (j := 4) [9, 10, 11, 12, 13, 82] [(9, .string r94.1), (10, .string r98.1), (11, .string r102.1), (12, .string r102.2.1), (13, .bool r102.2.2), (82, .bool ((seqB r78 r86) && ((seqB r80 r88) && ((seqB r82 r90) && ((seqB r84 r92) && (true))))))] rfl (by kernel_rfl) ?_
        rcases if_some hF with ⟨h104, hF⟩ | ⟨h104, hF⟩
        · refine ow_slots (L' := [(9, .string r94.1), (10, .string r98.1), (11, .string r102.1), (12, .string r102.2.1), (13, .bool r102.2.2), (82, .bool true)]) (by rw [h104]) ?_
          refine ow_vals 13 (j := 17) [95] [(95, .bool true)] rfl (by kernel_rfl) ?_
          obtain ⟨r105, h106, hF⟩ := bind_some hF
          refine ow_pw rfl (pw_call (F := [pt r35_b2 #[.map (some r98_b1), .map (some r98_b3), .string r98.2.twins_.e0, .string r98.2.twins_.e1, .bool r98.2.found_, .bool r98.2.full_, .int .i64 r98.2.sums_] 54, mpo kStr kStr r98_b1 r98.2.table_, mpo kStr kStr r98_b3 r98.2.notes_, pt b23 #[.string r86, .string r88, .string r90, .string r92] 45, pt b21 #[.string r78, .string r80, .string r82, .string r84] 45] ++ F0) rfl rfl rfl rfl rfl rfl rfl (by kernel_rfl) (perm_of_pulls [0] rfl) (c_law06_awake _ r105 h106) ?_)
          rintro _ _ ⟨rfl, rfl⟩
          refine nw_H (H' := [imm I, pt r35_b2 #[.map (some r98_b1), .map (some r98_b3), .string r98.2.twins_.e0, .string r98.2.twins_.e1, .bool r98.2.found_, .bool r98.2.full_, .int .i64 r98.2.sums_] 54, mpo kStr kStr r98_b1 r98.2.table_, mpo kStr kStr r98_b3 r98.2.notes_, pt b23 #[.string r86, .string r88, .string r90, .string r92] 45, pt b21 #[.string r78, .string r80, .string r82, .string r84] 45] ++ F0) rfl (nw_ow ?_)
          refine ow_vals 2 (j := 20) [6] [(6, .bool r105)] rfl (by kernel_rfl) ?_
          refine ow_end rfl ?_
          refine ew_then ?_
          refine cw_ret ?_
          have hR := Option.some.inj hF
          subst hR
          exact fin1 (H1 := [imm I]) (fun w hs => sat_to [1, 1, 1, 1, 1, 0] 5 rfl hs) rfl (rr_tmp rfl) ⟨rfl, rfl⟩
        · refine ow_slots (L' := [(9, .string r94.1), (10, .string r98.1), (11, .string r102.1), (12, .string r102.2.1), (13, .bool r102.2.2), (82, .bool false)]) (by rw [h104]) ?_
          refine ow_vals 5 (j := 9) [11, 12, 13, 87] [(11, .string r102.1), (12, .string r102.2.1), (13, .bool r102.2.2), (87, .bool (!(seqB r94.1 r98.1)))] rfl (by kernel_rfl) ?_
          rcases if_some hF with ⟨h107, hF⟩ | ⟨h107, hF⟩
          · refine ow_slots (L' := [(11, .string r102.1), (12, .string r102.2.1), (13, .bool r102.2.2), (87, .bool true)]) (by rw [h107]) ?_
            refine ow_vals 8 (j := 17) [95] [(95, .bool true)] rfl (by kernel_rfl) ?_
            obtain ⟨r108, h109, hF⟩ := bind_some hF
            refine ow_pw rfl (pw_call (F := [pt r35_b2 #[.map (some r98_b1), .map (some r98_b3), .string r98.2.twins_.e0, .string r98.2.twins_.e1, .bool r98.2.found_, .bool r98.2.full_, .int .i64 r98.2.sums_] 54, mpo kStr kStr r98_b1 r98.2.table_, mpo kStr kStr r98_b3 r98.2.notes_, pt b23 #[.string r86, .string r88, .string r90, .string r92] 45, pt b21 #[.string r78, .string r80, .string r82, .string r84] 45] ++ F0) rfl rfl rfl rfl rfl rfl rfl (by kernel_rfl) (perm_of_pulls [0] rfl) (c_law06_awake _ r108 h109) ?_)
            rintro _ _ ⟨rfl, rfl⟩
            refine nw_H (H' := [imm I, pt r35_b2 #[.map (some r98_b1), .map (some r98_b3), .string r98.2.twins_.e0, .string r98.2.twins_.e1, .bool r98.2.found_, .bool r98.2.full_, .int .i64 r98.2.sums_] 54, mpo kStr kStr r98_b1 r98.2.table_, mpo kStr kStr r98_b3 r98.2.notes_, pt b23 #[.string r86, .string r88, .string r90, .string r92] 45, pt b21 #[.string r78, .string r80, .string r82, .string r84] 45] ++ F0) rfl (nw_ow ?_)
            refine ow_vals 2 (j := 20) [6] [(6, .bool r108)] rfl (by kernel_rfl) ?_
            refine ow_end rfl ?_
            refine ew_then ?_
            refine cw_ret ?_
            have hR := Option.some.inj hF
            subst hR
            exact fin1 (H1 := [imm I]) (fun w hs => sat_to [1, 1, 1, 1, 1, 0] 5 rfl hs) rfl (rr_tmp rfl) ⟨rfl, rfl⟩
          · refine ow_slots (L' := [(11, .string r102.1), (12, .string r102.2.1), (13, .bool r102.2.2), (87, .bool false)]) (by rw [h107]) ?_
            refine ow_vals 2 (j := 11) [11, 12, 87, 89] [(11, .string r102.1), (12, .string r102.2.1), (87, .bool false), (89, .bool r102.2.2)] rfl (by kernel_rfl) ?_
            rcases if_some hF with ⟨h110, hF⟩ | ⟨h110, hF⟩
            · refine ow_slots (L' := [(11, .string r102.1), (12, .string r102.2.1), (87, .bool false), (89, .bool true)]) (by rw [h110]) ?_
              refine ow_vals 6 (j := 17) [95] [(95, .bool (!(seqB r102.1 r102.2.1)))] rfl (by kernel_rfl) ?_
              rcases if_some hF with ⟨h111, hF⟩ | ⟨h111, hF⟩
              · refine ow_slots (L' := [(95, .bool true)]) (by rw [h111]) ?_
                obtain ⟨r112, h113, hF⟩ := bind_some hF
                refine ow_pw rfl (pw_call (F := [pt r35_b2 #[.map (some r98_b1), .map (some r98_b3), .string r98.2.twins_.e0, .string r98.2.twins_.e1, .bool r98.2.found_, .bool r98.2.full_, .int .i64 r98.2.sums_] 54, mpo kStr kStr r98_b1 r98.2.table_, mpo kStr kStr r98_b3 r98.2.notes_, pt b23 #[.string r86, .string r88, .string r90, .string r92] 45, pt b21 #[.string r78, .string r80, .string r82, .string r84] 45] ++ F0) rfl rfl rfl rfl rfl rfl rfl (by kernel_rfl) (perm_of_pulls [0] rfl) (c_law06_awake _ r112 h113) ?_)
                rintro _ _ ⟨rfl, rfl⟩
                refine nw_H (H' := [imm I, pt r35_b2 #[.map (some r98_b1), .map (some r98_b3), .string r98.2.twins_.e0, .string r98.2.twins_.e1, .bool r98.2.found_, .bool r98.2.full_, .int .i64 r98.2.sums_] 54, mpo kStr kStr r98_b1 r98.2.table_, mpo kStr kStr r98_b3 r98.2.notes_, pt b23 #[.string r86, .string r88, .string r90, .string r92] 45, pt b21 #[.string r78, .string r80, .string r82, .string r84] 45] ++ F0) rfl (nw_ow ?_)
                refine ow_vals 2 (j := 20) [6] [(6, .bool r112)] rfl (by kernel_rfl) ?_
                refine ow_end rfl ?_
                refine ew_then ?_
                refine cw_ret ?_
                have hR := Option.some.inj hF
                subst hR
                exact fin1 (H1 := [imm I]) (fun w hs => sat_to [1, 1, 1, 1, 1, 0] 5 rfl hs) rfl (rr_tmp rfl) ⟨rfl, rfl⟩
              · refine ow_slots (L' := [(95, .bool false)]) (by rw [h111]) ?_
                refine ow_vals 3 (j := 20) [6] [(6, .bool false)] rfl (by kernel_rfl) ?_
                refine ow_end rfl ?_
                refine ew_then ?_
                refine cw_ret ?_
                have hR := Option.some.inj hF
                subst hR
                exact fin1 (H1 := [imm I]) (fun w hs => sat_to [1, 1, 1, 1, 1, 0] 5 rfl hs) rfl (rr_tmp rfl) ⟨rfl, rfl⟩
            · refine ow_slots (L' := [(11, .string r102.1), (12, .string r102.2.1), (87, .bool false), (89, .bool false)]) (by rw [h110]) ?_
              refine ow_vals 9 (j := 20) [6] [(6, .bool false)] rfl (by kernel_rfl) ?_
              refine ow_end rfl ?_
              refine ew_then ?_
              refine cw_ret ?_
              have hR := Option.some.inj hF
              subst hR
              exact fin1 (H1 := [imm I]) (fun w hs => sat_to [1, 1, 1, 1, 1, 0] 5 rfl hs) rfl (rr_tmp rfl) ⟨rfl, rfl⟩

end Go.Proofs.Ytfjnafgigfapbaa
