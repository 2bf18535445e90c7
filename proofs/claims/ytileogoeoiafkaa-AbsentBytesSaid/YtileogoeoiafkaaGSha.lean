/- What the functions compute, and that the code computes it: printed by a program of this claim (wip/tools), for the group Sha. -/
import Derived.Test.YtileogoeoiafkaaProg
import Derived.Test.YtileogoeoiafkaaLib
namespace Go.Proofs.Ytileogoeoiafkaa
set_option linter.all false
open Go Go.RowKit Go.Fw
set_option linter.unusedVariables false

structure A8_Intu32 where
  e0 : Int
  e1 : Int
  e2 : Int
  e3 : Int
  e4 : Int
  e5 : Int
  e6 : Int
  e7 : Int
def A8_Intu32.cells (x : A8_Intu32) : List Go.Value := [.int .u32 x.e0, .int .u32 x.e1, .int .u32 x.e2, .int .u32 x.e3, .int .u32 x.e4, .int .u32 x.e5, .int .u32 x.e6, .int .u32 x.e7]
def e_A8_Intu32 : Enc A8_Intu32 := ⟨A8_Intu32.cells, 8, fun _ => rfl, fun _ => rfl, by decide⟩

structure sha_State where
  h_ : A8_Intu32
  rest_ : ByteArray
  n_ : Int
  on_ : Bool
def sha_State.cells (x : sha_State) : List Go.Value := [.int .u32 x.h_.e0, .int .u32 x.h_.e1, .int .u32 x.h_.e2, .int .u32 x.h_.e3, .int .u32 x.h_.e4, .int .u32 x.h_.e5, .int .u32 x.h_.e6, .int .u32 x.h_.e7, .string x.rest_, .int .u64 x.n_, .bool x.on_]
def e_sha_State : Enc sha_State := ⟨sha_State.cells, 11, fun _ => rfl, fun _ => rfl, by decide⟩

def F.sha_New : Option sha_State :=
  some ((⟨(⟨1779033703, 3144134277, 1013904242, 2773480762, 1359893119, 2600822924, 528734635, 1541459225⟩ : A8_Intu32), (ByteArray.mk #[]), 0, true⟩ : sha_State))
set_option maxRecDepth 100000 in
set_option maxHeartbeats 4000000 in
theorem c_sha_New (I : Hl) (res : sha_State) (hF : F.sha_New = some res) : Tr Try.prog 86 [] [imm I] (fun r H' => ∃ (bq1 : Nat), r = .pointer (some ⟨bq1, 0, none⟩) ∧ H' = [imm I, pt bq1 #[.int .u32 res.h_.e0, .int .u32 res.h_.e1, .int .u32 res.h_.e2, .int .u32 res.h_.e3, .int .u32 res.h_.e4, .int .u32 res.h_.e5, .int .u32 res.h_.e6, .int .u32 res.h_.e7, .string res.rest_, .int .u64 res.n_, .bool res.on_] 131]) := by
  unfold F.sha_New at hF
  refine tr_of_cw (fn := Try.f86) Try.func86 rfl (Nat.le_of_ble_eq_true rfl) 4 rfl fun F0 w0 => ?_
  refine cw_keep [] (L' := []) rfl ?_
  refine cw_state (S' := SAT w0 ([imm I] ++ F0)) (fun w hs => hs) ?_
  refine cw_seq ?_
  refine cw_region ?_
  refine ow_vals 1 (j := 1) [] [] rfl (by kernel_rfl) ?_
  refine ow_end rfl ?_
  refine ew_then ?_
  refine cw_seq ?_
  refine cw_region ?_
  refine ow_vals 2 (j := 2) [2] [(2, .agg #[.int .u32 1779033703, .int .u32 3144134277, .int .u32 1013904242, .int .u32 2773480762, .int .u32 1359893119, .int .u32 2600822924, .int .u32 528734635, .int .u32 1541459225, .string (ByteArray.mk #[]), .int .u64 0, .bool true])] rfl (by kernel_rfl) ?_
  refine ow_pw rfl (pw_box (cs := #[.int .u32 1779033703, .int .u32 3144134277, .int .u32 1013904242, .int .u32 2773480762, .int .u32 1359893119, .int .u32 2600822924, .int .u32 528734635, .int .u32 1541459225, .string (ByteArray.mk #[]), .int .u64 0, .bool true]) rfl rfl rfl rfl rfl rfl fun b21 => nw_ow ?_)
  refine ow_vals 1 (j := 4) [0] [(0, .pointer (some ⟨b21, 0, none⟩))] rfl (by kernel_rfl) ?_
  refine ow_end rfl ?_
  refine ew_then ?_
  refine cw_ret ?_
  have hR := Option.some.inj hF
  subst hR
  exact fin1 (H1 := [imm I, pt b21 #[.int .u32 (((⟨(⟨1779033703, 3144134277, 1013904242, 2773480762, 1359893119, 2600822924, 528734635, 1541459225⟩ : A8_Intu32), (ByteArray.mk #[]), 0, true⟩ : sha_State).h_).e0), .int .u32 (((⟨(⟨1779033703, 3144134277, 1013904242, 2773480762, 1359893119, 2600822924, 528734635, 1541459225⟩ : A8_Intu32), (ByteArray.mk #[]), 0, true⟩ : sha_State).h_).e1), .int .u32 (((⟨(⟨1779033703, 3144134277, 1013904242, 2773480762, 1359893119, 2600822924, 528734635, 1541459225⟩ : A8_Intu32), (ByteArray.mk #[]), 0, true⟩ : sha_State).h_).e2), .int .u32 (((⟨(⟨1779033703, 3144134277, 1013904242, 2773480762, 1359893119, 2600822924, 528734635, 1541459225⟩ : A8_Intu32), (ByteArray.mk #[]), 0, true⟩ : sha_State).h_).e3), .int .u32 (((⟨(⟨1779033703, 3144134277, 1013904242, 2773480762, 1359893119, 2600822924, 528734635, 1541459225⟩ : A8_Intu32), (ByteArray.mk #[]), 0, true⟩ : sha_State).h_).e4), .int .u32 (((⟨(⟨1779033703, 3144134277, 1013904242, 2773480762, 1359893119, 2600822924, 528734635, 1541459225⟩ : A8_Intu32), (ByteArray.mk #[]), 0, true⟩ : sha_State).h_).e5), .int .u32 (((⟨(⟨1779033703, 3144134277, 1013904242, 2773480762, 1359893119, 2600822924, 528734635, 1541459225⟩ : A8_Intu32), (ByteArray.mk #[]), 0, true⟩ : sha_State).h_).e6), .int .u32 (((⟨(⟨1779033703, 3144134277, 1013904242, 2773480762, 1359893119, 2600822924, 528734635, 1541459225⟩ : A8_Intu32), (ByteArray.mk #[]), 0, true⟩ : sha_State).h_).e7), .string ((⟨(⟨1779033703, 3144134277, 1013904242, 2773480762, 1359893119, 2600822924, 528734635, 1541459225⟩ : A8_Intu32), (ByteArray.mk #[]), 0, true⟩ : sha_State).rest_), .int .u64 ((⟨(⟨1779033703, 3144134277, 1013904242, 2773480762, 1359893119, 2600822924, 528734635, 1541459225⟩ : A8_Intu32), (ByteArray.mk #[]), 0, true⟩ : sha_State).n_), .bool ((⟨(⟨1779033703, 3144134277, 1013904242, 2773480762, 1359893119, 2600822924, 528734635, 1541459225⟩ : A8_Intu32), (ByteArray.mk #[]), 0, true⟩ : sha_State).on_)] 131]) (fun w hs => sat_to [1, 0] 0 rfl hs) rfl (rr_tmp rfl) ⟨b21, rfl, rfl⟩


def F.math_bits_RotateLeft32 (x0 : Int) (x1 : Int) : Option Int :=
  chk (0 ≤ (iand .u64 (IntKind.u64.wrap (x1)) 31)) (chk (0 ≤ (IntKind.u64.wrap (32 - (iand .u64 (IntKind.u64.wrap (x1)) 31)))) (some ((ior .u32 (IntKind.u32.wrap (x0 * (2 : Int) ^ (min (iand .u64 (IntKind.u64.wrap (x1)) 31).toNat 32))) (x0.fdiv ((2 : Int) ^ (min (IntKind.u64.wrap (32 - (iand .u64 (IntKind.u64.wrap (x1)) 31))).toNat 32)))))))
set_option maxRecDepth 100000 in
set_option maxHeartbeats 4000000 in
theorem c_math_bits_RotateLeft32 (I : Hl) (x0 : Int) (x1 : Int) (res : Int) (hF : F.math_bits_RotateLeft32 x0 x1 = some res) : Tr Try.prog 99 [.int .u32 x0, .int .i64 x1] [imm I] (fun r H' => r = .int .u32 res ∧ H' = [imm I]) := by
  unfold F.math_bits_RotateLeft32 at hF
  refine tr_of_cw (fn := Try.f99) Try.func99 rfl (Nat.le_of_ble_eq_true rfl) 17 rfl fun F0 w0 => ?_
  refine cw_keep [0, 1] (L' := [(0, .int .u32 x0), (1, .int .i64 x1)]) rfl ?_
  refine cw_state (S' := SAT w0 ([imm I] ++ F0)) (fun w hs => hs) ?_
  refine cw_seq ?_
  refine cw_region ?_
  refine ow_vals 1 (j := 1) [0, 1] [(0, .int .u32 x0), (1, .int .i64 x1)] rfl (by kernel_rfl) ?_
  refine ow_end rfl ?_
  refine ew_then ?_
  refine cw_seq ?_
  refine cw_region ?_
  refine ow_vals 4 (j := 4) [0, 5] [(0, .int .u32 x0), (5, .int .u64 (iand .u64 (IntKind.u64.wrap (x1)) 31))] rfl (by kernel_rfl) ?_
  refine ow_end rfl ?_
  refine ew_then ?_
  refine cw_seq ?_
  refine cw_region ?_
  refine ow_vals 2 (j := 2) [0, 5, 9, 10] [(0, .int .u32 x0), (5, .int .u64 (iand .u64 (IntKind.u64.wrap (x1)) 31)), (9, .int .u32 x0), (10, .int .u64 (iand .u64 (IntKind.u64.wrap (x1)) 31))] rfl (by kernel_rfl) ?_
  obtain ⟨h21, hF⟩ := chk_some hF
  refine ow_pw rfl (pw_quiet (v := .int .u32 (IntKind.u32.wrap (x0 * (2 : Int) ^ (min (iand .u64 (IntKind.u64.wrap (x1)) 31).toNat 32)))) rfl rfl rfl rfl (q_shift_shl rfl rfl rfl h21) (nw_ow ?_))
  refine ow_vals 3 (j := 6) [11, 12, 14] [(11, .int .u32 (IntKind.u32.wrap (x0 * (2 : Int) ^ (min (iand .u64 (IntKind.u64.wrap (x1)) 31).toNat 32)))), (12, .int .u32 x0), (14, .int .u64 (IntKind.u64.wrap (32 - (iand .u64 (IntKind.u64.wrap (x1)) 31))))] rfl (by kernel_rfl) ?_
  obtain ⟨h22, hF⟩ := chk_some hF
  refine ow_pw rfl (pw_quiet (v := .int .u32 (x0.fdiv ((2 : Int) ^ (min (IntKind.u64.wrap (32 - (iand .u64 (IntKind.u64.wrap (x1)) 31))).toNat 32)))) rfl rfl rfl rfl (q_shift_shr rfl rfl rfl h22) (nw_ow ?_))
  refine ow_vals 2 (j := 9) [4] [(4, .int .u32 (ior .u32 (IntKind.u32.wrap (x0 * (2 : Int) ^ (min (iand .u64 (IntKind.u64.wrap (x1)) 31).toNat 32))) (x0.fdiv ((2 : Int) ^ (min (IntKind.u64.wrap (32 - (iand .u64 (IntKind.u64.wrap (x1)) 31))).toNat 32)))))] rfl (by kernel_rfl) ?_
  refine ow_end rfl ?_
  refine ew_then ?_
  refine cw_ret ?_
  have hR := Option.some.inj hF
  subst hR
  exact fin1 (H1 := [imm I]) (fun w hs => sat_to [0] 0 rfl hs) rfl (rr_tmp rfl) ⟨rfl, rfl⟩


def F.sha_turn (x0 : Int) (x1 : Int) : Option Int :=
  Option.bind (F.math_bits_RotateLeft32 x0 (IntKind.i64.wrap (0 - x1))) (fun (r21 : Int) => some (r21))
set_option maxRecDepth 100000 in
set_option maxHeartbeats 4000000 in
theorem c_sha_turn (I : Hl) (x0 : Int) (x1 : Int) (res : Int) (hF : F.sha_turn x0 x1 = some res) : Tr Try.prog 98 [.int .u32 x0, .int .i64 x1] [imm I] (fun r H' => r = .int .u32 res ∧ H' = [imm I]) := by
  unfold F.sha_turn at hF
  refine tr_of_cw (fn := Try.f98) Try.func98 rfl (Nat.le_of_ble_eq_true rfl) 9 rfl fun F0 w0 => ?_
  refine cw_keep [0, 1] (L' := [(0, .int .u32 x0), (1, .int .i64 x1)]) rfl ?_
  refine cw_state (S' := SAT w0 ([imm I] ++ F0)) (fun w hs => hs) ?_
  refine cw_seq ?_
  refine cw_region ?_
  refine ow_vals 1 (j := 1) [0, 1] [(0, .int .u32 x0), (1, .int .i64 x1)] rfl (by kernel_rfl) ?_
  refine ow_end rfl ?_
  refine ew_then ?_
  refine cw_seq ?_
  refine cw_region ?_
  refine ow_vals 3 (j := 3) [5, 7] [(5, .int .u32 x0), (7, .int .i64 (IntKind.i64.wrap (0 - x1)))] rfl (by kernel_rfl) ?_
  obtain ⟨r21, h22, hF⟩ := bind_some hF
  refine ow_pw rfl (pw_call (F := [] ++ F0) rfl rfl rfl rfl rfl rfl rfl (by kernel_rfl) (perm_of_pulls [0] rfl) (c_math_bits_RotateLeft32 _ x0 (IntKind.i64.wrap (0 - x1)) r21 h22) ?_)
  rintro _ _ ⟨rfl, rfl⟩
  refine nw_H (H' := [imm I] ++ F0) rfl (nw_ow ?_)
  refine ow_vals 1 (j := 5) [4] [(4, .int .u32 r21)] rfl (by kernel_rfl) ?_
  refine ow_end rfl ?_
  refine ew_then ?_
  refine cw_ret ?_
  have hR := Option.some.inj hF
  subst hR
  exact fin1 (H1 := [imm I]) (fun w hs => sat_to [0] 0 rfl hs) rfl (rr_tmp rfl) ⟨rfl, rfl⟩


def F.sha_words.l1 (x0 : ByteArray) (x27 : Int) (l28 : List Int) : Option ((Int × (List Int)) ⊕ ((List Int))) :=
  if decide (x27 < 16) then (chk (0 ≤ (IntKind.i64.wrap (4 * x27)) ∧ (IntKind.i64.wrap (4 * x27)) < (x0.size : Int)) (chk (0 ≤ (IntKind.i64.wrap ((IntKind.i64.wrap (4 * x27)) + 1)) ∧ (IntKind.i64.wrap ((IntKind.i64.wrap (4 * x27)) + 1)) < (x0.size : Int)) (chk (0 ≤ (IntKind.i64.wrap ((IntKind.i64.wrap (4 * x27)) + 2)) ∧ (IntKind.i64.wrap ((IntKind.i64.wrap (4 * x27)) + 2)) < (x0.size : Int)) (chk (0 ≤ (IntKind.i64.wrap ((IntKind.i64.wrap (4 * x27)) + 3)) ∧ (IntKind.i64.wrap ((IntKind.i64.wrap (4 * x27)) + 3)) < (x0.size : Int)) (Option.bind (at_ l28 x27) (fun (y35 : Int) => some (.inl (IntKind.i64.wrap (x27 + 1), l28.set x27.toNat (ior .u32 (ior .u32 (ior .u32 (IntKind.u32.wrap ((IntKind.u32.wrap (bt x0 (IntKind.i64.wrap (4 * x27)))) * 2 ^ 24)) (IntKind.u32.wrap ((IntKind.u32.wrap (bt x0 (IntKind.i64.wrap ((IntKind.i64.wrap (4 * x27)) + 1)))) * 2 ^ 16))) (IntKind.u32.wrap ((IntKind.u32.wrap (bt x0 (IntKind.i64.wrap ((IntKind.i64.wrap (4 * x27)) + 2)))) * 2 ^ 8))) (IntKind.u32.wrap (bt x0 (IntKind.i64.wrap ((IntKind.i64.wrap (4 * x27)) + 3))))))))))))) else (some (.inr (l28)))
def F.sha_words.l3 (x41 : Int) (l42 : List Int) : Option ((Int × (List Int)) ⊕ ((List Int))) :=
  if decide (x41 < 64) then (Option.bind (at_ l42 (IntKind.i64.wrap (x41 - 15))) (fun (y45 : Int) => Option.bind (at_ l42 (IntKind.i64.wrap (x41 - 2))) (fun (y47 : Int) => Option.bind (at_ l42 (IntKind.i64.wrap (x41 - 16))) (fun (y49 : Int) => Option.bind (at_ l42 (IntKind.i64.wrap (x41 - 7))) (fun (y51 : Int) => Option.bind (F.sha_turn y45 7) (fun (r53 : Int) => Option.bind (F.sha_turn y45 18) (fun (r55 : Int) => Option.bind (F.sha_turn y47 17) (fun (r57 : Int) => Option.bind (F.sha_turn y47 19) (fun (r59 : Int) => Option.bind (at_ l42 x41) (fun (y61 : Int) => some (.inl (IntKind.i64.wrap (x41 + 1), l42.set x41.toNat (IntKind.u32.wrap ((IntKind.u32.wrap ((IntKind.u32.wrap (y49 + (ixor .u32 (ixor .u32 r53 r55) (y45.fdiv (2 ^ 3))))) + y51)) + (ixor .u32 (ixor .u32 r57 r59) (y47.fdiv (2 ^ 10))))))))))))))))) else (some (.inr (l42)))
def F.sha_words.r4 (l63 : List Int) : Option ((List Int)) :=
  some (l63)
def F.sha_words.r2 (l37 : List Int) : Option ((List Int)) :=
  Option.bind (iter (fun x => F.sha_words.l3 x.1 x.2) FUEL (16, l37)) (fun x => F.sha_words.r4 x)
def F.sha_words (x0 : ByteArray) : Option (List Int) :=
  Option.bind (iter (fun x => F.sha_words.l1 x0 x.1 x.2) FUEL (0, (List.replicate 64 0 : List Int))) (fun x => F.sha_words.r2 x)
set_option maxRecDepth 100000 in
set_option maxHeartbeats 4000000 in
theorem c_sha_words (I : Hl) (x0 : ByteArray) (res : (List Int)) (hF : F.sha_words x0 = some res) : Tr Try.prog 96 [.string x0] [imm I] (fun r H' => r = .agg ((eInt .u32).all res).toArray ∧ H' = [imm I] ∧ res.length = 64) := by
  unfold F.sha_words at hF
  refine tr_of_cw (fn := Try.f96) Try.func96 rfl (Nat.le_of_ble_eq_true rfl) 85 rfl fun F0 w0 => ?_
  refine cw_keep [0] (L' := [(0, .string x0)]) rfl ?_
  refine cw_state (S' := SAT w0 ([imm I] ++ F0)) (fun w hs => hs) ?_
  refine cw_seq ?_
  refine cw_region ?_
  refine ow_pw rfl (pw_alloc (cs := ((eInt .u32).all (List.replicate 64 0 : List Int)).toArray) rfl rfl rfl rfl rfl (by kernel_rfl) fun b21 => nw_ow ?_)
  refine ow_end rfl ?_
  refine ew_then ?_
  refine cw_seq ?_
  refine cw_region ?_
  refine ow_pw rfl (pw_alloc (cs := ((eInt .u32).all (List.replicate 64 0 : List Int)).toArray) rfl rfl rfl rfl rfl (by kernel_rfl) fun b23 => nw_ow ?_)
  refine ow_end rfl ?_
  refine ew_then ?_
  obtain ⟨v25, hF, hK25⟩ := bind_some hF
  refine cw_mid (fun a w => ∃ (l37 : List Int), l37 = v25 ∧ l37.length = 64 ∧ Fr 85 [(2, .pointer (some ⟨b21, 0, none⟩)), (3, .pointer (some ⟨b23, 0, none⟩))] a ∧ SAT w0 ([imm I, pt b23 ((eInt .u32).all l37).toArray 135, pt b21 ((eInt .u32).all (List.replicate 64 0 : List Int)).toArray 135] ++ F0) w) ?_ ?_
  · refine cw_seq ?_
    refine cw_region ?_
    refine ow_vals 1 (j := 1) [0, 2, 3, 8] [(0, .string x0), (2, .pointer (some ⟨b21, 0, none⟩)), (3, .pointer (some ⟨b23, 0, none⟩)), (8, .int .i64 0)] rfl (by kernel_rfl) ?_
    refine ow_end rfl ?_
    refine ew_then ?_
    refine cw_block ?_
    refine fun a w hf hs => wp_rounds (fun k a w => ∃ (x27 : Int), ∃ (l28 : List Int), iter (fun x => F.sha_words.l1 x0 x.1 x.2) k (x27, l28) = some v25 ∧ l28.length = 64 ∧ Fr 85 [(0, .string x0), (2, .pointer (some ⟨b21, 0, none⟩)), (3, .pointer (some ⟨b23, 0, none⟩)), (8, .int .i64 x27)] a ∧ SAT w0 ([imm I, pt b23 ((eInt .u32).all l28).toArray 135, pt b21 ((eInt .u32).all (List.replicate 64 0 : List Int)).toArray 135] ++ F0) w) ?_ FUEL a w ⟨0, (List.replicate 64 0 : List Int), hF, (by kernel_rfl), hf.keep [0, 2, 3, 8], sat_to [2, 0, 0] 0 rfl hs⟩
    clear hf hs
    clear a w hF
    rintro k a w ⟨x27, l28, hF2, h29, hf, hs⟩
    obtain ⟨k, r26, rfl, hF, hL26⟩ := iter_some hF2
    clear hF2
    revert a w
    show CW _ _ _ 85 [(0, .string x0), (2, .pointer (some ⟨b21, 0, none⟩)), (3, .pointer (some ⟨b23, 0, none⟩)), (8, .int .i64 x27)] (SAT w0 ([imm I, pt b23 ((eInt .u32).all l28).toArray 135, pt b21 ((eInt .u32).all (List.replicate 64 0 : List Int)).toArray 135] ++ F0))
    try dsimp only at hF
    unfold F.sha_words.l1 at hF
    refine cw_seq ?_
    refine cw_region ?_
    refine ow_vals 1 (j := 1) [0, 2, 3, 8, 9] [(0, .string x0), (2, .pointer (some ⟨b21, 0, none⟩)), (3, .pointer (some ⟨b23, 0, none⟩)), (8, .int .i64 x27), (9, .bool (decide (x27 < 16)))] rfl (by kernel_rfl) ?_
    refine ow_end rfl ?_
    refine ew_then ?_
    refine cw_seq ?_
    rcases if_some hF with ⟨h30, hF⟩ | ⟨h30, hF⟩
    · refine cw_cond_t rfl rfl h30 ?_
      refine cw_skip ?_
      refine ew_then ?_
      refine cw_seq ?_
      refine cw_block ?_
      refine cw_seq ?_
      refine cw_region ?_
      refine ow_vals 2 (j := 2) [0, 2, 3, 4, 8] [(0, .string x0), (2, .pointer (some ⟨b21, 0, none⟩)), (3, .pointer (some ⟨b23, 0, none⟩)), (4, .int .i64 x27), (8, .int .i64 x27)] rfl (by kernel_rfl) ?_
      refine ow_end rfl ?_
      refine ew_then ?_
      refine cw_open 31 (SAT w0 ([imm I, pt b23 ((eInt .u32).all l28).toArray 135, pt b21 ((eInt .u32).all (List.replicate 64 0 : List Int)).toArray 135])) (by kernel_rfl) (f := 32) rfl (fun w hs => sat_drew hs) ?_
      refine aw_vals [0, 1, 2, 3, 7, 8, 9, 10, 15, 16, 17, 18, 23, 24, 25, 26] (f' := 16) (m' := 126322575) [0, 2, 3, 8, 11, 12, 14, 18, 21, 26, 29, 34, 37] [(0, .string x0), (2, .pointer (some ⟨b21, 0, none⟩)), (3, .pointer (some ⟨b23, 0, none⟩)), (8, .int .i64 x27), (11, .int .i64 x27), (12, .string x0), (14, .int .i64 (IntKind.i64.wrap (4 * x27))), (18, .string x0), (21, .int .i64 (IntKind.i64.wrap ((IntKind.i64.wrap (4 * x27)) + 1))), (26, .string x0), (29, .int .i64 (IntKind.i64.wrap ((IntKind.i64.wrap (4 * x27)) + 2))), (34, .string x0), (37, .int .i64 (IntKind.i64.wrap ((IntKind.i64.wrap (4 * x27)) + 3)))] (fun _ _ _ _ _ h => calm_fin (P := Try.prog) (fn := Try.f96) _ _ _ _ _ h) (fun w hs => sat_pulls [0, 0, 0] (G := [] ++ F0) rfl hs) rfl (by kernel_rfl) ?_
      obtain ⟨h31, hF⟩ := chk_some hF
      refine aw_pure 4 (m' := 126322591) (v := .int .u8 (bt x0 (IntKind.i64.wrap (4 * x27)))) rfl rfl rfl rfl (by kernel_rfl) (by kernel_rfl) (fun _ _ _ _ _ h => calm_fin (P := Try.prog) (fn := Try.f96) _ _ _ _ _ h) (fun w hs => sat_pulls [0, 0, 0] (G := [] ++ F0) rfl hs) (q_index_str rfl (by kernel_rfl) rfl rfl h31.1 h31.2) ?_
      refine aw_vals [5, 6] (f' := 13) (m' := 126322687) [0, 2, 3, 8, 11, 17, 18, 21, 26, 29, 34, 37] [(0, .string x0), (2, .pointer (some ⟨b21, 0, none⟩)), (3, .pointer (some ⟨b23, 0, none⟩)), (8, .int .i64 x27), (11, .int .i64 x27), (17, .int .u32 (IntKind.u32.wrap ((IntKind.u32.wrap (bt x0 (IntKind.i64.wrap (4 * x27)))) * 2 ^ 24))), (18, .string x0), (21, .int .i64 (IntKind.i64.wrap ((IntKind.i64.wrap (4 * x27)) + 1))), (26, .string x0), (29, .int .i64 (IntKind.i64.wrap ((IntKind.i64.wrap (4 * x27)) + 2))), (34, .string x0), (37, .int .i64 (IntKind.i64.wrap ((IntKind.i64.wrap (4 * x27)) + 3)))] (fun _ _ _ _ _ h => calm_fin (P := Try.prog) (fn := Try.f96) _ _ _ _ _ h) (fun w hs => sat_pulls [0, 0, 0] (G := [] ++ F0) rfl hs) rfl (by kernel_rfl) ?_
      obtain ⟨h32, hF⟩ := chk_some hF
      refine aw_pure 11 (m' := 126324735) (v := .int .u8 (bt x0 (IntKind.i64.wrap ((IntKind.i64.wrap (4 * x27)) + 1)))) rfl rfl rfl rfl (by kernel_rfl) (by kernel_rfl) (fun _ _ _ _ _ h => calm_fin (P := Try.prog) (fn := Try.f96) _ _ _ _ _ h) (fun w hs => sat_pulls [0, 0, 0] (G := [] ++ F0) rfl hs) (q_index_str rfl (by kernel_rfl) rfl rfl h32.1 h32.2) ?_
      refine aw_vals [12, 13, 14] (f' := 9) (m' := 126353407) [0, 2, 3, 8, 11, 25, 26, 29, 34, 37] [(0, .string x0), (2, .pointer (some ⟨b21, 0, none⟩)), (3, .pointer (some ⟨b23, 0, none⟩)), (8, .int .i64 x27), (11, .int .i64 x27), (25, .int .u32 (ior .u32 (IntKind.u32.wrap ((IntKind.u32.wrap (bt x0 (IntKind.i64.wrap (4 * x27)))) * 2 ^ 24)) (IntKind.u32.wrap ((IntKind.u32.wrap (bt x0 (IntKind.i64.wrap ((IntKind.i64.wrap (4 * x27)) + 1)))) * 2 ^ 16)))), (26, .string x0), (29, .int .i64 (IntKind.i64.wrap ((IntKind.i64.wrap (4 * x27)) + 2))), (34, .string x0), (37, .int .i64 (IntKind.i64.wrap ((IntKind.i64.wrap (4 * x27)) + 3)))] (fun _ _ _ _ _ h => calm_fin (P := Try.prog) (fn := Try.f96) _ _ _ _ _ h) (fun w hs => sat_pulls [0, 0, 0] (G := [] ++ F0) rfl hs) rfl (by kernel_rfl) ?_
      obtain ⟨h33, hF⟩ := chk_some hF
      refine aw_pure 19 (m' := 126877695) (v := .int .u8 (bt x0 (IntKind.i64.wrap ((IntKind.i64.wrap (4 * x27)) + 2)))) rfl rfl rfl rfl (by kernel_rfl) (by kernel_rfl) (fun _ _ _ _ _ h => calm_fin (P := Try.prog) (fn := Try.f96) _ _ _ _ _ h) (fun w hs => sat_pulls [0, 0, 0] (G := [] ++ F0) rfl hs) (q_index_str rfl (by kernel_rfl) rfl rfl h33.1 h33.2) ?_
      refine aw_vals [20, 21, 22] (f' := 5) (m' := 134217727) [0, 2, 3, 8, 11, 33, 34, 37] [(0, .string x0), (2, .pointer (some ⟨b21, 0, none⟩)), (3, .pointer (some ⟨b23, 0, none⟩)), (8, .int .i64 x27), (11, .int .i64 x27), (33, .int .u32 (ior .u32 (ior .u32 (IntKind.u32.wrap ((IntKind.u32.wrap (bt x0 (IntKind.i64.wrap (4 * x27)))) * 2 ^ 24)) (IntKind.u32.wrap ((IntKind.u32.wrap (bt x0 (IntKind.i64.wrap ((IntKind.i64.wrap (4 * x27)) + 1)))) * 2 ^ 16))) (IntKind.u32.wrap ((IntKind.u32.wrap (bt x0 (IntKind.i64.wrap ((IntKind.i64.wrap (4 * x27)) + 2)))) * 2 ^ 8)))), (34, .string x0), (37, .int .i64 (IntKind.i64.wrap ((IntKind.i64.wrap (4 * x27)) + 3)))] (fun _ _ _ _ _ h => calm_fin (P := Try.prog) (fn := Try.f96) _ _ _ _ _ h) (fun w hs => sat_pulls [0, 0, 0] (G := [] ++ F0) rfl hs) rfl (by kernel_rfl) ?_
      obtain ⟨h34, hF⟩ := chk_some hF
      refine aw_pure 27 (m' := 268435455) (v := .int .u8 (bt x0 (IntKind.i64.wrap ((IntKind.i64.wrap (4 * x27)) + 3)))) rfl rfl rfl rfl (by kernel_rfl) (by kernel_rfl) (fun _ _ _ _ _ h => calm_fin (P := Try.prog) (fn := Try.f96) _ _ _ _ _ h) (fun w hs => sat_pulls [0, 0, 0] (G := [] ++ F0) rfl hs) (q_index_str rfl (by kernel_rfl) rfl rfl h34.1 h34.2) ?_
      refine aw_vals [28, 29] (f' := 2) (m' := 1073741823) [0, 2, 3, 8, 11, 40] [(0, .string x0), (2, .pointer (some ⟨b21, 0, none⟩)), (3, .pointer (some ⟨b23, 0, none⟩)), (8, .int .i64 x27), (11, .int .i64 x27), (40, .int .u32 (ior .u32 (ior .u32 (ior .u32 (IntKind.u32.wrap ((IntKind.u32.wrap (bt x0 (IntKind.i64.wrap (4 * x27)))) * 2 ^ 24)) (IntKind.u32.wrap ((IntKind.u32.wrap (bt x0 (IntKind.i64.wrap ((IntKind.i64.wrap (4 * x27)) + 1)))) * 2 ^ 16))) (IntKind.u32.wrap ((IntKind.u32.wrap (bt x0 (IntKind.i64.wrap ((IntKind.i64.wrap (4 * x27)) + 2)))) * 2 ^ 8))) (IntKind.u32.wrap (bt x0 (IntKind.i64.wrap ((IntKind.i64.wrap (4 * x27)) + 3))))))] (fun _ _ _ _ _ h => calm_fin (P := Try.prog) (fn := Try.f96) _ _ _ _ _ h) (fun w hs => sat_pulls [0, 0, 0] (G := [] ++ F0) rfl hs) rfl (by kernel_rfl) ?_
      obtain ⟨y35, h36, hF⟩ := bind_some hF
      refine aw_pure 30 (m' := 2147483647) (v := .pointer (some ((⟨b23, 0, none⟩ : Addr).add (x27.toNat * 1)))) rfl rfl rfl rfl (by kernel_rfl) (by kernel_rfl) (fun _ _ _ _ _ h => calm_fin (P := Try.prog) (fn := Try.f96) _ _ _ _ _ h) (fun w hs => sat_pulls [0, 0, 0] (G := [] ++ F0) rfl hs) (q_index_arr (m := 64) (E := 116) (sz := 1) (tot := 64) rfl (by kernel_rfl) rfl rfl h29 h36) ?_
      refine aw_only 31 (m' := 4294967295) (by kernel_rfl) (by kernel_rfl) (pw_store_arr_el 1 (z' := ior .u32 (ior .u32 (ior .u32 (IntKind.u32.wrap ((IntKind.u32.wrap (bt x0 (IntKind.i64.wrap (4 * x27)))) * 2 ^ 24)) (IntKind.u32.wrap ((IntKind.u32.wrap (bt x0 (IntKind.i64.wrap ((IntKind.i64.wrap (4 * x27)) + 1)))) * 2 ^ 16))) (IntKind.u32.wrap ((IntKind.u32.wrap (bt x0 (IntKind.i64.wrap ((IntKind.i64.wrap (4 * x27)) + 2)))) * 2 ^ 8))) (IntKind.u32.wrap (bt x0 (IntKind.i64.wrap ((IntKind.i64.wrap (4 * x27)) + 3))))) rfl rfl rfl rfl rfl rfl rfl (by kernel_rfl) rfl rfl rfl h36 rfl (nw_H (H' := [imm I, pt b23 ((eInt .u32).all (l28.set x27.toNat (ior .u32 (ior .u32 (ior .u32 (IntKind.u32.wrap ((IntKind.u32.wrap (bt x0 (IntKind.i64.wrap (4 * x27)))) * 2 ^ 24)) (IntKind.u32.wrap ((IntKind.u32.wrap (bt x0 (IntKind.i64.wrap ((IntKind.i64.wrap (4 * x27)) + 1)))) * 2 ^ 16))) (IntKind.u32.wrap ((IntKind.u32.wrap (bt x0 (IntKind.i64.wrap ((IntKind.i64.wrap (4 * x27)) + 2)))) * 2 ^ 8))) (IntKind.u32.wrap (bt x0 (IntKind.i64.wrap ((IntKind.i64.wrap (4 * x27)) + 3))))))).toArray 135, pt b21 ((eInt .u32).all (List.replicate 64 0 : List Int)).toArray 135] ++ F0) rfl (aw_last (by kernel_rfl) ?_)))
      refine aw_keep [0, 2, 3, 8] (L' := [(0, .string x0), (2, .pointer (some ⟨b21, 0, none⟩)), (3, .pointer (some ⟨b23, 0, none⟩)), (8, .int .i64 x27)]) rfl ?_
      refine aw_end (by kernel_rfl) ?_
      refine ew_blk ?_
      refine ew_then ?_
      refine cw_region ?_
      refine ow_vals 2 (j := 2) [0, 2, 3, 8] [(0, .string x0), (2, .pointer (some ⟨b21, 0, none⟩)), (3, .pointer (some ⟨b23, 0, none⟩)), (8, .int .i64 (IntKind.i64.wrap (x27 + 1)))] rfl (by kernel_rfl) ?_
      refine ow_end rfl ?_
      have hR := Option.some.inj hF
      subst hR
      have hR := hL26
      try dsimp only at hR
      exact fun a w hf hs => ⟨k, Nat.lt_succ_self k, IntKind.i64.wrap (x27 + 1), l28.set x27.toNat (ior .u32 (ior .u32 (ior .u32 (IntKind.u32.wrap ((IntKind.u32.wrap (bt x0 (IntKind.i64.wrap (4 * x27)))) * 2 ^ 24)) (IntKind.u32.wrap ((IntKind.u32.wrap (bt x0 (IntKind.i64.wrap ((IntKind.i64.wrap (4 * x27)) + 1)))) * 2 ^ 16))) (IntKind.u32.wrap ((IntKind.u32.wrap (bt x0 (IntKind.i64.wrap ((IntKind.i64.wrap (4 * x27)) + 2)))) * 2 ^ 8))) (IntKind.u32.wrap (bt x0 (IntKind.i64.wrap ((IntKind.i64.wrap (4 * x27)) + 3))))), hR, (by rw [List.length_set]; exact h29), hf.keep [0, 2, 3, 8], sat_to [0, 0, 0] 0 rfl hs⟩
    refine cw_cond_f rfl rfl h30 ?_
    refine cw_exit ?_
    refine ew_then_exit ?_
    refine ew_then_exit ?_
    refine ew_blk_exit ?_
    have hR := Option.some.inj hF
    subst hR
    have hR := hL26
    try dsimp only at hR
    exact fun a w hf hs => ⟨l28, hR, h29, hf.keep [2, 3], sat_to [0, 0, 0] 0 rfl hs⟩
  rintro a w ⟨l37, hv, h38, hf, hs⟩
  subst hv
  replace hF := hK25
  clear hK25
  try dsimp only at hF
  revert a w
  show CW _ _ _ 85 [(2, .pointer (some ⟨b21, 0, none⟩)), (3, .pointer (some ⟨b23, 0, none⟩))] (SAT w0 ([imm I, pt b23 ((eInt .u32).all l37).toArray 135, pt b21 ((eInt .u32).all (List.replicate 64 0 : List Int)).toArray 135] ++ F0))
  unfold F.sha_words.r2 at hF
  obtain ⟨v39, hF, hK39⟩ := bind_some hF
  refine cw_mid (fun a w => ∃ (l63 : List Int), l63 = v39 ∧ l63.length = 64 ∧ Fr 85 [(2, .pointer (some ⟨b21, 0, none⟩)), (3, .pointer (some ⟨b23, 0, none⟩))] a ∧ SAT w0 ([imm I, pt b23 ((eInt .u32).all l63).toArray 135, pt b21 ((eInt .u32).all (List.replicate 64 0 : List Int)).toArray 135] ++ F0) w) ?_ ?_
  · refine cw_seq ?_
    refine cw_region ?_
    refine ow_vals 1 (j := 1) [2, 3, 5] [(2, .pointer (some ⟨b21, 0, none⟩)), (3, .pointer (some ⟨b23, 0, none⟩)), (5, .int .i64 16)] rfl (by kernel_rfl) ?_
    refine ow_end rfl ?_
    refine ew_then ?_
    refine cw_block ?_
    refine fun a w hf hs => wp_rounds (fun k a w => ∃ (x41 : Int), ∃ (l42 : List Int), iter (fun x => F.sha_words.l3 x.1 x.2) k (x41, l42) = some v39 ∧ l42.length = 64 ∧ Fr 85 [(2, .pointer (some ⟨b21, 0, none⟩)), (3, .pointer (some ⟨b23, 0, none⟩)), (5, .int .i64 x41)] a ∧ SAT w0 ([imm I, pt b23 ((eInt .u32).all l42).toArray 135, pt b21 ((eInt .u32).all (List.replicate 64 0 : List Int)).toArray 135] ++ F0) w) ?_ FUEL a w ⟨16, l37, hF, h38, hf.keep [2, 3, 5], sat_to [0, 0, 0] 0 rfl hs⟩
    clear hf hs
    clear a w hF
    rintro k a w ⟨x41, l42, hF2, h43, hf, hs⟩
    obtain ⟨k, r40, rfl, hF, hL40⟩ := iter_some hF2
    clear hF2
    revert a w
    show CW _ _ _ 85 [(2, .pointer (some ⟨b21, 0, none⟩)), (3, .pointer (some ⟨b23, 0, none⟩)), (5, .int .i64 x41)] (SAT w0 ([imm I, pt b23 ((eInt .u32).all l42).toArray 135, pt b21 ((eInt .u32).all (List.replicate 64 0 : List Int)).toArray 135] ++ F0))
    try dsimp only at hF
    unfold F.sha_words.l3 at hF
    refine cw_seq ?_
    refine cw_seq ?_
    refine cw_region ?_
    refine ow_vals 2 (j := 2) [2, 3, 5, 44] [(2, .pointer (some ⟨b21, 0, none⟩)), (3, .pointer (some ⟨b23, 0, none⟩)), (5, .int .i64 x41), (44, .bool (decide (x41 < 64)))] rfl (by kernel_rfl) ?_
    refine ow_end rfl ?_
    refine ew_then ?_
    rcases if_some hF with ⟨h44, hF⟩ | ⟨h44, hF⟩
    · refine cw_cond_t rfl rfl h44 ?_
      refine cw_skip ?_
      refine ew_then ?_
      refine cw_seq ?_
      refine cw_block ?_
      refine cw_seq ?_
      refine cw_open 10 (SAT w0 ([imm I, pt b23 ((eInt .u32).all l42).toArray 135, pt b21 ((eInt .u32).all (List.replicate 64 0 : List Int)).toArray 135])) (by kernel_rfl) (f := 10) rfl (fun w hs => sat_drew hs) ?_
      refine aw_vals [0, 1, 4, 5] (f' := 6) (m' := 51) [2, 3, 5, 48, 52] [(2, .pointer (some ⟨b21, 0, none⟩)), (3, .pointer (some ⟨b23, 0, none⟩)), (5, .int .i64 x41), (48, .int .i64 (IntKind.i64.wrap (x41 - 15))), (52, .int .i64 (IntKind.i64.wrap (x41 - 2)))] (fun _ _ _ _ _ h => calm_fin (P := Try.prog) (fn := Try.f96) _ _ _ _ _ h) (fun w hs => sat_pulls [0, 0, 0] (G := [] ++ F0) rfl hs) rfl (by kernel_rfl) ?_
      obtain ⟨y45, h46, hF⟩ := bind_some hF
      refine aw_pure 2 (m' := 55) (v := .pointer (some ((⟨b23, 0, none⟩ : Addr).add ((IntKind.i64.wrap (x41 - 15)).toNat * 1)))) rfl rfl rfl rfl (by kernel_rfl) (by kernel_rfl) (fun _ _ _ _ _ h => calm_fin (P := Try.prog) (fn := Try.f96) _ _ _ _ _ h) (fun w hs => sat_pulls [0, 0, 0] (G := [] ++ F0) rfl hs) (q_index_arr (m := 64) (E := 116) (sz := 1) (tot := 64) rfl (by kernel_rfl) rfl rfl h43 h46) ?_
      refine aw_quiet 3 (m' := 63) (v := .int .u32 y45) 0 [] rfl rfl rfl rfl (by kernel_rfl) (by kernel_rfl) (by kernel_rfl) (fun _ _ _ _ _ h => calm_fin (P := Try.prog) (fn := Try.f96) _ _ _ _ _ h) (fun w hs => sat_pulls [0, 0, 0] (G := [] ++ F0) rfl hs) (q_load_arr_el 1 rfl rfl rfl (by kernel_rfl) rfl h46 rfl) ?_
      refine aw_vals [8] (f' := 3) (m' := 319) [2, 3, 5, 6, 52] [(2, .pointer (some ⟨b21, 0, none⟩)), (3, .pointer (some ⟨b23, 0, none⟩)), (5, .int .i64 x41), (6, .int .u32 y45), (52, .int .i64 (IntKind.i64.wrap (x41 - 2)))] (fun _ _ _ _ _ h => calm_fin (P := Try.prog) (fn := Try.f96) _ _ _ _ _ h) (fun w hs => sat_pulls [0, 0, 0] (G := [] ++ F0) rfl hs) rfl (by kernel_rfl) ?_
      obtain ⟨y47, h48, hF⟩ := bind_some hF
      refine aw_pure 6 (m' := 383) (v := .pointer (some ((⟨b23, 0, none⟩ : Addr).add ((IntKind.i64.wrap (x41 - 2)).toNat * 1)))) rfl rfl rfl rfl (by kernel_rfl) (by kernel_rfl) (fun _ _ _ _ _ h => calm_fin (P := Try.prog) (fn := Try.f96) _ _ _ _ _ h) (fun w hs => sat_pulls [0, 0, 0] (G := [] ++ F0) rfl hs) (q_index_arr (m := 64) (E := 116) (sz := 1) (tot := 64) rfl (by kernel_rfl) rfl rfl h43 h48) ?_
      refine aw_quiet 7 (m' := 511) (v := .int .u32 y47) 0 [] rfl rfl rfl rfl (by kernel_rfl) (by kernel_rfl) (by kernel_rfl) (fun _ _ _ _ _ h => calm_fin (P := Try.prog) (fn := Try.f96) _ _ _ _ _ h) (fun w hs => sat_pulls [0, 0, 0] (G := [] ++ F0) rfl hs) (q_load_arr_el 1 rfl rfl rfl (by kernel_rfl) rfl h48 rfl) ?_
      refine aw_vals [9] (f' := 0) (m' := 1023) [2, 3, 5, 6, 7] [(2, .pointer (some ⟨b21, 0, none⟩)), (3, .pointer (some ⟨b23, 0, none⟩)), (5, .int .i64 x41), (6, .int .u32 y45), (7, .int .u32 y47)] (fun _ _ _ _ _ h => calm_fin (P := Try.prog) (fn := Try.f96) _ _ _ _ _ h) (fun w hs => sat_pulls [0, 0, 0] (G := [] ++ F0) rfl hs) rfl (by kernel_rfl) ?_
      refine aw_keep [2, 3, 5, 6, 7] (L' := [(2, .pointer (some ⟨b21, 0, none⟩)), (3, .pointer (some ⟨b23, 0, none⟩)), (5, .int .i64 x41), (6, .int .u32 y45), (7, .int .u32 y47)]) rfl ?_
      refine aw_end (by kernel_rfl) ?_
      refine ew_then ?_
      refine cw_open 29 (SAT w0 ([imm I, pt b23 ((eInt .u32).all l42).toArray 135, pt b21 ((eInt .u32).all (List.replicate 64 0 : List Int)).toArray 135])) (by kernel_rfl) (f := 30) rfl (fun w hs => sat_drew hs) ?_
      refine aw_vals [0, 1, 2, 5, 7, 10, 11, 14, 15, 19, 21, 24, 25] (f' := 17) (m' := 53005479) [2, 3, 5, 55, 57, 60, 62, 66, 70, 74, 76, 80] [(2, .pointer (some ⟨b21, 0, none⟩)), (3, .pointer (some ⟨b23, 0, none⟩)), (5, .int .i64 x41), (55, .int .i64 x41), (57, .int .i64 (IntKind.i64.wrap (x41 - 16))), (60, .int .u32 y45), (62, .int .u32 y45), (66, .int .u32 (y45.fdiv (2 ^ 3))), (70, .int .i64 (IntKind.i64.wrap (x41 - 7))), (74, .int .u32 y47), (76, .int .u32 y47), (80, .int .u32 (y47.fdiv (2 ^ 10)))] (fun _ _ _ _ _ h => calm_fin (P := Try.prog) (fn := Try.f96) _ _ _ _ _ h) (fun w hs => sat_pulls [0, 0, 0] (G := [] ++ F0) rfl hs) rfl (by kernel_rfl) ?_
      obtain ⟨y49, h50, hF⟩ := bind_some hF
      refine aw_pure 3 (m' := 53005487) (v := .pointer (some ((⟨b23, 0, none⟩ : Addr).add ((IntKind.i64.wrap (x41 - 16)).toNat * 1)))) rfl rfl rfl rfl (by kernel_rfl) (by kernel_rfl) (fun _ _ _ _ _ h => calm_fin (P := Try.prog) (fn := Try.f96) _ _ _ _ _ h) (fun w hs => sat_pulls [0, 0, 0] (G := [] ++ F0) rfl hs) (q_index_arr (m := 64) (E := 116) (sz := 1) (tot := 64) rfl (by kernel_rfl) rfl rfl h43 h50) ?_
      refine aw_quiet 4 (m' := 53005503) (v := .int .u32 y49) 4 [] rfl rfl rfl rfl (by kernel_rfl) (by kernel_rfl) (by kernel_rfl) (fun _ _ _ _ _ h => calm_fin (P := Try.prog) (fn := Try.f96) _ _ _ _ _ h) (fun w hs => sat_pulls [0, 0, 0] (G := [] ++ F0) rfl hs) (q_load_arr_el 1 rfl rfl rfl (by kernel_rfl) rfl h50 rfl) ?_
      obtain ⟨y51, h52, hF⟩ := bind_some hF
      refine aw_pure 16 (m' := 53071039) (v := .pointer (some ((⟨b23, 0, none⟩ : Addr).add ((IntKind.i64.wrap (x41 - 7)).toNat * 1)))) rfl rfl rfl rfl (by kernel_rfl) (by kernel_rfl) (fun _ _ _ _ _ h => calm_fin (P := Try.prog) (fn := Try.f96) _ _ _ _ _ h) (fun w hs => sat_pulls [0, 0, 0] (G := [] ++ F0) rfl hs) (q_index_arr (m := 64) (E := 116) (sz := 1) (tot := 64) rfl (by kernel_rfl) rfl rfl h43 h52) ?_
      refine aw_quiet 17 (m' := 53202111) (v := .int .u32 y51) 17 [] rfl rfl rfl rfl (by kernel_rfl) (by kernel_rfl) (by kernel_rfl) (fun _ _ _ _ _ h => calm_fin (P := Try.prog) (fn := Try.f96) _ _ _ _ _ h) (fun w hs => sat_pulls [0, 0, 0] (G := [] ++ F0) rfl hs) (q_load_arr_el 1 rfl rfl rfl (by kernel_rfl) rfl h52 rfl) ?_
      obtain ⟨r53, h54, hF⟩ := bind_some hF
      refine aw_only 6 (m' := 53202175) (by kernel_rfl) (by kernel_rfl) (pw_call (F := [pt b23 ((eInt .u32).all l42).toArray 135, pt b21 ((eInt .u32).all (List.replicate 64 0 : List Int)).toArray 135] ++ F0) rfl rfl rfl rfl rfl rfl rfl (by kernel_rfl) (perm_of_pulls [0] rfl) (c_sha_turn _ y45 7 r53 h54) ?_)
      rintro _ _ ⟨rfl, rfl⟩
      refine nw_H (H' := [imm I, pt b23 ((eInt .u32).all l42).toArray 135, pt b21 ((eInt .u32).all (List.replicate 64 0 : List Int)).toArray 135] ++ F0) rfl (aw_next (fun w hs => sat_pulls [0, 0, 0] (G := [] ++ F0) rfl hs) ?_)
      obtain ⟨r55, h56, hF⟩ := bind_some hF
      refine aw_only 8 (m' := 53202431) (by kernel_rfl) (by kernel_rfl) (pw_call (F := [pt b23 ((eInt .u32).all l42).toArray 135, pt b21 ((eInt .u32).all (List.replicate 64 0 : List Int)).toArray 135] ++ F0) rfl rfl rfl rfl rfl rfl rfl (by kernel_rfl) (perm_of_pulls [0] rfl) (c_sha_turn _ y45 18 r55 h56) ?_)
      rintro _ _ ⟨rfl, rfl⟩
      refine nw_H (H' := [imm I, pt b23 ((eInt .u32).all l42).toArray 135, pt b21 ((eInt .u32).all (List.replicate 64 0 : List Int)).toArray 135] ++ F0) rfl (aw_next (fun w hs => sat_pulls [0, 0, 0] (G := [] ++ F0) rfl hs) ?_)
      refine aw_vals [9, 12, 13, 18] (f' := 7) (m' := 53477375) [2, 3, 5, 55, 73, 74, 76, 80] [(2, .pointer (some ⟨b21, 0, none⟩)), (3, .pointer (some ⟨b23, 0, none⟩)), (5, .int .i64 x41), (55, .int .i64 x41), (73, .int .u32 (IntKind.u32.wrap ((IntKind.u32.wrap (y49 + (ixor .u32 (ixor .u32 r53 r55) (y45.fdiv (2 ^ 3))))) + y51))), (74, .int .u32 y47), (76, .int .u32 y47), (80, .int .u32 (y47.fdiv (2 ^ 10)))] (fun _ _ _ _ _ h => calm_fin (P := Try.prog) (fn := Try.f96) _ _ _ _ _ h) (fun w hs => sat_pulls [0, 0, 0] (G := [] ++ F0) rfl hs) rfl (by kernel_rfl) ?_
      obtain ⟨r57, h58, hF⟩ := bind_some hF
      refine aw_only 20 (m' := 54525951) (by kernel_rfl) (by kernel_rfl) (pw_call (F := [pt b23 ((eInt .u32).all l42).toArray 135, pt b21 ((eInt .u32).all (List.replicate 64 0 : List Int)).toArray 135] ++ F0) rfl rfl rfl rfl rfl rfl rfl (by kernel_rfl) (perm_of_pulls [0] rfl) (c_sha_turn _ y47 17 r57 h58) ?_)
      rintro _ _ ⟨rfl, rfl⟩
      refine nw_H (H' := [imm I, pt b23 ((eInt .u32).all l42).toArray 135, pt b21 ((eInt .u32).all (List.replicate 64 0 : List Int)).toArray 135] ++ F0) rfl (aw_next (fun w hs => sat_pulls [0, 0, 0] (G := [] ++ F0) rfl hs) ?_)
      obtain ⟨r59, h60, hF⟩ := bind_some hF
      refine aw_only 22 (m' := 58720255) (by kernel_rfl) (by kernel_rfl) (pw_call (F := [pt b23 ((eInt .u32).all l42).toArray 135, pt b21 ((eInt .u32).all (List.replicate 64 0 : List Int)).toArray 135] ++ F0) rfl rfl rfl rfl rfl rfl rfl (by kernel_rfl) (perm_of_pulls [0] rfl) (c_sha_turn _ y47 19 r59 h60) ?_)
      rintro _ _ ⟨rfl, rfl⟩
      refine nw_H (H' := [imm I, pt b23 ((eInt .u32).all l42).toArray 135, pt b21 ((eInt .u32).all (List.replicate 64 0 : List Int)).toArray 135] ++ F0) rfl (aw_next (fun w hs => sat_pulls [0, 0, 0] (G := [] ++ F0) rfl hs) ?_)
      refine aw_vals [23, 26, 27] (f' := 2) (m' := 268435455) [2, 3, 5, 55, 82] [(2, .pointer (some ⟨b21, 0, none⟩)), (3, .pointer (some ⟨b23, 0, none⟩)), (5, .int .i64 x41), (55, .int .i64 x41), (82, .int .u32 (IntKind.u32.wrap ((IntKind.u32.wrap ((IntKind.u32.wrap (y49 + (ixor .u32 (ixor .u32 r53 r55) (y45.fdiv (2 ^ 3))))) + y51)) + (ixor .u32 (ixor .u32 r57 r59) (y47.fdiv (2 ^ 10))))))] (fun _ _ _ _ _ h => calm_fin (P := Try.prog) (fn := Try.f96) _ _ _ _ _ h) (fun w hs => sat_pulls [0, 0, 0] (G := [] ++ F0) rfl hs) rfl (by kernel_rfl) ?_
      obtain ⟨y61, h62, hF⟩ := bind_some hF
      refine aw_pure 28 (m' := 536870911) (v := .pointer (some ((⟨b23, 0, none⟩ : Addr).add (x41.toNat * 1)))) rfl rfl rfl rfl (by kernel_rfl) (by kernel_rfl) (fun _ _ _ _ _ h => calm_fin (P := Try.prog) (fn := Try.f96) _ _ _ _ _ h) (fun w hs => sat_pulls [0, 0, 0] (G := [] ++ F0) rfl hs) (q_index_arr (m := 64) (E := 116) (sz := 1) (tot := 64) rfl (by kernel_rfl) rfl rfl h43 h62) ?_
      refine aw_only 29 (m' := 1073741823) (by kernel_rfl) (by kernel_rfl) (pw_store_arr_el 1 (z' := IntKind.u32.wrap ((IntKind.u32.wrap ((IntKind.u32.wrap (y49 + (ixor .u32 (ixor .u32 r53 r55) (y45.fdiv (2 ^ 3))))) + y51)) + (ixor .u32 (ixor .u32 r57 r59) (y47.fdiv (2 ^ 10))))) rfl rfl rfl rfl rfl rfl rfl (by kernel_rfl) rfl rfl rfl h62 rfl (nw_H (H' := [imm I, pt b23 ((eInt .u32).all (l42.set x41.toNat (IntKind.u32.wrap ((IntKind.u32.wrap ((IntKind.u32.wrap (y49 + (ixor .u32 (ixor .u32 r53 r55) (y45.fdiv (2 ^ 3))))) + y51)) + (ixor .u32 (ixor .u32 r57 r59) (y47.fdiv (2 ^ 10))))))).toArray 135, pt b21 ((eInt .u32).all (List.replicate 64 0 : List Int)).toArray 135] ++ F0) rfl (aw_last (by kernel_rfl) ?_)))
      refine aw_keep [2, 3, 5] (L' := [(2, .pointer (some ⟨b21, 0, none⟩)), (3, .pointer (some ⟨b23, 0, none⟩)), (5, .int .i64 x41)]) rfl ?_
      refine aw_end (by kernel_rfl) ?_
      refine ew_blk ?_
      refine ew_then ?_
      refine cw_region ?_
      refine ow_vals 3 (j := 3) [2, 3, 5] [(2, .pointer (some ⟨b21, 0, none⟩)), (3, .pointer (some ⟨b23, 0, none⟩)), (5, .int .i64 (IntKind.i64.wrap (x41 + 1)))] rfl (by kernel_rfl) ?_
      refine ow_end rfl ?_
      have hR := Option.some.inj hF
      subst hR
      have hR := hL40
      try dsimp only at hR
      exact fun a w hf hs => ⟨k, Nat.lt_succ_self k, IntKind.i64.wrap (x41 + 1), l42.set x41.toNat (IntKind.u32.wrap ((IntKind.u32.wrap ((IntKind.u32.wrap (y49 + (ixor .u32 (ixor .u32 r53 r55) (y45.fdiv (2 ^ 3))))) + y51)) + (ixor .u32 (ixor .u32 r57 r59) (y47.fdiv (2 ^ 10))))), hR, (by rw [List.length_set]; exact h43), hf.keep [2, 3, 5], sat_to [0, 0, 0] 0 rfl hs⟩
    refine cw_cond_f rfl rfl h44 ?_
    refine cw_exit ?_
    refine ew_then_exit ?_
    refine ew_then_exit ?_
    refine ew_blk_exit ?_
    have hR := Option.some.inj hF
    subst hR
    have hR := hL40
    try dsimp only at hR
    exact fun a w hf hs => ⟨l42, hR, h43, hf.keep [2, 3], sat_to [0, 0, 0] 0 rfl hs⟩
  rintro a w ⟨l63, hv, h64, hf, hs⟩
  subst hv
  replace hF := hK39
  clear hK39
  try dsimp only at hF
  revert a w
  show CW _ _ _ 85 [(2, .pointer (some ⟨b21, 0, none⟩)), (3, .pointer (some ⟨b23, 0, none⟩))] (SAT w0 ([imm I, pt b23 ((eInt .u32).all l63).toArray 135, pt b21 ((eInt .u32).all (List.replicate 64 0 : List Int)).toArray 135] ++ F0))
  unfold F.sha_words.r4 at hF
  refine cw_seq ?_
  refine cw_region ?_
  refine ow_pw rfl (pw_quiet (v := .agg ((eInt .u32).all l63).toArray) rfl rfl rfl rfl (q_load_arr 1 (m := 64) (E := 116) (sz := 1) (tot := 64) rfl rfl (by kernel_rfl) h64 rfl rfl rfl) (nw_ow ?_))
  refine ow_pw rfl (pw_store_arr 2 (m := 64) (E := 116) (sz := 1) (tot := 64) (l' := l63) rfl rfl rfl rfl rfl rfl (by kernel_rfl) (by kernel_rfl) h64 rfl rfl rfl rfl (nw_H (H' := [imm I, pt b23 ((eInt .u32).all l63).toArray 135, pt b21 ((eInt .u32).all l63).toArray 135] ++ F0) rfl (nw_ow ?_)))
  refine ow_end rfl ?_
  refine ew_then ?_
  refine cw_ret ?_
  have hR := Option.some.inj hF
  subst hR
  exact fin1 (H1 := [imm I]) (fun w hs => sat_to [1, 1, 0] 2 rfl hs) rfl (rr_arr (m := 64) (E := 116) (sz := 1) (tot := 64) 2 rfl rfl (by kernel_rfl) h64 rfl rfl) ⟨rfl, rfl, h64⟩


def F.sha_rounds : Option (List Int) :=
  some (([1116352408, 1899447441, 3049323471, 3921009573, 961987163, 1508970993, 2453635748, 2870763221, 3624381080, 310598401, 607225278, 1426881987, 1925078388, 2162078206, 2614888103, 3248222580, 3835390401, 4022224774, 264347078, 604807628, 770255983, 1249150122, 1555081692, 1996064986, 2554220882, 2821834349, 2952996808, 3210313671, 3336571891, 3584528711, 113926993, 338241895, 666307205, 773529912, 1294757372, 1396182291, 1695183700, 1986661051, 2177026350, 2456956037, 2730485921, 2820302411, 3259730800, 3345764771, 3516065817, 3600352804, 4094571909, 275423344, 430227734, 506948616, 659060556, 883997877, 958139571, 1322822218, 1537002063, 1747873779, 1955562222, 2024104815, 2227730452, 2361852424, 2428436474, 2756734187, 3204031479, 3329325298] : List Int))
set_option maxRecDepth 100000 in
set_option maxHeartbeats 4000000 in
theorem c_sha_rounds (I : Hl) (res : (List Int)) (hF : F.sha_rounds = some res) : Tr Try.prog 97 [] [imm I] (fun r H' => r = .agg ((eInt .u32).all res).toArray ∧ H' = [imm I] ∧ res.length = 64) := by
  unfold F.sha_rounds at hF
  refine tr_of_cw (fn := Try.f97) Try.func97 rfl (Nat.le_of_ble_eq_true rfl) 2 rfl fun F0 w0 => ?_
  refine cw_keep [] (L' := []) rfl ?_
  refine cw_state (S' := SAT w0 ([imm I] ++ F0)) (fun w hs => hs) ?_
  refine cw_seq ?_
  refine cw_region ?_
  refine ow_pw rfl (pw_alloc (cs := ((eInt .u32).all (List.replicate 64 0 : List Int)).toArray) rfl rfl rfl rfl rfl (by kernel_rfl) fun b21 => nw_ow ?_)
  refine ow_end rfl ?_
  refine ew_then ?_
  refine cw_seq ?_
  refine cw_region ?_
  refine ow_vals 1 (j := 1) [0, 1] [(0, .pointer (some ⟨b21, 0, none⟩)), (1, .agg #[.int .u32 1116352408, .int .u32 1899447441, .int .u32 3049323471, .int .u32 3921009573, .int .u32 961987163, .int .u32 1508970993, .int .u32 2453635748, .int .u32 2870763221, .int .u32 3624381080, .int .u32 310598401, .int .u32 607225278, .int .u32 1426881987, .int .u32 1925078388, .int .u32 2162078206, .int .u32 2614888103, .int .u32 3248222580, .int .u32 3835390401, .int .u32 4022224774, .int .u32 264347078, .int .u32 604807628, .int .u32 770255983, .int .u32 1249150122, .int .u32 1555081692, .int .u32 1996064986, .int .u32 2554220882, .int .u32 2821834349, .int .u32 2952996808, .int .u32 3210313671, .int .u32 3336571891, .int .u32 3584528711, .int .u32 113926993, .int .u32 338241895, .int .u32 666307205, .int .u32 773529912, .int .u32 1294757372, .int .u32 1396182291, .int .u32 1695183700, .int .u32 1986661051, .int .u32 2177026350, .int .u32 2456956037, .int .u32 2730485921, .int .u32 2820302411, .int .u32 3259730800, .int .u32 3345764771, .int .u32 3516065817, .int .u32 3600352804, .int .u32 4094571909, .int .u32 275423344, .int .u32 430227734, .int .u32 506948616, .int .u32 659060556, .int .u32 883997877, .int .u32 958139571, .int .u32 1322822218, .int .u32 1537002063, .int .u32 1747873779, .int .u32 1955562222, .int .u32 2024104815, .int .u32 2227730452, .int .u32 2361852424, .int .u32 2428436474, .int .u32 2756734187, .int .u32 3204031479, .int .u32 3329325298])] rfl (by kernel_rfl) ?_
  refine ow_pw rfl (pw_store_arr 0 (m := 64) (E := 116) (sz := 1) (tot := 64) (l' := ([1116352408, 1899447441, 3049323471, 3921009573, 961987163, 1508970993, 2453635748, 2870763221, 3624381080, 310598401, 607225278, 1426881987, 1925078388, 2162078206, 2614888103, 3248222580, 3835390401, 4022224774, 264347078, 604807628, 770255983, 1249150122, 1555081692, 1996064986, 2554220882, 2821834349, 2952996808, 3210313671, 3336571891, 3584528711, 113926993, 338241895, 666307205, 773529912, 1294757372, 1396182291, 1695183700, 1986661051, 2177026350, 2456956037, 2730485921, 2820302411, 3259730800, 3345764771, 3516065817, 3600352804, 4094571909, 275423344, 430227734, 506948616, 659060556, 883997877, 958139571, 1322822218, 1537002063, 1747873779, 1955562222, 2024104815, 2227730452, 2361852424, 2428436474, 2756734187, 3204031479, 3329325298] : List Int)) rfl rfl rfl rfl rfl rfl (by kernel_rfl) (by kernel_rfl) rfl rfl rfl rfl rfl (nw_H (H' := [pt b21 ((eInt .u32).all ([1116352408, 1899447441, 3049323471, 3921009573, 961987163, 1508970993, 2453635748, 2870763221, 3624381080, 310598401, 607225278, 1426881987, 1925078388, 2162078206, 2614888103, 3248222580, 3835390401, 4022224774, 264347078, 604807628, 770255983, 1249150122, 1555081692, 1996064986, 2554220882, 2821834349, 2952996808, 3210313671, 3336571891, 3584528711, 113926993, 338241895, 666307205, 773529912, 1294757372, 1396182291, 1695183700, 1986661051, 2177026350, 2456956037, 2730485921, 2820302411, 3259730800, 3345764771, 3516065817, 3600352804, 4094571909, 275423344, 430227734, 506948616, 659060556, 883997877, 958139571, 1322822218, 1537002063, 1747873779, 1955562222, 2024104815, 2227730452, 2361852424, 2428436474, 2756734187, 3204031479, 3329325298] : List Int)).toArray 135, imm I] ++ F0) rfl (nw_ow ?_)))
  refine ow_end rfl ?_
  refine ew_then ?_
  refine cw_ret ?_
  have hR := Option.some.inj hF
  subst hR
  exact fin1 (H1 := [imm I]) (fun w hs => sat_to [0, 0] 1 rfl hs) rfl (rr_arr (m := 64) (E := 116) (sz := 1) (tot := 64) 0 rfl rfl (by kernel_rfl) rfl rfl rfl) ⟨rfl, rfl, rfl⟩


def F.sha_State_mix.l1 (r21 : (List Int)) (r23 : (List Int)) (x33 : Int) (x34 : Int) (x35 : Int) (x36 : Int) (x37 : Int) (x38 : Int) (x39 : Int) (x40 : Int) (x41 : Int) : Option ((Int × Int × Int × Int × Int × Int × Int × Int × Int) ⊕ (Int × Int × Int × Int × Int × Int × Int × Int)) :=
  if decide (x33 < 64) then (Option.bind (at_ r23 x33) (fun (y43 : Int) => Option.bind (at_ r21 x33) (fun (y45 : Int) => Option.bind (F.sha_turn x38 6) (fun (r47 : Int) => Option.bind (F.sha_turn x38 11) (fun (r49 : Int) => Option.bind (F.sha_turn x38 25) (fun (r51 : Int) => Option.bind (F.sha_turn x34 2) (fun (r53 : Int) => Option.bind (F.sha_turn x34 13) (fun (r55 : Int) => Option.bind (F.sha_turn x34 22) (fun (r57 : Int) => some (.inl (IntKind.i64.wrap (x33 + 1), IntKind.u32.wrap ((IntKind.u32.wrap ((IntKind.u32.wrap ((IntKind.u32.wrap ((IntKind.u32.wrap (x41 + (ixor .u32 (ixor .u32 r47 r49) r51))) + (ixor .u32 (iand .u32 x38 x39) (iand .u32 (ixor .u32 4294967295 x38) x40)))) + y43)) + y45)) + (IntKind.u32.wrap ((ixor .u32 (ixor .u32 r53 r55) r57) + (ixor .u32 (ixor .u32 (iand .u32 x34 x35) (iand .u32 x34 x36)) (iand .u32 x35 x36))))), x34, x35, x36, IntKind.u32.wrap (x37 + (IntKind.u32.wrap ((IntKind.u32.wrap ((IntKind.u32.wrap ((IntKind.u32.wrap (x41 + (ixor .u32 (ixor .u32 r47 r49) r51))) + (ixor .u32 (iand .u32 x38 x39) (iand .u32 (ixor .u32 4294967295 x38) x40)))) + y43)) + y45))), x38, x39, x40))))))))))) else (some (.inr ((x34, x35, x36, x37, x38, x39, x40, x41))))
def F.sha_State_mix.r2 (m0 : sha_State) (x59 : Int) (x60 : Int) (x61 : Int) (x62 : Int) (x63 : Int) (x64 : Int) (x65 : Int) (x66 : Int) : Option (sha_State) :=
  some ((⟨(⟨IntKind.u32.wrap (m0.h_.e0 + x59), IntKind.u32.wrap (m0.h_.e1 + x60), IntKind.u32.wrap (m0.h_.e2 + x61), IntKind.u32.wrap (m0.h_.e3 + x62), IntKind.u32.wrap (m0.h_.e4 + x63), IntKind.u32.wrap (m0.h_.e5 + x64), IntKind.u32.wrap (m0.h_.e6 + x65), IntKind.u32.wrap (m0.h_.e7 + x66)⟩ : A8_Intu32), m0.rest_, m0.n_, m0.on_⟩ : sha_State))
def F.sha_State_mix (x1 : ByteArray) (m0 : sha_State) : Option sha_State :=
  Option.bind (F.sha_words x1) (fun (r21 : (List Int)) => Option.bind (F.sha_rounds) (fun (r23 : (List Int)) => Option.bind (iter (fun x => F.sha_State_mix.l1 r21 r23 x.1 x.2.1 x.2.2.1 x.2.2.2.1 x.2.2.2.2.1 x.2.2.2.2.2.1 x.2.2.2.2.2.2.1 x.2.2.2.2.2.2.2.1 x.2.2.2.2.2.2.2.2) FUEL (0, m0.h_.e0, m0.h_.e1, m0.h_.e2, m0.h_.e3, m0.h_.e4, m0.h_.e5, m0.h_.e6, m0.h_.e7)) (fun x => F.sha_State_mix.r2 m0 x.1 x.2.1 x.2.2.1 x.2.2.2.1 x.2.2.2.2.1 x.2.2.2.2.2.1 x.2.2.2.2.2.2.1 x.2.2.2.2.2.2.2)))
set_option maxRecDepth 100000 in
set_option maxHeartbeats 4000000 in
theorem c_sha_State_mix (I : Hl) (x1 : ByteArray) (m0 : sha_State) (b0 : Nat) (res : sha_State) (hF : F.sha_State_mix x1 m0 = some res) : Tr Try.prog 94 [.pointer (some ⟨b0, 0, none⟩), .string x1] [imm I, pt b0 #[.int .u32 m0.h_.e0, .int .u32 m0.h_.e1, .int .u32 m0.h_.e2, .int .u32 m0.h_.e3, .int .u32 m0.h_.e4, .int .u32 m0.h_.e5, .int .u32 m0.h_.e6, .int .u32 m0.h_.e7, .string m0.rest_, .int .u64 m0.n_, .bool m0.on_] 131] (fun r H' => r = .tuple #[] ∧ H' = [imm I, pt b0 #[.int .u32 res.h_.e0, .int .u32 res.h_.e1, .int .u32 res.h_.e2, .int .u32 res.h_.e3, .int .u32 res.h_.e4, .int .u32 res.h_.e5, .int .u32 res.h_.e6, .int .u32 res.h_.e7, .string res.rest_, .int .u64 res.n_, .bool res.on_] 131]) := by
  unfold F.sha_State_mix at hF
  refine tr_of_cw (fn := Try.f94) Try.func94 rfl (Nat.le_of_ble_eq_true rfl) 111 rfl fun F0 w0 => ?_
  refine cw_keep [0, 1] (L' := [(0, .pointer (some ⟨b0, 0, none⟩)), (1, .string x1)]) rfl ?_
  refine cw_state (S' := SAT w0 ([imm I, pt b0 #[.int .u32 m0.h_.e0, .int .u32 m0.h_.e1, .int .u32 m0.h_.e2, .int .u32 m0.h_.e3, .int .u32 m0.h_.e4, .int .u32 m0.h_.e5, .int .u32 m0.h_.e6, .int .u32 m0.h_.e7, .string m0.rest_, .int .u64 m0.n_, .bool m0.on_] 131] ++ F0)) (fun w hs => hs) ?_
  refine cw_seq ?_
  refine cw_region ?_
  refine ow_vals 1 (j := 1) [0, 13] [(0, .pointer (some ⟨b0, 0, none⟩)), (13, .string x1)] rfl (by kernel_rfl) ?_
  obtain ⟨r21, h22, hF⟩ := bind_some hF
  refine ow_pw rfl (pw_call (F := [pt b0 #[.int .u32 m0.h_.e0, .int .u32 m0.h_.e1, .int .u32 m0.h_.e2, .int .u32 m0.h_.e3, .int .u32 m0.h_.e4, .int .u32 m0.h_.e5, .int .u32 m0.h_.e6, .int .u32 m0.h_.e7, .string m0.rest_, .int .u64 m0.n_, .bool m0.on_] 131] ++ F0) rfl rfl rfl rfl rfl rfl rfl (by kernel_rfl) (perm_of_pulls [0] rfl) (c_sha_words _ x1 r21 h22) ?_)
  rintro _ _ ⟨rfl, rfl, r21_h1⟩
  refine nw_H (H' := [imm I, pt b0 #[.int .u32 m0.h_.e0, .int .u32 m0.h_.e1, .int .u32 m0.h_.e2, .int .u32 m0.h_.e3, .int .u32 m0.h_.e4, .int .u32 m0.h_.e5, .int .u32 m0.h_.e6, .int .u32 m0.h_.e7, .string m0.rest_, .int .u64 m0.n_, .bool m0.on_] 131] ++ F0) rfl (nw_ow ?_)
  obtain ⟨r23, h24, hF⟩ := bind_some hF
  refine ow_pw rfl (pw_call (F := [pt b0 #[.int .u32 m0.h_.e0, .int .u32 m0.h_.e1, .int .u32 m0.h_.e2, .int .u32 m0.h_.e3, .int .u32 m0.h_.e4, .int .u32 m0.h_.e5, .int .u32 m0.h_.e6, .int .u32 m0.h_.e7, .string m0.rest_, .int .u64 m0.n_, .bool m0.on_] 131] ++ F0) rfl rfl rfl rfl rfl rfl rfl (by kernel_rfl) (perm_of_pulls [0] rfl) (c_sha_rounds _ r23 h24) ?_)
  rintro _ _ ⟨rfl, rfl, r23_h1⟩
  refine nw_H (H' := [imm I, pt b0 #[.int .u32 m0.h_.e0, .int .u32 m0.h_.e1, .int .u32 m0.h_.e2, .int .u32 m0.h_.e3, .int .u32 m0.h_.e4, .int .u32 m0.h_.e5, .int .u32 m0.h_.e6, .int .u32 m0.h_.e7, .string m0.rest_, .int .u64 m0.n_, .bool m0.on_] 131] ++ F0) rfl (nw_ow ?_)
  refine ow_pw rfl (pw_alloc (cs := ((eInt .u32).all (List.replicate 64 0 : List Int)).toArray) rfl rfl rfl rfl rfl (by kernel_rfl) fun b25 => nw_ow ?_)
  refine ow_pw rfl (pw_alloc (cs := ((eInt .u32).all (List.replicate 64 0 : List Int)).toArray) rfl rfl rfl rfl rfl (by kernel_rfl) fun b27 => nw_ow ?_)
  refine ow_pw rfl (pw_store_arr 1 (m := 64) (E := 116) (sz := 1) (tot := 64) (l' := r21) rfl rfl rfl rfl rfl rfl (by kernel_rfl) (by kernel_rfl) r21_h1 rfl rfl rfl rfl (nw_H (H' := [pt b27 ((eInt .u32).all (List.replicate 64 0 : List Int)).toArray 135, pt b25 ((eInt .u32).all r21).toArray 135, imm I, pt b0 #[.int .u32 m0.h_.e0, .int .u32 m0.h_.e1, .int .u32 m0.h_.e2, .int .u32 m0.h_.e3, .int .u32 m0.h_.e4, .int .u32 m0.h_.e5, .int .u32 m0.h_.e6, .int .u32 m0.h_.e7, .string m0.rest_, .int .u64 m0.n_, .bool m0.on_] 131] ++ F0) rfl (nw_ow ?_)))
  refine ow_pw rfl (pw_store_arr 0 (m := 64) (E := 116) (sz := 1) (tot := 64) (l' := r23) rfl rfl rfl rfl rfl rfl (by kernel_rfl) (by kernel_rfl) r23_h1 rfl rfl rfl rfl (nw_H (H' := [pt b27 ((eInt .u32).all r23).toArray 135, pt b25 ((eInt .u32).all r21).toArray 135, imm I, pt b0 #[.int .u32 m0.h_.e0, .int .u32 m0.h_.e1, .int .u32 m0.h_.e2, .int .u32 m0.h_.e3, .int .u32 m0.h_.e4, .int .u32 m0.h_.e5, .int .u32 m0.h_.e6, .int .u32 m0.h_.e7, .string m0.rest_, .int .u64 m0.n_, .bool m0.on_] 131] ++ F0) rfl (nw_ow ?_)))
  refine ow_end rfl ?_
  refine ew_then ?_
  refine cw_seq ?_
  refine cw_region ?_
  refine ow_vals 3 (j := 3) [0, 4, 5, 18] [(0, .pointer (some ⟨b0, 0, none⟩)), (4, .pointer (some ⟨b25, 0, none⟩)), (5, .pointer (some ⟨b27, 0, none⟩)), (18, .pointer (some ⟨b0, 0, none⟩))] rfl (by kernel_rfl) ?_
  refine ow_pw rfl (pw_quiet (v := .agg #[.int .u32 m0.h_.e0, .int .u32 m0.h_.e1, .int .u32 m0.h_.e2, .int .u32 m0.h_.e3, .int .u32 m0.h_.e4, .int .u32 m0.h_.e5, .int .u32 m0.h_.e6, .int .u32 m0.h_.e7]) rfl rfl rfl rfl (q_load 3 rfl rfl rfl (by kernel_rfl)) (nw_ow ?_))
  refine ow_pw rfl (pw_alloc (cs := #[.int .u32 0, .int .u32 0, .int .u32 0, .int .u32 0, .int .u32 0, .int .u32 0, .int .u32 0, .int .u32 0]) rfl rfl rfl rfl rfl (by kernel_rfl) fun b29 => nw_ow ?_)
  refine ow_pw rfl (pw_store 0 #[.int .u32 m0.h_.e0, .int .u32 m0.h_.e1, .int .u32 m0.h_.e2, .int .u32 m0.h_.e3, .int .u32 m0.h_.e4, .int .u32 m0.h_.e5, .int .u32 m0.h_.e6, .int .u32 m0.h_.e7] rfl rfl rfl rfl rfl rfl rfl (by kernel_rfl) (nw_H (H' := [pt b29 #[.int .u32 m0.h_.e0, .int .u32 m0.h_.e1, .int .u32 m0.h_.e2, .int .u32 m0.h_.e3, .int .u32 m0.h_.e4, .int .u32 m0.h_.e5, .int .u32 m0.h_.e6, .int .u32 m0.h_.e7] 129, pt b27 ((eInt .u32).all r23).toArray 135, pt b25 ((eInt .u32).all r21).toArray 135, imm I, pt b0 #[.int .u32 m0.h_.e0, .int .u32 m0.h_.e1, .int .u32 m0.h_.e2, .int .u32 m0.h_.e3, .int .u32 m0.h_.e4, .int .u32 m0.h_.e5, .int .u32 m0.h_.e6, .int .u32 m0.h_.e7, .string m0.rest_, .int .u64 m0.n_, .bool m0.on_] 131] ++ F0) rfl (nw_ow ?_)))
  refine ow_end rfl ?_
  refine ew_then ?_
  obtain ⟨v31, hF, hK31⟩ := bind_some hF
  refine cw_mid (fun a w => ∃ (x59 : Int), ∃ (x60 : Int), ∃ (x61 : Int), ∃ (x62 : Int), ∃ (x63 : Int), ∃ (x64 : Int), ∃ (x65 : Int), ∃ (x66 : Int), (x59, x60, x61, x62, x63, x64, x65, x66) = v31 ∧ Fr 111 [(0, .pointer (some ⟨b0, 0, none⟩)), (6, .pointer (some ⟨b29, 0, none⟩))] a ∧ SAT w0 ([imm I, pt b29 #[.int .u32 x59, .int .u32 x60, .int .u32 x61, .int .u32 x62, .int .u32 x63, .int .u32 x64, .int .u32 x65, .int .u32 x66] 129, pt b27 ((eInt .u32).all r23).toArray 135, pt b25 ((eInt .u32).all r21).toArray 135, pt b0 #[.int .u32 m0.h_.e0, .int .u32 m0.h_.e1, .int .u32 m0.h_.e2, .int .u32 m0.h_.e3, .int .u32 m0.h_.e4, .int .u32 m0.h_.e5, .int .u32 m0.h_.e6, .int .u32 m0.h_.e7, .string m0.rest_, .int .u64 m0.n_, .bool m0.on_] 131] ++ F0) w) ?_ ?_
  · refine cw_seq ?_
    refine cw_region ?_
    refine ow_vals 1 (j := 1) [0, 4, 5, 6, 20] [(0, .pointer (some ⟨b0, 0, none⟩)), (4, .pointer (some ⟨b25, 0, none⟩)), (5, .pointer (some ⟨b27, 0, none⟩)), (6, .pointer (some ⟨b29, 0, none⟩)), (20, .int .i64 0)] rfl (by kernel_rfl) ?_
    refine ow_end rfl ?_
    refine ew_then ?_
    refine cw_block ?_
    refine fun a w hf hs => wp_rounds (fun k a w => ∃ (x33 : Int), ∃ (x34 : Int), ∃ (x35 : Int), ∃ (x36 : Int), ∃ (x37 : Int), ∃ (x38 : Int), ∃ (x39 : Int), ∃ (x40 : Int), ∃ (x41 : Int), iter (fun x => F.sha_State_mix.l1 r21 r23 x.1 x.2.1 x.2.2.1 x.2.2.2.1 x.2.2.2.2.1 x.2.2.2.2.2.1 x.2.2.2.2.2.2.1 x.2.2.2.2.2.2.2.1 x.2.2.2.2.2.2.2.2) k (x33, x34, x35, x36, x37, x38, x39, x40, x41) = some v31 ∧ Fr 111 [(0, .pointer (some ⟨b0, 0, none⟩)), (4, .pointer (some ⟨b25, 0, none⟩)), (5, .pointer (some ⟨b27, 0, none⟩)), (6, .pointer (some ⟨b29, 0, none⟩)), (20, .int .i64 x33)] a ∧ SAT w0 ([imm I, pt b29 #[.int .u32 x34, .int .u32 x35, .int .u32 x36, .int .u32 x37, .int .u32 x38, .int .u32 x39, .int .u32 x40, .int .u32 x41] 129, pt b27 ((eInt .u32).all r23).toArray 135, pt b25 ((eInt .u32).all r21).toArray 135, pt b0 #[.int .u32 m0.h_.e0, .int .u32 m0.h_.e1, .int .u32 m0.h_.e2, .int .u32 m0.h_.e3, .int .u32 m0.h_.e4, .int .u32 m0.h_.e5, .int .u32 m0.h_.e6, .int .u32 m0.h_.e7, .string m0.rest_, .int .u64 m0.n_, .bool m0.on_] 131] ++ F0) w) ?_ FUEL a w ⟨0, m0.h_.e0, m0.h_.e1, m0.h_.e2, m0.h_.e3, m0.h_.e4, m0.h_.e5, m0.h_.e6, m0.h_.e7, hF, hf.keep [0, 4, 5, 6, 20], sat_to [3, 0, 0, 0, 0] 0 rfl hs⟩
    clear hf hs
    clear a w hF
    rintro k a w ⟨x33, x34, x35, x36, x37, x38, x39, x40, x41, hF2, hf, hs⟩
    obtain ⟨k, r32, rfl, hF, hL32⟩ := iter_some hF2
    clear hF2
    revert a w
    show CW _ _ _ 111 [(0, .pointer (some ⟨b0, 0, none⟩)), (4, .pointer (some ⟨b25, 0, none⟩)), (5, .pointer (some ⟨b27, 0, none⟩)), (6, .pointer (some ⟨b29, 0, none⟩)), (20, .int .i64 x33)] (SAT w0 ([imm I, pt b29 #[.int .u32 x34, .int .u32 x35, .int .u32 x36, .int .u32 x37, .int .u32 x38, .int .u32 x39, .int .u32 x40, .int .u32 x41] 129, pt b27 ((eInt .u32).all r23).toArray 135, pt b25 ((eInt .u32).all r21).toArray 135, pt b0 #[.int .u32 m0.h_.e0, .int .u32 m0.h_.e1, .int .u32 m0.h_.e2, .int .u32 m0.h_.e3, .int .u32 m0.h_.e4, .int .u32 m0.h_.e5, .int .u32 m0.h_.e6, .int .u32 m0.h_.e7, .string m0.rest_, .int .u64 m0.n_, .bool m0.on_] 131] ++ F0))
    try dsimp only at hF
    unfold F.sha_State_mix.l1 at hF
    refine cw_seq ?_
    refine cw_region ?_
    refine ow_vals 1 (j := 1) [0, 4, 5, 6, 20, 21] [(0, .pointer (some ⟨b0, 0, none⟩)), (4, .pointer (some ⟨b25, 0, none⟩)), (5, .pointer (some ⟨b27, 0, none⟩)), (6, .pointer (some ⟨b29, 0, none⟩)), (20, .int .i64 x33), (21, .bool (decide (x33 < 64)))] rfl (by kernel_rfl) ?_
    refine ow_end rfl ?_
    refine ew_then ?_
    refine cw_seq ?_
    rcases if_some hF with ⟨h42, hF⟩ | ⟨h42, hF⟩
    · refine cw_cond_t rfl rfl h42 ?_
      refine cw_skip ?_
      refine ew_then ?_
      refine cw_seq ?_
      refine cw_block ?_
      refine cw_seq ?_
      refine cw_region ?_
      refine ow_vals 2 (j := 2) [0, 4, 5, 6, 7, 20] [(0, .pointer (some ⟨b0, 0, none⟩)), (4, .pointer (some ⟨b25, 0, none⟩)), (5, .pointer (some ⟨b27, 0, none⟩)), (6, .pointer (some ⟨b29, 0, none⟩)), (7, .int .i64 x33), (20, .int .i64 x33)] rfl (by kernel_rfl) ?_
      refine ow_end rfl ?_
      refine ew_then ?_
      refine cw_seq ?_
      refine cw_open 6 (SAT w0 ([imm I, pt b29 #[.int .u32 x34, .int .u32 x35, .int .u32 x36, .int .u32 x37, .int .u32 x38, .int .u32 x39, .int .u32 x40, .int .u32 x41] 129, pt b27 ((eInt .u32).all r23).toArray 135, pt b25 ((eInt .u32).all r21).toArray 135, pt b0 #[.int .u32 m0.h_.e0, .int .u32 m0.h_.e1, .int .u32 m0.h_.e2, .int .u32 m0.h_.e3, .int .u32 m0.h_.e4, .int .u32 m0.h_.e5, .int .u32 m0.h_.e6, .int .u32 m0.h_.e7, .string m0.rest_, .int .u64 m0.n_, .bool m0.on_] 131])) (by kernel_rfl) (f := 6) rfl (fun w hs => sat_drew hs) ?_
      refine aw_vals [0, 2] (f' := 4) (m' := 5) [0, 4, 5, 6, 7, 20, 23, 25] [(0, .pointer (some ⟨b0, 0, none⟩)), (4, .pointer (some ⟨b25, 0, none⟩)), (5, .pointer (some ⟨b27, 0, none⟩)), (6, .pointer (some ⟨b29, 0, none⟩)), (7, .int .i64 x33), (20, .int .i64 x33), (23, .pointer (some ⟨b29, 4, none⟩)), (25, .pointer (some ⟨b29, 0, none⟩))] (fun _ _ _ _ _ h => calm_fin (P := Try.prog) (fn := Try.f94) _ _ _ _ _ h) (fun w hs => sat_pulls [0, 0, 0, 0, 0] (G := [] ++ F0) rfl hs) rfl (by kernel_rfl) ?_
      refine aw_quiet 1 (m' := 7) (v := .int .u32 x38) 0 [] rfl rfl rfl rfl (by kernel_rfl) (by kernel_rfl) (by kernel_rfl) (fun _ _ _ _ _ h => calm_fin (P := Try.prog) (fn := Try.f94) _ _ _ _ _ h) (fun w hs => sat_pulls [0, 0, 0, 0, 0] (G := [] ++ F0) rfl hs) (q_load 1 rfl rfl rfl (by kernel_rfl)) ?_
      refine aw_vals [4] (f' := 2) (m' := 23) [0, 4, 5, 6, 7, 8, 20, 25] [(0, .pointer (some ⟨b0, 0, none⟩)), (4, .pointer (some ⟨b25, 0, none⟩)), (5, .pointer (some ⟨b27, 0, none⟩)), (6, .pointer (some ⟨b29, 0, none⟩)), (7, .int .i64 x33), (8, .int .u32 x38), (20, .int .i64 x33), (25, .pointer (some ⟨b29, 0, none⟩))] (fun _ _ _ _ _ h => calm_fin (P := Try.prog) (fn := Try.f94) _ _ _ _ _ h) (fun w hs => sat_pulls [0, 0, 0, 0, 0] (G := [] ++ F0) rfl hs) rfl (by kernel_rfl) ?_
      refine aw_quiet 3 (m' := 31) (v := .int .u32 x34) 0 [] rfl rfl rfl rfl (by kernel_rfl) (by kernel_rfl) (by kernel_rfl) (fun _ _ _ _ _ h => calm_fin (P := Try.prog) (fn := Try.f94) _ _ _ _ _ h) (fun w hs => sat_pulls [0, 0, 0, 0, 0] (G := [] ++ F0) rfl hs) (q_load 1 rfl rfl rfl (by kernel_rfl)) ?_
      refine aw_vals [5] (f' := 0) (m' := 63) [0, 4, 5, 6, 7, 8, 9, 20] [(0, .pointer (some ⟨b0, 0, none⟩)), (4, .pointer (some ⟨b25, 0, none⟩)), (5, .pointer (some ⟨b27, 0, none⟩)), (6, .pointer (some ⟨b29, 0, none⟩)), (7, .int .i64 x33), (8, .int .u32 x38), (9, .int .u32 x34), (20, .int .i64 x33)] (fun _ _ _ _ _ h => calm_fin (P := Try.prog) (fn := Try.f94) _ _ _ _ _ h) (fun w hs => sat_pulls [0, 0, 0, 0, 0] (G := [] ++ F0) rfl hs) rfl (by kernel_rfl) ?_
      refine aw_keep [0, 4, 5, 6, 7, 8, 9, 20] (L' := [(0, .pointer (some ⟨b0, 0, none⟩)), (4, .pointer (some ⟨b25, 0, none⟩)), (5, .pointer (some ⟨b27, 0, none⟩)), (6, .pointer (some ⟨b29, 0, none⟩)), (7, .int .i64 x33), (8, .int .u32 x38), (9, .int .u32 x34), (20, .int .i64 x33)]) rfl ?_
      refine aw_end (by kernel_rfl) ?_
      refine ew_then ?_
      refine cw_seq ?_
      refine cw_open 31 (SAT w0 ([imm I, pt b29 #[.int .u32 x34, .int .u32 x35, .int .u32 x36, .int .u32 x37, .int .u32 x38, .int .u32 x39, .int .u32 x40, .int .u32 x41] 129, pt b27 ((eInt .u32).all r23).toArray 135, pt b25 ((eInt .u32).all r21).toArray 135, pt b0 #[.int .u32 m0.h_.e0, .int .u32 m0.h_.e1, .int .u32 m0.h_.e2, .int .u32 m0.h_.e3, .int .u32 m0.h_.e4, .int .u32 m0.h_.e5, .int .u32 m0.h_.e6, .int .u32 m0.h_.e7, .string m0.rest_, .int .u64 m0.n_, .bool m0.on_] 131])) (by kernel_rfl) (f := 31) rfl (fun w hs => sat_drew hs) ?_
      refine aw_vals [0, 2, 4, 7, 11, 12, 15, 16, 17, 22, 26] (f' := 20) (m' := 71538837) [0, 4, 5, 6, 9, 20, 27, 29, 31, 34, 38, 39, 43, 44, 49, 53] [(0, .pointer (some ⟨b0, 0, none⟩)), (4, .pointer (some ⟨b25, 0, none⟩)), (5, .pointer (some ⟨b27, 0, none⟩)), (6, .pointer (some ⟨b29, 0, none⟩)), (9, .int .u32 x34), (20, .int .i64 x33), (27, .pointer (some ⟨b29, 7, none⟩)), (29, .int .u32 x38), (31, .int .u32 x38), (34, .int .u32 x38), (38, .int .u32 x38), (39, .pointer (some ⟨b29, 5, none⟩)), (43, .int .u32 (ixor .u32 4294967295 x38)), (44, .pointer (some ⟨b29, 6, none⟩)), (49, .int .i64 x33), (53, .int .i64 x33)] (fun _ _ _ _ _ h => calm_fin (P := Try.prog) (fn := Try.f94) _ _ _ _ _ h) (fun w hs => sat_pulls [0, 0, 0, 0, 0] (G := [] ++ F0) rfl hs) rfl (by kernel_rfl) ?_
      refine aw_quiet 1 (m' := 71538839) (v := .int .u32 x41) 0 [] rfl rfl rfl rfl (by kernel_rfl) (by kernel_rfl) (by kernel_rfl) (fun _ _ _ _ _ h => calm_fin (P := Try.prog) (fn := Try.f94) _ _ _ _ _ h) (fun w hs => sat_pulls [0, 0, 0, 0, 0] (G := [] ++ F0) rfl hs) (q_load 1 rfl rfl rfl (by kernel_rfl)) ?_
      refine aw_quiet 13 (m' := 71547031) (v := .int .u32 x39) 0 [] rfl rfl rfl rfl (by kernel_rfl) (by kernel_rfl) (by kernel_rfl) (fun _ _ _ _ _ h => calm_fin (P := Try.prog) (fn := Try.f94) _ _ _ _ _ h) (fun w hs => sat_pulls [0, 0, 0, 0, 0] (G := [] ++ F0) rfl hs) (q_load 1 rfl rfl rfl (by kernel_rfl)) ?_
      refine aw_vals [14] (f' := 17) (m' := 71563415) [0, 4, 5, 6, 9, 20, 28, 29, 31, 34, 41, 43, 44, 49, 53] [(0, .pointer (some ⟨b0, 0, none⟩)), (4, .pointer (some ⟨b25, 0, none⟩)), (5, .pointer (some ⟨b27, 0, none⟩)), (6, .pointer (some ⟨b29, 0, none⟩)), (9, .int .u32 x34), (20, .int .i64 x33), (28, .int .u32 x41), (29, .int .u32 x38), (31, .int .u32 x38), (34, .int .u32 x38), (41, .int .u32 (iand .u32 x38 x39)), (43, .int .u32 (ixor .u32 4294967295 x38)), (44, .pointer (some ⟨b29, 6, none⟩)), (49, .int .i64 x33), (53, .int .i64 x33)] (fun _ _ _ _ _ h => calm_fin (P := Try.prog) (fn := Try.f94) _ _ _ _ _ h) (fun w hs => sat_pulls [0, 0, 0, 0, 0] (G := [] ++ F0) rfl hs) rfl (by kernel_rfl) ?_
      refine aw_quiet 18 (m' := 71825559) (v := .int .u32 x40) 0 [] rfl rfl rfl rfl (by kernel_rfl) (by kernel_rfl) (by kernel_rfl) (fun _ _ _ _ _ h => calm_fin (P := Try.prog) (fn := Try.f94) _ _ _ _ _ h) (fun w hs => sat_pulls [0, 0, 0, 0, 0] (G := [] ++ F0) rfl hs) (q_load 1 rfl rfl rfl (by kernel_rfl)) ?_
      refine aw_vals [19, 20] (f' := 14) (m' := 73398423) [0, 4, 5, 6, 9, 20, 28, 29, 31, 34, 47, 49, 53] [(0, .pointer (some ⟨b0, 0, none⟩)), (4, .pointer (some ⟨b25, 0, none⟩)), (5, .pointer (some ⟨b27, 0, none⟩)), (6, .pointer (some ⟨b29, 0, none⟩)), (9, .int .u32 x34), (20, .int .i64 x33), (28, .int .u32 x41), (29, .int .u32 x38), (31, .int .u32 x38), (34, .int .u32 x38), (47, .int .u32 (ixor .u32 (iand .u32 x38 x39) (iand .u32 (ixor .u32 4294967295 x38) x40))), (49, .int .i64 x33), (53, .int .i64 x33)] (fun _ _ _ _ _ h => calm_fin (P := Try.prog) (fn := Try.f94) _ _ _ _ _ h) (fun w hs => sat_pulls [0, 0, 0, 0, 0] (G := [] ++ F0) rfl hs) rfl (by kernel_rfl) ?_
      obtain ⟨y43, h44, hF⟩ := bind_some hF
      refine aw_pure 23 (m' := 81787031) (v := .pointer (some ((⟨b27, 0, none⟩ : Addr).add (x33.toNat * 1)))) rfl rfl rfl rfl (by kernel_rfl) (by kernel_rfl) (fun _ _ _ _ _ h => calm_fin (P := Try.prog) (fn := Try.f94) _ _ _ _ _ h) (fun w hs => sat_pulls [0, 0, 0, 0, 0] (G := [] ++ F0) rfl hs) (q_index_arr (m := 64) (E := 116) (sz := 1) (tot := 64) rfl (by kernel_rfl) rfl rfl r23_h1 h44) ?_
      refine aw_quiet 24 (m' := 98564247) (v := .int .u32 y43) 0 [] rfl rfl rfl rfl (by kernel_rfl) (by kernel_rfl) (by kernel_rfl) (fun _ _ _ _ _ h => calm_fin (P := Try.prog) (fn := Try.f94) _ _ _ _ _ h) (fun w hs => sat_pulls [0, 0, 0, 0, 0] (G := [] ++ F0) rfl hs) (q_load_arr_el 2 rfl rfl rfl (by kernel_rfl) rfl h44 rfl) ?_
      obtain ⟨y45, h46, hF⟩ := bind_some hF
      refine aw_pure 27 (m' := 232781975) (v := .pointer (some ((⟨b25, 0, none⟩ : Addr).add (x33.toNat * 1)))) rfl rfl rfl rfl (by kernel_rfl) (by kernel_rfl) (fun _ _ _ _ _ h => calm_fin (P := Try.prog) (fn := Try.f94) _ _ _ _ _ h) (fun w hs => sat_pulls [0, 0, 0, 0, 0] (G := [] ++ F0) rfl hs) (q_index_arr (m := 64) (E := 116) (sz := 1) (tot := 64) rfl (by kernel_rfl) rfl rfl r21_h1 h46) ?_
      refine aw_quiet 28 (m' := 501217431) (v := .int .u32 y45) 0 [] rfl rfl rfl rfl (by kernel_rfl) (by kernel_rfl) (by kernel_rfl) (fun _ _ _ _ _ h => calm_fin (P := Try.prog) (fn := Try.f94) _ _ _ _ _ h) (fun w hs => sat_pulls [0, 0, 0, 0, 0] (G := [] ++ F0) rfl hs) (q_load_arr_el 3 rfl rfl rfl (by kernel_rfl) rfl h46 rfl) ?_
      obtain ⟨r47, h48, hF⟩ := bind_some hF
      refine aw_only 3 (m' := 501217439) (by kernel_rfl) (by kernel_rfl) (pw_call (F := [pt b29 #[.int .u32 x34, .int .u32 x35, .int .u32 x36, .int .u32 x37, .int .u32 x38, .int .u32 x39, .int .u32 x40, .int .u32 x41] 129, pt b27 ((eInt .u32).all r23).toArray 135, pt b25 ((eInt .u32).all r21).toArray 135, pt b0 #[.int .u32 m0.h_.e0, .int .u32 m0.h_.e1, .int .u32 m0.h_.e2, .int .u32 m0.h_.e3, .int .u32 m0.h_.e4, .int .u32 m0.h_.e5, .int .u32 m0.h_.e6, .int .u32 m0.h_.e7, .string m0.rest_, .int .u64 m0.n_, .bool m0.on_] 131] ++ F0) rfl rfl rfl rfl rfl rfl rfl (by kernel_rfl) (perm_of_pulls [0] rfl) (c_sha_turn _ x38 6 r47 h48) ?_)
      rintro _ _ ⟨rfl, rfl⟩
      refine nw_H (H' := [imm I, pt b29 #[.int .u32 x34, .int .u32 x35, .int .u32 x36, .int .u32 x37, .int .u32 x38, .int .u32 x39, .int .u32 x40, .int .u32 x41] 129, pt b27 ((eInt .u32).all r23).toArray 135, pt b25 ((eInt .u32).all r21).toArray 135, pt b0 #[.int .u32 m0.h_.e0, .int .u32 m0.h_.e1, .int .u32 m0.h_.e2, .int .u32 m0.h_.e3, .int .u32 m0.h_.e4, .int .u32 m0.h_.e5, .int .u32 m0.h_.e6, .int .u32 m0.h_.e7, .string m0.rest_, .int .u64 m0.n_, .bool m0.on_] 131] ++ F0) rfl (aw_next (fun w hs => sat_pulls [0, 0, 0, 0, 0] (G := [] ++ F0) rfl hs) ?_)
      obtain ⟨r49, h50, hF⟩ := bind_some hF
      refine aw_only 5 (m' := 501217471) (by kernel_rfl) (by kernel_rfl) (pw_call (F := [pt b29 #[.int .u32 x34, .int .u32 x35, .int .u32 x36, .int .u32 x37, .int .u32 x38, .int .u32 x39, .int .u32 x40, .int .u32 x41] 129, pt b27 ((eInt .u32).all r23).toArray 135, pt b25 ((eInt .u32).all r21).toArray 135, pt b0 #[.int .u32 m0.h_.e0, .int .u32 m0.h_.e1, .int .u32 m0.h_.e2, .int .u32 m0.h_.e3, .int .u32 m0.h_.e4, .int .u32 m0.h_.e5, .int .u32 m0.h_.e6, .int .u32 m0.h_.e7, .string m0.rest_, .int .u64 m0.n_, .bool m0.on_] 131] ++ F0) rfl rfl rfl rfl rfl rfl rfl (by kernel_rfl) (perm_of_pulls [0] rfl) (c_sha_turn _ x38 11 r49 h50) ?_)
      rintro _ _ ⟨rfl, rfl⟩
      refine nw_H (H' := [imm I, pt b29 #[.int .u32 x34, .int .u32 x35, .int .u32 x36, .int .u32 x37, .int .u32 x38, .int .u32 x39, .int .u32 x40, .int .u32 x41] 129, pt b27 ((eInt .u32).all r23).toArray 135, pt b25 ((eInt .u32).all r21).toArray 135, pt b0 #[.int .u32 m0.h_.e0, .int .u32 m0.h_.e1, .int .u32 m0.h_.e2, .int .u32 m0.h_.e3, .int .u32 m0.h_.e4, .int .u32 m0.h_.e5, .int .u32 m0.h_.e6, .int .u32 m0.h_.e7, .string m0.rest_, .int .u64 m0.n_, .bool m0.on_] 131] ++ F0) rfl (aw_next (fun w hs => sat_pulls [0, 0, 0, 0, 0] (G := [] ++ F0) rfl hs) ?_)
      refine aw_vals [6] (f' := 7) (m' := 501217535) [0, 4, 5, 6, 9, 20, 28, 33, 34, 47, 51, 55] [(0, .pointer (some ⟨b0, 0, none⟩)), (4, .pointer (some ⟨b25, 0, none⟩)), (5, .pointer (some ⟨b27, 0, none⟩)), (6, .pointer (some ⟨b29, 0, none⟩)), (9, .int .u32 x34), (20, .int .i64 x33), (28, .int .u32 x41), (33, .int .u32 (ixor .u32 r47 r49)), (34, .int .u32 x38), (47, .int .u32 (ixor .u32 (iand .u32 x38 x39) (iand .u32 (ixor .u32 4294967295 x38) x40))), (51, .int .u32 y43), (55, .int .u32 y45)] (fun _ _ _ _ _ h => calm_fin (P := Try.prog) (fn := Try.f94) _ _ _ _ _ h) (fun w hs => sat_pulls [0, 0, 0, 0, 0] (G := [] ++ F0) rfl hs) rfl (by kernel_rfl) ?_
      obtain ⟨r51, h52, hF⟩ := bind_some hF
      refine aw_only 8 (m' := 501217791) (by kernel_rfl) (by kernel_rfl) (pw_call (F := [pt b29 #[.int .u32 x34, .int .u32 x35, .int .u32 x36, .int .u32 x37, .int .u32 x38, .int .u32 x39, .int .u32 x40, .int .u32 x41] 129, pt b27 ((eInt .u32).all r23).toArray 135, pt b25 ((eInt .u32).all r21).toArray 135, pt b0 #[.int .u32 m0.h_.e0, .int .u32 m0.h_.e1, .int .u32 m0.h_.e2, .int .u32 m0.h_.e3, .int .u32 m0.h_.e4, .int .u32 m0.h_.e5, .int .u32 m0.h_.e6, .int .u32 m0.h_.e7, .string m0.rest_, .int .u64 m0.n_, .bool m0.on_] 131] ++ F0) rfl rfl rfl rfl rfl rfl rfl (by kernel_rfl) (perm_of_pulls [0] rfl) (c_sha_turn _ x38 25 r51 h52) ?_)
      rintro _ _ ⟨rfl, rfl⟩
      refine nw_H (H' := [imm I, pt b29 #[.int .u32 x34, .int .u32 x35, .int .u32 x36, .int .u32 x37, .int .u32 x38, .int .u32 x39, .int .u32 x40, .int .u32 x41] 129, pt b27 ((eInt .u32).all r23).toArray 135, pt b25 ((eInt .u32).all r21).toArray 135, pt b0 #[.int .u32 m0.h_.e0, .int .u32 m0.h_.e1, .int .u32 m0.h_.e2, .int .u32 m0.h_.e3, .int .u32 m0.h_.e4, .int .u32 m0.h_.e5, .int .u32 m0.h_.e6, .int .u32 m0.h_.e7, .string m0.rest_, .int .u64 m0.n_, .bool m0.on_] 131] ++ F0) rfl (aw_next (fun w hs => sat_pulls [0, 0, 0, 0, 0] (G := [] ++ F0) rfl hs) ?_)
      refine aw_vals [9, 10, 21, 25, 29, 30] (f' := 0) (m' := 2147483647) [0, 4, 5, 6, 9, 10, 20] [(0, .pointer (some ⟨b0, 0, none⟩)), (4, .pointer (some ⟨b25, 0, none⟩)), (5, .pointer (some ⟨b27, 0, none⟩)), (6, .pointer (some ⟨b29, 0, none⟩)), (9, .int .u32 x34), (10, .int .u32 (IntKind.u32.wrap ((IntKind.u32.wrap ((IntKind.u32.wrap ((IntKind.u32.wrap (x41 + (ixor .u32 (ixor .u32 r47 r49) r51))) + (ixor .u32 (iand .u32 x38 x39) (iand .u32 (ixor .u32 4294967295 x38) x40)))) + y43)) + y45))), (20, .int .i64 x33)] (fun _ _ _ _ _ h => calm_fin (P := Try.prog) (fn := Try.f94) _ _ _ _ _ h) (fun w hs => sat_pulls [0, 0, 0, 0, 0] (G := [] ++ F0) rfl hs) rfl (by kernel_rfl) ?_
      refine aw_keep [0, 4, 5, 6, 9, 10, 20] (L' := [(0, .pointer (some ⟨b0, 0, none⟩)), (4, .pointer (some ⟨b25, 0, none⟩)), (5, .pointer (some ⟨b27, 0, none⟩)), (6, .pointer (some ⟨b29, 0, none⟩)), (9, .int .u32 x34), (10, .int .u32 (IntKind.u32.wrap ((IntKind.u32.wrap ((IntKind.u32.wrap ((IntKind.u32.wrap (x41 + (ixor .u32 (ixor .u32 r47 r49) r51))) + (ixor .u32 (iand .u32 x38 x39) (iand .u32 (ixor .u32 4294967295 x38) x40)))) + y43)) + y45))), (20, .int .i64 x33)]) rfl ?_
      refine aw_end (by kernel_rfl) ?_
      refine ew_then ?_
      refine cw_seq ?_
      refine cw_open 25 (SAT w0 ([imm I, pt b29 #[.int .u32 x34, .int .u32 x35, .int .u32 x36, .int .u32 x37, .int .u32 x38, .int .u32 x39, .int .u32 x40, .int .u32 x41] 129, pt b27 ((eInt .u32).all r23).toArray 135, pt b25 ((eInt .u32).all r21).toArray 135, pt b0 #[.int .u32 m0.h_.e0, .int .u32 m0.h_.e1, .int .u32 m0.h_.e2, .int .u32 m0.h_.e3, .int .u32 m0.h_.e4, .int .u32 m0.h_.e5, .int .u32 m0.h_.e6, .int .u32 m0.h_.e7, .string m0.rest_, .int .u64 m0.n_, .bool m0.on_] 131])) (by kernel_rfl) (f := 25) rfl (fun w hs => sat_drew hs) ?_
      refine aw_vals [0, 2, 5, 8, 9, 12, 13, 17, 19] (f' := 16) (m' := 668453) [0, 4, 5, 6, 10, 20, 57, 59, 62, 65, 66, 69, 70, 74, 76] [(0, .pointer (some ⟨b0, 0, none⟩)), (4, .pointer (some ⟨b25, 0, none⟩)), (5, .pointer (some ⟨b27, 0, none⟩)), (6, .pointer (some ⟨b29, 0, none⟩)), (10, .int .u32 (IntKind.u32.wrap ((IntKind.u32.wrap ((IntKind.u32.wrap ((IntKind.u32.wrap (x41 + (ixor .u32 (ixor .u32 r47 r49) r51))) + (ixor .u32 (iand .u32 x38 x39) (iand .u32 (ixor .u32 4294967295 x38) x40)))) + y43)) + y45))), (20, .int .i64 x33), (57, .int .u32 x34), (59, .int .u32 x34), (62, .int .u32 x34), (65, .int .u32 x34), (66, .pointer (some ⟨b29, 1, none⟩)), (69, .int .u32 x34), (70, .pointer (some ⟨b29, 2, none⟩)), (74, .pointer (some ⟨b29, 1, none⟩)), (76, .pointer (some ⟨b29, 2, none⟩))] (fun _ _ _ _ _ h => calm_fin (P := Try.prog) (fn := Try.f94) _ _ _ _ _ h) (fun w hs => sat_pulls [0, 0, 0, 0, 0] (G := [] ++ F0) rfl hs) rfl (by kernel_rfl) ?_
      refine aw_quiet 10 (m' := 669477) (v := .int .u32 x35) 0 [] rfl rfl rfl rfl (by kernel_rfl) (by kernel_rfl) (by kernel_rfl) (fun _ _ _ _ _ h => calm_fin (P := Try.prog) (fn := Try.f94) _ _ _ _ _ h) (fun w hs => sat_pulls [0, 0, 0, 0, 0] (G := [] ++ F0) rfl hs) (q_load 1 rfl rfl rfl (by kernel_rfl)) ?_
      refine aw_vals [11] (f' := 14) (m' := 671525) [0, 4, 5, 6, 10, 20, 57, 59, 62, 68, 69, 70, 74, 76] [(0, .pointer (some ⟨b0, 0, none⟩)), (4, .pointer (some ⟨b25, 0, none⟩)), (5, .pointer (some ⟨b27, 0, none⟩)), (6, .pointer (some ⟨b29, 0, none⟩)), (10, .int .u32 (IntKind.u32.wrap ((IntKind.u32.wrap ((IntKind.u32.wrap ((IntKind.u32.wrap (x41 + (ixor .u32 (ixor .u32 r47 r49) r51))) + (ixor .u32 (iand .u32 x38 x39) (iand .u32 (ixor .u32 4294967295 x38) x40)))) + y43)) + y45))), (20, .int .i64 x33), (57, .int .u32 x34), (59, .int .u32 x34), (62, .int .u32 x34), (68, .int .u32 (iand .u32 x34 x35)), (69, .int .u32 x34), (70, .pointer (some ⟨b29, 2, none⟩)), (74, .pointer (some ⟨b29, 1, none⟩)), (76, .pointer (some ⟨b29, 2, none⟩))] (fun _ _ _ _ _ h => calm_fin (P := Try.prog) (fn := Try.f94) _ _ _ _ _ h) (fun w hs => sat_pulls [0, 0, 0, 0, 0] (G := [] ++ F0) rfl hs) rfl (by kernel_rfl) ?_
      refine aw_quiet 14 (m' := 687909) (v := .int .u32 x36) 0 [] rfl rfl rfl rfl (by kernel_rfl) (by kernel_rfl) (by kernel_rfl) (fun _ _ _ _ _ h => calm_fin (P := Try.prog) (fn := Try.f94) _ _ _ _ _ h) (fun w hs => sat_pulls [0, 0, 0, 0, 0] (G := [] ++ F0) rfl hs) (q_load 1 rfl rfl rfl (by kernel_rfl)) ?_
      refine aw_vals [15, 16] (f' := 11) (m' := 786213) [0, 4, 5, 6, 10, 20, 57, 59, 62, 73, 74, 76] [(0, .pointer (some ⟨b0, 0, none⟩)), (4, .pointer (some ⟨b25, 0, none⟩)), (5, .pointer (some ⟨b27, 0, none⟩)), (6, .pointer (some ⟨b29, 0, none⟩)), (10, .int .u32 (IntKind.u32.wrap ((IntKind.u32.wrap ((IntKind.u32.wrap ((IntKind.u32.wrap (x41 + (ixor .u32 (ixor .u32 r47 r49) r51))) + (ixor .u32 (iand .u32 x38 x39) (iand .u32 (ixor .u32 4294967295 x38) x40)))) + y43)) + y45))), (20, .int .i64 x33), (57, .int .u32 x34), (59, .int .u32 x34), (62, .int .u32 x34), (73, .int .u32 (ixor .u32 (iand .u32 x34 x35) (iand .u32 x34 x36))), (74, .pointer (some ⟨b29, 1, none⟩)), (76, .pointer (some ⟨b29, 2, none⟩))] (fun _ _ _ _ _ h => calm_fin (P := Try.prog) (fn := Try.f94) _ _ _ _ _ h) (fun w hs => sat_pulls [0, 0, 0, 0, 0] (G := [] ++ F0) rfl hs) rfl (by kernel_rfl) ?_
      refine aw_quiet 18 (m' := 1048357) (v := .int .u32 x35) 0 [] rfl rfl rfl rfl (by kernel_rfl) (by kernel_rfl) (by kernel_rfl) (fun _ _ _ _ _ h => calm_fin (P := Try.prog) (fn := Try.f94) _ _ _ _ _ h) (fun w hs => sat_pulls [0, 0, 0, 0, 0] (G := [] ++ F0) rfl hs) (q_load 1 rfl rfl rfl (by kernel_rfl)) ?_
      refine aw_quiet 20 (m' := 2096933) (v := .int .u32 x36) 0 [] rfl rfl rfl rfl (by kernel_rfl) (by kernel_rfl) (by kernel_rfl) (fun _ _ _ _ _ h => calm_fin (P := Try.prog) (fn := Try.f94) _ _ _ _ _ h) (fun w hs => sat_pulls [0, 0, 0, 0, 0] (G := [] ++ F0) rfl hs) (q_load 1 rfl rfl rfl (by kernel_rfl)) ?_
      refine aw_vals [21, 22] (f' := 7) (m' := 8388389) [0, 4, 5, 6, 10, 20, 57, 59, 62, 79] [(0, .pointer (some ⟨b0, 0, none⟩)), (4, .pointer (some ⟨b25, 0, none⟩)), (5, .pointer (some ⟨b27, 0, none⟩)), (6, .pointer (some ⟨b29, 0, none⟩)), (10, .int .u32 (IntKind.u32.wrap ((IntKind.u32.wrap ((IntKind.u32.wrap ((IntKind.u32.wrap (x41 + (ixor .u32 (ixor .u32 r47 r49) r51))) + (ixor .u32 (iand .u32 x38 x39) (iand .u32 (ixor .u32 4294967295 x38) x40)))) + y43)) + y45))), (20, .int .i64 x33), (57, .int .u32 x34), (59, .int .u32 x34), (62, .int .u32 x34), (79, .int .u32 (ixor .u32 (ixor .u32 (iand .u32 x34 x35) (iand .u32 x34 x36)) (iand .u32 x35 x36)))] (fun _ _ _ _ _ h => calm_fin (P := Try.prog) (fn := Try.f94) _ _ _ _ _ h) (fun w hs => sat_pulls [0, 0, 0, 0, 0] (G := [] ++ F0) rfl hs) rfl (by kernel_rfl) ?_
      obtain ⟨r53, h54, hF⟩ := bind_some hF
      refine aw_only 1 (m' := 8388391) (by kernel_rfl) (by kernel_rfl) (pw_call (F := [pt b29 #[.int .u32 x34, .int .u32 x35, .int .u32 x36, .int .u32 x37, .int .u32 x38, .int .u32 x39, .int .u32 x40, .int .u32 x41] 129, pt b27 ((eInt .u32).all r23).toArray 135, pt b25 ((eInt .u32).all r21).toArray 135, pt b0 #[.int .u32 m0.h_.e0, .int .u32 m0.h_.e1, .int .u32 m0.h_.e2, .int .u32 m0.h_.e3, .int .u32 m0.h_.e4, .int .u32 m0.h_.e5, .int .u32 m0.h_.e6, .int .u32 m0.h_.e7, .string m0.rest_, .int .u64 m0.n_, .bool m0.on_] 131] ++ F0) rfl rfl rfl rfl rfl rfl rfl (by kernel_rfl) (perm_of_pulls [0] rfl) (c_sha_turn _ x34 2 r53 h54) ?_)
      rintro _ _ ⟨rfl, rfl⟩
      refine nw_H (H' := [imm I, pt b29 #[.int .u32 x34, .int .u32 x35, .int .u32 x36, .int .u32 x37, .int .u32 x38, .int .u32 x39, .int .u32 x40, .int .u32 x41] 129, pt b27 ((eInt .u32).all r23).toArray 135, pt b25 ((eInt .u32).all r21).toArray 135, pt b0 #[.int .u32 m0.h_.e0, .int .u32 m0.h_.e1, .int .u32 m0.h_.e2, .int .u32 m0.h_.e3, .int .u32 m0.h_.e4, .int .u32 m0.h_.e5, .int .u32 m0.h_.e6, .int .u32 m0.h_.e7, .string m0.rest_, .int .u64 m0.n_, .bool m0.on_] 131] ++ F0) rfl (aw_next (fun w hs => sat_pulls [0, 0, 0, 0, 0] (G := [] ++ F0) rfl hs) ?_)
      obtain ⟨r55, h56, hF⟩ := bind_some hF
      refine aw_only 3 (m' := 8388399) (by kernel_rfl) (by kernel_rfl) (pw_call (F := [pt b29 #[.int .u32 x34, .int .u32 x35, .int .u32 x36, .int .u32 x37, .int .u32 x38, .int .u32 x39, .int .u32 x40, .int .u32 x41] 129, pt b27 ((eInt .u32).all r23).toArray 135, pt b25 ((eInt .u32).all r21).toArray 135, pt b0 #[.int .u32 m0.h_.e0, .int .u32 m0.h_.e1, .int .u32 m0.h_.e2, .int .u32 m0.h_.e3, .int .u32 m0.h_.e4, .int .u32 m0.h_.e5, .int .u32 m0.h_.e6, .int .u32 m0.h_.e7, .string m0.rest_, .int .u64 m0.n_, .bool m0.on_] 131] ++ F0) rfl rfl rfl rfl rfl rfl rfl (by kernel_rfl) (perm_of_pulls [0] rfl) (c_sha_turn _ x34 13 r55 h56) ?_)
      rintro _ _ ⟨rfl, rfl⟩
      refine nw_H (H' := [imm I, pt b29 #[.int .u32 x34, .int .u32 x35, .int .u32 x36, .int .u32 x37, .int .u32 x38, .int .u32 x39, .int .u32 x40, .int .u32 x41] 129, pt b27 ((eInt .u32).all r23).toArray 135, pt b25 ((eInt .u32).all r21).toArray 135, pt b0 #[.int .u32 m0.h_.e0, .int .u32 m0.h_.e1, .int .u32 m0.h_.e2, .int .u32 m0.h_.e3, .int .u32 m0.h_.e4, .int .u32 m0.h_.e5, .int .u32 m0.h_.e6, .int .u32 m0.h_.e7, .string m0.rest_, .int .u64 m0.n_, .bool m0.on_] 131] ++ F0) rfl (aw_next (fun w hs => sat_pulls [0, 0, 0, 0, 0] (G := [] ++ F0) rfl hs) ?_)
      refine aw_vals [4] (f' := 4) (m' := 8388415) [0, 4, 5, 6, 10, 20, 61, 62, 79] [(0, .pointer (some ⟨b0, 0, none⟩)), (4, .pointer (some ⟨b25, 0, none⟩)), (5, .pointer (some ⟨b27, 0, none⟩)), (6, .pointer (some ⟨b29, 0, none⟩)), (10, .int .u32 (IntKind.u32.wrap ((IntKind.u32.wrap ((IntKind.u32.wrap ((IntKind.u32.wrap (x41 + (ixor .u32 (ixor .u32 r47 r49) r51))) + (ixor .u32 (iand .u32 x38 x39) (iand .u32 (ixor .u32 4294967295 x38) x40)))) + y43)) + y45))), (20, .int .i64 x33), (61, .int .u32 (ixor .u32 r53 r55)), (62, .int .u32 x34), (79, .int .u32 (ixor .u32 (ixor .u32 (iand .u32 x34 x35) (iand .u32 x34 x36)) (iand .u32 x35 x36)))] (fun _ _ _ _ _ h => calm_fin (P := Try.prog) (fn := Try.f94) _ _ _ _ _ h) (fun w hs => sat_pulls [0, 0, 0, 0, 0] (G := [] ++ F0) rfl hs) rfl (by kernel_rfl) ?_
      obtain ⟨r57, h58, hF⟩ := bind_some hF
      refine aw_only 6 (m' := 8388479) (by kernel_rfl) (by kernel_rfl) (pw_call (F := [pt b29 #[.int .u32 x34, .int .u32 x35, .int .u32 x36, .int .u32 x37, .int .u32 x38, .int .u32 x39, .int .u32 x40, .int .u32 x41] 129, pt b27 ((eInt .u32).all r23).toArray 135, pt b25 ((eInt .u32).all r21).toArray 135, pt b0 #[.int .u32 m0.h_.e0, .int .u32 m0.h_.e1, .int .u32 m0.h_.e2, .int .u32 m0.h_.e3, .int .u32 m0.h_.e4, .int .u32 m0.h_.e5, .int .u32 m0.h_.e6, .int .u32 m0.h_.e7, .string m0.rest_, .int .u64 m0.n_, .bool m0.on_] 131] ++ F0) rfl rfl rfl rfl rfl rfl rfl (by kernel_rfl) (perm_of_pulls [0] rfl) (c_sha_turn _ x34 22 r57 h58) ?_)
      rintro _ _ ⟨rfl, rfl⟩
      refine nw_H (H' := [imm I, pt b29 #[.int .u32 x34, .int .u32 x35, .int .u32 x36, .int .u32 x37, .int .u32 x38, .int .u32 x39, .int .u32 x40, .int .u32 x41] 129, pt b27 ((eInt .u32).all r23).toArray 135, pt b25 ((eInt .u32).all r21).toArray 135, pt b0 #[.int .u32 m0.h_.e0, .int .u32 m0.h_.e1, .int .u32 m0.h_.e2, .int .u32 m0.h_.e3, .int .u32 m0.h_.e4, .int .u32 m0.h_.e5, .int .u32 m0.h_.e6, .int .u32 m0.h_.e7, .string m0.rest_, .int .u64 m0.n_, .bool m0.on_] 131] ++ F0) rfl (aw_next (fun w hs => sat_pulls [0, 0, 0, 0, 0] (G := [] ++ F0) rfl hs) ?_)
      refine aw_vals [7, 23, 24] (f' := 0) (m' := 33554431) [0, 4, 5, 6, 10, 11, 20] [(0, .pointer (some ⟨b0, 0, none⟩)), (4, .pointer (some ⟨b25, 0, none⟩)), (5, .pointer (some ⟨b27, 0, none⟩)), (6, .pointer (some ⟨b29, 0, none⟩)), (10, .int .u32 (IntKind.u32.wrap ((IntKind.u32.wrap ((IntKind.u32.wrap ((IntKind.u32.wrap (x41 + (ixor .u32 (ixor .u32 r47 r49) r51))) + (ixor .u32 (iand .u32 x38 x39) (iand .u32 (ixor .u32 4294967295 x38) x40)))) + y43)) + y45))), (11, .int .u32 (IntKind.u32.wrap ((ixor .u32 (ixor .u32 r53 r55) r57) + (ixor .u32 (ixor .u32 (iand .u32 x34 x35) (iand .u32 x34 x36)) (iand .u32 x35 x36))))), (20, .int .i64 x33)] (fun _ _ _ _ _ h => calm_fin (P := Try.prog) (fn := Try.f94) _ _ _ _ _ h) (fun w hs => sat_pulls [0, 0, 0, 0, 0] (G := [] ++ F0) rfl hs) rfl (by kernel_rfl) ?_
      refine aw_keep [0, 4, 5, 6, 10, 11, 20] (L' := [(0, .pointer (some ⟨b0, 0, none⟩)), (4, .pointer (some ⟨b25, 0, none⟩)), (5, .pointer (some ⟨b27, 0, none⟩)), (6, .pointer (some ⟨b29, 0, none⟩)), (10, .int .u32 (IntKind.u32.wrap ((IntKind.u32.wrap ((IntKind.u32.wrap ((IntKind.u32.wrap (x41 + (ixor .u32 (ixor .u32 r47 r49) r51))) + (ixor .u32 (iand .u32 x38 x39) (iand .u32 (ixor .u32 4294967295 x38) x40)))) + y43)) + y45))), (11, .int .u32 (IntKind.u32.wrap ((ixor .u32 (ixor .u32 r53 r55) r57) + (ixor .u32 (ixor .u32 (iand .u32 x34 x35) (iand .u32 x34 x36)) (iand .u32 x35 x36))))), (20, .int .i64 x33)]) rfl ?_
      refine aw_end (by kernel_rfl) ?_
      refine ew_then ?_
      refine cw_seq ?_
      refine cw_open 2 (SAT w0 ([imm I, pt b29 #[.int .u32 x34, .int .u32 x35, .int .u32 x36, .int .u32 x37, .int .u32 x38, .int .u32 x39, .int .u32 x40, .int .u32 x41] 129, pt b27 ((eInt .u32).all r23).toArray 135, pt b25 ((eInt .u32).all r21).toArray 135, pt b0 #[.int .u32 m0.h_.e0, .int .u32 m0.h_.e1, .int .u32 m0.h_.e2, .int .u32 m0.h_.e3, .int .u32 m0.h_.e4, .int .u32 m0.h_.e5, .int .u32 m0.h_.e6, .int .u32 m0.h_.e7, .string m0.rest_, .int .u64 m0.n_, .bool m0.on_] 131])) (by kernel_rfl) (f := 3) rfl (fun w hs => sat_drew hs) ?_
      refine aw_vals [0, 1] (f' := 1) (m' := 3) [0, 4, 5, 6, 10, 11, 20, 81, 82] [(0, .pointer (some ⟨b0, 0, none⟩)), (4, .pointer (some ⟨b25, 0, none⟩)), (5, .pointer (some ⟨b27, 0, none⟩)), (6, .pointer (some ⟨b29, 0, none⟩)), (10, .int .u32 (IntKind.u32.wrap ((IntKind.u32.wrap ((IntKind.u32.wrap ((IntKind.u32.wrap (x41 + (ixor .u32 (ixor .u32 r47 r49) r51))) + (ixor .u32 (iand .u32 x38 x39) (iand .u32 (ixor .u32 4294967295 x38) x40)))) + y43)) + y45))), (11, .int .u32 (IntKind.u32.wrap ((ixor .u32 (ixor .u32 r53 r55) r57) + (ixor .u32 (ixor .u32 (iand .u32 x34 x35) (iand .u32 x34 x36)) (iand .u32 x35 x36))))), (20, .int .i64 x33), (81, .slice (some ⟨b29, 1, none⟩) 7 7), (82, .slice (some ⟨b29, 0, none⟩) 7 8)] (fun _ _ _ _ _ h => calm_fin (P := Try.prog) (fn := Try.f94) _ _ _ _ _ h) (fun w hs => sat_pulls [0, 0, 0, 0, 0] (G := [] ++ F0) rfl hs) rfl (by kernel_rfl) ?_
      refine aw_only 2 (m' := 7) (by kernel_rfl) (by kernel_rfl) (pw_copy_pt 1 (E := 116) (sz := 1) (cs' := #[.int .u32 x34, .int .u32 x34, .int .u32 x35, .int .u32 x36, .int .u32 x37, .int .u32 x38, .int .u32 x39, .int .u32 x40]) rfl rfl rfl rfl rfl rfl (by kernel_rfl) rfl rfl (Nat.le_of_ble_eq_true rfl) (Nat.le_of_ble_eq_true rfl) (by kernel_rfl) (by kernel_rfl) (nw_H (H' := [imm I, pt b29 #[.int .u32 x34, .int .u32 x34, .int .u32 x35, .int .u32 x36, .int .u32 x37, .int .u32 x38, .int .u32 x39, .int .u32 x40] 129, pt b27 ((eInt .u32).all r23).toArray 135, pt b25 ((eInt .u32).all r21).toArray 135, pt b0 #[.int .u32 m0.h_.e0, .int .u32 m0.h_.e1, .int .u32 m0.h_.e2, .int .u32 m0.h_.e3, .int .u32 m0.h_.e4, .int .u32 m0.h_.e5, .int .u32 m0.h_.e6, .int .u32 m0.h_.e7, .string m0.rest_, .int .u64 m0.n_, .bool m0.on_] 131] ++ F0) rfl (aw_last (by kernel_rfl) ?_)))
      refine aw_keep [0, 4, 5, 6, 10, 11, 20] (L' := [(0, .pointer (some ⟨b0, 0, none⟩)), (4, .pointer (some ⟨b25, 0, none⟩)), (5, .pointer (some ⟨b27, 0, none⟩)), (6, .pointer (some ⟨b29, 0, none⟩)), (10, .int .u32 (IntKind.u32.wrap ((IntKind.u32.wrap ((IntKind.u32.wrap ((IntKind.u32.wrap (x41 + (ixor .u32 (ixor .u32 r47 r49) r51))) + (ixor .u32 (iand .u32 x38 x39) (iand .u32 (ixor .u32 4294967295 x38) x40)))) + y43)) + y45))), (11, .int .u32 (IntKind.u32.wrap ((ixor .u32 (ixor .u32 r53 r55) r57) + (ixor .u32 (ixor .u32 (iand .u32 x34 x35) (iand .u32 x34 x36)) (iand .u32 x35 x36))))), (20, .int .i64 x33)]) rfl ?_
      refine aw_end (by kernel_rfl) ?_
      refine ew_then ?_
      refine cw_seq ?_
      refine cw_region ?_
      refine ow_vals 1 (j := 1) [0, 4, 5, 6, 10, 11, 20, 84] [(0, .pointer (some ⟨b0, 0, none⟩)), (4, .pointer (some ⟨b25, 0, none⟩)), (5, .pointer (some ⟨b27, 0, none⟩)), (6, .pointer (some ⟨b29, 0, none⟩)), (10, .int .u32 (IntKind.u32.wrap ((IntKind.u32.wrap ((IntKind.u32.wrap ((IntKind.u32.wrap (x41 + (ixor .u32 (ixor .u32 r47 r49) r51))) + (ixor .u32 (iand .u32 x38 x39) (iand .u32 (ixor .u32 4294967295 x38) x40)))) + y43)) + y45))), (11, .int .u32 (IntKind.u32.wrap ((ixor .u32 (ixor .u32 r53 r55) r57) + (ixor .u32 (ixor .u32 (iand .u32 x34 x35) (iand .u32 x34 x36)) (iand .u32 x35 x36))))), (20, .int .i64 x33), (84, .pointer (some ⟨b29, 4, none⟩))] rfl (by kernel_rfl) ?_
      refine ow_pw rfl (pw_quiet (v := .int .u32 x37) rfl rfl rfl rfl (q_load 1 rfl rfl rfl (by kernel_rfl)) (nw_ow ?_))
      refine ow_vals 3 (j := 5) [0, 4, 5, 6, 10, 11, 20, 87, 88] [(0, .pointer (some ⟨b0, 0, none⟩)), (4, .pointer (some ⟨b25, 0, none⟩)), (5, .pointer (some ⟨b27, 0, none⟩)), (6, .pointer (some ⟨b29, 0, none⟩)), (10, .int .u32 (IntKind.u32.wrap ((IntKind.u32.wrap ((IntKind.u32.wrap ((IntKind.u32.wrap (x41 + (ixor .u32 (ixor .u32 r47 r49) r51))) + (ixor .u32 (iand .u32 x38 x39) (iand .u32 (ixor .u32 4294967295 x38) x40)))) + y43)) + y45))), (11, .int .u32 (IntKind.u32.wrap ((ixor .u32 (ixor .u32 r53 r55) r57) + (ixor .u32 (ixor .u32 (iand .u32 x34 x35) (iand .u32 x34 x36)) (iand .u32 x35 x36))))), (20, .int .i64 x33), (87, .int .u32 (IntKind.u32.wrap (x37 + (IntKind.u32.wrap ((IntKind.u32.wrap ((IntKind.u32.wrap ((IntKind.u32.wrap (x41 + (ixor .u32 (ixor .u32 r47 r49) r51))) + (ixor .u32 (iand .u32 x38 x39) (iand .u32 (ixor .u32 4294967295 x38) x40)))) + y43)) + y45))))), (88, .pointer (some ⟨b29, 4, none⟩))] rfl (by kernel_rfl) ?_
      refine ow_pw rfl (pw_store 1 #[.int .u32 x34, .int .u32 x34, .int .u32 x35, .int .u32 x36, .int .u32 (IntKind.u32.wrap (x37 + (IntKind.u32.wrap ((IntKind.u32.wrap ((IntKind.u32.wrap ((IntKind.u32.wrap (x41 + (ixor .u32 (ixor .u32 r47 r49) r51))) + (ixor .u32 (iand .u32 x38 x39) (iand .u32 (ixor .u32 4294967295 x38) x40)))) + y43)) + y45)))), .int .u32 x38, .int .u32 x39, .int .u32 x40] rfl rfl rfl rfl rfl rfl rfl (by kernel_rfl) (nw_H (H' := [imm I, pt b29 #[.int .u32 x34, .int .u32 x34, .int .u32 x35, .int .u32 x36, .int .u32 (IntKind.u32.wrap (x37 + (IntKind.u32.wrap ((IntKind.u32.wrap ((IntKind.u32.wrap ((IntKind.u32.wrap (x41 + (ixor .u32 (ixor .u32 r47 r49) r51))) + (ixor .u32 (iand .u32 x38 x39) (iand .u32 (ixor .u32 4294967295 x38) x40)))) + y43)) + y45)))), .int .u32 x38, .int .u32 x39, .int .u32 x40] 129, pt b27 ((eInt .u32).all r23).toArray 135, pt b25 ((eInt .u32).all r21).toArray 135, pt b0 #[.int .u32 m0.h_.e0, .int .u32 m0.h_.e1, .int .u32 m0.h_.e2, .int .u32 m0.h_.e3, .int .u32 m0.h_.e4, .int .u32 m0.h_.e5, .int .u32 m0.h_.e6, .int .u32 m0.h_.e7, .string m0.rest_, .int .u64 m0.n_, .bool m0.on_] 131] ++ F0) rfl (nw_ow ?_)))
      refine ow_end rfl ?_
      refine ew_then ?_
      refine cw_region ?_
      refine ow_vals 4 (j := 4) [0, 4, 5, 6, 20, 91, 92] [(0, .pointer (some ⟨b0, 0, none⟩)), (4, .pointer (some ⟨b25, 0, none⟩)), (5, .pointer (some ⟨b27, 0, none⟩)), (6, .pointer (some ⟨b29, 0, none⟩)), (20, .int .i64 x33), (91, .int .u32 (IntKind.u32.wrap ((IntKind.u32.wrap ((IntKind.u32.wrap ((IntKind.u32.wrap ((IntKind.u32.wrap (x41 + (ixor .u32 (ixor .u32 r47 r49) r51))) + (ixor .u32 (iand .u32 x38 x39) (iand .u32 (ixor .u32 4294967295 x38) x40)))) + y43)) + y45)) + (IntKind.u32.wrap ((ixor .u32 (ixor .u32 r53 r55) r57) + (ixor .u32 (ixor .u32 (iand .u32 x34 x35) (iand .u32 x34 x36)) (iand .u32 x35 x36))))))), (92, .pointer (some ⟨b29, 0, none⟩))] rfl (by kernel_rfl) ?_
      refine ow_pw rfl (pw_store 1 #[.int .u32 (IntKind.u32.wrap ((IntKind.u32.wrap ((IntKind.u32.wrap ((IntKind.u32.wrap ((IntKind.u32.wrap (x41 + (ixor .u32 (ixor .u32 r47 r49) r51))) + (ixor .u32 (iand .u32 x38 x39) (iand .u32 (ixor .u32 4294967295 x38) x40)))) + y43)) + y45)) + (IntKind.u32.wrap ((ixor .u32 (ixor .u32 r53 r55) r57) + (ixor .u32 (ixor .u32 (iand .u32 x34 x35) (iand .u32 x34 x36)) (iand .u32 x35 x36)))))), .int .u32 x34, .int .u32 x35, .int .u32 x36, .int .u32 (IntKind.u32.wrap (x37 + (IntKind.u32.wrap ((IntKind.u32.wrap ((IntKind.u32.wrap ((IntKind.u32.wrap (x41 + (ixor .u32 (ixor .u32 r47 r49) r51))) + (ixor .u32 (iand .u32 x38 x39) (iand .u32 (ixor .u32 4294967295 x38) x40)))) + y43)) + y45)))), .int .u32 x38, .int .u32 x39, .int .u32 x40] rfl rfl rfl rfl rfl rfl rfl (by kernel_rfl) (nw_H (H' := [imm I, pt b29 #[.int .u32 (IntKind.u32.wrap ((IntKind.u32.wrap ((IntKind.u32.wrap ((IntKind.u32.wrap ((IntKind.u32.wrap (x41 + (ixor .u32 (ixor .u32 r47 r49) r51))) + (ixor .u32 (iand .u32 x38 x39) (iand .u32 (ixor .u32 4294967295 x38) x40)))) + y43)) + y45)) + (IntKind.u32.wrap ((ixor .u32 (ixor .u32 r53 r55) r57) + (ixor .u32 (ixor .u32 (iand .u32 x34 x35) (iand .u32 x34 x36)) (iand .u32 x35 x36)))))), .int .u32 x34, .int .u32 x35, .int .u32 x36, .int .u32 (IntKind.u32.wrap (x37 + (IntKind.u32.wrap ((IntKind.u32.wrap ((IntKind.u32.wrap ((IntKind.u32.wrap (x41 + (ixor .u32 (ixor .u32 r47 r49) r51))) + (ixor .u32 (iand .u32 x38 x39) (iand .u32 (ixor .u32 4294967295 x38) x40)))) + y43)) + y45)))), .int .u32 x38, .int .u32 x39, .int .u32 x40] 129, pt b27 ((eInt .u32).all r23).toArray 135, pt b25 ((eInt .u32).all r21).toArray 135, pt b0 #[.int .u32 m0.h_.e0, .int .u32 m0.h_.e1, .int .u32 m0.h_.e2, .int .u32 m0.h_.e3, .int .u32 m0.h_.e4, .int .u32 m0.h_.e5, .int .u32 m0.h_.e6, .int .u32 m0.h_.e7, .string m0.rest_, .int .u64 m0.n_, .bool m0.on_] 131] ++ F0) rfl (nw_ow ?_)))
      refine ow_end rfl ?_
      refine ew_blk ?_
      refine ew_then ?_
      refine cw_region ?_
      refine ow_vals 2 (j := 2) [0, 4, 5, 6, 20] [(0, .pointer (some ⟨b0, 0, none⟩)), (4, .pointer (some ⟨b25, 0, none⟩)), (5, .pointer (some ⟨b27, 0, none⟩)), (6, .pointer (some ⟨b29, 0, none⟩)), (20, .int .i64 (IntKind.i64.wrap (x33 + 1)))] rfl (by kernel_rfl) ?_
      refine ow_end rfl ?_
      have hR := Option.some.inj hF
      subst hR
      have hR := hL32
      try dsimp only at hR
      exact fun a w hf hs => ⟨k, Nat.lt_succ_self k, IntKind.i64.wrap (x33 + 1), IntKind.u32.wrap ((IntKind.u32.wrap ((IntKind.u32.wrap ((IntKind.u32.wrap ((IntKind.u32.wrap (x41 + (ixor .u32 (ixor .u32 r47 r49) r51))) + (ixor .u32 (iand .u32 x38 x39) (iand .u32 (ixor .u32 4294967295 x38) x40)))) + y43)) + y45)) + (IntKind.u32.wrap ((ixor .u32 (ixor .u32 r53 r55) r57) + (ixor .u32 (ixor .u32 (iand .u32 x34 x35) (iand .u32 x34 x36)) (iand .u32 x35 x36))))), x34, x35, x36, IntKind.u32.wrap (x37 + (IntKind.u32.wrap ((IntKind.u32.wrap ((IntKind.u32.wrap ((IntKind.u32.wrap (x41 + (ixor .u32 (ixor .u32 r47 r49) r51))) + (ixor .u32 (iand .u32 x38 x39) (iand .u32 (ixor .u32 4294967295 x38) x40)))) + y43)) + y45))), x38, x39, x40, hR, hf.keep [0, 4, 5, 6, 20], sat_to [0, 0, 0, 0, 0] 0 rfl hs⟩
    refine cw_cond_f rfl rfl h42 ?_
    refine cw_exit ?_
    refine ew_then_exit ?_
    refine ew_then_exit ?_
    refine ew_blk_exit ?_
    have hR := Option.some.inj hF
    subst hR
    have hR := hL32
    try dsimp only at hR
    exact fun a w hf hs => ⟨x34, x35, x36, x37, x38, x39, x40, x41, hR, hf.keep [0, 6], sat_to [0, 0, 0, 0, 0] 0 rfl hs⟩
  rintro a w ⟨x59, x60, x61, x62, x63, x64, x65, x66, hv, hf, hs⟩
  subst hv
  replace hF := hK31
  clear hK31
  try dsimp only at hF
  revert a w
  show CW _ _ _ 111 [(0, .pointer (some ⟨b0, 0, none⟩)), (6, .pointer (some ⟨b29, 0, none⟩))] (SAT w0 ([imm I, pt b29 #[.int .u32 x59, .int .u32 x60, .int .u32 x61, .int .u32 x62, .int .u32 x63, .int .u32 x64, .int .u32 x65, .int .u32 x66] 129, pt b27 ((eInt .u32).all r23).toArray 135, pt b25 ((eInt .u32).all r21).toArray 135, pt b0 #[.int .u32 m0.h_.e0, .int .u32 m0.h_.e1, .int .u32 m0.h_.e2, .int .u32 m0.h_.e3, .int .u32 m0.h_.e4, .int .u32 m0.h_.e5, .int .u32 m0.h_.e6, .int .u32 m0.h_.e7, .string m0.rest_, .int .u64 m0.n_, .bool m0.on_] 131] ++ F0))
  unfold F.sha_State_mix.r2 at hF
  refine cw_seq ?_
  refine cw_region ?_
  refine ow_vals 1 (j := 1) [0, 6, 94] [(0, .pointer (some ⟨b0, 0, none⟩)), (6, .pointer (some ⟨b29, 0, none⟩)), (94, .int .i64 0)] rfl (by kernel_rfl) ?_
  refine ow_end rfl ?_
  refine ew_then ?_
  refine cw_block ?_
  refine cw_rounds 9 ?_
  refine cr_next ?_
  refine cw_seq ?_
  refine cw_region ?_
  refine ow_vals 1 (j := 1) [0, 6, 94, 95] [(0, .pointer (some ⟨b0, 0, none⟩)), (6, .pointer (some ⟨b29, 0, none⟩)), (94, .int .i64 0), (95, .bool true)] rfl (by kernel_rfl) ?_
  refine ow_end rfl ?_
  refine ew_then ?_
  refine cw_seq ?_
  refine cw_cond_t rfl rfl rfl ?_
  refine cw_skip ?_
  refine ew_then ?_
  refine cw_seq ?_
  refine cw_block ?_
  refine cw_seq ?_
  refine cw_region ?_
  refine ow_vals 2 (j := 2) [0, 6, 12, 94] [(0, .pointer (some ⟨b0, 0, none⟩)), (6, .pointer (some ⟨b29, 0, none⟩)), (12, .int .i64 0), (94, .int .i64 0)] rfl (by kernel_rfl) ?_
  refine ow_end rfl ?_
  refine ew_then ?_
  refine cw_open 13 (SAT w0 ([imm I, pt b29 #[.int .u32 x59, .int .u32 x60, .int .u32 x61, .int .u32 x62, .int .u32 x63, .int .u32 x64, .int .u32 x65, .int .u32 x66] 129, pt b27 ((eInt .u32).all r23).toArray 135, pt b25 ((eInt .u32).all r21).toArray 135, pt b0 #[.int .u32 m0.h_.e0, .int .u32 m0.h_.e1, .int .u32 m0.h_.e2, .int .u32 m0.h_.e3, .int .u32 m0.h_.e4, .int .u32 m0.h_.e5, .int .u32 m0.h_.e6, .int .u32 m0.h_.e7, .string m0.rest_, .int .u64 m0.n_, .bool m0.on_] 131])) (by kernel_rfl) (f := 14) rfl (fun w hs => sat_drew hs) ?_
  refine aw_vals [0, 1, 2, 3, 4, 6, 7, 10, 11] (f' := 5) (m' := 3295) [0, 6, 94, 98, 101, 104, 108] [(0, .pointer (some ⟨b0, 0, none⟩)), (6, .pointer (some ⟨b29, 0, none⟩)), (94, .int .i64 0), (98, .int .i64 0), (101, .pointer (some ⟨b0, 0, none⟩)), (104, .pointer (some ⟨b29, 0, none⟩)), (108, .pointer (some ⟨b0, 0, none⟩))] (fun _ _ _ _ _ h => calm_fin (P := Try.prog) (fn := Try.f94) _ _ _ _ _ h) (fun w hs => sat_pulls [0, 0, 0, 0, 0] (G := [] ++ F0) rfl hs) rfl (by kernel_rfl) ?_
  refine aw_quiet 5 (m' := 3327) (v := .int .u32 m0.h_.e0) 5 [] rfl rfl rfl rfl (by kernel_rfl) (by kernel_rfl) (by kernel_rfl) (fun _ _ _ _ _ h => calm_fin (P := Try.prog) (fn := Try.f94) _ _ _ _ _ h) (fun w hs => sat_pulls [0, 0, 0, 0, 0] (G := [] ++ F0) rfl hs) (q_load 4 rfl rfl rfl (by kernel_rfl)) ?_
  refine aw_quiet 8 (m' := 3583) (v := .int .u32 x59) 8 [] rfl rfl rfl rfl (by kernel_rfl) (by kernel_rfl) (by kernel_rfl) (fun _ _ _ _ _ h => calm_fin (P := Try.prog) (fn := Try.f94) _ _ _ _ _ h) (fun w hs => sat_pulls [0, 0, 0, 0, 0] (G := [] ++ F0) rfl hs) (q_load 1 rfl rfl rfl (by kernel_rfl)) ?_
  refine aw_vals [9, 12] (f' := 1) (m' := 8191) [0, 6, 94, 106, 109] [(0, .pointer (some ⟨b0, 0, none⟩)), (6, .pointer (some ⟨b29, 0, none⟩)), (94, .int .i64 0), (106, .int .u32 (IntKind.u32.wrap (m0.h_.e0 + x59))), (109, .pointer (some ⟨b0, 0, none⟩))] (fun _ _ _ _ _ h => calm_fin (P := Try.prog) (fn := Try.f94) _ _ _ _ _ h) (fun w hs => sat_pulls [0, 0, 0, 0, 0] (G := [] ++ F0) rfl hs) rfl (by kernel_rfl) ?_
  refine aw_only 13 (m' := 16383) (by kernel_rfl) (by kernel_rfl) (pw_store 4 #[.int .u32 (IntKind.u32.wrap (m0.h_.e0 + x59)), .int .u32 m0.h_.e1, .int .u32 m0.h_.e2, .int .u32 m0.h_.e3, .int .u32 m0.h_.e4, .int .u32 m0.h_.e5, .int .u32 m0.h_.e6, .int .u32 m0.h_.e7, .string m0.rest_, .int .u64 m0.n_, .bool m0.on_] rfl rfl rfl rfl rfl rfl rfl (by kernel_rfl) (nw_H (H' := [imm I, pt b29 #[.int .u32 x59, .int .u32 x60, .int .u32 x61, .int .u32 x62, .int .u32 x63, .int .u32 x64, .int .u32 x65, .int .u32 x66] 129, pt b27 ((eInt .u32).all r23).toArray 135, pt b25 ((eInt .u32).all r21).toArray 135, pt b0 #[.int .u32 (IntKind.u32.wrap (m0.h_.e0 + x59)), .int .u32 m0.h_.e1, .int .u32 m0.h_.e2, .int .u32 m0.h_.e3, .int .u32 m0.h_.e4, .int .u32 m0.h_.e5, .int .u32 m0.h_.e6, .int .u32 m0.h_.e7, .string m0.rest_, .int .u64 m0.n_, .bool m0.on_] 131] ++ F0) rfl (aw_last (by kernel_rfl) ?_)))
  refine aw_keep [0, 6, 94] (L' := [(0, .pointer (some ⟨b0, 0, none⟩)), (6, .pointer (some ⟨b29, 0, none⟩)), (94, .int .i64 0)]) rfl ?_
  refine aw_end (by kernel_rfl) ?_
  refine ew_blk ?_
  refine ew_then ?_
  refine cw_region ?_
  refine ow_vals 2 (j := 2) [0, 6, 94] [(0, .pointer (some ⟨b0, 0, none⟩)), (6, .pointer (some ⟨b29, 0, none⟩)), (94, .int .i64 1)] rfl (by kernel_rfl) ?_
  refine ow_end rfl ?_
  refine ew_rounds ?_
  refine cr_next ?_
  refine cw_seq ?_
  refine cw_region ?_
  refine ow_vals 1 (j := 1) [0, 6, 94, 95] [(0, .pointer (some ⟨b0, 0, none⟩)), (6, .pointer (some ⟨b29, 0, none⟩)), (94, .int .i64 1), (95, .bool true)] rfl (by kernel_rfl) ?_
  refine ow_end rfl ?_
  refine ew_then ?_
  refine cw_seq ?_
  refine cw_cond_t rfl rfl rfl ?_
  refine cw_skip ?_
  refine ew_then ?_
  refine cw_seq ?_
  refine cw_block ?_
  refine cw_seq ?_
  refine cw_region ?_
  refine ow_vals 2 (j := 2) [0, 6, 12, 94] [(0, .pointer (some ⟨b0, 0, none⟩)), (6, .pointer (some ⟨b29, 0, none⟩)), (12, .int .i64 1), (94, .int .i64 1)] rfl (by kernel_rfl) ?_
  refine ow_end rfl ?_
  refine ew_then ?_
  refine cw_open 13 (SAT w0 ([imm I, pt b29 #[.int .u32 x59, .int .u32 x60, .int .u32 x61, .int .u32 x62, .int .u32 x63, .int .u32 x64, .int .u32 x65, .int .u32 x66] 129, pt b27 ((eInt .u32).all r23).toArray 135, pt b25 ((eInt .u32).all r21).toArray 135, pt b0 #[.int .u32 (IntKind.u32.wrap (m0.h_.e0 + x59)), .int .u32 m0.h_.e1, .int .u32 m0.h_.e2, .int .u32 m0.h_.e3, .int .u32 m0.h_.e4, .int .u32 m0.h_.e5, .int .u32 m0.h_.e6, .int .u32 m0.h_.e7, .string m0.rest_, .int .u64 m0.n_, .bool m0.on_] 131])) (by kernel_rfl) (f := 14) rfl (fun w hs => sat_drew hs) ?_
  refine aw_vals [0, 1, 2, 3, 4, 6, 7, 10, 11] (f' := 5) (m' := 3295) [0, 6, 94, 98, 101, 104, 108] [(0, .pointer (some ⟨b0, 0, none⟩)), (6, .pointer (some ⟨b29, 0, none⟩)), (94, .int .i64 1), (98, .int .i64 1), (101, .pointer (some ⟨b0, 1, none⟩)), (104, .pointer (some ⟨b29, 1, none⟩)), (108, .pointer (some ⟨b0, 0, none⟩))] (fun _ _ _ _ _ h => calm_fin (P := Try.prog) (fn := Try.f94) _ _ _ _ _ h) (fun w hs => sat_pulls [0, 0, 0, 0, 0] (G := [] ++ F0) rfl hs) rfl (by kernel_rfl) ?_
  refine aw_quiet 5 (m' := 3327) (v := .int .u32 m0.h_.e1) 5 [] rfl rfl rfl rfl (by kernel_rfl) (by kernel_rfl) (by kernel_rfl) (fun _ _ _ _ _ h => calm_fin (P := Try.prog) (fn := Try.f94) _ _ _ _ _ h) (fun w hs => sat_pulls [0, 0, 0, 0, 0] (G := [] ++ F0) rfl hs) (q_load 4 rfl rfl rfl (by kernel_rfl)) ?_
  refine aw_quiet 8 (m' := 3583) (v := .int .u32 x60) 8 [] rfl rfl rfl rfl (by kernel_rfl) (by kernel_rfl) (by kernel_rfl) (fun _ _ _ _ _ h => calm_fin (P := Try.prog) (fn := Try.f94) _ _ _ _ _ h) (fun w hs => sat_pulls [0, 0, 0, 0, 0] (G := [] ++ F0) rfl hs) (q_load 1 rfl rfl rfl (by kernel_rfl)) ?_
  refine aw_vals [9, 12] (f' := 1) (m' := 8191) [0, 6, 94, 106, 109] [(0, .pointer (some ⟨b0, 0, none⟩)), (6, .pointer (some ⟨b29, 0, none⟩)), (94, .int .i64 1), (106, .int .u32 (IntKind.u32.wrap (m0.h_.e1 + x60))), (109, .pointer (some ⟨b0, 1, none⟩))] (fun _ _ _ _ _ h => calm_fin (P := Try.prog) (fn := Try.f94) _ _ _ _ _ h) (fun w hs => sat_pulls [0, 0, 0, 0, 0] (G := [] ++ F0) rfl hs) rfl (by kernel_rfl) ?_
  refine aw_only 13 (m' := 16383) (by kernel_rfl) (by kernel_rfl) (pw_store 4 #[.int .u32 (IntKind.u32.wrap (m0.h_.e0 + x59)), .int .u32 (IntKind.u32.wrap (m0.h_.e1 + x60)), .int .u32 m0.h_.e2, .int .u32 m0.h_.e3, .int .u32 m0.h_.e4, .int .u32 m0.h_.e5, .int .u32 m0.h_.e6, .int .u32 m0.h_.e7, .string m0.rest_, .int .u64 m0.n_, .bool m0.on_] rfl rfl rfl rfl rfl rfl rfl (by kernel_rfl) (nw_H (H' := [imm I, pt b29 #[.int .u32 x59, .int .u32 x60, .int .u32 x61, .int .u32 x62, .int .u32 x63, .int .u32 x64, .int .u32 x65, .int .u32 x66] 129, pt b27 ((eInt .u32).all r23).toArray 135, pt b25 ((eInt .u32).all r21).toArray 135, pt b0 #[.int .u32 (IntKind.u32.wrap (m0.h_.e0 + x59)), .int .u32 (IntKind.u32.wrap (m0.h_.e1 + x60)), .int .u32 m0.h_.e2, .int .u32 m0.h_.e3, .int .u32 m0.h_.e4, .int .u32 m0.h_.e5, .int .u32 m0.h_.e6, .int .u32 m0.h_.e7, .string m0.rest_, .int .u64 m0.n_, .bool m0.on_] 131] ++ F0) rfl (aw_last (by kernel_rfl) ?_)))
  refine aw_keep [0, 6, 94] (L' := [(0, .pointer (some ⟨b0, 0, none⟩)), (6, .pointer (some ⟨b29, 0, none⟩)), (94, .int .i64 1)]) rfl ?_
  refine aw_end (by kernel_rfl) ?_
  refine ew_blk ?_
  refine ew_then ?_
  refine cw_region ?_
  refine ow_vals 2 (j := 2) [0, 6, 94] [(0, .pointer (some ⟨b0, 0, none⟩)), (6, .pointer (some ⟨b29, 0, none⟩)), (94, .int .i64 2)] rfl (by kernel_rfl) ?_
  refine ow_end rfl ?_
  refine ew_rounds ?_
  refine cr_next ?_
  refine cw_seq ?_
  refine cw_region ?_
  refine ow_vals 1 (j := 1) [0, 6, 94, 95] [(0, .pointer (some ⟨b0, 0, none⟩)), (6, .pointer (some ⟨b29, 0, none⟩)), (94, .int .i64 2), (95, .bool true)] rfl (by kernel_rfl) ?_
  refine ow_end rfl ?_
  refine ew_then ?_
  refine cw_seq ?_
  refine cw_cond_t rfl rfl rfl ?_
  refine cw_skip ?_
  refine ew_then ?_
  refine cw_seq ?_
  refine cw_block ?_
  refine cw_seq ?_
  refine cw_region ?_
  refine ow_vals 2 (j := 2) [0, 6, 12, 94] [(0, .pointer (some ⟨b0, 0, none⟩)), (6, .pointer (some ⟨b29, 0, none⟩)), (12, .int .i64 2), (94, .int .i64 2)] rfl (by kernel_rfl) ?_
  refine ow_end rfl ?_
  refine ew_then ?_
  refine cw_open 13 (SAT w0 ([imm I, pt b29 #[.int .u32 x59, .int .u32 x60, .int .u32 x61, .int .u32 x62, .int .u32 x63, .int .u32 x64, .int .u32 x65, .int .u32 x66] 129, pt b27 ((eInt .u32).all r23).toArray 135, pt b25 ((eInt .u32).all r21).toArray 135, pt b0 #[.int .u32 (IntKind.u32.wrap (m0.h_.e0 + x59)), .int .u32 (IntKind.u32.wrap (m0.h_.e1 + x60)), .int .u32 m0.h_.e2, .int .u32 m0.h_.e3, .int .u32 m0.h_.e4, .int .u32 m0.h_.e5, .int .u32 m0.h_.e6, .int .u32 m0.h_.e7, .string m0.rest_, .int .u64 m0.n_, .bool m0.on_] 131])) (by kernel_rfl) (f := 14) rfl (fun w hs => sat_drew hs) ?_
  refine aw_vals [0, 1, 2, 3, 4, 6, 7, 10, 11] (f' := 5) (m' := 3295) [0, 6, 94, 98, 101, 104, 108] [(0, .pointer (some ⟨b0, 0, none⟩)), (6, .pointer (some ⟨b29, 0, none⟩)), (94, .int .i64 2), (98, .int .i64 2), (101, .pointer (some ⟨b0, 2, none⟩)), (104, .pointer (some ⟨b29, 2, none⟩)), (108, .pointer (some ⟨b0, 0, none⟩))] (fun _ _ _ _ _ h => calm_fin (P := Try.prog) (fn := Try.f94) _ _ _ _ _ h) (fun w hs => sat_pulls [0, 0, 0, 0, 0] (G := [] ++ F0) rfl hs) rfl (by kernel_rfl) ?_
  refine aw_quiet 5 (m' := 3327) (v := .int .u32 m0.h_.e2) 5 [] rfl rfl rfl rfl (by kernel_rfl) (by kernel_rfl) (by kernel_rfl) (fun _ _ _ _ _ h => calm_fin (P := Try.prog) (fn := Try.f94) _ _ _ _ _ h) (fun w hs => sat_pulls [0, 0, 0, 0, 0] (G := [] ++ F0) rfl hs) (q_load 4 rfl rfl rfl (by kernel_rfl)) ?_
  refine aw_quiet 8 (m' := 3583) (v := .int .u32 x61) 8 [] rfl rfl rfl rfl (by kernel_rfl) (by kernel_rfl) (by kernel_rfl) (fun _ _ _ _ _ h => calm_fin (P := Try.prog) (fn := Try.f94) _ _ _ _ _ h) (fun w hs => sat_pulls [0, 0, 0, 0, 0] (G := [] ++ F0) rfl hs) (q_load 1 rfl rfl rfl (by kernel_rfl)) ?_
  refine aw_vals [9, 12] (f' := 1) (m' := 8191) [0, 6, 94, 106, 109] [(0, .pointer (some ⟨b0, 0, none⟩)), (6, .pointer (some ⟨b29, 0, none⟩)), (94, .int .i64 2), (106, .int .u32 (IntKind.u32.wrap (m0.h_.e2 + x61))), (109, .pointer (some ⟨b0, 2, none⟩))] (fun _ _ _ _ _ h => calm_fin (P := Try.prog) (fn := Try.f94) _ _ _ _ _ h) (fun w hs => sat_pulls [0, 0, 0, 0, 0] (G := [] ++ F0) rfl hs) rfl (by kernel_rfl) ?_
  refine aw_only 13 (m' := 16383) (by kernel_rfl) (by kernel_rfl) (pw_store 4 #[.int .u32 (IntKind.u32.wrap (m0.h_.e0 + x59)), .int .u32 (IntKind.u32.wrap (m0.h_.e1 + x60)), .int .u32 (IntKind.u32.wrap (m0.h_.e2 + x61)), .int .u32 m0.h_.e3, .int .u32 m0.h_.e4, .int .u32 m0.h_.e5, .int .u32 m0.h_.e6, .int .u32 m0.h_.e7, .string m0.rest_, .int .u64 m0.n_, .bool m0.on_] rfl rfl rfl rfl rfl rfl rfl (by kernel_rfl) (nw_H (H' := [imm I, pt b29 #[.int .u32 x59, .int .u32 x60, .int .u32 x61, .int .u32 x62, .int .u32 x63, .int .u32 x64, .int .u32 x65, .int .u32 x66] 129, pt b27 ((eInt .u32).all r23).toArray 135, pt b25 ((eInt .u32).all r21).toArray 135, pt b0 #[.int .u32 (IntKind.u32.wrap (m0.h_.e0 + x59)), .int .u32 (IntKind.u32.wrap (m0.h_.e1 + x60)), .int .u32 (IntKind.u32.wrap (m0.h_.e2 + x61)), .int .u32 m0.h_.e3, .int .u32 m0.h_.e4, .int .u32 m0.h_.e5, .int .u32 m0.h_.e6, .int .u32 m0.h_.e7, .string m0.rest_, .int .u64 m0.n_, .bool m0.on_] 131] ++ F0) rfl (aw_last (by kernel_rfl) ?_)))
  refine aw_keep [0, 6, 94] (L' := [(0, .pointer (some ⟨b0, 0, none⟩)), (6, .pointer (some ⟨b29, 0, none⟩)), (94, .int .i64 2)]) rfl ?_
  refine aw_end (by kernel_rfl) ?_
  refine ew_blk ?_
  refine ew_then ?_
  refine cw_region ?_
  refine ow_vals 2 (j := 2) [0, 6, 94] [(0, .pointer (some ⟨b0, 0, none⟩)), (6, .pointer (some ⟨b29, 0, none⟩)), (94, .int .i64 3)] rfl (by kernel_rfl) ?_
  refine ow_end rfl ?_
  refine ew_rounds ?_
  refine cr_next ?_
  refine cw_seq ?_
  refine cw_region ?_
  refine ow_vals 1 (j := 1) [0, 6, 94, 95] [(0, .pointer (some ⟨b0, 0, none⟩)), (6, .pointer (some ⟨b29, 0, none⟩)), (94, .int .i64 3), (95, .bool true)] rfl (by kernel_rfl) ?_
  refine ow_end rfl ?_
  refine ew_then ?_
  refine cw_seq ?_
  refine cw_cond_t rfl rfl rfl ?_
  refine cw_skip ?_
  refine ew_then ?_
  refine cw_seq ?_
  refine cw_block ?_
  refine cw_seq ?_
  refine cw_region ?_
  refine ow_vals 2 (j := 2) [0, 6, 12, 94] [(0, .pointer (some ⟨b0, 0, none⟩)), (6, .pointer (some ⟨b29, 0, none⟩)), (12, .int .i64 3), (94, .int .i64 3)] rfl (by kernel_rfl) ?_
  refine ow_end rfl ?_
  refine ew_then ?_
  refine cw_open 13 (SAT w0 ([imm I, pt b29 #[.int .u32 x59, .int .u32 x60, .int .u32 x61, .int .u32 x62, .int .u32 x63, .int .u32 x64, .int .u32 x65, .int .u32 x66] 129, pt b27 ((eInt .u32).all r23).toArray 135, pt b25 ((eInt .u32).all r21).toArray 135, pt b0 #[.int .u32 (IntKind.u32.wrap (m0.h_.e0 + x59)), .int .u32 (IntKind.u32.wrap (m0.h_.e1 + x60)), .int .u32 (IntKind.u32.wrap (m0.h_.e2 + x61)), .int .u32 m0.h_.e3, .int .u32 m0.h_.e4, .int .u32 m0.h_.e5, .int .u32 m0.h_.e6, .int .u32 m0.h_.e7, .string m0.rest_, .int .u64 m0.n_, .bool m0.on_] 131])) (by kernel_rfl) (f := 14) rfl (fun w hs => sat_drew hs) ?_
  refine aw_vals [0, 1, 2, 3, 4, 6, 7, 10, 11] (f' := 5) (m' := 3295) [0, 6, 94, 98, 101, 104, 108] [(0, .pointer (some ⟨b0, 0, none⟩)), (6, .pointer (some ⟨b29, 0, none⟩)), (94, .int .i64 3), (98, .int .i64 3), (101, .pointer (some ⟨b0, 3, none⟩)), (104, .pointer (some ⟨b29, 3, none⟩)), (108, .pointer (some ⟨b0, 0, none⟩))] (fun _ _ _ _ _ h => calm_fin (P := Try.prog) (fn := Try.f94) _ _ _ _ _ h) (fun w hs => sat_pulls [0, 0, 0, 0, 0] (G := [] ++ F0) rfl hs) rfl (by kernel_rfl) ?_
  refine aw_quiet 5 (m' := 3327) (v := .int .u32 m0.h_.e3) 5 [] rfl rfl rfl rfl (by kernel_rfl) (by kernel_rfl) (by kernel_rfl) (fun _ _ _ _ _ h => calm_fin (P := Try.prog) (fn := Try.f94) _ _ _ _ _ h) (fun w hs => sat_pulls [0, 0, 0, 0, 0] (G := [] ++ F0) rfl hs) (q_load 4 rfl rfl rfl (by kernel_rfl)) ?_
  refine aw_quiet 8 (m' := 3583) (v := .int .u32 x62) 8 [] rfl rfl rfl rfl (by kernel_rfl) (by kernel_rfl) (by kernel_rfl) (fun _ _ _ _ _ h => calm_fin (P := Try.prog) (fn := Try.f94) _ _ _ _ _ h) (fun w hs => sat_pulls [0, 0, 0, 0, 0] (G := [] ++ F0) rfl hs) (q_load 1 rfl rfl rfl (by kernel_rfl)) ?_
  refine aw_vals [9, 12] (f' := 1) (m' := 8191) [0, 6, 94, 106, 109] [(0, .pointer (some ⟨b0, 0, none⟩)), (6, .pointer (some ⟨b29, 0, none⟩)), (94, .int .i64 3), (106, .int .u32 (IntKind.u32.wrap (m0.h_.e3 + x62))), (109, .pointer (some ⟨b0, 3, none⟩))] (fun _ _ _ _ _ h => calm_fin (P := Try.prog) (fn := Try.f94) _ _ _ _ _ h) (fun w hs => sat_pulls [0, 0, 0, 0, 0] (G := [] ++ F0) rfl hs) rfl (by kernel_rfl) ?_
  refine aw_only 13 (m' := 16383) (by kernel_rfl) (by kernel_rfl) (pw_store 4 #[.int .u32 (IntKind.u32.wrap (m0.h_.e0 + x59)), .int .u32 (IntKind.u32.wrap (m0.h_.e1 + x60)), .int .u32 (IntKind.u32.wrap (m0.h_.e2 + x61)), .int .u32 (IntKind.u32.wrap (m0.h_.e3 + x62)), .int .u32 m0.h_.e4, .int .u32 m0.h_.e5, .int .u32 m0.h_.e6, .int .u32 m0.h_.e7, .string m0.rest_, .int .u64 m0.n_, .bool m0.on_] rfl rfl rfl rfl rfl rfl rfl (by kernel_rfl) (nw_H (H' := [imm I, pt b29 #[.int .u32 x59, .int .u32 x60, .int .u32 x61, .int .u32 x62, .int .u32 x63, .int .u32 x64, .int .u32 x65, .int .u32 x66] 129, pt b27 ((eInt .u32).all r23).toArray 135, pt b25 ((eInt .u32).all r21).toArray 135, pt b0 #[.int .u32 (IntKind.u32.wrap (m0.h_.e0 + x59)), .int .u32 (IntKind.u32.wrap (m0.h_.e1 + x60)), .int .u32 (IntKind.u32.wrap (m0.h_.e2 + x61)), .int .u32 (IntKind.u32.wrap (m0.h_.e3 + x62)), .int .u32 m0.h_.e4, .int .u32 m0.h_.e5, .int .u32 m0.h_.e6, .int .u32 m0.h_.e7, .string m0.rest_, .int .u64 m0.n_, .bool m0.on_] 131] ++ F0) rfl (aw_last (by kernel_rfl) ?_)))
  refine aw_keep [0, 6, 94] (L' := [(0, .pointer (some ⟨b0, 0, none⟩)), (6, .pointer (some ⟨b29, 0, none⟩)), (94, .int .i64 3)]) rfl ?_
  refine aw_end (by kernel_rfl) ?_
  refine ew_blk ?_
  refine ew_then ?_
  refine cw_region ?_
  refine ow_vals 2 (j := 2) [0, 6, 94] [(0, .pointer (some ⟨b0, 0, none⟩)), (6, .pointer (some ⟨b29, 0, none⟩)), (94, .int .i64 4)] rfl (by kernel_rfl) ?_
  refine ow_end rfl ?_
  refine ew_rounds ?_
  refine cr_next ?_
  refine cw_seq ?_
  refine cw_region ?_
  refine ow_vals 1 (j := 1) [0, 6, 94, 95] [(0, .pointer (some ⟨b0, 0, none⟩)), (6, .pointer (some ⟨b29, 0, none⟩)), (94, .int .i64 4), (95, .bool true)] rfl (by kernel_rfl) ?_
  refine ow_end rfl ?_
  refine ew_then ?_
  refine cw_seq ?_
  refine cw_cond_t rfl rfl rfl ?_
  refine cw_skip ?_
  refine ew_then ?_
  refine cw_seq ?_
  refine cw_block ?_
  refine cw_seq ?_
  refine cw_region ?_
  refine ow_vals 2 (j := 2) [0, 6, 12, 94] [(0, .pointer (some ⟨b0, 0, none⟩)), (6, .pointer (some ⟨b29, 0, none⟩)), (12, .int .i64 4), (94, .int .i64 4)] rfl (by kernel_rfl) ?_
  refine ow_end rfl ?_
  refine ew_then ?_
  refine cw_open 13 (SAT w0 ([imm I, pt b29 #[.int .u32 x59, .int .u32 x60, .int .u32 x61, .int .u32 x62, .int .u32 x63, .int .u32 x64, .int .u32 x65, .int .u32 x66] 129, pt b27 ((eInt .u32).all r23).toArray 135, pt b25 ((eInt .u32).all r21).toArray 135, pt b0 #[.int .u32 (IntKind.u32.wrap (m0.h_.e0 + x59)), .int .u32 (IntKind.u32.wrap (m0.h_.e1 + x60)), .int .u32 (IntKind.u32.wrap (m0.h_.e2 + x61)), .int .u32 (IntKind.u32.wrap (m0.h_.e3 + x62)), .int .u32 m0.h_.e4, .int .u32 m0.h_.e5, .int .u32 m0.h_.e6, .int .u32 m0.h_.e7, .string m0.rest_, .int .u64 m0.n_, .bool m0.on_] 131])) (by kernel_rfl) (f := 14) rfl (fun w hs => sat_drew hs) ?_
  refine aw_vals [0, 1, 2, 3, 4, 6, 7, 10, 11] (f' := 5) (m' := 3295) [0, 6, 94, 98, 101, 104, 108] [(0, .pointer (some ⟨b0, 0, none⟩)), (6, .pointer (some ⟨b29, 0, none⟩)), (94, .int .i64 4), (98, .int .i64 4), (101, .pointer (some ⟨b0, 4, none⟩)), (104, .pointer (some ⟨b29, 4, none⟩)), (108, .pointer (some ⟨b0, 0, none⟩))] (fun _ _ _ _ _ h => calm_fin (P := Try.prog) (fn := Try.f94) _ _ _ _ _ h) (fun w hs => sat_pulls [0, 0, 0, 0, 0] (G := [] ++ F0) rfl hs) rfl (by kernel_rfl) ?_
  refine aw_quiet 5 (m' := 3327) (v := .int .u32 m0.h_.e4) 5 [] rfl rfl rfl rfl (by kernel_rfl) (by kernel_rfl) (by kernel_rfl) (fun _ _ _ _ _ h => calm_fin (P := Try.prog) (fn := Try.f94) _ _ _ _ _ h) (fun w hs => sat_pulls [0, 0, 0, 0, 0] (G := [] ++ F0) rfl hs) (q_load 4 rfl rfl rfl (by kernel_rfl)) ?_
  refine aw_quiet 8 (m' := 3583) (v := .int .u32 x63) 8 [] rfl rfl rfl rfl (by kernel_rfl) (by kernel_rfl) (by kernel_rfl) (fun _ _ _ _ _ h => calm_fin (P := Try.prog) (fn := Try.f94) _ _ _ _ _ h) (fun w hs => sat_pulls [0, 0, 0, 0, 0] (G := [] ++ F0) rfl hs) (q_load 1 rfl rfl rfl (by kernel_rfl)) ?_
  refine aw_vals [9, 12] (f' := 1) (m' := 8191) [0, 6, 94, 106, 109] [(0, .pointer (some ⟨b0, 0, none⟩)), (6, .pointer (some ⟨b29, 0, none⟩)), (94, .int .i64 4), (106, .int .u32 (IntKind.u32.wrap (m0.h_.e4 + x63))), (109, .pointer (some ⟨b0, 4, none⟩))] (fun _ _ _ _ _ h => calm_fin (P := Try.prog) (fn := Try.f94) _ _ _ _ _ h) (fun w hs => sat_pulls [0, 0, 0, 0, 0] (G := [] ++ F0) rfl hs) rfl (by kernel_rfl) ?_
  refine aw_only 13 (m' := 16383) (by kernel_rfl) (by kernel_rfl) (pw_store 4 #[.int .u32 (IntKind.u32.wrap (m0.h_.e0 + x59)), .int .u32 (IntKind.u32.wrap (m0.h_.e1 + x60)), .int .u32 (IntKind.u32.wrap (m0.h_.e2 + x61)), .int .u32 (IntKind.u32.wrap (m0.h_.e3 + x62)), .int .u32 (IntKind.u32.wrap (m0.h_.e4 + x63)), .int .u32 m0.h_.e5, .int .u32 m0.h_.e6, .int .u32 m0.h_.e7, .string m0.rest_, .int .u64 m0.n_, .bool m0.on_] rfl rfl rfl rfl rfl rfl rfl (by kernel_rfl) (nw_H (H' := [imm I, pt b29 #[.int .u32 x59, .int .u32 x60, .int .u32 x61, .int .u32 x62, .int .u32 x63, .int .u32 x64, .int .u32 x65, .int .u32 x66] 129, pt b27 ((eInt .u32).all r23).toArray 135, pt b25 ((eInt .u32).all r21).toArray 135, pt b0 #[.int .u32 (IntKind.u32.wrap (m0.h_.e0 + x59)), .int .u32 (IntKind.u32.wrap (m0.h_.e1 + x60)), .int .u32 (IntKind.u32.wrap (m0.h_.e2 + x61)), .int .u32 (IntKind.u32.wrap (m0.h_.e3 + x62)), .int .u32 (IntKind.u32.wrap (m0.h_.e4 + x63)), .int .u32 m0.h_.e5, .int .u32 m0.h_.e6, .int .u32 m0.h_.e7, .string m0.rest_, .int .u64 m0.n_, .bool m0.on_] 131] ++ F0) rfl (aw_last (by kernel_rfl) ?_)))
  refine aw_keep [0, 6, 94] (L' := [(0, .pointer (some ⟨b0, 0, none⟩)), (6, .pointer (some ⟨b29, 0, none⟩)), (94, .int .i64 4)]) rfl ?_
  refine aw_end (by kernel_rfl) ?_
  refine ew_blk ?_
  refine ew_then ?_
  refine cw_region ?_
  refine ow_vals 2 (j := 2) [0, 6, 94] [(0, .pointer (some ⟨b0, 0, none⟩)), (6, .pointer (some ⟨b29, 0, none⟩)), (94, .int .i64 5)] rfl (by kernel_rfl) ?_
  refine ow_end rfl ?_
  refine ew_rounds ?_
  refine cr_next ?_
  refine cw_seq ?_
  refine cw_region ?_
  refine ow_vals 1 (j := 1) [0, 6, 94, 95] [(0, .pointer (some ⟨b0, 0, none⟩)), (6, .pointer (some ⟨b29, 0, none⟩)), (94, .int .i64 5), (95, .bool true)] rfl (by kernel_rfl) ?_
  refine ow_end rfl ?_
  refine ew_then ?_
  refine cw_seq ?_
  refine cw_cond_t rfl rfl rfl ?_
  refine cw_skip ?_
  refine ew_then ?_
  refine cw_seq ?_
  refine cw_block ?_
  refine cw_seq ?_
  refine cw_region ?_
  refine ow_vals 2 (j := 2) [0, 6, 12, 94] [(0, .pointer (some ⟨b0, 0, none⟩)), (6, .pointer (some ⟨b29, 0, none⟩)), (12, .int .i64 5), (94, .int .i64 5)] rfl (by kernel_rfl) ?_
  refine ow_end rfl ?_
  refine ew_then ?_
  refine cw_open 13 (SAT w0 ([imm I, pt b29 #[.int .u32 x59, .int .u32 x60, .int .u32 x61, .int .u32 x62, .int .u32 x63, .int .u32 x64, .int .u32 x65, .int .u32 x66] 129, pt b27 ((eInt .u32).all r23).toArray 135, pt b25 ((eInt .u32).all r21).toArray 135, pt b0 #[.int .u32 (IntKind.u32.wrap (m0.h_.e0 + x59)), .int .u32 (IntKind.u32.wrap (m0.h_.e1 + x60)), .int .u32 (IntKind.u32.wrap (m0.h_.e2 + x61)), .int .u32 (IntKind.u32.wrap (m0.h_.e3 + x62)), .int .u32 (IntKind.u32.wrap (m0.h_.e4 + x63)), .int .u32 m0.h_.e5, .int .u32 m0.h_.e6, .int .u32 m0.h_.e7, .string m0.rest_, .int .u64 m0.n_, .bool m0.on_] 131])) (by kernel_rfl) (f := 14) rfl (fun w hs => sat_drew hs) ?_
  refine aw_vals [0, 1, 2, 3, 4, 6, 7, 10, 11] (f' := 5) (m' := 3295) [0, 6, 94, 98, 101, 104, 108] [(0, .pointer (some ⟨b0, 0, none⟩)), (6, .pointer (some ⟨b29, 0, none⟩)), (94, .int .i64 5), (98, .int .i64 5), (101, .pointer (some ⟨b0, 5, none⟩)), (104, .pointer (some ⟨b29, 5, none⟩)), (108, .pointer (some ⟨b0, 0, none⟩))] (fun _ _ _ _ _ h => calm_fin (P := Try.prog) (fn := Try.f94) _ _ _ _ _ h) (fun w hs => sat_pulls [0, 0, 0, 0, 0] (G := [] ++ F0) rfl hs) rfl (by kernel_rfl) ?_
  refine aw_quiet 5 (m' := 3327) (v := .int .u32 m0.h_.e5) 5 [] rfl rfl rfl rfl (by kernel_rfl) (by kernel_rfl) (by kernel_rfl) (fun _ _ _ _ _ h => calm_fin (P := Try.prog) (fn := Try.f94) _ _ _ _ _ h) (fun w hs => sat_pulls [0, 0, 0, 0, 0] (G := [] ++ F0) rfl hs) (q_load 4 rfl rfl rfl (by kernel_rfl)) ?_
  refine aw_quiet 8 (m' := 3583) (v := .int .u32 x64) 8 [] rfl rfl rfl rfl (by kernel_rfl) (by kernel_rfl) (by kernel_rfl) (fun _ _ _ _ _ h => calm_fin (P := Try.prog) (fn := Try.f94) _ _ _ _ _ h) (fun w hs => sat_pulls [0, 0, 0, 0, 0] (G := [] ++ F0) rfl hs) (q_load 1 rfl rfl rfl (by kernel_rfl)) ?_
  refine aw_vals [9, 12] (f' := 1) (m' := 8191) [0, 6, 94, 106, 109] [(0, .pointer (some ⟨b0, 0, none⟩)), (6, .pointer (some ⟨b29, 0, none⟩)), (94, .int .i64 5), (106, .int .u32 (IntKind.u32.wrap (m0.h_.e5 + x64))), (109, .pointer (some ⟨b0, 5, none⟩))] (fun _ _ _ _ _ h => calm_fin (P := Try.prog) (fn := Try.f94) _ _ _ _ _ h) (fun w hs => sat_pulls [0, 0, 0, 0, 0] (G := [] ++ F0) rfl hs) rfl (by kernel_rfl) ?_
  refine aw_only 13 (m' := 16383) (by kernel_rfl) (by kernel_rfl) (pw_store 4 #[.int .u32 (IntKind.u32.wrap (m0.h_.e0 + x59)), .int .u32 (IntKind.u32.wrap (m0.h_.e1 + x60)), .int .u32 (IntKind.u32.wrap (m0.h_.e2 + x61)), .int .u32 (IntKind.u32.wrap (m0.h_.e3 + x62)), .int .u32 (IntKind.u32.wrap (m0.h_.e4 + x63)), .int .u32 (IntKind.u32.wrap (m0.h_.e5 + x64)), .int .u32 m0.h_.e6, .int .u32 m0.h_.e7, .string m0.rest_, .int .u64 m0.n_, .bool m0.on_] rfl rfl rfl rfl rfl rfl rfl (by kernel_rfl) (nw_H (H' := [imm I, pt b29 #[.int .u32 x59, .int .u32 x60, .int .u32 x61, .int .u32 x62, .int .u32 x63, .int .u32 x64, .int .u32 x65, .int .u32 x66] 129, pt b27 ((eInt .u32).all r23).toArray 135, pt b25 ((eInt .u32).all r21).toArray 135, pt b0 #[.int .u32 (IntKind.u32.wrap (m0.h_.e0 + x59)), .int .u32 (IntKind.u32.wrap (m0.h_.e1 + x60)), .int .u32 (IntKind.u32.wrap (m0.h_.e2 + x61)), .int .u32 (IntKind.u32.wrap (m0.h_.e3 + x62)), .int .u32 (IntKind.u32.wrap (m0.h_.e4 + x63)), .int .u32 (IntKind.u32.wrap (m0.h_.e5 + x64)), .int .u32 m0.h_.e6, .int .u32 m0.h_.e7, .string m0.rest_, .int .u64 m0.n_, .bool m0.on_] 131] ++ F0) rfl (aw_last (by kernel_rfl) ?_)))
  refine aw_keep [0, 6, 94] (L' := [(0, .pointer (some ⟨b0, 0, none⟩)), (6, .pointer (some ⟨b29, 0, none⟩)), (94, .int .i64 5)]) rfl ?_
  refine aw_end (by kernel_rfl) ?_
  refine ew_blk ?_
  refine ew_then ?_
  refine cw_region ?_
  refine ow_vals 2 (j := 2) [0, 6, 94] [(0, .pointer (some ⟨b0, 0, none⟩)), (6, .pointer (some ⟨b29, 0, none⟩)), (94, .int .i64 6)] rfl (by kernel_rfl) ?_
  refine ow_end rfl ?_
  refine ew_rounds ?_
  refine cr_next ?_
  refine cw_seq ?_
  refine cw_region ?_
  refine ow_vals 1 (j := 1) [0, 6, 94, 95] [(0, .pointer (some ⟨b0, 0, none⟩)), (6, .pointer (some ⟨b29, 0, none⟩)), (94, .int .i64 6), (95, .bool true)] rfl (by kernel_rfl) ?_
  refine ow_end rfl ?_
  refine ew_then ?_
  refine cw_seq ?_
  refine cw_cond_t rfl rfl rfl ?_
  refine cw_skip ?_
  refine ew_then ?_
  refine cw_seq ?_
  refine cw_block ?_
  refine cw_seq ?_
  refine cw_region ?_
  refine ow_vals 2 (j := 2) [0, 6, 12, 94] [(0, .pointer (some ⟨b0, 0, none⟩)), (6, .pointer (some ⟨b29, 0, none⟩)), (12, .int .i64 6), (94, .int .i64 6)] rfl (by kernel_rfl) ?_
  refine ow_end rfl ?_
  refine ew_then ?_
  refine cw_open 13 (SAT w0 ([imm I, pt b29 #[.int .u32 x59, .int .u32 x60, .int .u32 x61, .int .u32 x62, .int .u32 x63, .int .u32 x64, .int .u32 x65, .int .u32 x66] 129, pt b27 ((eInt .u32).all r23).toArray 135, pt b25 ((eInt .u32).all r21).toArray 135, pt b0 #[.int .u32 (IntKind.u32.wrap (m0.h_.e0 + x59)), .int .u32 (IntKind.u32.wrap (m0.h_.e1 + x60)), .int .u32 (IntKind.u32.wrap (m0.h_.e2 + x61)), .int .u32 (IntKind.u32.wrap (m0.h_.e3 + x62)), .int .u32 (IntKind.u32.wrap (m0.h_.e4 + x63)), .int .u32 (IntKind.u32.wrap (m0.h_.e5 + x64)), .int .u32 m0.h_.e6, .int .u32 m0.h_.e7, .string m0.rest_, .int .u64 m0.n_, .bool m0.on_] 131])) (by kernel_rfl) (f := 14) rfl (fun w hs => sat_drew hs) ?_
  refine aw_vals [0, 1, 2, 3, 4, 6, 7, 10, 11] (f' := 5) (m' := 3295) [0, 6, 94, 98, 101, 104, 108] [(0, .pointer (some ⟨b0, 0, none⟩)), (6, .pointer (some ⟨b29, 0, none⟩)), (94, .int .i64 6), (98, .int .i64 6), (101, .pointer (some ⟨b0, 6, none⟩)), (104, .pointer (some ⟨b29, 6, none⟩)), (108, .pointer (some ⟨b0, 0, none⟩))] (fun _ _ _ _ _ h => calm_fin (P := Try.prog) (fn := Try.f94) _ _ _ _ _ h) (fun w hs => sat_pulls [0, 0, 0, 0, 0] (G := [] ++ F0) rfl hs) rfl (by kernel_rfl) ?_
  refine aw_quiet 5 (m' := 3327) (v := .int .u32 m0.h_.e6) 5 [] rfl rfl rfl rfl (by kernel_rfl) (by kernel_rfl) (by kernel_rfl) (fun _ _ _ _ _ h => calm_fin (P := Try.prog) (fn := Try.f94) _ _ _ _ _ h) (fun w hs => sat_pulls [0, 0, 0, 0, 0] (G := [] ++ F0) rfl hs) (q_load 4 rfl rfl rfl (by kernel_rfl)) ?_
  refine aw_quiet 8 (m' := 3583) (v := .int .u32 x65) 8 [] rfl rfl rfl rfl (by kernel_rfl) (by kernel_rfl) (by kernel_rfl) (fun _ _ _ _ _ h => calm_fin (P := Try.prog) (fn := Try.f94) _ _ _ _ _ h) (fun w hs => sat_pulls [0, 0, 0, 0, 0] (G := [] ++ F0) rfl hs) (q_load 1 rfl rfl rfl (by kernel_rfl)) ?_
  refine aw_vals [9, 12] (f' := 1) (m' := 8191) [0, 6, 94, 106, 109] [(0, .pointer (some ⟨b0, 0, none⟩)), (6, .pointer (some ⟨b29, 0, none⟩)), (94, .int .i64 6), (106, .int .u32 (IntKind.u32.wrap (m0.h_.e6 + x65))), (109, .pointer (some ⟨b0, 6, none⟩))] (fun _ _ _ _ _ h => calm_fin (P := Try.prog) (fn := Try.f94) _ _ _ _ _ h) (fun w hs => sat_pulls [0, 0, 0, 0, 0] (G := [] ++ F0) rfl hs) rfl (by kernel_rfl) ?_
  refine aw_only 13 (m' := 16383) (by kernel_rfl) (by kernel_rfl) (pw_store 4 #[.int .u32 (IntKind.u32.wrap (m0.h_.e0 + x59)), .int .u32 (IntKind.u32.wrap (m0.h_.e1 + x60)), .int .u32 (IntKind.u32.wrap (m0.h_.e2 + x61)), .int .u32 (IntKind.u32.wrap (m0.h_.e3 + x62)), .int .u32 (IntKind.u32.wrap (m0.h_.e4 + x63)), .int .u32 (IntKind.u32.wrap (m0.h_.e5 + x64)), .int .u32 (IntKind.u32.wrap (m0.h_.e6 + x65)), .int .u32 m0.h_.e7, .string m0.rest_, .int .u64 m0.n_, .bool m0.on_] rfl rfl rfl rfl rfl rfl rfl (by kernel_rfl) (nw_H (H' := [imm I, pt b29 #[.int .u32 x59, .int .u32 x60, .int .u32 x61, .int .u32 x62, .int .u32 x63, .int .u32 x64, .int .u32 x65, .int .u32 x66] 129, pt b27 ((eInt .u32).all r23).toArray 135, pt b25 ((eInt .u32).all r21).toArray 135, pt b0 #[.int .u32 (IntKind.u32.wrap (m0.h_.e0 + x59)), .int .u32 (IntKind.u32.wrap (m0.h_.e1 + x60)), .int .u32 (IntKind.u32.wrap (m0.h_.e2 + x61)), .int .u32 (IntKind.u32.wrap (m0.h_.e3 + x62)), .int .u32 (IntKind.u32.wrap (m0.h_.e4 + x63)), .int .u32 (IntKind.u32.wrap (m0.h_.e5 + x64)), .int .u32 (IntKind.u32.wrap (m0.h_.e6 + x65)), .int .u32 m0.h_.e7, .string m0.rest_, .int .u64 m0.n_, .bool m0.on_] 131] ++ F0) rfl (aw_last (by kernel_rfl) ?_)))
  refine aw_keep [0, 6, 94] (L' := [(0, .pointer (some ⟨b0, 0, none⟩)), (6, .pointer (some ⟨b29, 0, none⟩)), (94, .int .i64 6)]) rfl ?_
  refine aw_end (by kernel_rfl) ?_
  refine ew_blk ?_
  refine ew_then ?_
  refine cw_region ?_
  refine ow_vals 2 (j := 2) [0, 6, 94] [(0, .pointer (some ⟨b0, 0, none⟩)), (6, .pointer (some ⟨b29, 0, none⟩)), (94, .int .i64 7)] rfl (by kernel_rfl) ?_
  refine ow_end rfl ?_
  refine ew_rounds ?_
  refine cr_next ?_
  refine cw_seq ?_
  refine cw_region ?_
  refine ow_vals 1 (j := 1) [0, 6, 94, 95] [(0, .pointer (some ⟨b0, 0, none⟩)), (6, .pointer (some ⟨b29, 0, none⟩)), (94, .int .i64 7), (95, .bool true)] rfl (by kernel_rfl) ?_
  refine ow_end rfl ?_
  refine ew_then ?_
  refine cw_seq ?_
  refine cw_cond_t rfl rfl rfl ?_
  refine cw_skip ?_
  refine ew_then ?_
  refine cw_seq ?_
  refine cw_block ?_
  refine cw_seq ?_
  refine cw_region ?_
  refine ow_vals 2 (j := 2) [0, 6, 12, 94] [(0, .pointer (some ⟨b0, 0, none⟩)), (6, .pointer (some ⟨b29, 0, none⟩)), (12, .int .i64 7), (94, .int .i64 7)] rfl (by kernel_rfl) ?_
  refine ow_end rfl ?_
  refine ew_then ?_
  refine cw_open 13 (SAT w0 ([imm I, pt b29 #[.int .u32 x59, .int .u32 x60, .int .u32 x61, .int .u32 x62, .int .u32 x63, .int .u32 x64, .int .u32 x65, .int .u32 x66] 129, pt b27 ((eInt .u32).all r23).toArray 135, pt b25 ((eInt .u32).all r21).toArray 135, pt b0 #[.int .u32 (IntKind.u32.wrap (m0.h_.e0 + x59)), .int .u32 (IntKind.u32.wrap (m0.h_.e1 + x60)), .int .u32 (IntKind.u32.wrap (m0.h_.e2 + x61)), .int .u32 (IntKind.u32.wrap (m0.h_.e3 + x62)), .int .u32 (IntKind.u32.wrap (m0.h_.e4 + x63)), .int .u32 (IntKind.u32.wrap (m0.h_.e5 + x64)), .int .u32 (IntKind.u32.wrap (m0.h_.e6 + x65)), .int .u32 m0.h_.e7, .string m0.rest_, .int .u64 m0.n_, .bool m0.on_] 131])) (by kernel_rfl) (f := 14) rfl (fun w hs => sat_drew hs) ?_
  refine aw_vals [0, 1, 2, 3, 4, 6, 7, 10, 11] (f' := 5) (m' := 3295) [0, 6, 94, 98, 101, 104, 108] [(0, .pointer (some ⟨b0, 0, none⟩)), (6, .pointer (some ⟨b29, 0, none⟩)), (94, .int .i64 7), (98, .int .i64 7), (101, .pointer (some ⟨b0, 7, none⟩)), (104, .pointer (some ⟨b29, 7, none⟩)), (108, .pointer (some ⟨b0, 0, none⟩))] (fun _ _ _ _ _ h => calm_fin (P := Try.prog) (fn := Try.f94) _ _ _ _ _ h) (fun w hs => sat_pulls [0, 0, 0, 0, 0] (G := [] ++ F0) rfl hs) rfl (by kernel_rfl) ?_
  refine aw_quiet 5 (m' := 3327) (v := .int .u32 m0.h_.e7) 5 [] rfl rfl rfl rfl (by kernel_rfl) (by kernel_rfl) (by kernel_rfl) (fun _ _ _ _ _ h => calm_fin (P := Try.prog) (fn := Try.f94) _ _ _ _ _ h) (fun w hs => sat_pulls [0, 0, 0, 0, 0] (G := [] ++ F0) rfl hs) (q_load 4 rfl rfl rfl (by kernel_rfl)) ?_
  refine aw_quiet 8 (m' := 3583) (v := .int .u32 x66) 8 [] rfl rfl rfl rfl (by kernel_rfl) (by kernel_rfl) (by kernel_rfl) (fun _ _ _ _ _ h => calm_fin (P := Try.prog) (fn := Try.f94) _ _ _ _ _ h) (fun w hs => sat_pulls [0, 0, 0, 0, 0] (G := [] ++ F0) rfl hs) (q_load 1 rfl rfl rfl (by kernel_rfl)) ?_
  refine aw_vals [9, 12] (f' := 1) (m' := 8191) [0, 6, 94, 106, 109] [(0, .pointer (some ⟨b0, 0, none⟩)), (6, .pointer (some ⟨b29, 0, none⟩)), (94, .int .i64 7), (106, .int .u32 (IntKind.u32.wrap (m0.h_.e7 + x66))), (109, .pointer (some ⟨b0, 7, none⟩))] (fun _ _ _ _ _ h => calm_fin (P := Try.prog) (fn := Try.f94) _ _ _ _ _ h) (fun w hs => sat_pulls [0, 0, 0, 0, 0] (G := [] ++ F0) rfl hs) rfl (by kernel_rfl) ?_
  refine aw_only 13 (m' := 16383) (by kernel_rfl) (by kernel_rfl) (pw_store 4 #[.int .u32 (IntKind.u32.wrap (m0.h_.e0 + x59)), .int .u32 (IntKind.u32.wrap (m0.h_.e1 + x60)), .int .u32 (IntKind.u32.wrap (m0.h_.e2 + x61)), .int .u32 (IntKind.u32.wrap (m0.h_.e3 + x62)), .int .u32 (IntKind.u32.wrap (m0.h_.e4 + x63)), .int .u32 (IntKind.u32.wrap (m0.h_.e5 + x64)), .int .u32 (IntKind.u32.wrap (m0.h_.e6 + x65)), .int .u32 (IntKind.u32.wrap (m0.h_.e7 + x66)), .string m0.rest_, .int .u64 m0.n_, .bool m0.on_] rfl rfl rfl rfl rfl rfl rfl (by kernel_rfl) (nw_H (H' := [imm I, pt b29 #[.int .u32 x59, .int .u32 x60, .int .u32 x61, .int .u32 x62, .int .u32 x63, .int .u32 x64, .int .u32 x65, .int .u32 x66] 129, pt b27 ((eInt .u32).all r23).toArray 135, pt b25 ((eInt .u32).all r21).toArray 135, pt b0 #[.int .u32 (IntKind.u32.wrap (m0.h_.e0 + x59)), .int .u32 (IntKind.u32.wrap (m0.h_.e1 + x60)), .int .u32 (IntKind.u32.wrap (m0.h_.e2 + x61)), .int .u32 (IntKind.u32.wrap (m0.h_.e3 + x62)), .int .u32 (IntKind.u32.wrap (m0.h_.e4 + x63)), .int .u32 (IntKind.u32.wrap (m0.h_.e5 + x64)), .int .u32 (IntKind.u32.wrap (m0.h_.e6 + x65)), .int .u32 (IntKind.u32.wrap (m0.h_.e7 + x66)), .string m0.rest_, .int .u64 m0.n_, .bool m0.on_] 131] ++ F0) rfl (aw_last (by kernel_rfl) ?_)))
  refine aw_keep [0, 6, 94] (L' := [(0, .pointer (some ⟨b0, 0, none⟩)), (6, .pointer (some ⟨b29, 0, none⟩)), (94, .int .i64 7)]) rfl ?_
  refine aw_end (by kernel_rfl) ?_
  refine ew_blk ?_
  refine ew_then ?_
  refine cw_region ?_
  refine ow_vals 2 (j := 2) [0, 6, 94] [(0, .pointer (some ⟨b0, 0, none⟩)), (6, .pointer (some ⟨b29, 0, none⟩)), (94, .int .i64 8)] rfl (by kernel_rfl) ?_
  refine ow_end rfl ?_
  refine ew_rounds ?_
  refine cr_next ?_
  refine cw_seq ?_
  refine cw_region ?_
  refine ow_vals 1 (j := 1) [0, 6, 94, 95] [(0, .pointer (some ⟨b0, 0, none⟩)), (6, .pointer (some ⟨b29, 0, none⟩)), (94, .int .i64 8), (95, .bool false)] rfl (by kernel_rfl) ?_
  refine ow_end rfl ?_
  refine ew_then ?_
  refine cw_seq ?_
  refine cw_cond_f rfl rfl rfl ?_
  refine cw_exit ?_
  refine ew_then_exit ?_
  refine ew_then_exit ?_
  refine ew_blk_exit ?_
  have hR := Option.some.inj hF
  subst hR
  exact fin0n (H1 := [imm I, pt b0 #[.int .u32 (((⟨(⟨IntKind.u32.wrap (m0.h_.e0 + x59), IntKind.u32.wrap (m0.h_.e1 + x60), IntKind.u32.wrap (m0.h_.e2 + x61), IntKind.u32.wrap (m0.h_.e3 + x62), IntKind.u32.wrap (m0.h_.e4 + x63), IntKind.u32.wrap (m0.h_.e5 + x64), IntKind.u32.wrap (m0.h_.e6 + x65), IntKind.u32.wrap (m0.h_.e7 + x66)⟩ : A8_Intu32), m0.rest_, m0.n_, m0.on_⟩ : sha_State).h_).e0), .int .u32 (((⟨(⟨IntKind.u32.wrap (m0.h_.e0 + x59), IntKind.u32.wrap (m0.h_.e1 + x60), IntKind.u32.wrap (m0.h_.e2 + x61), IntKind.u32.wrap (m0.h_.e3 + x62), IntKind.u32.wrap (m0.h_.e4 + x63), IntKind.u32.wrap (m0.h_.e5 + x64), IntKind.u32.wrap (m0.h_.e6 + x65), IntKind.u32.wrap (m0.h_.e7 + x66)⟩ : A8_Intu32), m0.rest_, m0.n_, m0.on_⟩ : sha_State).h_).e1), .int .u32 (((⟨(⟨IntKind.u32.wrap (m0.h_.e0 + x59), IntKind.u32.wrap (m0.h_.e1 + x60), IntKind.u32.wrap (m0.h_.e2 + x61), IntKind.u32.wrap (m0.h_.e3 + x62), IntKind.u32.wrap (m0.h_.e4 + x63), IntKind.u32.wrap (m0.h_.e5 + x64), IntKind.u32.wrap (m0.h_.e6 + x65), IntKind.u32.wrap (m0.h_.e7 + x66)⟩ : A8_Intu32), m0.rest_, m0.n_, m0.on_⟩ : sha_State).h_).e2), .int .u32 (((⟨(⟨IntKind.u32.wrap (m0.h_.e0 + x59), IntKind.u32.wrap (m0.h_.e1 + x60), IntKind.u32.wrap (m0.h_.e2 + x61), IntKind.u32.wrap (m0.h_.e3 + x62), IntKind.u32.wrap (m0.h_.e4 + x63), IntKind.u32.wrap (m0.h_.e5 + x64), IntKind.u32.wrap (m0.h_.e6 + x65), IntKind.u32.wrap (m0.h_.e7 + x66)⟩ : A8_Intu32), m0.rest_, m0.n_, m0.on_⟩ : sha_State).h_).e3), .int .u32 (((⟨(⟨IntKind.u32.wrap (m0.h_.e0 + x59), IntKind.u32.wrap (m0.h_.e1 + x60), IntKind.u32.wrap (m0.h_.e2 + x61), IntKind.u32.wrap (m0.h_.e3 + x62), IntKind.u32.wrap (m0.h_.e4 + x63), IntKind.u32.wrap (m0.h_.e5 + x64), IntKind.u32.wrap (m0.h_.e6 + x65), IntKind.u32.wrap (m0.h_.e7 + x66)⟩ : A8_Intu32), m0.rest_, m0.n_, m0.on_⟩ : sha_State).h_).e4), .int .u32 (((⟨(⟨IntKind.u32.wrap (m0.h_.e0 + x59), IntKind.u32.wrap (m0.h_.e1 + x60), IntKind.u32.wrap (m0.h_.e2 + x61), IntKind.u32.wrap (m0.h_.e3 + x62), IntKind.u32.wrap (m0.h_.e4 + x63), IntKind.u32.wrap (m0.h_.e5 + x64), IntKind.u32.wrap (m0.h_.e6 + x65), IntKind.u32.wrap (m0.h_.e7 + x66)⟩ : A8_Intu32), m0.rest_, m0.n_, m0.on_⟩ : sha_State).h_).e5), .int .u32 (((⟨(⟨IntKind.u32.wrap (m0.h_.e0 + x59), IntKind.u32.wrap (m0.h_.e1 + x60), IntKind.u32.wrap (m0.h_.e2 + x61), IntKind.u32.wrap (m0.h_.e3 + x62), IntKind.u32.wrap (m0.h_.e4 + x63), IntKind.u32.wrap (m0.h_.e5 + x64), IntKind.u32.wrap (m0.h_.e6 + x65), IntKind.u32.wrap (m0.h_.e7 + x66)⟩ : A8_Intu32), m0.rest_, m0.n_, m0.on_⟩ : sha_State).h_).e6), .int .u32 (((⟨(⟨IntKind.u32.wrap (m0.h_.e0 + x59), IntKind.u32.wrap (m0.h_.e1 + x60), IntKind.u32.wrap (m0.h_.e2 + x61), IntKind.u32.wrap (m0.h_.e3 + x62), IntKind.u32.wrap (m0.h_.e4 + x63), IntKind.u32.wrap (m0.h_.e5 + x64), IntKind.u32.wrap (m0.h_.e6 + x65), IntKind.u32.wrap (m0.h_.e7 + x66)⟩ : A8_Intu32), m0.rest_, m0.n_, m0.on_⟩ : sha_State).h_).e7), .string ((⟨(⟨IntKind.u32.wrap (m0.h_.e0 + x59), IntKind.u32.wrap (m0.h_.e1 + x60), IntKind.u32.wrap (m0.h_.e2 + x61), IntKind.u32.wrap (m0.h_.e3 + x62), IntKind.u32.wrap (m0.h_.e4 + x63), IntKind.u32.wrap (m0.h_.e5 + x64), IntKind.u32.wrap (m0.h_.e6 + x65), IntKind.u32.wrap (m0.h_.e7 + x66)⟩ : A8_Intu32), m0.rest_, m0.n_, m0.on_⟩ : sha_State).rest_), .int .u64 ((⟨(⟨IntKind.u32.wrap (m0.h_.e0 + x59), IntKind.u32.wrap (m0.h_.e1 + x60), IntKind.u32.wrap (m0.h_.e2 + x61), IntKind.u32.wrap (m0.h_.e3 + x62), IntKind.u32.wrap (m0.h_.e4 + x63), IntKind.u32.wrap (m0.h_.e5 + x64), IntKind.u32.wrap (m0.h_.e6 + x65), IntKind.u32.wrap (m0.h_.e7 + x66)⟩ : A8_Intu32), m0.rest_, m0.n_, m0.on_⟩ : sha_State).n_), .bool ((⟨(⟨IntKind.u32.wrap (m0.h_.e0 + x59), IntKind.u32.wrap (m0.h_.e1 + x60), IntKind.u32.wrap (m0.h_.e2 + x61), IntKind.u32.wrap (m0.h_.e3 + x62), IntKind.u32.wrap (m0.h_.e4 + x63), IntKind.u32.wrap (m0.h_.e5 + x64), IntKind.u32.wrap (m0.h_.e6 + x65), IntKind.u32.wrap (m0.h_.e7 + x66)⟩ : A8_Intu32), m0.rest_, m0.n_, m0.on_⟩ : sha_State).on_)] 131]) (fun w hs => sat_to [1, 1, 1, 0, 0] 3 rfl hs) rfl  ⟨rfl, rfl⟩


def F.sha_State_Write.l2 (s26 : ByteArray) (x27 : Int) (x28 : Int) (x29 : Int) (x30 : Int) (x31 : Int) (x32 : Int) (x33 : Int) (x34 : Int) (s35 : ByteArray) (x36 : Int) (x37 : Bool) : Option ((ByteArray × Int × Int × Int × Int × Int × Int × Int × Int × ByteArray × Int × Bool) ⊕ (ByteArray × Int × Int × Int × Int × Int × Int × Int × Int × ByteArray × Int × Bool)) :=
  if decide ((s26.size : Int) ≥ 64) then (chk (0 ≤ (0 : Int) ∧ (0 : Int) ≤ (64 : Int) ∧ (64 : Int) ≤ (s26.size : Int)) (Option.bind (F.sha_State_mix (s26.extract (0 : Int).toNat (64 : Int).toNat) (⟨(⟨x27, x28, x29, x30, x31, x32, x33, x34⟩ : A8_Intu32), s35, x36, x37⟩ : sha_State)) (fun (r40 : sha_State) => chk (0 ≤ (64 : Int) ∧ (64 : Int) ≤ (s26.size : Int) ∧ (s26.size : Int) ≤ (s26.size : Int)) (some (.inl (s26.extract (64 : Int).toNat (s26.size : Int).toNat, r40.h_.e0, r40.h_.e1, r40.h_.e2, r40.h_.e3, r40.h_.e4, r40.h_.e5, r40.h_.e6, r40.h_.e7, r40.rest_, r40.n_, r40.on_)))))) else (some (.inr ((s26, x27, x28, x29, x30, x31, x32, x33, x34, s35, x36, x37))))
def F.sha_State_Write.r3 (s43 : ByteArray) (x44 : Int) (x45 : Int) (x46 : Int) (x47 : Int) (x48 : Int) (x49 : Int) (x50 : Int) (x51 : Int) (s52 : ByteArray) (x53 : Int) (x54 : Bool) : Option (sha_State) :=
  some ((⟨(⟨x44, x45, x46, x47, x48, x49, x50, x51⟩ : A8_Intu32), s43, x53, x54⟩ : sha_State))
def F.sha_State_Write.r1 (x1 : ByteArray) (m0 : sha_State) : Option (sha_State) :=
  chk (m0.rest_.size + x1.size ≤ 9223372036854775807) (Option.bind (iter (fun x => F.sha_State_Write.l2 x.1 x.2.1 x.2.2.1 x.2.2.2.1 x.2.2.2.2.1 x.2.2.2.2.2.1 x.2.2.2.2.2.2.1 x.2.2.2.2.2.2.2.1 x.2.2.2.2.2.2.2.2.1 x.2.2.2.2.2.2.2.2.2.1 x.2.2.2.2.2.2.2.2.2.2.1 x.2.2.2.2.2.2.2.2.2.2.2) FUEL (m0.rest_ ++ x1, m0.h_.e0, m0.h_.e1, m0.h_.e2, m0.h_.e3, m0.h_.e4, m0.h_.e5, m0.h_.e6, m0.h_.e7, m0.rest_, IntKind.u64.wrap (m0.n_ + (IntKind.u64.wrap ((x1.size : Int)))), m0.on_)) (fun x => F.sha_State_Write.r3 x.1 x.2.1 x.2.2.1 x.2.2.2.1 x.2.2.2.2.1 x.2.2.2.2.2.1 x.2.2.2.2.2.2.1 x.2.2.2.2.2.2.2.1 x.2.2.2.2.2.2.2.2.1 x.2.2.2.2.2.2.2.2.2.1 x.2.2.2.2.2.2.2.2.2.2.1 x.2.2.2.2.2.2.2.2.2.2.2))
def F.sha_State_Write (x1 : ByteArray) (m0 : sha_State) : Option sha_State :=
  thru (if !m0.on_ then (some (.inr (m0))) else (some (.inl ()))) (fun x => F.sha_State_Write.r1 x1 m0)
set_option maxRecDepth 100000 in
set_option maxHeartbeats 4000000 in
theorem c_sha_State_Write (I : Hl) (x1 : ByteArray) (m0 : sha_State) (b0 : Nat) (res : sha_State) (hF : F.sha_State_Write x1 m0 = some res) : Tr Try.prog 87 [.pointer (some ⟨b0, 0, none⟩), .string x1] [imm I, pt b0 #[.int .u32 m0.h_.e0, .int .u32 m0.h_.e1, .int .u32 m0.h_.e2, .int .u32 m0.h_.e3, .int .u32 m0.h_.e4, .int .u32 m0.h_.e5, .int .u32 m0.h_.e6, .int .u32 m0.h_.e7, .string m0.rest_, .int .u64 m0.n_, .bool m0.on_] 131] (fun r H' => r = .tuple #[] ∧ H' = [imm I, pt b0 #[.int .u32 res.h_.e0, .int .u32 res.h_.e1, .int .u32 res.h_.e2, .int .u32 res.h_.e3, .int .u32 res.h_.e4, .int .u32 res.h_.e5, .int .u32 res.h_.e6, .int .u32 res.h_.e7, .string res.rest_, .int .u64 res.n_, .bool res.on_] 131]) := by
  unfold F.sha_State_Write at hF
  refine tr_of_cw (fn := Try.f87) Try.func87 rfl (Nat.le_of_ble_eq_true rfl) 42 rfl fun F0 w0 => ?_
  refine cw_keep [0, 1] (L' := [(0, .pointer (some ⟨b0, 0, none⟩)), (1, .string x1)]) rfl ?_
  refine cw_state (S' := SAT w0 ([imm I, pt b0 #[.int .u32 m0.h_.e0, .int .u32 m0.h_.e1, .int .u32 m0.h_.e2, .int .u32 m0.h_.e3, .int .u32 m0.h_.e4, .int .u32 m0.h_.e5, .int .u32 m0.h_.e6, .int .u32 m0.h_.e7, .string m0.rest_, .int .u64 m0.n_, .bool m0.on_] 131] ++ F0)) (fun w hs => hs) ?_
  obtain ⟨v21, hF, hK21⟩ := thru_some hF
  refine cw_mid (fun a w => .inl () = v21 ∧ Fr 42 [(0, .pointer (some ⟨b0, 0, none⟩)), (1, .string x1)] a ∧ SAT w0 ([imm I, pt b0 #[.int .u32 m0.h_.e0, .int .u32 m0.h_.e1, .int .u32 m0.h_.e2, .int .u32 m0.h_.e3, .int .u32 m0.h_.e4, .int .u32 m0.h_.e5, .int .u32 m0.h_.e6, .int .u32 m0.h_.e7, .string m0.rest_, .int .u64 m0.n_, .bool m0.on_] 131] ++ F0) w) ?_ ?_
  · refine cw_seq ?_
    refine cw_region ?_
    refine ow_vals 6 (j := 6) [0, 1, 6, 9] [(0, .pointer (some ⟨b0, 0, none⟩)), (1, .string x1), (6, .bool false), (9, .pointer (some ⟨b0, 10, none⟩))] rfl (by kernel_rfl) ?_
    refine ow_pw rfl (pw_quiet (v := .bool m0.on_) rfl rfl rfl rfl (q_load 1 rfl rfl rfl (by kernel_rfl)) (nw_ow ?_))
    refine ow_vals 2 (j := 9) [0, 1, 12] [(0, .pointer (some ⟨b0, 0, none⟩)), (1, .string x1), (12, .bool (!m0.on_))] rfl (by kernel_rfl) ?_
    refine ow_end rfl ?_
    refine ew_then ?_
    rcases if_some hF with ⟨h22, hF⟩ | ⟨h22, hF⟩
    · refine cw_cond_t rfl rfl h22 ?_
      refine cw_ret ?_
      refine ew_then_ret ?_
      have hR := Option.some.inj hF
      subst hR
      have hR := hK21
      try dsimp only [Thru] at hR
      subst hR
      exact fin0 (H1 := [imm I, pt b0 #[.int .u32 m0.h_.e0, .int .u32 m0.h_.e1, .int .u32 m0.h_.e2, .int .u32 m0.h_.e3, .int .u32 m0.h_.e4, .int .u32 m0.h_.e5, .int .u32 m0.h_.e6, .int .u32 m0.h_.e7, .string m0.rest_, .int .u64 m0.n_, .bool m0.on_] 131]) (fun w hs => sat_to [0, 0] 0 rfl hs) rfl  ⟨rfl, rfl⟩
    refine cw_cond_f rfl rfl h22 ?_
    refine cw_skip ?_
    have hR := Option.some.inj hF
    exact fun a w hf hs => ⟨hR, hf.keep [0, 1], sat_to [0, 0] 0 rfl hs⟩
  rintro a w ⟨hv, hf, hs⟩
  subst hv
  replace hF := hK21
  clear hK21
  try dsimp only [Thru] at hF
  revert a w
  show CW _ _ _ 42 [(0, .pointer (some ⟨b0, 0, none⟩)), (1, .string x1)] (SAT w0 ([imm I, pt b0 #[.int .u32 m0.h_.e0, .int .u32 m0.h_.e1, .int .u32 m0.h_.e2, .int .u32 m0.h_.e3, .int .u32 m0.h_.e4, .int .u32 m0.h_.e5, .int .u32 m0.h_.e6, .int .u32 m0.h_.e7, .string m0.rest_, .int .u64 m0.n_, .bool m0.on_] 131] ++ F0))
  unfold F.sha_State_Write.r1 at hF
  refine cw_seq ?_
  refine cw_region ?_
  refine ow_vals 3 (j := 3) [0, 1, 13, 15] [(0, .pointer (some ⟨b0, 0, none⟩)), (1, .string x1), (13, .pointer (some ⟨b0, 0, none⟩)), (15, .pointer (some ⟨b0, 9, none⟩))] rfl (by kernel_rfl) ?_
  refine ow_pw rfl (pw_quiet (v := .int .u64 m0.n_) rfl rfl rfl rfl (q_load 1 rfl rfl rfl (by kernel_rfl)) (nw_ow ?_))
  refine ow_vals 6 (j := 10) [0, 1, 20, 22] [(0, .pointer (some ⟨b0, 0, none⟩)), (1, .string x1), (20, .int .u64 (IntKind.u64.wrap (m0.n_ + (IntKind.u64.wrap ((x1.size : Int)))))), (22, .pointer (some ⟨b0, 9, none⟩))] rfl (by kernel_rfl) ?_
  refine ow_pw rfl (pw_store 1 #[.int .u32 m0.h_.e0, .int .u32 m0.h_.e1, .int .u32 m0.h_.e2, .int .u32 m0.h_.e3, .int .u32 m0.h_.e4, .int .u32 m0.h_.e5, .int .u32 m0.h_.e6, .int .u32 m0.h_.e7, .string m0.rest_, .int .u64 (IntKind.u64.wrap (m0.n_ + (IntKind.u64.wrap ((x1.size : Int))))), .bool m0.on_] rfl rfl rfl rfl rfl rfl rfl (by kernel_rfl) (nw_H (H' := [imm I, pt b0 #[.int .u32 m0.h_.e0, .int .u32 m0.h_.e1, .int .u32 m0.h_.e2, .int .u32 m0.h_.e3, .int .u32 m0.h_.e4, .int .u32 m0.h_.e5, .int .u32 m0.h_.e6, .int .u32 m0.h_.e7, .string m0.rest_, .int .u64 (IntKind.u64.wrap (m0.n_ + (IntKind.u64.wrap ((x1.size : Int))))), .bool m0.on_] 131] ++ F0) rfl (nw_ow ?_)))
  refine ow_end rfl ?_
  refine ew_then ?_
  refine cw_seq ?_
  refine cw_region ?_
  refine ow_vals 3 (j := 3) [0, 1, 25] [(0, .pointer (some ⟨b0, 0, none⟩)), (1, .string x1), (25, .pointer (some ⟨b0, 8, none⟩))] rfl (by kernel_rfl) ?_
  refine ow_pw rfl (pw_quiet (v := .string m0.rest_) rfl rfl rfl rfl (q_load 1 rfl rfl rfl (by kernel_rfl)) (nw_ow ?_))
  refine ow_vals 1 (j := 5) [0, 26, 27] [(0, .pointer (some ⟨b0, 0, none⟩)), (26, .string m0.rest_), (27, .string x1)] rfl (by kernel_rfl) ?_
  obtain ⟨h23, hF⟩ := chk_some hF
  refine ow_pw rfl (pw_quiet (v := .string (m0.rest_ ++ x1)) rfl rfl rfl rfl (q_concat rfl rfl rfl h23) (nw_ow ?_))
  refine ow_vals 1 (j := 7) [0, 1] [(0, .pointer (some ⟨b0, 0, none⟩)), (1, .string (m0.rest_ ++ x1))] rfl (by kernel_rfl) ?_
  refine ow_end rfl ?_
  refine ew_then ?_
  obtain ⟨v24, hF, hK24⟩ := bind_some hF
  refine cw_mid (fun a w => ∃ (s43 : ByteArray), ∃ (x44 : Int), ∃ (x45 : Int), ∃ (x46 : Int), ∃ (x47 : Int), ∃ (x48 : Int), ∃ (x49 : Int), ∃ (x50 : Int), ∃ (x51 : Int), ∃ (s52 : ByteArray), ∃ (x53 : Int), ∃ (x54 : Bool), (s43, x44, x45, x46, x47, x48, x49, x50, x51, s52, x53, x54) = v24 ∧ Fr 42 [(0, .pointer (some ⟨b0, 0, none⟩)), (1, .string s43)] a ∧ SAT w0 ([imm I, pt b0 #[.int .u32 x44, .int .u32 x45, .int .u32 x46, .int .u32 x47, .int .u32 x48, .int .u32 x49, .int .u32 x50, .int .u32 x51, .string s52, .int .u64 x53, .bool x54] 131] ++ F0) w) ?_ ?_
  · refine cw_block ?_
    refine fun a w hf hs => wp_rounds (fun k a w => ∃ (s26 : ByteArray), ∃ (x27 : Int), ∃ (x28 : Int), ∃ (x29 : Int), ∃ (x30 : Int), ∃ (x31 : Int), ∃ (x32 : Int), ∃ (x33 : Int), ∃ (x34 : Int), ∃ (s35 : ByteArray), ∃ (x36 : Int), ∃ (x37 : Bool), iter (fun x => F.sha_State_Write.l2 x.1 x.2.1 x.2.2.1 x.2.2.2.1 x.2.2.2.2.1 x.2.2.2.2.2.1 x.2.2.2.2.2.2.1 x.2.2.2.2.2.2.2.1 x.2.2.2.2.2.2.2.2.1 x.2.2.2.2.2.2.2.2.2.1 x.2.2.2.2.2.2.2.2.2.2.1 x.2.2.2.2.2.2.2.2.2.2.2) k (s26, x27, x28, x29, x30, x31, x32, x33, x34, s35, x36, x37) = some v24 ∧ Fr 42 [(0, .pointer (some ⟨b0, 0, none⟩)), (1, .string s26)] a ∧ SAT w0 ([imm I, pt b0 #[.int .u32 x27, .int .u32 x28, .int .u32 x29, .int .u32 x30, .int .u32 x31, .int .u32 x32, .int .u32 x33, .int .u32 x34, .string s35, .int .u64 x36, .bool x37] 131] ++ F0) w) ?_ FUEL a w ⟨m0.rest_ ++ x1, m0.h_.e0, m0.h_.e1, m0.h_.e2, m0.h_.e3, m0.h_.e4, m0.h_.e5, m0.h_.e6, m0.h_.e7, m0.rest_, IntKind.u64.wrap (m0.n_ + (IntKind.u64.wrap ((x1.size : Int)))), m0.on_, hF, hf.keep [0, 1], sat_to [0, 0] 0 rfl hs⟩
    clear hf hs
    clear a w hF
    rintro k a w ⟨s26, x27, x28, x29, x30, x31, x32, x33, x34, s35, x36, x37, hF2, hf, hs⟩
    obtain ⟨k, r25, rfl, hF, hL25⟩ := iter_some hF2
    clear hF2
    revert a w
    show CW _ _ _ 42 [(0, .pointer (some ⟨b0, 0, none⟩)), (1, .string s26)] (SAT w0 ([imm I, pt b0 #[.int .u32 x27, .int .u32 x28, .int .u32 x29, .int .u32 x30, .int .u32 x31, .int .u32 x32, .int .u32 x33, .int .u32 x34, .string s35, .int .u64 x36, .bool x37] 131] ++ F0))
    try dsimp only at hF
    unfold F.sha_State_Write.l2 at hF
    refine cw_seq ?_
    refine cw_seq ?_
    refine cw_region ?_
    refine ow_vals 3 (j := 3) [0, 1, 31] [(0, .pointer (some ⟨b0, 0, none⟩)), (1, .string s26), (31, .bool (decide ((s26.size : Int) ≥ 64)))] rfl (by kernel_rfl) ?_
    refine ow_end rfl ?_
    refine ew_then ?_
    rcases if_some hF with ⟨h38, hF⟩ | ⟨h38, hF⟩
    · refine cw_cond_t rfl rfl h38 ?_
      refine cw_skip ?_
      refine ew_then ?_
      refine cw_block ?_
      refine cw_seq ?_
      refine cw_region ?_
      refine ow_vals 2 (j := 2) [0, 1, 32, 33] [(0, .pointer (some ⟨b0, 0, none⟩)), (1, .string s26), (32, .pointer (some ⟨b0, 0, none⟩)), (33, .string s26)] rfl (by kernel_rfl) ?_
      obtain ⟨h39, hF⟩ := chk_some hF
      refine ow_pw rfl (pw_quiet (v := .string (s26.extract (0 : Int).toNat (64 : Int).toNat)) rfl rfl rfl rfl (q_slice_str rfl (by kernel_rfl) rfl rfl rfl h39.1 h39.2.1 h39.2.2) (nw_ow ?_))
      obtain ⟨r40, h41, hF⟩ := bind_some hF
      refine ow_pw rfl (pw_call (F := [] ++ F0) rfl rfl rfl rfl rfl rfl rfl (by kernel_rfl) (perm_of_pulls [0, 0] rfl) (c_sha_State_mix _ (s26.extract (0 : Int).toNat (64 : Int).toNat) (⟨(⟨x27, x28, x29, x30, x31, x32, x33, x34⟩ : A8_Intu32), s35, x36, x37⟩ : sha_State) b0 r40 h41) ?_)
      rintro _ _ ⟨rfl, rfl⟩
      refine nw_H (H' := [imm I, pt b0 #[.int .u32 r40.h_.e0, .int .u32 r40.h_.e1, .int .u32 r40.h_.e2, .int .u32 r40.h_.e3, .int .u32 r40.h_.e4, .int .u32 r40.h_.e5, .int .u32 r40.h_.e6, .int .u32 r40.h_.e7, .string r40.rest_, .int .u64 r40.n_, .bool r40.on_] 131] ++ F0) rfl (nw_ow ?_)
      refine ow_end rfl ?_
      refine ew_then ?_
      refine cw_region ?_
      refine ow_vals 1 (j := 1) [0, 36] [(0, .pointer (some ⟨b0, 0, none⟩)), (36, .string s26)] rfl (by kernel_rfl) ?_
      obtain ⟨h42, hF⟩ := chk_some hF
      refine ow_pw rfl (pw_quiet (v := .string (s26.extract (64 : Int).toNat (s26.size : Int).toNat)) rfl rfl rfl rfl (q_slice_str rfl (by kernel_rfl) rfl rfl rfl h42.1 h42.2.1 h42.2.2) (nw_ow ?_))
      refine ow_vals 1 (j := 3) [0, 1] [(0, .pointer (some ⟨b0, 0, none⟩)), (1, .string (s26.extract (64 : Int).toNat (s26.size : Int).toNat))] rfl (by kernel_rfl) ?_
      refine ow_end rfl ?_
      refine ew_blk ?_
      have hR := Option.some.inj hF
      subst hR
      have hR := hL25
      try dsimp only at hR
      exact fun a w hf hs => ⟨k, Nat.lt_succ_self k, s26.extract (64 : Int).toNat (s26.size : Int).toNat, r40.h_.e0, r40.h_.e1, r40.h_.e2, r40.h_.e3, r40.h_.e4, r40.h_.e5, r40.h_.e6, r40.h_.e7, r40.rest_, r40.n_, r40.on_, hR, hf.keep [0, 1], sat_to [0, 0] 0 rfl hs⟩
    refine cw_cond_f rfl rfl h38 ?_
    refine cw_exit ?_
    refine ew_then_exit ?_
    refine ew_then_exit ?_
    refine ew_blk_exit ?_
    have hR := Option.some.inj hF
    subst hR
    have hR := hL25
    try dsimp only at hR
    exact fun a w hf hs => ⟨s26, x27, x28, x29, x30, x31, x32, x33, x34, s35, x36, x37, hR, hf.keep [0, 1], sat_to [0, 0] 0 rfl hs⟩
  rintro a w ⟨s43, x44, x45, x46, x47, x48, x49, x50, x51, s52, x53, x54, hv, hf, hs⟩
  subst hv
  replace hF := hK24
  clear hK24
  try dsimp only at hF
  revert a w
  show CW _ _ _ 42 [(0, .pointer (some ⟨b0, 0, none⟩)), (1, .string s43)] (SAT w0 ([imm I, pt b0 #[.int .u32 x44, .int .u32 x45, .int .u32 x46, .int .u32 x47, .int .u32 x48, .int .u32 x49, .int .u32 x50, .int .u32 x51, .string s52, .int .u64 x53, .bool x54] 131] ++ F0))
  unfold F.sha_State_Write.r3 at hF
  refine cw_region ?_
  refine ow_vals 4 (j := 4) [39, 41] [(39, .string s43), (41, .pointer (some ⟨b0, 8, none⟩))] rfl (by kernel_rfl) ?_
  refine ow_pw rfl (pw_store 1 #[.int .u32 x44, .int .u32 x45, .int .u32 x46, .int .u32 x47, .int .u32 x48, .int .u32 x49, .int .u32 x50, .int .u32 x51, .string s43, .int .u64 x53, .bool x54] rfl rfl rfl rfl rfl rfl rfl (by kernel_rfl) (nw_H (H' := [imm I, pt b0 #[.int .u32 x44, .int .u32 x45, .int .u32 x46, .int .u32 x47, .int .u32 x48, .int .u32 x49, .int .u32 x50, .int .u32 x51, .string s43, .int .u64 x53, .bool x54] 131] ++ F0) rfl (nw_ow ?_)))
  refine ow_end rfl ?_
  have hR := Option.some.inj hF
  subst hR
  exact fin0n (H1 := [imm I, pt b0 #[.int .u32 (((⟨(⟨x44, x45, x46, x47, x48, x49, x50, x51⟩ : A8_Intu32), s43, x53, x54⟩ : sha_State).h_).e0), .int .u32 (((⟨(⟨x44, x45, x46, x47, x48, x49, x50, x51⟩ : A8_Intu32), s43, x53, x54⟩ : sha_State).h_).e1), .int .u32 (((⟨(⟨x44, x45, x46, x47, x48, x49, x50, x51⟩ : A8_Intu32), s43, x53, x54⟩ : sha_State).h_).e2), .int .u32 (((⟨(⟨x44, x45, x46, x47, x48, x49, x50, x51⟩ : A8_Intu32), s43, x53, x54⟩ : sha_State).h_).e3), .int .u32 (((⟨(⟨x44, x45, x46, x47, x48, x49, x50, x51⟩ : A8_Intu32), s43, x53, x54⟩ : sha_State).h_).e4), .int .u32 (((⟨(⟨x44, x45, x46, x47, x48, x49, x50, x51⟩ : A8_Intu32), s43, x53, x54⟩ : sha_State).h_).e5), .int .u32 (((⟨(⟨x44, x45, x46, x47, x48, x49, x50, x51⟩ : A8_Intu32), s43, x53, x54⟩ : sha_State).h_).e6), .int .u32 (((⟨(⟨x44, x45, x46, x47, x48, x49, x50, x51⟩ : A8_Intu32), s43, x53, x54⟩ : sha_State).h_).e7), .string ((⟨(⟨x44, x45, x46, x47, x48, x49, x50, x51⟩ : A8_Intu32), s43, x53, x54⟩ : sha_State).rest_), .int .u64 ((⟨(⟨x44, x45, x46, x47, x48, x49, x50, x51⟩ : A8_Intu32), s43, x53, x54⟩ : sha_State).n_), .bool ((⟨(⟨x44, x45, x46, x47, x48, x49, x50, x51⟩ : A8_Intu32), s43, x53, x54⟩ : sha_State).on_)] 131]) (fun w hs => sat_to [0, 0] 0 rfl hs) rfl  ⟨rfl, rfl⟩


def F.sha_State_Sum.l2 (m0 : sha_State) (l29 : List Int) : Option (((List Int)) ⊕ ((List Int))) :=
  if ((IntKind.i64.wrap ((m0.rest_.size : Int) + (l29.length : Int))).tmod 64) != 56 then (chk (room (l29.length + ([0] : List Int).length) 1) (some (.inl (l29 ++ ([0] : List Int))))) else (some (.inr (l29)))
def F.sha_State_Sum.l4 (m0 : sha_State) (l45 : List Int) (x49 : Int) : Option (((List Int) × Int) ⊕ ((List Int))) :=
  if decide (x49 < 8) then (chk (0 ≤ (IntKind.i64.wrap (56 - (IntKind.i64.wrap (8 * x49))))) (chk (room (l45.length + ([IntKind.u8.wrap ((IntKind.u64.wrap (m0.n_ * 8)).fdiv ((2 : Int) ^ (min (IntKind.i64.wrap (56 - (IntKind.i64.wrap (8 * x49)))).toNat 64)))] : List Int).length) 1) (some (.inl (l45 ++ ([IntKind.u8.wrap ((IntKind.u64.wrap (m0.n_ * 8)).fdiv ((2 : Int) ^ (min (IntKind.i64.wrap (56 - (IntKind.i64.wrap (8 * x49)))).toNat 64)))] : List Int), IntKind.i64.wrap (x49 + 1)))))) else (some (.inr (l45)))
def F.sha_State_Sum.l6 (r61 : sha_State) (l65 : List Int) (x69 : Int) : Option (((List Int) × Int) ⊕ ((List Int))) :=
  if decide (x69 < 8) then (Option.bind (at_ ([r61.h_.e0, r61.h_.e1, r61.h_.e2, r61.h_.e3, r61.h_.e4, r61.h_.e5, r61.h_.e6, r61.h_.e7] : List Int) x69) (fun (y71 : Int) => chk (room (l65.length + ([IntKind.u8.wrap (y71.fdiv (2 ^ 24)), IntKind.u8.wrap (y71.fdiv (2 ^ 16)), IntKind.u8.wrap (y71.fdiv (2 ^ 8)), IntKind.u8.wrap (y71)] : List Int).length) 1) (some (.inl (l65 ++ ([IntKind.u8.wrap (y71.fdiv (2 ^ 24)), IntKind.u8.wrap (y71.fdiv (2 ^ 16)), IntKind.u8.wrap (y71.fdiv (2 ^ 8)), IntKind.u8.wrap (y71)] : List Int), IntKind.i64.wrap (x69 + 1)))))) else (some (.inr (l65)))
def F.sha_State_Sum.r7 (l78 : List Int) : Option (ByteArray) :=
  some ((bstr l78))
def F.sha_State_Sum.r5 (m0 : sha_State) (l57 : List Int) : Option (ByteArray) :=
  Option.bind (F.sha_State_Write (bstr l57) m0) (fun (r61 : sha_State) => Option.bind (iter (fun x => F.sha_State_Sum.l6 r61 x.1 x.2) FUEL ([], 0)) (fun x => F.sha_State_Sum.r7 x))
def F.sha_State_Sum.r3 (m0 : sha_State) (l39 : List Int) : Option (ByteArray) :=
  Option.bind (iter (fun x => F.sha_State_Sum.l4 m0 x.1 x.2) FUEL (l39, 0)) (fun x => F.sha_State_Sum.r5 m0 x)
def F.sha_State_Sum.r1 (m0 : sha_State) : Option (ByteArray) :=
  Option.bind (iter (fun x => F.sha_State_Sum.l2 m0 x) FUEL ([128] : List Int)) (fun x => F.sha_State_Sum.r3 m0 x)
def F.sha_State_Sum (m0 : sha_State) : Option ByteArray :=
  thru (if !m0.on_ then (some (.inr ((ByteArray.mk #[])))) else (some (.inl ()))) (fun x => F.sha_State_Sum.r1 m0)
set_option maxRecDepth 100000 in
set_option maxHeartbeats 4000000 in
theorem c_sha_State_Sum (I : Hl) (m0 : sha_State) (b0 : Nat) (res : ByteArray) (hF : F.sha_State_Sum m0 = some res) : Tr Try.prog 88 [.pointer (some ⟨b0, 0, none⟩)] [imm I, pt b0 #[.int .u32 m0.h_.e0, .int .u32 m0.h_.e1, .int .u32 m0.h_.e2, .int .u32 m0.h_.e3, .int .u32 m0.h_.e4, .int .u32 m0.h_.e5, .int .u32 m0.h_.e6, .int .u32 m0.h_.e7, .string m0.rest_, .int .u64 m0.n_, .bool m0.on_] 131] (fun r H' => r = .string res ∧ H' = [imm I, pt b0 #[.int .u32 m0.h_.e0, .int .u32 m0.h_.e1, .int .u32 m0.h_.e2, .int .u32 m0.h_.e3, .int .u32 m0.h_.e4, .int .u32 m0.h_.e5, .int .u32 m0.h_.e6, .int .u32 m0.h_.e7, .string m0.rest_, .int .u64 m0.n_, .bool m0.on_] 131]) := by
  unfold F.sha_State_Sum at hF
  refine tr_of_cw (fn := Try.f88) Try.func88 rfl (Nat.le_of_ble_eq_true rfl) 75 rfl fun F0 w0 => ?_
  refine cw_keep [0] (L' := [(0, .pointer (some ⟨b0, 0, none⟩))]) rfl ?_
  refine cw_state (S' := SAT w0 ([imm I, pt b0 #[.int .u32 m0.h_.e0, .int .u32 m0.h_.e1, .int .u32 m0.h_.e2, .int .u32 m0.h_.e3, .int .u32 m0.h_.e4, .int .u32 m0.h_.e5, .int .u32 m0.h_.e6, .int .u32 m0.h_.e7, .string m0.rest_, .int .u64 m0.n_, .bool m0.on_] 131] ++ F0)) (fun w hs => hs) ?_
  refine cw_seq ?_
  refine cw_region ?_
  refine ow_vals 1 (j := 1) [0] [(0, .pointer (some ⟨b0, 0, none⟩))] rfl (by kernel_rfl) ?_
  refine ow_end rfl ?_
  refine ew_then ?_
  obtain ⟨v21, hF, hK21⟩ := thru_some hF
  refine cw_mid (fun a w => .inl () = v21 ∧ Fr 75 [(0, .pointer (some ⟨b0, 0, none⟩))] a ∧ SAT w0 ([imm I, pt b0 #[.int .u32 m0.h_.e0, .int .u32 m0.h_.e1, .int .u32 m0.h_.e2, .int .u32 m0.h_.e3, .int .u32 m0.h_.e4, .int .u32 m0.h_.e5, .int .u32 m0.h_.e6, .int .u32 m0.h_.e7, .string m0.rest_, .int .u64 m0.n_, .bool m0.on_] 131] ++ F0) w) ?_ ?_
  · refine cw_seq ?_
    refine cw_region ?_
    refine ow_vals 6 (j := 6) [0, 11, 14] [(0, .pointer (some ⟨b0, 0, none⟩)), (11, .bool false), (14, .pointer (some ⟨b0, 10, none⟩))] rfl (by kernel_rfl) ?_
    refine ow_pw rfl (pw_quiet (v := .bool m0.on_) rfl rfl rfl rfl (q_load 1 rfl rfl rfl (by kernel_rfl)) (nw_ow ?_))
    refine ow_vals 2 (j := 9) [0, 17] [(0, .pointer (some ⟨b0, 0, none⟩)), (17, .bool (!m0.on_))] rfl (by kernel_rfl) ?_
    refine ow_end rfl ?_
    refine ew_then ?_
    rcases if_some hF with ⟨h22, hF⟩ | ⟨h22, hF⟩
    · refine cw_cond_t rfl rfl h22 ?_
      refine cw_seq ?_
      refine cw_region ?_
      refine ow_vals 1 (j := 1) [2] [(2, .string (ByteArray.mk #[]))] rfl (by kernel_rfl) ?_
      refine ow_end rfl ?_
      refine ew_then ?_
      refine cw_ret ?_
      refine ew_then_ret ?_
      have hR := Option.some.inj hF
      subst hR
      have hR := hK21
      try dsimp only [Thru] at hR
      subst hR
      exact fin1 (H1 := [imm I, pt b0 #[.int .u32 m0.h_.e0, .int .u32 m0.h_.e1, .int .u32 m0.h_.e2, .int .u32 m0.h_.e3, .int .u32 m0.h_.e4, .int .u32 m0.h_.e5, .int .u32 m0.h_.e6, .int .u32 m0.h_.e7, .string m0.rest_, .int .u64 m0.n_, .bool m0.on_] 131]) (fun w hs => sat_to [0, 0] 0 rfl hs) rfl (rr_tmp rfl) ⟨rfl, rfl⟩
    refine cw_cond_f rfl rfl h22 ?_
    refine cw_skip ?_
    have hR := Option.some.inj hF
    exact fun a w hf hs => ⟨hR, hf.keep [0], sat_to [0, 0] 0 rfl hs⟩
  rintro a w ⟨hv, hf, hs⟩
  subst hv
  replace hF := hK21
  clear hK21
  try dsimp only [Thru] at hF
  revert a w
  show CW _ _ _ 75 [(0, .pointer (some ⟨b0, 0, none⟩))] (SAT w0 ([imm I, pt b0 #[.int .u32 m0.h_.e0, .int .u32 m0.h_.e1, .int .u32 m0.h_.e2, .int .u32 m0.h_.e3, .int .u32 m0.h_.e4, .int .u32 m0.h_.e5, .int .u32 m0.h_.e6, .int .u32 m0.h_.e7, .string m0.rest_, .int .u64 m0.n_, .bool m0.on_] 131] ++ F0))
  unfold F.sha_State_Sum.r1 at hF
  refine cw_seq ?_
  refine cw_region ?_
  refine ow_vals 2 (j := 2) [0, 19] [(0, .pointer (some ⟨b0, 0, none⟩)), (19, .pointer (some ⟨b0, 0, none⟩))] rfl (by kernel_rfl) ?_
  refine ow_pw rfl (pw_quiet (v := .agg #[.int .u32 m0.h_.e0, .int .u32 m0.h_.e1, .int .u32 m0.h_.e2, .int .u32 m0.h_.e3, .int .u32 m0.h_.e4, .int .u32 m0.h_.e5, .int .u32 m0.h_.e6, .int .u32 m0.h_.e7, .string m0.rest_, .int .u64 m0.n_, .bool m0.on_]) rfl rfl rfl rfl (q_load 1 rfl rfl rfl (by kernel_rfl)) (nw_ow ?_))
  refine ow_pw rfl (pw_alloc (cs := #[.int .u32 0, .int .u32 0, .int .u32 0, .int .u32 0, .int .u32 0, .int .u32 0, .int .u32 0, .int .u32 0, .string (ByteArray.mk #[]), .int .u64 0, .bool false]) rfl rfl rfl rfl rfl (by kernel_rfl) fun b23 => nw_ow ?_)
  refine ow_pw rfl (pw_store 0 #[.int .u32 m0.h_.e0, .int .u32 m0.h_.e1, .int .u32 m0.h_.e2, .int .u32 m0.h_.e3, .int .u32 m0.h_.e4, .int .u32 m0.h_.e5, .int .u32 m0.h_.e6, .int .u32 m0.h_.e7, .string m0.rest_, .int .u64 m0.n_, .bool m0.on_] rfl rfl rfl rfl rfl rfl rfl (by kernel_rfl) (nw_H (H' := [pt b23 #[.int .u32 m0.h_.e0, .int .u32 m0.h_.e1, .int .u32 m0.h_.e2, .int .u32 m0.h_.e3, .int .u32 m0.h_.e4, .int .u32 m0.h_.e5, .int .u32 m0.h_.e6, .int .u32 m0.h_.e7, .string m0.rest_, .int .u64 m0.n_, .bool m0.on_] 131, imm I, pt b0 #[.int .u32 m0.h_.e0, .int .u32 m0.h_.e1, .int .u32 m0.h_.e2, .int .u32 m0.h_.e3, .int .u32 m0.h_.e4, .int .u32 m0.h_.e5, .int .u32 m0.h_.e6, .int .u32 m0.h_.e7, .string m0.rest_, .int .u64 m0.n_, .bool m0.on_] 131] ++ F0) rfl (nw_ow ?_)))
  refine ow_end rfl ?_
  refine ew_then ?_
  refine cw_seq ?_
  refine cw_region ?_
  refine ow_pw rfl (pw_buildSlice (E := 5) (eInt .u8) ([128] : List Int) rfl rfl rfl rfl rfl (by kernel_rfl) rfl (by kernel_rfl) rfl (by decide) rfl fun p25 => nw_ow ?_)
  refine ow_vals 1 (j := 2) [0, 3, 4] [(0, .pointer (some ⟨b0, 0, none⟩)), (3, .pointer (some ⟨b23, 0, none⟩)), (4, .slice p25 ([128] : List Int).length 1)] rfl (by kernel_rfl) ?_
  refine ow_end rfl ?_
  refine ew_then ?_
  obtain ⟨v27, hF, hK27⟩ := bind_some hF
  refine cw_mid (fun a w => ∃ (l39 : List Int), ∃ (p40 : Option Addr), ∃ (c41 : Nat), l39 = v27 ∧ Fr 75 [(0, .pointer (some ⟨b0, 0, none⟩)), (3, .pointer (some ⟨b23, 0, none⟩)), (4, .slice p40 l39.length c41)] a ∧ SAT w0 ([imm I, pt b23 #[.int .u32 m0.h_.e0, .int .u32 m0.h_.e1, .int .u32 m0.h_.e2, .int .u32 m0.h_.e3, .int .u32 m0.h_.e4, .int .u32 m0.h_.e5, .int .u32 m0.h_.e6, .int .u32 m0.h_.e7, .string m0.rest_, .int .u64 m0.n_, .bool m0.on_] 131, pt b0 #[.int .u32 m0.h_.e0, .int .u32 m0.h_.e1, .int .u32 m0.h_.e2, .int .u32 m0.h_.e3, .int .u32 m0.h_.e4, .int .u32 m0.h_.e5, .int .u32 m0.h_.e6, .int .u32 m0.h_.e7, .string m0.rest_, .int .u64 m0.n_, .bool m0.on_] 131, own (eInt .u8) 5 p40 c41 l39] ++ F0) w) ?_ ?_
  · refine cw_block ?_
    refine fun a w hf hs => wp_rounds (fun k a w => ∃ (l29 : List Int), ∃ (p30 : Option Addr), ∃ (c31 : Nat), iter (fun x => F.sha_State_Sum.l2 m0 x) k l29 = some v27 ∧ Fr 75 [(0, .pointer (some ⟨b0, 0, none⟩)), (3, .pointer (some ⟨b23, 0, none⟩)), (4, .slice p30 l29.length c31)] a ∧ SAT w0 ([imm I, pt b23 #[.int .u32 m0.h_.e0, .int .u32 m0.h_.e1, .int .u32 m0.h_.e2, .int .u32 m0.h_.e3, .int .u32 m0.h_.e4, .int .u32 m0.h_.e5, .int .u32 m0.h_.e6, .int .u32 m0.h_.e7, .string m0.rest_, .int .u64 m0.n_, .bool m0.on_] 131, pt b0 #[.int .u32 m0.h_.e0, .int .u32 m0.h_.e1, .int .u32 m0.h_.e2, .int .u32 m0.h_.e3, .int .u32 m0.h_.e4, .int .u32 m0.h_.e5, .int .u32 m0.h_.e6, .int .u32 m0.h_.e7, .string m0.rest_, .int .u64 m0.n_, .bool m0.on_] 131, own (eInt .u8) 5 p30 c31 l29] ++ F0) w) ?_ FUEL a w ⟨([128] : List Int), p25, 1, hF, hf.keep [0, 3, 4], sat_to [2, 1, 1, 0] 0 rfl hs⟩
    clear hf hs
    clear a w hF
    rintro k a w ⟨l29, p30, c31, hF2, hf, hs⟩
    obtain ⟨k, r28, rfl, hF, hL28⟩ := iter_some hF2
    clear hF2
    revert a w
    show CW _ _ _ 75 [(0, .pointer (some ⟨b0, 0, none⟩)), (3, .pointer (some ⟨b23, 0, none⟩)), (4, .slice p30 l29.length c31)] (SAT w0 ([imm I, pt b23 #[.int .u32 m0.h_.e0, .int .u32 m0.h_.e1, .int .u32 m0.h_.e2, .int .u32 m0.h_.e3, .int .u32 m0.h_.e4, .int .u32 m0.h_.e5, .int .u32 m0.h_.e6, .int .u32 m0.h_.e7, .string m0.rest_, .int .u64 m0.n_, .bool m0.on_] 131, pt b0 #[.int .u32 m0.h_.e0, .int .u32 m0.h_.e1, .int .u32 m0.h_.e2, .int .u32 m0.h_.e3, .int .u32 m0.h_.e4, .int .u32 m0.h_.e5, .int .u32 m0.h_.e6, .int .u32 m0.h_.e7, .string m0.rest_, .int .u64 m0.n_, .bool m0.on_] 131, own (eInt .u8) 5 p30 c31 l29] ++ F0))
    try dsimp only at hF
    unfold F.sha_State_Sum.l2 at hF
    refine cw_seq ?_
    refine cw_seq ?_
    refine cw_region ?_
    refine ow_vals 1 (j := 1) [0, 3, 4, 22] [(0, .pointer (some ⟨b0, 0, none⟩)), (3, .pointer (some ⟨b23, 0, none⟩)), (4, .slice p30 l29.length c31), (22, .pointer (some ⟨b23, 8, none⟩))] rfl (by kernel_rfl) ?_
    refine ow_pw rfl (pw_quiet (v := .string m0.rest_) rfl rfl rfl rfl (q_load 1 rfl rfl rfl (by kernel_rfl)) (nw_ow ?_))
    refine ow_vals 6 (j := 8) [0, 3, 4, 29] [(0, .pointer (some ⟨b0, 0, none⟩)), (3, .pointer (some ⟨b23, 0, none⟩)), (4, .slice p30 l29.length c31), (29, .bool (((IntKind.i64.wrap ((m0.rest_.size : Int) + (l29.length : Int))).tmod 64) != 56))] rfl (by kernel_rfl) ?_
    refine ow_end rfl ?_
    refine ew_then ?_
    rcases if_some hF with ⟨h33, hF⟩ | ⟨h33, hF⟩
    · refine cw_cond_t rfl rfl h33 ?_
      refine cw_skip ?_
      refine ew_then ?_
      refine cw_block ?_
      refine cw_region ?_
      refine ow_vals 1 (j := 1) [0, 3, 30] [(0, .pointer (some ⟨b0, 0, none⟩)), (3, .pointer (some ⟨b23, 0, none⟩)), (30, .slice p30 l29.length c31)] rfl (by kernel_rfl) ?_
      refine ow_pw rfl (pw_buildSlice (E := 5) (eInt .u8) ([0] : List Int) rfl rfl rfl rfl rfl (by kernel_rfl) rfl (by kernel_rfl) rfl (by decide) rfl fun p34 => nw_ow ?_)
      obtain ⟨h36, hF⟩ := chk_some hF
      refine ow_pw rfl (pw_append 4 (l' := ([0] : List Int)) rfl rfl rfl rfl rfl rfl (by kernel_rfl) (by kernel_rfl) rfl rfl rfl (src_own (E' := 5) 0 rfl (by kernel_rfl) rfl) rfl h36.1 h36.2 fun p37 c38 => nw_H (H' := [own (eInt .u8) 5 p34 1 ([0] : List Int), imm I, pt b23 #[.int .u32 m0.h_.e0, .int .u32 m0.h_.e1, .int .u32 m0.h_.e2, .int .u32 m0.h_.e3, .int .u32 m0.h_.e4, .int .u32 m0.h_.e5, .int .u32 m0.h_.e6, .int .u32 m0.h_.e7, .string m0.rest_, .int .u64 m0.n_, .bool m0.on_] 131, pt b0 #[.int .u32 m0.h_.e0, .int .u32 m0.h_.e1, .int .u32 m0.h_.e2, .int .u32 m0.h_.e3, .int .u32 m0.h_.e4, .int .u32 m0.h_.e5, .int .u32 m0.h_.e6, .int .u32 m0.h_.e7, .string m0.rest_, .int .u64 m0.n_, .bool m0.on_] 131, own (eInt .u8) 5 p37 c38 (l29 ++ ([0] : List Int))] ++ F0) rfl (nw_ow ?_))
      refine ow_vals 1 (j := 4) [0, 3, 4] [(0, .pointer (some ⟨b0, 0, none⟩)), (3, .pointer (some ⟨b23, 0, none⟩)), (4, .slice p37 (l29 ++ ([0] : List Int)).length c38)] rfl (by kernel_rfl) ?_
      refine ow_end rfl ?_
      refine ew_blk ?_
      have hR := Option.some.inj hF
      subst hR
      have hR := hL28
      try dsimp only at hR
      exact fun a w hf hs => ⟨k, Nat.lt_succ_self k, l29 ++ ([0] : List Int), p37, c38, hR, hf.keep [0, 3, 4], sat_to [0, 0, 0, 0, 0] 1 rfl hs⟩
    refine cw_cond_f rfl rfl h33 ?_
    refine cw_exit ?_
    refine ew_then_exit ?_
    refine ew_then_exit ?_
    refine ew_blk_exit ?_
    have hR := Option.some.inj hF
    subst hR
    have hR := hL28
    try dsimp only at hR
    exact fun a w hf hs => ⟨l29, p30, c31, hR, hf.keep [0, 3, 4], sat_to [0, 0, 0, 0] 0 rfl hs⟩
  rintro a w ⟨l39, p40, c41, hv, hf, hs⟩
  subst hv
  replace hF := hK27
  clear hK27
  try dsimp only at hF
  revert a w
  show CW _ _ _ 75 [(0, .pointer (some ⟨b0, 0, none⟩)), (3, .pointer (some ⟨b23, 0, none⟩)), (4, .slice p40 l39.length c41)] (SAT w0 ([imm I, pt b23 #[.int .u32 m0.h_.e0, .int .u32 m0.h_.e1, .int .u32 m0.h_.e2, .int .u32 m0.h_.e3, .int .u32 m0.h_.e4, .int .u32 m0.h_.e5, .int .u32 m0.h_.e6, .int .u32 m0.h_.e7, .string m0.rest_, .int .u64 m0.n_, .bool m0.on_] 131, pt b0 #[.int .u32 m0.h_.e0, .int .u32 m0.h_.e1, .int .u32 m0.h_.e2, .int .u32 m0.h_.e3, .int .u32 m0.h_.e4, .int .u32 m0.h_.e5, .int .u32 m0.h_.e6, .int .u32 m0.h_.e7, .string m0.rest_, .int .u64 m0.n_, .bool m0.on_] 131, own (eInt .u8) 5 p40 c41 l39] ++ F0))
  unfold F.sha_State_Sum.r3 at hF
  obtain ⟨v43, hF, hK43⟩ := bind_some hF
  refine cw_mid (fun a w => ∃ (l57 : List Int), ∃ (p58 : Option Addr), ∃ (c59 : Nat), l57 = v43 ∧ Fr 75 [(3, .pointer (some ⟨b23, 0, none⟩)), (4, .slice p58 l57.length c59)] a ∧ SAT w0 ([imm I, pt b23 #[.int .u32 m0.h_.e0, .int .u32 m0.h_.e1, .int .u32 m0.h_.e2, .int .u32 m0.h_.e3, .int .u32 m0.h_.e4, .int .u32 m0.h_.e5, .int .u32 m0.h_.e6, .int .u32 m0.h_.e7, .string m0.rest_, .int .u64 m0.n_, .bool m0.on_] 131, pt b0 #[.int .u32 m0.h_.e0, .int .u32 m0.h_.e1, .int .u32 m0.h_.e2, .int .u32 m0.h_.e3, .int .u32 m0.h_.e4, .int .u32 m0.h_.e5, .int .u32 m0.h_.e6, .int .u32 m0.h_.e7, .string m0.rest_, .int .u64 m0.n_, .bool m0.on_] 131, own (eInt .u8) 5 p58 c59 l57] ++ F0) w) ?_ ?_
  · refine cw_seq ?_
    refine cw_region ?_
    refine ow_vals 1 (j := 1) [0, 3, 4, 33] [(0, .pointer (some ⟨b0, 0, none⟩)), (3, .pointer (some ⟨b23, 0, none⟩)), (4, .slice p40 l39.length c41), (33, .int .i64 0)] rfl (by kernel_rfl) ?_
    refine ow_end rfl ?_
    refine ew_then ?_
    refine cw_block ?_
    refine fun a w hf hs => wp_rounds (fun k a w => ∃ (l45 : List Int), ∃ (x49 : Int), ∃ (p46 : Option Addr), ∃ (c47 : Nat), iter (fun x => F.sha_State_Sum.l4 m0 x.1 x.2) k (l45, x49) = some v43 ∧ Fr 75 [(0, .pointer (some ⟨b0, 0, none⟩)), (3, .pointer (some ⟨b23, 0, none⟩)), (4, .slice p46 l45.length c47), (33, .int .i64 x49)] a ∧ SAT w0 ([imm I, pt b23 #[.int .u32 m0.h_.e0, .int .u32 m0.h_.e1, .int .u32 m0.h_.e2, .int .u32 m0.h_.e3, .int .u32 m0.h_.e4, .int .u32 m0.h_.e5, .int .u32 m0.h_.e6, .int .u32 m0.h_.e7, .string m0.rest_, .int .u64 m0.n_, .bool m0.on_] 131, pt b0 #[.int .u32 m0.h_.e0, .int .u32 m0.h_.e1, .int .u32 m0.h_.e2, .int .u32 m0.h_.e3, .int .u32 m0.h_.e4, .int .u32 m0.h_.e5, .int .u32 m0.h_.e6, .int .u32 m0.h_.e7, .string m0.rest_, .int .u64 m0.n_, .bool m0.on_] 131, own (eInt .u8) 5 p46 c47 l45] ++ F0) w) ?_ FUEL a w ⟨l39, 0, p40, c41, hF, hf.keep [0, 3, 4, 33], sat_to [0, 0, 0, 0] 0 rfl hs⟩
    clear hf hs
    clear a w hF
    rintro k a w ⟨l45, x49, p46, c47, hF2, hf, hs⟩
    obtain ⟨k, r44, rfl, hF, hL44⟩ := iter_some hF2
    clear hF2
    revert a w
    show CW _ _ _ 75 [(0, .pointer (some ⟨b0, 0, none⟩)), (3, .pointer (some ⟨b23, 0, none⟩)), (4, .slice p46 l45.length c47), (33, .int .i64 x49)] (SAT w0 ([imm I, pt b23 #[.int .u32 m0.h_.e0, .int .u32 m0.h_.e1, .int .u32 m0.h_.e2, .int .u32 m0.h_.e3, .int .u32 m0.h_.e4, .int .u32 m0.h_.e5, .int .u32 m0.h_.e6, .int .u32 m0.h_.e7, .string m0.rest_, .int .u64 m0.n_, .bool m0.on_] 131, pt b0 #[.int .u32 m0.h_.e0, .int .u32 m0.h_.e1, .int .u32 m0.h_.e2, .int .u32 m0.h_.e3, .int .u32 m0.h_.e4, .int .u32 m0.h_.e5, .int .u32 m0.h_.e6, .int .u32 m0.h_.e7, .string m0.rest_, .int .u64 m0.n_, .bool m0.on_] 131, own (eInt .u8) 5 p46 c47 l45] ++ F0))
    try dsimp only at hF
    unfold F.sha_State_Sum.l4 at hF
    refine cw_seq ?_
    refine cw_region ?_
    refine ow_vals 1 (j := 1) [0, 3, 4, 33, 34] [(0, .pointer (some ⟨b0, 0, none⟩)), (3, .pointer (some ⟨b23, 0, none⟩)), (4, .slice p46 l45.length c47), (33, .int .i64 x49), (34, .bool (decide (x49 < 8)))] rfl (by kernel_rfl) ?_
    refine ow_end rfl ?_
    refine ew_then ?_
    refine cw_seq ?_
    rcases if_some hF with ⟨h50, hF⟩ | ⟨h50, hF⟩
    · refine cw_cond_t rfl rfl h50 ?_
      refine cw_skip ?_
      refine ew_then ?_
      refine cw_seq ?_
      refine cw_block ?_
      refine cw_seq ?_
      refine cw_region ?_
      refine ow_vals 2 (j := 2) [0, 3, 4, 5, 33] [(0, .pointer (some ⟨b0, 0, none⟩)), (3, .pointer (some ⟨b23, 0, none⟩)), (4, .slice p46 l45.length c47), (5, .int .i64 x49), (33, .int .i64 x49)] rfl (by kernel_rfl) ?_
      refine ow_end rfl ?_
      refine ew_then ?_
      refine cw_region ?_
      refine ow_vals 4 (j := 4) [0, 3, 5, 33, 36, 39] [(0, .pointer (some ⟨b0, 0, none⟩)), (3, .pointer (some ⟨b23, 0, none⟩)), (5, .int .i64 x49), (33, .int .i64 x49), (36, .slice p46 l45.length c47), (39, .pointer (some ⟨b0, 9, none⟩))] rfl (by kernel_rfl) ?_
      refine ow_pw rfl (pw_quiet (v := .int .u64 m0.n_) rfl rfl rfl rfl (q_load 2 rfl rfl rfl (by kernel_rfl)) (nw_ow ?_))
      refine ow_vals 4 (j := 9) [0, 3, 33, 36, 41, 44] [(0, .pointer (some ⟨b0, 0, none⟩)), (3, .pointer (some ⟨b23, 0, none⟩)), (33, .int .i64 x49), (36, .slice p46 l45.length c47), (41, .int .u64 (IntKind.u64.wrap (m0.n_ * 8))), (44, .int .i64 (IntKind.i64.wrap (56 - (IntKind.i64.wrap (8 * x49)))))] rfl (by kernel_rfl) ?_
      obtain ⟨h51, hF⟩ := chk_some hF
      refine ow_pw rfl (pw_quiet (v := .int .u64 ((IntKind.u64.wrap (m0.n_ * 8)).fdiv ((2 : Int) ^ (min (IntKind.i64.wrap (56 - (IntKind.i64.wrap (8 * x49)))).toNat 64)))) rfl rfl rfl rfl (q_shift_shr rfl rfl rfl h51) (nw_ow ?_))
      refine ow_vals 1 (j := 11) [0, 3, 33, 36, 46] [(0, .pointer (some ⟨b0, 0, none⟩)), (3, .pointer (some ⟨b23, 0, none⟩)), (33, .int .i64 x49), (36, .slice p46 l45.length c47), (46, .int .u8 (IntKind.u8.wrap ((IntKind.u64.wrap (m0.n_ * 8)).fdiv ((2 : Int) ^ (min (IntKind.i64.wrap (56 - (IntKind.i64.wrap (8 * x49)))).toNat 64)))))] rfl (by kernel_rfl) ?_
      refine ow_pw rfl (pw_buildSlice (E := 5) (eInt .u8) ([IntKind.u8.wrap ((IntKind.u64.wrap (m0.n_ * 8)).fdiv ((2 : Int) ^ (min (IntKind.i64.wrap (56 - (IntKind.i64.wrap (8 * x49)))).toNat 64)))] : List Int) rfl rfl rfl rfl rfl (by kernel_rfl) rfl (by kernel_rfl) rfl (by decide) rfl fun p52 => nw_ow ?_)
      obtain ⟨h54, hF⟩ := chk_some hF
      refine ow_pw rfl (pw_append 4 (l' := ([IntKind.u8.wrap ((IntKind.u64.wrap (m0.n_ * 8)).fdiv ((2 : Int) ^ (min (IntKind.i64.wrap (56 - (IntKind.i64.wrap (8 * x49)))).toNat 64)))] : List Int)) rfl rfl rfl rfl rfl rfl (by kernel_rfl) (by kernel_rfl) rfl rfl rfl (src_own (E' := 5) 0 rfl (by kernel_rfl) rfl) rfl h54.1 h54.2 fun p55 c56 => nw_H (H' := [own (eInt .u8) 5 p52 1 ([IntKind.u8.wrap ((IntKind.u64.wrap (m0.n_ * 8)).fdiv ((2 : Int) ^ (min (IntKind.i64.wrap (56 - (IntKind.i64.wrap (8 * x49)))).toNat 64)))] : List Int), imm I, pt b23 #[.int .u32 m0.h_.e0, .int .u32 m0.h_.e1, .int .u32 m0.h_.e2, .int .u32 m0.h_.e3, .int .u32 m0.h_.e4, .int .u32 m0.h_.e5, .int .u32 m0.h_.e6, .int .u32 m0.h_.e7, .string m0.rest_, .int .u64 m0.n_, .bool m0.on_] 131, pt b0 #[.int .u32 m0.h_.e0, .int .u32 m0.h_.e1, .int .u32 m0.h_.e2, .int .u32 m0.h_.e3, .int .u32 m0.h_.e4, .int .u32 m0.h_.e5, .int .u32 m0.h_.e6, .int .u32 m0.h_.e7, .string m0.rest_, .int .u64 m0.n_, .bool m0.on_] 131, own (eInt .u8) 5 p55 c56 (l45 ++ ([IntKind.u8.wrap ((IntKind.u64.wrap (m0.n_ * 8)).fdiv ((2 : Int) ^ (min (IntKind.i64.wrap (56 - (IntKind.i64.wrap (8 * x49)))).toNat 64)))] : List Int))] ++ F0) rfl (nw_ow ?_))
      refine ow_vals 1 (j := 14) [0, 3, 4, 33] [(0, .pointer (some ⟨b0, 0, none⟩)), (3, .pointer (some ⟨b23, 0, none⟩)), (4, .slice p55 (l45 ++ ([IntKind.u8.wrap ((IntKind.u64.wrap (m0.n_ * 8)).fdiv ((2 : Int) ^ (min (IntKind.i64.wrap (56 - (IntKind.i64.wrap (8 * x49)))).toNat 64)))] : List Int)).length c56), (33, .int .i64 x49)] rfl (by kernel_rfl) ?_
      refine ow_end rfl ?_
      refine ew_blk ?_
      refine ew_then ?_
      refine cw_region ?_
      refine ow_vals 2 (j := 2) [0, 3, 4, 33] [(0, .pointer (some ⟨b0, 0, none⟩)), (3, .pointer (some ⟨b23, 0, none⟩)), (4, .slice p55 (l45 ++ ([IntKind.u8.wrap ((IntKind.u64.wrap (m0.n_ * 8)).fdiv ((2 : Int) ^ (min (IntKind.i64.wrap (56 - (IntKind.i64.wrap (8 * x49)))).toNat 64)))] : List Int)).length c56), (33, .int .i64 (IntKind.i64.wrap (x49 + 1)))] rfl (by kernel_rfl) ?_
      refine ow_end rfl ?_
      have hR := Option.some.inj hF
      subst hR
      have hR := hL44
      try dsimp only at hR
      exact fun a w hf hs => ⟨k, Nat.lt_succ_self k, l45 ++ ([IntKind.u8.wrap ((IntKind.u64.wrap (m0.n_ * 8)).fdiv ((2 : Int) ^ (min (IntKind.i64.wrap (56 - (IntKind.i64.wrap (8 * x49)))).toNat 64)))] : List Int), IntKind.i64.wrap (x49 + 1), p55, c56, hR, hf.keep [0, 3, 4, 33], sat_to [0, 0, 0, 0, 0] 1 rfl hs⟩
    refine cw_cond_f rfl rfl h50 ?_
    refine cw_exit ?_
    refine ew_then_exit ?_
    refine ew_then_exit ?_
    refine ew_blk_exit ?_
    have hR := Option.some.inj hF
    subst hR
    have hR := hL44
    try dsimp only at hR
    exact fun a w hf hs => ⟨l45, p46, c47, hR, hf.keep [3, 4], sat_to [0, 0, 0, 0] 0 rfl hs⟩
  rintro a w ⟨l57, p58, c59, hv, hf, hs⟩
  subst hv
  replace hF := hK43
  clear hK43
  try dsimp only at hF
  revert a w
  show CW _ _ _ 75 [(3, .pointer (some ⟨b23, 0, none⟩)), (4, .slice p58 l57.length c59)] (SAT w0 ([imm I, pt b23 #[.int .u32 m0.h_.e0, .int .u32 m0.h_.e1, .int .u32 m0.h_.e2, .int .u32 m0.h_.e3, .int .u32 m0.h_.e4, .int .u32 m0.h_.e5, .int .u32 m0.h_.e6, .int .u32 m0.h_.e7, .string m0.rest_, .int .u64 m0.n_, .bool m0.on_] 131, pt b0 #[.int .u32 m0.h_.e0, .int .u32 m0.h_.e1, .int .u32 m0.h_.e2, .int .u32 m0.h_.e3, .int .u32 m0.h_.e4, .int .u32 m0.h_.e5, .int .u32 m0.h_.e6, .int .u32 m0.h_.e7, .string m0.rest_, .int .u64 m0.n_, .bool m0.on_] 131, own (eInt .u8) 5 p58 c59 l57] ++ F0))
  unfold F.sha_State_Sum.r5 at hF
  refine cw_seq ?_
  refine cw_region ?_
  refine ow_vals 1 (j := 1) [3, 50] [(3, .pointer (some ⟨b23, 0, none⟩)), (50, .slice p58 l57.length c59)] rfl (by kernel_rfl) ?_
  refine ow_pw rfl (pw_quiet (v := .string (bstr l57)) rfl rfl rfl rfl (q_bytes_str_own 3 rfl rfl (by kernel_rfl) (by kernel_rfl) rfl) (nw_ow ?_))
  obtain ⟨r61, h62, hF⟩ := bind_some hF
  refine ow_pw rfl (pw_call (F := [pt b0 #[.int .u32 m0.h_.e0, .int .u32 m0.h_.e1, .int .u32 m0.h_.e2, .int .u32 m0.h_.e3, .int .u32 m0.h_.e4, .int .u32 m0.h_.e5, .int .u32 m0.h_.e6, .int .u32 m0.h_.e7, .string m0.rest_, .int .u64 m0.n_, .bool m0.on_] 131, own (eInt .u8) 5 p58 c59 l57] ++ F0) rfl rfl rfl rfl rfl rfl rfl (by kernel_rfl) (perm_of_pulls [0, 0] rfl) (c_sha_State_Write _ (bstr l57) m0 b23 r61 h62) ?_)
  rintro _ _ ⟨rfl, rfl⟩
  refine nw_H (H' := [imm I, pt b23 #[.int .u32 r61.h_.e0, .int .u32 r61.h_.e1, .int .u32 r61.h_.e2, .int .u32 r61.h_.e3, .int .u32 r61.h_.e4, .int .u32 r61.h_.e5, .int .u32 r61.h_.e6, .int .u32 r61.h_.e7, .string r61.rest_, .int .u64 r61.n_, .bool r61.on_] 131, pt b0 #[.int .u32 m0.h_.e0, .int .u32 m0.h_.e1, .int .u32 m0.h_.e2, .int .u32 m0.h_.e3, .int .u32 m0.h_.e4, .int .u32 m0.h_.e5, .int .u32 m0.h_.e6, .int .u32 m0.h_.e7, .string m0.rest_, .int .u64 m0.n_, .bool m0.on_] 131, own (eInt .u8) 5 p58 c59 l57] ++ F0) rfl (nw_ow ?_)
  refine ow_end rfl ?_
  refine ew_then ?_
  refine cw_seq ?_
  refine cw_region ?_
  refine ow_vals 1 (j := 1) [3, 6] [(3, .pointer (some ⟨b23, 0, none⟩)), (6, .slice none 0 0)] rfl (by kernel_rfl) ?_
  refine ow_end rfl ?_
  refine ew_then ?_
  obtain ⟨v63, hF, hK63⟩ := bind_some hF
  refine cw_mid (fun a w => ∃ (l78 : List Int), ∃ (p79 : Option Addr), ∃ (c80 : Nat), l78 = v63 ∧ Fr 75 [(6, .slice p79 l78.length c80)] a ∧ SAT w0 ([imm I, pt b23 #[.int .u32 r61.h_.e0, .int .u32 r61.h_.e1, .int .u32 r61.h_.e2, .int .u32 r61.h_.e3, .int .u32 r61.h_.e4, .int .u32 r61.h_.e5, .int .u32 r61.h_.e6, .int .u32 r61.h_.e7, .string r61.rest_, .int .u64 r61.n_, .bool r61.on_] 131, pt b0 #[.int .u32 m0.h_.e0, .int .u32 m0.h_.e1, .int .u32 m0.h_.e2, .int .u32 m0.h_.e3, .int .u32 m0.h_.e4, .int .u32 m0.h_.e5, .int .u32 m0.h_.e6, .int .u32 m0.h_.e7, .string m0.rest_, .int .u64 m0.n_, .bool m0.on_] 131, own (eInt .u8) 5 p79 c80 l78] ++ F0) w) ?_ ?_
  · refine cw_seq ?_
    refine cw_region ?_
    refine ow_vals 1 (j := 1) [6, 53] [(6, .slice none 0 0), (53, .pointer (some ⟨b23, 0, none⟩))] rfl (by kernel_rfl) ?_
    refine ow_pw rfl (pw_quiet (v := .agg #[.int .u32 r61.h_.e0, .int .u32 r61.h_.e1, .int .u32 r61.h_.e2, .int .u32 r61.h_.e3, .int .u32 r61.h_.e4, .int .u32 r61.h_.e5, .int .u32 r61.h_.e6, .int .u32 r61.h_.e7]) rfl rfl rfl rfl (q_load 1 rfl rfl rfl (by kernel_rfl)) (nw_ow ?_))
    refine ow_vals 1 (j := 3) [6, 54, 55] [(6, .slice none 0 0), (54, .agg #[.int .u32 r61.h_.e0, .int .u32 r61.h_.e1, .int .u32 r61.h_.e2, .int .u32 r61.h_.e3, .int .u32 r61.h_.e4, .int .u32 r61.h_.e5, .int .u32 r61.h_.e6, .int .u32 r61.h_.e7]), (55, .int .i64 0)] rfl (by kernel_rfl) ?_
    refine ow_end rfl ?_
    refine ew_then ?_
    refine cw_block ?_
    refine fun a w hf hs => wp_rounds (fun k a w => ∃ (l65 : List Int), ∃ (x69 : Int), ∃ (p66 : Option Addr), ∃ (c67 : Nat), iter (fun x => F.sha_State_Sum.l6 r61 x.1 x.2) k (l65, x69) = some v63 ∧ Fr 75 [(6, .slice p66 l65.length c67), (54, .agg #[.int .u32 r61.h_.e0, .int .u32 r61.h_.e1, .int .u32 r61.h_.e2, .int .u32 r61.h_.e3, .int .u32 r61.h_.e4, .int .u32 r61.h_.e5, .int .u32 r61.h_.e6, .int .u32 r61.h_.e7]), (55, .int .i64 x69)] a ∧ SAT w0 ([imm I, pt b23 #[.int .u32 r61.h_.e0, .int .u32 r61.h_.e1, .int .u32 r61.h_.e2, .int .u32 r61.h_.e3, .int .u32 r61.h_.e4, .int .u32 r61.h_.e5, .int .u32 r61.h_.e6, .int .u32 r61.h_.e7, .string r61.rest_, .int .u64 r61.n_, .bool r61.on_] 131, pt b0 #[.int .u32 m0.h_.e0, .int .u32 m0.h_.e1, .int .u32 m0.h_.e2, .int .u32 m0.h_.e3, .int .u32 m0.h_.e4, .int .u32 m0.h_.e5, .int .u32 m0.h_.e6, .int .u32 m0.h_.e7, .string m0.rest_, .int .u64 m0.n_, .bool m0.on_] 131, own (eInt .u8) 5 p66 c67 l65] ++ F0) w) ?_ FUEL a w ⟨[], 0, none, 0, hF, hf.keep [6, 54, 55], sat_to [4, 1, 1, 1, 0] 1 rfl (sat_own_nil (eInt .u8) 5 hs)⟩
    clear hf hs
    clear a w hF
    rintro k a w ⟨l65, x69, p66, c67, hF2, hf, hs⟩
    obtain ⟨k, r64, rfl, hF, hL64⟩ := iter_some hF2
    clear hF2
    revert a w
    show CW _ _ _ 75 [(6, .slice p66 l65.length c67), (54, .agg #[.int .u32 r61.h_.e0, .int .u32 r61.h_.e1, .int .u32 r61.h_.e2, .int .u32 r61.h_.e3, .int .u32 r61.h_.e4, .int .u32 r61.h_.e5, .int .u32 r61.h_.e6, .int .u32 r61.h_.e7]), (55, .int .i64 x69)] (SAT w0 ([imm I, pt b23 #[.int .u32 r61.h_.e0, .int .u32 r61.h_.e1, .int .u32 r61.h_.e2, .int .u32 r61.h_.e3, .int .u32 r61.h_.e4, .int .u32 r61.h_.e5, .int .u32 r61.h_.e6, .int .u32 r61.h_.e7, .string r61.rest_, .int .u64 r61.n_, .bool r61.on_] 131, pt b0 #[.int .u32 m0.h_.e0, .int .u32 m0.h_.e1, .int .u32 m0.h_.e2, .int .u32 m0.h_.e3, .int .u32 m0.h_.e4, .int .u32 m0.h_.e5, .int .u32 m0.h_.e6, .int .u32 m0.h_.e7, .string m0.rest_, .int .u64 m0.n_, .bool m0.on_] 131, own (eInt .u8) 5 p66 c67 l65] ++ F0))
    try dsimp only at hF
    unfold F.sha_State_Sum.l6 at hF
    refine cw_seq ?_
    refine cw_region ?_
    refine ow_vals 1 (j := 1) [6, 54, 55, 56] [(6, .slice p66 l65.length c67), (54, .agg #[.int .u32 r61.h_.e0, .int .u32 r61.h_.e1, .int .u32 r61.h_.e2, .int .u32 r61.h_.e3, .int .u32 r61.h_.e4, .int .u32 r61.h_.e5, .int .u32 r61.h_.e6, .int .u32 r61.h_.e7]), (55, .int .i64 x69), (56, .bool (decide (x69 < 8)))] rfl (by kernel_rfl) ?_
    refine ow_end rfl ?_
    refine ew_then ?_
    refine cw_seq ?_
    rcases if_some hF with ⟨h70, hF⟩ | ⟨h70, hF⟩
    · refine cw_cond_t rfl rfl h70 ?_
      refine cw_skip ?_
      refine ew_then ?_
      refine cw_seq ?_
      refine cw_block ?_
      refine cw_seq ?_
      refine cw_region ?_
      obtain ⟨y71, h72, hF⟩ := bind_some hF
      refine ow_pw rfl (pw_quiet (v := .int .u32 y71) rfl rfl rfl rfl (q_index_agg (e := (eInt .u32)) (m := 8) (E := 116) (sz := 1) (tot := 8) rfl (by kernel_rfl) (by kernel_rfl) rfl rfl rfl rfl rfl h72 rfl) (nw_ow ?_))
      refine ow_vals 1 (j := 2) [6, 8, 54, 55] [(6, .slice p66 l65.length c67), (8, .int .u32 y71), (54, .agg #[.int .u32 r61.h_.e0, .int .u32 r61.h_.e1, .int .u32 r61.h_.e2, .int .u32 r61.h_.e3, .int .u32 r61.h_.e4, .int .u32 r61.h_.e5, .int .u32 r61.h_.e6, .int .u32 r61.h_.e7]), (55, .int .i64 x69)] rfl (by kernel_rfl) ?_
      refine ow_end rfl ?_
      refine ew_then ?_
      refine cw_region ?_
      refine ow_vals 12 (j := 12) [54, 55, 58, 61, 64, 67, 69] [(54, .agg #[.int .u32 r61.h_.e0, .int .u32 r61.h_.e1, .int .u32 r61.h_.e2, .int .u32 r61.h_.e3, .int .u32 r61.h_.e4, .int .u32 r61.h_.e5, .int .u32 r61.h_.e6, .int .u32 r61.h_.e7]), (55, .int .i64 x69), (58, .slice p66 l65.length c67), (61, .int .u8 (IntKind.u8.wrap (y71.fdiv (2 ^ 24)))), (64, .int .u8 (IntKind.u8.wrap (y71.fdiv (2 ^ 16)))), (67, .int .u8 (IntKind.u8.wrap (y71.fdiv (2 ^ 8)))), (69, .int .u8 (IntKind.u8.wrap (y71)))] rfl (by kernel_rfl) ?_
      refine ow_pw rfl (pw_buildSlice (E := 5) (eInt .u8) ([IntKind.u8.wrap (y71.fdiv (2 ^ 24)), IntKind.u8.wrap (y71.fdiv (2 ^ 16)), IntKind.u8.wrap (y71.fdiv (2 ^ 8)), IntKind.u8.wrap (y71)] : List Int) rfl rfl rfl rfl rfl (by kernel_rfl) rfl (by kernel_rfl) rfl (by decide) rfl fun p73 => nw_ow ?_)
      obtain ⟨h75, hF⟩ := chk_some hF
      refine ow_pw rfl (pw_append 4 (l' := ([IntKind.u8.wrap (y71.fdiv (2 ^ 24)), IntKind.u8.wrap (y71.fdiv (2 ^ 16)), IntKind.u8.wrap (y71.fdiv (2 ^ 8)), IntKind.u8.wrap (y71)] : List Int)) rfl rfl rfl rfl rfl rfl (by kernel_rfl) (by kernel_rfl) rfl rfl rfl (src_own (E' := 5) 0 rfl (by kernel_rfl) rfl) rfl h75.1 h75.2 fun p76 c77 => nw_H (H' := [own (eInt .u8) 5 p73 4 ([IntKind.u8.wrap (y71.fdiv (2 ^ 24)), IntKind.u8.wrap (y71.fdiv (2 ^ 16)), IntKind.u8.wrap (y71.fdiv (2 ^ 8)), IntKind.u8.wrap (y71)] : List Int), imm I, pt b23 #[.int .u32 r61.h_.e0, .int .u32 r61.h_.e1, .int .u32 r61.h_.e2, .int .u32 r61.h_.e3, .int .u32 r61.h_.e4, .int .u32 r61.h_.e5, .int .u32 r61.h_.e6, .int .u32 r61.h_.e7, .string r61.rest_, .int .u64 r61.n_, .bool r61.on_] 131, pt b0 #[.int .u32 m0.h_.e0, .int .u32 m0.h_.e1, .int .u32 m0.h_.e2, .int .u32 m0.h_.e3, .int .u32 m0.h_.e4, .int .u32 m0.h_.e5, .int .u32 m0.h_.e6, .int .u32 m0.h_.e7, .string m0.rest_, .int .u64 m0.n_, .bool m0.on_] 131, own (eInt .u8) 5 p76 c77 (l65 ++ ([IntKind.u8.wrap (y71.fdiv (2 ^ 24)), IntKind.u8.wrap (y71.fdiv (2 ^ 16)), IntKind.u8.wrap (y71.fdiv (2 ^ 8)), IntKind.u8.wrap (y71)] : List Int))] ++ F0) rfl (nw_ow ?_))
      refine ow_vals 1 (j := 15) [6, 54, 55] [(6, .slice p76 (l65 ++ ([IntKind.u8.wrap (y71.fdiv (2 ^ 24)), IntKind.u8.wrap (y71.fdiv (2 ^ 16)), IntKind.u8.wrap (y71.fdiv (2 ^ 8)), IntKind.u8.wrap (y71)] : List Int)).length c77), (54, .agg #[.int .u32 r61.h_.e0, .int .u32 r61.h_.e1, .int .u32 r61.h_.e2, .int .u32 r61.h_.e3, .int .u32 r61.h_.e4, .int .u32 r61.h_.e5, .int .u32 r61.h_.e6, .int .u32 r61.h_.e7]), (55, .int .i64 x69)] rfl (by kernel_rfl) ?_
      refine ow_end rfl ?_
      refine ew_blk ?_
      refine ew_then ?_
      refine cw_region ?_
      refine ow_vals 2 (j := 2) [6, 54, 55] [(6, .slice p76 (l65 ++ ([IntKind.u8.wrap (y71.fdiv (2 ^ 24)), IntKind.u8.wrap (y71.fdiv (2 ^ 16)), IntKind.u8.wrap (y71.fdiv (2 ^ 8)), IntKind.u8.wrap (y71)] : List Int)).length c77), (54, .agg #[.int .u32 r61.h_.e0, .int .u32 r61.h_.e1, .int .u32 r61.h_.e2, .int .u32 r61.h_.e3, .int .u32 r61.h_.e4, .int .u32 r61.h_.e5, .int .u32 r61.h_.e6, .int .u32 r61.h_.e7]), (55, .int .i64 (IntKind.i64.wrap (x69 + 1)))] rfl (by kernel_rfl) ?_
      refine ow_end rfl ?_
      have hR := Option.some.inj hF
      subst hR
      have hR := hL64
      try dsimp only at hR
      exact fun a w hf hs => ⟨k, Nat.lt_succ_self k, l65 ++ ([IntKind.u8.wrap (y71.fdiv (2 ^ 24)), IntKind.u8.wrap (y71.fdiv (2 ^ 16)), IntKind.u8.wrap (y71.fdiv (2 ^ 8)), IntKind.u8.wrap (y71)] : List Int), IntKind.i64.wrap (x69 + 1), p76, c77, hR, hf.keep [6, 54, 55], sat_to [0, 0, 0, 0, 0] 1 rfl hs⟩
    refine cw_cond_f rfl rfl h70 ?_
    refine cw_exit ?_
    refine ew_then_exit ?_
    refine ew_then_exit ?_
    refine ew_blk_exit ?_
    have hR := Option.some.inj hF
    subst hR
    have hR := hL64
    try dsimp only at hR
    exact fun a w hf hs => ⟨l65, p66, c67, hR, hf.keep [6], sat_to [0, 0, 0, 0] 0 rfl hs⟩
  rintro a w ⟨l78, p79, c80, hv, hf, hs⟩
  subst hv
  replace hF := hK63
  clear hK63
  try dsimp only at hF
  revert a w
  show CW _ _ _ 75 [(6, .slice p79 l78.length c80)] (SAT w0 ([imm I, pt b23 #[.int .u32 r61.h_.e0, .int .u32 r61.h_.e1, .int .u32 r61.h_.e2, .int .u32 r61.h_.e3, .int .u32 r61.h_.e4, .int .u32 r61.h_.e5, .int .u32 r61.h_.e6, .int .u32 r61.h_.e7, .string r61.rest_, .int .u64 r61.n_, .bool r61.on_] 131, pt b0 #[.int .u32 m0.h_.e0, .int .u32 m0.h_.e1, .int .u32 m0.h_.e2, .int .u32 m0.h_.e3, .int .u32 m0.h_.e4, .int .u32 m0.h_.e5, .int .u32 m0.h_.e6, .int .u32 m0.h_.e7, .string m0.rest_, .int .u64 m0.n_, .bool m0.on_] 131, own (eInt .u8) 5 p79 c80 l78] ++ F0))
  unfold F.sha_State_Sum.r7 at hF
  refine cw_seq ?_
  refine cw_region ?_
  refine ow_vals 1 (j := 1) [73] [(73, .slice p79 l78.length c80)] rfl (by kernel_rfl) ?_
  refine ow_pw rfl (pw_quiet (v := .string (bstr l78)) rfl rfl rfl rfl (q_bytes_str_own 3 rfl rfl (by kernel_rfl) (by kernel_rfl) rfl) (nw_ow ?_))
  refine ow_vals 1 (j := 3) [2] [(2, .string (bstr l78))] rfl (by kernel_rfl) ?_
  refine ow_end rfl ?_
  refine ew_then ?_
  refine cw_ret ?_
  have hR := Option.some.inj hF
  subst hR
  exact fin1 (H1 := [imm I, pt b0 #[.int .u32 m0.h_.e0, .int .u32 m0.h_.e1, .int .u32 m0.h_.e2, .int .u32 m0.h_.e3, .int .u32 m0.h_.e4, .int .u32 m0.h_.e5, .int .u32 m0.h_.e6, .int .u32 m0.h_.e7, .string m0.rest_, .int .u64 m0.n_, .bool m0.on_] 131]) (fun w hs => sat_to [1, 2, 0, 0] 2 rfl hs) rfl (rr_tmp rfl) ⟨rfl, rfl⟩


def F.sha_Sum (x0 : ByteArray) : Option ByteArray :=
  Option.bind (F.sha_New) (fun (r21 : sha_State) => Option.bind (F.sha_State_Write x0 r21) (fun (r24 : sha_State) => Option.bind (F.sha_State_Sum r24) (fun (r26 : ByteArray) => some (r26))))
set_option maxRecDepth 100000 in
set_option maxHeartbeats 4000000 in
theorem c_sha_Sum (I : Hl) (x0 : ByteArray) (res : ByteArray) (hF : F.sha_Sum x0 = some res) : Tr Try.prog 69 [.string x0] [imm I] (fun r H' => r = .string res ∧ H' = [imm I]) := by
  unfold F.sha_Sum at hF
  refine tr_of_cw (fn := Try.f69) Try.func69 rfl (Nat.le_of_ble_eq_true rfl) 10 rfl fun F0 w0 => ?_
  refine cw_keep [0] (L' := [(0, .string x0)]) rfl ?_
  refine cw_state (S' := SAT w0 ([imm I] ++ F0)) (fun w hs => hs) ?_
  refine cw_seq ?_
  refine cw_region ?_
  refine ow_vals 1 (j := 1) [0] [(0, .string x0)] rfl (by kernel_rfl) ?_
  refine ow_end rfl ?_
  refine ew_then ?_
  refine cw_seq ?_
  refine cw_region ?_
  obtain ⟨r21, h22, hF⟩ := bind_some hF
  refine ow_pw rfl (pw_call (F := [] ++ F0) rfl rfl rfl rfl rfl rfl rfl (by kernel_rfl) (perm_of_pulls [0] rfl) (c_sha_New _ r21 h22) ?_)
  rintro _ _ ⟨r21_b1, rfl, rfl⟩
  refine nw_H (H' := [imm I, pt r21_b1 #[.int .u32 r21.h_.e0, .int .u32 r21.h_.e1, .int .u32 r21.h_.e2, .int .u32 r21.h_.e3, .int .u32 r21.h_.e4, .int .u32 r21.h_.e5, .int .u32 r21.h_.e6, .int .u32 r21.h_.e7, .string r21.rest_, .int .u64 r21.n_, .bool r21.on_] 131] ++ F0) rfl (nw_ow ?_)
  refine ow_vals 1 (j := 2) [0, 3] [(0, .string x0), (3, .pointer (some ⟨r21_b1, 0, none⟩))] rfl (by kernel_rfl) ?_
  refine ow_end rfl ?_
  refine ew_then ?_
  refine cw_seq ?_
  refine cw_region ?_
  refine ow_vals 2 (j := 2) [3, 5, 6] [(3, .pointer (some ⟨r21_b1, 0, none⟩)), (5, .pointer (some ⟨r21_b1, 0, none⟩)), (6, .string x0)] rfl (by kernel_rfl) ?_
  obtain ⟨r24, h25, hF⟩ := bind_some hF
  refine ow_pw rfl (pw_call (F := [] ++ F0) rfl rfl rfl rfl rfl rfl rfl (by kernel_rfl) (perm_of_pulls [0, 0] rfl) (c_sha_State_Write _ x0 r21 r21_b1 r24 h25) ?_)
  rintro _ _ ⟨rfl, rfl⟩
  refine nw_H (H' := [imm I, pt r21_b1 #[.int .u32 r24.h_.e0, .int .u32 r24.h_.e1, .int .u32 r24.h_.e2, .int .u32 r24.h_.e3, .int .u32 r24.h_.e4, .int .u32 r24.h_.e5, .int .u32 r24.h_.e6, .int .u32 r24.h_.e7, .string r24.rest_, .int .u64 r24.n_, .bool r24.on_] 131] ++ F0) rfl (nw_ow ?_)
  refine ow_end rfl ?_
  refine ew_then ?_
  refine cw_seq ?_
  refine cw_region ?_
  refine ow_vals 1 (j := 1) [8] [(8, .pointer (some ⟨r21_b1, 0, none⟩))] rfl (by kernel_rfl) ?_
  obtain ⟨r26, h27, hF⟩ := bind_some hF
  refine ow_pw rfl (pw_call (F := [] ++ F0) rfl rfl rfl rfl rfl rfl rfl (by kernel_rfl) (perm_of_pulls [0, 0] rfl) (c_sha_State_Sum _ r24 r21_b1 r26 h27) ?_)
  rintro _ _ ⟨rfl, rfl⟩
  refine nw_H (H' := [imm I, pt r21_b1 #[.int .u32 r24.h_.e0, .int .u32 r24.h_.e1, .int .u32 r24.h_.e2, .int .u32 r24.h_.e3, .int .u32 r24.h_.e4, .int .u32 r24.h_.e5, .int .u32 r24.h_.e6, .int .u32 r24.h_.e7, .string r24.rest_, .int .u64 r24.n_, .bool r24.on_] 131] ++ F0) rfl (nw_ow ?_)
  refine ow_vals 1 (j := 3) [2] [(2, .string r26)] rfl (by kernel_rfl) ?_
  refine ow_end rfl ?_
  refine ew_then ?_
  refine cw_ret ?_
  have hR := Option.some.inj hF
  subst hR
  exact fin1 (H1 := [imm I]) (fun w hs => sat_to [1, 0] 1 rfl hs) rfl (rr_tmp rfl) ⟨rfl, rfl⟩

end Go.Proofs.Ytileogoeoiafkaa
