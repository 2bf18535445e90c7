/- What the functions compute, and that the code computes it: printed by a program of this claim (wip/tools), for the group Proves. -/
import Derived.Test.YtoamnhmdhficiaaGSame
namespace Go.Proofs.Ytoamnhmdhficiaa
set_option linter.all false
open Go Go.RowKit Go.Fw
set_option linter.unusedVariables false

def F.law07_Leaves.r1 (x1 : List ByteArray) (l23 : List ByteArray) (x27 : Int) (l28 : List (ByteArray × ByteArray)) (l31 : List (ByteArray × ByteArray)) (s34 : ByteArray) (s35 : ByteArray) (x36 : Bool) (x37 : Bool) (x38 : Int) : Option (((List ByteArray) × Int × (List (ByteArray × ByteArray)) × (List (ByteArray × ByteArray)) × ByteArray × ByteArray × Bool × Bool × Int) ⊕ ((List ByteArray) × (List (ByteArray × ByteArray)) × (List (ByteArray × ByteArray)) × ByteArray × ByteArray × Bool × Bool × Int)) :=
  Option.bind (at_ x1 x27) (fun (y42 : ByteArray) => if decide ((y42.size : Int) > 100) then (chk (0 ≤ (0 : Int) ∧ (0 : Int) ≤ (100 : Int) ∧ (100 : Int) ≤ (y42.size : Int)) (Option.bind (F.pledge_Leaf (y42.extract (0 : Int).toNat (100 : Int).toNat) (⟨l28, l31, (⟨s34, s35⟩ : A2_ByteArray), x36, x37, x38⟩ : mill_Mill)) (fun (r48 : ByteArray × mill_Mill) => chk (room (l23.length + ([r48.1] : List ByteArray).length) 16) (some (.inl (l23 ++ ([r48.1] : List ByteArray), IntKind.i64.wrap (x27 + 1), r48.2.table_, r48.2.notes_, r48.2.twins_.e0, r48.2.twins_.e1, r48.2.found_, r48.2.full_, r48.2.sums_)))))) else (Option.bind (F.pledge_Leaf y42 (⟨l28, l31, (⟨s34, s35⟩ : A2_ByteArray), x36, x37, x38⟩ : mill_Mill)) (fun (r57 : ByteArray × mill_Mill) => chk (room (l23.length + ([r57.1] : List ByteArray).length) 16) (some (.inl (l23 ++ ([r57.1] : List ByteArray), IntKind.i64.wrap (x27 + 1), r57.2.table_, r57.2.notes_, r57.2.twins_.e0, r57.2.twins_.e1, r57.2.found_, r57.2.full_, r57.2.sums_))))))
def F.law07_Leaves.l2 (x1 : List ByteArray) (l23 : List ByteArray) (x27 : Int) (l28 : List (ByteArray × ByteArray)) (l31 : List (ByteArray × ByteArray)) (s34 : ByteArray) (s35 : ByteArray) (x36 : Bool) (x37 : Bool) (x38 : Int) : Option (((List ByteArray) × Int × (List (ByteArray × ByteArray)) × (List (ByteArray × ByteArray)) × ByteArray × ByteArray × Bool × Bool × Int) ⊕ ((List ByteArray) × (List (ByteArray × ByteArray)) × (List (ByteArray × ByteArray)) × ByteArray × ByteArray × Bool × Bool × Int)) :=
  thru (if decide (x27 < (x1.length : Int)) then (if decide (x27 < 40) then (some (.inl ())) else (some (.inr (.inr ((l23, l28, l31, s34, s35, x36, x37, x38)))))) else (some (.inr (.inr ((l23, l28, l31, s34, s35, x36, x37, x38)))))) (fun x => F.law07_Leaves.r1 x1 l23 x27 l28 l31 s34 s35 x36 x37 x38)
def F.law07_Leaves.r3 (l66 : List ByteArray) (l70 : List (ByteArray × ByteArray)) (l73 : List (ByteArray × ByteArray)) (s76 : ByteArray) (s77 : ByteArray) (x78 : Bool) (x79 : Bool) (x80 : Int) : Option ((List ByteArray) × mill_Mill) :=
  some ((l66, (⟨l70, l73, (⟨s76, s77⟩ : A2_ByteArray), x78, x79, x80⟩ : mill_Mill)))
def F.law07_Leaves (x1 : List ByteArray) (m0 : mill_Mill) : Option ((List ByteArray) × mill_Mill) :=
  Option.bind (iter (fun x => F.law07_Leaves.l2 x1 x.1 x.2.1 x.2.2.1 x.2.2.2.1 x.2.2.2.2.1 x.2.2.2.2.2.1 x.2.2.2.2.2.2.1 x.2.2.2.2.2.2.2.1 x.2.2.2.2.2.2.2.2) FUEL ([], 0, m0.table_, m0.notes_, m0.twins_.e0, m0.twins_.e1, m0.found_, m0.full_, m0.sums_)) (fun x => F.law07_Leaves.r3 x.1 x.2.1 x.2.2.1 x.2.2.2.1 x.2.2.2.2.1 x.2.2.2.2.2.1 x.2.2.2.2.2.2.1 x.2.2.2.2.2.2.2)
set_option maxRecDepth 100000 in
set_option maxHeartbeats 4000000 in
theorem c_law07_Leaves (I : Hl) (x1 : List ByteArray) (m0 : mill_Mill) (p0 : Option Addr) (c0 : Nat) (p1 : Nat) (p2 : Nat) (b0 : Nat) (res : (List ByteArray) × mill_Mill) (hF : F.law07_Leaves x1 m0 = some res) (hr0 : ro I eStr p0 c0 x1) : Tr Try.prog 16 [.pointer (some ⟨b0, 0, none⟩), .slice p0 x1.length c0] [imm I, pt b0 #[.map (some p1), .map (some p2), .string m0.twins_.e0, .string m0.twins_.e1, .bool m0.found_, .bool m0.full_, .int .i64 m0.sums_] 60, mpo kStr kStr p1 m0.table_, mpo kStr kStr p2 m0.notes_] (fun r H' => ∃ (p1 : Option Addr), ∃ (c2 : Nat), ∃ (b4 : Nat), ∃ (b6 : Nat), r = .slice p1 res.1.length c2 ∧ H' = [imm I, pt b0 #[.map (some b4), .map (some b6), .string res.2.twins_.e0, .string res.2.twins_.e1, .bool res.2.found_, .bool res.2.full_, .int .i64 res.2.sums_] 60, own eStr 9 p1 c2 res.1, mpo kStr kStr b4 res.2.table_, mpo kStr kStr b6 res.2.notes_]) := by
  unfold F.law07_Leaves at hF
  refine tr_of_cw (fn := Try.f16) Try.func16 rfl (Nat.le_of_ble_eq_true rfl) 34 rfl fun F0 w0 => ?_
  refine cw_keep [0, 1] (L' := [(0, .pointer (some ⟨b0, 0, none⟩)), (1, .slice p0 x1.length c0)]) rfl ?_
  refine cw_state (S' := SAT w0 ([imm I, pt b0 #[.map (some p1), .map (some p2), .string m0.twins_.e0, .string m0.twins_.e1, .bool m0.found_, .bool m0.full_, .int .i64 m0.sums_] 60, mpo kStr kStr p1 m0.table_, mpo kStr kStr p2 m0.notes_] ++ F0)) (fun w hs => hs) ?_
  refine cw_seq ?_
  refine cw_region ?_
  refine ow_vals 1 (j := 1) [0, 1] [(0, .pointer (some ⟨b0, 0, none⟩)), (1, .slice p0 x1.length c0)] rfl (by kernel_rfl) ?_
  refine ow_end rfl ?_
  refine ew_then ?_
  refine cw_seq ?_
  refine cw_region ?_
  refine ow_vals 1 (j := 1) [0, 1, 5] [(0, .pointer (some ⟨b0, 0, none⟩)), (1, .slice p0 x1.length c0), (5, .slice none 0 0)] rfl (by kernel_rfl) ?_
  refine ow_end rfl ?_
  refine ew_then ?_
  obtain ⟨v21, hF, hK21⟩ := bind_some hF
  refine cw_mid (fun a w => ∃ (l66 : List ByteArray), ∃ (l70 : List (ByteArray × ByteArray)), ∃ (l73 : List (ByteArray × ByteArray)), ∃ (s76 : ByteArray), ∃ (s77 : ByteArray), ∃ (x78 : Bool), ∃ (x79 : Bool), ∃ (x80 : Int), ∃ (p67 : Option Addr), ∃ (c68 : Nat), ∃ (b72 : Nat), ∃ (b75 : Nat), (l66, l70, l73, s76, s77, x78, x79, x80) = v21 ∧ Fr 34 [(5, .slice p67 l66.length c68)] a ∧ SAT w0 ([imm I, pt b0 #[.map (some b72), .map (some b75), .string s76, .string s77, .bool x78, .bool x79, .int .i64 x80] 60, own eStr 9 p67 c68 l66, mpo kStr kStr b72 l70, mpo kStr kStr b75 l73] ++ F0) w) ?_ ?_
  · refine cw_seq ?_
    refine cw_region ?_
    refine ow_vals 1 (j := 1) [0, 1, 5, 6] [(0, .pointer (some ⟨b0, 0, none⟩)), (1, .slice p0 x1.length c0), (5, .slice none 0 0), (6, .int .i64 0)] rfl (by kernel_rfl) ?_
    refine ow_end rfl ?_
    refine ew_then ?_
    refine cw_block ?_
    refine fun a w hf hs => wp_rounds (fun k a w => ∃ (l23 : List ByteArray), ∃ (x27 : Int), ∃ (l28 : List (ByteArray × ByteArray)), ∃ (l31 : List (ByteArray × ByteArray)), ∃ (s34 : ByteArray), ∃ (s35 : ByteArray), ∃ (x36 : Bool), ∃ (x37 : Bool), ∃ (x38 : Int), ∃ (p24 : Option Addr), ∃ (c25 : Nat), ∃ (b30 : Nat), ∃ (b33 : Nat), iter (fun x => F.law07_Leaves.l2 x1 x.1 x.2.1 x.2.2.1 x.2.2.2.1 x.2.2.2.2.1 x.2.2.2.2.2.1 x.2.2.2.2.2.2.1 x.2.2.2.2.2.2.2.1 x.2.2.2.2.2.2.2.2) k (l23, x27, l28, l31, s34, s35, x36, x37, x38) = some v21 ∧ Fr 34 [(0, .pointer (some ⟨b0, 0, none⟩)), (1, .slice p0 x1.length c0), (5, .slice p24 l23.length c25), (6, .int .i64 x27)] a ∧ SAT w0 ([imm I, pt b0 #[.map (some b30), .map (some b33), .string s34, .string s35, .bool x36, .bool x37, .int .i64 x38] 60, own eStr 9 p24 c25 l23, mpo kStr kStr b30 l28, mpo kStr kStr b33 l31] ++ F0) w) ?_ FUEL a w ⟨[], 0, m0.table_, m0.notes_, m0.twins_.e0, m0.twins_.e1, m0.found_, m0.full_, m0.sums_, none, 0, p1, p2, hF, hf.keep [0, 1, 5, 6], sat_to [1, 1, 0, 0, 0] 0 rfl (sat_own_nil eStr 9 hs)⟩
    clear hf hs
    clear a w hF
    rintro k a w ⟨l23, x27, l28, l31, s34, s35, x36, x37, x38, p24, c25, b30, b33, hF2, hf, hs⟩
    obtain ⟨k, r22, rfl, hF, hL22⟩ := iter_some hF2
    clear hF2
    revert a w
    show CW _ _ _ 34 [(0, .pointer (some ⟨b0, 0, none⟩)), (1, .slice p0 x1.length c0), (5, .slice p24 l23.length c25), (6, .int .i64 x27)] (SAT w0 ([imm I, pt b0 #[.map (some b30), .map (some b33), .string s34, .string s35, .bool x36, .bool x37, .int .i64 x38] 60, own eStr 9 p24 c25 l23, mpo kStr kStr b30 l28, mpo kStr kStr b33 l31] ++ F0))
    try dsimp only at hF
    unfold F.law07_Leaves.l2 at hF
    obtain ⟨v39, hF, hK39⟩ := thru_some hF
    refine cw_mid (fun a w => .inl () = v39 ∧ Fr 34 [(0, .pointer (some ⟨b0, 0, none⟩)), (1, .slice p0 x1.length c0), (5, .slice p24 l23.length c25), (6, .int .i64 x27)] a ∧ SAT w0 ([imm I, pt b0 #[.map (some b30), .map (some b33), .string s34, .string s35, .bool x36, .bool x37, .int .i64 x38] 60, own eStr 9 p24 c25 l23, mpo kStr kStr b30 l28, mpo kStr kStr b33 l31] ++ F0) w) ?_ ?_
    · refine cw_seq ?_
      refine cw_region ?_
      refine ow_vals 5 (j := 5) [0, 1, 5, 6, 12] [(0, .pointer (some ⟨b0, 0, none⟩)), (1, .slice p0 x1.length c0), (5, .slice p24 l23.length c25), (6, .int .i64 x27), (12, .bool (decide (x27 < (x1.length : Int))))] rfl (by kernel_rfl) ?_
      rcases if_some hF with ⟨h40, hF⟩ | ⟨h40, hF⟩
      · refine ow_slots (L' := [(0, .pointer (some ⟨b0, 0, none⟩)), (1, .slice p0 x1.length c0), (5, .slice p24 l23.length c25), (6, .int .i64 x27), (12, .bool true)]) (by rw [h40]) ?_
        refine ow_vals 3 (j := 8) [0, 1, 5, 6, 15] [(0, .pointer (some ⟨b0, 0, none⟩)), (1, .slice p0 x1.length c0), (5, .slice p24 l23.length c25), (6, .int .i64 x27), (15, .bool (decide (x27 < 40)))] rfl (by kernel_rfl) ?_
        refine ow_end rfl ?_
        refine ew_then ?_
        rcases if_some hF with ⟨h41, hF⟩ | ⟨h41, hF⟩
        · refine cw_cond_t rfl rfl h41 ?_
          refine cw_skip ?_
          have hR := Option.some.inj hF
          exact fun a w hf hs => ⟨hR, hf.keep [0, 1, 5, 6], sat_to [0, 0, 0, 0, 0] 0 rfl hs⟩
        · refine cw_cond_f rfl rfl h41 ?_
          refine cw_exit ?_
          refine ew_then_exit ?_
          refine ew_then_exit ?_
          refine ew_blk_exit ?_
          have hR := Option.some.inj hF
          subst hR
          have hR := hK39
          try dsimp only [Thru] at hR
          subst hR
          have hR := hL22
          try dsimp only at hR
          exact fun a w hf hs => ⟨l23, l28, l31, s34, s35, x36, x37, x38, p24, c25, b30, b33, hR, hf.keep [5], sat_to [0, 0, 0, 0, 0] 0 rfl hs⟩
      · refine ow_slots (L' := [(0, .pointer (some ⟨b0, 0, none⟩)), (1, .slice p0 x1.length c0), (5, .slice p24 l23.length c25), (6, .int .i64 x27), (12, .bool false)]) (by rw [h40]) ?_
        refine ow_vals 3 (j := 8) [0, 1, 5, 6, 15] [(0, .pointer (some ⟨b0, 0, none⟩)), (1, .slice p0 x1.length c0), (5, .slice p24 l23.length c25), (6, .int .i64 x27), (15, .bool false)] rfl (by kernel_rfl) ?_
        refine ow_end rfl ?_
        refine ew_then ?_
        refine cw_cond_f rfl rfl rfl ?_
        refine cw_exit ?_
        refine ew_then_exit ?_
        refine ew_then_exit ?_
        refine ew_blk_exit ?_
        have hR := Option.some.inj hF
        subst hR
        have hR := hK39
        try dsimp only [Thru] at hR
        subst hR
        have hR := hL22
        try dsimp only at hR
        exact fun a w hf hs => ⟨l23, l28, l31, s34, s35, x36, x37, x38, p24, c25, b30, b33, hR, hf.keep [5], sat_to [0, 0, 0, 0, 0] 0 rfl hs⟩
    · rintro a w ⟨hv, hf, hs⟩
      subst hv
      replace hF := hK39
      clear hK39
      try dsimp only [Thru] at hF
      revert a w
      show CW _ _ _ 34 [(0, .pointer (some ⟨b0, 0, none⟩)), (1, .slice p0 x1.length c0), (5, .slice p24 l23.length c25), (6, .int .i64 x27)] (SAT w0 ([imm I, pt b0 #[.map (some b30), .map (some b33), .string s34, .string s35, .bool x36, .bool x37, .int .i64 x38] 60, own eStr 9 p24 c25 l23, mpo kStr kStr b30 l28, mpo kStr kStr b33 l31] ++ F0))
      unfold F.law07_Leaves.r1 at hF
      refine cw_seq ?_
      refine cw_block ?_
      refine cw_seq ?_
      refine cw_region ?_
      refine ow_vals 2 (j := 2) [0, 1, 5, 6, 18, 19] [(0, .pointer (some ⟨b0, 0, none⟩)), (1, .slice p0 x1.length c0), (5, .slice p24 l23.length c25), (6, .int .i64 x27), (18, .slice p0 x1.length c0), (19, .int .i64 x27)] rfl (by kernel_rfl) ?_
      obtain ⟨y42, h43, hF⟩ := bind_some hF
      refine ow_pw rfl (pw_index_ro (E := 9) 1 hr0 rfl rfl rfl rfl rfl (by kernel_rfl) rfl rfl rfl h43 fun q44 h45 => nw_ow ?_)
      refine ow_pw rfl (pw_quiet (v := .string y42) rfl rfl rfl rfl (q_load_el0 0 rfl h45 rfl rfl (by kernel_rfl)) (nw_ow ?_))
      refine ow_vals 1 (j := 5) [0, 1, 5, 6, 7] [(0, .pointer (some ⟨b0, 0, none⟩)), (1, .slice p0 x1.length c0), (5, .slice p24 l23.length c25), (6, .int .i64 x27), (7, .string y42)] rfl (by kernel_rfl) ?_
      refine ow_end rfl ?_
      refine ew_then ?_
      refine cw_seq ?_
      refine cw_seq ?_
      refine cw_region ?_
      refine ow_vals 3 (j := 3) [0, 1, 5, 6, 7, 24] [(0, .pointer (some ⟨b0, 0, none⟩)), (1, .slice p0 x1.length c0), (5, .slice p24 l23.length c25), (6, .int .i64 x27), (7, .string y42), (24, .bool (decide ((y42.size : Int) > 100)))] rfl (by kernel_rfl) ?_
      refine ow_end rfl ?_
      refine ew_then ?_
      rcases if_some hF with ⟨h46, hF⟩ | ⟨h46, hF⟩
      · refine cw_cond_t rfl rfl h46 ?_
        refine cw_region ?_
        refine ow_vals 1 (j := 1) [0, 1, 5, 6, 25] [(0, .pointer (some ⟨b0, 0, none⟩)), (1, .slice p0 x1.length c0), (5, .slice p24 l23.length c25), (6, .int .i64 x27), (25, .string y42)] rfl (by kernel_rfl) ?_
        obtain ⟨h47, hF⟩ := chk_some hF
        refine ow_pw rfl (pw_quiet (v := .string (y42.extract (0 : Int).toNat (100 : Int).toNat)) rfl rfl rfl rfl (q_slice_str rfl (by kernel_rfl) rfl rfl rfl h47.1 h47.2.1 h47.2.2) (nw_ow ?_))
        refine ow_vals 1 (j := 3) [0, 1, 5, 6, 7] [(0, .pointer (some ⟨b0, 0, none⟩)), (1, .slice p0 x1.length c0), (5, .slice p24 l23.length c25), (6, .int .i64 x27), (7, .string (y42.extract (0 : Int).toNat (100 : Int).toNat))] rfl (by kernel_rfl) ?_
        refine ow_end rfl ?_
        refine ew_then ?_
        refine cw_region ?_
        refine ow_vals 3 (j := 3) [0, 1, 6, 27, 28, 29] [(0, .pointer (some ⟨b0, 0, none⟩)), (1, .slice p0 x1.length c0), (6, .int .i64 x27), (27, .slice p24 l23.length c25), (28, .pointer (some ⟨b0, 0, none⟩)), (29, .string (y42.extract (0 : Int).toNat (100 : Int).toNat))] rfl (by kernel_rfl) ?_
        obtain ⟨r48, h49, hF⟩ := bind_some hF
        refine ow_pw rfl (pw_call (F := [own eStr 9 p24 c25 l23] ++ F0) rfl rfl rfl rfl rfl rfl rfl (by kernel_rfl) (perm_of_pulls [0, 0, 1, 1] rfl) (c_pledge_Leaf _ (y42.extract (0 : Int).toNat (100 : Int).toNat) (⟨l28, l31, (⟨s34, s35⟩ : A2_ByteArray), x36, x37, x38⟩ : mill_Mill) b30 b33 b0 r48 h49) ?_)
        rintro _ _ ⟨r48_b1, r48_b3, rfl, rfl⟩
        refine nw_H (H' := [imm I, pt b0 #[.map (some r48_b1), .map (some r48_b3), .string r48.2.twins_.e0, .string r48.2.twins_.e1, .bool r48.2.found_, .bool r48.2.full_, .int .i64 r48.2.sums_] 60, mpo kStr kStr r48_b1 r48.2.table_, mpo kStr kStr r48_b3 r48.2.notes_, own eStr 9 p24 c25 l23] ++ F0) rfl (nw_ow ?_)
        refine ow_pw rfl (pw_buildSlice (E := 9) eStr ([r48.1] : List ByteArray) rfl rfl rfl rfl rfl (by kernel_rfl) rfl (by kernel_rfl) rfl (by decide) rfl fun p52 => nw_ow ?_)
        obtain ⟨h54, hF⟩ := chk_some hF
        refine ow_pw rfl (pw_append 5 (l' := ([r48.1] : List ByteArray)) rfl rfl rfl rfl rfl rfl (by kernel_rfl) (by kernel_rfl) rfl rfl rfl (src_own (E' := 9) 0 rfl (by kernel_rfl) rfl) rfl h54.1 h54.2 fun p55 c56 => nw_H (H' := [own eStr 9 p52 1 ([r48.1] : List ByteArray), imm I, pt b0 #[.map (some r48_b1), .map (some r48_b3), .string r48.2.twins_.e0, .string r48.2.twins_.e1, .bool r48.2.found_, .bool r48.2.full_, .int .i64 r48.2.sums_] 60, mpo kStr kStr r48_b1 r48.2.table_, mpo kStr kStr r48_b3 r48.2.notes_, own eStr 9 p55 c56 (l23 ++ ([r48.1] : List ByteArray))] ++ F0) rfl (nw_ow ?_))
        refine ow_vals 1 (j := 7) [0, 1, 5, 6] [(0, .pointer (some ⟨b0, 0, none⟩)), (1, .slice p0 x1.length c0), (5, .slice p55 (l23 ++ ([r48.1] : List ByteArray)).length c56), (6, .int .i64 x27)] rfl (by kernel_rfl) ?_
        refine ow_end rfl ?_
        refine ew_blk ?_
        refine ew_then ?_
        refine cw_region ?_
        refine ow_vals 3 (j := 3) [0, 1, 5, 6] [(0, .pointer (some ⟨b0, 0, none⟩)), (1, .slice p0 x1.length c0), (5, .slice p55 (l23 ++ ([r48.1] : List ByteArray)).length c56), (6, .int .i64 (IntKind.i64.wrap (x27 + 1)))] rfl (by kernel_rfl) ?_
        refine ow_end rfl ?_
        have hR := Option.some.inj hF
        subst hR
        have hR := hL22
        try dsimp only at hR
        exact fun a w hf hs => ⟨k, Nat.lt_succ_self k, l23 ++ ([r48.1] : List ByteArray), IntKind.i64.wrap (x27 + 1), r48.2.table_, r48.2.notes_, r48.2.twins_.e0, r48.2.twins_.e1, r48.2.found_, r48.2.full_, r48.2.sums_, p55, c56, r48_b1, r48_b3, hR, hf.keep [0, 1, 5, 6], sat_to [0, 0, 0, 2, 0, 0] 1 rfl hs⟩
      · refine cw_cond_f rfl rfl h46 ?_
        refine cw_skip ?_
        refine ew_then ?_
        refine cw_region ?_
        refine ow_vals 3 (j := 3) [0, 1, 6, 27, 28, 29] [(0, .pointer (some ⟨b0, 0, none⟩)), (1, .slice p0 x1.length c0), (6, .int .i64 x27), (27, .slice p24 l23.length c25), (28, .pointer (some ⟨b0, 0, none⟩)), (29, .string y42)] rfl (by kernel_rfl) ?_
        obtain ⟨r57, h58, hF⟩ := bind_some hF
        refine ow_pw rfl (pw_call (F := [own eStr 9 p24 c25 l23] ++ F0) rfl rfl rfl rfl rfl rfl rfl (by kernel_rfl) (perm_of_pulls [0, 0, 1, 1] rfl) (c_pledge_Leaf _ y42 (⟨l28, l31, (⟨s34, s35⟩ : A2_ByteArray), x36, x37, x38⟩ : mill_Mill) b30 b33 b0 r57 h58) ?_)
        rintro _ _ ⟨r57_b1, r57_b3, rfl, rfl⟩
        refine nw_H (H' := [imm I, pt b0 #[.map (some r57_b1), .map (some r57_b3), .string r57.2.twins_.e0, .string r57.2.twins_.e1, .bool r57.2.found_, .bool r57.2.full_, .int .i64 r57.2.sums_] 60, mpo kStr kStr r57_b1 r57.2.table_, mpo kStr kStr r57_b3 r57.2.notes_, own eStr 9 p24 c25 l23] ++ F0) rfl (nw_ow ?_)
        refine ow_pw rfl (pw_buildSlice (E := 9) eStr ([r57.1] : List ByteArray) rfl rfl rfl rfl rfl (by kernel_rfl) rfl (by kernel_rfl) rfl (by decide) rfl fun p61 => nw_ow ?_)
        obtain ⟨h63, hF⟩ := chk_some hF
        refine ow_pw rfl (pw_append 5 (l' := ([r57.1] : List ByteArray)) rfl rfl rfl rfl rfl rfl (by kernel_rfl) (by kernel_rfl) rfl rfl rfl (src_own (E' := 9) 0 rfl (by kernel_rfl) rfl) rfl h63.1 h63.2 fun p64 c65 => nw_H (H' := [own eStr 9 p61 1 ([r57.1] : List ByteArray), imm I, pt b0 #[.map (some r57_b1), .map (some r57_b3), .string r57.2.twins_.e0, .string r57.2.twins_.e1, .bool r57.2.found_, .bool r57.2.full_, .int .i64 r57.2.sums_] 60, mpo kStr kStr r57_b1 r57.2.table_, mpo kStr kStr r57_b3 r57.2.notes_, own eStr 9 p64 c65 (l23 ++ ([r57.1] : List ByteArray))] ++ F0) rfl (nw_ow ?_))
        refine ow_vals 1 (j := 7) [0, 1, 5, 6] [(0, .pointer (some ⟨b0, 0, none⟩)), (1, .slice p0 x1.length c0), (5, .slice p64 (l23 ++ ([r57.1] : List ByteArray)).length c65), (6, .int .i64 x27)] rfl (by kernel_rfl) ?_
        refine ow_end rfl ?_
        refine ew_blk ?_
        refine ew_then ?_
        refine cw_region ?_
        refine ow_vals 3 (j := 3) [0, 1, 5, 6] [(0, .pointer (some ⟨b0, 0, none⟩)), (1, .slice p0 x1.length c0), (5, .slice p64 (l23 ++ ([r57.1] : List ByteArray)).length c65), (6, .int .i64 (IntKind.i64.wrap (x27 + 1)))] rfl (by kernel_rfl) ?_
        refine ow_end rfl ?_
        have hR := Option.some.inj hF
        subst hR
        have hR := hL22
        try dsimp only at hR
        exact fun a w hf hs => ⟨k, Nat.lt_succ_self k, l23 ++ ([r57.1] : List ByteArray), IntKind.i64.wrap (x27 + 1), r57.2.table_, r57.2.notes_, r57.2.twins_.e0, r57.2.twins_.e1, r57.2.found_, r57.2.full_, r57.2.sums_, p64, c65, r57_b1, r57_b3, hR, hf.keep [0, 1, 5, 6], sat_to [0, 0, 0, 2, 0, 0] 1 rfl hs⟩
  · rintro a w ⟨l66, l70, l73, s76, s77, x78, x79, x80, p67, c68, b72, b75, hv, hf, hs⟩
    subst hv
    replace hF := hK21
    clear hK21
    try dsimp only at hF
    revert a w
    show CW _ _ _ 34 [(5, .slice p67 l66.length c68)] (SAT w0 ([imm I, pt b0 #[.map (some b72), .map (some b75), .string s76, .string s77, .bool x78, .bool x79, .int .i64 x80] 60, own eStr 9 p67 c68 l66, mpo kStr kStr b72 l70, mpo kStr kStr b75 l73] ++ F0))
    unfold F.law07_Leaves.r3 at hF
    refine cw_seq ?_
    refine cw_region ?_
    refine ow_vals 2 (j := 2) [4] [(4, .slice p67 l66.length c68)] rfl (by kernel_rfl) ?_
    refine ow_end rfl ?_
    refine ew_then ?_
    refine cw_ret ?_
    have hR := Option.some.inj hF
    subst hR
    exact fin1 (H1 := [imm I, pt b0 #[.map (some b72), .map (some b75), .string (((⟨l70, l73, (⟨s76, s77⟩ : A2_ByteArray), x78, x79, x80⟩ : mill_Mill).twins_).e0), .string (((⟨l70, l73, (⟨s76, s77⟩ : A2_ByteArray), x78, x79, x80⟩ : mill_Mill).twins_).e1), .bool ((⟨l70, l73, (⟨s76, s77⟩ : A2_ByteArray), x78, x79, x80⟩ : mill_Mill).found_), .bool ((⟨l70, l73, (⟨s76, s77⟩ : A2_ByteArray), x78, x79, x80⟩ : mill_Mill).full_), .int .i64 ((⟨l70, l73, (⟨s76, s77⟩ : A2_ByteArray), x78, x79, x80⟩ : mill_Mill).sums_)] 60, own eStr 9 p67 c68 l66, mpo kStr kStr b72 ((⟨l70, l73, (⟨s76, s77⟩ : A2_ByteArray), x78, x79, x80⟩ : mill_Mill).table_), mpo kStr kStr b75 ((⟨l70, l73, (⟨s76, s77⟩ : A2_ByteArray), x78, x79, x80⟩ : mill_Mill).notes_)]) (fun w hs => sat_to [0, 0, 0, 0, 0] 0 rfl hs) rfl (rr_tmp rfl) ⟨p67, c68, b72, b75, rfl, rfl⟩


def F.law07_below.l1 (x0 : Int) (x23 : Int) : Option ((Int) ⊕ (Int)) :=
  if decide ((IntKind.i64.wrap (2 * x23)) < x0) then (some (.inl (IntKind.i64.wrap (2 * x23)))) else (some (.inr (x23)))
def F.law07_below.r2 (x25 : Int) : Option (Int) :=
  some (x25)
def F.law07_below (x0 : Int) : Option Int :=
  Option.bind (iter (fun x => F.law07_below.l1 x0 x) FUEL 1) (fun x => F.law07_below.r2 x)
set_option maxRecDepth 100000 in
set_option maxHeartbeats 4000000 in
theorem c_law07_below (I : Hl) (x0 : Int) (res : Int) (hF : F.law07_below x0 = some res) : Tr Try.prog 36 [.int .i64 x0] [imm I] (fun r H' => r = .int .i64 res ∧ H' = [imm I]) := by
  unfold F.law07_below at hF
  refine tr_of_cw (fn := Try.f36) Try.func36 rfl (Nat.le_of_ble_eq_true rfl) 11 rfl fun F0 w0 => ?_
  refine cw_keep [0] (L' := [(0, .int .i64 x0)]) rfl ?_
  refine cw_state (S' := SAT w0 ([imm I] ++ F0)) (fun w hs => hs) ?_
  refine cw_seq ?_
  refine cw_region ?_
  refine ow_vals 1 (j := 1) [0] [(0, .int .i64 x0)] rfl (by kernel_rfl) ?_
  refine ow_end rfl ?_
  refine ew_then ?_
  refine cw_seq ?_
  refine cw_region ?_
  refine ow_vals 1 (j := 1) [0, 3] [(0, .int .i64 x0), (3, .int .i64 1)] rfl (by kernel_rfl) ?_
  refine ow_end rfl ?_
  refine ew_then ?_
  obtain ⟨v21, hF, hK21⟩ := bind_some hF
  refine cw_mid (fun a w => ∃ (x25 : Int), x25 = v21 ∧ Fr 11 [(3, .int .i64 x25)] a ∧ SAT w0 ([imm I] ++ F0) w) ?_ ?_
  · refine cw_block ?_
    refine fun a w hf hs => wp_rounds (fun k a w => ∃ (x23 : Int), iter (fun x => F.law07_below.l1 x0 x) k x23 = some v21 ∧ Fr 11 [(0, .int .i64 x0), (3, .int .i64 x23)] a ∧ SAT w0 ([imm I] ++ F0) w) ?_ FUEL a w ⟨1, hF, hf.keep [0, 3], sat_to [0] 0 rfl hs⟩
    clear hf hs
    clear a w hF
    rintro k a w ⟨x23, hF2, hf, hs⟩
    obtain ⟨k, r22, rfl, hF, hL22⟩ := iter_some hF2
    clear hF2
    revert a w
    show CW _ _ _ 11 [(0, .int .i64 x0), (3, .int .i64 x23)] (SAT w0 ([imm I] ++ F0))
    try dsimp only at hF
    unfold F.law07_below.l1 at hF
    refine cw_seq ?_
    refine cw_seq ?_
    refine cw_region ?_
    refine ow_vals 4 (j := 4) [0, 3, 7] [(0, .int .i64 x0), (3, .int .i64 x23), (7, .bool (decide ((IntKind.i64.wrap (2 * x23)) < x0)))] rfl (by kernel_rfl) ?_
    refine ow_end rfl ?_
    refine ew_then ?_
    rcases if_some hF with ⟨h24, hF⟩ | ⟨h24, hF⟩
    · refine cw_cond_t rfl rfl h24 ?_
      refine cw_skip ?_
      refine ew_then ?_
      refine cw_block ?_
      refine cw_region ?_
      refine ow_vals 3 (j := 3) [0, 3] [(0, .int .i64 x0), (3, .int .i64 (IntKind.i64.wrap (2 * x23)))] rfl (by kernel_rfl) ?_
      refine ow_end rfl ?_
      refine ew_blk ?_
      have hR := Option.some.inj hF
      subst hR
      have hR := hL22
      try dsimp only at hR
      exact fun a w hf hs => ⟨k, Nat.lt_succ_self k, IntKind.i64.wrap (2 * x23), hR, hf.keep [0, 3], sat_to [0] 0 rfl hs⟩
    · refine cw_cond_f rfl rfl h24 ?_
      refine cw_exit ?_
      refine ew_then_exit ?_
      refine ew_then_exit ?_
      refine ew_blk_exit ?_
      have hR := Option.some.inj hF
      subst hR
      have hR := hL22
      try dsimp only at hR
      exact fun a w hf hs => ⟨x23, hR, hf.keep [3], sat_to [0] 0 rfl hs⟩
  · rintro a w ⟨x25, hv, hf, hs⟩
    subst hv
    replace hF := hK21
    clear hK21
    try dsimp only at hF
    revert a w
    show CW _ _ _ 11 [(3, .int .i64 x25)] (SAT w0 ([imm I] ++ F0))
    unfold F.law07_below.r2 at hF
    refine cw_seq ?_
    refine cw_region ?_
    refine ow_vals 2 (j := 2) [2] [(2, .int .i64 x25)] rfl (by kernel_rfl) ?_
    refine ow_end rfl ?_
    refine ew_then ?_
    refine cw_ret ?_
    have hR := Option.some.inj hF
    subst hR
    exact fin1 (H1 := [imm I]) (fun w hs => sat_to [0] 0 rfl hs) rfl (rr_tmp rfl) ⟨rfl, rfl⟩


def F.law07_Root : Nat → (List ByteArray) → mill_Mill → Option (ByteArray × mill_Mill)
  | 0, _, _ => none
  | k + 1, x1, m0 => if (x1.length : Int) == 0 then (Option.bind (F.pledge_None m0) (fun (r22 : ByteArray × mill_Mill) => some ((r22.1, r22.2)))) else (if (x1.length : Int) == 1 then (Option.bind (at_ x1 0) (fun (y27 : ByteArray) => some ((y27, m0)))) else (Option.bind (F.law07_below (x1.length : Int)) (fun (r31 : Int) => chk (0 ≤ (0 : Int) ∧ (0 : Int) ≤ r31 ∧ r31 ≤ (x1.length : Int)) (chk (0 ≤ r31 ∧ r31 ≤ (x1.length : Int) ∧ (x1.length : Int) ≤ (x1.length : Int)) (Option.bind ((F.law07_Root k) ((x1.drop (0 : Int).toNat).take (r31.toNat - (0 : Int).toNat)) m0) (fun (r41 : ByteArray × mill_Mill) => Option.bind ((F.law07_Root k) ((x1.drop r31.toNat).take ((x1.length : Int).toNat - r31.toNat)) r41.2) (fun (r45 : ByteArray × mill_Mill) => Option.bind (F.pledge_Node r41.1 r45.1 r45.2) (fun (r49 : ByteArray × mill_Mill) => some ((r49.1, r49.2))))))))))
set_option maxRecDepth 100000 in
set_option maxHeartbeats 4000000 in
theorem c_law07_Root (k : Nat) : ∀ (I : Hl) (x1 : List ByteArray) (m0 : mill_Mill) (p0 : Option Addr) (c0 : Nat) (p1 : Nat) (p2 : Nat) (b0 : Nat) (res : ByteArray × mill_Mill) (hF : F.law07_Root k x1 m0 = some res) (hr0 : ro I eStr p0 c0 x1), Tr Try.prog 21 [.pointer (some ⟨b0, 0, none⟩), .slice p0 x1.length c0] [imm I, pt b0 #[.map (some p1), .map (some p2), .string m0.twins_.e0, .string m0.twins_.e1, .bool m0.found_, .bool m0.full_, .int .i64 m0.sums_] 60, mpo kStr kStr p1 m0.table_, mpo kStr kStr p2 m0.notes_] (fun r H' => ∃ (b1 : Nat), ∃ (b3 : Nat), r = .string res.1 ∧ H' = [imm I, pt b0 #[.map (some b1), .map (some b3), .string res.2.twins_.e0, .string res.2.twins_.e1, .bool res.2.found_, .bool res.2.full_, .int .i64 res.2.sums_] 60, mpo kStr kStr b1 res.2.table_, mpo kStr kStr b3 res.2.notes_]) := by
  induction k with
  | zero => intro I x1 m0 p0 c0 p1 p2 b0 res hF hr0; cases hF
  | succ k ih =>
    intro I x1 m0 p0 c0 p1 p2 b0 res hF hr0
    rw [F.law07_Root] at hF
    refine tr_of_cw (fn := Try.f21) Try.func21 rfl (Nat.le_of_ble_eq_true rfl) 32 rfl fun F0 w0 => ?_
    refine cw_keep [0, 1] (L' := [(0, .pointer (some ⟨b0, 0, none⟩)), (1, .slice p0 x1.length c0)]) rfl ?_
    refine cw_state (S' := SAT w0 ([imm I, pt b0 #[.map (some p1), .map (some p2), .string m0.twins_.e0, .string m0.twins_.e1, .bool m0.found_, .bool m0.full_, .int .i64 m0.sums_] 60, mpo kStr kStr p1 m0.table_, mpo kStr kStr p2 m0.notes_] ++ F0)) (fun w hs => hs) ?_
    refine cw_seq ?_
    refine cw_region ?_
    refine ow_vals 1 (j := 1) [0, 1] [(0, .pointer (some ⟨b0, 0, none⟩)), (1, .slice p0 x1.length c0)] rfl (by kernel_rfl) ?_
    refine ow_end rfl ?_
    refine ew_then ?_
    refine cw_seq ?_
    refine cw_seq ?_
    refine cw_region ?_
    refine ow_vals 3 (j := 3) [0, 1, 8] [(0, .pointer (some ⟨b0, 0, none⟩)), (1, .slice p0 x1.length c0), (8, .bool ((x1.length : Int) == 0))] rfl (by kernel_rfl) ?_
    refine ow_end rfl ?_
    refine ew_then ?_
    rcases if_some hF with ⟨h21, hF⟩ | ⟨h21, hF⟩
    · refine cw_cond_t rfl rfl h21 ?_
      refine cw_seq ?_
      refine cw_region ?_
      refine ow_vals 1 (j := 1) [9] [(9, .pointer (some ⟨b0, 0, none⟩))] rfl (by kernel_rfl) ?_
      obtain ⟨r22, h23, hF⟩ := bind_some hF
      refine ow_pw rfl (pw_call (F := [] ++ F0) rfl rfl rfl rfl rfl rfl rfl (by kernel_rfl) (perm_of_pulls [0, 0, 0, 0] rfl) (c_pledge_None _ m0 p1 p2 b0 r22 h23) ?_)
      rintro _ _ ⟨r22_b1, r22_b3, rfl, rfl⟩
      refine nw_H (H' := [imm I, pt b0 #[.map (some r22_b1), .map (some r22_b3), .string r22.2.twins_.e0, .string r22.2.twins_.e1, .bool r22.2.found_, .bool r22.2.full_, .int .i64 r22.2.sums_] 60, mpo kStr kStr r22_b1 r22.2.table_, mpo kStr kStr r22_b3 r22.2.notes_] ++ F0) rfl (nw_ow ?_)
      refine ow_vals 1 (j := 3) [4] [(4, .string r22.1)] rfl (by kernel_rfl) ?_
      refine ow_end rfl ?_
      refine ew_then ?_
      refine cw_ret ?_
      refine ew_then_ret ?_
      have hR := Option.some.inj hF
      subst hR
      exact fin1 (H1 := [imm I, pt b0 #[.map (some r22_b1), .map (some r22_b3), .string r22.2.twins_.e0, .string r22.2.twins_.e1, .bool r22.2.found_, .bool r22.2.full_, .int .i64 r22.2.sums_] 60, mpo kStr kStr r22_b1 r22.2.table_, mpo kStr kStr r22_b3 r22.2.notes_]) (fun w hs => sat_to [0, 0, 0, 0] 0 rfl hs) rfl (rr_tmp rfl) ⟨r22_b1, r22_b3, rfl, rfl⟩
    · refine cw_cond_f rfl rfl h21 ?_
      refine cw_skip ?_
      refine ew_then ?_
      refine cw_seq ?_
      refine cw_seq ?_
      refine cw_region ?_
      refine ow_vals 3 (j := 3) [0, 1, 13] [(0, .pointer (some ⟨b0, 0, none⟩)), (1, .slice p0 x1.length c0), (13, .bool ((x1.length : Int) == 1))] rfl (by kernel_rfl) ?_
      refine ow_end rfl ?_
      refine ew_then ?_
      rcases if_some hF with ⟨h26, hF⟩ | ⟨h26, hF⟩
      · refine cw_cond_t rfl rfl h26 ?_
        refine cw_seq ?_
        refine cw_region ?_
        refine ow_vals 1 (j := 1) [14] [(14, .slice p0 x1.length c0)] rfl (by kernel_rfl) ?_
        obtain ⟨y27, h28, hF⟩ := bind_some hF
        refine ow_pw rfl (pw_index_ro (E := 9) 1 hr0 rfl rfl rfl rfl rfl (by kernel_rfl) rfl rfl rfl h28 fun q29 h30 => nw_ow ?_)
        refine ow_pw rfl (pw_quiet (v := .string y27) rfl rfl rfl rfl (q_load_el0 0 rfl h30 rfl rfl (by kernel_rfl)) (nw_ow ?_))
        refine ow_vals 1 (j := 4) [4] [(4, .string y27)] rfl (by kernel_rfl) ?_
        refine ow_end rfl ?_
        refine ew_then ?_
        refine cw_ret ?_
        refine ew_then_ret ?_
        have hR := Option.some.inj hF
        subst hR
        exact fin1 (H1 := [imm I, pt b0 #[.map (some p1), .map (some p2), .string m0.twins_.e0, .string m0.twins_.e1, .bool m0.found_, .bool m0.full_, .int .i64 m0.sums_] 60, mpo kStr kStr p1 m0.table_, mpo kStr kStr p2 m0.notes_]) (fun w hs => sat_to [0, 0, 0, 0] 0 rfl hs) rfl (rr_tmp rfl) ⟨p1, p2, rfl, rfl⟩
      · refine cw_cond_f rfl rfl h26 ?_
        refine cw_skip ?_
        refine ew_then ?_
        refine cw_seq ?_
        refine cw_region ?_
        refine ow_vals 2 (j := 2) [0, 1, 18] [(0, .pointer (some ⟨b0, 0, none⟩)), (1, .slice p0 x1.length c0), (18, .int .i64 (x1.length : Int))] rfl (by kernel_rfl) ?_
        obtain ⟨r31, h32, hF⟩ := bind_some hF
        refine ow_pw rfl (pw_call (F := [pt b0 #[.map (some p1), .map (some p2), .string m0.twins_.e0, .string m0.twins_.e1, .bool m0.found_, .bool m0.full_, .int .i64 m0.sums_] 60, mpo kStr kStr p1 m0.table_, mpo kStr kStr p2 m0.notes_] ++ F0) rfl rfl rfl rfl rfl rfl rfl (by kernel_rfl) (perm_of_pulls [0] rfl) (c_law07_below _ (x1.length : Int) r31 h32) ?_)
        rintro _ _ ⟨rfl, rfl⟩
        refine nw_H (H' := [imm I, pt b0 #[.map (some p1), .map (some p2), .string m0.twins_.e0, .string m0.twins_.e1, .bool m0.found_, .bool m0.full_, .int .i64 m0.sums_] 60, mpo kStr kStr p1 m0.table_, mpo kStr kStr p2 m0.notes_] ++ F0) rfl (nw_ow ?_)
        refine ow_vals 1 (j := 4) [0, 1, 5] [(0, .pointer (some ⟨b0, 0, none⟩)), (1, .slice p0 x1.length c0), (5, .int .i64 r31)] rfl (by kernel_rfl) ?_
        refine ow_end rfl ?_
        refine ew_then ?_
        refine cw_seq ?_
        refine cw_open 11 (SAT w0 ([imm I])) (by kernel_rfl) (f := 13) rfl (fun w hs => sat_drew hs) ?_
        refine aw_vals [0, 1, 2, 3, 6, 7, 8] (f' := 6) (m' := 463) [20, 21, 22, 23, 26, 27, 28] [(20, .pointer (some ⟨b0, 0, none⟩)), (21, .pointer (some ⟨b0, 0, none⟩)), (22, .slice p0 x1.length c0), (23, .int .i64 r31), (26, .pointer (some ⟨b0, 0, none⟩)), (27, .slice p0 x1.length c0), (28, .int .i64 r31)] (fun _ _ _ _ _ h => calm_fin (P := Try.prog) (fn := Try.f21) _ _ _ _ _ h) (fun w hs => sat_pulls [0] (G := [pt b0 #[.map (some p1), .map (some p2), .string m0.twins_.e0, .string m0.twins_.e1, .bool m0.found_, .bool m0.full_, .int .i64 m0.sums_] 60, mpo kStr kStr p1 m0.table_, mpo kStr kStr p2 m0.notes_] ++ F0) rfl hs) rfl (by kernel_rfl) ?_
        obtain ⟨h33, hF⟩ := chk_some hF
        refine aw_slice_ro (E := 9) 4 (m' := 479) 1 hr0 rfl rfl rfl rfl rfl (by kernel_rfl) (by kernel_rfl) (fun _ _ _ _ _ h => calm_fin (P := Try.prog) (fn := Try.f21) _ _ _ _ _ h) (fun w hs => sat_pulls [0] (G := [pt b0 #[.map (some p1), .map (some p2), .string m0.twins_.e0, .string m0.twins_.e1, .bool m0.found_, .bool m0.full_, .int .i64 m0.sums_] 60, mpo kStr kStr p1 m0.table_, mpo kStr kStr p2 m0.notes_] ++ F0) rfl hs) (by kernel_rfl) rfl rfl rfl rfl h33 fun p34 c35 h36 => ?_
        obtain ⟨h37, hF⟩ := chk_some hF
        refine aw_slice_ro (E := 9) 9 (m' := 991) 1 hr0 rfl rfl rfl rfl rfl (by kernel_rfl) (by kernel_rfl) (fun _ _ _ _ _ h => calm_fin (P := Try.prog) (fn := Try.f21) _ _ _ _ _ h) (fun w hs => sat_pulls [0] (G := [pt b0 #[.map (some p1), .map (some p2), .string m0.twins_.e0, .string m0.twins_.e1, .bool m0.found_, .bool m0.full_, .int .i64 m0.sums_] 60, mpo kStr kStr p1 m0.table_, mpo kStr kStr p2 m0.notes_] ++ F0) rfl hs) (by kernel_rfl) rfl rfl rfl rfl h37 fun p38 c39 h40 => ?_
        obtain ⟨r41, h42, hF⟩ := bind_some hF
        refine aw_only 5 (m' := 1023) (by kernel_rfl) (by kernel_rfl) (pw_call (F := [] ++ F0) rfl rfl rfl rfl rfl rfl rfl (by kernel_rfl) (perm_of_pulls [0, 0, 0, 0] rfl) (ih _ ((x1.drop (0 : Int).toNat).take (r31.toNat - (0 : Int).toNat)) m0 p34 c35 p1 p2 b0 r41 h42 h36) ?_)
        rintro _ _ ⟨r41_b1, r41_b3, rfl, rfl⟩
        refine nw_H (H' := [imm I, pt b0 #[.map (some r41_b1), .map (some r41_b3), .string r41.2.twins_.e0, .string r41.2.twins_.e1, .bool r41.2.found_, .bool r41.2.full_, .int .i64 r41.2.sums_] 60, mpo kStr kStr r41_b1 r41.2.table_, mpo kStr kStr r41_b3 r41.2.notes_] ++ F0) rfl (aw_next (fun w hs => sat_pulls [0] (G := [pt b0 #[.map (some r41_b1), .map (some r41_b3), .string r41.2.twins_.e0, .string r41.2.twins_.e1, .bool r41.2.found_, .bool r41.2.full_, .int .i64 r41.2.sums_] 60, mpo kStr kStr r41_b1 r41.2.table_, mpo kStr kStr r41_b3 r41.2.notes_] ++ F0) rfl hs) ?_)
        obtain ⟨r45, h46, hF⟩ := bind_some hF
        refine aw_only 10 (m' := 2047) (by kernel_rfl) (by kernel_rfl) (pw_call (F := [] ++ F0) rfl rfl rfl rfl rfl rfl rfl (by kernel_rfl) (perm_of_pulls [0, 0, 0, 0] rfl) (ih _ ((x1.drop r31.toNat).take ((x1.length : Int).toNat - r31.toNat)) r41.2 p38 c39 r41_b1 r41_b3 b0 r45 h46 h40) ?_)
        rintro _ _ ⟨r45_b1, r45_b3, rfl, rfl⟩
        refine nw_H (H' := [imm I, pt b0 #[.map (some r45_b1), .map (some r45_b3), .string r45.2.twins_.e0, .string r45.2.twins_.e1, .bool r45.2.found_, .bool r45.2.full_, .int .i64 r45.2.sums_] 60, mpo kStr kStr r45_b1 r45.2.table_, mpo kStr kStr r45_b3 r45.2.notes_] ++ F0) rfl (aw_next (fun w hs => sat_pulls [0] (G := [pt b0 #[.map (some r45_b1), .map (some r45_b3), .string r45.2.twins_.e0, .string r45.2.twins_.e1, .bool r45.2.found_, .bool r45.2.full_, .int .i64 r45.2.sums_] 60, mpo kStr kStr r45_b1 r45.2.table_, mpo kStr kStr r45_b3 r45.2.notes_] ++ F0) rfl hs) ?_)
        obtain ⟨r49, h50, hF⟩ := bind_some hF
        refine aw_only 11 (m' := 4095) (by kernel_rfl) (by kernel_rfl) (pw_call (F := [] ++ F0) rfl rfl rfl rfl rfl rfl rfl (by kernel_rfl) (perm_of_pulls [0, 0, 0, 0] rfl) (c_pledge_Node _ r41.1 r45.1 r45.2 r45_b1 r45_b3 b0 r49 h50) ?_)
        rintro _ _ ⟨r49_b1, r49_b3, rfl, rfl⟩
        refine nw_H (H' := [imm I, pt b0 #[.map (some r49_b1), .map (some r49_b3), .string r49.2.twins_.e0, .string r49.2.twins_.e1, .bool r49.2.found_, .bool r49.2.full_, .int .i64 r49.2.sums_] 60, mpo kStr kStr r49_b1 r49.2.table_, mpo kStr kStr r49_b3 r49.2.notes_] ++ F0) rfl (aw_last (by kernel_rfl) ?_)
        refine aw_past (by kernel_rfl) ?_
        refine aw_vals [12] (f' := 0) (m' := 8191) [4] [(4, .string r49.1)] (fun _ _ _ _ _ h => calm_fin (P := Try.prog) (fn := Try.f21) _ _ _ _ _ h) (fun _ _ => trivial) rfl (by kernel_rfl) ?_
        refine aw_keep [4] (L' := [(4, .string r49.1)]) rfl ?_
        refine aw_end (by kernel_rfl) ?_
        refine ew_then ?_
        refine cw_ret ?_
        have hR := Option.some.inj hF
        subst hR
        exact fin1 (H1 := [imm I, pt b0 #[.map (some r49_b1), .map (some r49_b3), .string r49.2.twins_.e0, .string r49.2.twins_.e1, .bool r49.2.found_, .bool r49.2.full_, .int .i64 r49.2.sums_] 60, mpo kStr kStr r49_b1 r49.2.table_, mpo kStr kStr r49_b3 r49.2.notes_]) (fun w hs => sat_to [0, 0, 0, 0] 0 rfl hs) rfl (rr_tmp rfl) ⟨r49_b1, r49_b3, rfl, rfl⟩


def F.law30_beside.l1 (r46 : (List ByteArray) × mill_Mill) (l53 : List ByteArray) (x57 : Int) : Option (((List ByteArray) × Int) ⊕ ((List ByteArray))) :=
  if decide (x57 < (r46.1.length : Int)) then (Option.bind (at_ r46.1 x57) (fun (y59 : ByteArray) => chk (room (l53.length + ([y59] : List ByteArray).length) 16) (some (.inl (l53 ++ ([y59] : List ByteArray), IntKind.i64.wrap (x57 + 1)))))) else (some (.inr (l53)))
def F.law30_beside.r2 (r46 : (List ByteArray) × mill_Mill) (l66 : List ByteArray) : Option ((List ByteArray) × mill_Mill) :=
  some ((l66, r46.2))
def F.law30_beside : Nat → (List ByteArray) → Int → (List Int) → mill_Mill → Option ((List ByteArray) × mill_Mill)
  | 0, _, _, _, _ => none
  | k + 1, x1, x2, x3, m0 => Option.bind (F.law30_some x3 x2 (x1.length : Int)) (fun (r21 : Bool) => if !r21 then (Option.bind (F.law07_Root FUEL x1 m0) (fun (r24 : ByteArray × mill_Mill) => some ((([r24.1] : List ByteArray), r24.2)))) else (if (x1.length : Int) == 1 then (some ((([] : List ByteArray), m0))) else (Option.bind (F.law30_below (x1.length : Int)) (fun (r31 : Int) => chk (0 ≤ (0 : Int) ∧ (0 : Int) ≤ r31 ∧ r31 ≤ (x1.length : Int)) (Option.bind ((F.law30_beside k) ((x1.drop (0 : Int).toNat).take (r31.toNat - (0 : Int).toNat)) x2 x3 m0) (fun (r37 : (List ByteArray) × mill_Mill) => chk (0 ≤ r31 ∧ r31 ≤ (x1.length : Int) ∧ (x1.length : Int) ≤ (x1.length : Int)) (Option.bind ((F.law30_beside k) ((x1.drop r31.toNat).take ((x1.length : Int).toNat - r31.toNat)) (IntKind.i64.wrap (x2 + r31)) x3 r37.2) (fun (r46 : (List ByteArray) × mill_Mill) => Option.bind (iter (fun x => F.law30_beside.l1 r46 x.1 x.2) FUEL (r37.1, 0)) (fun x => F.law30_beside.r2 r46 x)))))))))
set_option maxRecDepth 100000 in
set_option maxHeartbeats 4000000 in
theorem c_law30_beside (k : Nat) : ∀ (I : Hl) (x1 : List ByteArray) (x2 : Int) (x3 : List Int) (m0 : mill_Mill) (p0 : Option Addr) (c0 : Nat) (p1 : Option Addr) (c1 : Nat) (p2 : Nat) (p3 : Nat) (b0 : Nat) (res : (List ByteArray) × mill_Mill) (hF : F.law30_beside k x1 x2 x3 m0 = some res) (hr0 : ro I eStr p0 c0 x1) (hr1 : ro I (eInt .i64) p1 c1 x3), Tr Try.prog 20 [.pointer (some ⟨b0, 0, none⟩), .slice p0 x1.length c0, .int .i64 x2, .slice p1 x3.length c1] [imm I, pt b0 #[.map (some p2), .map (some p3), .string m0.twins_.e0, .string m0.twins_.e1, .bool m0.found_, .bool m0.full_, .int .i64 m0.sums_] 60, mpo kStr kStr p2 m0.table_, mpo kStr kStr p3 m0.notes_] (fun r H' => ∃ (p1 : Option Addr), ∃ (c2 : Nat), ∃ (b4 : Nat), ∃ (b6 : Nat), r = .slice p1 res.1.length c2 ∧ H' = [imm I, pt b0 #[.map (some b4), .map (some b6), .string res.2.twins_.e0, .string res.2.twins_.e1, .bool res.2.found_, .bool res.2.full_, .int .i64 res.2.sums_] 60, own eStr 9 p1 c2 res.1, mpo kStr kStr b4 res.2.table_, mpo kStr kStr b6 res.2.notes_]) := by
  induction k with
  | zero => intro I x1 x2 x3 m0 p0 c0 p1 c1 p2 p3 b0 res hF hr0 hr1; cases hF
  | succ k ih =>
    intro I x1 x2 x3 m0 p0 c0 p1 c1 p2 p3 b0 res hF hr0 hr1
    rw [F.law30_beside] at hF
    refine tr_of_cw (fn := Try.f20) Try.func20 rfl (Nat.le_of_ble_eq_true rfl) 59 rfl fun F0 w0 => ?_
    refine cw_keep [0, 1, 2, 3] (L' := [(0, .pointer (some ⟨b0, 0, none⟩)), (1, .slice p0 x1.length c0), (2, .int .i64 x2), (3, .slice p1 x3.length c1)]) rfl ?_
    refine cw_state (S' := SAT w0 ([imm I, pt b0 #[.map (some p2), .map (some p3), .string m0.twins_.e0, .string m0.twins_.e1, .bool m0.found_, .bool m0.full_, .int .i64 m0.sums_] 60, mpo kStr kStr p2 m0.table_, mpo kStr kStr p3 m0.notes_] ++ F0)) (fun w hs => hs) ?_
    refine cw_seq ?_
    refine cw_region ?_
    refine ow_vals 1 (j := 1) [0, 1, 2, 3] [(0, .pointer (some ⟨b0, 0, none⟩)), (1, .slice p0 x1.length c0), (2, .int .i64 x2), (3, .slice p1 x3.length c1)] rfl (by kernel_rfl) ?_
    refine ow_end rfl ?_
    refine ew_then ?_
    refine cw_seq ?_
    refine cw_seq ?_
    refine cw_region ?_
    refine ow_vals 4 (j := 4) [0, 1, 2, 3, 13, 14, 16] [(0, .pointer (some ⟨b0, 0, none⟩)), (1, .slice p0 x1.length c0), (2, .int .i64 x2), (3, .slice p1 x3.length c1), (13, .slice p1 x3.length c1), (14, .int .i64 x2), (16, .int .i64 (x1.length : Int))] rfl (by kernel_rfl) ?_
    obtain ⟨r21, h22, hF⟩ := bind_some hF
    refine ow_pw rfl (pw_call (F := [pt b0 #[.map (some p2), .map (some p3), .string m0.twins_.e0, .string m0.twins_.e1, .bool m0.found_, .bool m0.full_, .int .i64 m0.sums_] 60, mpo kStr kStr p2 m0.table_, mpo kStr kStr p3 m0.notes_] ++ F0) rfl rfl rfl rfl rfl rfl rfl (by kernel_rfl) (perm_of_pulls [0] rfl) (c_law30_some _ x3 x2 (x1.length : Int) p1 c1 r21 h22 hr1) ?_)
    rintro _ _ ⟨rfl, rfl⟩
    refine nw_H (H' := [imm I, pt b0 #[.map (some p2), .map (some p3), .string m0.twins_.e0, .string m0.twins_.e1, .bool m0.found_, .bool m0.full_, .int .i64 m0.sums_] 60, mpo kStr kStr p2 m0.table_, mpo kStr kStr p3 m0.notes_] ++ F0) rfl (nw_ow ?_)
    refine ow_vals 1 (j := 6) [0, 1, 2, 3, 18] [(0, .pointer (some ⟨b0, 0, none⟩)), (1, .slice p0 x1.length c0), (2, .int .i64 x2), (3, .slice p1 x3.length c1), (18, .bool (!r21))] rfl (by kernel_rfl) ?_
    refine ow_end rfl ?_
    refine ew_then ?_
    rcases if_some hF with ⟨h23, hF⟩ | ⟨h23, hF⟩
    · refine cw_cond_t rfl rfl h23 ?_
      refine cw_seq ?_
      refine cw_region ?_
      refine ow_vals 2 (j := 2) [19, 20] [(19, .pointer (some ⟨b0, 0, none⟩)), (20, .slice p0 x1.length c0)] rfl (by kernel_rfl) ?_
      obtain ⟨r24, h25, hF⟩ := bind_some hF
      refine ow_pw rfl (pw_call (F := [] ++ F0) rfl rfl rfl rfl rfl rfl rfl (by kernel_rfl) (perm_of_pulls [0, 0, 0, 0] rfl) (c_law07_Root FUEL _ x1 m0 p0 c0 p2 p3 b0 r24 h25 hr0) ?_)
      rintro _ _ ⟨r24_b1, r24_b3, rfl, rfl⟩
      refine nw_H (H' := [imm I, pt b0 #[.map (some r24_b1), .map (some r24_b3), .string r24.2.twins_.e0, .string r24.2.twins_.e1, .bool r24.2.found_, .bool r24.2.full_, .int .i64 r24.2.sums_] 60, mpo kStr kStr r24_b1 r24.2.table_, mpo kStr kStr r24_b3 r24.2.notes_] ++ F0) rfl (nw_ow ?_)
      refine ow_pw rfl (pw_buildSlice (E := 9) eStr ([r24.1] : List ByteArray) rfl rfl rfl rfl rfl (by kernel_rfl) rfl (by kernel_rfl) rfl (by decide) rfl fun p28 => nw_ow ?_)
      refine ow_vals 1 (j := 5) [8] [(8, .slice p28 ([r24.1] : List ByteArray).length 1)] rfl (by kernel_rfl) ?_
      refine ow_end rfl ?_
      refine ew_then ?_
      refine cw_ret ?_
      refine ew_then_ret ?_
      have hR := Option.some.inj hF
      subst hR
      exact fin1 (H1 := [imm I, pt b0 #[.map (some r24_b1), .map (some r24_b3), .string r24.2.twins_.e0, .string r24.2.twins_.e1, .bool r24.2.found_, .bool r24.2.full_, .int .i64 r24.2.sums_] 60, own eStr 9 p28 1 ([r24.1] : List ByteArray), mpo kStr kStr r24_b1 r24.2.table_, mpo kStr kStr r24_b3 r24.2.notes_]) (fun w hs => sat_to [1, 1, 0, 0, 0] 0 rfl hs) rfl (rr_tmp rfl) ⟨p28, 1, r24_b1, r24_b3, rfl, rfl⟩
    · refine cw_cond_f rfl rfl h23 ?_
      refine cw_skip ?_
      refine ew_then ?_
      refine cw_seq ?_
      refine cw_seq ?_
      refine cw_region ?_
      refine ow_vals 3 (j := 3) [0, 1, 2, 3, 25] [(0, .pointer (some ⟨b0, 0, none⟩)), (1, .slice p0 x1.length c0), (2, .int .i64 x2), (3, .slice p1 x3.length c1), (25, .bool ((x1.length : Int) == 1))] rfl (by kernel_rfl) ?_
      refine ow_end rfl ?_
      refine ew_then ?_
      rcases if_some hF with ⟨h30, hF⟩ | ⟨h30, hF⟩
      · refine cw_cond_t rfl rfl h30 ?_
        refine cw_seq ?_
        refine cw_region ?_
        refine ow_vals 1 (j := 1) [8] [(8, .slice none 0 0)] rfl (by kernel_rfl) ?_
        refine ow_end rfl ?_
        refine ew_then ?_
        refine cw_ret ?_
        refine ew_then_ret ?_
        have hR := Option.some.inj hF
        subst hR
        exact fin1 (H1 := [imm I, pt b0 #[.map (some p2), .map (some p3), .string m0.twins_.e0, .string m0.twins_.e1, .bool m0.found_, .bool m0.full_, .int .i64 m0.sums_] 60, own eStr 9 none 0 ([] : List ByteArray), mpo kStr kStr p2 m0.table_, mpo kStr kStr p3 m0.notes_]) (fun w hs => sat_to [1, 1, 0, 0, 0] 0 rfl (sat_own_nil eStr 9 hs)) rfl (rr_tmp rfl) ⟨none, 0, p2, p3, rfl, rfl⟩
      · refine cw_cond_f rfl rfl h30 ?_
        refine cw_skip ?_
        refine ew_then ?_
        refine cw_seq ?_
        refine cw_region ?_
        refine ow_vals 2 (j := 2) [0, 1, 2, 3, 27] [(0, .pointer (some ⟨b0, 0, none⟩)), (1, .slice p0 x1.length c0), (2, .int .i64 x2), (3, .slice p1 x3.length c1), (27, .int .i64 (x1.length : Int))] rfl (by kernel_rfl) ?_
        obtain ⟨r31, h32, hF⟩ := bind_some hF
        refine ow_pw rfl (pw_call (F := [pt b0 #[.map (some p2), .map (some p3), .string m0.twins_.e0, .string m0.twins_.e1, .bool m0.found_, .bool m0.full_, .int .i64 m0.sums_] 60, mpo kStr kStr p2 m0.table_, mpo kStr kStr p3 m0.notes_] ++ F0) rfl rfl rfl rfl rfl rfl rfl (by kernel_rfl) (perm_of_pulls [0] rfl) (c_law30_below _ (x1.length : Int) r31 h32) ?_)
        rintro _ _ ⟨rfl, rfl⟩
        refine nw_H (H' := [imm I, pt b0 #[.map (some p2), .map (some p3), .string m0.twins_.e0, .string m0.twins_.e1, .bool m0.found_, .bool m0.full_, .int .i64 m0.sums_] 60, mpo kStr kStr p2 m0.table_, mpo kStr kStr p3 m0.notes_] ++ F0) rfl (nw_ow ?_)
        refine ow_vals 1 (j := 4) [0, 1, 2, 3, 9] [(0, .pointer (some ⟨b0, 0, none⟩)), (1, .slice p0 x1.length c0), (2, .int .i64 x2), (3, .slice p1 x3.length c1), (9, .int .i64 r31)] rfl (by kernel_rfl) ?_
        refine ow_end rfl ?_
        refine ew_then ?_
        refine cw_seq ?_
        refine cw_region ?_
        refine ow_vals 3 (j := 3) [0, 1, 2, 3, 9, 29, 30, 31] [(0, .pointer (some ⟨b0, 0, none⟩)), (1, .slice p0 x1.length c0), (2, .int .i64 x2), (3, .slice p1 x3.length c1), (9, .int .i64 r31), (29, .pointer (some ⟨b0, 0, none⟩)), (30, .slice p0 x1.length c0), (31, .int .i64 r31)] rfl (by kernel_rfl) ?_
        obtain ⟨h33, hF⟩ := chk_some hF
        refine ow_pw rfl (pw_slice_ro (E := 9) 1 hr0 rfl rfl rfl rfl rfl (by kernel_rfl) rfl rfl rfl rfl h33 fun p34 c35 h36 => nw_ow ?_)
        refine ow_vals 2 (j := 6) [0, 1, 2, 3, 9, 29, 32, 33, 34] [(0, .pointer (some ⟨b0, 0, none⟩)), (1, .slice p0 x1.length c0), (2, .int .i64 x2), (3, .slice p1 x3.length c1), (9, .int .i64 r31), (29, .pointer (some ⟨b0, 0, none⟩)), (32, .slice p34 ((x1.drop (0 : Int).toNat).take (r31.toNat - (0 : Int).toNat)).length c35), (33, .int .i64 x2), (34, .slice p1 x3.length c1)] rfl (by kernel_rfl) ?_
        obtain ⟨r37, h38, hF⟩ := bind_some hF
        refine ow_pw rfl (pw_call (F := [] ++ F0) rfl rfl rfl rfl rfl rfl rfl (by kernel_rfl) (perm_of_pulls [0, 0, 0, 0] rfl) (ih _ ((x1.drop (0 : Int).toNat).take (r31.toNat - (0 : Int).toNat)) x2 x3 m0 p34 c35 p1 c1 p2 p3 b0 r37 h38 h36 hr1) ?_)
        rintro _ _ ⟨r37_p1, r37_c2, r37_b4, r37_b6, rfl, rfl⟩
        refine nw_H (H' := [imm I, pt b0 #[.map (some r37_b4), .map (some r37_b6), .string r37.2.twins_.e0, .string r37.2.twins_.e1, .bool r37.2.found_, .bool r37.2.full_, .int .i64 r37.2.sums_] 60, own eStr 9 r37_p1 r37_c2 r37.1, mpo kStr kStr r37_b4 r37.2.table_, mpo kStr kStr r37_b6 r37.2.notes_] ++ F0) rfl (nw_ow ?_)
        refine ow_vals 1 (j := 8) [0, 1, 2, 3, 9, 10] [(0, .pointer (some ⟨b0, 0, none⟩)), (1, .slice p0 x1.length c0), (2, .int .i64 x2), (3, .slice p1 x3.length c1), (9, .int .i64 r31), (10, .slice r37_p1 r37.1.length r37_c2)] rfl (by kernel_rfl) ?_
        refine ow_end rfl ?_
        refine ew_then ?_
        refine cw_seq ?_
        refine cw_region ?_
        refine ow_vals 3 (j := 3) [2, 3, 9, 10, 36, 37, 38] [(2, .int .i64 x2), (3, .slice p1 x3.length c1), (9, .int .i64 r31), (10, .slice r37_p1 r37.1.length r37_c2), (36, .pointer (some ⟨b0, 0, none⟩)), (37, .slice p0 x1.length c0), (38, .int .i64 r31)] rfl (by kernel_rfl) ?_
        obtain ⟨h42, hF⟩ := chk_some hF
        refine ow_pw rfl (pw_slice_ro (E := 9) 1 hr0 rfl rfl rfl rfl rfl (by kernel_rfl) rfl rfl rfl rfl h42 fun p43 c44 h45 => nw_ow ?_)
        refine ow_vals 4 (j := 8) [10, 36, 39, 42, 43] [(10, .slice r37_p1 r37.1.length r37_c2), (36, .pointer (some ⟨b0, 0, none⟩)), (39, .slice p43 ((x1.drop r31.toNat).take ((x1.length : Int).toNat - r31.toNat)).length c44), (42, .int .i64 (IntKind.i64.wrap (x2 + r31))), (43, .slice p1 x3.length c1)] rfl (by kernel_rfl) ?_
        obtain ⟨r46, h47, hF⟩ := bind_some hF
        refine ow_pw rfl (pw_call (F := [own eStr 9 r37_p1 r37_c2 r37.1] ++ F0) rfl rfl rfl rfl rfl rfl rfl (by kernel_rfl) (perm_of_pulls [0, 0, 1, 1] rfl) (ih _ ((x1.drop r31.toNat).take ((x1.length : Int).toNat - r31.toNat)) (IntKind.i64.wrap (x2 + r31)) x3 r37.2 p43 c44 p1 c1 r37_b4 r37_b6 b0 r46 h47 h45 hr1) ?_)
        rintro _ _ ⟨r46_p1, r46_c2, r46_b4, r46_b6, rfl, rfl⟩
        refine nw_H (H' := [imm I, pt b0 #[.map (some r46_b4), .map (some r46_b6), .string r46.2.twins_.e0, .string r46.2.twins_.e1, .bool r46.2.found_, .bool r46.2.full_, .int .i64 r46.2.sums_] 60, own eStr 9 r46_p1 r46_c2 r46.1, mpo kStr kStr r46_b4 r46.2.table_, mpo kStr kStr r46_b6 r46.2.notes_, own eStr 9 r37_p1 r37_c2 r37.1] ++ F0) rfl (nw_ow ?_)
        refine ow_vals 1 (j := 10) [10, 11] [(10, .slice r37_p1 r37.1.length r37_c2), (11, .slice r46_p1 r46.1.length r46_c2)] rfl (by kernel_rfl) ?_
        refine ow_end rfl ?_
        refine ew_then ?_
        obtain ⟨v51, hF, hK51⟩ := bind_some hF
        refine cw_mid (fun a w => ∃ (l66 : List ByteArray), ∃ (p67 : Option Addr), ∃ (c68 : Nat), l66 = v51 ∧ Fr 59 [(10, .slice p67 l66.length c68)] a ∧ SAT w0 ([imm I, pt b0 #[.map (some r46_b4), .map (some r46_b6), .string r46.2.twins_.e0, .string r46.2.twins_.e1, .bool r46.2.found_, .bool r46.2.full_, .int .i64 r46.2.sums_] 60, own eStr 9 p67 c68 l66, mpo kStr kStr r46_b4 r46.2.table_, mpo kStr kStr r46_b6 r46.2.notes_] ++ F0) w) ?_ ?_
        · refine cw_seq ?_
          refine cw_region ?_
          refine ow_vals 1 (j := 1) [10, 11, 12] [(10, .slice r37_p1 r37.1.length r37_c2), (11, .slice r46_p1 r46.1.length r46_c2), (12, .int .i64 0)] rfl (by kernel_rfl) ?_
          refine ow_end rfl ?_
          refine ew_then ?_
          refine cw_block ?_
          refine fun a w hf hs => wp_rounds (fun k a w => ∃ (l53 : List ByteArray), ∃ (x57 : Int), ∃ (p54 : Option Addr), ∃ (c55 : Nat), iter (fun x => F.law30_beside.l1 r46 x.1 x.2) k (l53, x57) = some v51 ∧ Fr 59 [(10, .slice p54 l53.length c55), (11, .slice r46_p1 r46.1.length r46_c2), (12, .int .i64 x57)] a ∧ SAT w0 ([imm I, pt b0 #[.map (some r46_b4), .map (some r46_b6), .string r46.2.twins_.e0, .string r46.2.twins_.e1, .bool r46.2.found_, .bool r46.2.full_, .int .i64 r46.2.sums_] 60, own eStr 9 p54 c55 l53, own eStr 9 r46_p1 r46_c2 r46.1, mpo kStr kStr r46_b4 r46.2.table_, mpo kStr kStr r46_b6 r46.2.notes_] ++ F0) w) ?_ FUEL a w ⟨r37.1, 0, r37_p1, r37_c2, hF, hf.keep [10, 11, 12], sat_to [0, 0, 3, 0, 0, 0] 0 rfl hs⟩
          clear hf hs
          clear a w hF
          rintro k a w ⟨l53, x57, p54, c55, hF2, hf, hs⟩
          obtain ⟨k, r52, rfl, hF, hL52⟩ := iter_some hF2
          clear hF2
          revert a w
          show CW _ _ _ 59 [(10, .slice p54 l53.length c55), (11, .slice r46_p1 r46.1.length r46_c2), (12, .int .i64 x57)] (SAT w0 ([imm I, pt b0 #[.map (some r46_b4), .map (some r46_b6), .string r46.2.twins_.e0, .string r46.2.twins_.e1, .bool r46.2.found_, .bool r46.2.full_, .int .i64 r46.2.sums_] 60, own eStr 9 p54 c55 l53, own eStr 9 r46_p1 r46_c2 r46.1, mpo kStr kStr r46_b4 r46.2.table_, mpo kStr kStr r46_b6 r46.2.notes_] ++ F0))
          try dsimp only at hF
          unfold F.law30_beside.l1 at hF
          refine cw_seq ?_
          refine cw_seq ?_
          refine cw_region ?_
          refine ow_vals 4 (j := 4) [10, 11, 12, 48] [(10, .slice p54 l53.length c55), (11, .slice r46_p1 r46.1.length r46_c2), (12, .int .i64 x57), (48, .bool (decide (x57 < (r46.1.length : Int))))] rfl (by kernel_rfl) ?_
          refine ow_end rfl ?_
          refine ew_then ?_
          rcases if_some hF with ⟨h58, hF⟩ | ⟨h58, hF⟩
          · refine cw_cond_t rfl rfl h58 ?_
            refine cw_skip ?_
            refine ew_then ?_
            refine cw_seq ?_
            refine cw_block ?_
            refine cw_region ?_
            refine ow_vals 3 (j := 3) [11, 12, 51, 52, 53] [(11, .slice r46_p1 r46.1.length r46_c2), (12, .int .i64 x57), (51, .slice p54 l53.length c55), (52, .slice r46_p1 r46.1.length r46_c2), (53, .int .i64 x57)] rfl (by kernel_rfl) ?_
            obtain ⟨y59, h60, hF⟩ := bind_some hF
            refine ow_pw rfl (pw_quiet (v := .pointer (some ((base r46_p1).add (x57.toNat * 1)))) rfl rfl rfl rfl (q_index_own 3 1 rfl rfl (by kernel_rfl) rfl rfl (at_some h60).1 (at_lt h60)) (nw_ow ?_))
            refine ow_pw rfl (pw_quiet (v := .string y59) rfl rfl rfl rfl (q_load_own0 3 1 rfl rfl rfl rfl (at_some h60).2 (by kernel_rfl)) (nw_ow ?_))
            refine ow_pw rfl (pw_buildSlice (E := 9) eStr ([y59] : List ByteArray) rfl rfl rfl rfl rfl (by kernel_rfl) rfl (by kernel_rfl) rfl (by decide) rfl fun p61 => nw_ow ?_)
            obtain ⟨h63, hF⟩ := chk_some hF
            refine ow_pw rfl (pw_append 3 (l' := ([y59] : List ByteArray)) rfl rfl rfl rfl rfl rfl (by kernel_rfl) (by kernel_rfl) rfl rfl rfl (src_own (E' := 9) 0 rfl (by kernel_rfl) rfl) rfl h63.1 h63.2 fun p64 c65 => nw_H (H' := [own eStr 9 p61 1 ([y59] : List ByteArray), imm I, pt b0 #[.map (some r46_b4), .map (some r46_b6), .string r46.2.twins_.e0, .string r46.2.twins_.e1, .bool r46.2.found_, .bool r46.2.full_, .int .i64 r46.2.sums_] 60, own eStr 9 p64 c65 (l53 ++ ([y59] : List ByteArray)), own eStr 9 r46_p1 r46_c2 r46.1, mpo kStr kStr r46_b4 r46.2.table_, mpo kStr kStr r46_b6 r46.2.notes_] ++ F0) rfl (nw_ow ?_))
            refine ow_vals 1 (j := 8) [10, 11, 12] [(10, .slice p64 (l53 ++ ([y59] : List ByteArray)).length c65), (11, .slice r46_p1 r46.1.length r46_c2), (12, .int .i64 x57)] rfl (by kernel_rfl) ?_
            refine ow_end rfl ?_
            refine ew_blk ?_
            refine ew_then ?_
            refine cw_region ?_
            refine ow_vals 3 (j := 3) [10, 11, 12] [(10, .slice p64 (l53 ++ ([y59] : List ByteArray)).length c65), (11, .slice r46_p1 r46.1.length r46_c2), (12, .int .i64 (IntKind.i64.wrap (x57 + 1)))] rfl (by kernel_rfl) ?_
            refine ow_end rfl ?_
            have hR := Option.some.inj hF
            subst hR
            have hR := hL52
            try dsimp only at hR
            exact fun a w hf hs => ⟨k, Nat.lt_succ_self k, l53 ++ ([y59] : List ByteArray), IntKind.i64.wrap (x57 + 1), p64, c65, hR, hf.keep [10, 11, 12], sat_to [0, 0, 0, 0, 0, 0, 0] 1 rfl hs⟩
          · refine cw_cond_f rfl rfl h58 ?_
            refine cw_exit ?_
            refine ew_then_exit ?_
            refine ew_then_exit ?_
            refine ew_blk_exit ?_
            have hR := Option.some.inj hF
            subst hR
            have hR := hL52
            try dsimp only at hR
            exact fun a w hf hs => ⟨l53, p54, c55, hR, hf.keep [10], sat_to [3, 0, 0, 0, 0, 0] 1 rfl hs⟩
        · rintro a w ⟨l66, p67, c68, hv, hf, hs⟩
          subst hv
          replace hF := hK51
          clear hK51
          try dsimp only at hF
          revert a w
          show CW _ _ _ 59 [(10, .slice p67 l66.length c68)] (SAT w0 ([imm I, pt b0 #[.map (some r46_b4), .map (some r46_b6), .string r46.2.twins_.e0, .string r46.2.twins_.e1, .bool r46.2.found_, .bool r46.2.full_, .int .i64 r46.2.sums_] 60, own eStr 9 p67 c68 l66, mpo kStr kStr r46_b4 r46.2.table_, mpo kStr kStr r46_b6 r46.2.notes_] ++ F0))
          unfold F.law30_beside.r2 at hF
          refine cw_seq ?_
          refine cw_region ?_
          refine ow_vals 2 (j := 2) [8] [(8, .slice p67 l66.length c68)] rfl (by kernel_rfl) ?_
          refine ow_end rfl ?_
          refine ew_then ?_
          refine cw_ret ?_
          have hR := Option.some.inj hF
          subst hR
          exact fin1 (H1 := [imm I, pt b0 #[.map (some r46_b4), .map (some r46_b6), .string r46.2.twins_.e0, .string r46.2.twins_.e1, .bool r46.2.found_, .bool r46.2.full_, .int .i64 r46.2.sums_] 60, own eStr 9 p67 c68 l66, mpo kStr kStr r46_b4 r46.2.table_, mpo kStr kStr r46_b6 r46.2.notes_]) (fun w hs => sat_to [0, 0, 0, 0, 0] 0 rfl hs) rfl (rr_tmp rfl) ⟨p67, c68, r46_b4, r46_b6, rfl, rfl⟩


def F.batch_need : Nat → Int → Int → (List Int) → Option Int
  | 0, _, _, _ => none
  | k + 1, x0, x1, x2 => if decide (x1 < 1) then (some (0)) else (if (x2.length : Int) == 0 then (some (1)) else (if x1 == 1 then (some (0)) else (Option.bind (F.batch_split x1) (fun (r24 : Int) => Option.bind (F.batch_part x2 (IntKind.i64.wrap (x0 + r24))) (fun (r26 : (List Int) × (List Int)) => Option.bind ((F.batch_need k) x0 r24 r26.1) (fun (r28 : Int) => Option.bind ((F.batch_need k) (IntKind.i64.wrap (x0 + r24)) (IntKind.i64.wrap (x1 - r24)) r26.2) (fun (r30 : Int) => some ((IntKind.i64.wrap (r28 + r30))))))))))
set_option maxRecDepth 100000 in
set_option maxHeartbeats 4000000 in
theorem c_batch_need (k : Nat) : ∀ (I : Hl) (x0 : Int) (x1 : Int) (x2 : List Int) (p0 : Option Addr) (c0 : Nat) (res : Int) (hF : F.batch_need k x0 x1 x2 = some res) (hr0 : ro I (eInt .i64) p0 c0 x2), Tr Try.prog 37 [.int .i64 x0, .int .i64 x1, .slice p0 x2.length c0] [imm I] (fun r H' => r = .int .i64 res ∧ H' = [imm I]) := by
  induction k with
  | zero => intro I x0 x1 x2 p0 c0 res hF hr0; cases hF
  | succ k ih =>
    intro I x0 x1 x2 p0 c0 res hF hr0
    rw [F.batch_need] at hF
    refine tr_of_cw (fn := Try.f37) Try.func37 rfl (Nat.le_of_ble_eq_true rfl) 43 rfl fun F0 w0 => ?_
    refine cw_keep [0, 1, 2] (L' := [(0, .int .i64 x0), (1, .int .i64 x1), (2, .slice p0 x2.length c0)]) rfl ?_
    refine cw_state (S' := SAT w0 ([imm I] ++ F0)) (fun w hs => hs) ?_
    refine cw_seq ?_
    refine cw_region ?_
    refine ow_vals 1 (j := 1) [0, 1, 2] [(0, .int .i64 x0), (1, .int .i64 x1), (2, .slice p0 x2.length c0)] rfl (by kernel_rfl) ?_
    refine ow_end rfl ?_
    refine ew_then ?_
    refine cw_seq ?_
    refine cw_block ?_
    refine cw_seq ?_
    refine cw_region ?_
    refine ow_vals 3 (j := 3) [0, 1, 2, 10] [(0, .int .i64 x0), (1, .int .i64 x1), (2, .slice p0 x2.length c0), (10, .bool (decide (x1 < 1)))] rfl (by kernel_rfl) ?_
    refine ow_end rfl ?_
    refine ew_then ?_
    rcases if_some hF with ⟨h21, hF⟩ | ⟨h21, hF⟩
    · refine cw_cond_t rfl rfl h21 ?_
      refine cw_seq ?_
      refine cw_region ?_
      refine ow_vals 1 (j := 1) [6] [(6, .int .i64 0)] rfl (by kernel_rfl) ?_
      refine ow_end rfl ?_
      refine ew_then ?_
      refine cw_ret ?_
      refine ew_blk_ret ?_
      refine ew_then_ret ?_
      have hR := Option.some.inj hF
      subst hR
      exact fin1 (H1 := [imm I]) (fun w hs => sat_to [0] 0 rfl hs) rfl (rr_tmp rfl) ⟨rfl, rfl⟩
    · refine cw_cond_f rfl rfl h21 ?_
      refine cw_seq ?_
      refine cw_region ?_
      refine ow_vals 4 (j := 4) [0, 1, 2, 13] [(0, .int .i64 x0), (1, .int .i64 x1), (2, .slice p0 x2.length c0), (13, .bool ((x2.length : Int) == 0))] rfl (by kernel_rfl) ?_
      refine ow_end rfl ?_
      refine ew_then ?_
      rcases if_some hF with ⟨h22, hF⟩ | ⟨h22, hF⟩
      · refine cw_cond_t rfl rfl h22 ?_
        refine cw_seq ?_
        refine cw_region ?_
        refine ow_vals 1 (j := 1) [6] [(6, .int .i64 1)] rfl (by kernel_rfl) ?_
        refine ow_end rfl ?_
        refine ew_then ?_
        refine cw_ret ?_
        refine ew_blk_ret ?_
        refine ew_then_ret ?_
        have hR := Option.some.inj hF
        subst hR
        exact fin1 (H1 := [imm I]) (fun w hs => sat_to [0] 0 rfl hs) rfl (rr_tmp rfl) ⟨rfl, rfl⟩
      · refine cw_cond_f rfl rfl h22 ?_
        refine cw_seq ?_
        refine cw_region ?_
        refine ow_vals 3 (j := 3) [0, 1, 2, 17] [(0, .int .i64 x0), (1, .int .i64 x1), (2, .slice p0 x2.length c0), (17, .bool (x1 == 1))] rfl (by kernel_rfl) ?_
        refine ow_end rfl ?_
        refine ew_then ?_
        rcases if_some hF with ⟨h23, hF⟩ | ⟨h23, hF⟩
        · refine cw_cond_t rfl rfl h23 ?_
          refine cw_seq ?_
          refine cw_region ?_
          refine ow_vals 1 (j := 1) [6] [(6, .int .i64 0)] rfl (by kernel_rfl) ?_
          refine ow_end rfl ?_
          refine ew_then ?_
          refine cw_ret ?_
          refine ew_blk_ret ?_
          refine ew_then_ret ?_
          have hR := Option.some.inj hF
          subst hR
          exact fin1 (H1 := [imm I]) (fun w hs => sat_to [0] 0 rfl hs) rfl (rr_tmp rfl) ⟨rfl, rfl⟩
        · refine cw_cond_f rfl rfl h23 ?_
          refine cw_skip ?_
          refine ew_blk ?_
          refine ew_then ?_
          refine cw_seq ?_
          refine cw_region ?_
          refine ow_vals 1 (j := 1) [0, 1, 2, 20] [(0, .int .i64 x0), (1, .int .i64 x1), (2, .slice p0 x2.length c0), (20, .int .i64 x1)] rfl (by kernel_rfl) ?_
          obtain ⟨r24, h25, hF⟩ := bind_some hF
          refine ow_pw rfl (pw_call (F := [] ++ F0) rfl rfl rfl rfl rfl rfl rfl (by kernel_rfl) (perm_of_pulls [0] rfl) (c_batch_split _ x1 r24 h25) ?_)
          rintro _ _ ⟨rfl, rfl⟩
          refine nw_H (H' := [imm I] ++ F0) rfl (nw_ow ?_)
          refine ow_vals 1 (j := 3) [0, 1, 2, 7] [(0, .int .i64 x0), (1, .int .i64 x1), (2, .slice p0 x2.length c0), (7, .int .i64 r24)] rfl (by kernel_rfl) ?_
          refine ow_end rfl ?_
          refine ew_then ?_
          refine cw_seq ?_
          refine cw_region ?_
          refine ow_vals 4 (j := 4) [0, 1, 7, 23, 26] [(0, .int .i64 x0), (1, .int .i64 x1), (7, .int .i64 r24), (23, .slice p0 x2.length c0), (26, .int .i64 (IntKind.i64.wrap (x0 + r24)))] rfl (by kernel_rfl) ?_
          obtain ⟨r26, h27, hF⟩ := bind_some hF
          refine ow_pw rfl (pw_call (F := [] ++ F0) rfl rfl rfl rfl rfl rfl rfl (by kernel_rfl) (perm_of_pulls [0] rfl) (c_batch_part _ x2 (IntKind.i64.wrap (x0 + r24)) p0 c0 r26 h27 hr0) ?_)
          rintro _ _ ⟨r26_p1, r26_c2, r26_p4, r26_c5, rfl, rfl, r26_h3, r26_h6⟩
          refine nw_H (H' := [imm I] ++ F0) rfl (nw_ow ?_)
          refine ow_vals 5 (j := 10) [0, 1, 7, 8, 9] [(0, .int .i64 x0), (1, .int .i64 x1), (7, .int .i64 r24), (8, .slice r26_p1 r26.1.length r26_c2), (9, .slice r26_p4 r26.2.length r26_c5)] rfl (by kernel_rfl) ?_
          refine ow_end rfl ?_
          refine ew_then ?_
          refine cw_seq ?_
          refine cw_region ?_
          refine ow_vals 3 (j := 3) [0, 1, 7, 9, 30, 31, 32] [(0, .int .i64 x0), (1, .int .i64 x1), (7, .int .i64 r24), (9, .slice r26_p4 r26.2.length r26_c5), (30, .int .i64 x0), (31, .int .i64 r24), (32, .slice r26_p1 r26.1.length r26_c2)] rfl (by kernel_rfl) ?_
          obtain ⟨r28, h29, hF⟩ := bind_some hF
          refine ow_pw rfl (pw_call (F := [] ++ F0) rfl rfl rfl rfl rfl rfl rfl (by kernel_rfl) (perm_of_pulls [0] rfl) (ih _ x0 r24 r26.1 r26_p1 r26_c2 r28 h29 r26_h3) ?_)
          rintro _ _ ⟨rfl, rfl⟩
          refine nw_H (H' := [imm I] ++ F0) rfl (nw_ow ?_)
          refine ow_vals 7 (j := 11) [33, 36, 39, 40] [(33, .int .i64 r28), (36, .int .i64 (IntKind.i64.wrap (x0 + r24))), (39, .int .i64 (IntKind.i64.wrap (x1 - r24))), (40, .slice r26_p4 r26.2.length r26_c5)] rfl (by kernel_rfl) ?_
          obtain ⟨r30, h31, hF⟩ := bind_some hF
          refine ow_pw rfl (pw_call (F := [] ++ F0) rfl rfl rfl rfl rfl rfl rfl (by kernel_rfl) (perm_of_pulls [0] rfl) (ih _ (IntKind.i64.wrap (x0 + r24)) (IntKind.i64.wrap (x1 - r24)) r26.2 r26_p4 r26_c5 r30 h31 r26_h6) ?_)
          rintro _ _ ⟨rfl, rfl⟩
          refine nw_H (H' := [imm I] ++ F0) rfl (nw_ow ?_)
          refine ow_vals 2 (j := 14) [6] [(6, .int .i64 (IntKind.i64.wrap (r28 + r30)))] rfl (by kernel_rfl) ?_
          refine ow_end rfl ?_
          refine ew_then ?_
          refine cw_ret ?_
          have hR := Option.some.inj hF
          subst hR
          exact fin1 (H1 := [imm I]) (fun w hs => sat_to [0] 0 rfl hs) rfl (rr_tmp rfl) ⟨rfl, rfl⟩


def F.batch_Need (x0 : Int) (x1 : List Int) : Option Int :=
  Option.bind (F.batch_need FUEL 0 x0 x1) (fun (r21 : Int) => some (r21))
set_option maxRecDepth 100000 in
set_option maxHeartbeats 4000000 in
theorem c_batch_Need (I : Hl) (x0 : Int) (x1 : List Int) (p0 : Option Addr) (c0 : Nat) (res : Int) (hF : F.batch_Need x0 x1 = some res) (hr0 : ro I (eInt .i64) p0 c0 x1) : Tr Try.prog 22 [.int .i64 x0, .slice p0 x1.length c0] [imm I] (fun r H' => r = .int .i64 res ∧ H' = [imm I]) := by
  unfold F.batch_Need at hF
  refine tr_of_cw (fn := Try.f22) Try.func22 rfl (Nat.le_of_ble_eq_true rfl) 8 rfl fun F0 w0 => ?_
  refine cw_keep [0, 1] (L' := [(0, .int .i64 x0), (1, .slice p0 x1.length c0)]) rfl ?_
  refine cw_state (S' := SAT w0 ([imm I] ++ F0)) (fun w hs => hs) ?_
  refine cw_seq ?_
  refine cw_region ?_
  refine ow_vals 1 (j := 1) [0, 1] [(0, .int .i64 x0), (1, .slice p0 x1.length c0)] rfl (by kernel_rfl) ?_
  refine ow_end rfl ?_
  refine ew_then ?_
  refine cw_seq ?_
  refine cw_region ?_
  refine ow_vals 2 (j := 2) [5, 6] [(5, .int .i64 x0), (6, .slice p0 x1.length c0)] rfl (by kernel_rfl) ?_
  obtain ⟨r21, h22, hF⟩ := bind_some hF
  refine ow_pw rfl (pw_call (F := [] ++ F0) rfl rfl rfl rfl rfl rfl rfl (by kernel_rfl) (perm_of_pulls [0] rfl) (c_batch_need FUEL _ 0 x0 x1 p0 c0 r21 h22 hr0) ?_)
  rintro _ _ ⟨rfl, rfl⟩
  refine nw_H (H' := [imm I] ++ F0) rfl (nw_ow ?_)
  refine ow_vals 1 (j := 4) [4] [(4, .int .i64 r21)] rfl (by kernel_rfl) ?_
  refine ow_end rfl ?_
  refine ew_then ?_
  refine cw_ret ?_
  have hR := Option.some.inj hF
  subst hR
  exact fin1 (H1 := [imm I]) (fun w hs => sat_to [0] 0 rfl hs) rfl (rr_tmp rfl) ⟨rfl, rfl⟩


def F.law30_BatchProves.r2 (r44 : batch_Proof × Int × mill_Mill) (x56 : Bool) : Option ((Unit) ⊕ (Bool)) :=
  if x56 then (if r44.2.1 == 5 then (if r44.1.Size == 0 then (if (r44.1.Leaf.length : Int) == 0 then (Option.bind (F.law30_awake) (fun (r61 : Bool) => some (.inr (r61)))) else (some (.inr (false)))) else (some (.inr (false)))) else (some (.inr (false)))) else (some (.inl ()))
def F.law30_BatchProves.l6 (r26 : (List ByteArray) × mill_Mill) (l37 : List Int) (r44 : batch_Proof × Int × mill_Mill) (x110 : Int) : Option ((Int) ⊕ ((Unit) ⊕ (Bool))) :=
  if decide (x110 < (l37.length : Int)) then (Option.bind (at_ r44.1.Picks x110) (fun (y112 : Int) => Option.bind (at_ l37 x110) (fun (y114 : Int) => if y112 != y114 then (some (.inr (.inr (false)))) else (Option.bind (at_ r44.1.Leaf x110) (fun (y119 : ByteArray) => Option.bind (at_ l37 x110) (fun (y121 : Int) => Option.bind (at_ r26.1 y121) (fun (y125 : ByteArray) => if !(seqB y119 y125) then (some (.inr (.inr (false)))) else (some (.inl (IntKind.i64.wrap (x110 + 1))))))))))) else (some (.inr (.inl ())))
def F.law30_BatchProves.r7 (r26 : (List ByteArray) × mill_Mill) (l37 : List Int) (r44 : batch_Proof × Int × mill_Mill) (l93 : List (ByteArray × ByteArray)) (l96 : List (ByteArray × ByteArray)) (s99 : ByteArray) (s100 : ByteArray) (x101 : Bool) (x102 : Bool) (x103 : Int) (l104 : List ByteArray) : Option (Bool) :=
  Option.bind (F.batch_Root (⟨r44.1.Size, r44.1.Picks, r44.1.Leaf, l104⟩ : batch_Proof) (⟨l93, l96, (⟨s99, s100⟩ : A2_ByteArray), x101, x102, x103⟩ : mill_Mill)) (fun (r136 : ByteArray × Int × mill_Mill) => if r136.2.1 == 0 then (Option.bind (F.law07_Root FUEL r26.1 r136.2.2) (fun (r141 : ByteArray × mill_Mill) => if seqB r136.1 r141.1 then (Option.bind (F.batch_Right (⟨r44.1.Size, r44.1.Picks, r44.1.Leaf, l104⟩ : batch_Proof)) (fun (r146 : Bool) => if r146 then (Option.bind (F.batch_Need (r26.1.length : Int) l37) (fun (r149 : Int) => if r149 == (l104.length : Int) then (Option.bind (F.law30_awake) (fun (r152 : Bool) => some (r152))) else (some (false)))) else (some (false)))) else (some (false)))) else (some (false)))
def F.law30_BatchProves.r5 (r26 : (List ByteArray) × mill_Mill) (l37 : List Int) (r44 : batch_Proof × Int × mill_Mill) (l93 : List (ByteArray × ByteArray)) (l96 : List (ByteArray × ByteArray)) (s99 : ByteArray) (s100 : ByteArray) (x101 : Bool) (x102 : Bool) (x103 : Int) (l104 : List ByteArray) : Option (Bool) :=
  thru (iter (fun x => F.law30_BatchProves.l6 r26 l37 r44 x) FUEL 0) (fun x => F.law30_BatchProves.r7 r26 l37 r44 l93 l96 s99 s100 x101 x102 x103 l104)
def F.law30_BatchProves.r4 (r26 : (List ByteArray) × mill_Mill) (l37 : List Int) (r44 : batch_Proof × Int × mill_Mill) : Option (Bool) :=
  thru (if r44.2.1 != 0 then (some (.inr (false))) else (if r44.1.Size != (r26.1.length : Int) then (some (.inr (false))) else (if (r44.1.Picks.length : Int) != (l37.length : Int) then (some (.inr (false))) else (if (r44.1.Leaf.length : Int) != (l37.length : Int) then (some (.inr (false))) else (Option.bind (F.law30_beside FUEL r26.1 0 l37 r44.2.2) (fun (r77 : (List ByteArray) × mill_Mill) => Option.bind (F.law30_same r44.1.Nodes r77.1) (fun (r88 : Bool) => if !r88 then (some (.inr (false))) else (some (.inl (r77.2.table_, r77.2.notes_, r77.2.twins_.e0, r77.2.twins_.e1, r77.2.found_, r77.2.full_, r77.2.sums_, r44.1.Nodes)))))))))) (fun x => F.law30_BatchProves.r5 r26 l37 r44 x.1 x.2.1 x.2.2.1 x.2.2.2.1 x.2.2.2.2.1 x.2.2.2.2.2.1 x.2.2.2.2.2.2.1 x.2.2.2.2.2.2.2)
def F.law30_BatchProves.r3 (r26 : (List ByteArray) × mill_Mill) (l37 : List Int) (r44 : batch_Proof × Int × mill_Mill) : Option (Bool) :=
  thru (Option.bind (F.law30_rising l37 (r26.1.length : Int)) (fun (r64 : Bool) => if !r64 then (if r44.2.1 == 21 then (if r44.1.Size == 0 then (if (r44.1.Leaf.length : Int) == 0 then (Option.bind (F.law30_awake) (fun (r70 : Bool) => some (.inr (r70)))) else (some (.inr (false)))) else (some (.inr (false)))) else (some (.inr (false)))) else (some (.inl ())))) (fun x => F.law30_BatchProves.r4 r26 l37 r44)
def F.law30_BatchProves.r1 (r26 : (List ByteArray) × mill_Mill) (l37 : List Int) : Option (Bool) :=
  Option.bind (F.batch_Prove r26.1 l37 r26.2) (fun (r44 : batch_Proof × Int × mill_Mill) => thru (Option.bind (if decide ((l37.length : Int) < 1) then (some (true)) else (some ((decide ((l37.length : Int) > 64))))) (fun x => F.law30_BatchProves.r2 r44 x)) (fun x => F.law30_BatchProves.r3 r26 l37 r44))
def F.law30_BatchProves (x0 : List ByteArray) (x1 : List Int) : Option Bool :=
  Option.bind (F.mill_New) (fun (r21 : mill_Mill) => Option.bind (F.law07_Leaves x0 r21) (fun (r26 : (List ByteArray) × mill_Mill) => Option.bind (if decide ((x1.length : Int) > 70) then (chk (0 ≤ (0 : Int) ∧ (0 : Int) ≤ (70 : Int) ∧ (70 : Int) ≤ (x1.length : Int)) (some (((x1.drop (0 : Int).toNat).take ((70 : Int).toNat - (0 : Int).toNat))))) else (some (x1))) (fun x => F.law30_BatchProves.r1 r26 x)))
set_option maxRecDepth 100000 in
set_option maxHeartbeats 4000000 in
theorem c_law30_BatchProves (I : Hl) (x0 : List ByteArray) (x1 : List Int) (p0 : Option Addr) (c0 : Nat) (p1 : Option Addr) (c1 : Nat) (res : Bool) (hF : F.law30_BatchProves x0 x1 = some res) (hr0 : ro I eStr p0 c0 x0) (hr1 : ro I (eInt .i64) p1 c1 x1) : Tr Try.prog 4 [.slice p0 x0.length c0, .slice p1 x1.length c1] [imm I] (fun r H' => ∃ (J : Hl), r = .bool res ∧ H' = [imm J] ∧ Hl.sub I J) := by
  unfold F.law30_BatchProves at hF
  refine tr_of_cw (fn := Try.f4) Try.func4 rfl (Nat.le_of_ble_eq_true rfl) 171 rfl fun F0 w0 => ?_
  refine cw_keep [0, 1] (L' := [(0, .slice p0 x0.length c0), (1, .slice p1 x1.length c1)]) rfl ?_
  refine cw_state (S' := SAT w0 ([imm I] ++ F0)) (fun w hs => hs) ?_
  refine cw_seq ?_
  refine cw_region ?_
  refine ow_vals 1 (j := 1) [0, 1] [(0, .slice p0 x0.length c0), (1, .slice p1 x1.length c1)] rfl (by kernel_rfl) ?_
  refine ow_end rfl ?_
  refine ew_then ?_
  refine cw_seq ?_
  refine cw_region ?_
  obtain ⟨r21, h22, hF⟩ := bind_some hF
  refine ow_pw rfl (pw_call (F := [] ++ F0) rfl rfl rfl rfl rfl rfl rfl (by kernel_rfl) (perm_of_pulls [0] rfl) (c_mill_New _ r21 h22) ?_)
  rintro _ _ ⟨r21_b1, r21_b3, r21_b5, rfl, rfl⟩
  refine nw_H (H' := [imm I, pt r21_b1 #[.map (some r21_b3), .map (some r21_b5), .string r21.twins_.e0, .string r21.twins_.e1, .bool r21.found_, .bool r21.full_, .int .i64 r21.sums_] 60, mpo kStr kStr r21_b3 r21.table_, mpo kStr kStr r21_b5 r21.notes_] ++ F0) rfl (nw_ow ?_)
  refine ow_vals 1 (j := 2) [0, 1, 5] [(0, .slice p0 x0.length c0), (1, .slice p1 x1.length c1), (5, .pointer (some ⟨r21_b1, 0, none⟩))] rfl (by kernel_rfl) ?_
  refine ow_end rfl ?_
  refine ew_then ?_
  refine cw_seq ?_
  refine cw_region ?_
  refine ow_vals 2 (j := 2) [1, 5, 13, 14] [(1, .slice p1 x1.length c1), (5, .pointer (some ⟨r21_b1, 0, none⟩)), (13, .pointer (some ⟨r21_b1, 0, none⟩)), (14, .slice p0 x0.length c0)] rfl (by kernel_rfl) ?_
  obtain ⟨r26, h27, hF⟩ := bind_some hF
  refine ow_pw rfl (pw_call (F := [] ++ F0) rfl rfl rfl rfl rfl rfl rfl (by kernel_rfl) (perm_of_pulls [0, 0, 0, 0] rfl) (c_law07_Leaves _ x0 r21 p0 c0 r21_b3 r21_b5 r21_b1 r26 h27 hr0) ?_)
  rintro _ _ ⟨r26_p1, r26_c2, r26_b4, r26_b6, rfl, rfl⟩
  refine nw_H (H' := [imm I, pt r21_b1 #[.map (some r26_b4), .map (some r26_b6), .string r26.2.twins_.e0, .string r26.2.twins_.e1, .bool r26.2.found_, .bool r26.2.full_, .int .i64 r26.2.sums_] 60, own eStr 9 r26_p1 r26_c2 r26.1, mpo kStr kStr r26_b4 r26.2.table_, mpo kStr kStr r26_b6 r26.2.notes_] ++ F0) rfl (nw_ow ?_)
  refine ow_vals 1 (j := 4) [1, 5, 6] [(1, .slice p1 x1.length c1), (5, .pointer (some ⟨r21_b1, 0, none⟩)), (6, .slice r26_p1 r26.1.length r26_c2)] rfl (by kernel_rfl) ?_
  refine ow_end rfl ?_
  refine ew_then ?_
  obtain ⟨v31, hF, hK31⟩ := bind_some hF
  refine cw_mid (fun a w => ∃ (l37 : List Int), ∃ (p38 : Option Addr), ∃ (c39 : Nat), l37 = v31 ∧ ro I (eInt .i64) p38 c39 l37 ∧ Fr 171 [(1, .slice p38 l37.length c39), (5, .pointer (some ⟨r21_b1, 0, none⟩)), (6, .slice r26_p1 r26.1.length r26_c2)] a ∧ SAT w0 ([imm I, pt r21_b1 #[.map (some r26_b4), .map (some r26_b6), .string r26.2.twins_.e0, .string r26.2.twins_.e1, .bool r26.2.found_, .bool r26.2.full_, .int .i64 r26.2.sums_] 60, own eStr 9 r26_p1 r26_c2 r26.1, mpo kStr kStr r26_b4 r26.2.table_, mpo kStr kStr r26_b6 r26.2.notes_] ++ F0) w) ?_ ?_
  · refine cw_seq ?_
    refine cw_region ?_
    refine ow_vals 3 (j := 3) [1, 5, 6, 18] [(1, .slice p1 x1.length c1), (5, .pointer (some ⟨r21_b1, 0, none⟩)), (6, .slice r26_p1 r26.1.length r26_c2), (18, .bool (decide ((x1.length : Int) > 70)))] rfl (by kernel_rfl) ?_
    refine ow_end rfl ?_
    refine ew_then ?_
    rcases if_some hF with ⟨h32, hF⟩ | ⟨h32, hF⟩
    · refine cw_cond_t rfl rfl h32 ?_
      refine cw_region ?_
      refine ow_vals 1 (j := 1) [5, 6, 19] [(5, .pointer (some ⟨r21_b1, 0, none⟩)), (6, .slice r26_p1 r26.1.length r26_c2), (19, .slice p1 x1.length c1)] rfl (by kernel_rfl) ?_
      obtain ⟨h33, hF⟩ := chk_some hF
      refine ow_pw rfl (pw_slice_ro (E := 3) 1 hr1 rfl rfl rfl rfl rfl (by kernel_rfl) rfl rfl rfl rfl h33 fun p34 c35 h36 => nw_ow ?_)
      refine ow_vals 1 (j := 3) [1, 5, 6] [(1, .slice p34 ((x1.drop (0 : Int).toNat).take ((70 : Int).toNat - (0 : Int).toNat)).length c35), (5, .pointer (some ⟨r21_b1, 0, none⟩)), (6, .slice r26_p1 r26.1.length r26_c2)] rfl (by kernel_rfl) ?_
      refine ow_end rfl ?_
      have hR := Option.some.inj hF
      exact fun a w hf hs => ⟨(x1.drop (0 : Int).toNat).take ((70 : Int).toNat - (0 : Int).toNat), p34, c35, hR, h36, hf.keep [1, 5, 6], sat_to [0, 0, 0, 0, 0] 0 rfl hs⟩
    · refine cw_cond_f rfl rfl h32 ?_
      refine cw_skip ?_
      have hR := Option.some.inj hF
      exact fun a w hf hs => ⟨x1, p1, c1, hR, hr1, hf.keep [1, 5, 6], sat_to [0, 0, 0, 0, 0] 0 rfl hs⟩
  · rintro a w ⟨l37, p38, c39, hv, h40, hf, hs⟩
    subst hv
    replace hF := hK31
    clear hK31
    try dsimp only at hF
    revert a w
    show CW _ _ _ 171 [(1, .slice p38 l37.length c39), (5, .pointer (some ⟨r21_b1, 0, none⟩)), (6, .slice r26_p1 r26.1.length r26_c2)] (SAT w0 ([imm I, pt r21_b1 #[.map (some r26_b4), .map (some r26_b6), .string r26.2.twins_.e0, .string r26.2.twins_.e1, .bool r26.2.found_, .bool r26.2.full_, .int .i64 r26.2.sums_] 60, own eStr 9 r26_p1 r26_c2 r26.1, mpo kStr kStr r26_b4 r26.2.table_, mpo kStr kStr r26_b6 r26.2.notes_] ++ F0))
    unfold F.law30_BatchProves.r1 at hF
    refine cw_seq ?_
    refine cw_region ?_
    refine ow_vals 3 (j := 3) [1, 5, 6, 22, 23, 24] [(1, .slice p38 l37.length c39), (5, .pointer (some ⟨r21_b1, 0, none⟩)), (6, .slice r26_p1 r26.1.length r26_c2), (22, .pointer (some ⟨r21_b1, 0, none⟩)), (23, .slice r26_p1 r26.1.length r26_c2), (24, .slice p38 l37.length c39)] rfl (by kernel_rfl) ?_
    refine ow_freeze (fun w hs => sat_to [0, 1] 0 (F := [imm I, own eStr 9 r26_p1 r26_c2 r26.1, pt r21_b1 #[.map (some r26_b4), .map (some r26_b6), .string r26.2.twins_.e0, .string r26.2.twins_.e1, .bool r26.2.found_, .bool r26.2.full_, .int .i64 r26.2.sums_] 60, mpo kStr kStr r26_b4 r26.2.table_, mpo kStr kStr r26_b6 r26.2.notes_] ++ F0) rfl hs) fun J41 h42 h43 => ?_
    have h40 := ro.sub h42 h40
    refine ow_H (H' := [imm J41, pt r21_b1 #[.map (some r26_b4), .map (some r26_b6), .string r26.2.twins_.e0, .string r26.2.twins_.e1, .bool r26.2.found_, .bool r26.2.full_, .int .i64 r26.2.sums_] 60, mpo kStr kStr r26_b4 r26.2.table_, mpo kStr kStr r26_b6 r26.2.notes_] ++ F0) rfl ?_
    obtain ⟨r44, h45, hF⟩ := bind_some hF
    refine ow_pw rfl (pw_call (F := [] ++ F0) rfl rfl rfl rfl rfl rfl rfl (by kernel_rfl) (perm_of_pulls [0, 0, 0, 0] rfl) (c_batch_Prove _ r26.1 l37 r26.2 r26_p1 r26_c2 p38 c39 r26_b4 r26_b6 r21_b1 r44 h45 h43 h40) ?_)
    rintro _ _ ⟨r44_p1, r44_c2, r44_p4, r44_c5, r44_p7, r44_c8, r44_b10, r44_b12, rfl, rfl⟩
    refine nw_H (H' := [imm J41, pt r21_b1 #[.map (some r44_b10), .map (some r44_b12), .string r44.2.2.twins_.e0, .string r44.2.2.twins_.e1, .bool r44.2.2.found_, .bool r44.2.2.full_, .int .i64 r44.2.2.sums_] 60, own (eInt .i64) 3 r44_p1 r44_c2 r44.1.Picks, own eStr 9 r44_p4 r44_c5 r44.1.Leaf, own eStr 9 r44_p7 r44_c8 r44.1.Nodes, mpo kStr kStr r44_b10 r44.2.2.table_, mpo kStr kStr r44_b12 r44.2.2.notes_] ++ F0) rfl (nw_ow ?_)
    refine ow_vals 3 (j := 7) [1, 5, 6, 26, 27] [(1, .slice p38 l37.length c39), (5, .pointer (some ⟨r21_b1, 0, none⟩)), (6, .slice r26_p1 r26.1.length r26_c2), (26, .agg #[.int .i64 r44.1.Size, .slice r44_p1 r44.1.Picks.length r44_c2, .slice r44_p4 r44.1.Leaf.length r44_c5, .slice r44_p7 r44.1.Nodes.length r44_c8]), (27, .int .i64 r44.2.1)] rfl (by kernel_rfl) ?_
    refine ow_pw rfl (pw_alloc (cs := #[.int .i64 0, .slice none 0 0, .slice none 0 0, .slice none 0 0]) rfl rfl rfl rfl rfl (by kernel_rfl) fun b51 => nw_ow ?_)
    refine ow_pw rfl (pw_store 0 #[.int .i64 r44.1.Size, .slice r44_p1 r44.1.Picks.length r44_c2, .slice r44_p4 r44.1.Leaf.length r44_c5, .slice r44_p7 r44.1.Nodes.length r44_c8] rfl rfl rfl rfl rfl rfl rfl (by kernel_rfl) (nw_H (H' := [pt b51 #[.int .i64 r44.1.Size, .slice r44_p1 r44.1.Picks.length r44_c2, .slice r44_p4 r44.1.Leaf.length r44_c5, .slice r44_p7 r44.1.Nodes.length r44_c8] 25, imm J41, pt r21_b1 #[.map (some r44_b10), .map (some r44_b12), .string r44.2.2.twins_.e0, .string r44.2.2.twins_.e1, .bool r44.2.2.found_, .bool r44.2.2.full_, .int .i64 r44.2.2.sums_] 60, own (eInt .i64) 3 r44_p1 r44_c2 r44.1.Picks, own eStr 9 r44_p4 r44_c5 r44.1.Leaf, own eStr 9 r44_p7 r44_c8 r44.1.Nodes, mpo kStr kStr r44_b10 r44.2.2.table_, mpo kStr kStr r44_b12 r44.2.2.notes_] ++ F0) rfl (nw_ow ?_)))
    refine ow_vals 1 (j := 10) [1, 5, 6, 7, 8] [(1, .slice p38 l37.length c39), (5, .pointer (some ⟨r21_b1, 0, none⟩)), (6, .slice r26_p1 r26.1.length r26_c2), (7, .pointer (some ⟨b51, 0, none⟩)), (8, .int .i64 r44.2.1)] rfl (by kernel_rfl) ?_
    refine ow_end rfl ?_
    refine ew_then ?_
    obtain ⟨v53, hF, hK53⟩ := thru_some hF
    refine cw_mid (fun a w => .inl () = v53 ∧ Fr 171 [(1, .slice p38 l37.length c39), (5, .pointer (some ⟨r21_b1, 0, none⟩)), (6, .slice r26_p1 r26.1.length r26_c2), (7, .pointer (some ⟨b51, 0, none⟩)), (8, .int .i64 r44.2.1)] a ∧ SAT w0 ([imm J41, pt b51 #[.int .i64 r44.1.Size, .slice r44_p1 r44.1.Picks.length r44_c2, .slice r44_p4 r44.1.Leaf.length r44_c5, .slice r44_p7 r44.1.Nodes.length r44_c8] 25, pt r21_b1 #[.map (some r44_b10), .map (some r44_b12), .string r44.2.2.twins_.e0, .string r44.2.2.twins_.e1, .bool r44.2.2.found_, .bool r44.2.2.full_, .int .i64 r44.2.2.sums_] 60, own (eInt .i64) 3 r44_p1 r44_c2 r44.1.Picks, own eStr 9 r44_p4 r44_c5 r44.1.Leaf, own eStr 9 r44_p7 r44_c8 r44.1.Nodes, mpo kStr kStr r44_b10 r44.2.2.table_, mpo kStr kStr r44_b12 r44.2.2.notes_] ++ F0) w) ?_ ?_
    · obtain ⟨v54, hF, hK54⟩ := bind_some hF
      refine cw_mid (fun a w => ∃ (x56 : Bool), x56 = v54 ∧ Fr 171 [(1, .slice p38 l37.length c39), (5, .pointer (some ⟨r21_b1, 0, none⟩)), (6, .slice r26_p1 r26.1.length r26_c2), (7, .pointer (some ⟨b51, 0, none⟩)), (8, .int .i64 r44.2.1), (35, .bool x56)] a ∧ SAT w0 ([imm J41, pt b51 #[.int .i64 r44.1.Size, .slice r44_p1 r44.1.Picks.length r44_c2, .slice r44_p4 r44.1.Leaf.length r44_c5, .slice r44_p7 r44.1.Nodes.length r44_c8] 25, pt r21_b1 #[.map (some r44_b10), .map (some r44_b12), .string r44.2.2.twins_.e0, .string r44.2.2.twins_.e1, .bool r44.2.2.found_, .bool r44.2.2.full_, .int .i64 r44.2.2.sums_] 60, own (eInt .i64) 3 r44_p1 r44_c2 r44.1.Picks, own eStr 9 r44_p4 r44_c5 r44.1.Leaf, own eStr 9 r44_p7 r44_c8 r44.1.Nodes, mpo kStr kStr r44_b10 r44.2.2.table_, mpo kStr kStr r44_b12 r44.2.2.notes_] ++ F0) w) ?_ ?_
      · refine cw_region ?_
        refine ow_vals 4 (j := 4) [1, 5, 6, 7, 8, 31] [(1, .slice p38 l37.length c39), (5, .pointer (some ⟨r21_b1, 0, none⟩)), (6, .slice r26_p1 r26.1.length r26_c2), (7, .pointer (some ⟨b51, 0, none⟩)), (8, .int .i64 r44.2.1), (31, .bool (decide ((l37.length : Int) < 1)))] rfl (by kernel_rfl) ?_
        rcases if_some hF with ⟨h55, hF⟩ | ⟨h55, hF⟩
        · refine ow_slots (L' := [(1, .slice p38 l37.length c39), (5, .pointer (some ⟨r21_b1, 0, none⟩)), (6, .slice r26_p1 r26.1.length r26_c2), (7, .pointer (some ⟨b51, 0, none⟩)), (8, .int .i64 r44.2.1), (31, .bool true)]) (by rw [h55]) ?_
          refine ow_vals 4 (j := 8) [1, 5, 6, 7, 8, 35] [(1, .slice p38 l37.length c39), (5, .pointer (some ⟨r21_b1, 0, none⟩)), (6, .slice r26_p1 r26.1.length r26_c2), (7, .pointer (some ⟨b51, 0, none⟩)), (8, .int .i64 r44.2.1), (35, .bool true)] rfl (by kernel_rfl) ?_
          refine ow_end rfl ?_
          have hR := Option.some.inj hF
          exact fun a w hf hs => ⟨true, hR, hf.keep [1, 5, 6, 7, 8, 35], sat_to [1, 0, 0, 0, 0, 0, 0, 0] 0 rfl hs⟩
        · refine ow_slots (L' := [(1, .slice p38 l37.length c39), (5, .pointer (some ⟨r21_b1, 0, none⟩)), (6, .slice r26_p1 r26.1.length r26_c2), (7, .pointer (some ⟨b51, 0, none⟩)), (8, .int .i64 r44.2.1), (31, .bool false)]) (by rw [h55]) ?_
          refine ow_vals 4 (j := 8) [1, 5, 6, 7, 8, 35] [(1, .slice p38 l37.length c39), (5, .pointer (some ⟨r21_b1, 0, none⟩)), (6, .slice r26_p1 r26.1.length r26_c2), (7, .pointer (some ⟨b51, 0, none⟩)), (8, .int .i64 r44.2.1), (35, .bool (decide ((l37.length : Int) > 64)))] rfl (by kernel_rfl) ?_
          refine ow_end rfl ?_
          have hR := Option.some.inj hF
          exact fun a w hf hs => ⟨decide ((l37.length : Int) > 64), hR, hf.keep [1, 5, 6, 7, 8, 35], sat_to [1, 0, 0, 0, 0, 0, 0, 0] 0 rfl hs⟩
      · rintro a w ⟨x56, hv, hf, hs⟩
        subst hv
        replace hF := hK54
        clear hK54
        try dsimp only at hF
        revert a w
        show CW _ _ _ 171 [(1, .slice p38 l37.length c39), (5, .pointer (some ⟨r21_b1, 0, none⟩)), (6, .slice r26_p1 r26.1.length r26_c2), (7, .pointer (some ⟨b51, 0, none⟩)), (8, .int .i64 r44.2.1), (35, .bool x56)] (SAT w0 ([imm J41, pt b51 #[.int .i64 r44.1.Size, .slice r44_p1 r44.1.Picks.length r44_c2, .slice r44_p4 r44.1.Leaf.length r44_c5, .slice r44_p7 r44.1.Nodes.length r44_c8] 25, pt r21_b1 #[.map (some r44_b10), .map (some r44_b12), .string r44.2.2.twins_.e0, .string r44.2.2.twins_.e1, .bool r44.2.2.found_, .bool r44.2.2.full_, .int .i64 r44.2.2.sums_] 60, own (eInt .i64) 3 r44_p1 r44_c2 r44.1.Picks, own eStr 9 r44_p4 r44_c5 r44.1.Leaf, own eStr 9 r44_p7 r44_c8 r44.1.Nodes, mpo kStr kStr r44_b10 r44.2.2.table_, mpo kStr kStr r44_b12 r44.2.2.notes_] ++ F0))
        unfold F.law30_BatchProves.r2 at hF
        rcases if_some hF with ⟨h57, hF⟩ | ⟨h57, hF⟩
        · refine cw_cond_t rfl rfl h57 ?_
          refine cw_seq ?_
          refine cw_region ?_
          refine ow_vals 3 (j := 3) [7, 38] [(7, .pointer (some ⟨b51, 0, none⟩)), (38, .bool (r44.2.1 == 5))] rfl (by kernel_rfl) ?_
          rcases if_some hF with ⟨h58, hF⟩ | ⟨h58, hF⟩
          · refine ow_slots (L' := [(7, .pointer (some ⟨b51, 0, none⟩)), (38, .bool true)]) (by rw [h58]) ?_
            refine ow_vals 1 (j := 4) [7, 38, 39] [(7, .pointer (some ⟨b51, 0, none⟩)), (38, .bool true), (39, .pointer (some ⟨b51, 0, none⟩))] rfl (by kernel_rfl) ?_
            refine ow_pw rfl (pw_quiet (v := .int .i64 r44.1.Size) rfl rfl rfl rfl (q_load 1 rfl rfl rfl (by kernel_rfl)) (nw_ow ?_))
            refine ow_vals 3 (j := 8) [7, 43] [(7, .pointer (some ⟨b51, 0, none⟩)), (43, .bool (r44.1.Size == 0))] rfl (by kernel_rfl) ?_
            rcases if_some hF with ⟨h59, hF⟩ | ⟨h59, hF⟩
            · refine ow_slots (L' := [(7, .pointer (some ⟨b51, 0, none⟩)), (43, .bool true)]) (by rw [h59]) ?_
              refine ow_vals 1 (j := 9) [43, 44] [(43, .bool true), (44, .pointer (some ⟨b51, 2, none⟩))] rfl (by kernel_rfl) ?_
              refine ow_pw rfl (pw_quiet (v := .slice r44_p4 r44.1.Leaf.length r44_c5) rfl rfl rfl rfl (q_load 1 rfl rfl rfl (by kernel_rfl)) (nw_ow ?_))
              refine ow_vals 4 (j := 14) [49] [(49, .bool ((r44.1.Leaf.length : Int) == 0))] rfl (by kernel_rfl) ?_
              rcases if_some hF with ⟨h60, hF⟩ | ⟨h60, hF⟩
              · refine ow_slots (L' := [(49, .bool true)]) (by rw [h60]) ?_
                obtain ⟨r61, h62, hF⟩ := bind_some hF
                refine ow_pw rfl (pw_call (F := [pt b51 #[.int .i64 r44.1.Size, .slice r44_p1 r44.1.Picks.length r44_c2, .slice r44_p4 r44.1.Leaf.length r44_c5, .slice r44_p7 r44.1.Nodes.length r44_c8] 25, pt r21_b1 #[.map (some r44_b10), .map (some r44_b12), .string r44.2.2.twins_.e0, .string r44.2.2.twins_.e1, .bool r44.2.2.found_, .bool r44.2.2.full_, .int .i64 r44.2.2.sums_] 60, own (eInt .i64) 3 r44_p1 r44_c2 r44.1.Picks, own eStr 9 r44_p4 r44_c5 r44.1.Leaf, own eStr 9 r44_p7 r44_c8 r44.1.Nodes, mpo kStr kStr r44_b10 r44.2.2.table_, mpo kStr kStr r44_b12 r44.2.2.notes_] ++ F0) rfl rfl rfl rfl rfl rfl rfl (by kernel_rfl) (perm_of_pulls [0] rfl) (c_law30_awake _ r61 h62) ?_)
                rintro _ _ ⟨r61_J, rfl, rfl, r61_hJ⟩
                refine nw_H (H' := [imm r61_J, pt b51 #[.int .i64 r44.1.Size, .slice r44_p1 r44.1.Picks.length r44_c2, .slice r44_p4 r44.1.Leaf.length r44_c5, .slice r44_p7 r44.1.Nodes.length r44_c8] 25, pt r21_b1 #[.map (some r44_b10), .map (some r44_b12), .string r44.2.2.twins_.e0, .string r44.2.2.twins_.e1, .bool r44.2.2.found_, .bool r44.2.2.full_, .int .i64 r44.2.2.sums_] 60, own (eInt .i64) 3 r44_p1 r44_c2 r44.1.Picks, own eStr 9 r44_p4 r44_c5 r44.1.Leaf, own eStr 9 r44_p7 r44_c8 r44.1.Nodes, mpo kStr kStr r44_b10 r44.2.2.table_, mpo kStr kStr r44_b12 r44.2.2.notes_] ++ F0) rfl (nw_ow ?_)
                refine ow_vals 2 (j := 17) [4] [(4, .bool r61)] rfl (by kernel_rfl) ?_
                refine ow_end rfl ?_
                refine ew_then ?_
                refine cw_ret ?_
                refine ew_then_ret ?_
                have hR := Option.some.inj hF
                subst hR
                have hR := hK53
                try dsimp only [Thru] at hR
                subst hR
                exact fin1 (H1 := [imm r61_J]) (fun w hs => sat_to [1, 1, 1, 1, 1, 1, 1, 0] 7 rfl hs) rfl (rr_tmp rfl) ⟨r61_J, rfl, rfl, (Hl.sub_trans h42 r61_hJ)⟩
              · refine ow_slots (L' := [(49, .bool false)]) (by rw [h60]) ?_
                refine ow_vals 3 (j := 17) [4] [(4, .bool false)] rfl (by kernel_rfl) ?_
                refine ow_end rfl ?_
                refine ew_then ?_
                refine cw_ret ?_
                refine ew_then_ret ?_
                have hR := Option.some.inj hF
                subst hR
                have hR := hK53
                try dsimp only [Thru] at hR
                subst hR
                exact fin1 (H1 := [imm J41]) (fun w hs => sat_to [1, 1, 1, 1, 1, 1, 1, 0] 7 rfl hs) rfl (rr_tmp rfl) ⟨J41, rfl, rfl, h42⟩
            · refine ow_slots (L' := [(7, .pointer (some ⟨b51, 0, none⟩)), (43, .bool false)]) (by rw [h59]) ?_
              refine ow_vals 9 (j := 17) [4] [(4, .bool false)] rfl (by kernel_rfl) ?_
              refine ow_end rfl ?_
              refine ew_then ?_
              refine cw_ret ?_
              refine ew_then_ret ?_
              have hR := Option.some.inj hF
              subst hR
              have hR := hK53
              try dsimp only [Thru] at hR
              subst hR
              exact fin1 (H1 := [imm J41]) (fun w hs => sat_to [1, 1, 1, 1, 1, 1, 1, 0] 7 rfl hs) rfl (rr_tmp rfl) ⟨J41, rfl, rfl, h42⟩
          · refine ow_slots (L' := [(7, .pointer (some ⟨b51, 0, none⟩)), (38, .bool false)]) (by rw [h58]) ?_
            refine ow_vals 14 (j := 17) [4] [(4, .bool false)] rfl (by kernel_rfl) ?_
            refine ow_end rfl ?_
            refine ew_then ?_
            refine cw_ret ?_
            refine ew_then_ret ?_
            have hR := Option.some.inj hF
            subst hR
            have hR := hK53
            try dsimp only [Thru] at hR
            subst hR
            exact fin1 (H1 := [imm J41]) (fun w hs => sat_to [1, 1, 1, 1, 1, 1, 1, 0] 7 rfl hs) rfl (rr_tmp rfl) ⟨J41, rfl, rfl, h42⟩
        · refine cw_cond_f rfl rfl h57 ?_
          refine cw_skip ?_
          have hR := Option.some.inj hF
          exact fun a w hf hs => ⟨hR, hf.keep [1, 5, 6, 7, 8], sat_to [0, 0, 0, 0, 0, 0, 0, 0] 0 rfl hs⟩
    · rintro a w ⟨hv, hf, hs⟩
      subst hv
      replace hF := hK53
      clear hK53
      try dsimp only [Thru] at hF
      revert a w
      show CW _ _ _ 171 [(1, .slice p38 l37.length c39), (5, .pointer (some ⟨r21_b1, 0, none⟩)), (6, .slice r26_p1 r26.1.length r26_c2), (7, .pointer (some ⟨b51, 0, none⟩)), (8, .int .i64 r44.2.1)] (SAT w0 ([imm J41, pt b51 #[.int .i64 r44.1.Size, .slice r44_p1 r44.1.Picks.length r44_c2, .slice r44_p4 r44.1.Leaf.length r44_c5, .slice r44_p7 r44.1.Nodes.length r44_c8] 25, pt r21_b1 #[.map (some r44_b10), .map (some r44_b12), .string r44.2.2.twins_.e0, .string r44.2.2.twins_.e1, .bool r44.2.2.found_, .bool r44.2.2.full_, .int .i64 r44.2.2.sums_] 60, own (eInt .i64) 3 r44_p1 r44_c2 r44.1.Picks, own eStr 9 r44_p4 r44_c5 r44.1.Leaf, own eStr 9 r44_p7 r44_c8 r44.1.Nodes, mpo kStr kStr r44_b10 r44.2.2.table_, mpo kStr kStr r44_b12 r44.2.2.notes_] ++ F0))
      unfold F.law30_BatchProves.r3 at hF
      obtain ⟨v63, hF, hK63⟩ := thru_some hF
      refine cw_mid (fun a w => .inl () = v63 ∧ Fr 171 [(1, .slice p38 l37.length c39), (5, .pointer (some ⟨r21_b1, 0, none⟩)), (6, .slice r26_p1 r26.1.length r26_c2), (7, .pointer (some ⟨b51, 0, none⟩)), (8, .int .i64 r44.2.1)] a ∧ SAT w0 ([imm J41, pt b51 #[.int .i64 r44.1.Size, .slice r44_p1 r44.1.Picks.length r44_c2, .slice r44_p4 r44.1.Leaf.length r44_c5, .slice r44_p7 r44.1.Nodes.length r44_c8] 25, pt r21_b1 #[.map (some r44_b10), .map (some r44_b12), .string r44.2.2.twins_.e0, .string r44.2.2.twins_.e1, .bool r44.2.2.found_, .bool r44.2.2.full_, .int .i64 r44.2.2.sums_] 60, own (eInt .i64) 3 r44_p1 r44_c2 r44.1.Picks, own eStr 9 r44_p4 r44_c5 r44.1.Leaf, own eStr 9 r44_p7 r44_c8 r44.1.Nodes, mpo kStr kStr r44_b10 r44.2.2.table_, mpo kStr kStr r44_b12 r44.2.2.notes_] ++ F0) w) ?_ ?_
      · refine cw_seq ?_
        refine cw_region ?_
        refine ow_vals 3 (j := 3) [1, 5, 6, 7, 8, 52, 54] [(1, .slice p38 l37.length c39), (5, .pointer (some ⟨r21_b1, 0, none⟩)), (6, .slice r26_p1 r26.1.length r26_c2), (7, .pointer (some ⟨b51, 0, none⟩)), (8, .int .i64 r44.2.1), (52, .slice p38 l37.length c39), (54, .int .i64 (r26.1.length : Int))] rfl (by kernel_rfl) ?_
        obtain ⟨r64, h65, hF⟩ := bind_some hF
        refine ow_pw rfl (pw_call (F := [pt b51 #[.int .i64 r44.1.Size, .slice r44_p1 r44.1.Picks.length r44_c2, .slice r44_p4 r44.1.Leaf.length r44_c5, .slice r44_p7 r44.1.Nodes.length r44_c8] 25, pt r21_b1 #[.map (some r44_b10), .map (some r44_b12), .string r44.2.2.twins_.e0, .string r44.2.2.twins_.e1, .bool r44.2.2.found_, .bool r44.2.2.full_, .int .i64 r44.2.2.sums_] 60, own (eInt .i64) 3 r44_p1 r44_c2 r44.1.Picks, own eStr 9 r44_p4 r44_c5 r44.1.Leaf, own eStr 9 r44_p7 r44_c8 r44.1.Nodes, mpo kStr kStr r44_b10 r44.2.2.table_, mpo kStr kStr r44_b12 r44.2.2.notes_] ++ F0) rfl rfl rfl rfl rfl rfl rfl (by kernel_rfl) (perm_of_pulls [0] rfl) (c_law30_rising _ l37 (r26.1.length : Int) p38 c39 r64 h65 h40) ?_)
        rintro _ _ ⟨rfl, rfl⟩
        refine nw_H (H' := [imm J41, pt b51 #[.int .i64 r44.1.Size, .slice r44_p1 r44.1.Picks.length r44_c2, .slice r44_p4 r44.1.Leaf.length r44_c5, .slice r44_p7 r44.1.Nodes.length r44_c8] 25, pt r21_b1 #[.map (some r44_b10), .map (some r44_b12), .string r44.2.2.twins_.e0, .string r44.2.2.twins_.e1, .bool r44.2.2.found_, .bool r44.2.2.full_, .int .i64 r44.2.2.sums_] 60, own (eInt .i64) 3 r44_p1 r44_c2 r44.1.Picks, own eStr 9 r44_p4 r44_c5 r44.1.Leaf, own eStr 9 r44_p7 r44_c8 r44.1.Nodes, mpo kStr kStr r44_b10 r44.2.2.table_, mpo kStr kStr r44_b12 r44.2.2.notes_] ++ F0) rfl (nw_ow ?_)
        refine ow_vals 1 (j := 5) [1, 5, 6, 7, 8, 56] [(1, .slice p38 l37.length c39), (5, .pointer (some ⟨r21_b1, 0, none⟩)), (6, .slice r26_p1 r26.1.length r26_c2), (7, .pointer (some ⟨b51, 0, none⟩)), (8, .int .i64 r44.2.1), (56, .bool (!r64))] rfl (by kernel_rfl) ?_
        refine ow_end rfl ?_
        refine ew_then ?_
        rcases if_some hF with ⟨h66, hF⟩ | ⟨h66, hF⟩
        · refine cw_cond_t rfl rfl h66 ?_
          refine cw_seq ?_
          refine cw_region ?_
          refine ow_vals 3 (j := 3) [7, 59] [(7, .pointer (some ⟨b51, 0, none⟩)), (59, .bool (r44.2.1 == 21))] rfl (by kernel_rfl) ?_
          rcases if_some hF with ⟨h67, hF⟩ | ⟨h67, hF⟩
          · refine ow_slots (L' := [(7, .pointer (some ⟨b51, 0, none⟩)), (59, .bool true)]) (by rw [h67]) ?_
            refine ow_vals 1 (j := 4) [7, 59, 60] [(7, .pointer (some ⟨b51, 0, none⟩)), (59, .bool true), (60, .pointer (some ⟨b51, 0, none⟩))] rfl (by kernel_rfl) ?_
            refine ow_pw rfl (pw_quiet (v := .int .i64 r44.1.Size) rfl rfl rfl rfl (q_load 1 rfl rfl rfl (by kernel_rfl)) (nw_ow ?_))
            refine ow_vals 3 (j := 8) [7, 64] [(7, .pointer (some ⟨b51, 0, none⟩)), (64, .bool (r44.1.Size == 0))] rfl (by kernel_rfl) ?_
            rcases if_some hF with ⟨h68, hF⟩ | ⟨h68, hF⟩
            · refine ow_slots (L' := [(7, .pointer (some ⟨b51, 0, none⟩)), (64, .bool true)]) (by rw [h68]) ?_
              refine ow_vals 1 (j := 9) [64, 65] [(64, .bool true), (65, .pointer (some ⟨b51, 2, none⟩))] rfl (by kernel_rfl) ?_
              refine ow_pw rfl (pw_quiet (v := .slice r44_p4 r44.1.Leaf.length r44_c5) rfl rfl rfl rfl (q_load 1 rfl rfl rfl (by kernel_rfl)) (nw_ow ?_))
              refine ow_vals 4 (j := 14) [70] [(70, .bool ((r44.1.Leaf.length : Int) == 0))] rfl (by kernel_rfl) ?_
              rcases if_some hF with ⟨h69, hF⟩ | ⟨h69, hF⟩
              · refine ow_slots (L' := [(70, .bool true)]) (by rw [h69]) ?_
                obtain ⟨r70, h71, hF⟩ := bind_some hF
                refine ow_pw rfl (pw_call (F := [pt b51 #[.int .i64 r44.1.Size, .slice r44_p1 r44.1.Picks.length r44_c2, .slice r44_p4 r44.1.Leaf.length r44_c5, .slice r44_p7 r44.1.Nodes.length r44_c8] 25, pt r21_b1 #[.map (some r44_b10), .map (some r44_b12), .string r44.2.2.twins_.e0, .string r44.2.2.twins_.e1, .bool r44.2.2.found_, .bool r44.2.2.full_, .int .i64 r44.2.2.sums_] 60, own (eInt .i64) 3 r44_p1 r44_c2 r44.1.Picks, own eStr 9 r44_p4 r44_c5 r44.1.Leaf, own eStr 9 r44_p7 r44_c8 r44.1.Nodes, mpo kStr kStr r44_b10 r44.2.2.table_, mpo kStr kStr r44_b12 r44.2.2.notes_] ++ F0) rfl rfl rfl rfl rfl rfl rfl (by kernel_rfl) (perm_of_pulls [0] rfl) (c_law30_awake _ r70 h71) ?_)
                rintro _ _ ⟨r70_J, rfl, rfl, r70_hJ⟩
                refine nw_H (H' := [imm r70_J, pt b51 #[.int .i64 r44.1.Size, .slice r44_p1 r44.1.Picks.length r44_c2, .slice r44_p4 r44.1.Leaf.length r44_c5, .slice r44_p7 r44.1.Nodes.length r44_c8] 25, pt r21_b1 #[.map (some r44_b10), .map (some r44_b12), .string r44.2.2.twins_.e0, .string r44.2.2.twins_.e1, .bool r44.2.2.found_, .bool r44.2.2.full_, .int .i64 r44.2.2.sums_] 60, own (eInt .i64) 3 r44_p1 r44_c2 r44.1.Picks, own eStr 9 r44_p4 r44_c5 r44.1.Leaf, own eStr 9 r44_p7 r44_c8 r44.1.Nodes, mpo kStr kStr r44_b10 r44.2.2.table_, mpo kStr kStr r44_b12 r44.2.2.notes_] ++ F0) rfl (nw_ow ?_)
                refine ow_vals 2 (j := 17) [4] [(4, .bool r70)] rfl (by kernel_rfl) ?_
                refine ow_end rfl ?_
                refine ew_then ?_
                refine cw_ret ?_
                refine ew_then_ret ?_
                have hR := Option.some.inj hF
                subst hR
                have hR := hK63
                try dsimp only [Thru] at hR
                subst hR
                exact fin1 (H1 := [imm r70_J]) (fun w hs => sat_to [1, 1, 1, 1, 1, 1, 1, 0] 7 rfl hs) rfl (rr_tmp rfl) ⟨r70_J, rfl, rfl, (Hl.sub_trans h42 r70_hJ)⟩
              · refine ow_slots (L' := [(70, .bool false)]) (by rw [h69]) ?_
                refine ow_vals 3 (j := 17) [4] [(4, .bool false)] rfl (by kernel_rfl) ?_
                refine ow_end rfl ?_
                refine ew_then ?_
                refine cw_ret ?_
                refine ew_then_ret ?_
                have hR := Option.some.inj hF
                subst hR
                have hR := hK63
                try dsimp only [Thru] at hR
                subst hR
                exact fin1 (H1 := [imm J41]) (fun w hs => sat_to [1, 1, 1, 1, 1, 1, 1, 0] 7 rfl hs) rfl (rr_tmp rfl) ⟨J41, rfl, rfl, h42⟩
            · refine ow_slots (L' := [(7, .pointer (some ⟨b51, 0, none⟩)), (64, .bool false)]) (by rw [h68]) ?_
              refine ow_vals 9 (j := 17) [4] [(4, .bool false)] rfl (by kernel_rfl) ?_
              refine ow_end rfl ?_
              refine ew_then ?_
              refine cw_ret ?_
              refine ew_then_ret ?_
              have hR := Option.some.inj hF
              subst hR
              have hR := hK63
              try dsimp only [Thru] at hR
              subst hR
              exact fin1 (H1 := [imm J41]) (fun w hs => sat_to [1, 1, 1, 1, 1, 1, 1, 0] 7 rfl hs) rfl (rr_tmp rfl) ⟨J41, rfl, rfl, h42⟩
          · refine ow_slots (L' := [(7, .pointer (some ⟨b51, 0, none⟩)), (59, .bool false)]) (by rw [h67]) ?_
            refine ow_vals 14 (j := 17) [4] [(4, .bool false)] rfl (by kernel_rfl) ?_
            refine ow_end rfl ?_
            refine ew_then ?_
            refine cw_ret ?_
            refine ew_then_ret ?_
            have hR := Option.some.inj hF
            subst hR
            have hR := hK63
            try dsimp only [Thru] at hR
            subst hR
            exact fin1 (H1 := [imm J41]) (fun w hs => sat_to [1, 1, 1, 1, 1, 1, 1, 0] 7 rfl hs) rfl (rr_tmp rfl) ⟨J41, rfl, rfl, h42⟩
        · refine cw_cond_f rfl rfl h66 ?_
          refine cw_skip ?_
          have hR := Option.some.inj hF
          exact fun a w hf hs => ⟨hR, hf.keep [1, 5, 6, 7, 8], sat_to [0, 0, 0, 0, 0, 0, 0, 0] 0 rfl hs⟩
      · rintro a w ⟨hv, hf, hs⟩
        subst hv
        replace hF := hK63
        clear hK63
        try dsimp only [Thru] at hF
        revert a w
        show CW _ _ _ 171 [(1, .slice p38 l37.length c39), (5, .pointer (some ⟨r21_b1, 0, none⟩)), (6, .slice r26_p1 r26.1.length r26_c2), (7, .pointer (some ⟨b51, 0, none⟩)), (8, .int .i64 r44.2.1)] (SAT w0 ([imm J41, pt b51 #[.int .i64 r44.1.Size, .slice r44_p1 r44.1.Picks.length r44_c2, .slice r44_p4 r44.1.Leaf.length r44_c5, .slice r44_p7 r44.1.Nodes.length r44_c8] 25, pt r21_b1 #[.map (some r44_b10), .map (some r44_b12), .string r44.2.2.twins_.e0, .string r44.2.2.twins_.e1, .bool r44.2.2.found_, .bool r44.2.2.full_, .int .i64 r44.2.2.sums_] 60, own (eInt .i64) 3 r44_p1 r44_c2 r44.1.Picks, own eStr 9 r44_p4 r44_c5 r44.1.Leaf, own eStr 9 r44_p7 r44_c8 r44.1.Nodes, mpo kStr kStr r44_b10 r44.2.2.table_, mpo kStr kStr r44_b12 r44.2.2.notes_] ++ F0))
        unfold F.law30_BatchProves.r4 at hF
        obtain ⟨v72, hF, hK72⟩ := thru_some hF
        refine cw_mid (fun a w => ∃ (l93 : List (ByteArray × ByteArray)), ∃ (l96 : List (ByteArray × ByteArray)), ∃ (s99 : ByteArray), ∃ (s100 : ByteArray), ∃ (x101 : Bool), ∃ (x102 : Bool), ∃ (x103 : Int), ∃ (l104 : List ByteArray), ∃ (J91 : Hl), ∃ (b95 : Nat), ∃ (b98 : Nat), ∃ (p105 : Option Addr), ∃ (c106 : Nat), .inl (l93, l96, s99, s100, x101, x102, x103, l104) = v72 ∧ Hl.sub J41 J91 ∧ ro J91 eStr p105 c106 l104 ∧ Fr 171 [(1, .slice p38 l37.length c39), (5, .pointer (some ⟨r21_b1, 0, none⟩)), (6, .slice r26_p1 r26.1.length r26_c2), (7, .pointer (some ⟨b51, 0, none⟩))] a ∧ SAT w0 ([imm J91, pt r21_b1 #[.map (some b95), .map (some b98), .string s99, .string s100, .bool x101, .bool x102, .int .i64 x103] 60, pt b51 #[.int .i64 r44.1.Size, .slice r44_p1 r44.1.Picks.length r44_c2, .slice r44_p4 r44.1.Leaf.length r44_c5, .slice p105 l104.length c106] 25, mpo kStr kStr b95 l93, mpo kStr kStr b98 l96, own (eInt .i64) 3 r44_p1 r44_c2 r44.1.Picks, own eStr 9 r44_p4 r44_c5 r44.1.Leaf] ++ F0) w) ?_ ?_
        · refine cw_seq ?_
          refine cw_open 32 (SAT w0 ([imm J41, pt b51 #[.int .i64 r44.1.Size, .slice r44_p1 r44.1.Picks.length r44_c2, .slice r44_p4 r44.1.Leaf.length r44_c5, .slice r44_p7 r44.1.Nodes.length r44_c8] 25, own (eInt .i64) 3 r44_p1 r44_c2 r44.1.Picks, own eStr 9 r44_p4 r44_c5 r44.1.Leaf, own eStr 9 r44_p7 r44_c8 r44.1.Nodes])) (by kernel_rfl) (f := 35) rfl (fun w hs => sat_drew hs) ?_
          refine aw_vals [0, 1, 2] (f' := 32) (m' := 7) [1, 5, 6, 7, 75] [(1, .slice p38 l37.length c39), (5, .pointer (some ⟨r21_b1, 0, none⟩)), (6, .slice r26_p1 r26.1.length r26_c2), (7, .pointer (some ⟨b51, 0, none⟩)), (75, .bool (r44.2.1 != 0))] (fun _ _ _ _ _ h => calm_fin (P := Try.prog) (fn := Try.f4) _ _ _ _ _ h) (fun w hs => sat_pulls [0, 0, 1, 1, 1] (G := [pt r21_b1 #[.map (some r44_b10), .map (some r44_b12), .string r44.2.2.twins_.e0, .string r44.2.2.twins_.e1, .bool r44.2.2.found_, .bool r44.2.2.full_, .int .i64 r44.2.2.sums_] 60, mpo kStr kStr r44_b10 r44.2.2.table_, mpo kStr kStr r44_b12 r44.2.2.notes_] ++ F0) rfl hs) rfl (by kernel_rfl) ?_
          rcases if_some hF with ⟨h73, hF⟩ | ⟨h73, hF⟩
          · refine aw_slots (L' := [(1, .slice p38 l37.length c39), (5, .pointer (some ⟨r21_b1, 0, none⟩)), (6, .slice r26_p1 r26.1.length r26_c2), (7, .pointer (some ⟨b51, 0, none⟩)), (75, .bool true)]) (by rw [h73]) ?_
            refine aw_vals [3, 4, 5, 6, 7, 8, 9, 10, 11, 12, 13, 14, 15, 16, 17, 18, 19, 20, 21, 22, 23, 24, 25, 26, 27, 28, 29, 30, 31] (f' := 3) (m' := 4294967295) [1, 5, 6, 7, 98, 100, 104] [(1, .slice p38 l37.length c39), (5, .pointer (some ⟨r21_b1, 0, none⟩)), (6, .slice r26_p1 r26.1.length r26_c2), (7, .pointer (some ⟨b51, 0, none⟩)), (98, .bool true), (100, undef), (104, undef)] (fun _ _ _ _ _ h => calm_fin (P := Try.prog) (fn := Try.f4) _ _ _ _ _ h) (fun w hs => sat_pulls [0, 0, 1, 1, 1] (G := [pt r21_b1 #[.map (some r44_b10), .map (some r44_b12), .string r44.2.2.twins_.e0, .string r44.2.2.twins_.e1, .bool r44.2.2.found_, .bool r44.2.2.full_, .int .i64 r44.2.2.sums_] 60, mpo kStr kStr r44_b10 r44.2.2.table_, mpo kStr kStr r44_b12 r44.2.2.notes_] ++ F0) rfl hs) rfl (by kernel_rfl) ?_
            refine aw_only 32 (m' := 8589934591) (by kernel_rfl) (by kernel_rfl) (pw_skip rfl rfl rfl (aw_last (by kernel_rfl) ?_))
            refine aw_past (by kernel_rfl) ?_
            refine aw_vals [33, 34] (f' := 0) (m' := 34359738367) [1, 5, 6, 7, 107] [(1, .slice p38 l37.length c39), (5, .pointer (some ⟨r21_b1, 0, none⟩)), (6, .slice r26_p1 r26.1.length r26_c2), (7, .pointer (some ⟨b51, 0, none⟩)), (107, .bool true)] (fun _ _ _ _ _ h => calm_fin (P := Try.prog) (fn := Try.f4) _ _ _ _ _ h) (fun _ _ => trivial) rfl (by kernel_rfl) ?_
            refine aw_keep [1, 5, 6, 7, 107] (L' := [(1, .slice p38 l37.length c39), (5, .pointer (some ⟨r21_b1, 0, none⟩)), (6, .slice r26_p1 r26.1.length r26_c2), (7, .pointer (some ⟨b51, 0, none⟩)), (107, .bool true)]) rfl ?_
            refine aw_end (by kernel_rfl) ?_
            refine ew_then ?_
            refine cw_cond_t rfl rfl rfl ?_
            refine cw_seq ?_
            refine cw_region ?_
            refine ow_vals 1 (j := 1) [4] [(4, .bool false)] rfl (by kernel_rfl) ?_
            refine ow_end rfl ?_
            refine ew_then ?_
            refine cw_ret ?_
            refine ew_then_ret ?_
            have hR := Option.some.inj hF
            subst hR
            have hR := hK72
            try dsimp only [Thru] at hR
            subst hR
            exact fin1 (H1 := [imm J41]) (fun w hs => sat_to [1, 1, 1, 1, 1, 1, 1, 0] 7 rfl hs) rfl (rr_tmp rfl) ⟨J41, rfl, rfl, h42⟩
          · refine aw_slots (L' := [(1, .slice p38 l37.length c39), (5, .pointer (some ⟨r21_b1, 0, none⟩)), (6, .slice r26_p1 r26.1.length r26_c2), (7, .pointer (some ⟨b51, 0, none⟩)), (75, .bool false)]) (by rw [h73]) ?_
            refine aw_vals [3, 5, 6] (f' := 29) (m' := 111) [1, 5, 6, 7, 75, 76, 79] [(1, .slice p38 l37.length c39), (5, .pointer (some ⟨r21_b1, 0, none⟩)), (6, .slice r26_p1 r26.1.length r26_c2), (7, .pointer (some ⟨b51, 0, none⟩)), (75, .bool false), (76, .pointer (some ⟨b51, 0, none⟩)), (79, .int .i64 (r26.1.length : Int))] (fun _ _ _ _ _ h => calm_fin (P := Try.prog) (fn := Try.f4) _ _ _ _ _ h) (fun w hs => sat_pulls [0, 0, 1, 1, 1] (G := [pt r21_b1 #[.map (some r44_b10), .map (some r44_b12), .string r44.2.2.twins_.e0, .string r44.2.2.twins_.e1, .bool r44.2.2.found_, .bool r44.2.2.full_, .int .i64 r44.2.2.sums_] 60, mpo kStr kStr r44_b10 r44.2.2.table_, mpo kStr kStr r44_b12 r44.2.2.notes_] ++ F0) rfl hs) rfl (by kernel_rfl) ?_
            refine aw_quiet 4 (m' := 127) (v := .int .i64 r44.1.Size) 25 [17, 9, 8, 7, 4] rfl rfl rfl rfl (by kernel_rfl) (by kernel_rfl) (by kernel_rfl) (fun _ _ _ _ _ h => calm_fin (P := Try.prog) (fn := Try.f4) _ _ _ _ _ h) (fun w hs => sat_pulls [0, 0, 1, 1, 1] (G := [pt r21_b1 #[.map (some r44_b10), .map (some r44_b12), .string r44.2.2.twins_.e0, .string r44.2.2.twins_.e1, .bool r44.2.2.found_, .bool r44.2.2.full_, .int .i64 r44.2.2.sums_] 60, mpo kStr kStr r44_b10 r44.2.2.table_, mpo kStr kStr r44_b12 r44.2.2.notes_] ++ F0) rfl hs) (q_load 1 rfl rfl rfl (by kernel_rfl)) ?_
            refine aw_vals [7, 8, 9] (f' := 25) (m' := 1023) [1, 5, 6, 7, 82] [(1, .slice p38 l37.length c39), (5, .pointer (some ⟨r21_b1, 0, none⟩)), (6, .slice r26_p1 r26.1.length r26_c2), (7, .pointer (some ⟨b51, 0, none⟩)), (82, .bool (r44.1.Size != (r26.1.length : Int)))] (fun _ _ _ _ _ h => calm_fin (P := Try.prog) (fn := Try.f4) _ _ _ _ _ h) (fun w hs => sat_pulls [0, 0, 1, 1, 1] (G := [pt r21_b1 #[.map (some r44_b10), .map (some r44_b12), .string r44.2.2.twins_.e0, .string r44.2.2.twins_.e1, .bool r44.2.2.found_, .bool r44.2.2.full_, .int .i64 r44.2.2.sums_] 60, mpo kStr kStr r44_b10 r44.2.2.table_, mpo kStr kStr r44_b12 r44.2.2.notes_] ++ F0) rfl hs) rfl (by kernel_rfl) ?_
            rcases if_some hF with ⟨h74, hF⟩ | ⟨h74, hF⟩
            · refine aw_slots (L' := [(1, .slice p38 l37.length c39), (5, .pointer (some ⟨r21_b1, 0, none⟩)), (6, .slice r26_p1 r26.1.length r26_c2), (7, .pointer (some ⟨b51, 0, none⟩)), (82, .bool true)]) (by rw [h74]) ?_
              refine aw_vals [10, 11, 12, 13, 14, 15, 16, 17, 18, 19, 20, 21, 22, 23, 24, 25, 26, 27, 28, 29, 30, 31] (f' := 3) (m' := 4294967295) [1, 5, 6, 7, 98, 100, 104] [(1, .slice p38 l37.length c39), (5, .pointer (some ⟨r21_b1, 0, none⟩)), (6, .slice r26_p1 r26.1.length r26_c2), (7, .pointer (some ⟨b51, 0, none⟩)), (98, .bool true), (100, undef), (104, undef)] (fun _ _ _ _ _ h => calm_fin (P := Try.prog) (fn := Try.f4) _ _ _ _ _ h) (fun w hs => sat_pulls [0, 0, 1, 1, 1] (G := [pt r21_b1 #[.map (some r44_b10), .map (some r44_b12), .string r44.2.2.twins_.e0, .string r44.2.2.twins_.e1, .bool r44.2.2.found_, .bool r44.2.2.full_, .int .i64 r44.2.2.sums_] 60, mpo kStr kStr r44_b10 r44.2.2.table_, mpo kStr kStr r44_b12 r44.2.2.notes_] ++ F0) rfl hs) rfl (by kernel_rfl) ?_
              refine aw_only 32 (m' := 8589934591) (by kernel_rfl) (by kernel_rfl) (pw_skip rfl rfl rfl (aw_last (by kernel_rfl) ?_))
              refine aw_past (by kernel_rfl) ?_
              refine aw_vals [33, 34] (f' := 0) (m' := 34359738367) [1, 5, 6, 7, 107] [(1, .slice p38 l37.length c39), (5, .pointer (some ⟨r21_b1, 0, none⟩)), (6, .slice r26_p1 r26.1.length r26_c2), (7, .pointer (some ⟨b51, 0, none⟩)), (107, .bool true)] (fun _ _ _ _ _ h => calm_fin (P := Try.prog) (fn := Try.f4) _ _ _ _ _ h) (fun _ _ => trivial) rfl (by kernel_rfl) ?_
              refine aw_keep [1, 5, 6, 7, 107] (L' := [(1, .slice p38 l37.length c39), (5, .pointer (some ⟨r21_b1, 0, none⟩)), (6, .slice r26_p1 r26.1.length r26_c2), (7, .pointer (some ⟨b51, 0, none⟩)), (107, .bool true)]) rfl ?_
              refine aw_end (by kernel_rfl) ?_
              refine ew_then ?_
              refine cw_cond_t rfl rfl rfl ?_
              refine cw_seq ?_
              refine cw_region ?_
              refine ow_vals 1 (j := 1) [4] [(4, .bool false)] rfl (by kernel_rfl) ?_
              refine ow_end rfl ?_
              refine ew_then ?_
              refine cw_ret ?_
              refine ew_then_ret ?_
              have hR := Option.some.inj hF
              subst hR
              have hR := hK72
              try dsimp only [Thru] at hR
              subst hR
              exact fin1 (H1 := [imm J41]) (fun w hs => sat_to [1, 1, 1, 1, 1, 1, 1, 0] 7 rfl hs) rfl (rr_tmp rfl) ⟨J41, rfl, rfl, h42⟩
            · refine aw_slots (L' := [(1, .slice p38 l37.length c39), (5, .pointer (some ⟨r21_b1, 0, none⟩)), (6, .slice r26_p1 r26.1.length r26_c2), (7, .pointer (some ⟨b51, 0, none⟩)), (82, .bool false)]) (by rw [h74]) ?_
              refine aw_vals [10, 13, 14] (f' := 22) (m' := 26623) [1, 5, 6, 7, 82, 83, 87] [(1, .slice p38 l37.length c39), (5, .pointer (some ⟨r21_b1, 0, none⟩)), (6, .slice r26_p1 r26.1.length r26_c2), (7, .pointer (some ⟨b51, 0, none⟩)), (82, .bool false), (83, .pointer (some ⟨b51, 1, none⟩)), (87, .int .i64 (l37.length : Int))] (fun _ _ _ _ _ h => calm_fin (P := Try.prog) (fn := Try.f4) _ _ _ _ _ h) (fun w hs => sat_pulls [0, 0, 1, 1, 1] (G := [pt r21_b1 #[.map (some r44_b10), .map (some r44_b12), .string r44.2.2.twins_.e0, .string r44.2.2.twins_.e1, .bool r44.2.2.found_, .bool r44.2.2.full_, .int .i64 r44.2.2.sums_] 60, mpo kStr kStr r44_b10 r44.2.2.table_, mpo kStr kStr r44_b12 r44.2.2.notes_] ++ F0) rfl hs) rfl (by kernel_rfl) ?_
              refine aw_quiet 11 (m' := 28671) (v := .slice r44_p1 r44.1.Picks.length r44_c2) 25 [17, 16, 15, 12, 11] rfl rfl rfl rfl (by kernel_rfl) (by kernel_rfl) (by kernel_rfl) (fun _ _ _ _ _ h => calm_fin (P := Try.prog) (fn := Try.f4) _ _ _ _ _ h) (fun w hs => sat_pulls [0, 0, 1, 1, 1] (G := [pt r21_b1 #[.map (some r44_b10), .map (some r44_b12), .string r44.2.2.twins_.e0, .string r44.2.2.twins_.e1, .bool r44.2.2.found_, .bool r44.2.2.full_, .int .i64 r44.2.2.sums_] 60, mpo kStr kStr r44_b10 r44.2.2.table_, mpo kStr kStr r44_b12 r44.2.2.notes_] ++ F0) rfl hs) (q_load 1 rfl rfl rfl (by kernel_rfl)) ?_
              refine aw_vals [12, 15, 16, 17] (f' := 17) (m' := 262143) [1, 5, 6, 7, 90] [(1, .slice p38 l37.length c39), (5, .pointer (some ⟨r21_b1, 0, none⟩)), (6, .slice r26_p1 r26.1.length r26_c2), (7, .pointer (some ⟨b51, 0, none⟩)), (90, .bool ((r44.1.Picks.length : Int) != (l37.length : Int)))] (fun _ _ _ _ _ h => calm_fin (P := Try.prog) (fn := Try.f4) _ _ _ _ _ h) (fun w hs => sat_pulls [0, 0, 1, 1, 1] (G := [pt r21_b1 #[.map (some r44_b10), .map (some r44_b12), .string r44.2.2.twins_.e0, .string r44.2.2.twins_.e1, .bool r44.2.2.found_, .bool r44.2.2.full_, .int .i64 r44.2.2.sums_] 60, mpo kStr kStr r44_b10 r44.2.2.table_, mpo kStr kStr r44_b12 r44.2.2.notes_] ++ F0) rfl hs) rfl (by kernel_rfl) ?_
              rcases if_some hF with ⟨h75, hF⟩ | ⟨h75, hF⟩
              · refine aw_slots (L' := [(1, .slice p38 l37.length c39), (5, .pointer (some ⟨r21_b1, 0, none⟩)), (6, .slice r26_p1 r26.1.length r26_c2), (7, .pointer (some ⟨b51, 0, none⟩)), (90, .bool true)]) (by rw [h75]) ?_
                refine aw_vals [18, 19, 20, 21, 22, 23, 24, 25, 26, 27, 28, 29, 30, 31] (f' := 3) (m' := 4294967295) [1, 5, 6, 7, 98, 100, 104] [(1, .slice p38 l37.length c39), (5, .pointer (some ⟨r21_b1, 0, none⟩)), (6, .slice r26_p1 r26.1.length r26_c2), (7, .pointer (some ⟨b51, 0, none⟩)), (98, .bool true), (100, undef), (104, undef)] (fun _ _ _ _ _ h => calm_fin (P := Try.prog) (fn := Try.f4) _ _ _ _ _ h) (fun w hs => sat_pulls [0, 0, 1, 1, 1] (G := [pt r21_b1 #[.map (some r44_b10), .map (some r44_b12), .string r44.2.2.twins_.e0, .string r44.2.2.twins_.e1, .bool r44.2.2.found_, .bool r44.2.2.full_, .int .i64 r44.2.2.sums_] 60, mpo kStr kStr r44_b10 r44.2.2.table_, mpo kStr kStr r44_b12 r44.2.2.notes_] ++ F0) rfl hs) rfl (by kernel_rfl) ?_
                refine aw_only 32 (m' := 8589934591) (by kernel_rfl) (by kernel_rfl) (pw_skip rfl rfl rfl (aw_last (by kernel_rfl) ?_))
                refine aw_past (by kernel_rfl) ?_
                refine aw_vals [33, 34] (f' := 0) (m' := 34359738367) [1, 5, 6, 7, 107] [(1, .slice p38 l37.length c39), (5, .pointer (some ⟨r21_b1, 0, none⟩)), (6, .slice r26_p1 r26.1.length r26_c2), (7, .pointer (some ⟨b51, 0, none⟩)), (107, .bool true)] (fun _ _ _ _ _ h => calm_fin (P := Try.prog) (fn := Try.f4) _ _ _ _ _ h) (fun _ _ => trivial) rfl (by kernel_rfl) ?_
                refine aw_keep [1, 5, 6, 7, 107] (L' := [(1, .slice p38 l37.length c39), (5, .pointer (some ⟨r21_b1, 0, none⟩)), (6, .slice r26_p1 r26.1.length r26_c2), (7, .pointer (some ⟨b51, 0, none⟩)), (107, .bool true)]) rfl ?_
                refine aw_end (by kernel_rfl) ?_
                refine ew_then ?_
                refine cw_cond_t rfl rfl rfl ?_
                refine cw_seq ?_
                refine cw_region ?_
                refine ow_vals 1 (j := 1) [4] [(4, .bool false)] rfl (by kernel_rfl) ?_
                refine ow_end rfl ?_
                refine ew_then ?_
                refine cw_ret ?_
                refine ew_then_ret ?_
                have hR := Option.some.inj hF
                subst hR
                have hR := hK72
                try dsimp only [Thru] at hR
                subst hR
                exact fin1 (H1 := [imm J41]) (fun w hs => sat_to [1, 1, 1, 1, 1, 1, 1, 0] 7 rfl hs) rfl (rr_tmp rfl) ⟨J41, rfl, rfl, h42⟩
              · refine aw_slots (L' := [(1, .slice p38 l37.length c39), (5, .pointer (some ⟨r21_b1, 0, none⟩)), (6, .slice r26_p1 r26.1.length r26_c2), (7, .pointer (some ⟨b51, 0, none⟩)), (90, .bool false)]) (by rw [h75]) ?_
                refine aw_vals [18, 21, 22] (f' := 14) (m' := 6815743) [1, 5, 6, 7, 90, 91, 95] [(1, .slice p38 l37.length c39), (5, .pointer (some ⟨r21_b1, 0, none⟩)), (6, .slice r26_p1 r26.1.length r26_c2), (7, .pointer (some ⟨b51, 0, none⟩)), (90, .bool false), (91, .pointer (some ⟨b51, 2, none⟩)), (95, .int .i64 (l37.length : Int))] (fun _ _ _ _ _ h => calm_fin (P := Try.prog) (fn := Try.f4) _ _ _ _ _ h) (fun w hs => sat_pulls [0, 0, 1, 1, 1] (G := [pt r21_b1 #[.map (some r44_b10), .map (some r44_b12), .string r44.2.2.twins_.e0, .string r44.2.2.twins_.e1, .bool r44.2.2.found_, .bool r44.2.2.full_, .int .i64 r44.2.2.sums_] 60, mpo kStr kStr r44_b10 r44.2.2.table_, mpo kStr kStr r44_b12 r44.2.2.notes_] ++ F0) rfl hs) rfl (by kernel_rfl) ?_
                refine aw_quiet 19 (m' := 7340031) (v := .slice r44_p4 r44.1.Leaf.length r44_c5) 25 [24, 23, 20, 19] rfl rfl rfl rfl (by kernel_rfl) (by kernel_rfl) (by kernel_rfl) (fun _ _ _ _ _ h => calm_fin (P := Try.prog) (fn := Try.f4) _ _ _ _ _ h) (fun w hs => sat_pulls [0, 0, 1, 1, 1] (G := [pt r21_b1 #[.map (some r44_b10), .map (some r44_b12), .string r44.2.2.twins_.e0, .string r44.2.2.twins_.e1, .bool r44.2.2.found_, .bool r44.2.2.full_, .int .i64 r44.2.2.sums_] 60, mpo kStr kStr r44_b10 r44.2.2.table_, mpo kStr kStr r44_b12 r44.2.2.notes_] ++ F0) rfl hs) (q_load 1 rfl rfl rfl (by kernel_rfl)) ?_
                refine aw_vals [20, 23, 24, 25] (f' := 9) (m' := 67108863) [1, 5, 6, 7, 98] [(1, .slice p38 l37.length c39), (5, .pointer (some ⟨r21_b1, 0, none⟩)), (6, .slice r26_p1 r26.1.length r26_c2), (7, .pointer (some ⟨b51, 0, none⟩)), (98, .bool ((r44.1.Leaf.length : Int) != (l37.length : Int)))] (fun _ _ _ _ _ h => calm_fin (P := Try.prog) (fn := Try.f4) _ _ _ _ _ h) (fun w hs => sat_pulls [0, 0, 1, 1, 1] (G := [pt r21_b1 #[.map (some r44_b10), .map (some r44_b12), .string r44.2.2.twins_.e0, .string r44.2.2.twins_.e1, .bool r44.2.2.found_, .bool r44.2.2.full_, .int .i64 r44.2.2.sums_] 60, mpo kStr kStr r44_b10 r44.2.2.table_, mpo kStr kStr r44_b12 r44.2.2.notes_] ++ F0) rfl hs) rfl (by kernel_rfl) ?_
                rcases if_some hF with ⟨h76, hF⟩ | ⟨h76, hF⟩
                · refine aw_slots (L' := [(1, .slice p38 l37.length c39), (5, .pointer (some ⟨r21_b1, 0, none⟩)), (6, .slice r26_p1 r26.1.length r26_c2), (7, .pointer (some ⟨b51, 0, none⟩)), (98, .bool true)]) (by rw [h76]) ?_
                  refine aw_vals [26, 27, 28, 29, 30, 31] (f' := 3) (m' := 4294967295) [1, 5, 6, 7, 98, 100, 104] [(1, .slice p38 l37.length c39), (5, .pointer (some ⟨r21_b1, 0, none⟩)), (6, .slice r26_p1 r26.1.length r26_c2), (7, .pointer (some ⟨b51, 0, none⟩)), (98, .bool true), (100, undef), (104, undef)] (fun _ _ _ _ _ h => calm_fin (P := Try.prog) (fn := Try.f4) _ _ _ _ _ h) (fun w hs => sat_pulls [0, 0, 1, 1, 1] (G := [pt r21_b1 #[.map (some r44_b10), .map (some r44_b12), .string r44.2.2.twins_.e0, .string r44.2.2.twins_.e1, .bool r44.2.2.found_, .bool r44.2.2.full_, .int .i64 r44.2.2.sums_] 60, mpo kStr kStr r44_b10 r44.2.2.table_, mpo kStr kStr r44_b12 r44.2.2.notes_] ++ F0) rfl hs) rfl (by kernel_rfl) ?_
                  refine aw_only 32 (m' := 8589934591) (by kernel_rfl) (by kernel_rfl) (pw_skip rfl rfl rfl (aw_last (by kernel_rfl) ?_))
                  refine aw_past (by kernel_rfl) ?_
                  refine aw_vals [33, 34] (f' := 0) (m' := 34359738367) [1, 5, 6, 7, 107] [(1, .slice p38 l37.length c39), (5, .pointer (some ⟨r21_b1, 0, none⟩)), (6, .slice r26_p1 r26.1.length r26_c2), (7, .pointer (some ⟨b51, 0, none⟩)), (107, .bool true)] (fun _ _ _ _ _ h => calm_fin (P := Try.prog) (fn := Try.f4) _ _ _ _ _ h) (fun _ _ => trivial) rfl (by kernel_rfl) ?_
                  refine aw_keep [1, 5, 6, 7, 107] (L' := [(1, .slice p38 l37.length c39), (5, .pointer (some ⟨r21_b1, 0, none⟩)), (6, .slice r26_p1 r26.1.length r26_c2), (7, .pointer (some ⟨b51, 0, none⟩)), (107, .bool true)]) rfl ?_
                  refine aw_end (by kernel_rfl) ?_
                  refine ew_then ?_
                  refine cw_cond_t rfl rfl rfl ?_
                  refine cw_seq ?_
                  refine cw_region ?_
                  refine ow_vals 1 (j := 1) [4] [(4, .bool false)] rfl (by kernel_rfl) ?_
                  refine ow_end rfl ?_
                  refine ew_then ?_
                  refine cw_ret ?_
                  refine ew_then_ret ?_
                  have hR := Option.some.inj hF
                  subst hR
                  have hR := hK72
                  try dsimp only [Thru] at hR
                  subst hR
                  exact fin1 (H1 := [imm J41]) (fun w hs => sat_to [1, 1, 1, 1, 1, 1, 1, 0] 7 rfl hs) rfl (rr_tmp rfl) ⟨J41, rfl, rfl, h42⟩
                · refine aw_slots (L' := [(1, .slice p38 l37.length c39), (5, .pointer (some ⟨r21_b1, 0, none⟩)), (6, .slice r26_p1 r26.1.length r26_c2), (7, .pointer (some ⟨b51, 0, none⟩)), (98, .bool false)]) (by rw [h76]) ?_
                  refine aw_vals [26, 28, 29, 30] (f' := 5) (m' := 2013265919) [1, 5, 6, 7, 98, 99, 101, 102, 103] [(1, .slice p38 l37.length c39), (5, .pointer (some ⟨r21_b1, 0, none⟩)), (6, .slice r26_p1 r26.1.length r26_c2), (7, .pointer (some ⟨b51, 0, none⟩)), (98, .bool false), (99, .pointer (some ⟨b51, 3, none⟩)), (101, .pointer (some ⟨r21_b1, 0, none⟩)), (102, .slice r26_p1 r26.1.length r26_c2), (103, .slice p38 l37.length c39)] (fun _ _ _ _ _ h => calm_fin (P := Try.prog) (fn := Try.f4) _ _ _ _ _ h) (fun w hs => sat_pulls [0, 0, 1, 1, 1] (G := [pt r21_b1 #[.map (some r44_b10), .map (some r44_b12), .string r44.2.2.twins_.e0, .string r44.2.2.twins_.e1, .bool r44.2.2.found_, .bool r44.2.2.full_, .int .i64 r44.2.2.sums_] 60, mpo kStr kStr r44_b10 r44.2.2.table_, mpo kStr kStr r44_b12 r44.2.2.notes_] ++ F0) rfl hs) rfl (by kernel_rfl) ?_
                  refine aw_quiet 27 (m' := 2147483647) (v := .slice r44_p7 r44.1.Nodes.length r44_c8) 27 [] rfl rfl rfl rfl (by kernel_rfl) (by kernel_rfl) (by kernel_rfl) (fun _ _ _ _ _ h => calm_fin (P := Try.prog) (fn := Try.f4) _ _ _ _ _ h) (fun w hs => sat_pulls [0, 0, 1, 1, 1] (G := [pt r21_b1 #[.map (some r44_b10), .map (some r44_b12), .string r44.2.2.twins_.e0, .string r44.2.2.twins_.e1, .bool r44.2.2.found_, .bool r44.2.2.full_, .int .i64 r44.2.2.sums_] 60, mpo kStr kStr r44_b10 r44.2.2.table_, mpo kStr kStr r44_b12 r44.2.2.notes_] ++ F0) rfl hs) (q_load 1 rfl rfl rfl (by kernel_rfl)) ?_
                  obtain ⟨r77, h78, hF⟩ := bind_some hF
                  refine aw_only 31 (m' := 4294967295) (by kernel_rfl) (by kernel_rfl) (pw_call (F := [pt b51 #[.int .i64 r44.1.Size, .slice r44_p1 r44.1.Picks.length r44_c2, .slice r44_p4 r44.1.Leaf.length r44_c5, .slice r44_p7 r44.1.Nodes.length r44_c8] 25, own (eInt .i64) 3 r44_p1 r44_c2 r44.1.Picks, own eStr 9 r44_p4 r44_c5 r44.1.Leaf, own eStr 9 r44_p7 r44_c8 r44.1.Nodes] ++ F0) rfl rfl rfl rfl rfl rfl rfl (by kernel_rfl) (perm_of_pulls [0, 1, 4, 4] rfl) (c_law30_beside FUEL _ r26.1 0 l37 r44.2.2 r26_p1 r26_c2 p38 c39 r44_b10 r44_b12 r21_b1 r77 h78 h43 h40) ?_)
                  rintro _ _ ⟨r77_p1, r77_c2, r77_b4, r77_b6, rfl, rfl⟩
                  refine nw_H (H' := [imm J41, pt r21_b1 #[.map (some r77_b4), .map (some r77_b6), .string r77.2.twins_.e0, .string r77.2.twins_.e1, .bool r77.2.found_, .bool r77.2.full_, .int .i64 r77.2.sums_] 60, own eStr 9 r77_p1 r77_c2 r77.1, mpo kStr kStr r77_b4 r77.2.table_, mpo kStr kStr r77_b6 r77.2.notes_, pt b51 #[.int .i64 r44.1.Size, .slice r44_p1 r44.1.Picks.length r44_c2, .slice r44_p4 r44.1.Leaf.length r44_c5, .slice r44_p7 r44.1.Nodes.length r44_c8] 25, own (eInt .i64) 3 r44_p1 r44_c2 r44.1.Picks, own eStr 9 r44_p4 r44_c5 r44.1.Leaf, own eStr 9 r44_p7 r44_c8 r44.1.Nodes] ++ F0) rfl (aw_next (fun w hs => sat_pulls [0, 4, 4, 4, 4] (G := [pt r21_b1 #[.map (some r77_b4), .map (some r77_b6), .string r77.2.twins_.e0, .string r77.2.twins_.e1, .bool r77.2.found_, .bool r77.2.full_, .int .i64 r77.2.sums_] 60, own eStr 9 r77_p1 r77_c2 r77.1, mpo kStr kStr r77_b4 r77.2.table_, mpo kStr kStr r77_b6 r77.2.notes_] ++ F0) rfl hs) ?_)
                  refine aw_freeze (fun w hs => sat_to [0, 7] 0 (F := [imm J41, own eStr 9 r44_p7 r44_c8 r44.1.Nodes, pt r21_b1 #[.map (some r77_b4), .map (some r77_b6), .string r77.2.twins_.e0, .string r77.2.twins_.e1, .bool r77.2.found_, .bool r77.2.full_, .int .i64 r77.2.sums_] 60, own eStr 9 r77_p1 r77_c2 r77.1, mpo kStr kStr r77_b4 r77.2.table_, mpo kStr kStr r77_b6 r77.2.notes_, pt b51 #[.int .i64 r44.1.Size, .slice r44_p1 r44.1.Picks.length r44_c2, .slice r44_p4 r44.1.Leaf.length r44_c5, .slice r44_p7 r44.1.Nodes.length r44_c8] 25, own (eInt .i64) 3 r44_p1 r44_c2 r44.1.Picks, own eStr 9 r44_p4 r44_c5 r44.1.Leaf] ++ F0) rfl hs) fun J82 h83 h84 => ?_
                  have h40 := ro.sub h83 h40
                  have h43 := ro.sub h83 h43
                  refine aw_H (H' := [imm J82, pt r21_b1 #[.map (some r77_b4), .map (some r77_b6), .string r77.2.twins_.e0, .string r77.2.twins_.e1, .bool r77.2.found_, .bool r77.2.full_, .int .i64 r77.2.sums_] 60, own eStr 9 r77_p1 r77_c2 r77.1, mpo kStr kStr r77_b4 r77.2.table_, mpo kStr kStr r77_b6 r77.2.notes_, pt b51 #[.int .i64 r44.1.Size, .slice r44_p1 r44.1.Picks.length r44_c2, .slice r44_p4 r44.1.Leaf.length r44_c5, .slice r44_p7 r44.1.Nodes.length r44_c8] 25, own (eInt .i64) 3 r44_p1 r44_c2 r44.1.Picks, own eStr 9 r44_p4 r44_c5 r44.1.Leaf] ++ F0) rfl ?_
                  refine aw_freeze (fun w hs => sat_to [0, 1] 0 (F := [imm J82, own eStr 9 r77_p1 r77_c2 r77.1, pt r21_b1 #[.map (some r77_b4), .map (some r77_b6), .string r77.2.twins_.e0, .string r77.2.twins_.e1, .bool r77.2.found_, .bool r77.2.full_, .int .i64 r77.2.sums_] 60, mpo kStr kStr r77_b4 r77.2.table_, mpo kStr kStr r77_b6 r77.2.notes_, pt b51 #[.int .i64 r44.1.Size, .slice r44_p1 r44.1.Picks.length r44_c2, .slice r44_p4 r44.1.Leaf.length r44_c5, .slice r44_p7 r44.1.Nodes.length r44_c8] 25, own (eInt .i64) 3 r44_p1 r44_c2 r44.1.Picks, own eStr 9 r44_p4 r44_c5 r44.1.Leaf] ++ F0) rfl hs) fun J85 h86 h87 => ?_
                  have h40 := ro.sub h86 h40
                  have h43 := ro.sub h86 h43
                  have h84 := ro.sub h86 h84
                  refine aw_H (H' := [imm J85, pt r21_b1 #[.map (some r77_b4), .map (some r77_b6), .string r77.2.twins_.e0, .string r77.2.twins_.e1, .bool r77.2.found_, .bool r77.2.full_, .int .i64 r77.2.sums_] 60, mpo kStr kStr r77_b4 r77.2.table_, mpo kStr kStr r77_b6 r77.2.notes_, pt b51 #[.int .i64 r44.1.Size, .slice r44_p1 r44.1.Picks.length r44_c2, .slice r44_p4 r44.1.Leaf.length r44_c5, .slice r44_p7 r44.1.Nodes.length r44_c8] 25, own (eInt .i64) 3 r44_p1 r44_c2 r44.1.Picks, own eStr 9 r44_p4 r44_c5 r44.1.Leaf] ++ F0) rfl ?_
                  obtain ⟨r88, h89, hF⟩ := bind_some hF
                  refine aw_only 32 (m' := 8589934591) (by kernel_rfl) (by kernel_rfl) (pw_call (F := [pt r21_b1 #[.map (some r77_b4), .map (some r77_b6), .string r77.2.twins_.e0, .string r77.2.twins_.e1, .bool r77.2.found_, .bool r77.2.full_, .int .i64 r77.2.sums_] 60, mpo kStr kStr r77_b4 r77.2.table_, mpo kStr kStr r77_b6 r77.2.notes_, pt b51 #[.int .i64 r44.1.Size, .slice r44_p1 r44.1.Picks.length r44_c2, .slice r44_p4 r44.1.Leaf.length r44_c5, .slice r44_p7 r44.1.Nodes.length r44_c8] 25, own (eInt .i64) 3 r44_p1 r44_c2 r44.1.Picks, own eStr 9 r44_p4 r44_c5 r44.1.Leaf] ++ F0) rfl rfl rfl rfl rfl rfl rfl (by kernel_rfl) (perm_of_pulls [0] rfl) (c_law30_same _ r44.1.Nodes r77.1 r44_p7 r44_c8 r77_p1 r77_c2 r88 h89 h84 h87) ?_)
                  rintro _ _ ⟨rfl, rfl⟩
                  refine nw_H (H' := [imm J85, pt r21_b1 #[.map (some r77_b4), .map (some r77_b6), .string r77.2.twins_.e0, .string r77.2.twins_.e1, .bool r77.2.found_, .bool r77.2.full_, .int .i64 r77.2.sums_] 60, mpo kStr kStr r77_b4 r77.2.table_, mpo kStr kStr r77_b6 r77.2.notes_, pt b51 #[.int .i64 r44.1.Size, .slice r44_p1 r44.1.Picks.length r44_c2, .slice r44_p4 r44.1.Leaf.length r44_c5, .slice r44_p7 r44.1.Nodes.length r44_c8] 25, own (eInt .i64) 3 r44_p1 r44_c2 r44.1.Picks, own eStr 9 r44_p4 r44_c5 r44.1.Leaf] ++ F0) rfl (aw_last (by kernel_rfl) ?_)
                  refine aw_past (by kernel_rfl) ?_
                  refine aw_vals [33, 34] (f' := 0) (m' := 34359738367) [1, 5, 6, 7, 107] [(1, .slice p38 l37.length c39), (5, .pointer (some ⟨r21_b1, 0, none⟩)), (6, .slice r26_p1 r26.1.length r26_c2), (7, .pointer (some ⟨b51, 0, none⟩)), (107, .bool (!r88))] (fun _ _ _ _ _ h => calm_fin (P := Try.prog) (fn := Try.f4) _ _ _ _ _ h) (fun _ _ => trivial) rfl (by kernel_rfl) ?_
                  refine aw_keep [1, 5, 6, 7, 107] (L' := [(1, .slice p38 l37.length c39), (5, .pointer (some ⟨r21_b1, 0, none⟩)), (6, .slice r26_p1 r26.1.length r26_c2), (7, .pointer (some ⟨b51, 0, none⟩)), (107, .bool (!r88))]) rfl ?_
                  refine aw_end (by kernel_rfl) ?_
                  refine ew_then ?_
                  rcases if_some hF with ⟨h90, hF⟩ | ⟨h90, hF⟩
                  · refine cw_cond_t rfl rfl h90 ?_
                    refine cw_seq ?_
                    refine cw_region ?_
                    refine ow_vals 1 (j := 1) [4] [(4, .bool false)] rfl (by kernel_rfl) ?_
                    refine ow_end rfl ?_
                    refine ew_then ?_
                    refine cw_ret ?_
                    refine ew_then_ret ?_
                    have hR := Option.some.inj hF
                    subst hR
                    have hR := hK72
                    try dsimp only [Thru] at hR
                    subst hR
                    exact fin1 (H1 := [imm J85]) (fun w hs => sat_to [1, 1, 1, 1, 1, 1, 0] 6 rfl hs) rfl (rr_tmp rfl) ⟨J85, rfl, rfl, (Hl.sub_trans (Hl.sub_trans h42 h83) h86)⟩
                  · refine cw_cond_f rfl rfl h90 ?_
                    refine cw_skip ?_
                    have hR := Option.some.inj hF
                    exact fun a w hf hs => ⟨r77.2.table_, r77.2.notes_, r77.2.twins_.e0, r77.2.twins_.e1, r77.2.found_, r77.2.full_, r77.2.sums_, r44.1.Nodes, J85, r77_b4, r77_b6, r44_p7, r44_c8, hR, (Hl.sub_trans h83 h86), h84, hf.keep [1, 5, 6, 7], sat_to [0, 0, 2, 0, 0, 0, 0] 0 rfl hs⟩
        · rintro a w ⟨l93, l96, s99, s100, x101, x102, x103, l104, J91, b95, b98, p105, c106, hv, h92, h107, hf, hs⟩
          subst hv
          replace hF := hK72
          clear hK72
          try dsimp only [Thru] at hF
          revert a w
          show CW _ _ _ 171 [(1, .slice p38 l37.length c39), (5, .pointer (some ⟨r21_b1, 0, none⟩)), (6, .slice r26_p1 r26.1.length r26_c2), (7, .pointer (some ⟨b51, 0, none⟩))] (SAT w0 ([imm J91, pt r21_b1 #[.map (some b95), .map (some b98), .string s99, .string s100, .bool x101, .bool x102, .int .i64 x103] 60, pt b51 #[.int .i64 r44.1.Size, .slice r44_p1 r44.1.Picks.length r44_c2, .slice r44_p4 r44.1.Leaf.length r44_c5, .slice p105 l104.length c106] 25, mpo kStr kStr b95 l93, mpo kStr kStr b98 l96, own (eInt .i64) 3 r44_p1 r44_c2 r44.1.Picks, own eStr 9 r44_p4 r44_c5 r44.1.Leaf] ++ F0))
          unfold F.law30_BatchProves.r5 at hF
          have h40 := ro.sub h92 h40
          have h43 := ro.sub h92 h43
          obtain ⟨v108, hF, hK108⟩ := thru_some hF
          refine cw_mid (fun a w => .inl () = v108 ∧ Fr 171 [(1, .slice p38 l37.length c39), (5, .pointer (some ⟨r21_b1, 0, none⟩)), (6, .slice r26_p1 r26.1.length r26_c2), (7, .pointer (some ⟨b51, 0, none⟩))] a ∧ SAT w0 ([imm J91, pt r21_b1 #[.map (some b95), .map (some b98), .string s99, .string s100, .bool x101, .bool x102, .int .i64 x103] 60, pt b51 #[.int .i64 r44.1.Size, .slice r44_p1 r44.1.Picks.length r44_c2, .slice r44_p4 r44.1.Leaf.length r44_c5, .slice p105 l104.length c106] 25, mpo kStr kStr b95 l93, mpo kStr kStr b98 l96, own (eInt .i64) 3 r44_p1 r44_c2 r44.1.Picks, own eStr 9 r44_p4 r44_c5 r44.1.Leaf] ++ F0) w) ?_ ?_
          · refine cw_seq ?_
            refine cw_region ?_
            refine ow_vals 1 (j := 1) [1, 5, 6, 7, 9] [(1, .slice p38 l37.length c39), (5, .pointer (some ⟨r21_b1, 0, none⟩)), (6, .slice r26_p1 r26.1.length r26_c2), (7, .pointer (some ⟨b51, 0, none⟩)), (9, .int .i64 0)] rfl (by kernel_rfl) ?_
            refine ow_end rfl ?_
            refine ew_then ?_
            refine cw_block ?_
            refine fun a w hf hs => wp_rounds (fun k a w => ∃ (x110 : Int), iter (fun x => F.law30_BatchProves.l6 r26 l37 r44 x) k x110 = some v108 ∧ Fr 171 [(1, .slice p38 l37.length c39), (5, .pointer (some ⟨r21_b1, 0, none⟩)), (6, .slice r26_p1 r26.1.length r26_c2), (7, .pointer (some ⟨b51, 0, none⟩)), (9, .int .i64 x110)] a ∧ SAT w0 ([imm J91, pt r21_b1 #[.map (some b95), .map (some b98), .string s99, .string s100, .bool x101, .bool x102, .int .i64 x103] 60, pt b51 #[.int .i64 r44.1.Size, .slice r44_p1 r44.1.Picks.length r44_c2, .slice r44_p4 r44.1.Leaf.length r44_c5, .slice p105 l104.length c106] 25, mpo kStr kStr b95 l93, mpo kStr kStr b98 l96, own (eInt .i64) 3 r44_p1 r44_c2 r44.1.Picks, own eStr 9 r44_p4 r44_c5 r44.1.Leaf] ++ F0) w) ?_ FUEL a w ⟨0, hF, hf.keep [1, 5, 6, 7, 9], sat_to [0, 0, 0, 0, 0, 0, 0] 0 rfl hs⟩
            clear hf hs
            clear a w hF
            rintro k a w ⟨x110, hF2, hf, hs⟩
            obtain ⟨k, r109, rfl, hF, hL109⟩ := iter_some hF2
            clear hF2
            revert a w
            show CW _ _ _ 171 [(1, .slice p38 l37.length c39), (5, .pointer (some ⟨r21_b1, 0, none⟩)), (6, .slice r26_p1 r26.1.length r26_c2), (7, .pointer (some ⟨b51, 0, none⟩)), (9, .int .i64 x110)] (SAT w0 ([imm J91, pt r21_b1 #[.map (some b95), .map (some b98), .string s99, .string s100, .bool x101, .bool x102, .int .i64 x103] 60, pt b51 #[.int .i64 r44.1.Size, .slice r44_p1 r44.1.Picks.length r44_c2, .slice r44_p4 r44.1.Leaf.length r44_c5, .slice p105 l104.length c106] 25, mpo kStr kStr b95 l93, mpo kStr kStr b98 l96, own (eInt .i64) 3 r44_p1 r44_c2 r44.1.Picks, own eStr 9 r44_p4 r44_c5 r44.1.Leaf] ++ F0))
            try dsimp only at hF
            unfold F.law30_BatchProves.l6 at hF
            refine cw_seq ?_
            refine cw_seq ?_
            refine cw_region ?_
            refine ow_vals 4 (j := 4) [1, 5, 6, 7, 9, 111] [(1, .slice p38 l37.length c39), (5, .pointer (some ⟨r21_b1, 0, none⟩)), (6, .slice r26_p1 r26.1.length r26_c2), (7, .pointer (some ⟨b51, 0, none⟩)), (9, .int .i64 x110), (111, .bool (decide (x110 < (l37.length : Int))))] rfl (by kernel_rfl) ?_
            refine ow_end rfl ?_
            refine ew_then ?_
            rcases if_some hF with ⟨h111, hF⟩ | ⟨h111, hF⟩
            · refine cw_cond_t rfl rfl h111 ?_
              refine cw_skip ?_
              refine ew_then ?_
              refine cw_seq ?_
              refine cw_block ?_
              refine cw_seq ?_
              refine cw_open 25 (SAT w0 ([imm J91, pt r21_b1 #[.map (some b95), .map (some b98), .string s99, .string s100, .bool x101, .bool x102, .int .i64 x103] 60, pt b51 #[.int .i64 r44.1.Size, .slice r44_p1 r44.1.Picks.length r44_c2, .slice r44_p4 r44.1.Leaf.length r44_c5, .slice p105 l104.length c106] 25, mpo kStr kStr b95 l93, mpo kStr kStr b98 l96, own (eInt .i64) 3 r44_p1 r44_c2 r44.1.Picks, own eStr 9 r44_p4 r44_c5 r44.1.Leaf])) (by kernel_rfl) (f := 25) rfl (fun w hs => sat_drew hs) ?_
              refine aw_vals [0, 2, 5, 6] (f' := 21) (m' := 101) [1, 5, 6, 7, 9, 114, 116, 119, 120] [(1, .slice p38 l37.length c39), (5, .pointer (some ⟨r21_b1, 0, none⟩)), (6, .slice r26_p1 r26.1.length r26_c2), (7, .pointer (some ⟨b51, 0, none⟩)), (9, .int .i64 x110), (114, .pointer (some ⟨b51, 1, none⟩)), (116, .int .i64 x110), (119, .slice p38 l37.length c39), (120, .int .i64 x110)] (fun _ _ _ _ _ h => calm_fin (P := Try.prog) (fn := Try.f4) _ _ _ _ _ h) (fun w hs => sat_pulls [0, 0, 0, 0, 0, 0, 0] (G := [] ++ F0) rfl hs) rfl (by kernel_rfl) ?_
              refine aw_quiet 1 (m' := 103) (v := .slice r44_p1 r44.1.Picks.length r44_c2) 0 [] rfl rfl rfl rfl (by kernel_rfl) (by kernel_rfl) (by kernel_rfl) (fun _ _ _ _ _ h => calm_fin (P := Try.prog) (fn := Try.f4) _ _ _ _ _ h) (fun w hs => sat_pulls [0, 0, 0, 0, 0, 0, 0] (G := [] ++ F0) rfl hs) (q_load 2 rfl rfl rfl (by kernel_rfl)) ?_
              obtain ⟨y112, h113, hF⟩ := bind_some hF
              refine aw_quiet 3 (m' := 111) (v := .pointer (some ((base r44_p1).add (x110.toNat * 1)))) 0 [] rfl rfl rfl rfl (by kernel_rfl) (by kernel_rfl) (by kernel_rfl) (fun _ _ _ _ _ h => calm_fin (P := Try.prog) (fn := Try.f4) _ _ _ _ _ h) (fun w hs => sat_pulls [0, 0, 0, 0, 0, 0, 0] (G := [] ++ F0) rfl hs) (q_index_own 5 1 rfl rfl (by kernel_rfl) rfl rfl (at_some h113).1 (at_lt h113)) ?_
              refine aw_quiet 4 (m' := 127) (v := .int .i64 y112) 0 [] rfl rfl rfl rfl (by kernel_rfl) (by kernel_rfl) (by kernel_rfl) (fun _ _ _ _ _ h => calm_fin (P := Try.prog) (fn := Try.f4) _ _ _ _ _ h) (fun w hs => sat_pulls [0, 0, 0, 0, 0, 0, 0] (G := [] ++ F0) rfl hs) (q_load_own0 5 1 rfl rfl rfl rfl (at_some h113).2 (by kernel_rfl)) ?_
              obtain ⟨y114, h115, hF⟩ := bind_some hF
              refine aw_index_ro (E := 3) 7 (m' := 255) 1 h40 rfl rfl rfl rfl rfl (by kernel_rfl) (by kernel_rfl) (fun _ _ _ _ _ h => calm_fin (P := Try.prog) (fn := Try.f4) _ _ _ _ _ h) (fun w hs => sat_pulls [0, 0, 0, 0, 0, 0, 0] (G := [] ++ F0) rfl hs) (by kernel_rfl) rfl rfl rfl h115 fun q116 h117 => ?_
              refine aw_quiet 8 (m' := 511) (v := .int .i64 y114) 0 [] rfl rfl rfl rfl (by kernel_rfl) (by kernel_rfl) (by kernel_rfl) (fun _ _ _ _ _ h => calm_fin (P := Try.prog) (fn := Try.f4) _ _ _ _ _ h) (fun w hs => sat_pulls [0, 0, 0, 0, 0, 0, 0] (G := [] ++ F0) rfl hs) (q_load_el0 0 rfl h117 rfl rfl (by kernel_rfl)) ?_
              refine aw_vals [9, 10] (f' := 14) (m' := 2047) [1, 5, 6, 7, 9, 124] [(1, .slice p38 l37.length c39), (5, .pointer (some ⟨r21_b1, 0, none⟩)), (6, .slice r26_p1 r26.1.length r26_c2), (7, .pointer (some ⟨b51, 0, none⟩)), (9, .int .i64 x110), (124, .bool (y112 != y114))] (fun _ _ _ _ _ h => calm_fin (P := Try.prog) (fn := Try.f4) _ _ _ _ _ h) (fun w hs => sat_pulls [0, 0, 0, 0, 0, 0, 0] (G := [] ++ F0) rfl hs) rfl (by kernel_rfl) ?_
              rcases if_some hF with ⟨h118, hF⟩ | ⟨h118, hF⟩
              · refine aw_slots (L' := [(1, .slice p38 l37.length c39), (5, .pointer (some ⟨r21_b1, 0, none⟩)), (6, .slice r26_p1 r26.1.length r26_c2), (7, .pointer (some ⟨b51, 0, none⟩)), (9, .int .i64 x110), (124, .bool true)]) (by rw [h118]) ?_
                refine aw_vals [11, 12, 13, 14, 15, 16, 17, 18, 19, 20, 21, 22, 23, 24] (f' := 0) (m' := 33554431) [1, 5, 6, 7, 9, 138] [(1, .slice p38 l37.length c39), (5, .pointer (some ⟨r21_b1, 0, none⟩)), (6, .slice r26_p1 r26.1.length r26_c2), (7, .pointer (some ⟨b51, 0, none⟩)), (9, .int .i64 x110), (138, .bool true)] (fun _ _ _ _ _ h => calm_fin (P := Try.prog) (fn := Try.f4) _ _ _ _ _ h) (fun w hs => sat_pulls [0, 0, 0, 0, 0, 0, 0] (G := [] ++ F0) rfl hs) rfl (by kernel_rfl) ?_
                refine aw_keep [1, 5, 6, 7, 9, 138] (L' := [(1, .slice p38 l37.length c39), (5, .pointer (some ⟨r21_b1, 0, none⟩)), (6, .slice r26_p1 r26.1.length r26_c2), (7, .pointer (some ⟨b51, 0, none⟩)), (9, .int .i64 x110), (138, .bool true)]) rfl ?_
                refine aw_end (by kernel_rfl) ?_
                refine ew_then ?_
                refine cw_cond_t rfl rfl rfl ?_
                refine cw_seq ?_
                refine cw_region ?_
                refine ow_vals 1 (j := 1) [4] [(4, .bool false)] rfl (by kernel_rfl) ?_
                refine ow_end rfl ?_
                refine ew_then ?_
                refine cw_ret ?_
                refine ew_blk_ret ?_
                refine ew_then_ret ?_
                refine ew_then_ret ?_
                refine ew_blk_ret ?_
                refine ew_then_ret ?_
                have hR := Option.some.inj hF
                subst hR
                have hR := hL109
                try dsimp only at hR
                subst hR
                have hR := hK108
                try dsimp only [Thru] at hR
                subst hR
                exact fin1 (H1 := [imm J91]) (fun w hs => sat_to [1, 1, 1, 1, 1, 1, 0] 6 rfl hs) rfl (rr_tmp rfl) ⟨J91, rfl, rfl, (Hl.sub_trans h42 h92)⟩
              · refine aw_slots (L' := [(1, .slice p38 l37.length c39), (5, .pointer (some ⟨r21_b1, 0, none⟩)), (6, .slice r26_p1 r26.1.length r26_c2), (7, .pointer (some ⟨b51, 0, none⟩)), (9, .int .i64 x110), (124, .bool false)]) (by rw [h118]) ?_
                refine aw_vals [11, 13, 16, 17, 18] (f' := 9) (m' := 471039) [1, 5, 6, 7, 9, 124, 125, 127, 130, 131, 132] [(1, .slice p38 l37.length c39), (5, .pointer (some ⟨r21_b1, 0, none⟩)), (6, .slice r26_p1 r26.1.length r26_c2), (7, .pointer (some ⟨b51, 0, none⟩)), (9, .int .i64 x110), (124, .bool false), (125, .pointer (some ⟨b51, 2, none⟩)), (127, .int .i64 x110), (130, .slice r26_p1 r26.1.length r26_c2), (131, .slice p38 l37.length c39), (132, .int .i64 x110)] (fun _ _ _ _ _ h => calm_fin (P := Try.prog) (fn := Try.f4) _ _ _ _ _ h) (fun w hs => sat_pulls [0, 0, 0, 0, 0, 0, 0] (G := [] ++ F0) rfl hs) rfl (by kernel_rfl) ?_
                refine aw_quiet 12 (m' := 475135) (v := .slice r44_p4 r44.1.Leaf.length r44_c5) 0 [] rfl rfl rfl rfl (by kernel_rfl) (by kernel_rfl) (by kernel_rfl) (fun _ _ _ _ _ h => calm_fin (P := Try.prog) (fn := Try.f4) _ _ _ _ _ h) (fun w hs => sat_pulls [0, 0, 0, 0, 0, 0, 0] (G := [] ++ F0) rfl hs) (q_load 2 rfl rfl rfl (by kernel_rfl)) ?_
                obtain ⟨y119, h120, hF⟩ := bind_some hF
                refine aw_quiet 14 (m' := 491519) (v := .pointer (some ((base r44_p4).add (x110.toNat * 1)))) 0 [] rfl rfl rfl rfl (by kernel_rfl) (by kernel_rfl) (by kernel_rfl) (fun _ _ _ _ _ h => calm_fin (P := Try.prog) (fn := Try.f4) _ _ _ _ _ h) (fun w hs => sat_pulls [0, 0, 0, 0, 0, 0, 0] (G := [] ++ F0) rfl hs) (q_index_own 6 1 rfl rfl (by kernel_rfl) rfl rfl (at_some h120).1 (at_lt h120)) ?_
                refine aw_quiet 15 (m' := 524287) (v := .string y119) 0 [] rfl rfl rfl rfl (by kernel_rfl) (by kernel_rfl) (by kernel_rfl) (fun _ _ _ _ _ h => calm_fin (P := Try.prog) (fn := Try.f4) _ _ _ _ _ h) (fun w hs => sat_pulls [0, 0, 0, 0, 0, 0, 0] (G := [] ++ F0) rfl hs) (q_load_own0 6 1 rfl rfl rfl rfl (at_some h120).2 (by kernel_rfl)) ?_
                obtain ⟨y121, h122, hF⟩ := bind_some hF
                refine aw_index_ro (E := 3) 19 (m' := 1048575) 1 h40 rfl rfl rfl rfl rfl (by kernel_rfl) (by kernel_rfl) (fun _ _ _ _ _ h => calm_fin (P := Try.prog) (fn := Try.f4) _ _ _ _ _ h) (fun w hs => sat_pulls [0, 0, 0, 0, 0, 0, 0] (G := [] ++ F0) rfl hs) (by kernel_rfl) rfl rfl rfl h122 fun q123 h124 => ?_
                refine aw_quiet 20 (m' := 2097151) (v := .int .i64 y121) 0 [] rfl rfl rfl rfl (by kernel_rfl) (by kernel_rfl) (by kernel_rfl) (fun _ _ _ _ _ h => calm_fin (P := Try.prog) (fn := Try.f4) _ _ _ _ _ h) (fun w hs => sat_pulls [0, 0, 0, 0, 0, 0, 0] (G := [] ++ F0) rfl hs) (q_load_el0 0 rfl h124 rfl rfl (by kernel_rfl)) ?_
                obtain ⟨y125, h126, hF⟩ := bind_some hF
                refine aw_index_ro (E := 9) 21 (m' := 4194303) 1 h43 rfl rfl rfl rfl rfl (by kernel_rfl) (by kernel_rfl) (fun _ _ _ _ _ h => calm_fin (P := Try.prog) (fn := Try.f4) _ _ _ _ _ h) (fun w hs => sat_pulls [0, 0, 0, 0, 0, 0, 0] (G := [] ++ F0) rfl hs) (by kernel_rfl) rfl rfl rfl h126 fun q127 h128 => ?_
                refine aw_quiet 22 (m' := 8388607) (v := .string y125) 0 [] rfl rfl rfl rfl (by kernel_rfl) (by kernel_rfl) (by kernel_rfl) (fun _ _ _ _ _ h => calm_fin (P := Try.prog) (fn := Try.f4) _ _ _ _ _ h) (fun w hs => sat_pulls [0, 0, 0, 0, 0, 0, 0] (G := [] ++ F0) rfl hs) (q_load_el0 0 rfl h128 rfl rfl (by kernel_rfl)) ?_
                refine aw_vals [23, 24] (f' := 0) (m' := 33554431) [1, 5, 6, 7, 9, 138] [(1, .slice p38 l37.length c39), (5, .pointer (some ⟨r21_b1, 0, none⟩)), (6, .slice r26_p1 r26.1.length r26_c2), (7, .pointer (some ⟨b51, 0, none⟩)), (9, .int .i64 x110), (138, .bool (!(seqB y119 y125)))] (fun _ _ _ _ _ h => calm_fin (P := Try.prog) (fn := Try.f4) _ _ _ _ _ h) (fun w hs => sat_pulls [0, 0, 0, 0, 0, 0, 0] (G := [] ++ F0) rfl hs) rfl (by kernel_rfl) ?_
                refine aw_keep [1, 5, 6, 7, 9, 138] (L' := [(1, .slice p38 l37.length c39), (5, .pointer (some ⟨r21_b1, 0, none⟩)), (6, .slice r26_p1 r26.1.length r26_c2), (7, .pointer (some ⟨b51, 0, none⟩)), (9, .int .i64 x110), (138, .bool (!(seqB y119 y125)))]) rfl ?_
                refine aw_end (by kernel_rfl) ?_
                refine ew_then ?_
                rcases if_some hF with ⟨h129, hF⟩ | ⟨h129, hF⟩
                · refine cw_cond_t rfl rfl h129 ?_
                  refine cw_seq ?_
                  refine cw_region ?_
                  refine ow_vals 1 (j := 1) [4] [(4, .bool false)] rfl (by kernel_rfl) ?_
                  refine ow_end rfl ?_
                  refine ew_then ?_
                  refine cw_ret ?_
                  refine ew_blk_ret ?_
                  refine ew_then_ret ?_
                  refine ew_then_ret ?_
                  refine ew_blk_ret ?_
                  refine ew_then_ret ?_
                  have hR := Option.some.inj hF
                  subst hR
                  have hR := hL109
                  try dsimp only at hR
                  subst hR
                  have hR := hK108
                  try dsimp only [Thru] at hR
                  subst hR
                  exact fin1 (H1 := [imm J91]) (fun w hs => sat_to [1, 1, 1, 1, 1, 1, 0] 6 rfl hs) rfl (rr_tmp rfl) ⟨J91, rfl, rfl, (Hl.sub_trans h42 h92)⟩
                · refine cw_cond_f rfl rfl h129 ?_
                  refine cw_skip ?_
                  refine ew_blk ?_
                  refine ew_then ?_
                  refine cw_region ?_
                  refine ow_vals 3 (j := 3) [1, 5, 6, 7, 9] [(1, .slice p38 l37.length c39), (5, .pointer (some ⟨r21_b1, 0, none⟩)), (6, .slice r26_p1 r26.1.length r26_c2), (7, .pointer (some ⟨b51, 0, none⟩)), (9, .int .i64 (IntKind.i64.wrap (x110 + 1)))] rfl (by kernel_rfl) ?_
                  refine ow_end rfl ?_
                  have hR := Option.some.inj hF
                  subst hR
                  have hR := hL109
                  try dsimp only at hR
                  exact fun a w hf hs => ⟨k, Nat.lt_succ_self k, IntKind.i64.wrap (x110 + 1), hR, hf.keep [1, 5, 6, 7, 9], sat_to [0, 0, 0, 0, 0, 0, 0] 0 rfl hs⟩
            · refine cw_cond_f rfl rfl h111 ?_
              refine cw_exit ?_
              refine ew_then_exit ?_
              refine ew_then_exit ?_
              refine ew_blk_exit ?_
              have hR := Option.some.inj hF
              subst hR
              have hR := hL109
              try dsimp only at hR
              exact fun a w hf hs => ⟨hR, hf.keep [1, 5, 6, 7], sat_to [0, 0, 0, 0, 0, 0, 0] 0 rfl hs⟩
          · rintro a w ⟨hv, hf, hs⟩
            subst hv
            replace hF := hK108
            clear hK108
            try dsimp only [Thru] at hF
            revert a w
            show CW _ _ _ 171 [(1, .slice p38 l37.length c39), (5, .pointer (some ⟨r21_b1, 0, none⟩)), (6, .slice r26_p1 r26.1.length r26_c2), (7, .pointer (some ⟨b51, 0, none⟩))] (SAT w0 ([imm J91, pt r21_b1 #[.map (some b95), .map (some b98), .string s99, .string s100, .bool x101, .bool x102, .int .i64 x103] 60, pt b51 #[.int .i64 r44.1.Size, .slice r44_p1 r44.1.Picks.length r44_c2, .slice r44_p4 r44.1.Leaf.length r44_c5, .slice p105 l104.length c106] 25, mpo kStr kStr b95 l93, mpo kStr kStr b98 l96, own (eInt .i64) 3 r44_p1 r44_c2 r44.1.Picks, own eStr 9 r44_p4 r44_c5 r44.1.Leaf] ++ F0))
            unfold F.law30_BatchProves.r7 at hF
            refine cw_seq ?_
            refine cw_region ?_
            refine ow_vals 1 (j := 1) [1, 5, 6, 7, 140] [(1, .slice p38 l37.length c39), (5, .pointer (some ⟨r21_b1, 0, none⟩)), (6, .slice r26_p1 r26.1.length r26_c2), (7, .pointer (some ⟨b51, 0, none⟩)), (140, .pointer (some ⟨r21_b1, 0, none⟩))] rfl (by kernel_rfl) ?_
            refine ow_pw rfl (pw_quiet (v := .agg #[.int .i64 r44.1.Size, .slice r44_p1 r44.1.Picks.length r44_c2, .slice r44_p4 r44.1.Leaf.length r44_c5, .slice p105 l104.length c106]) rfl rfl rfl rfl (q_load 2 rfl rfl rfl (by kernel_rfl)) (nw_ow ?_))
            refine ow_freeze (fun w hs => sat_to [0, 4] 0 (F := [imm J91, own (eInt .i64) 3 r44_p1 r44_c2 r44.1.Picks, pt r21_b1 #[.map (some b95), .map (some b98), .string s99, .string s100, .bool x101, .bool x102, .int .i64 x103] 60, pt b51 #[.int .i64 r44.1.Size, .slice r44_p1 r44.1.Picks.length r44_c2, .slice r44_p4 r44.1.Leaf.length r44_c5, .slice p105 l104.length c106] 25, mpo kStr kStr b95 l93, mpo kStr kStr b98 l96, own eStr 9 r44_p4 r44_c5 r44.1.Leaf] ++ F0) rfl hs) fun J130 h131 h132 => ?_
            have h40 := ro.sub h131 h40
            have h43 := ro.sub h131 h43
            have h107 := ro.sub h131 h107
            refine ow_H (H' := [imm J130, pt r21_b1 #[.map (some b95), .map (some b98), .string s99, .string s100, .bool x101, .bool x102, .int .i64 x103] 60, pt b51 #[.int .i64 r44.1.Size, .slice r44_p1 r44.1.Picks.length r44_c2, .slice r44_p4 r44.1.Leaf.length r44_c5, .slice p105 l104.length c106] 25, mpo kStr kStr b95 l93, mpo kStr kStr b98 l96, own eStr 9 r44_p4 r44_c5 r44.1.Leaf] ++ F0) rfl ?_
            refine ow_freeze (fun w hs => sat_to [0, 4] 0 (F := [imm J130, own eStr 9 r44_p4 r44_c5 r44.1.Leaf, pt r21_b1 #[.map (some b95), .map (some b98), .string s99, .string s100, .bool x101, .bool x102, .int .i64 x103] 60, pt b51 #[.int .i64 r44.1.Size, .slice r44_p1 r44.1.Picks.length r44_c2, .slice r44_p4 r44.1.Leaf.length r44_c5, .slice p105 l104.length c106] 25, mpo kStr kStr b95 l93, mpo kStr kStr b98 l96] ++ F0) rfl hs) fun J133 h134 h135 => ?_
            have h40 := ro.sub h134 h40
            have h43 := ro.sub h134 h43
            have h132 := ro.sub h134 h132
            have h107 := ro.sub h134 h107
            refine ow_H (H' := [imm J133, pt r21_b1 #[.map (some b95), .map (some b98), .string s99, .string s100, .bool x101, .bool x102, .int .i64 x103] 60, pt b51 #[.int .i64 r44.1.Size, .slice r44_p1 r44.1.Picks.length r44_c2, .slice r44_p4 r44.1.Leaf.length r44_c5, .slice p105 l104.length c106] 25, mpo kStr kStr b95 l93, mpo kStr kStr b98 l96] ++ F0) rfl ?_
            obtain ⟨r136, h137, hF⟩ := bind_some hF
            refine ow_pw rfl (pw_call (F := [pt b51 #[.int .i64 r44.1.Size, .slice r44_p1 r44.1.Picks.length r44_c2, .slice r44_p4 r44.1.Leaf.length r44_c5, .slice p105 l104.length c106] 25] ++ F0) rfl rfl rfl rfl rfl rfl rfl (by kernel_rfl) (perm_of_pulls [0, 0, 1, 1] rfl) (c_batch_Root _ (⟨r44.1.Size, r44.1.Picks, r44.1.Leaf, l104⟩ : batch_Proof) (⟨l93, l96, (⟨s99, s100⟩ : A2_ByteArray), x101, x102, x103⟩ : mill_Mill) r44_p1 r44_c2 r44_p4 r44_c5 p105 c106 b95 b98 r21_b1 r136 h137 h132 h135 h107) ?_)
            rintro _ _ ⟨r136_b1, r136_b3, rfl, rfl⟩
            refine nw_H (H' := [imm J133, pt r21_b1 #[.map (some r136_b1), .map (some r136_b3), .string r136.2.2.twins_.e0, .string r136.2.2.twins_.e1, .bool r136.2.2.found_, .bool r136.2.2.full_, .int .i64 r136.2.2.sums_] 60, mpo kStr kStr r136_b1 r136.2.2.table_, mpo kStr kStr r136_b3 r136.2.2.notes_, pt b51 #[.int .i64 r44.1.Size, .slice r44_p1 r44.1.Picks.length r44_c2, .slice r44_p4 r44.1.Leaf.length r44_c5, .slice p105 l104.length c106] 25] ++ F0) rfl (nw_ow ?_)
            refine ow_vals 5 (j := 8) [1, 5, 6, 7, 10, 11] [(1, .slice p38 l37.length c39), (5, .pointer (some ⟨r21_b1, 0, none⟩)), (6, .slice r26_p1 r26.1.length r26_c2), (7, .pointer (some ⟨b51, 0, none⟩)), (10, .string r136.1), (11, .int .i64 r136.2.1)] rfl (by kernel_rfl) ?_
            refine ow_end rfl ?_
            refine ew_then ?_
            refine cw_seq ?_
            refine cw_open 24 (SAT w0 ([imm J133, pt b51 #[.int .i64 r44.1.Size, .slice r44_p1 r44.1.Picks.length r44_c2, .slice r44_p4 r44.1.Leaf.length r44_c5, .slice p105 l104.length c106] 25])) (by kernel_rfl) (f := 27) rfl (fun w hs => sat_drew hs) ?_
            refine aw_vals [0, 1, 2] (f' := 24) (m' := 7) [1, 5, 6, 7, 10, 147] [(1, .slice p38 l37.length c39), (5, .pointer (some ⟨r21_b1, 0, none⟩)), (6, .slice r26_p1 r26.1.length r26_c2), (7, .pointer (some ⟨b51, 0, none⟩)), (10, .string r136.1), (147, .bool (r136.2.1 == 0))] (fun _ _ _ _ _ h => calm_fin (P := Try.prog) (fn := Try.f4) _ _ _ _ _ h) (fun w hs => sat_pulls [0, 3] (G := [pt r21_b1 #[.map (some r136_b1), .map (some r136_b3), .string r136.2.2.twins_.e0, .string r136.2.2.twins_.e1, .bool r136.2.2.found_, .bool r136.2.2.full_, .int .i64 r136.2.2.sums_] 60, mpo kStr kStr r136_b1 r136.2.2.table_, mpo kStr kStr r136_b3 r136.2.2.notes_] ++ F0) rfl hs) rfl (by kernel_rfl) ?_
            rcases if_some hF with ⟨h140, hF⟩ | ⟨h140, hF⟩
            · refine aw_slots (L' := [(1, .slice p38 l37.length c39), (5, .pointer (some ⟨r21_b1, 0, none⟩)), (6, .slice r26_p1 r26.1.length r26_c2), (7, .pointer (some ⟨b51, 0, none⟩)), (10, .string r136.1), (147, .bool true)]) (by rw [h140]) ?_
              refine aw_vals [3, 4, 5] (f' := 21) (m' := 63) [1, 6, 7, 147, 148, 149, 150] [(1, .slice p38 l37.length c39), (6, .slice r26_p1 r26.1.length r26_c2), (7, .pointer (some ⟨b51, 0, none⟩)), (147, .bool true), (148, .string r136.1), (149, .pointer (some ⟨r21_b1, 0, none⟩)), (150, .slice r26_p1 r26.1.length r26_c2)] (fun _ _ _ _ _ h => calm_fin (P := Try.prog) (fn := Try.f4) _ _ _ _ _ h) (fun w hs => sat_pulls [0, 3] (G := [pt r21_b1 #[.map (some r136_b1), .map (some r136_b3), .string r136.2.2.twins_.e0, .string r136.2.2.twins_.e1, .bool r136.2.2.found_, .bool r136.2.2.full_, .int .i64 r136.2.2.sums_] 60, mpo kStr kStr r136_b1 r136.2.2.table_, mpo kStr kStr r136_b3 r136.2.2.notes_] ++ F0) rfl hs) rfl (by kernel_rfl) ?_
              obtain ⟨r141, h142, hF⟩ := bind_some hF
              refine aw_only 6 (m' := 127) (by kernel_rfl) (by kernel_rfl) (pw_call (F := [pt b51 #[.int .i64 r44.1.Size, .slice r44_p1 r44.1.Picks.length r44_c2, .slice r44_p4 r44.1.Leaf.length r44_c5, .slice p105 l104.length c106] 25] ++ F0) rfl rfl rfl rfl rfl rfl rfl (by kernel_rfl) (perm_of_pulls [0, 0, 0, 0] rfl) (c_law07_Root FUEL _ r26.1 r136.2.2 r26_p1 r26_c2 r136_b1 r136_b3 r21_b1 r141 h142 h43) ?_)
              rintro _ _ ⟨r141_b1, r141_b3, rfl, rfl⟩
              refine nw_H (H' := [imm J133, pt r21_b1 #[.map (some r141_b1), .map (some r141_b3), .string r141.2.twins_.e0, .string r141.2.twins_.e1, .bool r141.2.found_, .bool r141.2.full_, .int .i64 r141.2.sums_] 60, mpo kStr kStr r141_b1 r141.2.table_, mpo kStr kStr r141_b3 r141.2.notes_, pt b51 #[.int .i64 r44.1.Size, .slice r44_p1 r44.1.Picks.length r44_c2, .slice r44_p4 r44.1.Leaf.length r44_c5, .slice p105 l104.length c106] 25] ++ F0) rfl (aw_next (fun w hs => sat_pulls [0, 3] (G := [pt r21_b1 #[.map (some r141_b1), .map (some r141_b3), .string r141.2.twins_.e0, .string r141.2.twins_.e1, .bool r141.2.found_, .bool r141.2.full_, .int .i64 r141.2.sums_] 60, mpo kStr kStr r141_b1 r141.2.table_, mpo kStr kStr r141_b3 r141.2.notes_] ++ F0) rfl hs) ?_)
              refine aw_vals [7, 8, 9] (f' := 17) (m' := 1023) [1, 6, 7, 154] [(1, .slice p38 l37.length c39), (6, .slice r26_p1 r26.1.length r26_c2), (7, .pointer (some ⟨b51, 0, none⟩)), (154, .bool (seqB r136.1 r141.1))] (fun _ _ _ _ _ h => calm_fin (P := Try.prog) (fn := Try.f4) _ _ _ _ _ h) (fun w hs => sat_pulls [0, 3] (G := [pt r21_b1 #[.map (some r141_b1), .map (some r141_b3), .string r141.2.twins_.e0, .string r141.2.twins_.e1, .bool r141.2.found_, .bool r141.2.full_, .int .i64 r141.2.sums_] 60, mpo kStr kStr r141_b1 r141.2.table_, mpo kStr kStr r141_b3 r141.2.notes_] ++ F0) rfl hs) rfl (by kernel_rfl) ?_
              rcases if_some hF with ⟨h145, hF⟩ | ⟨h145, hF⟩
              · refine aw_slots (L' := [(1, .slice p38 l37.length c39), (6, .slice r26_p1 r26.1.length r26_c2), (7, .pointer (some ⟨b51, 0, none⟩)), (154, .bool true)]) (by rw [h145]) ?_
                refine aw_quiet 10 (m' := 2047) (v := .agg #[.int .i64 r44.1.Size, .slice r44_p1 r44.1.Picks.length r44_c2, .slice r44_p4 r44.1.Leaf.length r44_c5, .slice p105 l104.length c106]) 23 [17, 13, 11, 10] rfl rfl rfl rfl (by kernel_rfl) (by kernel_rfl) (by kernel_rfl) (fun _ _ _ _ _ h => calm_fin (P := Try.prog) (fn := Try.f4) _ _ _ _ _ h) (fun w hs => sat_pulls [0, 3] (G := [pt r21_b1 #[.map (some r141_b1), .map (some r141_b3), .string r141.2.twins_.e0, .string r141.2.twins_.e1, .bool r141.2.found_, .bool r141.2.full_, .int .i64 r141.2.sums_] 60, mpo kStr kStr r141_b1 r141.2.table_, mpo kStr kStr r141_b3 r141.2.notes_] ++ F0) rfl hs) (q_load 1 rfl rfl rfl (by kernel_rfl)) ?_
                obtain ⟨r146, h147, hF⟩ := bind_some hF
                refine aw_only 11 (m' := 4095) (by kernel_rfl) (by kernel_rfl) (pw_call (F := [pt r21_b1 #[.map (some r141_b1), .map (some r141_b3), .string r141.2.twins_.e0, .string r141.2.twins_.e1, .bool r141.2.found_, .bool r141.2.full_, .int .i64 r141.2.sums_] 60, mpo kStr kStr r141_b1 r141.2.table_, mpo kStr kStr r141_b3 r141.2.notes_, pt b51 #[.int .i64 r44.1.Size, .slice r44_p1 r44.1.Picks.length r44_c2, .slice r44_p4 r44.1.Leaf.length r44_c5, .slice p105 l104.length c106] 25] ++ F0) rfl rfl rfl rfl rfl rfl rfl (by kernel_rfl) (perm_of_pulls [0] rfl) (c_batch_Right _ (⟨r44.1.Size, r44.1.Picks, r44.1.Leaf, l104⟩ : batch_Proof) r44_p1 r44_c2 r44_p4 r44_c5 p105 c106 r146 h147 h132 h135 h107) ?_)
                rintro _ _ ⟨rfl, rfl⟩
                refine nw_H (H' := [imm J133, pt r21_b1 #[.map (some r141_b1), .map (some r141_b3), .string r141.2.twins_.e0, .string r141.2.twins_.e1, .bool r141.2.found_, .bool r141.2.full_, .int .i64 r141.2.sums_] 60, mpo kStr kStr r141_b1 r141.2.table_, mpo kStr kStr r141_b3 r141.2.notes_, pt b51 #[.int .i64 r44.1.Size, .slice r44_p1 r44.1.Picks.length r44_c2, .slice r44_p4 r44.1.Leaf.length r44_c5, .slice p105 l104.length c106] 25] ++ F0) rfl (aw_next (fun w hs => sat_pulls [0, 3] (G := [pt r21_b1 #[.map (some r141_b1), .map (some r141_b3), .string r141.2.twins_.e0, .string r141.2.twins_.e1, .bool r141.2.found_, .bool r141.2.full_, .int .i64 r141.2.sums_] 60, mpo kStr kStr r141_b1 r141.2.table_, mpo kStr kStr r141_b3 r141.2.notes_] ++ F0) rfl hs) ?_)
                refine aw_vals [12, 13] (f' := 13) (m' := 16383) [1, 6, 7, 158] [(1, .slice p38 l37.length c39), (6, .slice r26_p1 r26.1.length r26_c2), (7, .pointer (some ⟨b51, 0, none⟩)), (158, .bool r146)] (fun _ _ _ _ _ h => calm_fin (P := Try.prog) (fn := Try.f4) _ _ _ _ _ h) (fun w hs => sat_pulls [0, 3] (G := [pt r21_b1 #[.map (some r141_b1), .map (some r141_b3), .string r141.2.twins_.e0, .string r141.2.twins_.e1, .bool r141.2.found_, .bool r141.2.full_, .int .i64 r141.2.sums_] 60, mpo kStr kStr r141_b1 r141.2.table_, mpo kStr kStr r141_b3 r141.2.notes_] ++ F0) rfl hs) rfl (by kernel_rfl) ?_
                rcases if_some hF with ⟨h148, hF⟩ | ⟨h148, hF⟩
                · refine aw_slots (L' := [(1, .slice p38 l37.length c39), (6, .slice r26_p1 r26.1.length r26_c2), (7, .pointer (some ⟨b51, 0, none⟩)), (158, .bool true)]) (by rw [h148]) ?_
                  refine aw_vals [14, 15, 16, 18] (f' := 9) (m' := 393215) [158, 160, 161, 163] [(158, .bool true), (160, .int .i64 (r26.1.length : Int)), (161, .slice p38 l37.length c39), (163, .pointer (some ⟨b51, 3, none⟩))] (fun _ _ _ _ _ h => calm_fin (P := Try.prog) (fn := Try.f4) _ _ _ _ _ h) (fun w hs => sat_pulls [0, 3] (G := [pt r21_b1 #[.map (some r141_b1), .map (some r141_b3), .string r141.2.twins_.e0, .string r141.2.twins_.e1, .bool r141.2.found_, .bool r141.2.full_, .int .i64 r141.2.sums_] 60, mpo kStr kStr r141_b1 r141.2.table_, mpo kStr kStr r141_b3 r141.2.notes_] ++ F0) rfl hs) rfl (by kernel_rfl) ?_
                  refine aw_quiet 19 (m' := 917503) (v := .slice p105 l104.length c106) 23 [22, 21, 20, 19] rfl rfl rfl rfl (by kernel_rfl) (by kernel_rfl) (by kernel_rfl) (fun _ _ _ _ _ h => calm_fin (P := Try.prog) (fn := Try.f4) _ _ _ _ _ h) (fun w hs => sat_pulls [0, 3] (G := [pt r21_b1 #[.map (some r141_b1), .map (some r141_b3), .string r141.2.twins_.e0, .string r141.2.twins_.e1, .bool r141.2.found_, .bool r141.2.full_, .int .i64 r141.2.sums_] 60, mpo kStr kStr r141_b1 r141.2.table_, mpo kStr kStr r141_b3 r141.2.notes_] ++ F0) rfl hs) (q_load 1 rfl rfl rfl (by kernel_rfl)) ?_
                  refine aw_vals [20] (f' := 7) (m' := 1966079) [158, 160, 161, 165] [(158, .bool true), (160, .int .i64 (r26.1.length : Int)), (161, .slice p38 l37.length c39), (165, .int .i64 (l104.length : Int))] (fun _ _ _ _ _ h => calm_fin (P := Try.prog) (fn := Try.f4) _ _ _ _ _ h) (fun w hs => sat_pulls [0, 3] (G := [pt r21_b1 #[.map (some r141_b1), .map (some r141_b3), .string r141.2.twins_.e0, .string r141.2.twins_.e1, .bool r141.2.found_, .bool r141.2.full_, .int .i64 r141.2.sums_] 60, mpo kStr kStr r141_b1 r141.2.table_, mpo kStr kStr r141_b3 r141.2.notes_] ++ F0) rfl hs) rfl (by kernel_rfl) ?_
                  obtain ⟨r149, h150, hF⟩ := bind_some hF
                  refine aw_only 17 (m' := 2097151) (by kernel_rfl) (by kernel_rfl) (pw_call (F := [pt r21_b1 #[.map (some r141_b1), .map (some r141_b3), .string r141.2.twins_.e0, .string r141.2.twins_.e1, .bool r141.2.found_, .bool r141.2.full_, .int .i64 r141.2.sums_] 60, mpo kStr kStr r141_b1 r141.2.table_, mpo kStr kStr r141_b3 r141.2.notes_, pt b51 #[.int .i64 r44.1.Size, .slice r44_p1 r44.1.Picks.length r44_c2, .slice r44_p4 r44.1.Leaf.length r44_c5, .slice p105 l104.length c106] 25] ++ F0) rfl rfl rfl rfl rfl rfl rfl (by kernel_rfl) (perm_of_pulls [0] rfl) (c_batch_Need _ (r26.1.length : Int) l37 p38 c39 r149 h150 h40) ?_)
                  rintro _ _ ⟨rfl, rfl⟩
                  refine nw_H (H' := [imm J133, pt r21_b1 #[.map (some r141_b1), .map (some r141_b3), .string r141.2.twins_.e0, .string r141.2.twins_.e1, .bool r141.2.found_, .bool r141.2.full_, .int .i64 r141.2.sums_] 60, mpo kStr kStr r141_b1 r141.2.table_, mpo kStr kStr r141_b3 r141.2.notes_, pt b51 #[.int .i64 r44.1.Size, .slice r44_p1 r44.1.Picks.length r44_c2, .slice r44_p4 r44.1.Leaf.length r44_c5, .slice p105 l104.length c106] 25] ++ F0) rfl (aw_next (fun w hs => sat_pulls [0, 3] (G := [pt r21_b1 #[.map (some r141_b1), .map (some r141_b3), .string r141.2.twins_.e0, .string r141.2.twins_.e1, .bool r141.2.found_, .bool r141.2.full_, .int .i64 r141.2.sums_] 60, mpo kStr kStr r141_b1 r141.2.table_, mpo kStr kStr r141_b3 r141.2.notes_] ++ F0) rfl hs) ?_)
                  refine aw_vals [21, 22, 23] (f' := 3) (m' := 16777215) [168] [(168, .bool (r149 == (l104.length : Int)))] (fun _ _ _ _ _ h => calm_fin (P := Try.prog) (fn := Try.f4) _ _ _ _ _ h) (fun w hs => sat_pulls [0, 3] (G := [pt r21_b1 #[.map (some r141_b1), .map (some r141_b3), .string r141.2.twins_.e0, .string r141.2.twins_.e1, .bool r141.2.found_, .bool r141.2.full_, .int .i64 r141.2.sums_] 60, mpo kStr kStr r141_b1 r141.2.table_, mpo kStr kStr r141_b3 r141.2.notes_] ++ F0) rfl hs) rfl (by kernel_rfl) ?_
                  rcases if_some hF with ⟨h151, hF⟩ | ⟨h151, hF⟩
                  · refine aw_slots (L' := [(168, .bool true)]) (by rw [h151]) ?_
                    obtain ⟨r152, h153, hF⟩ := bind_some hF
                    refine aw_only 24 (m' := 33554431) (by kernel_rfl) (by kernel_rfl) (pw_call (F := [pt r21_b1 #[.map (some r141_b1), .map (some r141_b3), .string r141.2.twins_.e0, .string r141.2.twins_.e1, .bool r141.2.found_, .bool r141.2.full_, .int .i64 r141.2.sums_] 60, mpo kStr kStr r141_b1 r141.2.table_, mpo kStr kStr r141_b3 r141.2.notes_, pt b51 #[.int .i64 r44.1.Size, .slice r44_p1 r44.1.Picks.length r44_c2, .slice r44_p4 r44.1.Leaf.length r44_c5, .slice p105 l104.length c106] 25] ++ F0) rfl rfl rfl rfl rfl rfl rfl (by kernel_rfl) (perm_of_pulls [0] rfl) (c_law30_awake _ r152 h153) ?_)
                    rintro _ _ ⟨r152_J, rfl, rfl, r152_hJ⟩
                    refine nw_H (H' := [imm r152_J, pt r21_b1 #[.map (some r141_b1), .map (some r141_b3), .string r141.2.twins_.e0, .string r141.2.twins_.e1, .bool r141.2.found_, .bool r141.2.full_, .int .i64 r141.2.sums_] 60, mpo kStr kStr r141_b1 r141.2.table_, mpo kStr kStr r141_b3 r141.2.notes_, pt b51 #[.int .i64 r44.1.Size, .slice r44_p1 r44.1.Picks.length r44_c2, .slice r44_p4 r44.1.Leaf.length r44_c5, .slice p105 l104.length c106] 25] ++ F0) rfl (aw_last (by kernel_rfl) ?_)
                    have h132 := ro.sub r152_hJ h132
                    have h135 := ro.sub r152_hJ h135
                    have h107 := ro.sub r152_hJ h107
                    refine aw_past (by kernel_rfl) ?_
                    refine aw_vals [25, 26] (f' := 0) (m' := 134217727) [4] [(4, .bool r152)] (fun _ _ _ _ _ h => calm_fin (P := Try.prog) (fn := Try.f4) _ _ _ _ _ h) (fun _ _ => trivial) rfl (by kernel_rfl) ?_
                    refine aw_keep [4] (L' := [(4, .bool r152)]) rfl ?_
                    refine aw_end (by kernel_rfl) ?_
                    refine ew_then ?_
                    refine cw_ret ?_
                    have hR := Option.some.inj hF
                    subst hR
                    exact fin1 (H1 := [imm r152_J]) (fun w hs => sat_to [1, 1, 1, 1, 0] 4 rfl hs) rfl (rr_tmp rfl) ⟨r152_J, rfl, rfl, (Hl.sub_trans (Hl.sub_trans (Hl.sub_trans (Hl.sub_trans h42 h92) h131) h134) r152_hJ)⟩
                  · refine aw_slots (L' := [(168, .bool false)]) (by rw [h151]) ?_
                    refine aw_only 24 (m' := 33554431) (by kernel_rfl) (by kernel_rfl) (pw_skip rfl rfl rfl (aw_last (by kernel_rfl) ?_))
                    refine aw_past (by kernel_rfl) ?_
                    refine aw_vals [25, 26] (f' := 0) (m' := 134217727) [4] [(4, .bool false)] (fun _ _ _ _ _ h => calm_fin (P := Try.prog) (fn := Try.f4) _ _ _ _ _ h) (fun _ _ => trivial) rfl (by kernel_rfl) ?_
                    refine aw_keep [4] (L' := [(4, .bool false)]) rfl ?_
                    refine aw_end (by kernel_rfl) ?_
                    refine ew_then ?_
                    refine cw_ret ?_
                    have hR := Option.some.inj hF
                    subst hR
                    exact fin1 (H1 := [imm J133]) (fun w hs => sat_to [1, 1, 1, 1, 0] 4 rfl hs) rfl (rr_tmp rfl) ⟨J133, rfl, rfl, (Hl.sub_trans (Hl.sub_trans (Hl.sub_trans h42 h92) h131) h134)⟩
                · refine aw_slots (L' := [(1, .slice p38 l37.length c39), (6, .slice r26_p1 r26.1.length r26_c2), (7, .pointer (some ⟨b51, 0, none⟩)), (158, .bool false)]) (by rw [h148]) ?_
                  refine aw_vals [14, 15, 16, 17, 18, 19, 20, 21, 22, 23] (f' := 3) (m' := 16777215) [168] [(168, .bool false)] (fun _ _ _ _ _ h => calm_fin (P := Try.prog) (fn := Try.f4) _ _ _ _ _ h) (fun w hs => sat_pulls [0, 3] (G := [pt r21_b1 #[.map (some r141_b1), .map (some r141_b3), .string r141.2.twins_.e0, .string r141.2.twins_.e1, .bool r141.2.found_, .bool r141.2.full_, .int .i64 r141.2.sums_] 60, mpo kStr kStr r141_b1 r141.2.table_, mpo kStr kStr r141_b3 r141.2.notes_] ++ F0) rfl hs) rfl (by kernel_rfl) ?_
                  refine aw_only 24 (m' := 33554431) (by kernel_rfl) (by kernel_rfl) (pw_skip rfl rfl rfl (aw_last (by kernel_rfl) ?_))
                  refine aw_past (by kernel_rfl) ?_
                  refine aw_vals [25, 26] (f' := 0) (m' := 134217727) [4] [(4, .bool false)] (fun _ _ _ _ _ h => calm_fin (P := Try.prog) (fn := Try.f4) _ _ _ _ _ h) (fun _ _ => trivial) rfl (by kernel_rfl) ?_
                  refine aw_keep [4] (L' := [(4, .bool false)]) rfl ?_
                  refine aw_end (by kernel_rfl) ?_
                  refine ew_then ?_
                  refine cw_ret ?_
                  have hR := Option.some.inj hF
                  subst hR
                  exact fin1 (H1 := [imm J133]) (fun w hs => sat_to [1, 1, 1, 1, 0] 4 rfl hs) rfl (rr_tmp rfl) ⟨J133, rfl, rfl, (Hl.sub_trans (Hl.sub_trans (Hl.sub_trans h42 h92) h131) h134)⟩
              · refine aw_slots (L' := [(1, .slice p38 l37.length c39), (6, .slice r26_p1 r26.1.length r26_c2), (7, .pointer (some ⟨b51, 0, none⟩)), (154, .bool false)]) (by rw [h145]) ?_
                refine aw_vals [10, 11, 12, 13, 14, 15, 16, 17, 18, 19, 20, 21, 22, 23] (f' := 3) (m' := 16777215) [168] [(168, .bool false)] (fun _ _ _ _ _ h => calm_fin (P := Try.prog) (fn := Try.f4) _ _ _ _ _ h) (fun w hs => sat_pulls [0, 3] (G := [pt r21_b1 #[.map (some r141_b1), .map (some r141_b3), .string r141.2.twins_.e0, .string r141.2.twins_.e1, .bool r141.2.found_, .bool r141.2.full_, .int .i64 r141.2.sums_] 60, mpo kStr kStr r141_b1 r141.2.table_, mpo kStr kStr r141_b3 r141.2.notes_] ++ F0) rfl hs) rfl (by kernel_rfl) ?_
                refine aw_only 24 (m' := 33554431) (by kernel_rfl) (by kernel_rfl) (pw_skip rfl rfl rfl (aw_last (by kernel_rfl) ?_))
                refine aw_past (by kernel_rfl) ?_
                refine aw_vals [25, 26] (f' := 0) (m' := 134217727) [4] [(4, .bool false)] (fun _ _ _ _ _ h => calm_fin (P := Try.prog) (fn := Try.f4) _ _ _ _ _ h) (fun _ _ => trivial) rfl (by kernel_rfl) ?_
                refine aw_keep [4] (L' := [(4, .bool false)]) rfl ?_
                refine aw_end (by kernel_rfl) ?_
                refine ew_then ?_
                refine cw_ret ?_
                have hR := Option.some.inj hF
                subst hR
                exact fin1 (H1 := [imm J133]) (fun w hs => sat_to [1, 1, 1, 1, 0] 4 rfl hs) rfl (rr_tmp rfl) ⟨J133, rfl, rfl, (Hl.sub_trans (Hl.sub_trans (Hl.sub_trans h42 h92) h131) h134)⟩
            · refine aw_slots (L' := [(1, .slice p38 l37.length c39), (5, .pointer (some ⟨r21_b1, 0, none⟩)), (6, .slice r26_p1 r26.1.length r26_c2), (7, .pointer (some ⟨b51, 0, none⟩)), (10, .string r136.1), (147, .bool false)]) (by rw [h140]) ?_
              refine aw_vals [3, 4, 5, 6, 7, 8, 9, 10, 11, 12, 13, 14, 15, 16, 17, 18, 19, 20, 21, 22, 23] (f' := 3) (m' := 16777215) [168] [(168, .bool false)] (fun _ _ _ _ _ h => calm_fin (P := Try.prog) (fn := Try.f4) _ _ _ _ _ h) (fun w hs => sat_pulls [0, 3] (G := [pt r21_b1 #[.map (some r136_b1), .map (some r136_b3), .string r136.2.2.twins_.e0, .string r136.2.2.twins_.e1, .bool r136.2.2.found_, .bool r136.2.2.full_, .int .i64 r136.2.2.sums_] 60, mpo kStr kStr r136_b1 r136.2.2.table_, mpo kStr kStr r136_b3 r136.2.2.notes_] ++ F0) rfl hs) rfl (by kernel_rfl) ?_
              refine aw_only 24 (m' := 33554431) (by kernel_rfl) (by kernel_rfl) (pw_skip rfl rfl rfl (aw_last (by kernel_rfl) ?_))
              refine aw_past (by kernel_rfl) ?_
              refine aw_vals [25, 26] (f' := 0) (m' := 134217727) [4] [(4, .bool false)] (fun _ _ _ _ _ h => calm_fin (P := Try.prog) (fn := Try.f4) _ _ _ _ _ h) (fun _ _ => trivial) rfl (by kernel_rfl) ?_
              refine aw_keep [4] (L' := [(4, .bool false)]) rfl ?_
              refine aw_end (by kernel_rfl) ?_
              refine ew_then ?_
              refine cw_ret ?_
              have hR := Option.some.inj hF
              subst hR
              exact fin1 (H1 := [imm J133]) (fun w hs => sat_to [1, 1, 1, 1, 0] 4 rfl hs) rfl (rr_tmp rfl) ⟨J133, rfl, rfl, (Hl.sub_trans (Hl.sub_trans (Hl.sub_trans h42 h92) h131) h134)⟩

end Go.Proofs.Ytoamnhmdhficiaa
