/- What the functions compute, and that the code computes it: printed by a program of this claim (wip/tools), for the group Sums. -/
import Derived.Test.YtgkkgmnomiokbaaGMill
namespace Go.Proofs.Ytgkkgmnomiokbaa
set_option linter.all false
open Go Go.RowKit Go.Fw
set_option linter.unusedVariables false

def F.law03_MillSums.r1 : Option (Bool) :=
  some (false)
def F.law03_MillSums.r5 (x1 : List ByteArray) (r21 : (List mill_Entry)) (s44 : ByteArray) (s45 : ByteArray) (x46 : Bool) (x47 : Int) (r67 : ByteArray) (x80 : Int) : Option ((Int) ⊕ (ByteArray × ByteArray × Bool)) :=
  Option.bind (at_ x1 x80) (fun (y84 : ByteArray) => Option.bind (F.law03_sum r21 y84) (fun (r88 : ByteArray) => if seqB r88 r67 then (Option.bind (at_ x1 x80) (fun (y91 : ByteArray) => Option.bind (at_ x1 x47) (fun (y95 : ByteArray) => if !(seqB y91 y95) then (Option.bind (at_ x1 x80) (fun (y100 : ByteArray) => Option.bind (at_ x1 x47) (fun (y104 : ByteArray) => some (.inr ((y100, y104, true)))))) else (some (.inr ((s44, s45, x46))))))) else (some (.inl (IntKind.i64.wrap (x80 + 1))))))
def F.law03_MillSums.l6 (x1 : List ByteArray) (r21 : (List mill_Entry)) (s44 : ByteArray) (s45 : ByteArray) (x46 : Bool) (x47 : Int) (r67 : ByteArray) (x80 : Int) : Option ((Int) ⊕ (ByteArray × ByteArray × Bool)) :=
  thru (if decide (x80 < x47) then (if !x46 then (some (.inl ())) else (some (.inr (.inr ((s44, s45, x46)))))) else (some (.inr (.inr ((s44, s45, x46)))))) (fun x => F.law03_MillSums.r5 x1 r21 s44 s45 x46 x47 r67 x80)
def F.law03_MillSums.r7 (x47 : Int) (r73 : ByteArray × mill_Mill) (s108 : ByteArray) (s109 : ByteArray) (x110 : Bool) : Option ((ByteArray × ByteArray × Bool × (List (ByteArray × ByteArray)) × (List (ByteArray × ByteArray)) × ByteArray × ByteArray × Bool × Bool × Int) ⊕ ((ByteArray × ByteArray × Bool × Int × (List (ByteArray × ByteArray)) × (List (ByteArray × ByteArray)) × ByteArray × ByteArray × Bool × Bool × Int) ⊕ (((List (ByteArray × ByteArray)) × (List (ByteArray × ByteArray)) × ByteArray × ByteArray × Bool × Bool × Int) ⊕ (Bool)))) :=
  Option.bind (F.mill_Mill_Twins r73.2) (fun (r111 : ByteArray × ByteArray × Bool) => if !(seqB r111.1 s108) then (some (.inr (.inr (.inr (false))))) else (if !(seqB r111.2.1 s109) then (some (.inr (.inr (.inr (false))))) else (if !(r111.2.2 == x110) then (some (.inr (.inr (.inr (false))))) else (Option.bind (F.mill_Mill_Sums r73.2) (fun (r116 : Int) => if r116 != (IntKind.i64.wrap (x47 + 1)) then (some (.inr (.inr (.inr (false))))) else (Option.bind (F.mill_Mill_Full r73.2) (fun (r119 : Bool) => if r119 then (some (.inr (.inr (.inr (false))))) else (some (.inl (s108, s109, x110, r73.2.table_, r73.2.notes_, r73.2.twins_.e0, r73.2.twins_.e1, r73.2.found_, r73.2.full_, r73.2.sums_))))))))))
def F.law03_MillSums.r8 (x47 : Int) (s122 : ByteArray) (s123 : ByteArray) (x124 : Bool) (l125 : List (ByteArray × ByteArray)) (l128 : List (ByteArray × ByteArray)) (s131 : ByteArray) (s132 : ByteArray) (x133 : Bool) (x134 : Bool) (x135 : Int) : Option ((ByteArray × ByteArray × Bool × Int × (List (ByteArray × ByteArray)) × (List (ByteArray × ByteArray)) × ByteArray × ByteArray × Bool × Bool × Int) ⊕ (((List (ByteArray × ByteArray)) × (List (ByteArray × ByteArray)) × ByteArray × ByteArray × Bool × Bool × Int) ⊕ (Bool))) :=
  some (.inl (s122, s123, x124, IntKind.i64.wrap (x47 + 1), l125, l128, s131, s132, x133, x134, x135))
def F.law03_MillSums.r4 (x1 : List ByteArray) (r21 : (List mill_Entry)) (s44 : ByteArray) (s45 : ByteArray) (x46 : Bool) (x47 : Int) (l48 : List (ByteArray × ByteArray)) (l51 : List (ByteArray × ByteArray)) (s54 : ByteArray) (s55 : ByteArray) (x56 : Bool) (x57 : Bool) (x58 : Int) : Option ((ByteArray × ByteArray × Bool × Int × (List (ByteArray × ByteArray)) × (List (ByteArray × ByteArray)) × ByteArray × ByteArray × Bool × Bool × Int) ⊕ (((List (ByteArray × ByteArray)) × (List (ByteArray × ByteArray)) × ByteArray × ByteArray × Bool × Bool × Int) ⊕ (Bool))) :=
  thru (Option.bind (at_ x1 x47) (fun (y63 : ByteArray) => Option.bind (F.law03_sum r21 y63) (fun (r67 : ByteArray) => Option.bind (at_ x1 x47) (fun (y69 : ByteArray) => Option.bind (F.mill_Mill_Sum y69 (⟨l48, l51, (⟨s54, s55⟩ : A2_ByteArray), x56, x57, x58⟩ : mill_Mill)) (fun (r73 : ByteArray × mill_Mill) => if !(seqB r73.1 r67) then (some (.inr (.inr (.inr (false))))) else (Option.bind (iter (fun x => F.law03_MillSums.l6 x1 r21 s44 s45 x46 x47 r67 x) FUEL 0) (fun x => F.law03_MillSums.r7 x47 r73 x.1 x.2.1 x.2.2))))))) (fun x => F.law03_MillSums.r8 x47 x.1 x.2.1 x.2.2.1 x.2.2.2.1 x.2.2.2.2.1 x.2.2.2.2.2.1 x.2.2.2.2.2.2.1 x.2.2.2.2.2.2.2.1 x.2.2.2.2.2.2.2.2.1 x.2.2.2.2.2.2.2.2.2)
def F.law03_MillSums.l9 (x1 : List ByteArray) (r21 : (List mill_Entry)) (s44 : ByteArray) (s45 : ByteArray) (x46 : Bool) (x47 : Int) (l48 : List (ByteArray × ByteArray)) (l51 : List (ByteArray × ByteArray)) (s54 : ByteArray) (s55 : ByteArray) (x56 : Bool) (x57 : Bool) (x58 : Int) : Option ((ByteArray × ByteArray × Bool × Int × (List (ByteArray × ByteArray)) × (List (ByteArray × ByteArray)) × ByteArray × ByteArray × Bool × Bool × Int) ⊕ (((List (ByteArray × ByteArray)) × (List (ByteArray × ByteArray)) × ByteArray × ByteArray × Bool × Bool × Int) ⊕ (Bool))) :=
  thru (if decide (x47 < (x1.length : Int)) then (if decide (x47 < 30) then (some (.inl ())) else (some (.inr (.inr (.inl (l48, l51, s54, s55, x56, x57, x58)))))) else (some (.inr (.inr (.inl (l48, l51, s54, s55, x56, x57, x58)))))) (fun x => F.law03_MillSums.r4 x1 r21 s44 s45 x46 x47 l48 l51 s54 s55 x56 x57 x58)
def F.law03_MillSums.r10 (l136 : List (ByteArray × ByteArray)) (l139 : List (ByteArray × ByteArray)) (s142 : ByteArray) (s143 : ByteArray) (x144 : Bool) (x145 : Bool) (x146 : Int) : Option (Bool) :=
  Option.bind (F.law03_awake) (fun (r147 : Bool) => some (r147))
def F.law03_MillSums.r3 (x1 : List ByteArray) (r21 : (List mill_Entry)) (r23_s1 : mill_Mill) : Option (Bool) :=
  thru (iter (fun x => F.law03_MillSums.l9 x1 r21 x.1 x.2.1 x.2.2.1 x.2.2.2.1 x.2.2.2.2.1 x.2.2.2.2.2.1 x.2.2.2.2.2.2.1 x.2.2.2.2.2.2.2.1 x.2.2.2.2.2.2.2.2.1 x.2.2.2.2.2.2.2.2.2.1 x.2.2.2.2.2.2.2.2.2.2) FUEL ((ByteArray.mk #[]), (ByteArray.mk #[]), false, 0, r23_s1.table_, r23_s1.notes_, r23_s1.twins_.e0, r23_s1.twins_.e1, r23_s1.found_, r23_s1.full_, r23_s1.sums_)) (fun x => F.law03_MillSums.r10 x.1 x.2.1 x.2.2.1 x.2.2.2.1 x.2.2.2.2.1 x.2.2.2.2.2.1 x.2.2.2.2.2.2)
def F.law03_MillSums.r2 (x1 : List ByteArray) (r21 : (List mill_Entry)) (r23 : (Option mill_Mill) × Int) (r23_s1 : mill_Mill) : Option (Bool) :=
  thru (if r23.2 != 0 then (some (.inr (false))) else (some (.inl ()))) (fun x => F.law03_MillSums.r3 x1 r21 r23_s1)
def F.law03_MillSums (x0 : List mill_Entry) (x1 : List ByteArray) : Option Bool :=
  Option.bind (F.law03_few x0) (fun (r21 : (List mill_Entry)) => Option.bind (F.mill_With r21) (fun (r23 : (Option mill_Mill) × Int) => optC r23.1 (thru (Option.bind (F.law03_right r21) (fun (r29 : Bool) => if !r29 then (if r23.2 == 1 then (Option.bind (F.law03_awake) (fun (r33 : Bool) => some (.inr (r33)))) else (some (.inr (false)))) else (some (.inl ())))) (fun x => F.law03_MillSums.r1)) (fun (r23_s1 : mill_Mill) => thru (Option.bind (F.law03_right r21) (fun (r37 : Bool) => if !r37 then (some (.inr (false))) else (some (.inl ())))) (fun x => F.law03_MillSums.r2 x1 r21 r23 r23_s1))))
set_option maxRecDepth 100000 in
set_option maxHeartbeats 4000000 in
theorem c_law03_MillSums (I : Hl) (x0 : List mill_Entry) (x1 : List ByteArray) (p0 : Option Addr) (c0 : Nat) (p1 : Option Addr) (c1 : Nat) (res : Bool) (hF : F.law03_MillSums x0 x1 = some res) (hr0 : ro I e_mill_Entry p0 c0 x0) (hr1 : ro I eStr p1 c1 x1) : Tr Try.prog 6 [.slice p0 x0.length c0, .slice p1 x1.length c1] [imm I] (fun r H' => r = .bool res ∧ H' = [imm I]) := by
  unfold F.law03_MillSums at hF
  refine tr_of_cw (fn := Try.f6) Try.func6 rfl (Nat.le_of_ble_eq_true rfl) 130 rfl fun F0 w0 => ?_
  refine cw_keep [0, 1] (L' := [(0, .slice p0 x0.length c0), (1, .slice p1 x1.length c1)]) rfl ?_
  refine cw_state (S' := SAT w0 ([imm I] ++ F0)) (fun w hs => hs) ?_
  refine cw_seq ?_
  refine cw_region ?_
  refine ow_vals 1 (j := 1) [0, 1] [(0, .slice p0 x0.length c0), (1, .slice p1 x1.length c1)] rfl (by kernel_rfl) ?_
  refine ow_end rfl ?_
  refine ew_then ?_
  refine cw_seq ?_
  refine cw_region ?_
  refine ow_vals 1 (j := 1) [1, 16] [(1, .slice p1 x1.length c1), (16, .slice p0 x0.length c0)] rfl (by kernel_rfl) ?_
  obtain ⟨r21, h22, hF⟩ := bind_some hF
  refine ow_pw rfl (pw_call (F := [] ++ F0) rfl rfl rfl rfl rfl rfl rfl (by kernel_rfl) (perm_of_pulls [0] rfl) (c_law03_few _ x0 p0 c0 r21 h22 hr0) ?_)
  rintro _ _ ⟨r21_p1, r21_c2, rfl, rfl, r21_h3⟩
  refine nw_H (H' := [imm I] ++ F0) rfl (nw_ow ?_)
  refine ow_vals 1 (j := 3) [0, 1] [(0, .slice r21_p1 r21.length r21_c2), (1, .slice p1 x1.length c1)] rfl (by kernel_rfl) ?_
  refine ow_end rfl ?_
  refine ew_then ?_
  refine cw_seq ?_
  refine cw_region ?_
  refine ow_vals 1 (j := 1) [0, 1, 19] [(0, .slice r21_p1 r21.length r21_c2), (1, .slice p1 x1.length c1), (19, .slice r21_p1 r21.length r21_c2)] rfl (by kernel_rfl) ?_
  obtain ⟨r23, h24, hF⟩ := bind_some hF
  refine ow_pw rfl (pw_call (F := [] ++ F0) rfl rfl rfl rfl rfl rfl rfl (by kernel_rfl) (perm_of_pulls [0] rfl) (c_mill_With _ r21 r21_p1 r21_c2 r23 h24 r21_h3) ?_)
  rintro _ _ (⟨hO, rfl, rfl⟩ | ⟨r23_s1, r23_b2, r23_b4, r23_b6, hO, rfl, rfl⟩)
  · rw [hO] at hF
    try dsimp only [optC] at hF
    refine nw_H (H' := [imm I] ++ F0) rfl (nw_ow ?_)
    refine ow_vals 5 (j := 7) [0, 1, 5, 6] [(0, .slice r21_p1 r21.length r21_c2), (1, .slice p1 x1.length c1), (5, .pointer none), (6, .int .i64 r23.2)] rfl (by kernel_rfl) ?_
    refine ow_end rfl ?_
    refine ew_then ?_
    obtain ⟨v28, hF, hK28⟩ := thru_some hF
    refine cw_mid (fun a w => .inl () = v28 ∧ Fr 130 [(0, .slice r21_p1 r21.length r21_c2), (1, .slice p1 x1.length c1), (5, .pointer none), (6, .int .i64 r23.2)] a ∧ SAT w0 ([imm I] ++ F0) w) ?_ ?_
    · refine cw_seq ?_
      refine cw_region ?_
      refine ow_vals 1 (j := 1) [0, 1, 5, 6, 23] [(0, .slice r21_p1 r21.length r21_c2), (1, .slice p1 x1.length c1), (5, .pointer none), (6, .int .i64 r23.2), (23, .slice r21_p1 r21.length r21_c2)] rfl (by kernel_rfl) ?_
      obtain ⟨r29, h30, hF⟩ := bind_some hF
      refine ow_pw rfl (pw_call (F := [] ++ F0) rfl rfl rfl rfl rfl rfl rfl (by kernel_rfl) (perm_of_pulls [0] rfl) (c_law03_right _ r21 r21_p1 r21_c2 r29 h30 r21_h3) ?_)
      rintro _ _ ⟨rfl, rfl⟩
      refine nw_H (H' := [imm I] ++ F0) rfl (nw_ow ?_)
      refine ow_vals 1 (j := 3) [0, 1, 5, 6, 25] [(0, .slice r21_p1 r21.length r21_c2), (1, .slice p1 x1.length c1), (5, .pointer none), (6, .int .i64 r23.2), (25, .bool (!r29))] rfl (by kernel_rfl) ?_
      refine ow_end rfl ?_
      refine ew_then ?_
      rcases if_some hF with ⟨h31, hF⟩ | ⟨h31, hF⟩
      · refine cw_cond_t rfl rfl h31 ?_
        refine cw_seq ?_
        refine cw_region ?_
        refine ow_vals 7 (j := 7) [32] [(32, .bool (r23.2 == 1))] rfl (by kernel_rfl) ?_
        rcases if_some hF with ⟨h32, hF⟩ | ⟨h32, hF⟩
        · refine ow_slots (L' := [(32, .bool true)]) (by rw [h32]) ?_
          obtain ⟨r33, h34, hF⟩ := bind_some hF
          refine ow_pw rfl (pw_call (F := [] ++ F0) rfl rfl rfl rfl rfl rfl rfl (by kernel_rfl) (perm_of_pulls [0] rfl) (c_law03_awake _ r33 h34) ?_)
          rintro _ _ ⟨rfl, rfl⟩
          refine nw_H (H' := [imm I] ++ F0) rfl (nw_ow ?_)
          refine ow_vals 2 (j := 10) [4] [(4, .bool r33)] rfl (by kernel_rfl) ?_
          refine ow_end rfl ?_
          refine ew_then ?_
          refine cw_ret ?_
          refine ew_then_ret ?_
          have hR := Option.some.inj hF
          subst hR
          have hR := hK28
          try dsimp only [Thru] at hR
          subst hR
          exact fin1 (H1 := [imm I]) (fun w hs => sat_to [0] 0 rfl hs) rfl (rr_tmp rfl) ⟨rfl, rfl⟩
        · refine ow_slots (L' := [(32, .bool false)]) (by rw [h32]) ?_
          refine ow_vals 3 (j := 10) [4] [(4, .bool false)] rfl (by kernel_rfl) ?_
          refine ow_end rfl ?_
          refine ew_then ?_
          refine cw_ret ?_
          refine ew_then_ret ?_
          have hR := Option.some.inj hF
          subst hR
          have hR := hK28
          try dsimp only [Thru] at hR
          subst hR
          exact fin1 (H1 := [imm I]) (fun w hs => sat_to [0] 0 rfl hs) rfl (rr_tmp rfl) ⟨rfl, rfl⟩
      · refine cw_cond_f rfl rfl h31 ?_
        refine cw_skip ?_
        have hR := Option.some.inj hF
        exact fun a w hf hs => ⟨hR, hf.keep [0, 1, 5, 6], sat_to [0] 0 rfl hs⟩
    · rintro a w ⟨hv, hf, hs⟩
      subst hv
      replace hF := hK28
      clear hK28
      try dsimp only [Thru] at hF
      revert a w
      show CW _ _ _ 130 [(0, .slice r21_p1 r21.length r21_c2), (1, .slice p1 x1.length c1), (5, .pointer none), (6, .int .i64 r23.2)] (SAT w0 ([imm I] ++ F0))
      unfold F.law03_MillSums.r1 at hF
      refine cw_seq ?_
      refine cw_seq ?_
      refine cw_region ?_
      refine ow_vals 6 (j := 6) [0, 1, 5, 40] [(0, .slice r21_p1 r21.length r21_c2), (1, .slice p1 x1.length c1), (5, .pointer none), (40, .bool true)] rfl (by kernel_rfl) ?_
      refine ow_end rfl ?_
      refine ew_then ?_
      refine cw_cond_t rfl rfl rfl ?_
      refine cw_seq ?_
      refine cw_region ?_
      refine ow_vals 1 (j := 1) [4] [(4, .bool false)] rfl (by kernel_rfl) ?_
      refine ow_end rfl ?_
      refine ew_then ?_
      refine cw_ret ?_
      refine ew_then_ret ?_
      have hR := Option.some.inj hF
      subst hR
      exact fin1 (H1 := [imm I]) (fun w hs => sat_to [0] 0 rfl hs) rfl (rr_tmp rfl) ⟨rfl, rfl⟩
  · rw [hO] at hF
    try dsimp only [optC] at hF
    refine nw_H (H' := [imm I, pt r23_b2 #[.map (some r23_b4), .map (some r23_b6), .string r23_s1.twins_.e0, .string r23_s1.twins_.e1, .bool r23_s1.found_, .bool r23_s1.full_, .int .i64 r23_s1.sums_] 50, mpo kStr kStr r23_b4 r23_s1.table_, mpo kStr kStr r23_b6 r23_s1.notes_] ++ F0) rfl (nw_ow ?_)
    refine ow_vals 5 (j := 7) [0, 1, 5, 6] [(0, .slice r21_p1 r21.length r21_c2), (1, .slice p1 x1.length c1), (5, .pointer (some ⟨r23_b2, 0, none⟩)), (6, .int .i64 r23.2)] rfl (by kernel_rfl) ?_
    refine ow_end rfl ?_
    refine ew_then ?_
    obtain ⟨v36, hF, hK36⟩ := thru_some hF
    refine cw_mid (fun a w => .inl () = v36 ∧ Fr 130 [(0, .slice r21_p1 r21.length r21_c2), (1, .slice p1 x1.length c1), (5, .pointer (some ⟨r23_b2, 0, none⟩)), (6, .int .i64 r23.2)] a ∧ SAT w0 ([imm I, pt r23_b2 #[.map (some r23_b4), .map (some r23_b6), .string r23_s1.twins_.e0, .string r23_s1.twins_.e1, .bool r23_s1.found_, .bool r23_s1.full_, .int .i64 r23_s1.sums_] 50, mpo kStr kStr r23_b4 r23_s1.table_, mpo kStr kStr r23_b6 r23_s1.notes_] ++ F0) w) ?_ ?_
    · refine cw_seq ?_
      refine cw_region ?_
      refine ow_vals 1 (j := 1) [0, 1, 5, 6, 23] [(0, .slice r21_p1 r21.length r21_c2), (1, .slice p1 x1.length c1), (5, .pointer (some ⟨r23_b2, 0, none⟩)), (6, .int .i64 r23.2), (23, .slice r21_p1 r21.length r21_c2)] rfl (by kernel_rfl) ?_
      obtain ⟨r37, h38, hF⟩ := bind_some hF
      refine ow_pw rfl (pw_call (F := [pt r23_b2 #[.map (some r23_b4), .map (some r23_b6), .string r23_s1.twins_.e0, .string r23_s1.twins_.e1, .bool r23_s1.found_, .bool r23_s1.full_, .int .i64 r23_s1.sums_] 50, mpo kStr kStr r23_b4 r23_s1.table_, mpo kStr kStr r23_b6 r23_s1.notes_] ++ F0) rfl rfl rfl rfl rfl rfl rfl (by kernel_rfl) (perm_of_pulls [0] rfl) (c_law03_right _ r21 r21_p1 r21_c2 r37 h38 r21_h3) ?_)
      rintro _ _ ⟨rfl, rfl⟩
      refine nw_H (H' := [imm I, pt r23_b2 #[.map (some r23_b4), .map (some r23_b6), .string r23_s1.twins_.e0, .string r23_s1.twins_.e1, .bool r23_s1.found_, .bool r23_s1.full_, .int .i64 r23_s1.sums_] 50, mpo kStr kStr r23_b4 r23_s1.table_, mpo kStr kStr r23_b6 r23_s1.notes_] ++ F0) rfl (nw_ow ?_)
      refine ow_vals 1 (j := 3) [0, 1, 5, 6, 25] [(0, .slice r21_p1 r21.length r21_c2), (1, .slice p1 x1.length c1), (5, .pointer (some ⟨r23_b2, 0, none⟩)), (6, .int .i64 r23.2), (25, .bool (!r37))] rfl (by kernel_rfl) ?_
      refine ow_end rfl ?_
      refine ew_then ?_
      rcases if_some hF with ⟨h39, hF⟩ | ⟨h39, hF⟩
      · refine cw_cond_t rfl rfl h39 ?_
        refine cw_seq ?_
        refine cw_region ?_
        refine ow_vals 10 (j := 10) [4] [(4, .bool false)] rfl (by kernel_rfl) ?_
        refine ow_end rfl ?_
        refine ew_then ?_
        refine cw_ret ?_
        refine ew_then_ret ?_
        have hR := Option.some.inj hF
        subst hR
        have hR := hK36
        try dsimp only [Thru] at hR
        subst hR
        exact fin1 (H1 := [imm I]) (fun w hs => sat_to [1, 1, 1, 0] 3 rfl hs) rfl (rr_tmp rfl) ⟨rfl, rfl⟩
      · refine cw_cond_f rfl rfl h39 ?_
        refine cw_skip ?_
        have hR := Option.some.inj hF
        exact fun a w hf hs => ⟨hR, hf.keep [0, 1, 5, 6], sat_to [0, 0, 0, 0] 0 rfl hs⟩
    · rintro a w ⟨hv, hf, hs⟩
      subst hv
      replace hF := hK36
      clear hK36
      try dsimp only [Thru] at hF
      revert a w
      show CW _ _ _ 130 [(0, .slice r21_p1 r21.length r21_c2), (1, .slice p1 x1.length c1), (5, .pointer (some ⟨r23_b2, 0, none⟩)), (6, .int .i64 r23.2)] (SAT w0 ([imm I, pt r23_b2 #[.map (some r23_b4), .map (some r23_b6), .string r23_s1.twins_.e0, .string r23_s1.twins_.e1, .bool r23_s1.found_, .bool r23_s1.full_, .int .i64 r23_s1.sums_] 50, mpo kStr kStr r23_b4 r23_s1.table_, mpo kStr kStr r23_b6 r23_s1.notes_] ++ F0))
      unfold F.law03_MillSums.r2 at hF
      obtain ⟨v40, hF, hK40⟩ := thru_some hF
      refine cw_mid (fun a w => .inl () = v40 ∧ Fr 130 [(0, .slice r21_p1 r21.length r21_c2), (1, .slice p1 x1.length c1), (5, .pointer (some ⟨r23_b2, 0, none⟩))] a ∧ SAT w0 ([imm I, pt r23_b2 #[.map (some r23_b4), .map (some r23_b6), .string r23_s1.twins_.e0, .string r23_s1.twins_.e1, .bool r23_s1.found_, .bool r23_s1.full_, .int .i64 r23_s1.sums_] 50, mpo kStr kStr r23_b4 r23_s1.table_, mpo kStr kStr r23_b6 r23_s1.notes_] ++ F0) w) ?_ ?_
      · refine cw_seq ?_
        refine cw_region ?_
        refine ow_vals 6 (j := 6) [0, 1, 5, 40] [(0, .slice r21_p1 r21.length r21_c2), (1, .slice p1 x1.length c1), (5, .pointer (some ⟨r23_b2, 0, none⟩)), (40, .bool (r23.2 != 0))] rfl (by kernel_rfl) ?_
        refine ow_end rfl ?_
        refine ew_then ?_
        rcases if_some hF with ⟨h41, hF⟩ | ⟨h41, hF⟩
        · refine cw_cond_t rfl rfl h41 ?_
          refine cw_seq ?_
          refine cw_region ?_
          refine ow_vals 1 (j := 1) [4] [(4, .bool false)] rfl (by kernel_rfl) ?_
          refine ow_end rfl ?_
          refine ew_then ?_
          refine cw_ret ?_
          refine ew_then_ret ?_
          have hR := Option.some.inj hF
          subst hR
          have hR := hK40
          try dsimp only [Thru] at hR
          subst hR
          exact fin1 (H1 := [imm I]) (fun w hs => sat_to [1, 1, 1, 0] 3 rfl hs) rfl (rr_tmp rfl) ⟨rfl, rfl⟩
        · refine cw_cond_f rfl rfl h41 ?_
          refine cw_skip ?_
          have hR := Option.some.inj hF
          exact fun a w hf hs => ⟨hR, hf.keep [0, 1, 5], sat_to [0, 0, 0, 0] 0 rfl hs⟩
      · rintro a w ⟨hv, hf, hs⟩
        subst hv
        replace hF := hK40
        clear hK40
        try dsimp only [Thru] at hF
        revert a w
        show CW _ _ _ 130 [(0, .slice r21_p1 r21.length r21_c2), (1, .slice p1 x1.length c1), (5, .pointer (some ⟨r23_b2, 0, none⟩))] (SAT w0 ([imm I, pt r23_b2 #[.map (some r23_b4), .map (some r23_b6), .string r23_s1.twins_.e0, .string r23_s1.twins_.e1, .bool r23_s1.found_, .bool r23_s1.full_, .int .i64 r23_s1.sums_] 50, mpo kStr kStr r23_b4 r23_s1.table_, mpo kStr kStr r23_b6 r23_s1.notes_] ++ F0))
        unfold F.law03_MillSums.r3 at hF
        refine cw_seq ?_
        refine cw_region ?_
        refine ow_vals 3 (j := 3) [0, 1, 5, 7, 8, 9] [(0, .slice r21_p1 r21.length r21_c2), (1, .slice p1 x1.length c1), (5, .pointer (some ⟨r23_b2, 0, none⟩)), (7, .string (ByteArray.mk #[])), (8, .string (ByteArray.mk #[])), (9, .bool false)] rfl (by kernel_rfl) ?_
        refine ow_end rfl ?_
        refine ew_then ?_
        obtain ⟨v42, hF, hK42⟩ := thru_some hF
        refine cw_mid (fun a w => ∃ (l136 : List (ByteArray × ByteArray)), ∃ (l139 : List (ByteArray × ByteArray)), ∃ (s142 : ByteArray), ∃ (s143 : ByteArray), ∃ (x144 : Bool), ∃ (x145 : Bool), ∃ (x146 : Int), ∃ (b138 : Nat), ∃ (b141 : Nat), .inl (l136, l139, s142, s143, x144, x145, x146) = v42 ∧ Fr 130 [] a ∧ SAT w0 ([imm I, pt r23_b2 #[.map (some b138), .map (some b141), .string s142, .string s143, .bool x144, .bool x145, .int .i64 x146] 50, mpo kStr kStr b138 l136, mpo kStr kStr b141 l139] ++ F0) w) ?_ ?_
        · refine cw_seq ?_
          refine cw_region ?_
          refine ow_vals 1 (j := 1) [0, 1, 5, 7, 8, 9, 10] [(0, .slice r21_p1 r21.length r21_c2), (1, .slice p1 x1.length c1), (5, .pointer (some ⟨r23_b2, 0, none⟩)), (7, .string (ByteArray.mk #[])), (8, .string (ByteArray.mk #[])), (9, .bool false), (10, .int .i64 0)] rfl (by kernel_rfl) ?_
          refine ow_end rfl ?_
          refine ew_then ?_
          refine cw_block ?_
          refine fun a w hf hs => wp_rounds (fun k a w => ∃ (s44 : ByteArray), ∃ (s45 : ByteArray), ∃ (x46 : Bool), ∃ (x47 : Int), ∃ (l48 : List (ByteArray × ByteArray)), ∃ (l51 : List (ByteArray × ByteArray)), ∃ (s54 : ByteArray), ∃ (s55 : ByteArray), ∃ (x56 : Bool), ∃ (x57 : Bool), ∃ (x58 : Int), ∃ (b50 : Nat), ∃ (b53 : Nat), iter (fun x => F.law03_MillSums.l9 x1 r21 x.1 x.2.1 x.2.2.1 x.2.2.2.1 x.2.2.2.2.1 x.2.2.2.2.2.1 x.2.2.2.2.2.2.1 x.2.2.2.2.2.2.2.1 x.2.2.2.2.2.2.2.2.1 x.2.2.2.2.2.2.2.2.2.1 x.2.2.2.2.2.2.2.2.2.2) k (s44, s45, x46, x47, l48, l51, s54, s55, x56, x57, x58) = some v42 ∧ Fr 130 [(0, .slice r21_p1 r21.length r21_c2), (1, .slice p1 x1.length c1), (5, .pointer (some ⟨r23_b2, 0, none⟩)), (7, .string s44), (8, .string s45), (9, .bool x46), (10, .int .i64 x47)] a ∧ SAT w0 ([imm I, pt r23_b2 #[.map (some b50), .map (some b53), .string s54, .string s55, .bool x56, .bool x57, .int .i64 x58] 50, mpo kStr kStr b50 l48, mpo kStr kStr b53 l51] ++ F0) w) ?_ FUEL a w ⟨(ByteArray.mk #[]), (ByteArray.mk #[]), false, 0, r23_s1.table_, r23_s1.notes_, r23_s1.twins_.e0, r23_s1.twins_.e1, r23_s1.found_, r23_s1.full_, r23_s1.sums_, r23_b4, r23_b6, hF, hf.keep [0, 1, 5, 7, 8, 9, 10], sat_to [0, 0, 0, 0] 0 rfl hs⟩
          clear hf hs
          clear a w hF
          rintro k a w ⟨s44, s45, x46, x47, l48, l51, s54, s55, x56, x57, x58, b50, b53, hF2, hf, hs⟩
          obtain ⟨k, r43, rfl, hF, hL43⟩ := iter_some hF2
          clear hF2
          revert a w
          show CW _ _ _ 130 [(0, .slice r21_p1 r21.length r21_c2), (1, .slice p1 x1.length c1), (5, .pointer (some ⟨r23_b2, 0, none⟩)), (7, .string s44), (8, .string s45), (9, .bool x46), (10, .int .i64 x47)] (SAT w0 ([imm I, pt r23_b2 #[.map (some b50), .map (some b53), .string s54, .string s55, .bool x56, .bool x57, .int .i64 x58] 50, mpo kStr kStr b50 l48, mpo kStr kStr b53 l51] ++ F0))
          try dsimp only at hF
          unfold F.law03_MillSums.l9 at hF
          obtain ⟨v59, hF, hK59⟩ := thru_some hF
          refine cw_mid (fun a w => .inl () = v59 ∧ Fr 130 [(0, .slice r21_p1 r21.length r21_c2), (1, .slice p1 x1.length c1), (5, .pointer (some ⟨r23_b2, 0, none⟩)), (7, .string s44), (8, .string s45), (9, .bool x46), (10, .int .i64 x47)] a ∧ SAT w0 ([imm I, pt r23_b2 #[.map (some b50), .map (some b53), .string s54, .string s55, .bool x56, .bool x57, .int .i64 x58] 50, mpo kStr kStr b50 l48, mpo kStr kStr b53 l51] ++ F0) w) ?_ ?_
          · refine cw_seq ?_
            refine cw_region ?_
            refine ow_vals 5 (j := 5) [0, 1, 5, 7, 8, 9, 10, 45] [(0, .slice r21_p1 r21.length r21_c2), (1, .slice p1 x1.length c1), (5, .pointer (some ⟨r23_b2, 0, none⟩)), (7, .string s44), (8, .string s45), (9, .bool x46), (10, .int .i64 x47), (45, .bool (decide (x47 < (x1.length : Int))))] rfl (by kernel_rfl) ?_
            rcases if_some hF with ⟨h60, hF⟩ | ⟨h60, hF⟩
            · refine ow_slots (L' := [(0, .slice r21_p1 r21.length r21_c2), (1, .slice p1 x1.length c1), (5, .pointer (some ⟨r23_b2, 0, none⟩)), (7, .string s44), (8, .string s45), (9, .bool x46), (10, .int .i64 x47), (45, .bool true)]) (by rw [h60]) ?_
              refine ow_vals 3 (j := 8) [0, 1, 5, 7, 8, 9, 10, 48] [(0, .slice r21_p1 r21.length r21_c2), (1, .slice p1 x1.length c1), (5, .pointer (some ⟨r23_b2, 0, none⟩)), (7, .string s44), (8, .string s45), (9, .bool x46), (10, .int .i64 x47), (48, .bool (decide (x47 < 30)))] rfl (by kernel_rfl) ?_
              refine ow_end rfl ?_
              refine ew_then ?_
              rcases if_some hF with ⟨h61, hF⟩ | ⟨h61, hF⟩
              · refine cw_cond_t rfl rfl h61 ?_
                refine cw_skip ?_
                have hR := Option.some.inj hF
                exact fun a w hf hs => ⟨hR, hf.keep [0, 1, 5, 7, 8, 9, 10], sat_to [0, 0, 0, 0] 0 rfl hs⟩
              · refine cw_cond_f rfl rfl h61 ?_
                refine cw_exit ?_
                refine ew_then_exit ?_
                refine ew_then_exit ?_
                refine ew_blk_exit ?_
                have hR := Option.some.inj hF
                subst hR
                have hR := hK59
                try dsimp only [Thru] at hR
                subst hR
                have hR := hL43
                try dsimp only at hR
                exact fun a w hf hs => ⟨l48, l51, s54, s55, x56, x57, x58, b50, b53, hR, hf.keep [], sat_to [0, 0, 0, 0] 0 rfl hs⟩
            · refine ow_slots (L' := [(0, .slice r21_p1 r21.length r21_c2), (1, .slice p1 x1.length c1), (5, .pointer (some ⟨r23_b2, 0, none⟩)), (7, .string s44), (8, .string s45), (9, .bool x46), (10, .int .i64 x47), (45, .bool false)]) (by rw [h60]) ?_
              refine ow_vals 3 (j := 8) [0, 1, 5, 7, 8, 9, 10, 48] [(0, .slice r21_p1 r21.length r21_c2), (1, .slice p1 x1.length c1), (5, .pointer (some ⟨r23_b2, 0, none⟩)), (7, .string s44), (8, .string s45), (9, .bool x46), (10, .int .i64 x47), (48, .bool false)] rfl (by kernel_rfl) ?_
              refine ow_end rfl ?_
              refine ew_then ?_
              refine cw_cond_f rfl rfl rfl ?_
              refine cw_exit ?_
              refine ew_then_exit ?_
              refine ew_then_exit ?_
              refine ew_blk_exit ?_
              have hR := Option.some.inj hF
              subst hR
              have hR := hK59
              try dsimp only [Thru] at hR
              subst hR
              have hR := hL43
              try dsimp only at hR
              exact fun a w hf hs => ⟨l48, l51, s54, s55, x56, x57, x58, b50, b53, hR, hf.keep [], sat_to [0, 0, 0, 0] 0 rfl hs⟩
          · rintro a w ⟨hv, hf, hs⟩
            subst hv
            replace hF := hK59
            clear hK59
            try dsimp only [Thru] at hF
            revert a w
            show CW _ _ _ 130 [(0, .slice r21_p1 r21.length r21_c2), (1, .slice p1 x1.length c1), (5, .pointer (some ⟨r23_b2, 0, none⟩)), (7, .string s44), (8, .string s45), (9, .bool x46), (10, .int .i64 x47)] (SAT w0 ([imm I, pt r23_b2 #[.map (some b50), .map (some b53), .string s54, .string s55, .bool x56, .bool x57, .int .i64 x58] 50, mpo kStr kStr b50 l48, mpo kStr kStr b53 l51] ++ F0))
            unfold F.law03_MillSums.r4 at hF
            obtain ⟨v62, hF, hK62⟩ := thru_some hF
            refine cw_mid (fun a w => ∃ (s122 : ByteArray), ∃ (s123 : ByteArray), ∃ (x124 : Bool), ∃ (l125 : List (ByteArray × ByteArray)), ∃ (l128 : List (ByteArray × ByteArray)), ∃ (s131 : ByteArray), ∃ (s132 : ByteArray), ∃ (x133 : Bool), ∃ (x134 : Bool), ∃ (x135 : Int), ∃ (b127 : Nat), ∃ (b130 : Nat), .inl (s122, s123, x124, l125, l128, s131, s132, x133, x134, x135) = v62 ∧ Fr 130 [(0, .slice r21_p1 r21.length r21_c2), (1, .slice p1 x1.length c1), (5, .pointer (some ⟨r23_b2, 0, none⟩)), (7, .string s122), (8, .string s123), (9, .bool x124), (10, .int .i64 x47)] a ∧ SAT w0 ([imm I, pt r23_b2 #[.map (some b127), .map (some b130), .string s131, .string s132, .bool x133, .bool x134, .int .i64 x135] 50, mpo kStr kStr b127 l125, mpo kStr kStr b130 l128] ++ F0) w) ?_ ?_
            · refine cw_block ?_
              refine cw_seq ?_
              refine cw_region ?_
              refine ow_vals 3 (j := 3) [0, 1, 5, 7, 8, 9, 10, 51, 52, 53] [(0, .slice r21_p1 r21.length r21_c2), (1, .slice p1 x1.length c1), (5, .pointer (some ⟨r23_b2, 0, none⟩)), (7, .string s44), (8, .string s45), (9, .bool x46), (10, .int .i64 x47), (51, .slice r21_p1 r21.length r21_c2), (52, .slice p1 x1.length c1), (53, .int .i64 x47)] rfl (by kernel_rfl) ?_
              obtain ⟨y63, h64, hF⟩ := bind_some hF
              refine ow_pw rfl (pw_index_ro (E := 9) 1 hr1 rfl rfl rfl rfl rfl (by kernel_rfl) rfl rfl rfl h64 fun q65 h66 => nw_ow ?_)
              refine ow_pw rfl (pw_quiet (v := .string y63) rfl rfl rfl rfl (q_load_el0 0 rfl h66 rfl rfl (by kernel_rfl)) (nw_ow ?_))
              obtain ⟨r67, h68, hF⟩ := bind_some hF
              refine ow_pw rfl (pw_call (F := [pt r23_b2 #[.map (some b50), .map (some b53), .string s54, .string s55, .bool x56, .bool x57, .int .i64 x58] 50, mpo kStr kStr b50 l48, mpo kStr kStr b53 l51] ++ F0) rfl rfl rfl rfl rfl rfl rfl (by kernel_rfl) (perm_of_pulls [0] rfl) (c_law03_sum _ r21 y63 r21_p1 r21_c2 r67 h68 r21_h3) ?_)
              rintro _ _ ⟨rfl, rfl⟩
              refine nw_H (H' := [imm I, pt r23_b2 #[.map (some b50), .map (some b53), .string s54, .string s55, .bool x56, .bool x57, .int .i64 x58] 50, mpo kStr kStr b50 l48, mpo kStr kStr b53 l51] ++ F0) rfl (nw_ow ?_)
              refine ow_vals 1 (j := 7) [0, 1, 5, 7, 8, 9, 10, 11] [(0, .slice r21_p1 r21.length r21_c2), (1, .slice p1 x1.length c1), (5, .pointer (some ⟨r23_b2, 0, none⟩)), (7, .string s44), (8, .string s45), (9, .bool x46), (10, .int .i64 x47), (11, .string r67)] rfl (by kernel_rfl) ?_
              refine ow_end rfl ?_
              refine ew_then ?_
              refine cw_seq ?_
              refine cw_seq ?_
              refine cw_region ?_
              refine ow_vals 3 (j := 3) [0, 1, 5, 7, 8, 9, 10, 11, 57, 58, 59] [(0, .slice r21_p1 r21.length r21_c2), (1, .slice p1 x1.length c1), (5, .pointer (some ⟨r23_b2, 0, none⟩)), (7, .string s44), (8, .string s45), (9, .bool x46), (10, .int .i64 x47), (11, .string r67), (57, .pointer (some ⟨r23_b2, 0, none⟩)), (58, .slice p1 x1.length c1), (59, .int .i64 x47)] rfl (by kernel_rfl) ?_
              obtain ⟨y69, h70, hF⟩ := bind_some hF
              refine ow_pw rfl (pw_index_ro (E := 9) 1 hr1 rfl rfl rfl rfl rfl (by kernel_rfl) rfl rfl rfl h70 fun q71 h72 => nw_ow ?_)
              refine ow_pw rfl (pw_quiet (v := .string y69) rfl rfl rfl rfl (q_load_el0 0 rfl h72 rfl rfl (by kernel_rfl)) (nw_ow ?_))
              obtain ⟨r73, h74, hF⟩ := bind_some hF
              refine ow_pw rfl (pw_call (F := [] ++ F0) rfl rfl rfl rfl rfl rfl rfl (by kernel_rfl) (perm_of_pulls [0, 0, 0, 0] rfl) (c_mill_Mill_Sum _ y69 (⟨l48, l51, (⟨s54, s55⟩ : A2_ByteArray), x56, x57, x58⟩ : mill_Mill) b50 b53 r23_b2 r73 h74) ?_)
              rintro _ _ ⟨r73_b1, r73_b3, rfl, rfl⟩
              refine nw_H (H' := [imm I, pt r23_b2 #[.map (some r73_b1), .map (some r73_b3), .string r73.2.twins_.e0, .string r73.2.twins_.e1, .bool r73.2.found_, .bool r73.2.full_, .int .i64 r73.2.sums_] 50, mpo kStr kStr r73_b1 r73.2.table_, mpo kStr kStr r73_b3 r73.2.notes_] ++ F0) rfl (nw_ow ?_)
              refine ow_vals 2 (j := 8) [0, 1, 5, 7, 8, 9, 10, 11, 64] [(0, .slice r21_p1 r21.length r21_c2), (1, .slice p1 x1.length c1), (5, .pointer (some ⟨r23_b2, 0, none⟩)), (7, .string s44), (8, .string s45), (9, .bool x46), (10, .int .i64 x47), (11, .string r67), (64, .bool (!(seqB r73.1 r67)))] rfl (by kernel_rfl) ?_
              refine ow_end rfl ?_
              refine ew_then ?_
              rcases if_some hF with ⟨h77, hF⟩ | ⟨h77, hF⟩
              · refine cw_cond_t rfl rfl h77 ?_
                refine cw_seq ?_
                refine cw_region ?_
                refine ow_vals 1 (j := 1) [4] [(4, .bool false)] rfl (by kernel_rfl) ?_
                refine ow_end rfl ?_
                refine ew_then ?_
                refine cw_ret ?_
                refine ew_then_ret ?_
                refine ew_blk_ret ?_
                refine ew_then_ret ?_
                refine ew_then_ret ?_
                refine ew_blk_ret ?_
                refine ew_then_ret ?_
                have hR := Option.some.inj hF
                subst hR
                have hR := hK62
                try dsimp only [Thru] at hR
                subst hR
                have hR := hL43
                try dsimp only at hR
                subst hR
                have hR := hK42
                try dsimp only [Thru] at hR
                subst hR
                exact fin1 (H1 := [imm I]) (fun w hs => sat_to [1, 1, 1, 0] 3 rfl hs) rfl (rr_tmp rfl) ⟨rfl, rfl⟩
              · refine cw_cond_f rfl rfl h77 ?_
                refine cw_skip ?_
                refine ew_then ?_
                obtain ⟨v78, hF, hK78⟩ := bind_some hF
                refine cw_mid (fun a w => ∃ (s108 : ByteArray), ∃ (s109 : ByteArray), ∃ (x110 : Bool), (s108, s109, x110) = v78 ∧ Fr 130 [(0, .slice r21_p1 r21.length r21_c2), (1, .slice p1 x1.length c1), (5, .pointer (some ⟨r23_b2, 0, none⟩)), (7, .string s108), (8, .string s109), (9, .bool x110), (10, .int .i64 x47)] a ∧ SAT w0 ([imm I, pt r23_b2 #[.map (some r73_b1), .map (some r73_b3), .string r73.2.twins_.e0, .string r73.2.twins_.e1, .bool r73.2.found_, .bool r73.2.full_, .int .i64 r73.2.sums_] 50, mpo kStr kStr r73_b1 r73.2.table_, mpo kStr kStr r73_b3 r73.2.notes_] ++ F0) w) ?_ ?_
                · refine cw_seq ?_
                  refine cw_region ?_
                  refine ow_vals 1 (j := 1) [0, 1, 5, 7, 8, 9, 10, 11, 12] [(0, .slice r21_p1 r21.length r21_c2), (1, .slice p1 x1.length c1), (5, .pointer (some ⟨r23_b2, 0, none⟩)), (7, .string s44), (8, .string s45), (9, .bool x46), (10, .int .i64 x47), (11, .string r67), (12, .int .i64 0)] rfl (by kernel_rfl) ?_
                  refine ow_end rfl ?_
                  refine ew_then ?_
                  refine cw_block ?_
                  refine fun a w hf hs => wp_rounds (fun k a w => ∃ (x80 : Int), iter (fun x => F.law03_MillSums.l6 x1 r21 s44 s45 x46 x47 r67 x) k x80 = some v78 ∧ Fr 130 [(0, .slice r21_p1 r21.length r21_c2), (1, .slice p1 x1.length c1), (5, .pointer (some ⟨r23_b2, 0, none⟩)), (7, .string s44), (8, .string s45), (9, .bool x46), (10, .int .i64 x47), (11, .string r67), (12, .int .i64 x80)] a ∧ SAT w0 ([imm I, pt r23_b2 #[.map (some r73_b1), .map (some r73_b3), .string r73.2.twins_.e0, .string r73.2.twins_.e1, .bool r73.2.found_, .bool r73.2.full_, .int .i64 r73.2.sums_] 50, mpo kStr kStr r73_b1 r73.2.table_, mpo kStr kStr r73_b3 r73.2.notes_] ++ F0) w) ?_ FUEL a w ⟨0, hF, hf.keep [0, 1, 5, 7, 8, 9, 10, 11, 12], sat_to [0, 0, 0, 0] 0 rfl hs⟩
                  clear hf hs
                  clear a w hF
                  rintro k a w ⟨x80, hF2, hf, hs⟩
                  obtain ⟨k, r79, rfl, hF, hL79⟩ := iter_some hF2
                  clear hF2
                  revert a w
                  show CW _ _ _ 130 [(0, .slice r21_p1 r21.length r21_c2), (1, .slice p1 x1.length c1), (5, .pointer (some ⟨r23_b2, 0, none⟩)), (7, .string s44), (8, .string s45), (9, .bool x46), (10, .int .i64 x47), (11, .string r67), (12, .int .i64 x80)] (SAT w0 ([imm I, pt r23_b2 #[.map (some r73_b1), .map (some r73_b3), .string r73.2.twins_.e0, .string r73.2.twins_.e1, .bool r73.2.found_, .bool r73.2.full_, .int .i64 r73.2.sums_] 50, mpo kStr kStr r73_b1 r73.2.table_, mpo kStr kStr r73_b3 r73.2.notes_] ++ F0))
                  try dsimp only at hF
                  unfold F.law03_MillSums.l6 at hF
                  obtain ⟨v81, hF, hK81⟩ := thru_some hF
                  refine cw_mid (fun a w => .inl () = v81 ∧ Fr 130 [(0, .slice r21_p1 r21.length r21_c2), (1, .slice p1 x1.length c1), (5, .pointer (some ⟨r23_b2, 0, none⟩)), (7, .string s44), (8, .string s45), (9, .bool x46), (10, .int .i64 x47), (11, .string r67), (12, .int .i64 x80)] a ∧ SAT w0 ([imm I, pt r23_b2 #[.map (some r73_b1), .map (some r73_b3), .string r73.2.twins_.e0, .string r73.2.twins_.e1, .bool r73.2.found_, .bool r73.2.full_, .int .i64 r73.2.sums_] 50, mpo kStr kStr r73_b1 r73.2.table_, mpo kStr kStr r73_b3 r73.2.notes_] ++ F0) w) ?_ ?_
                  · refine cw_seq ?_
                    refine cw_region ?_
                    refine ow_vals 4 (j := 4) [0, 1, 5, 7, 8, 9, 10, 11, 12, 68] [(0, .slice r21_p1 r21.length r21_c2), (1, .slice p1 x1.length c1), (5, .pointer (some ⟨r23_b2, 0, none⟩)), (7, .string s44), (8, .string s45), (9, .bool x46), (10, .int .i64 x47), (11, .string r67), (12, .int .i64 x80), (68, .bool (decide (x80 < x47)))] rfl (by kernel_rfl) ?_
                    rcases if_some hF with ⟨h82, hF⟩ | ⟨h82, hF⟩
                    · refine ow_slots (L' := [(0, .slice r21_p1 r21.length r21_c2), (1, .slice p1 x1.length c1), (5, .pointer (some ⟨r23_b2, 0, none⟩)), (7, .string s44), (8, .string s45), (9, .bool x46), (10, .int .i64 x47), (11, .string r67), (12, .int .i64 x80), (68, .bool true)]) (by rw [h82]) ?_
                      refine ow_vals 3 (j := 7) [0, 1, 5, 7, 8, 9, 10, 11, 12, 71] [(0, .slice r21_p1 r21.length r21_c2), (1, .slice p1 x1.length c1), (5, .pointer (some ⟨r23_b2, 0, none⟩)), (7, .string s44), (8, .string s45), (9, .bool x46), (10, .int .i64 x47), (11, .string r67), (12, .int .i64 x80), (71, .bool (!x46))] rfl (by kernel_rfl) ?_
                      refine ow_end rfl ?_
                      refine ew_then ?_
                      rcases if_some hF with ⟨h83, hF⟩ | ⟨h83, hF⟩
                      · refine cw_cond_t rfl rfl h83 ?_
                        refine cw_skip ?_
                        have hR := Option.some.inj hF
                        exact fun a w hf hs => ⟨hR, hf.keep [0, 1, 5, 7, 8, 9, 10, 11, 12], sat_to [0, 0, 0, 0] 0 rfl hs⟩
                      · refine cw_cond_f rfl rfl h83 ?_
                        refine cw_exit ?_
                        refine ew_then_exit ?_
                        refine ew_then_exit ?_
                        refine ew_blk_exit ?_
                        have hR := Option.some.inj hF
                        subst hR
                        have hR := hK81
                        try dsimp only [Thru] at hR
                        subst hR
                        have hR := hL79
                        try dsimp only at hR
                        exact fun a w hf hs => ⟨s44, s45, x46, hR, hf.keep [0, 1, 5, 7, 8, 9, 10], sat_to [0, 0, 0, 0] 0 rfl hs⟩
                    · refine ow_slots (L' := [(0, .slice r21_p1 r21.length r21_c2), (1, .slice p1 x1.length c1), (5, .pointer (some ⟨r23_b2, 0, none⟩)), (7, .string s44), (8, .string s45), (9, .bool x46), (10, .int .i64 x47), (11, .string r67), (12, .int .i64 x80), (68, .bool false)]) (by rw [h82]) ?_
                      refine ow_vals 3 (j := 7) [0, 1, 5, 7, 8, 9, 10, 11, 12, 71] [(0, .slice r21_p1 r21.length r21_c2), (1, .slice p1 x1.length c1), (5, .pointer (some ⟨r23_b2, 0, none⟩)), (7, .string s44), (8, .string s45), (9, .bool x46), (10, .int .i64 x47), (11, .string r67), (12, .int .i64 x80), (71, .bool false)] rfl (by kernel_rfl) ?_
                      refine ow_end rfl ?_
                      refine ew_then ?_
                      refine cw_cond_f rfl rfl rfl ?_
                      refine cw_exit ?_
                      refine ew_then_exit ?_
                      refine ew_then_exit ?_
                      refine ew_blk_exit ?_
                      have hR := Option.some.inj hF
                      subst hR
                      have hR := hK81
                      try dsimp only [Thru] at hR
                      subst hR
                      have hR := hL79
                      try dsimp only at hR
                      exact fun a w hf hs => ⟨s44, s45, x46, hR, hf.keep [0, 1, 5, 7, 8, 9, 10], sat_to [0, 0, 0, 0] 0 rfl hs⟩
                  · rintro a w ⟨hv, hf, hs⟩
                    subst hv
                    replace hF := hK81
                    clear hK81
                    try dsimp only [Thru] at hF
                    revert a w
                    show CW _ _ _ 130 [(0, .slice r21_p1 r21.length r21_c2), (1, .slice p1 x1.length c1), (5, .pointer (some ⟨r23_b2, 0, none⟩)), (7, .string s44), (8, .string s45), (9, .bool x46), (10, .int .i64 x47), (11, .string r67), (12, .int .i64 x80)] (SAT w0 ([imm I, pt r23_b2 #[.map (some r73_b1), .map (some r73_b3), .string r73.2.twins_.e0, .string r73.2.twins_.e1, .bool r73.2.found_, .bool r73.2.full_, .int .i64 r73.2.sums_] 50, mpo kStr kStr r73_b1 r73.2.table_, mpo kStr kStr r73_b3 r73.2.notes_] ++ F0))
                    unfold F.law03_MillSums.r5 at hF
                    refine cw_seq ?_
                    refine cw_block ?_
                    refine cw_seq ?_
                    refine cw_region ?_
                    refine ow_vals 3 (j := 3) [0, 1, 5, 7, 8, 9, 10, 11, 12, 74, 75, 76] [(0, .slice r21_p1 r21.length r21_c2), (1, .slice p1 x1.length c1), (5, .pointer (some ⟨r23_b2, 0, none⟩)), (7, .string s44), (8, .string s45), (9, .bool x46), (10, .int .i64 x47), (11, .string r67), (12, .int .i64 x80), (74, .slice r21_p1 r21.length r21_c2), (75, .slice p1 x1.length c1), (76, .int .i64 x80)] rfl (by kernel_rfl) ?_
                    obtain ⟨y84, h85, hF⟩ := bind_some hF
                    refine ow_pw rfl (pw_index_ro (E := 9) 1 hr1 rfl rfl rfl rfl rfl (by kernel_rfl) rfl rfl rfl h85 fun q86 h87 => nw_ow ?_)
                    refine ow_pw rfl (pw_quiet (v := .string y84) rfl rfl rfl rfl (q_load_el0 0 rfl h87 rfl rfl (by kernel_rfl)) (nw_ow ?_))
                    obtain ⟨r88, h89, hF⟩ := bind_some hF
                    refine ow_pw rfl (pw_call (F := [pt r23_b2 #[.map (some r73_b1), .map (some r73_b3), .string r73.2.twins_.e0, .string r73.2.twins_.e1, .bool r73.2.found_, .bool r73.2.full_, .int .i64 r73.2.sums_] 50, mpo kStr kStr r73_b1 r73.2.table_, mpo kStr kStr r73_b3 r73.2.notes_] ++ F0) rfl rfl rfl rfl rfl rfl rfl (by kernel_rfl) (perm_of_pulls [0] rfl) (c_law03_sum _ r21 y84 r21_p1 r21_c2 r88 h89 r21_h3) ?_)
                    rintro _ _ ⟨rfl, rfl⟩
                    refine nw_H (H' := [imm I, pt r23_b2 #[.map (some r73_b1), .map (some r73_b3), .string r73.2.twins_.e0, .string r73.2.twins_.e1, .bool r73.2.found_, .bool r73.2.full_, .int .i64 r73.2.sums_] 50, mpo kStr kStr r73_b1 r73.2.table_, mpo kStr kStr r73_b3 r73.2.notes_] ++ F0) rfl (nw_ow ?_)
                    refine ow_vals 2 (j := 8) [0, 1, 5, 7, 8, 9, 10, 11, 12, 81] [(0, .slice r21_p1 r21.length r21_c2), (1, .slice p1 x1.length c1), (5, .pointer (some ⟨r23_b2, 0, none⟩)), (7, .string s44), (8, .string s45), (9, .bool x46), (10, .int .i64 x47), (11, .string r67), (12, .int .i64 x80), (81, .bool (seqB r88 r67))] rfl (by kernel_rfl) ?_
                    refine ow_end rfl ?_
                    refine ew_then ?_
                    rcases if_some hF with ⟨h90, hF⟩ | ⟨h90, hF⟩
                    · refine cw_cond_t rfl rfl h90 ?_
                      refine cw_seq ?_
                      refine cw_seq ?_
                      refine cw_open 9 (SAT w0 ([imm I, pt r23_b2 #[.map (some r73_b1), .map (some r73_b3), .string r73.2.twins_.e0, .string r73.2.twins_.e1, .bool r73.2.found_, .bool r73.2.full_, .int .i64 r73.2.sums_] 50, mpo kStr kStr r73_b1 r73.2.table_, mpo kStr kStr r73_b3 r73.2.notes_])) (by kernel_rfl) (f := 9) rfl (fun w hs => sat_drew hs) ?_
                      refine aw_vals [0, 1, 4, 5] (f' := 5) (m' := 51) [0, 1, 5, 7, 8, 9, 10, 12, 82, 83, 86, 87] [(0, .slice r21_p1 r21.length r21_c2), (1, .slice p1 x1.length c1), (5, .pointer (some ⟨r23_b2, 0, none⟩)), (7, .string s44), (8, .string s45), (9, .bool x46), (10, .int .i64 x47), (12, .int .i64 x80), (82, .slice p1 x1.length c1), (83, .int .i64 x80), (86, .slice p1 x1.length c1), (87, .int .i64 x47)] (fun _ _ _ _ _ h => calm_fin (P := Try.prog) (fn := Try.f6) _ _ _ _ _ h) (fun w hs => sat_pulls [0, 0, 0, 0] (G := [] ++ F0) rfl hs) rfl (by kernel_rfl) ?_
                      obtain ⟨y91, h92, hF⟩ := bind_some hF
                      refine aw_index_ro (E := 9) 2 (m' := 55) 1 hr1 rfl rfl rfl rfl rfl (by kernel_rfl) (by kernel_rfl) (fun _ _ _ _ _ h => calm_fin (P := Try.prog) (fn := Try.f6) _ _ _ _ _ h) (fun w hs => sat_pulls [0, 0, 0, 0] (G := [] ++ F0) rfl hs) (by kernel_rfl) rfl rfl rfl h92 fun q93 h94 => ?_
                      refine aw_quiet 3 (m' := 63) (v := .string y91) 0 [] rfl rfl rfl rfl (by kernel_rfl) (by kernel_rfl) (by kernel_rfl) (fun _ _ _ _ _ h => calm_fin (P := Try.prog) (fn := Try.f6) _ _ _ _ _ h) (fun w hs => sat_pulls [0, 0, 0, 0] (G := [] ++ F0) rfl hs) (q_load_el0 0 rfl h94 rfl rfl (by kernel_rfl)) ?_
                      obtain ⟨y95, h96, hF⟩ := bind_some hF
                      refine aw_index_ro (E := 9) 6 (m' := 127) 1 hr1 rfl rfl rfl rfl rfl (by kernel_rfl) (by kernel_rfl) (fun _ _ _ _ _ h => calm_fin (P := Try.prog) (fn := Try.f6) _ _ _ _ _ h) (fun w hs => sat_pulls [0, 0, 0, 0] (G := [] ++ F0) rfl hs) (by kernel_rfl) rfl rfl rfl h96 fun q97 h98 => ?_
                      refine aw_quiet 7 (m' := 255) (v := .string y95) 0 [] rfl rfl rfl rfl (by kernel_rfl) (by kernel_rfl) (by kernel_rfl) (fun _ _ _ _ _ h => calm_fin (P := Try.prog) (fn := Try.f6) _ _ _ _ _ h) (fun w hs => sat_pulls [0, 0, 0, 0] (G := [] ++ F0) rfl hs) (q_load_el0 0 rfl h98 rfl rfl (by kernel_rfl)) ?_
                      refine aw_vals [8] (f' := 0) (m' := 511) [0, 1, 5, 7, 8, 9, 10, 12, 90] [(0, .slice r21_p1 r21.length r21_c2), (1, .slice p1 x1.length c1), (5, .pointer (some ⟨r23_b2, 0, none⟩)), (7, .string s44), (8, .string s45), (9, .bool x46), (10, .int .i64 x47), (12, .int .i64 x80), (90, .bool (!(seqB y91 y95)))] (fun _ _ _ _ _ h => calm_fin (P := Try.prog) (fn := Try.f6) _ _ _ _ _ h) (fun w hs => sat_pulls [0, 0, 0, 0] (G := [] ++ F0) rfl hs) rfl (by kernel_rfl) ?_
                      refine aw_keep [0, 1, 5, 7, 8, 9, 10, 12, 90] (L' := [(0, .slice r21_p1 r21.length r21_c2), (1, .slice p1 x1.length c1), (5, .pointer (some ⟨r23_b2, 0, none⟩)), (7, .string s44), (8, .string s45), (9, .bool x46), (10, .int .i64 x47), (12, .int .i64 x80), (90, .bool (!(seqB y91 y95)))]) rfl ?_
                      refine aw_end (by kernel_rfl) ?_
                      refine ew_then ?_
                      rcases if_some hF with ⟨h99, hF⟩ | ⟨h99, hF⟩
                      · refine cw_cond_t rfl rfl h99 ?_
                        refine cw_open 11 (SAT w0 ([imm I, pt r23_b2 #[.map (some r73_b1), .map (some r73_b3), .string r73.2.twins_.e0, .string r73.2.twins_.e1, .bool r73.2.found_, .bool r73.2.full_, .int .i64 r73.2.sums_] 50, mpo kStr kStr r73_b1 r73.2.table_, mpo kStr kStr r73_b3 r73.2.notes_])) (by kernel_rfl) (f := 11) rfl (fun w hs => sat_drew hs) ?_
                        refine aw_vals [0, 1, 4, 5] (f' := 7) (m' := 51) [0, 1, 5, 7, 8, 9, 10, 91, 92, 95, 96] [(0, .slice r21_p1 r21.length r21_c2), (1, .slice p1 x1.length c1), (5, .pointer (some ⟨r23_b2, 0, none⟩)), (7, .string s44), (8, .string s45), (9, .bool x46), (10, .int .i64 x47), (91, .slice p1 x1.length c1), (92, .int .i64 x80), (95, .slice p1 x1.length c1), (96, .int .i64 x47)] (fun _ _ _ _ _ h => calm_fin (P := Try.prog) (fn := Try.f6) _ _ _ _ _ h) (fun w hs => sat_pulls [0, 0, 0, 0] (G := [] ++ F0) rfl hs) rfl (by kernel_rfl) ?_
                        obtain ⟨y100, h101, hF⟩ := bind_some hF
                        refine aw_index_ro (E := 9) 2 (m' := 55) 1 hr1 rfl rfl rfl rfl rfl (by kernel_rfl) (by kernel_rfl) (fun _ _ _ _ _ h => calm_fin (P := Try.prog) (fn := Try.f6) _ _ _ _ _ h) (fun w hs => sat_pulls [0, 0, 0, 0] (G := [] ++ F0) rfl hs) (by kernel_rfl) rfl rfl rfl h101 fun q102 h103 => ?_
                        refine aw_quiet 3 (m' := 63) (v := .string y100) 0 [] rfl rfl rfl rfl (by kernel_rfl) (by kernel_rfl) (by kernel_rfl) (fun _ _ _ _ _ h => calm_fin (P := Try.prog) (fn := Try.f6) _ _ _ _ _ h) (fun w hs => sat_pulls [0, 0, 0, 0] (G := [] ++ F0) rfl hs) (q_load_el0 0 rfl h103 rfl rfl (by kernel_rfl)) ?_
                        refine aw_vals [8] (f' := 4) (m' := 319) [0, 1, 5, 7, 8, 9, 10, 95, 96] [(0, .slice r21_p1 r21.length r21_c2), (1, .slice p1 x1.length c1), (5, .pointer (some ⟨r23_b2, 0, none⟩)), (7, .string y100), (8, .string s45), (9, .bool x46), (10, .int .i64 x47), (95, .slice p1 x1.length c1), (96, .int .i64 x47)] (fun _ _ _ _ _ h => calm_fin (P := Try.prog) (fn := Try.f6) _ _ _ _ _ h) (fun w hs => sat_pulls [0, 0, 0, 0] (G := [] ++ F0) rfl hs) rfl (by kernel_rfl) ?_
                        obtain ⟨y104, h105, hF⟩ := bind_some hF
                        refine aw_index_ro (E := 9) 6 (m' := 383) 1 hr1 rfl rfl rfl rfl rfl (by kernel_rfl) (by kernel_rfl) (fun _ _ _ _ _ h => calm_fin (P := Try.prog) (fn := Try.f6) _ _ _ _ _ h) (fun w hs => sat_pulls [0, 0, 0, 0] (G := [] ++ F0) rfl hs) (by kernel_rfl) rfl rfl rfl h105 fun q106 h107 => ?_
                        refine aw_quiet 7 (m' := 511) (v := .string y104) 0 [] rfl rfl rfl rfl (by kernel_rfl) (by kernel_rfl) (by kernel_rfl) (fun _ _ _ _ _ h => calm_fin (P := Try.prog) (fn := Try.f6) _ _ _ _ _ h) (fun w hs => sat_pulls [0, 0, 0, 0] (G := [] ++ F0) rfl hs) (q_load_el0 0 rfl h107 rfl rfl (by kernel_rfl)) ?_
                        refine aw_vals [9, 10] (f' := 0) (m' := 2047) [0, 1, 5, 7, 8, 9, 10] [(0, .slice r21_p1 r21.length r21_c2), (1, .slice p1 x1.length c1), (5, .pointer (some ⟨r23_b2, 0, none⟩)), (7, .string y100), (8, .string y104), (9, .bool true), (10, .int .i64 x47)] (fun _ _ _ _ _ h => calm_fin (P := Try.prog) (fn := Try.f6) _ _ _ _ _ h) (fun w hs => sat_pulls [0, 0, 0, 0] (G := [] ++ F0) rfl hs) rfl (by kernel_rfl) ?_
                        refine aw_keep [0, 1, 5, 7, 8, 9, 10] (L' := [(0, .slice r21_p1 r21.length r21_c2), (1, .slice p1 x1.length c1), (5, .pointer (some ⟨r23_b2, 0, none⟩)), (7, .string y100), (8, .string y104), (9, .bool true), (10, .int .i64 x47)]) rfl ?_
                        refine aw_end (by kernel_rfl) ?_
                        refine ew_then ?_
                        refine cw_exit ?_
                        refine ew_blk_other (by decide) ?_
                        refine ew_then_exit ?_
                        refine ew_then_exit ?_
                        refine ew_blk_exit ?_
                        have hR := Option.some.inj hF
                        subst hR
                        have hR := hL79
                        try dsimp only at hR
                        exact fun a w hf hs => ⟨y100, y104, true, hR, hf.keep [0, 1, 5, 7, 8, 9, 10], sat_to [0, 0, 0, 0] 0 rfl hs⟩
                      · refine cw_cond_f rfl rfl h99 ?_
                        refine cw_skip ?_
                        refine ew_then ?_
                        refine cw_exit ?_
                        refine ew_blk_other (by decide) ?_
                        refine ew_then_exit ?_
                        refine ew_then_exit ?_
                        refine ew_blk_exit ?_
                        have hR := Option.some.inj hF
                        subst hR
                        have hR := hL79
                        try dsimp only at hR
                        exact fun a w hf hs => ⟨s44, s45, x46, hR, hf.keep [0, 1, 5, 7, 8, 9, 10], sat_to [0, 0, 0, 0] 0 rfl hs⟩
                    · refine cw_cond_f rfl rfl h90 ?_
                      refine cw_skip ?_
                      refine ew_blk ?_
                      refine ew_then ?_
                      refine cw_region ?_
                      refine ow_vals 3 (j := 3) [0, 1, 5, 7, 8, 9, 10, 11, 12] [(0, .slice r21_p1 r21.length r21_c2), (1, .slice p1 x1.length c1), (5, .pointer (some ⟨r23_b2, 0, none⟩)), (7, .string s44), (8, .string s45), (9, .bool x46), (10, .int .i64 x47), (11, .string r67), (12, .int .i64 (IntKind.i64.wrap (x80 + 1)))] rfl (by kernel_rfl) ?_
                      refine ow_end rfl ?_
                      have hR := Option.some.inj hF
                      subst hR
                      have hR := hL79
                      try dsimp only at hR
                      exact fun a w hf hs => ⟨k, Nat.lt_succ_self k, IntKind.i64.wrap (x80 + 1), hR, hf.keep [0, 1, 5, 7, 8, 9, 10, 11, 12], sat_to [0, 0, 0, 0] 0 rfl hs⟩
                · rintro a w ⟨s108, s109, x110, hv, hf, hs⟩
                  subst hv
                  replace hF := hK78
                  clear hK78
                  try dsimp only at hF
                  revert a w
                  show CW _ _ _ 130 [(0, .slice r21_p1 r21.length r21_c2), (1, .slice p1 x1.length c1), (5, .pointer (some ⟨r23_b2, 0, none⟩)), (7, .string s108), (8, .string s109), (9, .bool x110), (10, .int .i64 x47)] (SAT w0 ([imm I, pt r23_b2 #[.map (some r73_b1), .map (some r73_b3), .string r73.2.twins_.e0, .string r73.2.twins_.e1, .bool r73.2.found_, .bool r73.2.full_, .int .i64 r73.2.sums_] 50, mpo kStr kStr r73_b1 r73.2.table_, mpo kStr kStr r73_b3 r73.2.notes_] ++ F0))
                  unfold F.law03_MillSums.r7 at hF
                  refine cw_seq ?_
                  refine cw_region ?_
                  refine ow_vals 1 (j := 1) [0, 1, 5, 7, 8, 9, 10, 100] [(0, .slice r21_p1 r21.length r21_c2), (1, .slice p1 x1.length c1), (5, .pointer (some ⟨r23_b2, 0, none⟩)), (7, .string s108), (8, .string s109), (9, .bool x110), (10, .int .i64 x47), (100, .pointer (some ⟨r23_b2, 0, none⟩))] rfl (by kernel_rfl) ?_
                  obtain ⟨r111, h112, hF⟩ := bind_some hF
                  refine ow_pw rfl (pw_call (F := [] ++ F0) rfl rfl rfl rfl rfl rfl rfl (by kernel_rfl) (perm_of_pulls [0, 0, 0, 0] rfl) (c_mill_Mill_Twins _ r73.2 r73_b1 r73_b3 r23_b2 r111 h112) ?_)
                  rintro _ _ ⟨rfl, rfl⟩
                  refine nw_H (H' := [imm I, pt r23_b2 #[.map (some r73_b1), .map (some r73_b3), .string r73.2.twins_.e0, .string r73.2.twins_.e1, .bool r73.2.found_, .bool r73.2.full_, .int .i64 r73.2.sums_] 50, mpo kStr kStr r73_b1 r73.2.table_, mpo kStr kStr r73_b3 r73.2.notes_] ++ F0) rfl (nw_ow ?_)
                  refine ow_vals 7 (j := 9) [0, 1, 5, 7, 8, 9, 10, 13, 14, 15] [(0, .slice r21_p1 r21.length r21_c2), (1, .slice p1 x1.length c1), (5, .pointer (some ⟨r23_b2, 0, none⟩)), (7, .string s108), (8, .string s109), (9, .bool x110), (10, .int .i64 x47), (13, .string r111.1), (14, .string r111.2.1), (15, .bool r111.2.2)] rfl (by kernel_rfl) ?_
                  refine ow_end rfl ?_
                  refine ew_then ?_
                  refine cw_seq ?_
                  refine cw_region ?_
                  refine ow_vals 4 (j := 4) [0, 1, 5, 7, 8, 9, 10, 14, 15, 108] [(0, .slice r21_p1 r21.length r21_c2), (1, .slice p1 x1.length c1), (5, .pointer (some ⟨r23_b2, 0, none⟩)), (7, .string s108), (8, .string s109), (9, .bool x110), (10, .int .i64 x47), (14, .string r111.2.1), (15, .bool r111.2.2), (108, .bool (!(seqB r111.1 s108)))] rfl (by kernel_rfl) ?_
                  rcases if_some hF with ⟨h113, hF⟩ | ⟨h113, hF⟩
                  · refine ow_slots (L' := [(0, .slice r21_p1 r21.length r21_c2), (1, .slice p1 x1.length c1), (5, .pointer (some ⟨r23_b2, 0, none⟩)), (7, .string s108), (8, .string s109), (9, .bool x110), (10, .int .i64 x47), (14, .string r111.2.1), (15, .bool r111.2.2), (108, .bool true)]) (by rw [h113]) ?_
                    refine ow_vals 20 (j := 24) [0, 1, 5, 7, 8, 9, 10, 128] [(0, .slice r21_p1 r21.length r21_c2), (1, .slice p1 x1.length c1), (5, .pointer (some ⟨r23_b2, 0, none⟩)), (7, .string s108), (8, .string s109), (9, .bool x110), (10, .int .i64 x47), (128, .bool true)] rfl (by kernel_rfl) ?_
                    refine ow_end rfl ?_
                    refine ew_then ?_
                    refine cw_cond_t rfl rfl rfl ?_
                    refine cw_seq ?_
                    refine cw_region ?_
                    refine ow_vals 1 (j := 1) [4] [(4, .bool false)] rfl (by kernel_rfl) ?_
                    refine ow_end rfl ?_
                    refine ew_then ?_
                    refine cw_ret ?_
                    refine ew_blk_ret ?_
                    refine ew_then_ret ?_
                    refine ew_then_ret ?_
                    refine ew_blk_ret ?_
                    refine ew_then_ret ?_
                    have hR := Option.some.inj hF
                    subst hR
                    have hR := hK62
                    try dsimp only [Thru] at hR
                    subst hR
                    have hR := hL43
                    try dsimp only at hR
                    subst hR
                    have hR := hK42
                    try dsimp only [Thru] at hR
                    subst hR
                    exact fin1 (H1 := [imm I]) (fun w hs => sat_to [1, 1, 1, 0] 3 rfl hs) rfl (rr_tmp rfl) ⟨rfl, rfl⟩
                  · refine ow_slots (L' := [(0, .slice r21_p1 r21.length r21_c2), (1, .slice p1 x1.length c1), (5, .pointer (some ⟨r23_b2, 0, none⟩)), (7, .string s108), (8, .string s109), (9, .bool x110), (10, .int .i64 x47), (14, .string r111.2.1), (15, .bool r111.2.2), (108, .bool false)]) (by rw [h113]) ?_
                    refine ow_vals 5 (j := 9) [0, 1, 5, 7, 8, 9, 10, 15, 113] [(0, .slice r21_p1 r21.length r21_c2), (1, .slice p1 x1.length c1), (5, .pointer (some ⟨r23_b2, 0, none⟩)), (7, .string s108), (8, .string s109), (9, .bool x110), (10, .int .i64 x47), (15, .bool r111.2.2), (113, .bool (!(seqB r111.2.1 s109)))] rfl (by kernel_rfl) ?_
                    rcases if_some hF with ⟨h114, hF⟩ | ⟨h114, hF⟩
                    · refine ow_slots (L' := [(0, .slice r21_p1 r21.length r21_c2), (1, .slice p1 x1.length c1), (5, .pointer (some ⟨r23_b2, 0, none⟩)), (7, .string s108), (8, .string s109), (9, .bool x110), (10, .int .i64 x47), (15, .bool r111.2.2), (113, .bool true)]) (by rw [h114]) ?_
                      refine ow_vals 15 (j := 24) [0, 1, 5, 7, 8, 9, 10, 128] [(0, .slice r21_p1 r21.length r21_c2), (1, .slice p1 x1.length c1), (5, .pointer (some ⟨r23_b2, 0, none⟩)), (7, .string s108), (8, .string s109), (9, .bool x110), (10, .int .i64 x47), (128, .bool true)] rfl (by kernel_rfl) ?_
                      refine ow_end rfl ?_
                      refine ew_then ?_
                      refine cw_cond_t rfl rfl rfl ?_
                      refine cw_seq ?_
                      refine cw_region ?_
                      refine ow_vals 1 (j := 1) [4] [(4, .bool false)] rfl (by kernel_rfl) ?_
                      refine ow_end rfl ?_
                      refine ew_then ?_
                      refine cw_ret ?_
                      refine ew_blk_ret ?_
                      refine ew_then_ret ?_
                      refine ew_then_ret ?_
                      refine ew_blk_ret ?_
                      refine ew_then_ret ?_
                      have hR := Option.some.inj hF
                      subst hR
                      have hR := hK62
                      try dsimp only [Thru] at hR
                      subst hR
                      have hR := hL43
                      try dsimp only at hR
                      subst hR
                      have hR := hK42
                      try dsimp only [Thru] at hR
                      subst hR
                      exact fin1 (H1 := [imm I]) (fun w hs => sat_to [1, 1, 1, 0] 3 rfl hs) rfl (rr_tmp rfl) ⟨rfl, rfl⟩
                    · refine ow_slots (L' := [(0, .slice r21_p1 r21.length r21_c2), (1, .slice p1 x1.length c1), (5, .pointer (some ⟨r23_b2, 0, none⟩)), (7, .string s108), (8, .string s109), (9, .bool x110), (10, .int .i64 x47), (15, .bool r111.2.2), (113, .bool false)]) (by rw [h114]) ?_
                      refine ow_vals 5 (j := 14) [0, 1, 5, 7, 8, 9, 10, 118] [(0, .slice r21_p1 r21.length r21_c2), (1, .slice p1 x1.length c1), (5, .pointer (some ⟨r23_b2, 0, none⟩)), (7, .string s108), (8, .string s109), (9, .bool x110), (10, .int .i64 x47), (118, .bool (!(r111.2.2 == x110)))] rfl (by kernel_rfl) ?_
                      rcases if_some hF with ⟨h115, hF⟩ | ⟨h115, hF⟩
                      · refine ow_slots (L' := [(0, .slice r21_p1 r21.length r21_c2), (1, .slice p1 x1.length c1), (5, .pointer (some ⟨r23_b2, 0, none⟩)), (7, .string s108), (8, .string s109), (9, .bool x110), (10, .int .i64 x47), (118, .bool true)]) (by rw [h115]) ?_
                        refine ow_vals 10 (j := 24) [0, 1, 5, 7, 8, 9, 10, 128] [(0, .slice r21_p1 r21.length r21_c2), (1, .slice p1 x1.length c1), (5, .pointer (some ⟨r23_b2, 0, none⟩)), (7, .string s108), (8, .string s109), (9, .bool x110), (10, .int .i64 x47), (128, .bool true)] rfl (by kernel_rfl) ?_
                        refine ow_end rfl ?_
                        refine ew_then ?_
                        refine cw_cond_t rfl rfl rfl ?_
                        refine cw_seq ?_
                        refine cw_region ?_
                        refine ow_vals 1 (j := 1) [4] [(4, .bool false)] rfl (by kernel_rfl) ?_
                        refine ow_end rfl ?_
                        refine ew_then ?_
                        refine cw_ret ?_
                        refine ew_blk_ret ?_
                        refine ew_then_ret ?_
                        refine ew_then_ret ?_
                        refine ew_blk_ret ?_
                        refine ew_then_ret ?_
                        have hR := Option.some.inj hF
                        subst hR
                        have hR := hK62
                        try dsimp only [Thru] at hR
                        subst hR
                        have hR := hL43
                        try dsimp only at hR
                        subst hR
                        have hR := hK42
                        try dsimp only [Thru] at hR
                        subst hR
                        exact fin1 (H1 := [imm I]) (fun w hs => sat_to [1, 1, 1, 0] 3 rfl hs) rfl (rr_tmp rfl) ⟨rfl, rfl⟩
                      · refine ow_slots (L' := [(0, .slice r21_p1 r21.length r21_c2), (1, .slice p1 x1.length c1), (5, .pointer (some ⟨r23_b2, 0, none⟩)), (7, .string s108), (8, .string s109), (9, .bool x110), (10, .int .i64 x47), (118, .bool false)]) (by rw [h115]) ?_
                        refine ow_vals 1 (j := 15) [0, 1, 5, 7, 8, 9, 10, 118, 119] [(0, .slice r21_p1 r21.length r21_c2), (1, .slice p1 x1.length c1), (5, .pointer (some ⟨r23_b2, 0, none⟩)), (7, .string s108), (8, .string s109), (9, .bool x110), (10, .int .i64 x47), (118, .bool false), (119, .pointer (some ⟨r23_b2, 0, none⟩))] rfl (by kernel_rfl) ?_
                        obtain ⟨r116, h117, hF⟩ := bind_some hF
                        refine ow_pw rfl (pw_call (F := [] ++ F0) rfl rfl rfl rfl rfl rfl rfl (by kernel_rfl) (perm_of_pulls [0, 0, 0, 0] rfl) (c_mill_Mill_Sums _ r73.2 r73_b1 r73_b3 r23_b2 r116 h117) ?_)
                        rintro _ _ ⟨rfl, rfl⟩
                        refine nw_H (H' := [imm I, pt r23_b2 #[.map (some r73_b1), .map (some r73_b3), .string r73.2.twins_.e0, .string r73.2.twins_.e1, .bool r73.2.found_, .bool r73.2.full_, .int .i64 r73.2.sums_] 50, mpo kStr kStr r73_b1 r73.2.table_, mpo kStr kStr r73_b3 r73.2.notes_] ++ F0) rfl (nw_ow ?_)
                        refine ow_vals 5 (j := 21) [0, 1, 5, 7, 8, 9, 10, 125] [(0, .slice r21_p1 r21.length r21_c2), (1, .slice p1 x1.length c1), (5, .pointer (some ⟨r23_b2, 0, none⟩)), (7, .string s108), (8, .string s109), (9, .bool x110), (10, .int .i64 x47), (125, .bool (r116 != (IntKind.i64.wrap (x47 + 1))))] rfl (by kernel_rfl) ?_
                        rcases if_some hF with ⟨h118, hF⟩ | ⟨h118, hF⟩
                        · refine ow_slots (L' := [(0, .slice r21_p1 r21.length r21_c2), (1, .slice p1 x1.length c1), (5, .pointer (some ⟨r23_b2, 0, none⟩)), (7, .string s108), (8, .string s109), (9, .bool x110), (10, .int .i64 x47), (125, .bool true)]) (by rw [h118]) ?_
                          refine ow_vals 3 (j := 24) [0, 1, 5, 7, 8, 9, 10, 128] [(0, .slice r21_p1 r21.length r21_c2), (1, .slice p1 x1.length c1), (5, .pointer (some ⟨r23_b2, 0, none⟩)), (7, .string s108), (8, .string s109), (9, .bool x110), (10, .int .i64 x47), (128, .bool true)] rfl (by kernel_rfl) ?_
                          refine ow_end rfl ?_
                          refine ew_then ?_
                          refine cw_cond_t rfl rfl rfl ?_
                          refine cw_seq ?_
                          refine cw_region ?_
                          refine ow_vals 1 (j := 1) [4] [(4, .bool false)] rfl (by kernel_rfl) ?_
                          refine ow_end rfl ?_
                          refine ew_then ?_
                          refine cw_ret ?_
                          refine ew_blk_ret ?_
                          refine ew_then_ret ?_
                          refine ew_then_ret ?_
                          refine ew_blk_ret ?_
                          refine ew_then_ret ?_
                          have hR := Option.some.inj hF
                          subst hR
                          have hR := hK62
                          try dsimp only [Thru] at hR
                          subst hR
                          have hR := hL43
                          try dsimp only at hR
                          subst hR
                          have hR := hK42
                          try dsimp only [Thru] at hR
                          subst hR
                          exact fin1 (H1 := [imm I]) (fun w hs => sat_to [1, 1, 1, 0] 3 rfl hs) rfl (rr_tmp rfl) ⟨rfl, rfl⟩
                        · refine ow_slots (L' := [(0, .slice r21_p1 r21.length r21_c2), (1, .slice p1 x1.length c1), (5, .pointer (some ⟨r23_b2, 0, none⟩)), (7, .string s108), (8, .string s109), (9, .bool x110), (10, .int .i64 x47), (125, .bool false)]) (by rw [h118]) ?_
                          refine ow_vals 1 (j := 22) [0, 1, 5, 7, 8, 9, 10, 125, 126] [(0, .slice r21_p1 r21.length r21_c2), (1, .slice p1 x1.length c1), (5, .pointer (some ⟨r23_b2, 0, none⟩)), (7, .string s108), (8, .string s109), (9, .bool x110), (10, .int .i64 x47), (125, .bool false), (126, .pointer (some ⟨r23_b2, 0, none⟩))] rfl (by kernel_rfl) ?_
                          obtain ⟨r119, h120, hF⟩ := bind_some hF
                          refine ow_pw rfl (pw_call (F := [] ++ F0) rfl rfl rfl rfl rfl rfl rfl (by kernel_rfl) (perm_of_pulls [0, 0, 0, 0] rfl) (c_mill_Mill_Full _ r73.2 r73_b1 r73_b3 r23_b2 r119 h120) ?_)
                          rintro _ _ ⟨rfl, rfl⟩
                          refine nw_H (H' := [imm I, pt r23_b2 #[.map (some r73_b1), .map (some r73_b3), .string r73.2.twins_.e0, .string r73.2.twins_.e1, .bool r73.2.found_, .bool r73.2.full_, .int .i64 r73.2.sums_] 50, mpo kStr kStr r73_b1 r73.2.table_, mpo kStr kStr r73_b3 r73.2.notes_] ++ F0) rfl (nw_ow ?_)
                          refine ow_vals 1 (j := 24) [0, 1, 5, 7, 8, 9, 10, 128] [(0, .slice r21_p1 r21.length r21_c2), (1, .slice p1 x1.length c1), (5, .pointer (some ⟨r23_b2, 0, none⟩)), (7, .string s108), (8, .string s109), (9, .bool x110), (10, .int .i64 x47), (128, .bool r119)] rfl (by kernel_rfl) ?_
                          refine ow_end rfl ?_
                          refine ew_then ?_
                          rcases if_some hF with ⟨h121, hF⟩ | ⟨h121, hF⟩
                          · refine cw_cond_t rfl rfl h121 ?_
                            refine cw_seq ?_
                            refine cw_region ?_
                            refine ow_vals 1 (j := 1) [4] [(4, .bool false)] rfl (by kernel_rfl) ?_
                            refine ow_end rfl ?_
                            refine ew_then ?_
                            refine cw_ret ?_
                            refine ew_blk_ret ?_
                            refine ew_then_ret ?_
                            refine ew_then_ret ?_
                            refine ew_blk_ret ?_
                            refine ew_then_ret ?_
                            have hR := Option.some.inj hF
                            subst hR
                            have hR := hK62
                            try dsimp only [Thru] at hR
                            subst hR
                            have hR := hL43
                            try dsimp only at hR
                            subst hR
                            have hR := hK42
                            try dsimp only [Thru] at hR
                            subst hR
                            exact fin1 (H1 := [imm I]) (fun w hs => sat_to [1, 1, 1, 0] 3 rfl hs) rfl (rr_tmp rfl) ⟨rfl, rfl⟩
                          · refine cw_cond_f rfl rfl h121 ?_
                            refine cw_skip ?_
                            refine ew_blk ?_
                            have hR := Option.some.inj hF
                            exact fun a w hf hs => ⟨s108, s109, x110, r73.2.table_, r73.2.notes_, r73.2.twins_.e0, r73.2.twins_.e1, r73.2.found_, r73.2.full_, r73.2.sums_, r73_b1, r73_b3, hR, hf.keep [0, 1, 5, 7, 8, 9, 10], sat_to [0, 0, 0, 0] 0 rfl hs⟩
            · rintro a w ⟨s122, s123, x124, l125, l128, s131, s132, x133, x134, x135, b127, b130, hv, hf, hs⟩
              subst hv
              replace hF := hK62
              clear hK62
              try dsimp only [Thru] at hF
              revert a w
              show CW _ _ _ 130 [(0, .slice r21_p1 r21.length r21_c2), (1, .slice p1 x1.length c1), (5, .pointer (some ⟨r23_b2, 0, none⟩)), (7, .string s122), (8, .string s123), (9, .bool x124), (10, .int .i64 x47)] (SAT w0 ([imm I, pt r23_b2 #[.map (some b127), .map (some b130), .string s131, .string s132, .bool x133, .bool x134, .int .i64 x135] 50, mpo kStr kStr b127 l125, mpo kStr kStr b130 l128] ++ F0))
              unfold F.law03_MillSums.r8 at hF
              refine cw_region ?_
              refine ow_vals 3 (j := 3) [0, 1, 5, 7, 8, 9, 10] [(0, .slice r21_p1 r21.length r21_c2), (1, .slice p1 x1.length c1), (5, .pointer (some ⟨r23_b2, 0, none⟩)), (7, .string s122), (8, .string s123), (9, .bool x124), (10, .int .i64 (IntKind.i64.wrap (x47 + 1)))] rfl (by kernel_rfl) ?_
              refine ow_end rfl ?_
              have hR := Option.some.inj hF
              subst hR
              have hR := hL43
              try dsimp only at hR
              exact fun a w hf hs => ⟨k, Nat.lt_succ_self k, s122, s123, x124, IntKind.i64.wrap (x47 + 1), l125, l128, s131, s132, x133, x134, x135, b127, b130, hR, hf.keep [0, 1, 5, 7, 8, 9, 10], sat_to [0, 0, 0, 0] 0 rfl hs⟩
        · rintro a w ⟨l136, l139, s142, s143, x144, x145, x146, b138, b141, hv, hf, hs⟩
          subst hv
          replace hF := hK42
          clear hK42
          try dsimp only [Thru] at hF
          revert a w
          show CW _ _ _ 130 [] (SAT w0 ([imm I, pt r23_b2 #[.map (some b138), .map (some b141), .string s142, .string s143, .bool x144, .bool x145, .int .i64 x146] 50, mpo kStr kStr b138 l136, mpo kStr kStr b141 l139] ++ F0))
          unfold F.law03_MillSums.r10 at hF
          refine cw_seq ?_
          refine cw_region ?_
          obtain ⟨r147, h148, hF⟩ := bind_some hF
          refine ow_pw rfl (pw_call (F := [pt r23_b2 #[.map (some b138), .map (some b141), .string s142, .string s143, .bool x144, .bool x145, .int .i64 x146] 50, mpo kStr kStr b138 l136, mpo kStr kStr b141 l139] ++ F0) rfl rfl rfl rfl rfl rfl rfl (by kernel_rfl) (perm_of_pulls [0] rfl) (c_law03_awake _ r147 h148) ?_)
          rintro _ _ ⟨rfl, rfl⟩
          refine nw_H (H' := [imm I, pt r23_b2 #[.map (some b138), .map (some b141), .string s142, .string s143, .bool x144, .bool x145, .int .i64 x146] 50, mpo kStr kStr b138 l136, mpo kStr kStr b141 l139] ++ F0) rfl (nw_ow ?_)
          refine ow_vals 1 (j := 2) [4] [(4, .bool r147)] rfl (by kernel_rfl) ?_
          refine ow_end rfl ?_
          refine ew_then ?_
          refine cw_ret ?_
          have hR := Option.some.inj hF
          subst hR
          exact fin1 (H1 := [imm I]) (fun w hs => sat_to [1, 1, 1, 0] 3 rfl hs) rfl (rr_tmp rfl) ⟨rfl, rfl⟩

end Go.Proofs.Ytgkkgmnomiokbaa
