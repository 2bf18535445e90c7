/- What the functions compute, and that the code computes it: printed by a program of this claim (wip/tools), for the group Sectors. -/
import Derived.Test.YtgbloaophfaaoaaDoorGSectorsd
namespace Go.Proofs.YtgbloaophfaaoaaDoor
set_option linter.all false
open Go Go.RowKit Go.Fw
set_option linter.unusedVariables false

def F.law12_JournalSectors.r5 (x83 : Int) (s85 : ByteArray) (x86 : Int) (r94 : ByteArray × Int × Int) (x113 : Int) : Option ((Int × Int × ByteArray × Int) ⊕ ((Int × Int × Int × Int × Int × Int × (List ByteArray) × Int × Bool × Int × Int × (List disk_sector) × (List (Int × disk_sector)) × Bool × Bool × Int × Int × Int × Int × Int) ⊕ ((Int × Int × Int × (List disk_sector) × (List (Int × disk_sector)) × Bool × Bool × Int × Int × Int × Int × Int × Int × Int × Int × Int × Int × Int × (List ByteArray) × Int × Bool) ⊕ ((Int × (List disk_sector) × (List (Int × disk_sector)) × Bool × Bool × Int × Int × Int × Int × Int × Int × Int × Int × Int × Int × Int × (List ByteArray) × Int × Bool) ⊕ (Bool))))) :=
  chk (0 ≤ x113 ∧ x113 ≤ (s85.size : Int) ∧ (s85.size : Int) ≤ (s85.size : Int)) (some (.inl (IntKind.i64.wrap (x83 + 1), r94.2.1, s85.extract x113.toNat (s85.size : Int).toNat, IntKind.i64.wrap (x86 + 1))))
def F.law12_JournalSectors.r4 (x83 : Int) (s85 : ByteArray) (x86 : Int) (r94 : ByteArray × Int × Int) (s109 : ByteArray) (x113 : Int) : Option ((Int × Int × ByteArray × Int) ⊕ ((Int × Int × Int × Int × Int × Int × (List ByteArray) × Int × Bool × Int × Int × (List disk_sector) × (List (Int × disk_sector)) × Bool × Bool × Int × Int × Int × Int × Int) ⊕ ((Int × Int × Int × (List disk_sector) × (List (Int × disk_sector)) × Bool × Bool × Int × Int × Int × Int × Int × Int × Int × Int × Int × Int × Int × (List ByteArray) × Int × Bool) ⊕ ((Int × (List disk_sector) × (List (Int × disk_sector)) × Bool × Bool × Int × Int × Int × Int × Int × Int × Int × Int × Int × Int × Int × (List ByteArray) × Int × Bool) ⊕ (Bool))))) :=
  thru (if r94.2.2 != 0 then (some (.inr (.inr (.inr (.inr (.inr (false))))))) else (chk (0 ≤ (0 : Int) ∧ (0 : Int) ≤ x113 ∧ x113 ≤ (s85.size : Int)) (chk (s109.size + (s85.extract (0 : Int).toNat x113.toNat).size ≤ 9223372036854775807) (if !(seqB r94.1 (s109 ++ (s85.extract (0 : Int).toNat x113.toNat))) then (some (.inr (.inr (.inr (.inr (.inr (false))))))) else (some (.inl ())))))) (fun x => F.law12_JournalSectors.r5 x83 s85 x86 r94 x113)
def F.law12_JournalSectors.r3 (x83 : Int) (s85 : ByteArray) (x86 : Int) (r94 : ByteArray × Int × Int) (s109 : ByteArray) (x110 : Int) : Option ((Int × Int × ByteArray × Int) ⊕ ((Int × Int × Int × Int × Int × Int × (List ByteArray) × Int × Bool × Int × Int × (List disk_sector) × (List (Int × disk_sector)) × Bool × Bool × Int × Int × Int × Int × Int) ⊕ ((Int × Int × Int × (List disk_sector) × (List (Int × disk_sector)) × Bool × Bool × Int × Int × Int × Int × Int × Int × Int × Int × Int × Int × Int × (List ByteArray) × Int × Bool) ⊕ ((Int × (List disk_sector) × (List (Int × disk_sector)) × Bool × Bool × Int × Int × Int × Int × Int × Int × Int × Int × Int × Int × Int × (List ByteArray) × Int × Bool) ⊕ (Bool))))) :=
  Option.bind (if decide (x110 > (s85.size : Int)) then (some ((s85.size : Int))) else (some (x110))) (fun x => F.law12_JournalSectors.r4 x83 s85 x86 r94 s109 x)
def F.law12_JournalSectors.l6 (x0 : List ByteArray) (x37 : Int) (r72 : Int × journal_Journal × guard_Guard × disk_Disk) (x83 : Int) (x84 : Int) (s85 : ByteArray) (x86 : Int) : Option ((Int × Int × ByteArray × Int) ⊕ ((Int × Int × Int × Int × Int × Int × (List ByteArray) × Int × Bool × Int × Int × (List disk_sector) × (List (Int × disk_sector)) × Bool × Bool × Int × Int × Int × Int × Int) ⊕ ((Int × Int × Int × (List disk_sector) × (List (Int × disk_sector)) × Bool × Bool × Int × Int × Int × Int × Int × Int × Int × Int × Int × Int × Int × (List ByteArray) × Int × Bool) ⊕ ((Int × (List disk_sector) × (List (Int × disk_sector)) × Bool × Bool × Int × Int × Int × Int × Int × Int × Int × Int × Int × Int × Int × (List ByteArray) × Int × Bool) ⊕ (Bool))))) :=
  Option.bind (at_ x0 x37) (fun (y87 : ByteArray) => Option.bind (F.law12_need (y87.size : Int)) (fun (r91 : Int) => if decide (x86 < r91) then (Option.bind (F.guard_Read x83 r72.2.2.2) (fun (r94 : ByteArray × Int × Int) => Option.bind (F.guard_Eight x84) (fun (r96 : ByteArray) => chk ((ByteArray.mk #[2]).size + r96.size ≤ 9223372036854775807) (Option.bind (if x86 == 0 then (Option.bind (F.guard_Eight x84) (fun (r101 : ByteArray) => chk ((ByteArray.mk #[1]).size + r101.size ≤ 9223372036854775807) (chk (((ByteArray.mk #[1]) ++ r101).size + (bstr ([IntKind.u8.wrap (IntKind.i64.wrap ((s85.size : Int).tdiv 256)), IntKind.u8.wrap ((s85.size : Int))] : List Int)).size ≤ 9223372036854775807) (some ((((ByteArray.mk #[1]) ++ r101) ++ (bstr ([IntKind.u8.wrap (IntKind.i64.wrap ((s85.size : Int).tdiv 256)), IntKind.u8.wrap ((s85.size : Int))] : List Int)), 36)))))) else (some (((ByteArray.mk #[2]) ++ r96, 38)))) (fun x => F.law12_JournalSectors.r3 x83 s85 x86 r94 x.1 x.2))))) else (some (.inr (.inl (x83, x84, r72.2.1.base_, r72.2.1.size_, r72.2.1.next_, r72.2.1.last_, r72.2.1.list_, r72.2.1.sure_, r72.2.1.dead_, r72.2.2.1.boot_, r72.2.2.1.n_, r72.2.2.2.sure_, r72.2.2.2.wait_, r72.2.2.2.off_, r72.2.2.2.armed_, r72.2.2.2.left_, r72.2.2.2.fall_.Keep, r72.2.2.2.fall_.Tear, r72.2.2.2.acts_, r72.2.2.2.falls_))))))
def F.law12_JournalSectors.r7 (x37 : Int) (x120 : Int) (x121 : Int) (x122 : Int) (x123 : Int) (x124 : Int) (x125 : Int) (l126 : List ByteArray) (x130 : Int) (x131 : Bool) (x132 : Int) (x133 : Int) (l134 : List disk_sector) (l138 : List (Int × disk_sector)) (x141 : Bool) (x142 : Bool) (x143 : Int) (x144 : Int) (x145 : Int) (x146 : Int) (x147 : Int) : Option ((Int × Int × Int × (List disk_sector) × (List (Int × disk_sector)) × Bool × Bool × Int × Int × Int × Int × Int × Int × Int × Int × Int × Int × Int × (List ByteArray) × Int × Bool) ⊕ ((Int × (List disk_sector) × (List (Int × disk_sector)) × Bool × Bool × Int × Int × Int × Int × Int × Int × Int × Int × Int × Int × Int × (List ByteArray) × Int × Bool) ⊕ (Bool))) :=
  some (.inl (x120, x121, IntKind.i64.wrap (x37 + 1), l134, l138, x141, x142, x143, x144, x145, x146, x147, x132, x133, x122, x123, x124, x125, l126, x130, x131))
def F.law12_JournalSectors.r2 (x0 : List ByteArray) (x35 : Int) (x36 : Int) (x37 : Int) (l38 : List disk_sector) (l42 : List (Int × disk_sector)) (x45 : Bool) (x46 : Bool) (x47 : Int) (x48 : Int) (x49 : Int) (x50 : Int) (x51 : Int) (x52 : Int) (x53 : Int) (x54 : Int) (x55 : Int) (x56 : Int) (x57 : Int) (l58 : List ByteArray) (x62 : Int) (x63 : Bool) : Option ((Int × Int × Int × (List disk_sector) × (List (Int × disk_sector)) × Bool × Bool × Int × Int × Int × Int × Int × Int × Int × Int × Int × Int × Int × (List ByteArray) × Int × Bool) ⊕ ((Int × (List disk_sector) × (List (Int × disk_sector)) × Bool × Bool × Int × Int × Int × Int × Int × Int × Int × Int × Int × Int × Int × (List ByteArray) × Int × Bool) ⊕ (Bool))) :=
  thru (Option.bind (at_ x0 x37) (fun (y68 : ByteArray) => Option.bind (F.journal_Journal_Append y68 (⟨x54, x55, x56, x57, l58, x62, x63⟩ : journal_Journal) (⟨x52, x53⟩ : guard_Guard) (⟨l38, l42, x45, x46, x47, (⟨x48, x49⟩ : disk_Fall), x50, x51⟩ : disk_Disk)) (fun (r72 : Int × journal_Journal × guard_Guard × disk_Disk) => if r72.1 != 0 then (some (.inl (x35, x36, r72.2.1.base_, r72.2.1.size_, r72.2.1.next_, r72.2.1.last_, r72.2.1.list_, r72.2.1.sure_, r72.2.1.dead_, r72.2.2.1.boot_, r72.2.2.1.n_, r72.2.2.2.sure_, r72.2.2.2.wait_, r72.2.2.2.off_, r72.2.2.2.armed_, r72.2.2.2.left_, r72.2.2.2.fall_.Keep, r72.2.2.2.fall_.Tear, r72.2.2.2.acts_, r72.2.2.2.falls_))) else (Option.bind (at_ x0 x37) (fun (y78 : ByteArray) => iter (fun x => F.law12_JournalSectors.l6 x0 x37 r72 x.1 x.2.1 x.2.2.1 x.2.2.2) FUEL (x35, x36, y78, 0)))))) (fun x => F.law12_JournalSectors.r7 x37 x.1 x.2.1 x.2.2.1 x.2.2.2.1 x.2.2.2.2.1 x.2.2.2.2.2.1 x.2.2.2.2.2.2.1 x.2.2.2.2.2.2.2.1 x.2.2.2.2.2.2.2.2.1 x.2.2.2.2.2.2.2.2.2.1 x.2.2.2.2.2.2.2.2.2.2.1 x.2.2.2.2.2.2.2.2.2.2.2.1 x.2.2.2.2.2.2.2.2.2.2.2.2.1 x.2.2.2.2.2.2.2.2.2.2.2.2.2.1 x.2.2.2.2.2.2.2.2.2.2.2.2.2.2.1 x.2.2.2.2.2.2.2.2.2.2.2.2.2.2.2.1 x.2.2.2.2.2.2.2.2.2.2.2.2.2.2.2.2.1 x.2.2.2.2.2.2.2.2.2.2.2.2.2.2.2.2.2.1 x.2.2.2.2.2.2.2.2.2.2.2.2.2.2.2.2.2.2.1 x.2.2.2.2.2.2.2.2.2.2.2.2.2.2.2.2.2.2.2)
def F.law12_JournalSectors.l8 (x0 : List ByteArray) (x35 : Int) (x36 : Int) (x37 : Int) (l38 : List disk_sector) (l42 : List (Int × disk_sector)) (x45 : Bool) (x46 : Bool) (x47 : Int) (x48 : Int) (x49 : Int) (x50 : Int) (x51 : Int) (x52 : Int) (x53 : Int) (x54 : Int) (x55 : Int) (x56 : Int) (x57 : Int) (l58 : List ByteArray) (x62 : Int) (x63 : Bool) : Option ((Int × Int × Int × (List disk_sector) × (List (Int × disk_sector)) × Bool × Bool × Int × Int × Int × Int × Int × Int × Int × Int × Int × Int × Int × (List ByteArray) × Int × Bool) ⊕ ((Int × (List disk_sector) × (List (Int × disk_sector)) × Bool × Bool × Int × Int × Int × Int × Int × Int × Int × Int × Int × Int × Int × (List ByteArray) × Int × Bool) ⊕ (Bool))) :=
  thru (if decide (x37 < (x0.length : Int)) then (if decide (x37 < 6) then (some (.inl ())) else (some (.inr (.inr (.inl (x35, l38, l42, x45, x46, x47, x48, x49, x50, x51, x52, x53, x54, x55, x56, x57, l58, x62, x63)))))) else (some (.inr (.inr (.inl (x35, l38, l42, x45, x46, x47, x48, x49, x50, x51, x52, x53, x54, x55, x56, x57, l58, x62, x63)))))) (fun x => F.law12_JournalSectors.r2 x0 x35 x36 x37 l38 l42 x45 x46 x47 x48 x49 x50 x51 x52 x53 x54 x55 x56 x57 l58 x62 x63)
def F.law12_JournalSectors.r9 (x148 : Int) (l149 : List disk_sector) (l153 : List (Int × disk_sector)) (x156 : Bool) (x157 : Bool) (x158 : Int) (x159 : Int) (x160 : Int) (x161 : Int) (x162 : Int) (x163 : Int) (x164 : Int) (x165 : Int) (x166 : Int) (x167 : Int) (x168 : Int) (l169 : List ByteArray) (x173 : Int) (x174 : Bool) : Option (Bool) :=
  Option.bind (F.journal_Journal_Used (⟨x165, x166, x167, x168, l169, x173, x174⟩ : journal_Journal) (⟨x163, x164⟩ : guard_Guard) (⟨l149, l153, x156, x157, x158, (⟨x159, x160⟩ : disk_Fall), x161, x162⟩ : disk_Disk)) (fun (r175 : Int) => if r175 == (IntKind.i64.wrap (x148 - 3)) then (Option.bind (F.law12_awake) (fun (r178 : Bool) => some (r178))) else (some (false)))
def F.law12_JournalSectors.r1 (x0 : List ByteArray) (r21_s1 : disk_Disk) : Option (Bool) :=
  Option.bind (F.law12_open 1 r21_s1) (fun (r28 : (Option (journal_Journal × guard_Guard))) => optC r28 (some (false)) (fun (r28_s1 : (journal_Journal × guard_Guard)) => thru (iter (fun x => F.law12_JournalSectors.l8 x0 x.1 x.2.1 x.2.2.1 x.2.2.2.1 x.2.2.2.2.1 x.2.2.2.2.2.1 x.2.2.2.2.2.2.1 x.2.2.2.2.2.2.2.1 x.2.2.2.2.2.2.2.2.1 x.2.2.2.2.2.2.2.2.2.1 x.2.2.2.2.2.2.2.2.2.2.1 x.2.2.2.2.2.2.2.2.2.2.2.1 x.2.2.2.2.2.2.2.2.2.2.2.2.1 x.2.2.2.2.2.2.2.2.2.2.2.2.2.1 x.2.2.2.2.2.2.2.2.2.2.2.2.2.2.1 x.2.2.2.2.2.2.2.2.2.2.2.2.2.2.2.1 x.2.2.2.2.2.2.2.2.2.2.2.2.2.2.2.2.1 x.2.2.2.2.2.2.2.2.2.2.2.2.2.2.2.2.2.1 x.2.2.2.2.2.2.2.2.2.2.2.2.2.2.2.2.2.2.1 x.2.2.2.2.2.2.2.2.2.2.2.2.2.2.2.2.2.2.2.1 x.2.2.2.2.2.2.2.2.2.2.2.2.2.2.2.2.2.2.2.2) FUEL (3, 7, 0, r21_s1.sure_, r21_s1.wait_, r21_s1.off_, r21_s1.armed_, r21_s1.left_, r21_s1.fall_.Keep, r21_s1.fall_.Tear, r21_s1.acts_, r21_s1.falls_, r28_s1.2.boot_, r28_s1.2.n_, r28_s1.1.base_, r28_s1.1.size_, r28_s1.1.next_, r28_s1.1.last_, r28_s1.1.list_, r28_s1.1.sure_, r28_s1.1.dead_)) (fun x => F.law12_JournalSectors.r9 x.1 x.2.1 x.2.2.1 x.2.2.2.1 x.2.2.2.2.1 x.2.2.2.2.2.1 x.2.2.2.2.2.2.1 x.2.2.2.2.2.2.2.1 x.2.2.2.2.2.2.2.2.1 x.2.2.2.2.2.2.2.2.2.1 x.2.2.2.2.2.2.2.2.2.2.1 x.2.2.2.2.2.2.2.2.2.2.2.1 x.2.2.2.2.2.2.2.2.2.2.2.2.1 x.2.2.2.2.2.2.2.2.2.2.2.2.2.1 x.2.2.2.2.2.2.2.2.2.2.2.2.2.2.1 x.2.2.2.2.2.2.2.2.2.2.2.2.2.2.2.1 x.2.2.2.2.2.2.2.2.2.2.2.2.2.2.2.2.1 x.2.2.2.2.2.2.2.2.2.2.2.2.2.2.2.2.2.1 x.2.2.2.2.2.2.2.2.2.2.2.2.2.2.2.2.2.2)))
def F.law12_JournalSectors (x0 : List ByteArray) : Option Bool :=
  Option.bind (F.disk_New 64) (fun (r21 : (Option disk_Disk) × Int) => optC r21.1 (some (false)) (fun (r21_s1 : disk_Disk) => Option.bind (some (())) (fun x => F.law12_JournalSectors.r1 x0 r21_s1)))
set_option maxRecDepth 100000 in
set_option maxHeartbeats 4000000 in
theorem c_law12_JournalSectors (I : Hl) (x0 : List ByteArray) (p0 : Option Addr) (c0 : Nat) (res : Bool) (hF : F.law12_JournalSectors x0 = some res) (hr0 : ro I eStr p0 c0 x0) : Tr Tryd.prog 4 [.slice p0 x0.length c0] [imm I] (fun r H' => r = .bool res ∧ H' = [imm I]) := by
  unfold F.law12_JournalSectors at hF
  refine tr_of_cw (fn := Tryd.f4) Tryd.func4 rfl (Nat.le_of_ble_eq_true rfl) 117 rfl fun F0 w0 => ?_
  refine cw_keep [0] (L' := [(0, .slice p0 x0.length c0)]) rfl ?_
  refine cw_state (S' := SAT w0 ([imm I] ++ F0)) (fun w hs => hs) ?_
  refine cw_seq ?_
  refine cw_region ?_
  refine ow_vals 1 (j := 1) [0] [(0, .slice p0 x0.length c0)] rfl (by kernel_rfl) ?_
  refine ow_end rfl ?_
  refine ew_then ?_
  refine cw_seq ?_
  refine cw_region ?_
  obtain ⟨r21, h22, hF⟩ := bind_some hF
  refine ow_pw rfl (pw_call (F := [] ++ F0) rfl rfl rfl rfl rfl rfl rfl (by kernel_rfl) (perm_of_pulls [0] rfl) (c_disk_New _ 64 r21 h22) ?_)
  rintro _ _ (⟨hO, rfl, rfl⟩ | ⟨r21_s1, r21_b2, r21_p4, r21_c5, r21_b7, hO, rfl, rfl⟩)
  · rw [hO] at hF
    try dsimp only [optC] at hF
    refine nw_H (H' := [imm I] ++ F0) rfl (nw_ow ?_)
    refine ow_vals 5 (j := 6) [0, 3, 4] [(0, .slice p0 x0.length c0), (3, .pointer none), (4, .int .i64 1)] rfl (by kernel_rfl) ?_
    refine ow_end rfl ?_
    refine ew_then ?_
    refine cw_seq ?_
    refine cw_seq ?_
    refine cw_region ?_
    refine ow_vals 6 (j := 6) [0, 3, 25] [(0, .slice p0 x0.length c0), (3, .pointer none), (25, .bool true)] rfl (by kernel_rfl) ?_
    refine ow_end rfl ?_
    refine ew_then ?_
    refine cw_cond_t rfl rfl rfl ?_
    refine cw_seq ?_
    refine cw_region ?_
    refine ow_vals 1 (j := 1) [2] [(2, .bool false)] rfl (by kernel_rfl) ?_
    refine ow_end rfl ?_
    refine ew_then ?_
    refine cw_ret ?_
    refine ew_then_ret ?_
    have hR := Option.some.inj hF
    subst hR
    exact fin1 (H1 := [imm I]) (fun w hs => sat_to [0] 0 rfl hs) rfl (rr_tmp rfl) ⟨rfl, rfl⟩
  rw [hO] at hF
  try dsimp only [optC] at hF
  refine nw_H (H' := [imm I, pt r21_b2 #[.slice r21_p4 r21_s1.sure_.length r21_c5, .map (some r21_b7), .bool r21_s1.off_, .bool r21_s1.armed_, .int .i64 r21_s1.left_, .int .u64 r21_s1.fall_.Keep, .int .i64 r21_s1.fall_.Tear, .int .i64 r21_s1.acts_, .int .i64 r21_s1.falls_] 62, own e_disk_sector 65 r21_p4 r21_c5 r21_s1.sure_, mpo (kInt .i64) (fun x : disk_sector => Value.agg #[.string x.s_, .int .i64 x.at_]) r21_b7 r21_s1.wait_] ++ F0) rfl (nw_ow ?_)
  refine ow_vals 5 (j := 6) [0, 3, 4] [(0, .slice p0 x0.length c0), (3, .pointer (some ⟨r21_b2, 0, none⟩)), (4, .int .i64 0)] rfl (by kernel_rfl) ?_
  refine ow_end rfl ?_
  refine ew_then ?_
  obtain ⟨v27, hF, hK27⟩ := bind_some hF
  refine cw_mid (fun a w => () = v27 ∧ Fr 117 [(0, .slice p0 x0.length c0), (3, .pointer (some ⟨r21_b2, 0, none⟩))] a ∧ SAT w0 ([imm I, pt r21_b2 #[.slice r21_p4 r21_s1.sure_.length r21_c5, .map (some r21_b7), .bool r21_s1.off_, .bool r21_s1.armed_, .int .i64 r21_s1.left_, .int .u64 r21_s1.fall_.Keep, .int .i64 r21_s1.fall_.Tear, .int .i64 r21_s1.acts_, .int .i64 r21_s1.falls_] 62, own e_disk_sector 65 r21_p4 r21_c5 r21_s1.sure_, mpo (kInt .i64) (fun x : disk_sector => Value.agg #[.string x.s_, .int .i64 x.at_]) r21_b7 r21_s1.wait_] ++ F0) w) ?_ ?_
  · refine cw_seq ?_
    refine cw_region ?_
    refine ow_vals 6 (j := 6) [0, 3, 25] [(0, .slice p0 x0.length c0), (3, .pointer (some ⟨r21_b2, 0, none⟩)), (25, .bool false)] rfl (by kernel_rfl) ?_
    refine ow_end rfl ?_
    refine ew_then ?_
    refine cw_cond_f rfl rfl rfl ?_
    refine cw_skip ?_
    have hR := Option.some.inj hF
    exact fun a w hf hs => ⟨hR, hf.keep [0, 3], sat_to [0, 0, 0, 0] 0 rfl hs⟩
  rintro a w ⟨hv, hf, hs⟩
  subst hv
  replace hF := hK27
  clear hK27
  try dsimp only at hF
  revert a w
  show CW _ _ _ 117 [(0, .slice p0 x0.length c0), (3, .pointer (some ⟨r21_b2, 0, none⟩))] (SAT w0 ([imm I, pt r21_b2 #[.slice r21_p4 r21_s1.sure_.length r21_c5, .map (some r21_b7), .bool r21_s1.off_, .bool r21_s1.armed_, .int .i64 r21_s1.left_, .int .u64 r21_s1.fall_.Keep, .int .i64 r21_s1.fall_.Tear, .int .i64 r21_s1.acts_, .int .i64 r21_s1.falls_] 62, own e_disk_sector 65 r21_p4 r21_c5 r21_s1.sure_, mpo (kInt .i64) (fun x : disk_sector => Value.agg #[.string x.s_, .int .i64 x.at_]) r21_b7 r21_s1.wait_] ++ F0))
  unfold F.law12_JournalSectors.r1 at hF
  refine cw_seq ?_
  refine cw_region ?_
  refine ow_vals 1 (j := 1) [0, 3, 26] [(0, .slice p0 x0.length c0), (3, .pointer (some ⟨r21_b2, 0, none⟩)), (26, .pointer (some ⟨r21_b2, 0, none⟩))] rfl (by kernel_rfl) ?_
  obtain ⟨r28, h29, hF⟩ := bind_some hF
  refine ow_pw rfl (pw_call (F := [] ++ F0) rfl rfl rfl rfl rfl rfl rfl (by kernel_rfl) (perm_of_pulls [0, 0, 0, 0] rfl) (c_law12_open _ 1 r21_s1 r21_p4 r21_c5 r21_b7 r21_b2 r28 h29) ?_)
  rintro _ _ (⟨hO, rfl, rfl⟩ | ⟨r28_s1, r28_b2, r28_b4, r28_p6, r28_c7, hO, rfl, rfl⟩)
  · rw [hO] at hF
    try dsimp only [optC] at hF
    refine nw_H (H' := [imm I, pt r21_b2 #[.slice r21_p4 r21_s1.sure_.length r21_c5, .map (some r21_b7), .bool r21_s1.off_, .bool r21_s1.armed_, .int .i64 r21_s1.left_, .int .u64 r21_s1.fall_.Keep, .int .i64 r21_s1.fall_.Tear, .int .i64 r21_s1.acts_, .int .i64 r21_s1.falls_] 62, own e_disk_sector 65 r21_p4 r21_c5 r21_s1.sure_, mpo (kInt .i64) (fun x : disk_sector => Value.agg #[.string x.s_, .int .i64 x.at_]) r21_b7 r21_s1.wait_] ++ F0) rfl (nw_ow ?_)
    refine ow_vals 1 (j := 3) [0, 3, 5] [(0, .slice p0 x0.length c0), (3, .pointer (some ⟨r21_b2, 0, none⟩)), (5, .pointer none)] rfl (by kernel_rfl) ?_
    refine ow_end rfl ?_
    refine ew_then ?_
    refine cw_seq ?_
    refine cw_seq ?_
    refine cw_region ?_
    refine ow_vals 2 (j := 2) [0, 3, 5, 29] [(0, .slice p0 x0.length c0), (3, .pointer (some ⟨r21_b2, 0, none⟩)), (5, .pointer none), (29, .bool true)] rfl (by kernel_rfl) ?_
    refine ow_end rfl ?_
    refine ew_then ?_
    refine cw_cond_t rfl rfl rfl ?_
    refine cw_seq ?_
    refine cw_region ?_
    refine ow_vals 1 (j := 1) [2] [(2, .bool false)] rfl (by kernel_rfl) ?_
    refine ow_end rfl ?_
    refine ew_then ?_
    refine cw_ret ?_
    refine ew_then_ret ?_
    have hR := Option.some.inj hF
    subst hR
    exact fin1 (H1 := [imm I]) (fun w hs => sat_to [1, 1, 1, 0] 3 rfl hs) rfl (rr_tmp rfl) ⟨rfl, rfl⟩
  rw [hO] at hF
  try dsimp only [optC] at hF
  refine nw_H (H' := [imm I, pt r21_b2 #[.slice r21_p4 r21_s1.sure_.length r21_c5, .map (some r21_b7), .bool r21_s1.off_, .bool r21_s1.armed_, .int .i64 r21_s1.left_, .int .u64 r21_s1.fall_.Keep, .int .i64 r21_s1.fall_.Tear, .int .i64 r21_s1.acts_, .int .i64 r21_s1.falls_] 62, pt r28_b4 #[.pointer (some ⟨r21_b2, 0, none⟩), .int .i64 r28_s1.2.boot_, .int .i64 r28_s1.2.n_] 72, pt r28_b2 #[.pointer (some ⟨r28_b4, 0, none⟩), .int .i64 r28_s1.1.base_, .int .i64 r28_s1.1.size_, .int .i64 r28_s1.1.next_, .int .i64 r28_s1.1.last_, .slice r28_p6 r28_s1.1.list_.length r28_c7, .int .i64 r28_s1.1.sure_, .bool r28_s1.1.dead_] 26, own eStr 9 r28_p6 r28_c7 r28_s1.1.list_, own e_disk_sector 65 r21_p4 r21_c5 r21_s1.sure_, mpo (kInt .i64) (fun x : disk_sector => Value.agg #[.string x.s_, .int .i64 x.at_]) r21_b7 r21_s1.wait_] ++ F0) rfl (nw_ow ?_)
  refine ow_vals 1 (j := 3) [0, 3, 5] [(0, .slice p0 x0.length c0), (3, .pointer (some ⟨r21_b2, 0, none⟩)), (5, .pointer (some ⟨r28_b2, 0, none⟩))] rfl (by kernel_rfl) ?_
  refine ow_end rfl ?_
  refine ew_then ?_
  refine cw_seq ?_
  refine cw_seq ?_
  refine cw_region ?_
  refine ow_vals 2 (j := 2) [0, 3, 5, 29] [(0, .slice p0 x0.length c0), (3, .pointer (some ⟨r21_b2, 0, none⟩)), (5, .pointer (some ⟨r28_b2, 0, none⟩)), (29, .bool false)] rfl (by kernel_rfl) ?_
  refine ow_end rfl ?_
  refine ew_then ?_
  refine cw_cond_f rfl rfl rfl ?_
  refine cw_skip ?_
  refine ew_then ?_
  refine cw_seq ?_
  refine cw_region ?_
  refine ow_vals 1 (j := 1) [0, 3, 5, 6] [(0, .slice p0 x0.length c0), (3, .pointer (some ⟨r21_b2, 0, none⟩)), (5, .pointer (some ⟨r28_b2, 0, none⟩)), (6, .int .i64 3)] rfl (by kernel_rfl) ?_
  refine ow_end rfl ?_
  refine ew_then ?_
  refine cw_seq ?_
  refine cw_region ?_
  refine ow_vals 1 (j := 1) [0, 3, 5, 6, 7] [(0, .slice p0 x0.length c0), (3, .pointer (some ⟨r21_b2, 0, none⟩)), (5, .pointer (some ⟨r28_b2, 0, none⟩)), (6, .int .i64 3), (7, .int .i64 7)] rfl (by kernel_rfl) ?_
  refine ow_end rfl ?_
  refine ew_then ?_
  obtain ⟨v33, hF, hK33⟩ := thru_some hF
  refine cw_mid (fun a w => ∃ (x148 : Int), ∃ (l149 : List disk_sector), ∃ (l153 : List (Int × disk_sector)), ∃ (x156 : Bool), ∃ (x157 : Bool), ∃ (x158 : Int), ∃ (x159 : Int), ∃ (x160 : Int), ∃ (x161 : Int), ∃ (x162 : Int), ∃ (x163 : Int), ∃ (x164 : Int), ∃ (x165 : Int), ∃ (x166 : Int), ∃ (x167 : Int), ∃ (x168 : Int), ∃ (l169 : List ByteArray), ∃ (x173 : Int), ∃ (x174 : Bool), ∃ (p150 : Option Addr), ∃ (c151 : Nat), ∃ (b155 : Nat), ∃ (p170 : Option Addr), ∃ (c171 : Nat), .inl (x148, l149, l153, x156, x157, x158, x159, x160, x161, x162, x163, x164, x165, x166, x167, x168, l169, x173, x174) = v33 ∧ Fr 117 [(5, .pointer (some ⟨r28_b2, 0, none⟩)), (6, .int .i64 x148)] a ∧ SAT w0 ([imm I, pt r21_b2 #[.slice p150 l149.length c151, .map (some b155), .bool x156, .bool x157, .int .i64 x158, .int .u64 x159, .int .i64 x160, .int .i64 x161, .int .i64 x162] 62, pt r28_b4 #[.pointer (some ⟨r21_b2, 0, none⟩), .int .i64 x163, .int .i64 x164] 72, pt r28_b2 #[.pointer (some ⟨r28_b4, 0, none⟩), .int .i64 x165, .int .i64 x166, .int .i64 x167, .int .i64 x168, .slice p170 l169.length c171, .int .i64 x173, .bool x174] 26, own e_disk_sector 65 p150 c151 l149, mpo (kInt .i64) (fun x : disk_sector => Value.agg #[.string x.s_, .int .i64 x.at_]) b155 l153, own eStr 9 p170 c171 l169] ++ F0) w) ?_ ?_
  · refine cw_seq ?_
    refine cw_region ?_
    refine ow_vals 1 (j := 1) [0, 3, 5, 6, 7, 8] [(0, .slice p0 x0.length c0), (3, .pointer (some ⟨r21_b2, 0, none⟩)), (5, .pointer (some ⟨r28_b2, 0, none⟩)), (6, .int .i64 3), (7, .int .i64 7), (8, .int .i64 0)] rfl (by kernel_rfl) ?_
    refine ow_end rfl ?_
    refine ew_then ?_
    refine cw_block ?_
    refine fun a w hf hs => wp_rounds (fun k a w => ∃ (x35 : Int), ∃ (x36 : Int), ∃ (x37 : Int), ∃ (l38 : List disk_sector), ∃ (l42 : List (Int × disk_sector)), ∃ (x45 : Bool), ∃ (x46 : Bool), ∃ (x47 : Int), ∃ (x48 : Int), ∃ (x49 : Int), ∃ (x50 : Int), ∃ (x51 : Int), ∃ (x52 : Int), ∃ (x53 : Int), ∃ (x54 : Int), ∃ (x55 : Int), ∃ (x56 : Int), ∃ (x57 : Int), ∃ (l58 : List ByteArray), ∃ (x62 : Int), ∃ (x63 : Bool), ∃ (p39 : Option Addr), ∃ (c40 : Nat), ∃ (b44 : Nat), ∃ (p59 : Option Addr), ∃ (c60 : Nat), iter (fun x => F.law12_JournalSectors.l8 x0 x.1 x.2.1 x.2.2.1 x.2.2.2.1 x.2.2.2.2.1 x.2.2.2.2.2.1 x.2.2.2.2.2.2.1 x.2.2.2.2.2.2.2.1 x.2.2.2.2.2.2.2.2.1 x.2.2.2.2.2.2.2.2.2.1 x.2.2.2.2.2.2.2.2.2.2.1 x.2.2.2.2.2.2.2.2.2.2.2.1 x.2.2.2.2.2.2.2.2.2.2.2.2.1 x.2.2.2.2.2.2.2.2.2.2.2.2.2.1 x.2.2.2.2.2.2.2.2.2.2.2.2.2.2.1 x.2.2.2.2.2.2.2.2.2.2.2.2.2.2.2.1 x.2.2.2.2.2.2.2.2.2.2.2.2.2.2.2.2.1 x.2.2.2.2.2.2.2.2.2.2.2.2.2.2.2.2.2.1 x.2.2.2.2.2.2.2.2.2.2.2.2.2.2.2.2.2.2.1 x.2.2.2.2.2.2.2.2.2.2.2.2.2.2.2.2.2.2.2.1 x.2.2.2.2.2.2.2.2.2.2.2.2.2.2.2.2.2.2.2.2) k (x35, x36, x37, l38, l42, x45, x46, x47, x48, x49, x50, x51, x52, x53, x54, x55, x56, x57, l58, x62, x63) = some v33 ∧ Fr 117 [(0, .slice p0 x0.length c0), (3, .pointer (some ⟨r21_b2, 0, none⟩)), (5, .pointer (some ⟨r28_b2, 0, none⟩)), (6, .int .i64 x35), (7, .int .i64 x36), (8, .int .i64 x37)] a ∧ SAT w0 ([imm I, pt r21_b2 #[.slice p39 l38.length c40, .map (some b44), .bool x45, .bool x46, .int .i64 x47, .int .u64 x48, .int .i64 x49, .int .i64 x50, .int .i64 x51] 62, pt r28_b4 #[.pointer (some ⟨r21_b2, 0, none⟩), .int .i64 x52, .int .i64 x53] 72, pt r28_b2 #[.pointer (some ⟨r28_b4, 0, none⟩), .int .i64 x54, .int .i64 x55, .int .i64 x56, .int .i64 x57, .slice p59 l58.length c60, .int .i64 x62, .bool x63] 26, own e_disk_sector 65 p39 c40 l38, mpo (kInt .i64) (fun x : disk_sector => Value.agg #[.string x.s_, .int .i64 x.at_]) b44 l42, own eStr 9 p59 c60 l58] ++ F0) w) ?_ FUEL a w ⟨3, 7, 0, r21_s1.sure_, r21_s1.wait_, r21_s1.off_, r21_s1.armed_, r21_s1.left_, r21_s1.fall_.Keep, r21_s1.fall_.Tear, r21_s1.acts_, r21_s1.falls_, r28_s1.2.boot_, r28_s1.2.n_, r28_s1.1.base_, r28_s1.1.size_, r28_s1.1.next_, r28_s1.1.last_, r28_s1.1.list_, r28_s1.1.sure_, r28_s1.1.dead_, r21_p4, r21_c5, r21_b7, r28_p6, r28_c7, hF, hf.keep [0, 3, 5, 6, 7, 8], sat_to [0, 0, 0, 0, 1, 1, 0] 0 rfl hs⟩
    clear hf hs
    clear a w hF
    rintro k a w ⟨x35, x36, x37, l38, l42, x45, x46, x47, x48, x49, x50, x51, x52, x53, x54, x55, x56, x57, l58, x62, x63, p39, c40, b44, p59, c60, hF2, hf, hs⟩
    obtain ⟨k, r34, rfl, hF, hL34⟩ := iter_some hF2
    clear hF2
    revert a w
    show CW _ _ _ 117 [(0, .slice p0 x0.length c0), (3, .pointer (some ⟨r21_b2, 0, none⟩)), (5, .pointer (some ⟨r28_b2, 0, none⟩)), (6, .int .i64 x35), (7, .int .i64 x36), (8, .int .i64 x37)] (SAT w0 ([imm I, pt r21_b2 #[.slice p39 l38.length c40, .map (some b44), .bool x45, .bool x46, .int .i64 x47, .int .u64 x48, .int .i64 x49, .int .i64 x50, .int .i64 x51] 62, pt r28_b4 #[.pointer (some ⟨r21_b2, 0, none⟩), .int .i64 x52, .int .i64 x53] 72, pt r28_b2 #[.pointer (some ⟨r28_b4, 0, none⟩), .int .i64 x54, .int .i64 x55, .int .i64 x56, .int .i64 x57, .slice p59 l58.length c60, .int .i64 x62, .bool x63] 26, own e_disk_sector 65 p39 c40 l38, mpo (kInt .i64) (fun x : disk_sector => Value.agg #[.string x.s_, .int .i64 x.at_]) b44 l42, own eStr 9 p59 c60 l58] ++ F0))
    try dsimp only at hF
    unfold F.law12_JournalSectors.l8 at hF
    obtain ⟨v64, hF, hK64⟩ := thru_some hF
    refine cw_mid (fun a w => .inl () = v64 ∧ Fr 117 [(0, .slice p0 x0.length c0), (3, .pointer (some ⟨r21_b2, 0, none⟩)), (5, .pointer (some ⟨r28_b2, 0, none⟩)), (6, .int .i64 x35), (7, .int .i64 x36), (8, .int .i64 x37)] a ∧ SAT w0 ([imm I, pt r21_b2 #[.slice p39 l38.length c40, .map (some b44), .bool x45, .bool x46, .int .i64 x47, .int .u64 x48, .int .i64 x49, .int .i64 x50, .int .i64 x51] 62, pt r28_b4 #[.pointer (some ⟨r21_b2, 0, none⟩), .int .i64 x52, .int .i64 x53] 72, pt r28_b2 #[.pointer (some ⟨r28_b4, 0, none⟩), .int .i64 x54, .int .i64 x55, .int .i64 x56, .int .i64 x57, .slice p59 l58.length c60, .int .i64 x62, .bool x63] 26, own e_disk_sector 65 p39 c40 l38, mpo (kInt .i64) (fun x : disk_sector => Value.agg #[.string x.s_, .int .i64 x.at_]) b44 l42, own eStr 9 p59 c60 l58] ++ F0) w) ?_ ?_
    · refine cw_seq ?_
      refine cw_region ?_
      refine ow_vals 5 (j := 5) [0, 3, 5, 6, 7, 8, 34] [(0, .slice p0 x0.length c0), (3, .pointer (some ⟨r21_b2, 0, none⟩)), (5, .pointer (some ⟨r28_b2, 0, none⟩)), (6, .int .i64 x35), (7, .int .i64 x36), (8, .int .i64 x37), (34, .bool (decide (x37 < (x0.length : Int))))] rfl (by kernel_rfl) ?_
      rcases if_some hF with ⟨h65, hF⟩ | ⟨h65, hF⟩
      · refine ow_slots (L' := [(0, .slice p0 x0.length c0), (3, .pointer (some ⟨r21_b2, 0, none⟩)), (5, .pointer (some ⟨r28_b2, 0, none⟩)), (6, .int .i64 x35), (7, .int .i64 x36), (8, .int .i64 x37), (34, .bool true)]) (by rw [h65]) ?_
        refine ow_vals 3 (j := 8) [0, 3, 5, 6, 7, 8, 37] [(0, .slice p0 x0.length c0), (3, .pointer (some ⟨r21_b2, 0, none⟩)), (5, .pointer (some ⟨r28_b2, 0, none⟩)), (6, .int .i64 x35), (7, .int .i64 x36), (8, .int .i64 x37), (37, .bool (decide (x37 < 6)))] rfl (by kernel_rfl) ?_
        refine ow_end rfl ?_
        refine ew_then ?_
        rcases if_some hF with ⟨h66, hF⟩ | ⟨h66, hF⟩
        · refine cw_cond_t rfl rfl h66 ?_
          refine cw_skip ?_
          have hR := Option.some.inj hF
          exact fun a w hf hs => ⟨hR, hf.keep [0, 3, 5, 6, 7, 8], sat_to [0, 0, 0, 0, 0, 0, 0] 0 rfl hs⟩
        refine cw_cond_f rfl rfl h66 ?_
        refine cw_exit ?_
        refine ew_then_exit ?_
        refine ew_then_exit ?_
        refine ew_blk_exit ?_
        have hR := Option.some.inj hF
        subst hR
        have hR := hK64
        try dsimp only [Thru] at hR
        subst hR
        have hR := hL34
        try dsimp only at hR
        exact fun a w hf hs => ⟨x35, l38, l42, x45, x46, x47, x48, x49, x50, x51, x52, x53, x54, x55, x56, x57, l58, x62, x63, p39, c40, b44, p59, c60, hR, hf.keep [5, 6], sat_to [0, 0, 0, 0, 0, 0, 0] 0 rfl hs⟩
      refine ow_slots (L' := [(0, .slice p0 x0.length c0), (3, .pointer (some ⟨r21_b2, 0, none⟩)), (5, .pointer (some ⟨r28_b2, 0, none⟩)), (6, .int .i64 x35), (7, .int .i64 x36), (8, .int .i64 x37), (34, .bool false)]) (by rw [h65]) ?_
      refine ow_vals 3 (j := 8) [0, 3, 5, 6, 7, 8, 37] [(0, .slice p0 x0.length c0), (3, .pointer (some ⟨r21_b2, 0, none⟩)), (5, .pointer (some ⟨r28_b2, 0, none⟩)), (6, .int .i64 x35), (7, .int .i64 x36), (8, .int .i64 x37), (37, .bool false)] rfl (by kernel_rfl) ?_
      refine ow_end rfl ?_
      refine ew_then ?_
      refine cw_cond_f rfl rfl rfl ?_
      refine cw_exit ?_
      refine ew_then_exit ?_
      refine ew_then_exit ?_
      refine ew_blk_exit ?_
      have hR := Option.some.inj hF
      subst hR
      have hR := hK64
      try dsimp only [Thru] at hR
      subst hR
      have hR := hL34
      try dsimp only at hR
      exact fun a w hf hs => ⟨x35, l38, l42, x45, x46, x47, x48, x49, x50, x51, x52, x53, x54, x55, x56, x57, l58, x62, x63, p39, c40, b44, p59, c60, hR, hf.keep [5, 6], sat_to [0, 0, 0, 0, 0, 0, 0] 0 rfl hs⟩
    rintro a w ⟨hv, hf, hs⟩
    subst hv
    replace hF := hK64
    clear hK64
    try dsimp only [Thru] at hF
    revert a w
    show CW _ _ _ 117 [(0, .slice p0 x0.length c0), (3, .pointer (some ⟨r21_b2, 0, none⟩)), (5, .pointer (some ⟨r28_b2, 0, none⟩)), (6, .int .i64 x35), (7, .int .i64 x36), (8, .int .i64 x37)] (SAT w0 ([imm I, pt r21_b2 #[.slice p39 l38.length c40, .map (some b44), .bool x45, .bool x46, .int .i64 x47, .int .u64 x48, .int .i64 x49, .int .i64 x50, .int .i64 x51] 62, pt r28_b4 #[.pointer (some ⟨r21_b2, 0, none⟩), .int .i64 x52, .int .i64 x53] 72, pt r28_b2 #[.pointer (some ⟨r28_b4, 0, none⟩), .int .i64 x54, .int .i64 x55, .int .i64 x56, .int .i64 x57, .slice p59 l58.length c60, .int .i64 x62, .bool x63] 26, own e_disk_sector 65 p39 c40 l38, mpo (kInt .i64) (fun x : disk_sector => Value.agg #[.string x.s_, .int .i64 x.at_]) b44 l42, own eStr 9 p59 c60 l58] ++ F0))
    unfold F.law12_JournalSectors.r2 at hF
    obtain ⟨v67, hF, hK67⟩ := thru_some hF
    refine cw_mid (fun a w => ∃ (x120 : Int), ∃ (x121 : Int), ∃ (x122 : Int), ∃ (x123 : Int), ∃ (x124 : Int), ∃ (x125 : Int), ∃ (l126 : List ByteArray), ∃ (x130 : Int), ∃ (x131 : Bool), ∃ (x132 : Int), ∃ (x133 : Int), ∃ (l134 : List disk_sector), ∃ (l138 : List (Int × disk_sector)), ∃ (x141 : Bool), ∃ (x142 : Bool), ∃ (x143 : Int), ∃ (x144 : Int), ∃ (x145 : Int), ∃ (x146 : Int), ∃ (x147 : Int), ∃ (p127 : Option Addr), ∃ (c128 : Nat), ∃ (p135 : Option Addr), ∃ (c136 : Nat), ∃ (b140 : Nat), .inl (x120, x121, x122, x123, x124, x125, l126, x130, x131, x132, x133, l134, l138, x141, x142, x143, x144, x145, x146, x147) = v67 ∧ Fr 117 [(0, .slice p0 x0.length c0), (3, .pointer (some ⟨r21_b2, 0, none⟩)), (5, .pointer (some ⟨r28_b2, 0, none⟩)), (6, .int .i64 x120), (7, .int .i64 x121), (8, .int .i64 x37)] a ∧ SAT w0 ([imm I, pt r28_b2 #[.pointer (some ⟨r28_b4, 0, none⟩), .int .i64 x122, .int .i64 x123, .int .i64 x124, .int .i64 x125, .slice p127 l126.length c128, .int .i64 x130, .bool x131] 26, pt r28_b4 #[.pointer (some ⟨r21_b2, 0, none⟩), .int .i64 x132, .int .i64 x133] 72, pt r21_b2 #[.slice p135 l134.length c136, .map (some b140), .bool x141, .bool x142, .int .i64 x143, .int .u64 x144, .int .i64 x145, .int .i64 x146, .int .i64 x147] 62, own eStr 9 p127 c128 l126, own e_disk_sector 65 p135 c136 l134, mpo (kInt .i64) (fun x : disk_sector => Value.agg #[.string x.s_, .int .i64 x.at_]) b140 l138] ++ F0) w) ?_ ?_
    · refine cw_block ?_
      refine cw_seq ?_
      refine cw_seq ?_
      refine cw_region ?_
      refine ow_vals 3 (j := 3) [0, 3, 5, 6, 7, 8, 40, 41, 42] [(0, .slice p0 x0.length c0), (3, .pointer (some ⟨r21_b2, 0, none⟩)), (5, .pointer (some ⟨r28_b2, 0, none⟩)), (6, .int .i64 x35), (7, .int .i64 x36), (8, .int .i64 x37), (40, .pointer (some ⟨r28_b2, 0, none⟩)), (41, .slice p0 x0.length c0), (42, .int .i64 x37)] rfl (by kernel_rfl) ?_
      obtain ⟨y68, h69, hF⟩ := bind_some hF
      refine ow_pw rfl (pw_index_ro (E := 9) 1 hr0 rfl rfl rfl rfl rfl (by kernel_rfl) rfl rfl rfl h69 fun q70 h71 => nw_ow ?_)
      refine ow_pw rfl (pw_quiet (v := .string y68) rfl rfl rfl rfl (q_load_el0 0 rfl h71 rfl rfl (by kernel_rfl)) (nw_ow ?_))
      obtain ⟨r72, h73, hF⟩ := bind_some hF
      refine ow_pw rfl (pw_call (F := [] ++ F0) rfl rfl rfl rfl rfl rfl rfl (by kernel_rfl) (perm_of_pulls [0, 2, 1, 0, 2, 0, 0] rfl) (c_journal_Journal_Append _ y68 (⟨x54, x55, x56, x57, l58, x62, x63⟩ : journal_Journal) (⟨x52, x53⟩ : guard_Guard) (⟨l38, l42, x45, x46, x47, (⟨x48, x49⟩ : disk_Fall), x50, x51⟩ : disk_Disk) p59 c60 r28_b2 r28_b4 p39 c40 b44 r21_b2 r72 h73) ?_)
      rintro _ _ ⟨r72_p1, r72_c2, r72_p4, r72_c5, r72_b7, rfl, rfl⟩
      refine nw_H (H' := [imm I, pt r28_b2 #[.pointer (some ⟨r28_b4, 0, none⟩), .int .i64 r72.2.1.base_, .int .i64 r72.2.1.size_, .int .i64 r72.2.1.next_, .int .i64 r72.2.1.last_, .slice r72_p1 r72.2.1.list_.length r72_c2, .int .i64 r72.2.1.sure_, .bool r72.2.1.dead_] 26, pt r28_b4 #[.pointer (some ⟨r21_b2, 0, none⟩), .int .i64 r72.2.2.1.boot_, .int .i64 r72.2.2.1.n_] 72, pt r21_b2 #[.slice r72_p4 r72.2.2.2.sure_.length r72_c5, .map (some r72_b7), .bool r72.2.2.2.off_, .bool r72.2.2.2.armed_, .int .i64 r72.2.2.2.left_, .int .u64 r72.2.2.2.fall_.Keep, .int .i64 r72.2.2.2.fall_.Tear, .int .i64 r72.2.2.2.acts_, .int .i64 r72.2.2.2.falls_] 62, own eStr 9 r72_p1 r72_c2 r72.2.1.list_, own e_disk_sector 65 r72_p4 r72_c5 r72.2.2.2.sure_, mpo (kInt .i64) (fun x : disk_sector => Value.agg #[.string x.s_, .int .i64 x.at_]) r72_b7 r72.2.2.2.wait_] ++ F0) rfl (nw_ow ?_)
      refine ow_vals 1 (j := 7) [0, 3, 5, 6, 7, 8, 46] [(0, .slice p0 x0.length c0), (3, .pointer (some ⟨r21_b2, 0, none⟩)), (5, .pointer (some ⟨r28_b2, 0, none⟩)), (6, .int .i64 x35), (7, .int .i64 x36), (8, .int .i64 x37), (46, .bool (r72.1 != 0))] rfl (by kernel_rfl) ?_
      refine ow_end rfl ?_
      refine ew_then ?_
      rcases if_some hF with ⟨h77, hF⟩ | ⟨h77, hF⟩
      · refine cw_cond_t rfl rfl h77 ?_
        refine cw_exit ?_
        refine ew_then_exit ?_
        refine ew_blk_exit ?_
        have hR := Option.some.inj hF
        exact fun a w hf hs => ⟨x35, x36, r72.2.1.base_, r72.2.1.size_, r72.2.1.next_, r72.2.1.last_, r72.2.1.list_, r72.2.1.sure_, r72.2.1.dead_, r72.2.2.1.boot_, r72.2.2.1.n_, r72.2.2.2.sure_, r72.2.2.2.wait_, r72.2.2.2.off_, r72.2.2.2.armed_, r72.2.2.2.left_, r72.2.2.2.fall_.Keep, r72.2.2.2.fall_.Tear, r72.2.2.2.acts_, r72.2.2.2.falls_, r72_p1, r72_c2, r72_p4, r72_c5, r72_b7, hR, hf.keep [0, 3, 5, 6, 7, 8], sat_to [0, 0, 0, 0, 0, 0, 0] 0 rfl hs⟩
      refine cw_cond_f rfl rfl h77 ?_
      refine cw_skip ?_
      refine ew_then ?_
      refine cw_seq ?_
      refine cw_region ?_
      refine ow_vals 2 (j := 2) [0, 3, 5, 6, 7, 8, 47, 48] [(0, .slice p0 x0.length c0), (3, .pointer (some ⟨r21_b2, 0, none⟩)), (5, .pointer (some ⟨r28_b2, 0, none⟩)), (6, .int .i64 x35), (7, .int .i64 x36), (8, .int .i64 x37), (47, .slice p0 x0.length c0), (48, .int .i64 x37)] rfl (by kernel_rfl) ?_
      obtain ⟨y78, h79, hF⟩ := bind_some hF
      refine ow_pw rfl (pw_index_ro (E := 9) 1 hr0 rfl rfl rfl rfl rfl (by kernel_rfl) rfl rfl rfl h79 fun q80 h81 => nw_ow ?_)
      refine ow_pw rfl (pw_quiet (v := .string y78) rfl rfl rfl rfl (q_load_el0 0 rfl h81 rfl rfl (by kernel_rfl)) (nw_ow ?_))
      refine ow_vals 1 (j := 5) [0, 3, 5, 6, 7, 8, 9] [(0, .slice p0 x0.length c0), (3, .pointer (some ⟨r21_b2, 0, none⟩)), (5, .pointer (some ⟨r28_b2, 0, none⟩)), (6, .int .i64 x35), (7, .int .i64 x36), (8, .int .i64 x37), (9, .string y78)] rfl (by kernel_rfl) ?_
      refine ow_end rfl ?_
      refine ew_then ?_
      refine cw_seq ?_
      refine cw_region ?_
      refine ow_vals 1 (j := 1) [0, 3, 5, 6, 7, 8, 9, 10] [(0, .slice p0 x0.length c0), (3, .pointer (some ⟨r21_b2, 0, none⟩)), (5, .pointer (some ⟨r28_b2, 0, none⟩)), (6, .int .i64 x35), (7, .int .i64 x36), (8, .int .i64 x37), (9, .string y78), (10, .int .i64 0)] rfl (by kernel_rfl) ?_
      refine ow_end rfl ?_
      refine ew_then ?_
      refine cw_block ?_
      refine fun a w hf hs => wp_rounds (fun k a w => ∃ (x83 : Int), ∃ (x84 : Int), ∃ (s85 : ByteArray), ∃ (x86 : Int), iter (fun x => F.law12_JournalSectors.l6 x0 x37 r72 x.1 x.2.1 x.2.2.1 x.2.2.2) k (x83, x84, s85, x86) = some v67 ∧ Fr 117 [(0, .slice p0 x0.length c0), (3, .pointer (some ⟨r21_b2, 0, none⟩)), (5, .pointer (some ⟨r28_b2, 0, none⟩)), (6, .int .i64 x83), (7, .int .i64 x84), (8, .int .i64 x37), (9, .string s85), (10, .int .i64 x86)] a ∧ SAT w0 ([imm I, pt r28_b2 #[.pointer (some ⟨r28_b4, 0, none⟩), .int .i64 r72.2.1.base_, .int .i64 r72.2.1.size_, .int .i64 r72.2.1.next_, .int .i64 r72.2.1.last_, .slice r72_p1 r72.2.1.list_.length r72_c2, .int .i64 r72.2.1.sure_, .bool r72.2.1.dead_] 26, pt r28_b4 #[.pointer (some ⟨r21_b2, 0, none⟩), .int .i64 r72.2.2.1.boot_, .int .i64 r72.2.2.1.n_] 72, pt r21_b2 #[.slice r72_p4 r72.2.2.2.sure_.length r72_c5, .map (some r72_b7), .bool r72.2.2.2.off_, .bool r72.2.2.2.armed_, .int .i64 r72.2.2.2.left_, .int .u64 r72.2.2.2.fall_.Keep, .int .i64 r72.2.2.2.fall_.Tear, .int .i64 r72.2.2.2.acts_, .int .i64 r72.2.2.2.falls_] 62, own eStr 9 r72_p1 r72_c2 r72.2.1.list_, own e_disk_sector 65 r72_p4 r72_c5 r72.2.2.2.sure_, mpo (kInt .i64) (fun x : disk_sector => Value.agg #[.string x.s_, .int .i64 x.at_]) r72_b7 r72.2.2.2.wait_] ++ F0) w) ?_ FUEL a w ⟨x35, x36, y78, 0, hF, hf.keep [0, 3, 5, 6, 7, 8, 9, 10], sat_to [0, 0, 0, 0, 0, 0, 0] 0 rfl hs⟩
      clear hf hs
      clear a w hF
      rintro k a w ⟨x83, x84, s85, x86, hF2, hf, hs⟩
      obtain ⟨k, r82, rfl, hF, hL82⟩ := iter_some hF2
      clear hF2
      revert a w
      show CW _ _ _ 117 [(0, .slice p0 x0.length c0), (3, .pointer (some ⟨r21_b2, 0, none⟩)), (5, .pointer (some ⟨r28_b2, 0, none⟩)), (6, .int .i64 x83), (7, .int .i64 x84), (8, .int .i64 x37), (9, .string s85), (10, .int .i64 x86)] (SAT w0 ([imm I, pt r28_b2 #[.pointer (some ⟨r28_b4, 0, none⟩), .int .i64 r72.2.1.base_, .int .i64 r72.2.1.size_, .int .i64 r72.2.1.next_, .int .i64 r72.2.1.last_, .slice r72_p1 r72.2.1.list_.length r72_c2, .int .i64 r72.2.1.sure_, .bool r72.2.1.dead_] 26, pt r28_b4 #[.pointer (some ⟨r21_b2, 0, none⟩), .int .i64 r72.2.2.1.boot_, .int .i64 r72.2.2.1.n_] 72, pt r21_b2 #[.slice r72_p4 r72.2.2.2.sure_.length r72_c5, .map (some r72_b7), .bool r72.2.2.2.off_, .bool r72.2.2.2.armed_, .int .i64 r72.2.2.2.left_, .int .u64 r72.2.2.2.fall_.Keep, .int .i64 r72.2.2.2.fall_.Tear, .int .i64 r72.2.2.2.acts_, .int .i64 r72.2.2.2.falls_] 62, own eStr 9 r72_p1 r72_c2 r72.2.1.list_, own e_disk_sector 65 r72_p4 r72_c5 r72.2.2.2.sure_, mpo (kInt .i64) (fun x : disk_sector => Value.agg #[.string x.s_, .int .i64 x.at_]) r72_b7 r72.2.2.2.wait_] ++ F0))
      try dsimp only at hF
      unfold F.law12_JournalSectors.l6 at hF
      refine cw_seq ?_
      refine cw_seq ?_
      refine cw_region ?_
      refine ow_vals 3 (j := 3) [0, 3, 5, 6, 7, 8, 9, 10, 51, 52, 53] [(0, .slice p0 x0.length c0), (3, .pointer (some ⟨r21_b2, 0, none⟩)), (5, .pointer (some ⟨r28_b2, 0, none⟩)), (6, .int .i64 x83), (7, .int .i64 x84), (8, .int .i64 x37), (9, .string s85), (10, .int .i64 x86), (51, .int .i64 x86), (52, .slice p0 x0.length c0), (53, .int .i64 x37)] rfl (by kernel_rfl) ?_
      obtain ⟨y87, h88, hF⟩ := bind_some hF
      refine ow_pw rfl (pw_index_ro (E := 9) 1 hr0 rfl rfl rfl rfl rfl (by kernel_rfl) rfl rfl rfl h88 fun q89 h90 => nw_ow ?_)
      refine ow_pw rfl (pw_quiet (v := .string y87) rfl rfl rfl rfl (q_load_el0 0 rfl h90 rfl rfl (by kernel_rfl)) (nw_ow ?_))
      refine ow_vals 1 (j := 6) [0, 3, 5, 6, 7, 8, 9, 10, 51, 56] [(0, .slice p0 x0.length c0), (3, .pointer (some ⟨r21_b2, 0, none⟩)), (5, .pointer (some ⟨r28_b2, 0, none⟩)), (6, .int .i64 x83), (7, .int .i64 x84), (8, .int .i64 x37), (9, .string s85), (10, .int .i64 x86), (51, .int .i64 x86), (56, .int .i64 (y87.size : Int))] rfl (by kernel_rfl) ?_
      obtain ⟨r91, h92, hF⟩ := bind_some hF
      refine ow_pw rfl (pw_call (F := [pt r28_b2 #[.pointer (some ⟨r28_b4, 0, none⟩), .int .i64 r72.2.1.base_, .int .i64 r72.2.1.size_, .int .i64 r72.2.1.next_, .int .i64 r72.2.1.last_, .slice r72_p1 r72.2.1.list_.length r72_c2, .int .i64 r72.2.1.sure_, .bool r72.2.1.dead_] 26, pt r28_b4 #[.pointer (some ⟨r21_b2, 0, none⟩), .int .i64 r72.2.2.1.boot_, .int .i64 r72.2.2.1.n_] 72, pt r21_b2 #[.slice r72_p4 r72.2.2.2.sure_.length r72_c5, .map (some r72_b7), .bool r72.2.2.2.off_, .bool r72.2.2.2.armed_, .int .i64 r72.2.2.2.left_, .int .u64 r72.2.2.2.fall_.Keep, .int .i64 r72.2.2.2.fall_.Tear, .int .i64 r72.2.2.2.acts_, .int .i64 r72.2.2.2.falls_] 62, own eStr 9 r72_p1 r72_c2 r72.2.1.list_, own e_disk_sector 65 r72_p4 r72_c5 r72.2.2.2.sure_, mpo (kInt .i64) (fun x : disk_sector => Value.agg #[.string x.s_, .int .i64 x.at_]) r72_b7 r72.2.2.2.wait_] ++ F0) rfl rfl rfl rfl rfl rfl rfl (by kernel_rfl) (perm_of_pulls [0] rfl) (c_law12_need _ (y87.size : Int) r91 h92) ?_)
      rintro _ _ ⟨rfl, rfl⟩
      refine nw_H (H' := [imm I, pt r28_b2 #[.pointer (some ⟨r28_b4, 0, none⟩), .int .i64 r72.2.1.base_, .int .i64 r72.2.1.size_, .int .i64 r72.2.1.next_, .int .i64 r72.2.1.last_, .slice r72_p1 r72.2.1.list_.length r72_c2, .int .i64 r72.2.1.sure_, .bool r72.2.1.dead_] 26, pt r28_b4 #[.pointer (some ⟨r21_b2, 0, none⟩), .int .i64 r72.2.2.1.boot_, .int .i64 r72.2.2.1.n_] 72, pt r21_b2 #[.slice r72_p4 r72.2.2.2.sure_.length r72_c5, .map (some r72_b7), .bool r72.2.2.2.off_, .bool r72.2.2.2.armed_, .int .i64 r72.2.2.2.left_, .int .u64 r72.2.2.2.fall_.Keep, .int .i64 r72.2.2.2.fall_.Tear, .int .i64 r72.2.2.2.acts_, .int .i64 r72.2.2.2.falls_] 62, own eStr 9 r72_p1 r72_c2 r72.2.1.list_, own e_disk_sector 65 r72_p4 r72_c5 r72.2.2.2.sure_, mpo (kInt .i64) (fun x : disk_sector => Value.agg #[.string x.s_, .int .i64 x.at_]) r72_b7 r72.2.2.2.wait_] ++ F0) rfl (nw_ow ?_)
      refine ow_vals 1 (j := 8) [0, 3, 5, 6, 7, 8, 9, 10, 58] [(0, .slice p0 x0.length c0), (3, .pointer (some ⟨r21_b2, 0, none⟩)), (5, .pointer (some ⟨r28_b2, 0, none⟩)), (6, .int .i64 x83), (7, .int .i64 x84), (8, .int .i64 x37), (9, .string s85), (10, .int .i64 x86), (58, .bool (decide (x86 < r91)))] rfl (by kernel_rfl) ?_
      refine ow_end rfl ?_
      refine ew_then ?_
      rcases if_some hF with ⟨h93, hF⟩ | ⟨h93, hF⟩
      · refine cw_cond_t rfl rfl h93 ?_
        refine cw_skip ?_
        refine ew_then ?_
        refine cw_seq ?_
        refine cw_block ?_
        refine cw_seq ?_
        refine cw_region ?_
        refine ow_vals 2 (j := 2) [0, 3, 5, 6, 7, 8, 9, 10, 62, 63] [(0, .slice p0 x0.length c0), (3, .pointer (some ⟨r21_b2, 0, none⟩)), (5, .pointer (some ⟨r28_b2, 0, none⟩)), (6, .int .i64 x83), (7, .int .i64 x84), (8, .int .i64 x37), (9, .string s85), (10, .int .i64 x86), (62, .pointer (some ⟨r21_b2, 0, none⟩)), (63, .int .i64 x83)] rfl (by kernel_rfl) ?_
        obtain ⟨r94, h95, hF⟩ := bind_some hF
        refine ow_pw rfl (pw_call (F := [pt r28_b2 #[.pointer (some ⟨r28_b4, 0, none⟩), .int .i64 r72.2.1.base_, .int .i64 r72.2.1.size_, .int .i64 r72.2.1.next_, .int .i64 r72.2.1.last_, .slice r72_p1 r72.2.1.list_.length r72_c2, .int .i64 r72.2.1.sure_, .bool r72.2.1.dead_] 26, pt r28_b4 #[.pointer (some ⟨r21_b2, 0, none⟩), .int .i64 r72.2.2.1.boot_, .int .i64 r72.2.2.1.n_] 72, own eStr 9 r72_p1 r72_c2 r72.2.1.list_] ++ F0) rfl rfl rfl rfl rfl rfl rfl (by kernel_rfl) (perm_of_pulls [0, 2, 3, 3] rfl) (c_guard_Read _ x83 r72.2.2.2 r72_p4 r72_c5 r72_b7 r21_b2 r94 h95) ?_)
        rintro _ _ ⟨rfl, rfl⟩
        refine nw_H (H' := [imm I, pt r21_b2 #[.slice r72_p4 r72.2.2.2.sure_.length r72_c5, .map (some r72_b7), .bool r72.2.2.2.off_, .bool r72.2.2.2.armed_, .int .i64 r72.2.2.2.left_, .int .u64 r72.2.2.2.fall_.Keep, .int .i64 r72.2.2.2.fall_.Tear, .int .i64 r72.2.2.2.acts_, .int .i64 r72.2.2.2.falls_] 62, own e_disk_sector 65 r72_p4 r72_c5 r72.2.2.2.sure_, mpo (kInt .i64) (fun x : disk_sector => Value.agg #[.string x.s_, .int .i64 x.at_]) r72_b7 r72.2.2.2.wait_, pt r28_b2 #[.pointer (some ⟨r28_b4, 0, none⟩), .int .i64 r72.2.1.base_, .int .i64 r72.2.1.size_, .int .i64 r72.2.1.next_, .int .i64 r72.2.1.last_, .slice r72_p1 r72.2.1.list_.length r72_c2, .int .i64 r72.2.1.sure_, .bool r72.2.1.dead_] 26, pt r28_b4 #[.pointer (some ⟨r21_b2, 0, none⟩), .int .i64 r72.2.2.1.boot_, .int .i64 r72.2.2.1.n_] 72, own eStr 9 r72_p1 r72_c2 r72.2.1.list_] ++ F0) rfl (nw_ow ?_)
        refine ow_vals 7 (j := 10) [0, 3, 5, 6, 7, 8, 9, 10, 11, 12, 13] [(0, .slice p0 x0.length c0), (3, .pointer (some ⟨r21_b2, 0, none⟩)), (5, .pointer (some ⟨r28_b2, 0, none⟩)), (6, .int .i64 x83), (7, .int .i64 x84), (8, .int .i64 x37), (9, .string s85), (10, .int .i64 x86), (11, .string r94.1), (12, .int .i64 r94.2.1), (13, .int .i64 r94.2.2)] rfl (by kernel_rfl) ?_
        refine ow_end rfl ?_
        refine ew_then ?_
        refine cw_seq ?_
        refine cw_region ?_
        refine ow_vals 1 (j := 1) [0, 3, 5, 6, 7, 8, 9, 10, 11, 12, 13, 68] [(0, .slice p0 x0.length c0), (3, .pointer (some ⟨r21_b2, 0, none⟩)), (5, .pointer (some ⟨r28_b2, 0, none⟩)), (6, .int .i64 x83), (7, .int .i64 x84), (8, .int .i64 x37), (9, .string s85), (10, .int .i64 x86), (11, .string r94.1), (12, .int .i64 r94.2.1), (13, .int .i64 r94.2.2), (68, .int .i64 x84)] rfl (by kernel_rfl) ?_
        obtain ⟨r96, h97, hF⟩ := bind_some hF
        refine ow_pw rfl (pw_call (F := [pt r21_b2 #[.slice r72_p4 r72.2.2.2.sure_.length r72_c5, .map (some r72_b7), .bool r72.2.2.2.off_, .bool r72.2.2.2.armed_, .int .i64 r72.2.2.2.left_, .int .u64 r72.2.2.2.fall_.Keep, .int .i64 r72.2.2.2.fall_.Tear, .int .i64 r72.2.2.2.acts_, .int .i64 r72.2.2.2.falls_] 62, own e_disk_sector 65 r72_p4 r72_c5 r72.2.2.2.sure_, mpo (kInt .i64) (fun x : disk_sector => Value.agg #[.string x.s_, .int .i64 x.at_]) r72_b7 r72.2.2.2.wait_, pt r28_b2 #[.pointer (some ⟨r28_b4, 0, none⟩), .int .i64 r72.2.1.base_, .int .i64 r72.2.1.size_, .int .i64 r72.2.1.next_, .int .i64 r72.2.1.last_, .slice r72_p1 r72.2.1.list_.length r72_c2, .int .i64 r72.2.1.sure_, .bool r72.2.1.dead_] 26, pt r28_b4 #[.pointer (some ⟨r21_b2, 0, none⟩), .int .i64 r72.2.2.1.boot_, .int .i64 r72.2.2.1.n_] 72, own eStr 9 r72_p1 r72_c2 r72.2.1.list_] ++ F0) rfl rfl rfl rfl rfl rfl rfl (by kernel_rfl) (perm_of_pulls [0] rfl) (c_guard_Eight _ x84 r96 h97) ?_)
        rintro _ _ ⟨rfl, rfl⟩
        refine nw_H (H' := [imm I, pt r21_b2 #[.slice r72_p4 r72.2.2.2.sure_.length r72_c5, .map (some r72_b7), .bool r72.2.2.2.off_, .bool r72.2.2.2.armed_, .int .i64 r72.2.2.2.left_, .int .u64 r72.2.2.2.fall_.Keep, .int .i64 r72.2.2.2.fall_.Tear, .int .i64 r72.2.2.2.acts_, .int .i64 r72.2.2.2.falls_] 62, own e_disk_sector 65 r72_p4 r72_c5 r72.2.2.2.sure_, mpo (kInt .i64) (fun x : disk_sector => Value.agg #[.string x.s_, .int .i64 x.at_]) r72_b7 r72.2.2.2.wait_, pt r28_b2 #[.pointer (some ⟨r28_b4, 0, none⟩), .int .i64 r72.2.1.base_, .int .i64 r72.2.1.size_, .int .i64 r72.2.1.next_, .int .i64 r72.2.1.last_, .slice r72_p1 r72.2.1.list_.length r72_c2, .int .i64 r72.2.1.sure_, .bool r72.2.1.dead_] 26, pt r28_b4 #[.pointer (some ⟨r21_b2, 0, none⟩), .int .i64 r72.2.2.1.boot_, .int .i64 r72.2.2.1.n_] 72, own eStr 9 r72_p1 r72_c2 r72.2.1.list_] ++ F0) rfl (nw_ow ?_)
        obtain ⟨h98, hF⟩ := chk_some hF
        refine ow_pw rfl (pw_quiet (v := .string ((ByteArray.mk #[2]) ++ r96)) rfl rfl rfl rfl (q_concat rfl rfl rfl h98) (nw_ow ?_))
        refine ow_vals 1 (j := 4) [0, 3, 5, 6, 7, 8, 9, 10, 11, 12, 13, 14] [(0, .slice p0 x0.length c0), (3, .pointer (some ⟨r21_b2, 0, none⟩)), (5, .pointer (some ⟨r28_b2, 0, none⟩)), (6, .int .i64 x83), (7, .int .i64 x84), (8, .int .i64 x37), (9, .string s85), (10, .int .i64 x86), (11, .string r94.1), (12, .int .i64 r94.2.1), (13, .int .i64 r94.2.2), (14, .string ((ByteArray.mk #[2]) ++ r96))] rfl (by kernel_rfl) ?_
        refine ow_end rfl ?_
        refine ew_then ?_
        refine cw_seq ?_
        refine cw_region ?_
        refine ow_vals 1 (j := 1) [0, 3, 5, 6, 7, 8, 9, 10, 11, 12, 13, 14, 15] [(0, .slice p0 x0.length c0), (3, .pointer (some ⟨r21_b2, 0, none⟩)), (5, .pointer (some ⟨r28_b2, 0, none⟩)), (6, .int .i64 x83), (7, .int .i64 x84), (8, .int .i64 x37), (9, .string s85), (10, .int .i64 x86), (11, .string r94.1), (12, .int .i64 r94.2.1), (13, .int .i64 r94.2.2), (14, .string ((ByteArray.mk #[2]) ++ r96)), (15, .int .i64 38)] rfl (by kernel_rfl) ?_
        refine ow_end rfl ?_
        refine ew_then ?_
        obtain ⟨v99, hF, hK99⟩ := bind_some hF
        refine cw_mid (fun a w => ∃ (s109 : ByteArray), ∃ (x110 : Int), (s109, x110) = v99 ∧ Fr 117 [(0, .slice p0 x0.length c0), (3, .pointer (some ⟨r21_b2, 0, none⟩)), (5, .pointer (some ⟨r28_b2, 0, none⟩)), (6, .int .i64 x83), (8, .int .i64 x37), (9, .string s85), (10, .int .i64 x86), (11, .string r94.1), (12, .int .i64 r94.2.1), (13, .int .i64 r94.2.2), (14, .string s109), (15, .int .i64 x110)] a ∧ SAT w0 ([imm I, pt r21_b2 #[.slice r72_p4 r72.2.2.2.sure_.length r72_c5, .map (some r72_b7), .bool r72.2.2.2.off_, .bool r72.2.2.2.armed_, .int .i64 r72.2.2.2.left_, .int .u64 r72.2.2.2.fall_.Keep, .int .i64 r72.2.2.2.fall_.Tear, .int .i64 r72.2.2.2.acts_, .int .i64 r72.2.2.2.falls_] 62, pt r28_b2 #[.pointer (some ⟨r28_b4, 0, none⟩), .int .i64 r72.2.1.base_, .int .i64 r72.2.1.size_, .int .i64 r72.2.1.next_, .int .i64 r72.2.1.last_, .slice r72_p1 r72.2.1.list_.length r72_c2, .int .i64 r72.2.1.sure_, .bool r72.2.1.dead_] 26, pt r28_b4 #[.pointer (some ⟨r21_b2, 0, none⟩), .int .i64 r72.2.2.1.boot_, .int .i64 r72.2.2.1.n_] 72, own e_disk_sector 65 r72_p4 r72_c5 r72.2.2.2.sure_, mpo (kInt .i64) (fun x : disk_sector => Value.agg #[.string x.s_, .int .i64 x.at_]) r72_b7 r72.2.2.2.wait_, own eStr 9 r72_p1 r72_c2 r72.2.1.list_] ++ F0) w) ?_ ?_
        · refine cw_seq ?_
          refine cw_region ?_
          refine ow_vals 2 (j := 2) [0, 3, 5, 6, 7, 8, 9, 10, 11, 12, 13, 14, 15, 72] [(0, .slice p0 x0.length c0), (3, .pointer (some ⟨r21_b2, 0, none⟩)), (5, .pointer (some ⟨r28_b2, 0, none⟩)), (6, .int .i64 x83), (7, .int .i64 x84), (8, .int .i64 x37), (9, .string s85), (10, .int .i64 x86), (11, .string r94.1), (12, .int .i64 r94.2.1), (13, .int .i64 r94.2.2), (14, .string ((ByteArray.mk #[2]) ++ r96)), (15, .int .i64 38), (72, .bool (x86 == 0))] rfl (by kernel_rfl) ?_
          refine ow_end rfl ?_
          refine ew_then ?_
          rcases if_some hF with ⟨h100, hF⟩ | ⟨h100, hF⟩
          · refine cw_cond_t rfl rfl h100 ?_
            refine cw_seq ?_
            refine cw_open 14 (SAT w0 ([imm I, pt r21_b2 #[.slice r72_p4 r72.2.2.2.sure_.length r72_c5, .map (some r72_b7), .bool r72.2.2.2.off_, .bool r72.2.2.2.armed_, .int .i64 r72.2.2.2.left_, .int .u64 r72.2.2.2.fall_.Keep, .int .i64 r72.2.2.2.fall_.Tear, .int .i64 r72.2.2.2.acts_, .int .i64 r72.2.2.2.falls_] 62, own e_disk_sector 65 r72_p4 r72_c5 r72.2.2.2.sure_, mpo (kInt .i64) (fun x : disk_sector => Value.agg #[.string x.s_, .int .i64 x.at_]) r72_b7 r72.2.2.2.wait_, pt r28_b2 #[.pointer (some ⟨r28_b4, 0, none⟩), .int .i64 r72.2.1.base_, .int .i64 r72.2.1.size_, .int .i64 r72.2.1.next_, .int .i64 r72.2.1.last_, .slice r72_p1 r72.2.1.list_.length r72_c2, .int .i64 r72.2.1.sure_, .bool r72.2.1.dead_] 26, pt r28_b4 #[.pointer (some ⟨r21_b2, 0, none⟩), .int .i64 r72.2.2.1.boot_, .int .i64 r72.2.2.1.n_] 72, own eStr 9 r72_p1 r72_c2 r72.2.1.list_])) (by kernel_rfl) (f := 14) rfl (fun w hs => sat_drew hs) ?_
            refine aw_vals [0, 3, 4, 5, 6, 7, 8, 9] (f' := 6) (m' := 1017) [0, 3, 5, 6, 8, 9, 10, 11, 12, 13, 14, 73, 79, 82] [(0, .slice p0 x0.length c0), (3, .pointer (some ⟨r21_b2, 0, none⟩)), (5, .pointer (some ⟨r28_b2, 0, none⟩)), (6, .int .i64 x83), (8, .int .i64 x37), (9, .string s85), (10, .int .i64 x86), (11, .string r94.1), (12, .int .i64 r94.2.1), (13, .int .i64 r94.2.2), (14, .string ((ByteArray.mk #[2]) ++ r96)), (73, .int .i64 x84), (79, .int .u8 (IntKind.u8.wrap (IntKind.i64.wrap ((s85.size : Int).tdiv 256)))), (82, .int .u8 (IntKind.u8.wrap ((s85.size : Int))))] (fun _ _ _ _ _ h => calm_fin (P := Tryd.prog) (fn := Tryd.f4) _ _ _ _ _ h) (fun w hs => sat_pulls [0, 0, 0, 0, 0, 0, 0] (G := [] ++ F0) rfl hs) rfl (by kernel_rfl) ?_
            obtain ⟨r101, h102, hF⟩ := bind_some hF
            obtain ⟨h103, hF⟩ := chk_some hF
            obtain ⟨h106, hF⟩ := chk_some hF
            refine aw_two 1 10 (mi := 1019) (mj := 2041) (by kernel_rfl) (by kernel_rfl) (by kernel_rfl) ?_ ?_
            · refine pw_call (F := [pt r21_b2 #[.slice r72_p4 r72.2.2.2.sure_.length r72_c5, .map (some r72_b7), .bool r72.2.2.2.off_, .bool r72.2.2.2.armed_, .int .i64 r72.2.2.2.left_, .int .u64 r72.2.2.2.fall_.Keep, .int .i64 r72.2.2.2.fall_.Tear, .int .i64 r72.2.2.2.acts_, .int .i64 r72.2.2.2.falls_] 62, own e_disk_sector 65 r72_p4 r72_c5 r72.2.2.2.sure_, mpo (kInt .i64) (fun x : disk_sector => Value.agg #[.string x.s_, .int .i64 x.at_]) r72_b7 r72.2.2.2.wait_, pt r28_b2 #[.pointer (some ⟨r28_b4, 0, none⟩), .int .i64 r72.2.1.base_, .int .i64 r72.2.1.size_, .int .i64 r72.2.1.next_, .int .i64 r72.2.1.last_, .slice r72_p1 r72.2.1.list_.length r72_c2, .int .i64 r72.2.1.sure_, .bool r72.2.1.dead_] 26, pt r28_b4 #[.pointer (some ⟨r21_b2, 0, none⟩), .int .i64 r72.2.2.1.boot_, .int .i64 r72.2.2.1.n_] 72, own eStr 9 r72_p1 r72_c2 r72.2.1.list_] ++ F0) rfl rfl rfl rfl rfl rfl rfl (by kernel_rfl) (perm_of_pulls [0] rfl) (c_guard_Eight _ x84 r101 h102) ?_
              rintro _ _ ⟨rfl, rfl⟩
              refine nw_H (H' := [imm I, pt r21_b2 #[.slice r72_p4 r72.2.2.2.sure_.length r72_c5, .map (some r72_b7), .bool r72.2.2.2.off_, .bool r72.2.2.2.armed_, .int .i64 r72.2.2.2.left_, .int .u64 r72.2.2.2.fall_.Keep, .int .i64 r72.2.2.2.fall_.Tear, .int .i64 r72.2.2.2.acts_, .int .i64 r72.2.2.2.falls_] 62, own e_disk_sector 65 r72_p4 r72_c5 r72.2.2.2.sure_, mpo (kInt .i64) (fun x : disk_sector => Value.agg #[.string x.s_, .int .i64 x.at_]) r72_b7 r72.2.2.2.wait_, pt r28_b2 #[.pointer (some ⟨r28_b4, 0, none⟩), .int .i64 r72.2.1.base_, .int .i64 r72.2.1.size_, .int .i64 r72.2.1.next_, .int .i64 r72.2.1.last_, .slice r72_p1 r72.2.1.list_.length r72_c2, .int .i64 r72.2.1.sure_, .bool r72.2.1.dead_] 26, pt r28_b4 #[.pointer (some ⟨r21_b2, 0, none⟩), .int .i64 r72.2.2.1.boot_, .int .i64 r72.2.2.1.n_] 72, own eStr 9 r72_p1 r72_c2 r72.2.1.list_] ++ F0) rfl (aw_next (fun w hs => sat_pulls [0, 0, 0, 0, 0, 0, 0] (G := [] ++ F0) rfl hs) ?_)
              refine aw_pure 2 (m' := 1023) (v := .string ((ByteArray.mk #[1]) ++ r101)) rfl rfl rfl rfl (by kernel_rfl) (by kernel_rfl) (fun _ _ _ _ _ h => calm_fin (P := Tryd.prog) (fn := Tryd.f4) _ _ _ _ _ h) (fun w hs => sat_pulls [0, 0, 0, 0, 0, 0, 0] (G := [] ++ F0) rfl hs) (q_concat rfl rfl rfl h103) ?_
              refine aw_only 10 (m' := 2047) (by kernel_rfl) (by kernel_rfl) (pw_buildSlice (E := 5) (eInt .u8) ([IntKind.u8.wrap (IntKind.i64.wrap ((s85.size : Int).tdiv 256)), IntKind.u8.wrap ((s85.size : Int))] : List Int) rfl rfl rfl rfl rfl (by kernel_rfl) rfl (by kernel_rfl) rfl (by decide) rfl fun p107 => aw_next (fun w hs => sat_pulls [1, 1, 1, 1, 1, 1, 1] (G := [own (eInt .u8) 5 p107 2 ([IntKind.u8.wrap (IntKind.i64.wrap ((s85.size : Int).tdiv 256)), IntKind.u8.wrap ((s85.size : Int))] : List Int)] ++ F0) rfl hs) ?_)
              refine aw_only 11 (m' := 4095) (by kernel_rfl) (by kernel_rfl) (pw_quiet (v := .string (bstr ([IntKind.u8.wrap (IntKind.i64.wrap ((s85.size : Int).tdiv 256)), IntKind.u8.wrap ((s85.size : Int))] : List Int))) rfl rfl rfl rfl (q_bytes_str_own 0 rfl rfl (by kernel_rfl) (by kernel_rfl) rfl) (aw_next (fun w hs => sat_pulls [1, 1, 1, 1, 1, 1, 1] (G := [own (eInt .u8) 5 p107 2 ([IntKind.u8.wrap (IntKind.i64.wrap ((s85.size : Int).tdiv 256)), IntKind.u8.wrap ((s85.size : Int))] : List Int)] ++ F0) rfl hs) ?_))
              refine aw_pure 12 (m' := 8191) (v := .string (((ByteArray.mk #[1]) ++ r101) ++ (bstr ([IntKind.u8.wrap (IntKind.i64.wrap ((s85.size : Int).tdiv 256)), IntKind.u8.wrap ((s85.size : Int))] : List Int)))) rfl rfl rfl rfl (by kernel_rfl) (by kernel_rfl) (fun _ _ _ _ _ h => calm_fin (P := Tryd.prog) (fn := Tryd.f4) _ _ _ _ _ h) (fun w hs => sat_pulls [1, 1, 1, 1, 1, 1, 1] (G := [own (eInt .u8) 5 p107 2 ([IntKind.u8.wrap (IntKind.i64.wrap ((s85.size : Int).tdiv 256)), IntKind.u8.wrap ((s85.size : Int))] : List Int)] ++ F0) rfl hs) (q_concat rfl rfl rfl h106) ?_
              refine aw_vals [13] (f' := 0) (m' := 16383) [0, 3, 5, 6, 8, 9, 10, 11, 12, 13, 14] [(0, .slice p0 x0.length c0), (3, .pointer (some ⟨r21_b2, 0, none⟩)), (5, .pointer (some ⟨r28_b2, 0, none⟩)), (6, .int .i64 x83), (8, .int .i64 x37), (9, .string s85), (10, .int .i64 x86), (11, .string r94.1), (12, .int .i64 r94.2.1), (13, .int .i64 r94.2.2), (14, .string (((ByteArray.mk #[1]) ++ r101) ++ (bstr ([IntKind.u8.wrap (IntKind.i64.wrap ((s85.size : Int).tdiv 256)), IntKind.u8.wrap ((s85.size : Int))] : List Int))))] (fun _ _ _ _ _ h => calm_fin (P := Tryd.prog) (fn := Tryd.f4) _ _ _ _ _ h) (fun w hs => sat_pulls [1, 1, 1, 1, 1, 1, 1] (G := [own (eInt .u8) 5 p107 2 ([IntKind.u8.wrap (IntKind.i64.wrap ((s85.size : Int).tdiv 256)), IntKind.u8.wrap ((s85.size : Int))] : List Int)] ++ F0) rfl hs) rfl (by kernel_rfl) ?_
              refine aw_keep [0, 3, 5, 6, 8, 9, 10, 11, 12, 13, 14] (L' := [(0, .slice p0 x0.length c0), (3, .pointer (some ⟨r21_b2, 0, none⟩)), (5, .pointer (some ⟨r28_b2, 0, none⟩)), (6, .int .i64 x83), (8, .int .i64 x37), (9, .string s85), (10, .int .i64 x86), (11, .string r94.1), (12, .int .i64 r94.2.1), (13, .int .i64 r94.2.2), (14, .string (((ByteArray.mk #[1]) ++ r101) ++ (bstr ([IntKind.u8.wrap (IntKind.i64.wrap ((s85.size : Int).tdiv 256)), IntKind.u8.wrap ((s85.size : Int))] : List Int))))]) rfl ?_
              refine aw_end (by kernel_rfl) ?_
              refine ew_then ?_
              refine cw_region ?_
              refine ow_vals 1 (j := 1) [0, 3, 5, 6, 8, 9, 10, 11, 12, 13, 14, 15] [(0, .slice p0 x0.length c0), (3, .pointer (some ⟨r21_b2, 0, none⟩)), (5, .pointer (some ⟨r28_b2, 0, none⟩)), (6, .int .i64 x83), (8, .int .i64 x37), (9, .string s85), (10, .int .i64 x86), (11, .string r94.1), (12, .int .i64 r94.2.1), (13, .int .i64 r94.2.2), (14, .string (((ByteArray.mk #[1]) ++ r101) ++ (bstr ([IntKind.u8.wrap (IntKind.i64.wrap ((s85.size : Int).tdiv 256)), IntKind.u8.wrap ((s85.size : Int))] : List Int)))), (15, .int .i64 36)] rfl (by kernel_rfl) ?_
              refine ow_end rfl ?_
              have hR := Option.some.inj hF
              exact fun a w hf hs => ⟨((ByteArray.mk #[1]) ++ r101) ++ (bstr ([IntKind.u8.wrap (IntKind.i64.wrap ((s85.size : Int).tdiv 256)), IntKind.u8.wrap ((s85.size : Int))] : List Int)), 36, hR, hf.keep [0, 3, 5, 6, 8, 9, 10, 11, 12, 13, 14, 15], sat_to [0, 0, 0, 2, 2, 0, 0, 0] 1 rfl hs⟩
            refine pw_buildSlice (E := 5) (eInt .u8) ([IntKind.u8.wrap (IntKind.i64.wrap ((s85.size : Int).tdiv 256)), IntKind.u8.wrap ((s85.size : Int))] : List Int) rfl rfl rfl rfl rfl (by kernel_rfl) rfl (by kernel_rfl) rfl (by decide) rfl fun p107 => aw_next (fun w hs => sat_pulls [1, 1, 1, 1, 1, 1, 1] (G := [own (eInt .u8) 5 p107 2 ([IntKind.u8.wrap (IntKind.i64.wrap ((s85.size : Int).tdiv 256)), IntKind.u8.wrap ((s85.size : Int))] : List Int)] ++ F0) rfl hs) ?_
            refine aw_two 1 11 (mi := 2043) (mj := 4089) (by kernel_rfl) (by kernel_rfl) (by kernel_rfl) ?_ ?_
            · refine pw_call (F := [own (eInt .u8) 5 p107 2 ([IntKind.u8.wrap (IntKind.i64.wrap ((s85.size : Int).tdiv 256)), IntKind.u8.wrap ((s85.size : Int))] : List Int), pt r21_b2 #[.slice r72_p4 r72.2.2.2.sure_.length r72_c5, .map (some r72_b7), .bool r72.2.2.2.off_, .bool r72.2.2.2.armed_, .int .i64 r72.2.2.2.left_, .int .u64 r72.2.2.2.fall_.Keep, .int .i64 r72.2.2.2.fall_.Tear, .int .i64 r72.2.2.2.acts_, .int .i64 r72.2.2.2.falls_] 62, own e_disk_sector 65 r72_p4 r72_c5 r72.2.2.2.sure_, mpo (kInt .i64) (fun x : disk_sector => Value.agg #[.string x.s_, .int .i64 x.at_]) r72_b7 r72.2.2.2.wait_, pt r28_b2 #[.pointer (some ⟨r28_b4, 0, none⟩), .int .i64 r72.2.1.base_, .int .i64 r72.2.1.size_, .int .i64 r72.2.1.next_, .int .i64 r72.2.1.last_, .slice r72_p1 r72.2.1.list_.length r72_c2, .int .i64 r72.2.1.sure_, .bool r72.2.1.dead_] 26, pt r28_b4 #[.pointer (some ⟨r21_b2, 0, none⟩), .int .i64 r72.2.2.1.boot_, .int .i64 r72.2.2.1.n_] 72, own eStr 9 r72_p1 r72_c2 r72.2.1.list_] ++ F0) rfl rfl rfl rfl rfl rfl rfl (by kernel_rfl) (perm_of_pulls [1] rfl) (c_guard_Eight _ x84 r101 h102) ?_
              rintro _ _ ⟨rfl, rfl⟩
              refine nw_H (H' := [imm I, own (eInt .u8) 5 p107 2 ([IntKind.u8.wrap (IntKind.i64.wrap ((s85.size : Int).tdiv 256)), IntKind.u8.wrap ((s85.size : Int))] : List Int), pt r21_b2 #[.slice r72_p4 r72.2.2.2.sure_.length r72_c5, .map (some r72_b7), .bool r72.2.2.2.off_, .bool r72.2.2.2.armed_, .int .i64 r72.2.2.2.left_, .int .u64 r72.2.2.2.fall_.Keep, .int .i64 r72.2.2.2.fall_.Tear, .int .i64 r72.2.2.2.acts_, .int .i64 r72.2.2.2.falls_] 62, own e_disk_sector 65 r72_p4 r72_c5 r72.2.2.2.sure_, mpo (kInt .i64) (fun x : disk_sector => Value.agg #[.string x.s_, .int .i64 x.at_]) r72_b7 r72.2.2.2.wait_, pt r28_b2 #[.pointer (some ⟨r28_b4, 0, none⟩), .int .i64 r72.2.1.base_, .int .i64 r72.2.1.size_, .int .i64 r72.2.1.next_, .int .i64 r72.2.1.last_, .slice r72_p1 r72.2.1.list_.length r72_c2, .int .i64 r72.2.1.sure_, .bool r72.2.1.dead_] 26, pt r28_b4 #[.pointer (some ⟨r21_b2, 0, none⟩), .int .i64 r72.2.2.1.boot_, .int .i64 r72.2.2.1.n_] 72, own eStr 9 r72_p1 r72_c2 r72.2.1.list_] ++ F0) rfl (aw_next (fun w hs => sat_pulls [0, 1, 1, 1, 1, 1, 1] (G := [own (eInt .u8) 5 p107 2 ([IntKind.u8.wrap (IntKind.i64.wrap ((s85.size : Int).tdiv 256)), IntKind.u8.wrap ((s85.size : Int))] : List Int)] ++ F0) rfl hs) ?_)
              refine aw_pure 2 (m' := 2047) (v := .string ((ByteArray.mk #[1]) ++ r101)) rfl rfl rfl rfl (by kernel_rfl) (by kernel_rfl) (fun _ _ _ _ _ h => calm_fin (P := Tryd.prog) (fn := Tryd.f4) _ _ _ _ _ h) (fun w hs => sat_pulls [0, 1, 1, 1, 1, 1, 1] (G := [own (eInt .u8) 5 p107 2 ([IntKind.u8.wrap (IntKind.i64.wrap ((s85.size : Int).tdiv 256)), IntKind.u8.wrap ((s85.size : Int))] : List Int)] ++ F0) rfl hs) (q_concat rfl rfl rfl h103) ?_
              refine aw_only 11 (m' := 4095) (by kernel_rfl) (by kernel_rfl) (pw_quiet (v := .string (bstr ([IntKind.u8.wrap (IntKind.i64.wrap ((s85.size : Int).tdiv 256)), IntKind.u8.wrap ((s85.size : Int))] : List Int))) rfl rfl rfl rfl (q_bytes_str_own 1 rfl rfl (by kernel_rfl) (by kernel_rfl) rfl) (aw_next (fun w hs => sat_pulls [0, 1, 1, 1, 1, 1, 1] (G := [own (eInt .u8) 5 p107 2 ([IntKind.u8.wrap (IntKind.i64.wrap ((s85.size : Int).tdiv 256)), IntKind.u8.wrap ((s85.size : Int))] : List Int)] ++ F0) rfl hs) ?_))
              refine aw_pure 12 (m' := 8191) (v := .string (((ByteArray.mk #[1]) ++ r101) ++ (bstr ([IntKind.u8.wrap (IntKind.i64.wrap ((s85.size : Int).tdiv 256)), IntKind.u8.wrap ((s85.size : Int))] : List Int)))) rfl rfl rfl rfl (by kernel_rfl) (by kernel_rfl) (fun _ _ _ _ _ h => calm_fin (P := Tryd.prog) (fn := Tryd.f4) _ _ _ _ _ h) (fun w hs => sat_pulls [0, 1, 1, 1, 1, 1, 1] (G := [own (eInt .u8) 5 p107 2 ([IntKind.u8.wrap (IntKind.i64.wrap ((s85.size : Int).tdiv 256)), IntKind.u8.wrap ((s85.size : Int))] : List Int)] ++ F0) rfl hs) (q_concat rfl rfl rfl h106) ?_
              refine aw_vals [13] (f' := 0) (m' := 16383) [0, 3, 5, 6, 8, 9, 10, 11, 12, 13, 14] [(0, .slice p0 x0.length c0), (3, .pointer (some ⟨r21_b2, 0, none⟩)), (5, .pointer (some ⟨r28_b2, 0, none⟩)), (6, .int .i64 x83), (8, .int .i64 x37), (9, .string s85), (10, .int .i64 x86), (11, .string r94.1), (12, .int .i64 r94.2.1), (13, .int .i64 r94.2.2), (14, .string (((ByteArray.mk #[1]) ++ r101) ++ (bstr ([IntKind.u8.wrap (IntKind.i64.wrap ((s85.size : Int).tdiv 256)), IntKind.u8.wrap ((s85.size : Int))] : List Int))))] (fun _ _ _ _ _ h => calm_fin (P := Tryd.prog) (fn := Tryd.f4) _ _ _ _ _ h) (fun w hs => sat_pulls [0, 1, 1, 1, 1, 1, 1] (G := [own (eInt .u8) 5 p107 2 ([IntKind.u8.wrap (IntKind.i64.wrap ((s85.size : Int).tdiv 256)), IntKind.u8.wrap ((s85.size : Int))] : List Int)] ++ F0) rfl hs) rfl (by kernel_rfl) ?_
              refine aw_keep [0, 3, 5, 6, 8, 9, 10, 11, 12, 13, 14] (L' := [(0, .slice p0 x0.length c0), (3, .pointer (some ⟨r21_b2, 0, none⟩)), (5, .pointer (some ⟨r28_b2, 0, none⟩)), (6, .int .i64 x83), (8, .int .i64 x37), (9, .string s85), (10, .int .i64 x86), (11, .string r94.1), (12, .int .i64 r94.2.1), (13, .int .i64 r94.2.2), (14, .string (((ByteArray.mk #[1]) ++ r101) ++ (bstr ([IntKind.u8.wrap (IntKind.i64.wrap ((s85.size : Int).tdiv 256)), IntKind.u8.wrap ((s85.size : Int))] : List Int))))]) rfl ?_
              refine aw_end (by kernel_rfl) ?_
              refine ew_then ?_
              refine cw_region ?_
              refine ow_vals 1 (j := 1) [0, 3, 5, 6, 8, 9, 10, 11, 12, 13, 14, 15] [(0, .slice p0 x0.length c0), (3, .pointer (some ⟨r21_b2, 0, none⟩)), (5, .pointer (some ⟨r28_b2, 0, none⟩)), (6, .int .i64 x83), (8, .int .i64 x37), (9, .string s85), (10, .int .i64 x86), (11, .string r94.1), (12, .int .i64 r94.2.1), (13, .int .i64 r94.2.2), (14, .string (((ByteArray.mk #[1]) ++ r101) ++ (bstr ([IntKind.u8.wrap (IntKind.i64.wrap ((s85.size : Int).tdiv 256)), IntKind.u8.wrap ((s85.size : Int))] : List Int)))), (15, .int .i64 36)] rfl (by kernel_rfl) ?_
              refine ow_end rfl ?_
              have hR := Option.some.inj hF
              exact fun a w hf hs => ⟨((ByteArray.mk #[1]) ++ r101) ++ (bstr ([IntKind.u8.wrap (IntKind.i64.wrap ((s85.size : Int).tdiv 256)), IntKind.u8.wrap ((s85.size : Int))] : List Int)), 36, hR, hf.keep [0, 3, 5, 6, 8, 9, 10, 11, 12, 13, 14, 15], sat_to [1, 0, 0, 2, 2, 0, 0, 0] 1 rfl hs⟩
            refine pw_quiet (v := .string (bstr ([IntKind.u8.wrap (IntKind.i64.wrap ((s85.size : Int).tdiv 256)), IntKind.u8.wrap ((s85.size : Int))] : List Int))) rfl rfl rfl rfl (q_bytes_str_own 0 rfl rfl (by kernel_rfl) (by kernel_rfl) rfl) (aw_next (fun w hs => sat_pulls [1, 1, 1, 1, 1, 1, 1] (G := [own (eInt .u8) 5 p107 2 ([IntKind.u8.wrap (IntKind.i64.wrap ((s85.size : Int).tdiv 256)), IntKind.u8.wrap ((s85.size : Int))] : List Int)] ++ F0) rfl hs) ?_)
            refine aw_only 1 (m' := 4091) (by kernel_rfl) (by kernel_rfl) (pw_call (F := [own (eInt .u8) 5 p107 2 ([IntKind.u8.wrap (IntKind.i64.wrap ((s85.size : Int).tdiv 256)), IntKind.u8.wrap ((s85.size : Int))] : List Int), pt r21_b2 #[.slice r72_p4 r72.2.2.2.sure_.length r72_c5, .map (some r72_b7), .bool r72.2.2.2.off_, .bool r72.2.2.2.armed_, .int .i64 r72.2.2.2.left_, .int .u64 r72.2.2.2.fall_.Keep, .int .i64 r72.2.2.2.fall_.Tear, .int .i64 r72.2.2.2.acts_, .int .i64 r72.2.2.2.falls_] 62, own e_disk_sector 65 r72_p4 r72_c5 r72.2.2.2.sure_, mpo (kInt .i64) (fun x : disk_sector => Value.agg #[.string x.s_, .int .i64 x.at_]) r72_b7 r72.2.2.2.wait_, pt r28_b2 #[.pointer (some ⟨r28_b4, 0, none⟩), .int .i64 r72.2.1.base_, .int .i64 r72.2.1.size_, .int .i64 r72.2.1.next_, .int .i64 r72.2.1.last_, .slice r72_p1 r72.2.1.list_.length r72_c2, .int .i64 r72.2.1.sure_, .bool r72.2.1.dead_] 26, pt r28_b4 #[.pointer (some ⟨r21_b2, 0, none⟩), .int .i64 r72.2.2.1.boot_, .int .i64 r72.2.2.1.n_] 72, own eStr 9 r72_p1 r72_c2 r72.2.1.list_] ++ F0) rfl rfl rfl rfl rfl rfl rfl (by kernel_rfl) (perm_of_pulls [1] rfl) (c_guard_Eight _ x84 r101 h102) ?_)
            rintro _ _ ⟨rfl, rfl⟩
            refine nw_H (H' := [imm I, own (eInt .u8) 5 p107 2 ([IntKind.u8.wrap (IntKind.i64.wrap ((s85.size : Int).tdiv 256)), IntKind.u8.wrap ((s85.size : Int))] : List Int), pt r21_b2 #[.slice r72_p4 r72.2.2.2.sure_.length r72_c5, .map (some r72_b7), .bool r72.2.2.2.off_, .bool r72.2.2.2.armed_, .int .i64 r72.2.2.2.left_, .int .u64 r72.2.2.2.fall_.Keep, .int .i64 r72.2.2.2.fall_.Tear, .int .i64 r72.2.2.2.acts_, .int .i64 r72.2.2.2.falls_] 62, own e_disk_sector 65 r72_p4 r72_c5 r72.2.2.2.sure_, mpo (kInt .i64) (fun x : disk_sector => Value.agg #[.string x.s_, .int .i64 x.at_]) r72_b7 r72.2.2.2.wait_, pt r28_b2 #[.pointer (some ⟨r28_b4, 0, none⟩), .int .i64 r72.2.1.base_, .int .i64 r72.2.1.size_, .int .i64 r72.2.1.next_, .int .i64 r72.2.1.last_, .slice r72_p1 r72.2.1.list_.length r72_c2, .int .i64 r72.2.1.sure_, .bool r72.2.1.dead_] 26, pt r28_b4 #[.pointer (some ⟨r21_b2, 0, none⟩), .int .i64 r72.2.2.1.boot_, .int .i64 r72.2.2.1.n_] 72, own eStr 9 r72_p1 r72_c2 r72.2.1.list_] ++ F0) rfl (aw_next (fun w hs => sat_pulls [0, 1, 1, 1, 1, 1, 1] (G := [own (eInt .u8) 5 p107 2 ([IntKind.u8.wrap (IntKind.i64.wrap ((s85.size : Int).tdiv 256)), IntKind.u8.wrap ((s85.size : Int))] : List Int)] ++ F0) rfl hs) ?_)
            refine aw_pure 2 (m' := 4095) (v := .string ((ByteArray.mk #[1]) ++ r101)) rfl rfl rfl rfl (by kernel_rfl) (by kernel_rfl) (fun _ _ _ _ _ h => calm_fin (P := Tryd.prog) (fn := Tryd.f4) _ _ _ _ _ h) (fun w hs => sat_pulls [0, 1, 1, 1, 1, 1, 1] (G := [own (eInt .u8) 5 p107 2 ([IntKind.u8.wrap (IntKind.i64.wrap ((s85.size : Int).tdiv 256)), IntKind.u8.wrap ((s85.size : Int))] : List Int)] ++ F0) rfl hs) (q_concat rfl rfl rfl h103) ?_
            refine aw_pure 12 (m' := 8191) (v := .string (((ByteArray.mk #[1]) ++ r101) ++ (bstr ([IntKind.u8.wrap (IntKind.i64.wrap ((s85.size : Int).tdiv 256)), IntKind.u8.wrap ((s85.size : Int))] : List Int)))) rfl rfl rfl rfl (by kernel_rfl) (by kernel_rfl) (fun _ _ _ _ _ h => calm_fin (P := Tryd.prog) (fn := Tryd.f4) _ _ _ _ _ h) (fun w hs => sat_pulls [0, 1, 1, 1, 1, 1, 1] (G := [own (eInt .u8) 5 p107 2 ([IntKind.u8.wrap (IntKind.i64.wrap ((s85.size : Int).tdiv 256)), IntKind.u8.wrap ((s85.size : Int))] : List Int)] ++ F0) rfl hs) (q_concat rfl rfl rfl h106) ?_
            refine aw_vals [13] (f' := 0) (m' := 16383) [0, 3, 5, 6, 8, 9, 10, 11, 12, 13, 14] [(0, .slice p0 x0.length c0), (3, .pointer (some ⟨r21_b2, 0, none⟩)), (5, .pointer (some ⟨r28_b2, 0, none⟩)), (6, .int .i64 x83), (8, .int .i64 x37), (9, .string s85), (10, .int .i64 x86), (11, .string r94.1), (12, .int .i64 r94.2.1), (13, .int .i64 r94.2.2), (14, .string (((ByteArray.mk #[1]) ++ r101) ++ (bstr ([IntKind.u8.wrap (IntKind.i64.wrap ((s85.size : Int).tdiv 256)), IntKind.u8.wrap ((s85.size : Int))] : List Int))))] (fun _ _ _ _ _ h => calm_fin (P := Tryd.prog) (fn := Tryd.f4) _ _ _ _ _ h) (fun w hs => sat_pulls [0, 1, 1, 1, 1, 1, 1] (G := [own (eInt .u8) 5 p107 2 ([IntKind.u8.wrap (IntKind.i64.wrap ((s85.size : Int).tdiv 256)), IntKind.u8.wrap ((s85.size : Int))] : List Int)] ++ F0) rfl hs) rfl (by kernel_rfl) ?_
            refine aw_keep [0, 3, 5, 6, 8, 9, 10, 11, 12, 13, 14] (L' := [(0, .slice p0 x0.length c0), (3, .pointer (some ⟨r21_b2, 0, none⟩)), (5, .pointer (some ⟨r28_b2, 0, none⟩)), (6, .int .i64 x83), (8, .int .i64 x37), (9, .string s85), (10, .int .i64 x86), (11, .string r94.1), (12, .int .i64 r94.2.1), (13, .int .i64 r94.2.2), (14, .string (((ByteArray.mk #[1]) ++ r101) ++ (bstr ([IntKind.u8.wrap (IntKind.i64.wrap ((s85.size : Int).tdiv 256)), IntKind.u8.wrap ((s85.size : Int))] : List Int))))]) rfl ?_
            refine aw_end (by kernel_rfl) ?_
            refine ew_then ?_
            refine cw_region ?_
            refine ow_vals 1 (j := 1) [0, 3, 5, 6, 8, 9, 10, 11, 12, 13, 14, 15] [(0, .slice p0 x0.length c0), (3, .pointer (some ⟨r21_b2, 0, none⟩)), (5, .pointer (some ⟨r28_b2, 0, none⟩)), (6, .int .i64 x83), (8, .int .i64 x37), (9, .string s85), (10, .int .i64 x86), (11, .string r94.1), (12, .int .i64 r94.2.1), (13, .int .i64 r94.2.2), (14, .string (((ByteArray.mk #[1]) ++ r101) ++ (bstr ([IntKind.u8.wrap (IntKind.i64.wrap ((s85.size : Int).tdiv 256)), IntKind.u8.wrap ((s85.size : Int))] : List Int)))), (15, .int .i64 36)] rfl (by kernel_rfl) ?_
            refine ow_end rfl ?_
            have hR := Option.some.inj hF
            exact fun a w hf hs => ⟨((ByteArray.mk #[1]) ++ r101) ++ (bstr ([IntKind.u8.wrap (IntKind.i64.wrap ((s85.size : Int).tdiv 256)), IntKind.u8.wrap ((s85.size : Int))] : List Int)), 36, hR, hf.keep [0, 3, 5, 6, 8, 9, 10, 11, 12, 13, 14, 15], sat_to [1, 0, 0, 2, 2, 0, 0, 0] 1 rfl hs⟩
          refine cw_cond_f rfl rfl h100 ?_
          refine cw_skip ?_
          have hR := Option.some.inj hF
          exact fun a w hf hs => ⟨(ByteArray.mk #[2]) ++ r96, 38, hR, hf.keep [0, 3, 5, 6, 8, 9, 10, 11, 12, 13, 14, 15], sat_to [0, 0, 2, 2, 0, 0, 0] 0 rfl hs⟩
        rintro a w ⟨s109, x110, hv, hf, hs⟩
        subst hv
        replace hF := hK99
        clear hK99
        try dsimp only at hF
        revert a w
        show CW _ _ _ 117 [(0, .slice p0 x0.length c0), (3, .pointer (some ⟨r21_b2, 0, none⟩)), (5, .pointer (some ⟨r28_b2, 0, none⟩)), (6, .int .i64 x83), (8, .int .i64 x37), (9, .string s85), (10, .int .i64 x86), (11, .string r94.1), (12, .int .i64 r94.2.1), (13, .int .i64 r94.2.2), (14, .string s109), (15, .int .i64 x110)] (SAT w0 ([imm I, pt r21_b2 #[.slice r72_p4 r72.2.2.2.sure_.length r72_c5, .map (some r72_b7), .bool r72.2.2.2.off_, .bool r72.2.2.2.armed_, .int .i64 r72.2.2.2.left_, .int .u64 r72.2.2.2.fall_.Keep, .int .i64 r72.2.2.2.fall_.Tear, .int .i64 r72.2.2.2.acts_, .int .i64 r72.2.2.2.falls_] 62, pt r28_b2 #[.pointer (some ⟨r28_b4, 0, none⟩), .int .i64 r72.2.1.base_, .int .i64 r72.2.1.size_, .int .i64 r72.2.1.next_, .int .i64 r72.2.1.last_, .slice r72_p1 r72.2.1.list_.length r72_c2, .int .i64 r72.2.1.sure_, .bool r72.2.1.dead_] 26, pt r28_b4 #[.pointer (some ⟨r21_b2, 0, none⟩), .int .i64 r72.2.2.1.boot_, .int .i64 r72.2.2.1.n_] 72, own e_disk_sector 65 r72_p4 r72_c5 r72.2.2.2.sure_, mpo (kInt .i64) (fun x : disk_sector => Value.agg #[.string x.s_, .int .i64 x.at_]) r72_b7 r72.2.2.2.wait_, own eStr 9 r72_p1 r72_c2 r72.2.1.list_] ++ F0))
        unfold F.law12_JournalSectors.r3 at hF
        obtain ⟨v111, hF, hK111⟩ := bind_some hF
        refine cw_mid (fun a w => ∃ (x113 : Int), x113 = v111 ∧ Fr 117 [(0, .slice p0 x0.length c0), (3, .pointer (some ⟨r21_b2, 0, none⟩)), (5, .pointer (some ⟨r28_b2, 0, none⟩)), (6, .int .i64 x83), (8, .int .i64 x37), (9, .string s85), (10, .int .i64 x86), (11, .string r94.1), (12, .int .i64 r94.2.1), (13, .int .i64 r94.2.2), (14, .string s109), (15, .int .i64 x113)] a ∧ SAT w0 ([imm I, pt r21_b2 #[.slice r72_p4 r72.2.2.2.sure_.length r72_c5, .map (some r72_b7), .bool r72.2.2.2.off_, .bool r72.2.2.2.armed_, .int .i64 r72.2.2.2.left_, .int .u64 r72.2.2.2.fall_.Keep, .int .i64 r72.2.2.2.fall_.Tear, .int .i64 r72.2.2.2.acts_, .int .i64 r72.2.2.2.falls_] 62, pt r28_b2 #[.pointer (some ⟨r28_b4, 0, none⟩), .int .i64 r72.2.1.base_, .int .i64 r72.2.1.size_, .int .i64 r72.2.1.next_, .int .i64 r72.2.1.last_, .slice r72_p1 r72.2.1.list_.length r72_c2, .int .i64 r72.2.1.sure_, .bool r72.2.1.dead_] 26, pt r28_b4 #[.pointer (some ⟨r21_b2, 0, none⟩), .int .i64 r72.2.2.1.boot_, .int .i64 r72.2.2.1.n_] 72, own e_disk_sector 65 r72_p4 r72_c5 r72.2.2.2.sure_, mpo (kInt .i64) (fun x : disk_sector => Value.agg #[.string x.s_, .int .i64 x.at_]) r72_b7 r72.2.2.2.wait_, own eStr 9 r72_p1 r72_c2 r72.2.1.list_] ++ F0) w) ?_ ?_
        · refine cw_seq ?_
          refine cw_region ?_
          refine ow_vals 4 (j := 4) [0, 3, 5, 6, 8, 9, 10, 11, 12, 13, 14, 15, 89] [(0, .slice p0 x0.length c0), (3, .pointer (some ⟨r21_b2, 0, none⟩)), (5, .pointer (some ⟨r28_b2, 0, none⟩)), (6, .int .i64 x83), (8, .int .i64 x37), (9, .string s85), (10, .int .i64 x86), (11, .string r94.1), (12, .int .i64 r94.2.1), (13, .int .i64 r94.2.2), (14, .string s109), (15, .int .i64 x110), (89, .bool (decide (x110 > (s85.size : Int))))] rfl (by kernel_rfl) ?_
          refine ow_end rfl ?_
          refine ew_then ?_
          rcases if_some hF with ⟨h112, hF⟩ | ⟨h112, hF⟩
          · refine cw_cond_t rfl rfl h112 ?_
            refine cw_region ?_
            refine ow_vals 3 (j := 3) [0, 3, 5, 6, 8, 9, 10, 11, 12, 13, 14, 15] [(0, .slice p0 x0.length c0), (3, .pointer (some ⟨r21_b2, 0, none⟩)), (5, .pointer (some ⟨r28_b2, 0, none⟩)), (6, .int .i64 x83), (8, .int .i64 x37), (9, .string s85), (10, .int .i64 x86), (11, .string r94.1), (12, .int .i64 r94.2.1), (13, .int .i64 r94.2.2), (14, .string s109), (15, .int .i64 (s85.size : Int))] rfl (by kernel_rfl) ?_
            refine ow_end rfl ?_
            have hR := Option.some.inj hF
            exact fun a w hf hs => ⟨(s85.size : Int), hR, hf.keep [0, 3, 5, 6, 8, 9, 10, 11, 12, 13, 14, 15], sat_to [0, 0, 0, 0, 0, 0, 0] 0 rfl hs⟩
          refine cw_cond_f rfl rfl h112 ?_
          refine cw_skip ?_
          have hR := Option.some.inj hF
          exact fun a w hf hs => ⟨x110, hR, hf.keep [0, 3, 5, 6, 8, 9, 10, 11, 12, 13, 14, 15], sat_to [0, 0, 0, 0, 0, 0, 0] 0 rfl hs⟩
        rintro a w ⟨x113, hv, hf, hs⟩
        subst hv
        replace hF := hK111
        clear hK111
        try dsimp only at hF
        revert a w
        show CW _ _ _ 117 [(0, .slice p0 x0.length c0), (3, .pointer (some ⟨r21_b2, 0, none⟩)), (5, .pointer (some ⟨r28_b2, 0, none⟩)), (6, .int .i64 x83), (8, .int .i64 x37), (9, .string s85), (10, .int .i64 x86), (11, .string r94.1), (12, .int .i64 r94.2.1), (13, .int .i64 r94.2.2), (14, .string s109), (15, .int .i64 x113)] (SAT w0 ([imm I, pt r21_b2 #[.slice r72_p4 r72.2.2.2.sure_.length r72_c5, .map (some r72_b7), .bool r72.2.2.2.off_, .bool r72.2.2.2.armed_, .int .i64 r72.2.2.2.left_, .int .u64 r72.2.2.2.fall_.Keep, .int .i64 r72.2.2.2.fall_.Tear, .int .i64 r72.2.2.2.acts_, .int .i64 r72.2.2.2.falls_] 62, pt r28_b2 #[.pointer (some ⟨r28_b4, 0, none⟩), .int .i64 r72.2.1.base_, .int .i64 r72.2.1.size_, .int .i64 r72.2.1.next_, .int .i64 r72.2.1.last_, .slice r72_p1 r72.2.1.list_.length r72_c2, .int .i64 r72.2.1.sure_, .bool r72.2.1.dead_] 26, pt r28_b4 #[.pointer (some ⟨r21_b2, 0, none⟩), .int .i64 r72.2.2.1.boot_, .int .i64 r72.2.2.1.n_] 72, own e_disk_sector 65 r72_p4 r72_c5 r72.2.2.2.sure_, mpo (kInt .i64) (fun x : disk_sector => Value.agg #[.string x.s_, .int .i64 x.at_]) r72_b7 r72.2.2.2.wait_, own eStr 9 r72_p1 r72_c2 r72.2.1.list_] ++ F0))
        unfold F.law12_JournalSectors.r4 at hF
        obtain ⟨v114, hF, hK114⟩ := thru_some hF
        refine cw_mid (fun a w => .inl () = v114 ∧ Fr 117 [(0, .slice p0 x0.length c0), (3, .pointer (some ⟨r21_b2, 0, none⟩)), (5, .pointer (some ⟨r28_b2, 0, none⟩)), (6, .int .i64 x83), (8, .int .i64 x37), (9, .string s85), (10, .int .i64 x86), (12, .int .i64 r94.2.1), (15, .int .i64 x113)] a ∧ SAT w0 ([imm I, pt r21_b2 #[.slice r72_p4 r72.2.2.2.sure_.length r72_c5, .map (some r72_b7), .bool r72.2.2.2.off_, .bool r72.2.2.2.armed_, .int .i64 r72.2.2.2.left_, .int .u64 r72.2.2.2.fall_.Keep, .int .i64 r72.2.2.2.fall_.Tear, .int .i64 r72.2.2.2.acts_, .int .i64 r72.2.2.2.falls_] 62, pt r28_b2 #[.pointer (some ⟨r28_b4, 0, none⟩), .int .i64 r72.2.1.base_, .int .i64 r72.2.1.size_, .int .i64 r72.2.1.next_, .int .i64 r72.2.1.last_, .slice r72_p1 r72.2.1.list_.length r72_c2, .int .i64 r72.2.1.sure_, .bool r72.2.1.dead_] 26, pt r28_b4 #[.pointer (some ⟨r21_b2, 0, none⟩), .int .i64 r72.2.2.1.boot_, .int .i64 r72.2.2.1.n_] 72, own e_disk_sector 65 r72_p4 r72_c5 r72.2.2.2.sure_, mpo (kInt .i64) (fun x : disk_sector => Value.agg #[.string x.s_, .int .i64 x.at_]) r72_b7 r72.2.2.2.wait_, own eStr 9 r72_p1 r72_c2 r72.2.1.list_] ++ F0) w) ?_ ?_
        · refine cw_seq ?_
          refine cw_region ?_
          refine ow_vals 3 (j := 3) [0, 3, 5, 6, 8, 9, 10, 11, 12, 14, 15, 94] [(0, .slice p0 x0.length c0), (3, .pointer (some ⟨r21_b2, 0, none⟩)), (5, .pointer (some ⟨r28_b2, 0, none⟩)), (6, .int .i64 x83), (8, .int .i64 x37), (9, .string s85), (10, .int .i64 x86), (11, .string r94.1), (12, .int .i64 r94.2.1), (14, .string s109), (15, .int .i64 x113), (94, .bool (r94.2.2 != 0))] rfl (by kernel_rfl) ?_
          rcases if_some hF with ⟨h115, hF⟩ | ⟨h115, hF⟩
          · refine ow_slots (L' := [(0, .slice p0 x0.length c0), (3, .pointer (some ⟨r21_b2, 0, none⟩)), (5, .pointer (some ⟨r28_b2, 0, none⟩)), (6, .int .i64 x83), (8, .int .i64 x37), (9, .string s85), (10, .int .i64 x86), (11, .string r94.1), (12, .int .i64 r94.2.1), (14, .string s109), (15, .int .i64 x113), (94, .bool true)]) (by rw [h115]) ?_
            refine ow_vals 8 (j := 11) [0, 3, 5, 6, 8, 9, 10, 12, 15, 102] [(0, .slice p0 x0.length c0), (3, .pointer (some ⟨r21_b2, 0, none⟩)), (5, .pointer (some ⟨r28_b2, 0, none⟩)), (6, .int .i64 x83), (8, .int .i64 x37), (9, .string s85), (10, .int .i64 x86), (12, .int .i64 r94.2.1), (15, .int .i64 x113), (102, .bool true)] rfl (by kernel_rfl) ?_
            refine ow_end rfl ?_
            refine ew_then ?_
            refine cw_cond_t rfl rfl rfl ?_
            refine cw_seq ?_
            refine cw_region ?_
            refine ow_vals 1 (j := 1) [2] [(2, .bool false)] rfl (by kernel_rfl) ?_
            refine ow_end rfl ?_
            refine ew_then ?_
            refine cw_ret ?_
            refine ew_then_ret ?_
            refine ew_blk_ret ?_
            refine ew_then_ret ?_
            refine ew_then_ret ?_
            refine ew_blk_ret ?_
            refine ew_blk_ret ?_
            refine ew_then_ret ?_
            refine ew_then_ret ?_
            refine ew_blk_ret ?_
            refine ew_then_ret ?_
            have hR := Option.some.inj hF
            subst hR
            have hR := hK114
            try dsimp only [Thru] at hR
            subst hR
            have hR := hL82
            try dsimp only at hR
            subst hR
            have hR := hK67
            try dsimp only [Thru] at hR
            subst hR
            have hR := hL34
            try dsimp only at hR
            subst hR
            have hR := hK33
            try dsimp only [Thru] at hR
            subst hR
            exact fin1 (H1 := [imm I]) (fun w hs => sat_to [1, 1, 1, 1, 1, 1, 0] 6 rfl hs) rfl (rr_tmp rfl) ⟨rfl, rfl⟩
          refine ow_slots (L' := [(0, .slice p0 x0.length c0), (3, .pointer (some ⟨r21_b2, 0, none⟩)), (5, .pointer (some ⟨r28_b2, 0, none⟩)), (6, .int .i64 x83), (8, .int .i64 x37), (9, .string s85), (10, .int .i64 x86), (11, .string r94.1), (12, .int .i64 r94.2.1), (14, .string s109), (15, .int .i64 x113), (94, .bool false)]) (by rw [h115]) ?_
          refine ow_vals 4 (j := 7) [0, 3, 5, 6, 8, 9, 10, 12, 15, 94, 95, 96, 97, 98] [(0, .slice p0 x0.length c0), (3, .pointer (some ⟨r21_b2, 0, none⟩)), (5, .pointer (some ⟨r28_b2, 0, none⟩)), (6, .int .i64 x83), (8, .int .i64 x37), (9, .string s85), (10, .int .i64 x86), (12, .int .i64 r94.2.1), (15, .int .i64 x113), (94, .bool false), (95, .string r94.1), (96, .string s109), (97, .string s85), (98, .int .i64 x113)] rfl (by kernel_rfl) ?_
          obtain ⟨h116, hF⟩ := chk_some hF
          refine ow_pw rfl (pw_quiet (v := .string (s85.extract (0 : Int).toNat x113.toNat)) rfl rfl rfl rfl (q_slice_str rfl (by kernel_rfl) rfl rfl rfl h116.1 h116.2.1 h116.2.2) (nw_ow ?_))
          obtain ⟨h117, hF⟩ := chk_some hF
          refine ow_pw rfl (pw_quiet (v := .string (s109 ++ (s85.extract (0 : Int).toNat x113.toNat))) rfl rfl rfl rfl (q_concat rfl rfl rfl h117) (nw_ow ?_))
          refine ow_vals 2 (j := 11) [0, 3, 5, 6, 8, 9, 10, 12, 15, 102] [(0, .slice p0 x0.length c0), (3, .pointer (some ⟨r21_b2, 0, none⟩)), (5, .pointer (some ⟨r28_b2, 0, none⟩)), (6, .int .i64 x83), (8, .int .i64 x37), (9, .string s85), (10, .int .i64 x86), (12, .int .i64 r94.2.1), (15, .int .i64 x113), (102, .bool (!(seqB r94.1 (s109 ++ (s85.extract (0 : Int).toNat x113.toNat)))))] rfl (by kernel_rfl) ?_
          refine ow_end rfl ?_
          refine ew_then ?_
          rcases if_some hF with ⟨h118, hF⟩ | ⟨h118, hF⟩
          · refine cw_cond_t rfl rfl h118 ?_
            refine cw_seq ?_
            refine cw_region ?_
            refine ow_vals 1 (j := 1) [2] [(2, .bool false)] rfl (by kernel_rfl) ?_
            refine ow_end rfl ?_
            refine ew_then ?_
            refine cw_ret ?_
            refine ew_then_ret ?_
            refine ew_blk_ret ?_
            refine ew_then_ret ?_
            refine ew_then_ret ?_
            refine ew_blk_ret ?_
            refine ew_blk_ret ?_
            refine ew_then_ret ?_
            refine ew_then_ret ?_
            refine ew_blk_ret ?_
            refine ew_then_ret ?_
            have hR := Option.some.inj hF
            subst hR
            have hR := hK114
            try dsimp only [Thru] at hR
            subst hR
            have hR := hL82
            try dsimp only at hR
            subst hR
            have hR := hK67
            try dsimp only [Thru] at hR
            subst hR
            have hR := hL34
            try dsimp only at hR
            subst hR
            have hR := hK33
            try dsimp only [Thru] at hR
            subst hR
            exact fin1 (H1 := [imm I]) (fun w hs => sat_to [1, 1, 1, 1, 1, 1, 0] 6 rfl hs) rfl (rr_tmp rfl) ⟨rfl, rfl⟩
          refine cw_cond_f rfl rfl h118 ?_
          refine cw_skip ?_
          have hR := Option.some.inj hF
          exact fun a w hf hs => ⟨hR, hf.keep [0, 3, 5, 6, 8, 9, 10, 12, 15], sat_to [0, 0, 0, 0, 0, 0, 0] 0 rfl hs⟩
        rintro a w ⟨hv, hf, hs⟩
        subst hv
        replace hF := hK114
        clear hK114
        try dsimp only [Thru] at hF
        revert a w
        show CW _ _ _ 117 [(0, .slice p0 x0.length c0), (3, .pointer (some ⟨r21_b2, 0, none⟩)), (5, .pointer (some ⟨r28_b2, 0, none⟩)), (6, .int .i64 x83), (8, .int .i64 x37), (9, .string s85), (10, .int .i64 x86), (12, .int .i64 r94.2.1), (15, .int .i64 x113)] (SAT w0 ([imm I, pt r21_b2 #[.slice r72_p4 r72.2.2.2.sure_.length r72_c5, .map (some r72_b7), .bool r72.2.2.2.off_, .bool r72.2.2.2.armed_, .int .i64 r72.2.2.2.left_, .int .u64 r72.2.2.2.fall_.Keep, .int .i64 r72.2.2.2.fall_.Tear, .int .i64 r72.2.2.2.acts_, .int .i64 r72.2.2.2.falls_] 62, pt r28_b2 #[.pointer (some ⟨r28_b4, 0, none⟩), .int .i64 r72.2.1.base_, .int .i64 r72.2.1.size_, .int .i64 r72.2.1.next_, .int .i64 r72.2.1.last_, .slice r72_p1 r72.2.1.list_.length r72_c2, .int .i64 r72.2.1.sure_, .bool r72.2.1.dead_] 26, pt r28_b4 #[.pointer (some ⟨r21_b2, 0, none⟩), .int .i64 r72.2.2.1.boot_, .int .i64 r72.2.2.1.n_] 72, own e_disk_sector 65 r72_p4 r72_c5 r72.2.2.2.sure_, mpo (kInt .i64) (fun x : disk_sector => Value.agg #[.string x.s_, .int .i64 x.at_]) r72_b7 r72.2.2.2.wait_, own eStr 9 r72_p1 r72_c2 r72.2.1.list_] ++ F0))
        unfold F.law12_JournalSectors.r5 at hF
        refine cw_seq ?_
        refine cw_region ?_
        refine ow_vals 2 (j := 2) [0, 3, 5, 6, 8, 10, 12, 103, 104] [(0, .slice p0 x0.length c0), (3, .pointer (some ⟨r21_b2, 0, none⟩)), (5, .pointer (some ⟨r28_b2, 0, none⟩)), (6, .int .i64 x83), (8, .int .i64 x37), (10, .int .i64 x86), (12, .int .i64 r94.2.1), (103, .string s85), (104, .int .i64 x113)] rfl (by kernel_rfl) ?_
        obtain ⟨h119, hF⟩ := chk_some hF
        refine ow_pw rfl (pw_quiet (v := .string (s85.extract x113.toNat (s85.size : Int).toNat)) rfl rfl rfl rfl (q_slice_str rfl (by kernel_rfl) rfl rfl rfl h119.1 h119.2.1 h119.2.2) (nw_ow ?_))
        refine ow_vals 1 (j := 4) [0, 3, 5, 6, 8, 9, 10, 12] [(0, .slice p0 x0.length c0), (3, .pointer (some ⟨r21_b2, 0, none⟩)), (5, .pointer (some ⟨r28_b2, 0, none⟩)), (6, .int .i64 x83), (8, .int .i64 x37), (9, .string (s85.extract x113.toNat (s85.size : Int).toNat)), (10, .int .i64 x86), (12, .int .i64 r94.2.1)] rfl (by kernel_rfl) ?_
        refine ow_end rfl ?_
        refine ew_then ?_
        refine cw_seq ?_
        refine cw_region ?_
        refine ow_vals 2 (j := 2) [0, 3, 5, 6, 7, 8, 9, 10] [(0, .slice p0 x0.length c0), (3, .pointer (some ⟨r21_b2, 0, none⟩)), (5, .pointer (some ⟨r28_b2, 0, none⟩)), (6, .int .i64 x83), (7, .int .i64 r94.2.1), (8, .int .i64 x37), (9, .string (s85.extract x113.toNat (s85.size : Int).toNat)), (10, .int .i64 x86)] rfl (by kernel_rfl) ?_
        refine ow_end rfl ?_
        refine ew_then ?_
        refine cw_region ?_
        refine ow_vals 3 (j := 3) [0, 3, 5, 6, 7, 8, 9, 10] [(0, .slice p0 x0.length c0), (3, .pointer (some ⟨r21_b2, 0, none⟩)), (5, .pointer (some ⟨r28_b2, 0, none⟩)), (6, .int .i64 (IntKind.i64.wrap (x83 + 1))), (7, .int .i64 r94.2.1), (8, .int .i64 x37), (9, .string (s85.extract x113.toNat (s85.size : Int).toNat)), (10, .int .i64 x86)] rfl (by kernel_rfl) ?_
        refine ow_end rfl ?_
        refine ew_blk ?_
        refine ew_then ?_
        refine cw_region ?_
        refine ow_vals 3 (j := 3) [0, 3, 5, 6, 7, 8, 9, 10] [(0, .slice p0 x0.length c0), (3, .pointer (some ⟨r21_b2, 0, none⟩)), (5, .pointer (some ⟨r28_b2, 0, none⟩)), (6, .int .i64 (IntKind.i64.wrap (x83 + 1))), (7, .int .i64 r94.2.1), (8, .int .i64 x37), (9, .string (s85.extract x113.toNat (s85.size : Int).toNat)), (10, .int .i64 (IntKind.i64.wrap (x86 + 1)))] rfl (by kernel_rfl) ?_
        refine ow_end rfl ?_
        have hR := Option.some.inj hF
        subst hR
        have hR := hL82
        try dsimp only at hR
        exact fun a w hf hs => ⟨k, Nat.lt_succ_self k, IntKind.i64.wrap (x83 + 1), r94.2.1, s85.extract x113.toNat (s85.size : Int).toNat, IntKind.i64.wrap (x86 + 1), hR, hf.keep [0, 3, 5, 6, 7, 8, 9, 10], sat_to [0, 1, 1, 0, 2, 0, 0] 0 rfl hs⟩
      refine cw_cond_f rfl rfl h93 ?_
      refine cw_exit ?_
      refine ew_then_exit ?_
      refine ew_then_exit ?_
      refine ew_blk_exit ?_
      refine ew_blk ?_
      have hR := Option.some.inj hF
      subst hR
      have hR := hL82
      try dsimp only at hR
      exact fun a w hf hs => ⟨x83, x84, r72.2.1.base_, r72.2.1.size_, r72.2.1.next_, r72.2.1.last_, r72.2.1.list_, r72.2.1.sure_, r72.2.1.dead_, r72.2.2.1.boot_, r72.2.2.1.n_, r72.2.2.2.sure_, r72.2.2.2.wait_, r72.2.2.2.off_, r72.2.2.2.armed_, r72.2.2.2.left_, r72.2.2.2.fall_.Keep, r72.2.2.2.fall_.Tear, r72.2.2.2.acts_, r72.2.2.2.falls_, r72_p1, r72_c2, r72_p4, r72_c5, r72_b7, hR, hf.keep [0, 3, 5, 6, 7, 8], sat_to [0, 0, 0, 0, 0, 0, 0] 0 rfl hs⟩
    rintro a w ⟨x120, x121, x122, x123, x124, x125, l126, x130, x131, x132, x133, l134, l138, x141, x142, x143, x144, x145, x146, x147, p127, c128, p135, c136, b140, hv, hf, hs⟩
    subst hv
    replace hF := hK67
    clear hK67
    try dsimp only [Thru] at hF
    revert a w
    show CW _ _ _ 117 [(0, .slice p0 x0.length c0), (3, .pointer (some ⟨r21_b2, 0, none⟩)), (5, .pointer (some ⟨r28_b2, 0, none⟩)), (6, .int .i64 x120), (7, .int .i64 x121), (8, .int .i64 x37)] (SAT w0 ([imm I, pt r28_b2 #[.pointer (some ⟨r28_b4, 0, none⟩), .int .i64 x122, .int .i64 x123, .int .i64 x124, .int .i64 x125, .slice p127 l126.length c128, .int .i64 x130, .bool x131] 26, pt r28_b4 #[.pointer (some ⟨r21_b2, 0, none⟩), .int .i64 x132, .int .i64 x133] 72, pt r21_b2 #[.slice p135 l134.length c136, .map (some b140), .bool x141, .bool x142, .int .i64 x143, .int .u64 x144, .int .i64 x145, .int .i64 x146, .int .i64 x147] 62, own eStr 9 p127 c128 l126, own e_disk_sector 65 p135 c136 l134, mpo (kInt .i64) (fun x : disk_sector => Value.agg #[.string x.s_, .int .i64 x.at_]) b140 l138] ++ F0))
    unfold F.law12_JournalSectors.r7 at hF
    refine cw_region ?_
    refine ow_vals 3 (j := 3) [0, 3, 5, 6, 7, 8] [(0, .slice p0 x0.length c0), (3, .pointer (some ⟨r21_b2, 0, none⟩)), (5, .pointer (some ⟨r28_b2, 0, none⟩)), (6, .int .i64 x120), (7, .int .i64 x121), (8, .int .i64 (IntKind.i64.wrap (x37 + 1)))] rfl (by kernel_rfl) ?_
    refine ow_end rfl ?_
    have hR := Option.some.inj hF
    subst hR
    have hR := hL34
    try dsimp only at hR
    exact fun a w hf hs => ⟨k, Nat.lt_succ_self k, x120, x121, IntKind.i64.wrap (x37 + 1), l134, l138, x141, x142, x143, x144, x145, x146, x147, x132, x133, x122, x123, x124, x125, l126, x130, x131, p135, c136, b140, p127, c128, hR, hf.keep [0, 3, 5, 6, 7, 8], sat_to [0, 2, 1, 0, 1, 1, 0] 0 rfl hs⟩
  rintro a w ⟨x148, l149, l153, x156, x157, x158, x159, x160, x161, x162, x163, x164, x165, x166, x167, x168, l169, x173, x174, p150, c151, b155, p170, c171, hv, hf, hs⟩
  subst hv
  replace hF := hK33
  clear hK33
  try dsimp only [Thru] at hF
  revert a w
  show CW _ _ _ 117 [(5, .pointer (some ⟨r28_b2, 0, none⟩)), (6, .int .i64 x148)] (SAT w0 ([imm I, pt r21_b2 #[.slice p150 l149.length c151, .map (some b155), .bool x156, .bool x157, .int .i64 x158, .int .u64 x159, .int .i64 x160, .int .i64 x161, .int .i64 x162] 62, pt r28_b4 #[.pointer (some ⟨r21_b2, 0, none⟩), .int .i64 x163, .int .i64 x164] 72, pt r28_b2 #[.pointer (some ⟨r28_b4, 0, none⟩), .int .i64 x165, .int .i64 x166, .int .i64 x167, .int .i64 x168, .slice p170 l169.length c171, .int .i64 x173, .bool x174] 26, own e_disk_sector 65 p150 c151 l149, mpo (kInt .i64) (fun x : disk_sector => Value.agg #[.string x.s_, .int .i64 x.at_]) b155 l153, own eStr 9 p170 c171 l169] ++ F0))
  unfold F.law12_JournalSectors.r9 at hF
  refine cw_seq ?_
  refine cw_region ?_
  refine ow_vals 1 (j := 1) [6, 109] [(6, .int .i64 x148), (109, .pointer (some ⟨r28_b2, 0, none⟩))] rfl (by kernel_rfl) ?_
  obtain ⟨r175, h176, hF⟩ := bind_some hF
  refine ow_pw rfl (pw_call (F := [] ++ F0) rfl rfl rfl rfl rfl rfl rfl (by kernel_rfl) (perm_of_pulls [0, 2, 1, 0, 2, 0, 0] rfl) (c_journal_Journal_Used _ (⟨x165, x166, x167, x168, l169, x173, x174⟩ : journal_Journal) (⟨x163, x164⟩ : guard_Guard) (⟨l149, l153, x156, x157, x158, (⟨x159, x160⟩ : disk_Fall), x161, x162⟩ : disk_Disk) p170 c171 r28_b2 r28_b4 p150 c151 b155 r21_b2 r175 h176) ?_)
  rintro _ _ ⟨rfl, rfl⟩
  refine nw_H (H' := [imm I, pt r28_b2 #[.pointer (some ⟨r28_b4, 0, none⟩), .int .i64 ((⟨x165, x166, x167, x168, l169, x173, x174⟩ : journal_Journal).base_), .int .i64 ((⟨x165, x166, x167, x168, l169, x173, x174⟩ : journal_Journal).size_), .int .i64 ((⟨x165, x166, x167, x168, l169, x173, x174⟩ : journal_Journal).next_), .int .i64 ((⟨x165, x166, x167, x168, l169, x173, x174⟩ : journal_Journal).last_), .slice p170 ((⟨x165, x166, x167, x168, l169, x173, x174⟩ : journal_Journal).list_).length c171, .int .i64 ((⟨x165, x166, x167, x168, l169, x173, x174⟩ : journal_Journal).sure_), .bool ((⟨x165, x166, x167, x168, l169, x173, x174⟩ : journal_Journal).dead_)] 26, pt r28_b4 #[.pointer (some ⟨r21_b2, 0, none⟩), .int .i64 ((⟨x163, x164⟩ : guard_Guard).boot_), .int .i64 ((⟨x163, x164⟩ : guard_Guard).n_)] 72, pt r21_b2 #[.slice p150 ((⟨l149, l153, x156, x157, x158, (⟨x159, x160⟩ : disk_Fall), x161, x162⟩ : disk_Disk).sure_).length c151, .map (some b155), .bool ((⟨l149, l153, x156, x157, x158, (⟨x159, x160⟩ : disk_Fall), x161, x162⟩ : disk_Disk).off_), .bool ((⟨l149, l153, x156, x157, x158, (⟨x159, x160⟩ : disk_Fall), x161, x162⟩ : disk_Disk).armed_), .int .i64 ((⟨l149, l153, x156, x157, x158, (⟨x159, x160⟩ : disk_Fall), x161, x162⟩ : disk_Disk).left_), .int .u64 ((⟨l149, l153, x156, x157, x158, (⟨x159, x160⟩ : disk_Fall), x161, x162⟩ : disk_Disk).fall_.Keep), .int .i64 ((⟨l149, l153, x156, x157, x158, (⟨x159, x160⟩ : disk_Fall), x161, x162⟩ : disk_Disk).fall_.Tear), .int .i64 ((⟨l149, l153, x156, x157, x158, (⟨x159, x160⟩ : disk_Fall), x161, x162⟩ : disk_Disk).acts_), .int .i64 ((⟨l149, l153, x156, x157, x158, (⟨x159, x160⟩ : disk_Fall), x161, x162⟩ : disk_Disk).falls_)] 62, own eStr 9 p170 c171 ((⟨x165, x166, x167, x168, l169, x173, x174⟩ : journal_Journal).list_), own e_disk_sector 65 p150 c151 ((⟨l149, l153, x156, x157, x158, (⟨x159, x160⟩ : disk_Fall), x161, x162⟩ : disk_Disk).sure_), mpo (kInt .i64) (fun x : disk_sector => Value.agg #[.string x.s_, .int .i64 x.at_]) b155 ((⟨l149, l153, x156, x157, x158, (⟨x159, x160⟩ : disk_Fall), x161, x162⟩ : disk_Disk).wait_)] ++ F0) rfl (nw_ow ?_)
  refine ow_vals 4 (j := 6) [114] [(114, .bool (r175 == (IntKind.i64.wrap (x148 - 3))))] rfl (by kernel_rfl) ?_
  rcases if_some hF with ⟨h177, hF⟩ | ⟨h177, hF⟩
  · refine ow_slots (L' := [(114, .bool true)]) (by rw [h177]) ?_
    obtain ⟨r178, h179, hF⟩ := bind_some hF
    refine ow_pw rfl (pw_call (F := [pt r28_b2 #[.pointer (some ⟨r28_b4, 0, none⟩), .int .i64 ((⟨x165, x166, x167, x168, l169, x173, x174⟩ : journal_Journal).base_), .int .i64 ((⟨x165, x166, x167, x168, l169, x173, x174⟩ : journal_Journal).size_), .int .i64 ((⟨x165, x166, x167, x168, l169, x173, x174⟩ : journal_Journal).next_), .int .i64 ((⟨x165, x166, x167, x168, l169, x173, x174⟩ : journal_Journal).last_), .slice p170 ((⟨x165, x166, x167, x168, l169, x173, x174⟩ : journal_Journal).list_).length c171, .int .i64 ((⟨x165, x166, x167, x168, l169, x173, x174⟩ : journal_Journal).sure_), .bool ((⟨x165, x166, x167, x168, l169, x173, x174⟩ : journal_Journal).dead_)] 26, pt r28_b4 #[.pointer (some ⟨r21_b2, 0, none⟩), .int .i64 ((⟨x163, x164⟩ : guard_Guard).boot_), .int .i64 ((⟨x163, x164⟩ : guard_Guard).n_)] 72, pt r21_b2 #[.slice p150 ((⟨l149, l153, x156, x157, x158, (⟨x159, x160⟩ : disk_Fall), x161, x162⟩ : disk_Disk).sure_).length c151, .map (some b155), .bool ((⟨l149, l153, x156, x157, x158, (⟨x159, x160⟩ : disk_Fall), x161, x162⟩ : disk_Disk).off_), .bool ((⟨l149, l153, x156, x157, x158, (⟨x159, x160⟩ : disk_Fall), x161, x162⟩ : disk_Disk).armed_), .int .i64 ((⟨l149, l153, x156, x157, x158, (⟨x159, x160⟩ : disk_Fall), x161, x162⟩ : disk_Disk).left_), .int .u64 ((⟨l149, l153, x156, x157, x158, (⟨x159, x160⟩ : disk_Fall), x161, x162⟩ : disk_Disk).fall_.Keep), .int .i64 ((⟨l149, l153, x156, x157, x158, (⟨x159, x160⟩ : disk_Fall), x161, x162⟩ : disk_Disk).fall_.Tear), .int .i64 ((⟨l149, l153, x156, x157, x158, (⟨x159, x160⟩ : disk_Fall), x161, x162⟩ : disk_Disk).acts_), .int .i64 ((⟨l149, l153, x156, x157, x158, (⟨x159, x160⟩ : disk_Fall), x161, x162⟩ : disk_Disk).falls_)] 62, own eStr 9 p170 c171 ((⟨x165, x166, x167, x168, l169, x173, x174⟩ : journal_Journal).list_), own e_disk_sector 65 p150 c151 ((⟨l149, l153, x156, x157, x158, (⟨x159, x160⟩ : disk_Fall), x161, x162⟩ : disk_Disk).sure_), mpo (kInt .i64) (fun x : disk_sector => Value.agg #[.string x.s_, .int .i64 x.at_]) b155 ((⟨l149, l153, x156, x157, x158, (⟨x159, x160⟩ : disk_Fall), x161, x162⟩ : disk_Disk).wait_)] ++ F0) rfl rfl rfl rfl rfl rfl rfl (by kernel_rfl) (perm_of_pulls [0] rfl) (c_law12_awake _ r178 h179) ?_)
    rintro _ _ ⟨rfl, rfl⟩
    refine nw_H (H' := [imm I, pt r28_b2 #[.pointer (some ⟨r28_b4, 0, none⟩), .int .i64 ((⟨x165, x166, x167, x168, l169, x173, x174⟩ : journal_Journal).base_), .int .i64 ((⟨x165, x166, x167, x168, l169, x173, x174⟩ : journal_Journal).size_), .int .i64 ((⟨x165, x166, x167, x168, l169, x173, x174⟩ : journal_Journal).next_), .int .i64 ((⟨x165, x166, x167, x168, l169, x173, x174⟩ : journal_Journal).last_), .slice p170 ((⟨x165, x166, x167, x168, l169, x173, x174⟩ : journal_Journal).list_).length c171, .int .i64 ((⟨x165, x166, x167, x168, l169, x173, x174⟩ : journal_Journal).sure_), .bool ((⟨x165, x166, x167, x168, l169, x173, x174⟩ : journal_Journal).dead_)] 26, pt r28_b4 #[.pointer (some ⟨r21_b2, 0, none⟩), .int .i64 ((⟨x163, x164⟩ : guard_Guard).boot_), .int .i64 ((⟨x163, x164⟩ : guard_Guard).n_)] 72, pt r21_b2 #[.slice p150 ((⟨l149, l153, x156, x157, x158, (⟨x159, x160⟩ : disk_Fall), x161, x162⟩ : disk_Disk).sure_).length c151, .map (some b155), .bool ((⟨l149, l153, x156, x157, x158, (⟨x159, x160⟩ : disk_Fall), x161, x162⟩ : disk_Disk).off_), .bool ((⟨l149, l153, x156, x157, x158, (⟨x159, x160⟩ : disk_Fall), x161, x162⟩ : disk_Disk).armed_), .int .i64 ((⟨l149, l153, x156, x157, x158, (⟨x159, x160⟩ : disk_Fall), x161, x162⟩ : disk_Disk).left_), .int .u64 ((⟨l149, l153, x156, x157, x158, (⟨x159, x160⟩ : disk_Fall), x161, x162⟩ : disk_Disk).fall_.Keep), .int .i64 ((⟨l149, l153, x156, x157, x158, (⟨x159, x160⟩ : disk_Fall), x161, x162⟩ : disk_Disk).fall_.Tear), .int .i64 ((⟨l149, l153, x156, x157, x158, (⟨x159, x160⟩ : disk_Fall), x161, x162⟩ : disk_Disk).acts_), .int .i64 ((⟨l149, l153, x156, x157, x158, (⟨x159, x160⟩ : disk_Fall), x161, x162⟩ : disk_Disk).falls_)] 62, own eStr 9 p170 c171 ((⟨x165, x166, x167, x168, l169, x173, x174⟩ : journal_Journal).list_), own e_disk_sector 65 p150 c151 ((⟨l149, l153, x156, x157, x158, (⟨x159, x160⟩ : disk_Fall), x161, x162⟩ : disk_Disk).sure_), mpo (kInt .i64) (fun x : disk_sector => Value.agg #[.string x.s_, .int .i64 x.at_]) b155 ((⟨l149, l153, x156, x157, x158, (⟨x159, x160⟩ : disk_Fall), x161, x162⟩ : disk_Disk).wait_)] ++ F0) rfl (nw_ow ?_)
    refine ow_vals 2 (j := 9) [2] [(2, .bool r178)] rfl (by kernel_rfl) ?_
    refine ow_end rfl ?_
    refine ew_then ?_
    refine cw_ret ?_
    have hR := Option.some.inj hF
    subst hR
    exact fin1 (H1 := [imm I]) (fun w hs => sat_to [1, 1, 1, 1, 1, 1, 0] 6 rfl hs) rfl (rr_tmp rfl) ⟨rfl, rfl⟩
  refine ow_slots (L' := [(114, .bool false)]) (by rw [h177]) ?_
  refine ow_vals 3 (j := 9) [2] [(2, .bool false)] rfl (by kernel_rfl) ?_
  refine ow_end rfl ?_
  refine ew_then ?_
  refine cw_ret ?_
  have hR := Option.some.inj hF
  subst hR
  exact fin1 (H1 := [imm I]) (fun w hs => sat_to [1, 1, 1, 1, 1, 1, 0] 6 rfl hs) rfl (rr_tmp rfl) ⟨rfl, rfl⟩

end Go.Proofs.YtgbloaophfaaoaaDoor
