/- Whatever is appended and flushed, and whenever the power goes, a journal has what lasted, whole and in order, and perhaps some of what came behind: the plain law. -/
import Derived.Test.YtgbloaophfaaoaaGreatDoorPAdd12
import Derived.Test.YtgbloaophfaaoaaGreatDoorPAwake12
import Derived.Test.YtgbloaophfaaoaaGreatDoorGPlayse
namespace Go.Proofs.YtgbloaophfaaoaaGreatDoor
set_option linter.all false
open Go Go.RowKit Go.Fw
set_option maxRecDepth 100000
attribute [local irreducible] FUEL
theorem text_eq (c : Int) {n : Nat} (hn : n ≤ 1000000) : ∃ s : List UInt8, s.length = n ∧ F.law12_text c (n : Int) = some (ofL s) := by
  refine ⟨((List.range n).map fun k : Nat => ixor .u8 c (IntKind.u8.wrap (k : Int))).map fun n => UInt8.ofNat n.toNat, by rw [List.length_map, List.length_map, List.length_range], ?_⟩
  unfold F.law12_text
  rw [chk_pos (by refine ⟨by omega, ?_⟩; rw [Int.toNat_natCast]; unfold room; omega), Int.toNat_natCast]
  have e := iter_count (f := fun (x : List Int × Int) => F.law12_text.l1 c x.1 x.2) (fun i => (((List.range i).map fun k : Nat => ixor .u8 c (IntKind.u8.wrap (k : Int))) ++ List.replicate (n - i) 0, (i : Int))) (n := n) (r := (List.range n).map fun k : Nat => ixor .u8 c (IntKind.u8.wrap (k : Int))) (fun i hi => by
    obtain ⟨m, hm⟩ : ∃ m, n - i = m + 1 := ⟨n - i - 1, by omega⟩
    have hl : ((List.range i).map fun k : Nat => ixor .u8 c (IntKind.u8.wrap (k : Int))).length = i := by rw [List.length_map, List.length_range]
    dsimp only
    unfold F.law12_text.l1
    rw [if_pos (by rw [List.length_append, hl, List.length_replicate]; simp; omega), at_nat (y := (0 : Int)) (by rw [List.getElem?_append_right (by omega), hl, Nat.sub_self, hm]; rfl), Option.bind_some, wadd (by omega), Int.toNat_natCast, List.set_append_right _ _ (by omega), hl, Nat.sub_self, hm, List.replicate_succ, List.set_cons_zero, show n - (i + 1) = m by omega, List.range_succ, List.map_append, List.append_assoc]
    rfl)
    (by
      dsimp only
      unfold F.law12_text.l1
      rw [Nat.sub_self, List.replicate_zero, List.append_nil, if_neg (by rw [List.length_map, List.length_range]; simp)]) (k := FUEL) (by rw [FUEL_eq]; omega)
  refine (congrArg (fun o => Option.bind o _) e).trans ?_
  rw [Option.bind_some]
  unfold F.law12_text.r2
  rw [bstr_ofL]
theorem iand_mask (x : Int) {m : Nat} (hm : m < 9223372036854775808) : ∃ n : Nat, iand .i64 x (m : Int) = (n : Int) ∧ n ≤ m := by
  have h2 : (BitVec.ofInt IntKind.i64.bits (m : Int)).toNat = m := by
    rw [BitVec.ofInt_natCast, BitVec.toNat_ofNat]
    show m % 18446744073709551616 = m
    omega
  have h1 : (BitVec.ofInt IntKind.i64.bits x &&& BitVec.ofInt IntKind.i64.bits (m : Int)).toNat ≤ m := by
    rw [BitVec.toNat_and, h2]
    exact Nat.and_le_right
  unfold iand
  exact ⟨_, w64 (by omega) (by omega), h1⟩
/-- what comes of an act -/
def Done (rs : List (List UInt8)) (sn : Nat) (b K0 : Nat) (D0 : Nat → List UInt8) (n0 : Int) (r : Bool × disk_Disk × journal_Journal × guard_Guard × law12_plain) : Prop :=
  (∃ d' rs' A' n', r = (true, d', jnl rs' sn A', ⟨(b : Int), n'⟩, pln rs' sn b) ∧ JI rs' sn A' b K0 D0 d' ∧ n0 ≤ n' ∧ n' ≤ n0 + 60) ∨
  (∃ j' g' rs' A' W dd f, r = (true, dropD f dd, j', g', pln rs' sn b) ∧ JB rs' sn A' b K0 W D0 ∧ JD rs' sn A' W D0 dd)
theorem drop_up {f : disk_Fall} {d : disk_Disk} (hl : d.sure_.length = 64) : F.disk_Disk_Up (dropD f d) = some false := by
  unfold F.disk_Disk_Up F.disk_Disk_Size
  rw [Option.bind_some, if_pos (by rw [show (dropD f d).sure_.length = d.sure_.length from fallG_len _ _ _, hl]; decide)]
  rfl
theorem add_text {rs : List (List UInt8)} {sn : Nat} {A : Nat → Int} {b K0 : Nat} {D0 : Nat → List UInt8} {d : disk_Disk} (h : JI rs sn A b K0 D0 d) {n0 : Int} (h0 : 0 ≤ n0) (h1 : n0 ≤ 1000000) {s : List UInt8} (hs : s.length ≤ 10000) :
    ∃ r, F.law12_add.r1 d (jnl rs sn A) ⟨(b : Int), n0⟩ (pln rs sn b) (ofL s) = some r ∧ Done rs sn b K0 D0 n0 r := by
  unfold F.law12_add.r1
  by_cases hlong : 6000 < s.length
  · rw [append_long rfl (by rw [ofL_size]; exact hlong), Option.bind_some, if_pos (by rw [ofL_size]; simp; omega)]
    exact ⟨_, rfl, .inl ⟨d, rs, A, n0, rfl, h, by omega, by omega⟩⟩
  have hu := used_eq h.hB.hr h.hB.p60 (pln rs sn b) rfl
  have hp60 := h.hB.p60
  have hrl := recs60 h.hB.p60
  have hw : IntKind.i64.wrap (60 - ((parts rs).length : Int)) = 60 - ((parts rs).length : Int) := w64 (by omega) (by omega)
  by_cases hroom : (parts rs).length + nd s.length ≤ 60
  · have hchk : room ((pln rs sn b).l_.length + ([ofL s] : List ByteArray).length) 16 := by
      unfold room pln
      rw [List.length_map, List.length_singleton]
      omega
    have hpl : (⟨(pln rs sn b).l_ ++ [ofL s], (pln rs sn b).sure_, (pln rs sn b).boot_⟩ : law12_plain) = pln (rs ++ [s]) sn b := by
      unfold pln
      rw [List.map_append]
      rfl
    rcases append_law h (s := s) (by omega) hroom h0 h1 with ⟨d', e, hJ⟩ | ⟨j', g', q, d', e, hB, hD⟩
    · rw [e, Option.bind_some, if_neg (by rw [ofL_size]; simp; omega), ofL_size, need2_eq (by omega), Option.bind_some, hu, Option.bind_some, hw, if_neg (by simp; omega), chk_pos hchk, if_pos (by simp), hpl]
      exact ⟨_, rfl, .inl ⟨d', rs ++ [s], _, _, rfl, hJ, by omega, by omega⟩⟩
    · rw [e, Option.bind_some, if_neg (by rw [ofL_size]; simp; omega), ofL_size, need2_eq (by omega), Option.bind_some, hu, Option.bind_some, hw, if_neg (by simp; omega), chk_pos hchk, if_neg (by simp), if_pos (by simp)]
      dsimp only
      rw [drop_up hD.len, Option.bind_some, hpl]
      exact ⟨_, rfl, .inr ⟨j', g', rs ++ [s], _, _, d', d'.fall_, rfl, hB, hD⟩⟩
  · rw [append_full h.hB.p60 (by rw [ofL_size]; omega) (by rw [ofL_size]; omega), Option.bind_some, if_neg (by rw [ofL_size]; simp; omega), ofL_size, need2_eq (by omega), Option.bind_some, hu, Option.bind_some, hw, if_pos (by simp; omega)]
    exact ⟨_, rfl, .inl ⟨d, rs, A, n0, rfl, h, by omega, by omega⟩⟩
theorem add_law {rs : List (List UInt8)} {sn : Nat} {A : Nat → Int} {b K0 : Nat} {D0 : Nat → List UInt8} {d : disk_Disk} (h : JI rs sn A b K0 D0 d) {n0 : Int} (h0 : 0 ≤ n0) (h1 : n0 ≤ 1000000) (o : law12_Op) :
    ∃ r, F.law12_add o d (jnl rs sn A) ⟨(b : Int), n0⟩ (pln rs sn b) = some r ∧ Done rs sn b K0 D0 n0 r := by
  unfold F.law12_add
  obtain ⟨n1, e1, l1⟩ := iand_mask o.Long (m := 8191) (by decide)
  obtain ⟨n2, e2, l2⟩ := iand_mask o.Long (m := 127) (by decide)
  obtain ⟨s1, g1, t1⟩ := text_eq o.C (n := n1) (by omega)
  obtain ⟨s2, g2, t2⟩ := text_eq o.C (n := n2) (by omega)
  rw [← e1] at t1
  rw [← e2] at t2
  have t1' : F.law12_text o.C (iand .i64 o.Long 8191) = some (ofL s1) := t1
  have t2' : F.law12_text o.C (iand .i64 o.Long 127) = some (ofL s2) := t2
  rw [t1', Option.bind_some, t2', Option.bind_some]
  by_cases hc : (iand .i64 o.Long 1024 == 0) = true
  · rw [if_pos hc, Option.bind_some]
    exact add_text h h0 h1 (by omega)
  · rw [if_neg hc, Option.bind_some]
    exact add_text h h0 h1 (by omega)
/-! ### a step -/
def JS (k : Nat) (d : disk_Disk) (j : journal_Journal) (g : guard_Guard) (p : law12_plain) : Prop :=
  ∃ rs sn A b K0 D0 n, JI rs sn A b K0 D0 d ∧ j = jnl rs sn A ∧ g = ⟨(b : Int), n⟩ ∧ p = pln rs sn b ∧ 0 ≤ n ∧ n ≤ 60 * (k : Int) ∧ b ≤ k + 1
abbrev JT := Int × List disk_sector × List (Int × disk_sector) × Bool × Bool × Int × Int × Int × Int × Int × Int × Int × Int × Int × Int × Int × List ByteArray × Int × Bool × List ByteArray × Int × Int
def jt (k : Nat) (d : disk_Disk) (j : journal_Journal) (g : guard_Guard) (p : law12_plain) : JT := ((k : Int), d.sure_, d.wait_, d.off_, d.armed_, d.left_, d.fall_.Keep, d.fall_.Tear, d.acts_, d.falls_, g.boot_, g.n_, j.base_, j.size_, j.next_, j.last_, j.list_, j.sure_, j.dead_, p.l_, p.sure_, p.boot_)
theorem JS.holds {k : Nat} {d : disk_Disk} {j : journal_Journal} {g : guard_Guard} {p : law12_plain} (h : JS k d j g p) : F.law12_holds j g d p = some true := by
  obtain ⟨rs, sn, A, b, K0, D0, n, hJ, rfl, rfl, rfl, _⟩ := h
  exact holds_eq hJ.hB.hr hJ.hB.p60 _ _
theorem r7_law {k : Nat} (hk : k < 40) {d : disk_Disk} {j : journal_Journal} {g : guard_Guard} {p : law12_plain} (h : JS (k + 1) d j g p) :
    F.law12_JournalPlays.r7 (k : Int) true d.sure_ d.wait_ d.off_ d.armed_ d.left_ d.fall_.Keep d.fall_.Tear d.acts_ d.falls_ p.l_ p.sure_ p.boot_ g.boot_ g.n_ j.base_ j.size_ j.next_ j.last_ j.list_ j.sure_ j.dead_ = some (.inl (jt (k + 1) d j g p)) := by
  unfold F.law12_JournalPlays.r7
  rw [if_neg (by decide)]
  refine (congrArg (fun o => Option.bind o _) h.holds).trans ?_
  rw [Option.bind_some, if_neg (by decide), wadd (by omega)]
  rfl
/-- what comes of a step -/
def Res (k : Nat) (d : disk_Disk) (j : journal_Journal) (g : guard_Guard) (p : law12_plain) : Prop :=
  JS (k + 1) d j g p ∨ ∃ rs sn A b K0 W D0 dd f, d = dropD f dd ∧ p = pln rs sn b ∧ JB rs sn A b K0 W D0 ∧ JD rs sn A W D0 dd ∧ b ≤ k + 1
theorem again_js {k : Nat} (hk : k < 40) {rs : List (List UInt8)} {sn : Nat} {A : Nat → Int} {b K0 W : Nat} {D0 : Nat → List UInt8} (hB : JB rs sn A b K0 W D0) {d : disk_Disk} (h : JD rs sn A W D0 d) {f f2 : disk_Fall} {dd : disk_Disk} {e0 : Int} (hcr : F.disk_Disk_Crash f2 dd = some (e0, dropD f d)) (hb : b ≤ k + 1) :
    ∃ j g d' p, F.law12_again f2 dd (pln rs sn b) = some (some (j, g), d', p) ∧ JS (k + 1) d' j g p := by
  obtain ⟨rs', A', K0', D0', d', e, hJ, _, _⟩ := again_law hB h hcr
  refine ⟨_, _, _, _, e, rs', rs'.length, A', b + 1, K0', D0', 0, hJ (by omega), rfl, ?_, rfl, Int.le_refl _, by omega, by omega⟩
  have : ((b + 1 : Nat) : Int) = (b : Int) + 1 := by omega
  rw [this]
theorem r5_law {k : Nat} (hk : k < 40) {o : law12_Op} (hF : FOk o.F) {d : disk_Disk} {j : journal_Journal} {g : guard_Guard} {p : law12_plain} (h : Res k d j g p) :
    ∃ d' j' g' p', F.law12_JournalPlays.r5 (k : Int) o true d.sure_ d.wait_ d.off_ d.armed_ d.left_ d.fall_.Keep d.fall_.Tear d.acts_ d.falls_ j.base_ j.size_ j.next_ j.last_ j.list_ j.sure_ j.dead_ g.boot_ g.n_ p.l_ p.sure_ p.boot_ = some (.inl (jt (k + 1) d' j' g' p')) ∧ JS (k + 1) d' j' g' p' := by
  unfold F.law12_JournalPlays.r5
  rw [if_pos rfl]
  rcases h with h | ⟨rs, sn, A, b, K0, W, D0, dd, f, rfl, rfl, hB, hD, hb⟩
  · refine ⟨d, j, g, p, ?_, h⟩
    have hup : F.disk_Disk_Up d = some true := by
      obtain ⟨rs, sn, A, b, K0, D0, n, hJ, _⟩ := h
      unfold F.disk_Disk_Up F.disk_Disk_Size
      rw [Option.bind_some, if_pos (by rw [hJ.hD.len]; decide), hJ.off]
      rfl
    refine (congrArg (fun o => Option.bind (Option.bind (Option.bind o _) _) _) hup).trans ?_
    rw [Option.bind_some, Option.bind_some]
    unfold F.law12_JournalPlays.r6
    dsimp only
    rw [if_neg (by decide), Option.bind_some]
    exact r7_law hk h
  · have hcr : F.disk_Disk_Crash o.F (dropD f dd) = some (8, dropD f dd) := by rw [crash_eq hF (drop_ok hD.ok), if_pos (show (dropD f dd).off_ = true from rfl)]
    obtain ⟨j', g', d', p', e, hJS⟩ := again_js hk hB hD hcr hb
    refine ⟨d', j', g', p', ?_, hJS⟩
    refine (congrArg (fun o => Option.bind (Option.bind (Option.bind o _) _) _) (drop_up (f := f) hD.len)).trans ?_
    rw [Option.bind_some, Option.bind_some]
    unfold F.law12_JournalPlays.r6
    dsimp only
    rw [if_pos (by decide)]
    refine (congrArg (fun o => Option.bind (Option.bind o _) _) e).trans ?_
    rw [Option.bind_some]
    dsimp only [optC]
    rw [Option.bind_some]
    exact r7_law hk hJS
theorem done_res {k : Nat} {rs : List (List UInt8)} {sn b K0 : Nat} {D0 : Nat → List UInt8} {n0 : Int} (h0 : 0 ≤ n0) (h1 : n0 ≤ 60 * (k : Int)) (hb : b ≤ k + 1) {r : Bool × disk_Disk × journal_Journal × guard_Guard × law12_plain} (h : Done rs sn b K0 D0 n0 r) : r.1 = true ∧ Res k r.2.1 r.2.2.1 r.2.2.2.1 r.2.2.2.2 := by
  rcases h with ⟨d', rs', A', n', rfl, hJ, g1, g2⟩ | ⟨j', g', rs', A', W, dd, f, rfl, hB, hD⟩
  · exact ⟨rfl, .inl ⟨rs', sn, A', b, K0, D0, n', hJ, rfl, rfl, rfl, by omega, by omega, by omega⟩⟩
  · exact ⟨rfl, .inr ⟨rs', sn, A', b, K0, W, D0, dd, f, rfl, rfl, hB, hD, hb⟩⟩
theorem step_law {l : List law12_Op} {k : Nat} (hk : k < 40) {o : law12_Op} (ho : l[k]? = some o) (hF : FOk o.F) {d : disk_Disk} {j : journal_Journal} {g : guard_Guard} {p : law12_plain} (h : JS k d j g p) :
    ∃ d' j' g' p', F.law12_JournalPlays.l8 l (k : Int) d.sure_ d.wait_ d.off_ d.armed_ d.left_ d.fall_.Keep d.fall_.Tear d.acts_ d.falls_ g.boot_ g.n_ j.base_ j.size_ j.next_ j.last_ j.list_ j.sure_ j.dead_ p.l_ p.sure_ p.boot_ = some (.inl (jt (k + 1) d' j' g' p')) ∧ JS (k + 1) d' j' g' p' := by
  have hlt := lt_of_get ho
  unfold F.law12_JournalPlays.l8
  rw [if_pos (by simp; omega), if_pos (by simp; omega), thru_inl]
  unfold F.law12_JournalPlays.r2
  rw [at_nat ho, Option.bind_some]
  have hkk : (if (o.Kind == 0) = true then some (o.Kind == 0) else (if (o.Kind == 1) = true then some (o.Kind == 1) else some (o.Kind == 2))) = some (decide (o.Kind = 0 ∨ o.Kind = 1 ∨ o.Kind = 2)) := by
    by_cases h1 : o.Kind = 0
    · rw [if_pos (by simpa using h1)]; simp [h1]
    · rw [if_neg (by simpa using h1)]
      by_cases h2 : o.Kind = 1
      · rw [if_pos (by simpa using h2)]; simp [h2]
      · rw [if_neg (by simpa using h2)]
        by_cases h3 : o.Kind = 2 <;> simp [h1, h2, h3]
  rw [hkk, Option.bind_some]
  unfold F.law12_JournalPlays.r3
  obtain ⟨rs, sn, A, b, K0, D0, n, hJ, rfl, rfl, rfl, hn0, hn1, hb⟩ := h
  by_cases h1 : o.Kind = 0 ∨ o.Kind = 1 ∨ o.Kind = 2
  · rw [decide_eq_true h1, if_pos rfl]
    obtain ⟨r, e, hr⟩ := add_law hJ hn0 (by omega) o
    obtain ⟨hr1, hR⟩ := done_res hn0 hn1 hb hr
    obtain ⟨ok, d2, j2, g2, p2⟩ := r
    dsimp only at hr1 hR
    subst hr1
    obtain ⟨d', j', g', p', e2, hJS⟩ := r5_law hk hF hR
    refine ⟨d', j', g', p', ?_, hJS⟩
    refine (congrArg (fun o => Option.bind (Option.bind o _) _) e).trans ?_
    rw [Option.bind_some, Option.bind_some]
    exact e2
  rw [decide_eq_false h1, if_neg (by decide)]
  by_cases h3 : o.Kind = 3
  · rw [if_pos (by simpa using h3)]
    rcases flush_law hJ ⟨(b : Int), n⟩ with ⟨d2, e, hJ2⟩ | ⟨j2, e⟩
    · have hR : Res k d2 (jnl rs rs.length A) ⟨(b : Int), n⟩ (pln rs rs.length b) := .inl ⟨rs, rs.length, A, b, K0, D0, n, hJ2, rfl, rfl, rfl, hn0, by omega, by omega⟩
      obtain ⟨d', j', g', p', e2, hJS⟩ := r5_law hk hF hR
      refine ⟨d', j', g', p', ?_, hJS⟩
      refine (congrArg (fun o => Option.bind (Option.bind o _) _) e).trans ?_
      rw [Option.bind_some, if_pos (by simp), Option.bind_some]
      unfold F.law12_JournalPlays.r4
      rw [if_pos (by simp), Option.bind_some]
      have hl : ((pln rs sn b).l_.length : Int) = (rs.length : Int) := by unfold pln; rw [List.length_map]
      rw [hl]
      exact e2
    · have hR : Res k (dropD d.fall_ d) j2 ⟨(b : Int), n⟩ (pln rs sn b) := .inr ⟨rs, sn, A, b, K0, (parts rs).length, D0, d, d.fall_, rfl, rfl, hJ.hB, hJ.hD, hb⟩
      obtain ⟨d', j', g', p', e2, hJS⟩ := r5_law hk hF hR
      refine ⟨d', j', g', p', ?_, hJS⟩
      refine (congrArg (fun o => Option.bind (Option.bind o _) _) e).trans ?_
      rw [Option.bind_some, if_neg (by simp), if_pos (by simp)]
      dsimp only
      rw [drop_up hJ.hD.len, Option.bind_some, Option.bind_some]
      unfold F.law12_JournalPlays.r4
      rw [if_neg (by simp), Option.bind_some]
      exact e2
  rw [if_neg (by simpa using h3)]
  by_cases h4 : o.Kind = 4
  · rw [if_pos (by simpa using h4)]
    have hcr : F.disk_Disk_Crash o.F d = some (0, dropD o.F d) := by rw [crash_eq hF hJ.hD.ok, hJ.off, if_neg (by decide)]
    obtain ⟨j2, g2, d2, p2, e, hJS2⟩ := again_js hk hJ.hB hJ.hD hcr hb
    obtain ⟨d', j', g', p', e2, hJS⟩ := r5_law hk hF (.inl hJS2)
    refine ⟨d', j', g', p', ?_, hJS⟩
    refine (congrArg (fun o => Option.bind (Option.bind o _) _) e).trans ?_
    rw [Option.bind_some]
    dsimp only [optC]
    rw [Option.bind_some]
    exact e2
  rw [if_neg (by simpa using h4)]
  by_cases h5 : 0 ≤ o.Long
  · rw [if_pos (by simpa using h5)]
    have harm : F.disk_Disk_Arm o.Long o.F d = some (0, (⟨d.sure_, d.wait_, d.off_, true, o.Long, o.F, d.acts_, d.falls_⟩ : disk_Disk)) := by
      unfold F.disk_Disk_Arm
      rw [why_eq hJ.hD.ok.pos, Option.bind_some, whyB_in hJ.off (Int.le_refl _) (by rw [hJ.hD.len]; decide), if_neg (by decide), if_neg (by simp; omega)]
    have hJ2 : JI rs sn A b K0 D0 ⟨d.sure_, d.wait_, d.off_, true, o.Long, o.F, d.acts_, d.falls_⟩ :=
      ⟨hJ.hB, ⟨⟨hJ.hD.ok.sec, hJ.hD.ok.keys, hJ.hD.ok.inr, hJ.hD.ok.pos, hJ.hD.ok.len⟩, hJ.hD.len, hF, hJ.hD.cur, hJ.hD.old, hJ.hD.nw, hJ.hD.nw2, hJ.hD.su⟩, hJ.off⟩
    have hR : Res k ⟨d.sure_, d.wait_, d.off_, true, o.Long, o.F, d.acts_, d.falls_⟩ (jnl rs sn A) ⟨(b : Int), n⟩ (pln rs sn b) := .inl ⟨rs, sn, A, b, K0, D0, n, hJ2, rfl, rfl, rfl, hn0, by omega, by omega⟩
    obtain ⟨d', j', g', p', e2, hJS⟩ := r5_law hk hF hR
    refine ⟨d', j', g', p', ?_, hJS⟩
    refine (congrArg (fun o => Option.bind (Option.bind o _) _) harm).trans ?_
    rw [Option.bind_some, Option.bind_some]
    exact e2
  · rw [if_neg (by simpa using h5), Option.bind_some]
    have hR : Res k d (jnl rs sn A) ⟨(b : Int), n⟩ (pln rs sn b) := .inl ⟨rs, sn, A, b, K0, D0, n, hJ, rfl, rfl, rfl, hn0, by omega, by omega⟩
    exact r5_law hk hF hR
theorem run_law {l : List law12_Op} (hl : ∀ o ∈ l, FOk o.F) {d : disk_Disk} {j : journal_Journal} {g : guard_Guard} {p : law12_plain} (h : JS 0 d j g p) :
    ∃ z, iter (fun (x : JT) => F.law12_JournalPlays.l8 l x.1 x.2.1 x.2.2.1 x.2.2.2.1 x.2.2.2.2.1 x.2.2.2.2.2.1 x.2.2.2.2.2.2.1 x.2.2.2.2.2.2.2.1 x.2.2.2.2.2.2.2.2.1 x.2.2.2.2.2.2.2.2.2.1 x.2.2.2.2.2.2.2.2.2.2.1 x.2.2.2.2.2.2.2.2.2.2.2.1 x.2.2.2.2.2.2.2.2.2.2.2.2.1 x.2.2.2.2.2.2.2.2.2.2.2.2.2.1 x.2.2.2.2.2.2.2.2.2.2.2.2.2.2.1 x.2.2.2.2.2.2.2.2.2.2.2.2.2.2.2.1 x.2.2.2.2.2.2.2.2.2.2.2.2.2.2.2.2.1 x.2.2.2.2.2.2.2.2.2.2.2.2.2.2.2.2.2.1 x.2.2.2.2.2.2.2.2.2.2.2.2.2.2.2.2.2.2.1 x.2.2.2.2.2.2.2.2.2.2.2.2.2.2.2.2.2.2.2.1 x.2.2.2.2.2.2.2.2.2.2.2.2.2.2.2.2.2.2.2.2.1 x.2.2.2.2.2.2.2.2.2.2.2.2.2.2.2.2.2.2.2.2.2) FUEL (jt 0 d j g p) = some (.inl z) := by
  obtain ⟨z, e, q, hz⟩ := iter_up (f := fun (x : JT) => F.law12_JournalPlays.l8 l x.1 x.2.1 x.2.2.1 x.2.2.2.1 x.2.2.2.2.1 x.2.2.2.2.2.1 x.2.2.2.2.2.2.1 x.2.2.2.2.2.2.2.1 x.2.2.2.2.2.2.2.2.1 x.2.2.2.2.2.2.2.2.2.1 x.2.2.2.2.2.2.2.2.2.2.1 x.2.2.2.2.2.2.2.2.2.2.2.1 x.2.2.2.2.2.2.2.2.2.2.2.2.1 x.2.2.2.2.2.2.2.2.2.2.2.2.2.1 x.2.2.2.2.2.2.2.2.2.2.2.2.2.2.1 x.2.2.2.2.2.2.2.2.2.2.2.2.2.2.2.1 x.2.2.2.2.2.2.2.2.2.2.2.2.2.2.2.2.1 x.2.2.2.2.2.2.2.2.2.2.2.2.2.2.2.2.2.1 x.2.2.2.2.2.2.2.2.2.2.2.2.2.2.2.2.2.2.1 x.2.2.2.2.2.2.2.2.2.2.2.2.2.2.2.2.2.2.2.1 x.2.2.2.2.2.2.2.2.2.2.2.2.2.2.2.2.2.2.2.2.1 x.2.2.2.2.2.2.2.2.2.2.2.2.2.2.2.2.2.2.2.2.2) (min l.length 40)
    (fun k (s : JT) => ∃ d j g p, s = jt k d j g p ∧ JS k d j g p)
    (fun z => ∃ q, z = .inl q)
    (fun k s hk hI => by
      obtain ⟨d, j, g, p, rfl, hI⟩ := hI
      obtain ⟨o, ho⟩ := getq (l := l) (i := k) (by omega)
      obtain ⟨d', j', g', p', e, hI'⟩ := step_law (by omega) ho (hl o (List.mem_of_getElem? ho)) hI
      exact .inl ⟨_, e, d', j', g', p', rfl, hI'⟩)
    (fun s hI => by
      obtain ⟨d, j, g, p, rfl, hI⟩ := hI
      refine ⟨.inl (jt 0 d j g p).2, ?_, _, rfl⟩
      show F.law12_JournalPlays.l8 l ((min l.length 40 : Nat) : Int) d.sure_ d.wait_ d.off_ d.armed_ d.left_ d.fall_.Keep d.fall_.Tear d.acts_ d.falls_ g.boot_ g.n_ j.base_ j.size_ j.next_ j.last_ j.list_ j.sure_ j.dead_ p.l_ p.sure_ p.boot_ = some (.inr (.inl (jt 0 d j g p).2))
      unfold F.law12_JournalPlays.l8
      by_cases h1 : l.length ≤ 40
      · rw [if_neg (by simp; omega), thru_inr]; rfl
      · rw [if_pos (by simp; omega), if_neg (by simp; omega), thru_inr]; rfl)
    (s0 := jt 0 d j g p) ⟨d, j, g, p, rfl, h⟩ (k := FUEL) (by rw [FUEL_eq]; omega)
  subst hz
  exact ⟨q, e⟩
theorem pure_plays (l : List law12_Op) (hl : ∀ o ∈ l, FOk o.F) : F.law12_JournalPlays l = some true := by
  unfold F.law12_JournalPlays
  have hn := new_eq (n := 64) (by decide) (by decide)
  rw [show ((64 : Nat) : Int) = 64 from rfl] at hn
  rw [hn, Option.bind_some]
  dsimp only [optC]
  rw [Option.bind_some]
  unfold F.law12_JournalPlays.r1
  have hlen : (newD 64).sure_.length = 64 := by unfold newD; rw [List.length_replicate]
  have hcu : ∀ k, k < 60 → curB (newD 64) ((3 + k : Nat) : Int) = ofL noL := fun k hk => new_cur (by omega) (by omega)
  have hS : Secs (newD 64) (fun _ => noL) := ⟨hlen, rfl, hcu, fun _ _ => rfl⟩
  have hno : recV (fun _ => noL) 0 7 = none := by
    have hz : partZ (fun _ => noL) 0 7 = zP := by
      unfold partZ
      rw [if_pos (by decide), part_not (by rw [no_read]; decide)]
    unfold recV
    rw [hz, if_pos (.inl (by decide))]
  have hop : F.law12_open 1 (newD 64) = some (some (jnl [] 0 (fun _ => 0), ⟨1, 0⟩)) := by
    unfold F.law12_open
    rw [gnew_eq (by rw [hlen]; decide) (by decide) (by decide), Option.bind_some]
    dsimp only [optC]
    rw [open_eq hS, Option.bind_some]
    have : scanV (fun _ => noL) 61 0 7 [] = (0, 7, []) := by
      unfold scanV
      rw [hno]
    rw [this]
    rfl
  rw [hop, Option.bind_some]
  dsimp only [optC]
  have h0 : JS 0 (newD 64) (jnl [] 0 (fun _ => 0)) ⟨1, 0⟩ (pln [] 0 1) :=
    ⟨[], 0, fun _ => 0, 1, 0, fun _ => noL, 0, ⟨⟨fun s hs => absurd hs (by simp), Nat.le_refl _, Nat.le_refl _, by decide, Nat.le_refl _, Nat.le_refl _, Nat.le_refl _, by decide, fun k hk => absurd hk (by show ¬ k < 0; omega), fun k _ hk => absurd hk (by show ¬ k < 0; omega), fun k hk => absurd hk (by omega), fun _ _ _ => noL_old, hno⟩,
      ⟨new_ok (by decide) (by decide), hlen, ⟨by decide, by decide⟩, fun k hk => absurd hk (by show ¬ k < 0; omega), fun k _ h2 => hcu k h2, fun k _ => rfl, fun k _ _ => rfl, fun k _ h2 => by
        obtain ⟨y, hy⟩ := getq (l := (newD 64).sure_) (i := 3 + k) (by rw [hlen]; omega)
        have := hcu k h2
        rw [cur_bare rfl, hy, Option.getD_some] at this
        rw [hy, Option.map_some, this]⟩, rfl⟩, rfl, rfl, rfl, Int.le_refl _, Int.le_refl _, Nat.le_refl _⟩
  obtain ⟨z, e⟩ := run_law hl h0
  refine (congrArg (fun o => thru o _) e).trans ?_
  rw [thru_inl]
  unfold F.law12_JournalPlays.r9
  rw [awake]
  rfl
theorem pure_JournalPlays (x0 : List law12_Op) {z0 : Prop} (w0 : ∀ u ∈ x0, ((Lit.int .i64 u.Kind).wf = true) ∧ ((Lit.int .i64 u.Long).wf = true) ∧ ((Lit.int .u8 u.C).wf = true) ∧ (((Lit.int .u64 u.F.Keep).wf = true) ∧ ((Lit.int .i64 u.F.Tear).wf = true))) (_ : z0) : F.law12_JournalPlays x0 = some true :=
  pure_plays x0 fun o ho => by
    obtain ⟨_, _, _, _, h5⟩ := w0 o ho
    exact ⟨(wf_i64 h5).1, (wf_i64 h5).2⟩
end Go.Proofs.YtgbloaophfaaoaaGreatDoor
