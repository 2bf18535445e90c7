/- A journal's disk beside its records: what is written, what lasts, and what is left when the power goes. -/
import Derived.Test.YtgbloaophfaaoaaGreatDoorPRec12
import Derived.Test.YtgbloaophfaaoaaGreatDoorPGuardF
import Derived.Test.YtgbloaophfaaoaaGreatDoorPDiskC
namespace Go.Proofs.YtgbloaophfaaoaaGreatDoor
set_option linter.all false
open Go Go.RowKit Go.Fw
set_option maxRecDepth 100000
attribute [local irreducible] FUEL
/-- the records, and their sectors -/
structure JB (rs : List (List UInt8)) (sn : Nat) (A : Nat → Int) (b K0 W : Nat) (D0 : Nat → List UInt8) : Prop where
  hr : ∀ s ∈ rs, s.length ≤ 6000
  hsn : sn ≤ rs.length
  b1 : 1 ≤ b
  b2 : b < 255
  k0 : K0 ≤ (parts (rs.take sn)).length
  sw : (parts (rs.take sn)).length ≤ W
  wp : W ≤ (parts rs).length
  p60 : (parts rs).length ≤ 60
  a1 : ∀ k, k < W → 4294967296 ≤ A k ∧ A k < bd (b + 1)
  a2 : ∀ k, K0 ≤ k → k < W → bd b ≤ A k
  a3 : ∀ k, k < K0 → A k < bd b
  old : ∀ k, K0 ≤ k → k < 60 → OldS b (D0 k)
  no : recV D0 K0 (lk A K0) = none
/-- the disk -/
structure JD (rs : List (List UInt8)) (sn : Nat) (A : Nat → Int) (W : Nat) (D0 : Nat → List UInt8) (d : disk_Disk) : Prop where
  ok : DOk d
  len : d.sure_.length = 64
  fall : FOk d.fall_
  cur : ∀ k, k < W → ∃ T, HasC A (parts rs) k T ∧ curB d ((3 + k : Nat) : Int) = ofL T
  old : ∀ k, W ≤ k → k < 60 → curB d ((3 + k : Nat) : Int) = ofL (D0 k)
  nw : ∀ k, k < (parts (rs.take sn)).length → mget d.wait_ ((3 + k : Nat) : Int) = none
  nw2 : ∀ k, W ≤ k → k < 60 → mget d.wait_ ((3 + k : Nat) : Int) = none
  su : ∀ k, (parts (rs.take sn)).length ≤ k → k < 60 → (d.sure_[3 + k]?).map (·.s_) = some (ofL (D0 k))
theorem chain_old {b : Nat} (h1 : 1 ≤ b) (h2 : b < 256) {a l : Int} {s : List UInt8} {q : Nat} (ha0 : 4294967296 ≤ a) (ha1 : a < bd (b + 1)) (hl0 : 0 ≤ l) (hl1 : l < bd (b + 1)) (hs : s.length ≤ 6000) : OldS (b + 1) (secL a (knd q :: (fixI 8 l ++ prt s q))) := by
  have hbl := body_len (s := s) (q := q) l
  have hb2 := bd_lt h1 h2
  obtain ⟨c, m, rfl, hc, hm0, hm1⟩ : ∃ (c : Nat) (m : Int), a = bd c + m ∧ c ≤ b ∧ 0 ≤ m ∧ m < 4294967296 := by
    refine ⟨(a / 4294967296).toNat, a % 4294967296, ?_, ?_, ?_, ?_⟩
    · unfold bd; omega
    · unfold bd at ha1; omega
    · omega
    · omega
  obtain ⟨f1, f2⟩ := fix_boot (b := c) (by omega) hm0 hm1
  have hub : (UInt8.ofNat c).toNat = c := by simp; omega
  refine ⟨secL_len hbl, fun i hi => ?_, ⟨UInt8.ofNat c, ?_, by omega⟩, ⟨UInt8.ofNat c, ?_, by omega⟩, fun p => ?_, fun p hp => ?_⟩
  · obtain ⟨g1, g2⟩ := sec_get (a := bd c + m) hbl (i := i) (by omega)
    rw [g1, g2, f1 i hi]
    exact ⟨rfl, rfl⟩
  · rw [(sec_get hbl (i := 3) (by decide)).1, f2]
  · exact (sec_get hbl (i := 3) (by decide)).2.trans f2
  · rw [part_chain ha0 (by omega) hl0 (by omega) hs]
    split
    · split <;> exact ha1
    · show (0 : Int) < _; unfold bd; omega
  · rw [part_chain ha0 (by omega) hl0 (by omega) hs, if_neg (by omega)]
theorem JB.lk_lt {rs : List (List UInt8)} {sn : Nat} {A : Nat → Int} {b K0 W : Nat} {D0 : Nat → List UInt8} (h : JB rs sn A b K0 W D0) {k : Nat} (hk : k ≤ W) : 0 ≤ lk A k ∧ lk A k < bd (b + 1) := by
  have hb := bd_lt h.b1 (by have := h.b2; omega)
  unfold lk
  by_cases h0 : k = 0
  · rw [if_pos h0]
    unfold bd at hb ⊢
    omega
  · rw [if_neg h0]
    have h1 := h.a1 (k - 1) (by omega)
    omega
theorem has_old {rs : List (List UInt8)} {sn : Nat} {A : Nat → Int} {b K0 W : Nat} {D0 : Nat → List UInt8} (h : JB rs sn A b K0 W D0) {k : Nat} (hk : k < W) {T : List UInt8} (hT : HasC A (parts rs) k T) : OldS (b + 1) T := by
  obtain ⟨x, e1, rfl⟩ := hT
  obtain ⟨s, hs, q, hq, rfl⟩ := part_mem e1
  have hl := h.lk_lt (k := k) (by omega)
  have ha := h.a1 k hk
  exact chain_old h.b1 (by have := h.b2; omega) ha.1 ha.2 hl.1 hl.2 (h.hr s hs)
def sectL (d : disk_Disk) (k : Nat) : List UInt8 := (curB d ((3 + k : Nat) : Int)).data.toList
theorem sect_of {d : disk_Disk} {k : Nat} {T : List UInt8} (h : curB d ((3 + k : Nat) : Int) = ofL T) : sectL d k = T := by unfold sectL; rw [h, ofL_toList]
theorem cur_bare {d : disk_Disk} (h : d.wait_ = []) (j : Nat) : curB d (j : Int) = ((d.sure_[j]?).getD zS).s_ := by
  unfold curB
  rw [h]
  rfl
theorem cur_sure {d : disk_Disk} {j : Nat} (h : mget d.wait_ (j : Int) = none) : curB d (j : Int) = ((d.sure_[j]?).getD zS).s_ := by
  unfold curB
  rw [h]
  rfl
/-- what a sector is when the power has gone -/
theorem fall_sec {rs : List (List UInt8)} {sn : Nat} {A : Nat → Int} {b K0 W : Nat} {D0 : Nat → List UInt8} (hB : JB rs sn A b K0 W D0) {d : disk_Disk} (h : JD rs sn A W D0 d) (f : disk_Fall) {k : Nat} (hk : k < 60) :
    (k < (parts (rs.take sn)).length → HasC A (parts rs) k (sectL (dropD f d) k)) ∧ ((parts (rs.take sn)).length ≤ k → k < W → sectL (dropD f d) k = D0 k ∨ HasC A (parts rs) k (sectL (dropD f d) k) ∨ (OldS (b + 1) (sectL (dropD f d) k) ∧ ∀ p, partV (sectL (dropD f d) k) p = zP)) ∧ (W ≤ k → sectL (dropD f d) k = D0 k) := by
  obtain ⟨g1, g2⟩ := drop_get (f := f) h.ok (3 + k)
  have hlen := h.len
  have hsw := hB.sw
  obtain ⟨old, ho⟩ := getq (l := d.sure_) (i := 3 + k) (by omega)
  have hnone : mget d.wait_ ((3 + k : Nat) : Int) = none → curB (dropD f d) ((3 + k : Nat) : Int) = curB d ((3 + k : Nat) : Int) := fun hm => by
    rw [cur_bare rfl, g1 hm, cur_sure hm]
  refine ⟨fun h1 => ?_, fun h1 h2 => ?_, fun h1 => ?_⟩
  · obtain ⟨T, e1, e2⟩ := h.cur k (by omega)
    rw [sect_of ((hnone (h.nw k h1)).trans e2)]
    exact e1
  · have hs := h.su k h1 hk
    rw [ho, Option.map_some] at hs
    have hs : old.s_ = ofL (D0 k) := Option.some.inj hs
    cases hm : mget d.wait_ ((3 + k : Nat) : Int) with
    | none =>
      left
      refine sect_of ?_
      rw [cur_bare rfl, g1 hm, ho]
      exact hs
    | some x =>
      obtain ⟨z, _, e⟩ := g2 x hm
      obtain ⟨T, e1, e2⟩ := h.cur k h2
      have hx : x.s_ = ofL T := by
        unfold curB at e2
        rw [hm] at e2
        exact e2
      have hc : curB (dropD f d) ((3 + k : Nat) : Int) = (fallV f z old x).s_ := by
        rw [cur_bare rfl, e, ho]
        rfl
      have hk0 : K0 ≤ k := Nat.le_trans hB.k0 h1
      have hO := hB.old k hk0 hk
      have hT := has_old hB h2 e1
      unfold fallV at hc
      cases ht : tearB f z with
      | false =>
        cases hkb : keepB f z with
        | true =>
          rw [ht, hkb, if_neg (by decide), if_pos rfl, hx] at hc
          rw [sect_of hc]
          exact .inr (.inl e1)
        | false =>
          rw [ht, hkb, if_neg (by decide), if_neg (by decide), hs] at hc
          exact .inl (sect_of hc)
      | true =>
        rw [ht, if_pos rfl] at hc
        dsimp only at hc
        have hTn : tearN f ≤ 64 := by
          unfold tearN
          have := Int.tmod_lt_of_pos f.Tear (show (0 : Int) < 64 by decide)
          omega
        cases hkb : keepB f z with
        | true =>
          rw [hkb, if_pos rfl, hx, ofL_extract, ofL_extract, ofL_append] at hc
          have e2 : (T.take (tearN f)).drop 0 ++ (T.take 64).drop (tearN f) = T := by
            rw [List.drop_zero, List.take_of_length_le (l := T) (i := 64) (by have := hT.len; omega), List.take_append_drop]
          rw [e2] at hc
          rw [sect_of hc]
          exact .inr (.inl e1)
        | false =>
          rw [hkb, if_neg (by decide), hx, hs, ofL_extract, ofL_extract, ofL_append] at hc
          have e2 : (T.take (tearN f)).drop 0 ++ ((D0 k).take 64).drop (tearN f) = mixL (tearN f) T (D0 k) := by
            rw [List.drop_zero, List.take_of_length_le (l := D0 k) (i := 64) (by have := hO.len; omega)]
            rfl
          rw [e2] at hc
          rw [sect_of hc]
          obtain ⟨y, y1, rfl⟩ := e1
          obtain ⟨s, hs', q, hq, rfl⟩ := part_mem y1
          have ha1 := hB.a1 k h2
          have ha2 := hB.a2 k hk0 h2
          have hm0 : A k = bd b + (A k - bd b) := by omega
          have hmx := mix_new (b := b) (by have := hB.b2; omega) (m := A k - bd b) (by omega) (by have := ha1.2; unfold bd at *; omega) (s := knd q :: (fixI 8 (lk A k) ++ prt s q)) (body_len _) hO hTn
          rw [← hm0] at hmx
          rcases hmx with e | e | e
          · exact .inl e
          · exact .inr (.inl ⟨_, y1, e⟩)
          · exact .inr (.inr e)
  · exact sect_of ((hnone (h.nw2 k h1 hk)).trans (h.old k h1 hk))
theorem fallen {rs : List (List UInt8)} {sn : Nat} {A : Nat → Int} {b K0 W : Nat} {D0 : Nat → List UInt8} (hB : JB rs sn A b K0 W D0) {d : disk_Disk} (h : JD rs sn A W D0 d) (f : disk_Fall) :
    Fall rs sn A b K0 W D0 (sectL (dropD f d)) ∧ ∀ k, k < 60 → OldS (b + 1) (sectL (dropD f d) k) := by
  have hp := hB.p60
  have hwp := hB.wp
  have hsw := hB.sw
  refine ⟨⟨hB.hr, hB.hsn, hB.b1, by have := hB.b2; omega, hB.k0, hB.sw, hB.wp, hB.p60, hB.a1, hB.a2, hB.a3, fun k hk => (fall_sec hB h f (by omega)).1 hk, fun k h1 h2 => ?_, fun k h1 h2 => (fall_sec hB h f h2).2.2 h1, hB.old, hB.no⟩, fun k hk => ?_⟩
  · rcases (fall_sec hB h f (k := k) (by omega)).2.1 h1 h2 with e | e | e
    · exact .inl e
    · exact .inr (.inl e)
    · exact .inr (.inr e.2)
  · obtain ⟨c1, c2, c3⟩ := fall_sec hB h f hk
    have ho : (parts (rs.take sn)).length ≤ k → OldS (b + 1) (D0 k) := fun h1 => (hB.old k (Nat.le_trans hB.k0 h1) hk).up
    rcases Nat.lt_or_ge k (parts (rs.take sn)).length with h1 | h1
    · exact has_old hB (by omega) (c1 h1)
    · rcases Nat.lt_or_ge k W with h2 | h2
      · rcases c2 h1 h2 with e | e | e
        · rw [e]; exact ho h1
        · exact has_old hB h2 e
        · exact e.1
      · rw [c3 h2]; exact ho h1
/-! ### a journal, and the law's one -/
def jnl (rs : List (List UInt8)) (sn : Nat) (A : Nat → Int) : journal_Journal := ⟨3, 60, ((parts rs).length : Int), lk A (parts rs).length, rs.map ofL, (sn : Int), false⟩
def pln (rs : List (List UInt8)) (sn b : Nat) : law12_plain := ⟨rs.map ofL, (sn : Int), (b : Int)⟩
structure JI (rs : List (List UInt8)) (sn : Nat) (A : Nat → Int) (b K0 : Nat) (D0 : Nat → List UInt8) (d : disk_Disk) : Prop where
  hB : JB rs sn A b K0 (parts rs).length D0
  hD : JD rs sn A (parts rs).length D0 d
  off : d.off_ = false
theorem used_eq {rs : List (List UInt8)} (hr : ∀ s ∈ rs, s.length ≤ 6000) (h60 : (parts rs).length ≤ 60) (p : law12_plain) (hp : p.l_ = rs.map ofL) : F.law12_plain_used p = some ((parts rs).length : Int) := by
  unfold F.law12_plain_used
  have e := iter_count (f := fun (x : Int × Int) => F.law12_plain_used.l1 p x.1 x.2) (fun i => (((parts (rs.take i)).length : Int), (i : Int))) (n := rs.length) (r := ((parts rs).length : Int)) (fun i hi => by
    obtain ⟨s, hs⟩ := getq hi
    have hU := parts_take hs
    have hle := used_le rs (i + 1)
    have hle0 := used_le rs i
    have hn : (parts (rs.take (i + 1))).length = (parts (rs.take i)).length + nd s.length := by rw [hU, List.length_append, prec_len]
    dsimp only
    unfold F.law12_plain_used.l1
    have hil : i < 9223372036854775807 := by
      have : i + 1 ≤ (parts (rs.take (i + 1))).length := by
        have : ∀ n, n ≤ rs.length → n ≤ (parts (rs.take n)).length := by
          intro n
          induction n with
          | zero => exact fun _ => Nat.zero_le _
          | succ n ih =>
            intro hn
            obtain ⟨t, ht⟩ := getq (l := rs) (i := n) (by omega)
            have := ih (by omega)
            have := nd_pos t.length
            rw [parts_take ht, List.length_append, prec_len]
            omega
        exact this (i + 1) hi
      omega
    rw [if_pos (by rw [hp, List.length_map]; simp; omega), at_nat (y := ofL s) (by rw [hp, List.getElem?_map, hs]; rfl), Option.bind_some, ofL_size, need2_eq (by have := hr s (List.mem_of_getElem? hs); omega), Option.bind_some, w64 (by omega) (by omega), wadd (by omega)]
    have e1 : ((parts (rs.take i)).length : Int) + (nd s.length : Int) = ((parts (rs.take (i + 1))).length : Int) := by omega
    rw [e1])
    (by
      dsimp only
      unfold F.law12_plain_used.l1
      rw [if_neg (by rw [hp, List.length_map]; simp), List.take_length]) (k := FUEL) (by
        rw [FUEL_eq]
        have : ∀ n, n ≤ rs.length → n ≤ (parts (rs.take n)).length := by
          intro n
          induction n with
          | zero => exact fun _ => Nat.zero_le _
          | succ n ih =>
            intro hn
            obtain ⟨t, ht⟩ := getq (l := rs) (i := n) (by omega)
            have := ih (by omega)
            have := nd_pos t.length
            rw [parts_take ht, List.length_append, prec_len]
            omega
        have h1 := this rs.length (Nat.le_refl _)
        rw [List.take_length] at h1
        omega)
  refine (congrArg (fun o => Option.bind o _) e).trans ?_
  rfl
theorem few_recs {rs : List (List UInt8)} : ∀ n, n ≤ rs.length → n ≤ (parts (rs.take n)).length := by
  intro n
  induction n with
  | zero => exact fun _ => Nat.zero_le _
  | succ n ih =>
    intro hn
    obtain ⟨t, ht⟩ := getq (l := rs) (i := n) (by omega)
    have := ih (by omega)
    have := nd_pos t.length
    rw [parts_take ht, List.length_append, prec_len]
    omega
theorem recs60 {rs : List (List UInt8)} (h : (parts rs).length ≤ 60) : rs.length ≤ 60 := by
  have := few_recs (rs := rs) rs.length (Nat.le_refl _)
  rw [List.take_length] at this
  omega
/-- the law's look: the journal has what it should have -/
theorem holds_eq {rs : List (List UInt8)} {sn b : Nat} {A : Nat → Int} (hr : ∀ s ∈ rs, s.length ≤ 6000) (h60 : (parts rs).length ≤ 60) (g : guard_Guard) (d : disk_Disk) : F.law12_holds (jnl rs sn A) g d (pln rs sn b) = some true := by
  have hrl := recs60 h60
  have hu := used_eq hr h60 (pln rs sn b) rfl
  unfold F.law12_holds F.journal_Journal_Records F.journal_Journal_Sure F.journal_Journal_Used F.journal_Journal_Left F.journal_Journal_none
  rw [Option.bind_some, if_neg (by decide), chk_pos (by unfold room jnl; simp; omega), Option.bind_some]
  have hl : (([] : List ByteArray) ++ (jnl rs sn A).list_) = rs.map ofL := rfl
  rw [hl]
  have h1 : ((rs.map ofL).length : Int) = ((pln rs sn b).l_.length : Int) := rfl
  rw [if_neg (by rw [h1]; simp), Option.bind_some, if_neg (by decide), Option.bind_some, if_neg (by unfold jnl pln; simp), Option.bind_some, if_neg (by decide), Option.bind_some, hu, Option.bind_some, if_neg (by unfold jnl; simp), Option.bind_some, if_neg (by decide), Option.bind_some, Option.bind_some, if_neg (by unfold jnl; simp), thru_inl]
  unfold F.law12_holds.r1
  have e := iter_count (f := fun (x : Int) => F.law12_holds.l2 (pln rs sn b) (rs.map ofL) x) (fun i => (i : Int)) (n := rs.length) (r := .inl ()) (fun i hi => by
    obtain ⟨s, hs⟩ := getq hi
    have hm : (rs.map ofL)[i]? = some (ofL s) := by rw [List.getElem?_map, hs]; rfl
    unfold F.law12_holds.l2
    rw [if_pos (by rw [List.length_map]; simp; omega), at_nat hm, Option.bind_some, at_nat (l := (pln rs sn b).l_) hm, Option.bind_some, seqB_refl, if_neg (by decide), wadd (by omega)])
    (by
      unfold F.law12_holds.l2
      rw [if_neg (by rw [List.length_map]; simp)]) (k := FUEL) (by rw [FUEL_eq]; omega)
  refine (congrArg (fun o => thru o _) e).trans ?_
  rw [thru_inl]
  rfl
/-! ### behind a loss of power -/
def upJ (D : disk_Disk) : disk_Disk := startD ⟨D.sure_, D.wait_, D.off_, false, D.left_, D.fall_, D.acts_, D.falls_⟩
theorem again_law {rs : List (List UInt8)} {sn : Nat} {A : Nat → Int} {b K0 W : Nat} {D0 : Nat → List UInt8} (hB : JB rs sn A b K0 W D0) {d : disk_Disk} (h : JD rs sn A W D0 d) {f f2 : disk_Fall} {dd : disk_Disk} {e0 : Int} (hcr : F.disk_Disk_Crash f2 dd = some (e0, dropD f d)) :
    ∃ rs' A' K0' D0' d', F.law12_again f2 dd (pln rs sn b) = some (some (jnl rs' rs'.length A', ⟨(b : Int) + 1, 0⟩), d', pln rs' rs'.length (b + 1)) ∧ ((b + 1 < 255) → JI rs' rs'.length A' (b + 1) K0' D0' d') ∧ (∀ k, k < K0' → A' k < bd (b + 1)) ∧ K0' = (parts rs').length := by
  obtain ⟨hF, hO⟩ := fallen hB h f
  obtain ⟨m, m1, m2, m3, m4, m5, m6⟩ := recover hF
  have hlen : (dropD f d).sure_.length = 64 := by rw [show (dropD f d).sure_.length = d.sure_.length from fallG_len _ _ _]; exact h.len
  have hcu : ∀ k, k < 60 → curB (upJ (dropD f d)) ((3 + k : Nat) : Int) = ofL (sectL (dropD f d) k) := fun k _ => by
    show curB (dropD f d) ((3 + k : Nat) : Int) = _
    unfold sectL
    exact ofL_surj _
  have hS : Secs (upJ (dropD f d)) (sectL (dropD f d)) := ⟨hlen, rfl, hcu, fun k hk => (hO k hk).len⟩
  have hst : F.disk_Disk_Start (⟨(dropD f d).sure_, (dropD f d).wait_, (dropD f d).off_, false, (dropD f d).left_, (dropD f d).fall_, (dropD f d).acts_, (dropD f d).falls_⟩ : disk_Disk) = some (0, upJ (dropD f d)) := by
    rw [start_eq (d := ⟨(dropD f d).sure_, (dropD f d).wait_, (dropD f d).off_, false, (dropD f d).left_, (dropD f d).fall_, (dropD f d).acts_, (dropD f d).falls_⟩) (by show 1 ≤ (dropD f d).sure_.length; rw [hlen]; decide), if_pos (show (dropD f d).off_ = true from rfl)]
    rfl
  have hb1 := hB.b1
  have hb2 := hB.b2
  have hw : IntKind.i64.wrap ((b : Int) + 1) = (b : Int) + 1 := w64 (by omega) (by omega)
  have hop : F.law12_open ((b : Int) + 1) (upJ (dropD f d)) = some (some (jOf (scanV (sectL (dropD f d)) 61 0 7 []), ⟨(b : Int) + 1, 0⟩)) := by
    unfold F.law12_open
    rw [gnew_eq (by rw [hS.len]; decide) (by omega) (by omega), Option.bind_some]
    dsimp only [optC]
    rw [open_eq hS, Option.bind_some]
  have hj : jOf (scanV (sectL (dropD f d)) 61 0 7 []) = jnl (rs.take m) (rs.take m).length A := by
    rw [m4]
    rfl
  rw [hj] at hop
  have hml : (rs.take m).length = m := by rw [List.length_take]; omega
  have h60 : (parts (rs.take m)).length ≤ 60 := Nat.le_trans (used_le rs m) hB.p60
  have hr' : ∀ s ∈ rs.take m, s.length ≤ 6000 := fun s hs => hB.hr s (List.mem_of_mem_take hs)
  have hrl := recs60 hB.p60
  refine ⟨rs.take m, A, (parts (rs.take m)).length, sectL (dropD f d), upJ (dropD f d), ?_, fun hb3 => ?_, fun k hk => ?_, rfl⟩
  · unfold F.law12_again F.disk_Disk_Calm
    have hbp : (pln rs sn b).boot_ = (b : Int) := rfl
    rw [hcr, Option.bind_some, Option.bind_some, hst, Option.bind_some, hbp, hw, hop, Option.bind_some]
    dsimp only [optC]
    unfold F.journal_Journal_Records F.journal_Journal_none
    rw [Option.bind_some, if_neg (by decide), chk_pos (by unfold room jnl; simp; omega), Option.bind_some]
    have hl : (([] : List ByteArray) ++ (jnl (rs.take m) (rs.take m).length A).list_) = (rs.take m).map ofL := rfl
    rw [hl, List.length_map]
    have hsm : (pln rs sn b).sure_ = (sn : Int) := rfl
    have hlm : (pln rs sn b).l_ = rs.map ofL := rfl
    rw [if_neg (by rw [hsm, hml]; simp; omega), if_neg (by rw [hlm, List.length_map, hml]; simp; omega), thru_inl]
    unfold F.law12_again.r1
    dsimp only
    rw [hlm, List.length_map, List.length_map, chk_pos (by rw [hml]; omega), Int.toNat_natCast, hbp, hw, ← List.map_take]
    have ht : rs.take (rs.take m).length = rs.take m := by rw [hml]
    rw [ht]
    have hh := holds_eq (rs := rs.take m) (sn := (rs.take m).length) (b := b + 1) (A := A) hr' h60 ⟨(b : Int) + 1, 0⟩ (upJ (dropD f d))
    have hbb : ((b + 1 : Nat) : Int) = (b : Int) + 1 := by omega
    unfold pln at hh ⊢
    rw [hbb] at hh ⊢
    refine (congrArg (fun o => Option.bind o _) hh).trans ?_
    rw [Option.bind_some, if_neg (by decide)]
  · have htt : (rs.take m).take (rs.take m).length = rs.take m := List.take_length
    refine ⟨⟨hr', Nat.le_refl _, by omega, hb3, by rw [htt]; exact Nat.le_refl _, by rw [htt]; exact Nat.le_refl _, Nat.le_refl _, h60, fun k hk => ?_, fun k h1 h2 => absurd h1 (by omega), fun k hk => ?_, fun k h1 h2 => hO k h2, m5⟩, ⟨⟨(drop_ok (f := f) h.ok).sec, (drop_ok (f := f) h.ok).keys, (drop_ok (f := f) h.ok).inr, (drop_ok (f := f) h.ok).pos, (drop_ok (f := f) h.ok).len⟩, hlen, h.fall, fun k hk => ⟨_, ?_, hcu k (by omega)⟩, fun k _ h2 => hcu k h2, fun k _ => rfl, fun k _ _ => rfl, fun k h1 h2 => ?_⟩, rfl⟩
    · have := hB.a1 k (by omega)
      have hb := bd_lt hB.b1 (by omega)
      unfold bd at *
      omega
    · exact (hB.a1 k (by omega)).2
    · obtain ⟨x, e1, e2⟩ := m6 k hk
      exact ⟨x, by rw [parts_same rs hk]; exact e1, e2⟩
    · obtain ⟨y, hy⟩ := getq (l := (upJ (dropD f d)).sure_) (i := 3 + k) (by rw [hS.len]; omega)
      have := hcu k h2
      rw [cur_bare rfl, hy, Option.getD_some] at this
      rw [hy, Option.map_some, this]
  · exact (hB.a1 k (by omega)).2
end Go.Proofs.YtgbloaophfaaoaaGreatDoor
