/- A record is laid behind the others, or the power goes meanwhile; what is laid is flushed. -/
import Derived.Test.YtgbloaophfaaoaaGreatDoorPJb12
import Derived.Test.YtgbloaophfaaoaaGreatDoorGPlaysd
import Derived.Test.YtgbloaophfaaoaaGreatDoorGPlayse
namespace Go.Proofs.YtgbloaophfaaoaaGreatDoor
set_option linter.all false
open Go Go.RowKit Go.Fw
set_option maxRecDepth 100000
attribute [local irreducible] FUEL
/-- the stamps, and those of a record that comes -/
def stA (A : Nat → Int) (K : Nat) (b : Nat) (n0 : Int) (k : Nat) : Int := if k < K then A k else bd b + (n0 + ((k - K : Nat) : Int) + 1)
theorem stA_lo {A : Nat → Int} {K b : Nat} {n0 : Int} {k : Nat} (h : k < K) : stA A K b n0 k = A k := if_pos h
theorem stA_hi {A : Nat → Int} {K b : Nat} {n0 : Int} (q : Nat) : stA A K b n0 (K + q) = bd b + (n0 + (q : Int) + 1) := by
  unfold stA
  rw [if_neg (by omega), Nat.add_sub_cancel_left]
theorem lk_lo {A : Nat → Int} {K b : Nat} {n0 : Int} {k : Nat} (h : k ≤ K) : lk (stA A K b n0) k = lk A k := by
  unfold lk
  by_cases h0 : k = 0
  · rw [if_pos h0, if_pos h0]
  · rw [if_neg h0, if_neg h0, stA_lo (by omega)]
theorem lnk_lk {A : Nat → Int} {K b : Nat} {n0 : Int} (q : Nat) : lnk (b : Int) n0 (lk A K) q = lk (stA A K b n0) (K + q) := by
  cases q with
  | zero => rw [Nat.add_zero, lk_lo (Nat.le_refl _)]; rfl
  | succ q =>
    have e : lk (stA A K b n0) (K + (q + 1)) = stA A K b n0 (K + q) := by
      show (if K + (q + 1) = 0 then (7 : Int) else stA A K b n0 (K + (q + 1) - 1)) = _
      rw [if_neg (by omega)]
      rfl
    rw [e, stA_hi]
    rfl
theorem parts_snoc (rs : List (List UInt8)) (s : List UInt8) : parts (rs ++ [s]) = parts rs ++ prec s := by
  unfold parts
  rw [List.flatMap_append, List.flatMap_cons, List.flatMap_nil, List.append_nil]
theorem take_snoc {rs : List (List UInt8)} {s : List UInt8} {n : Nat} (h : n ≤ rs.length) : (rs ++ [s]).take n = rs.take n := List.take_append_of_le_length h
theorem snoc_len (rs : List (List UInt8)) (s : List UInt8) : (parts (rs ++ [s])).length = (parts rs).length + nd s.length := by rw [parts_snoc, List.length_append, prec_len]
theorem JB.add {rs : List (List UInt8)} {sn : Nat} {A : Nat → Int} {b K0 : Nat} {D0 : Nat → List UInt8} (h : JB rs sn A b K0 (parts rs).length D0) {s : List UInt8} (hs : s.length ≤ 6000) (hroom : (parts rs).length + nd s.length ≤ 60) {n0 : Int} (h0 : 0 ≤ n0) (h1 : n0 ≤ 1000000) {q : Nat} (hq : q ≤ nd s.length) :
    JB (rs ++ [s]) sn (stA A (parts rs).length b n0) b K0 ((parts rs).length + q) D0 := by
  have ht := take_snoc (s := s) h.hsn
  have hb := bd_lt h.b1 (by have := h.b2; omega)
  have hk0 : K0 ≤ (parts rs).length := Nat.le_trans h.k0 h.sw
  refine ⟨fun t ht => ?_, by rw [List.length_append]; have := h.hsn; omega, h.b1, h.b2, by rw [ht]; exact h.k0, by rw [ht]; have := h.sw; omega, by rw [snoc_len]; omega, by rw [snoc_len]; omega, fun k hk => ?_, fun k hk1 hk2 => ?_, fun k hk => ?_, h.old, by rw [lk_lo hk0]; exact h.no⟩
  · rcases List.mem_append.1 ht with e | e
    · exact h.hr t e
    · rw [List.mem_singleton.1 e]; exact hs
  · rcases Nat.lt_or_ge k (parts rs).length with e | e
    · rw [stA_lo e]; exact h.a1 k e
    · obtain ⟨r, rfl⟩ : ∃ r, k = (parts rs).length + r := ⟨k - (parts rs).length, by omega⟩
      rw [stA_hi]
      have hn := nd_more (n := s.length) (k := 158)
      have : r < 61 := by omega
      unfold bd at *
      omega
  · rcases Nat.lt_or_ge k (parts rs).length with e | e
    · rw [stA_lo e]; exact h.a2 k hk1 e
    · obtain ⟨r, rfl⟩ : ∃ r, k = (parts rs).length + r := ⟨k - (parts rs).length, by omega⟩
      rw [stA_hi]
      omega
  · rw [stA_lo (by omega)]
    exact h.a3 k hk
theorem JD.add {rs : List (List UInt8)} {sn : Nat} {A : Nat → Int} {b : Nat} {D0 : Nat → List UInt8} {d : disk_Disk} (hsn : sn ≤ rs.length) (h : JD rs sn A (parts rs).length D0 d) (s : List UInt8) (n0 : Int) : JD (rs ++ [s]) sn (stA A (parts rs).length b n0) ((parts rs).length + 0) D0 d := by
  have ht := take_snoc (s := s) hsn
  refine ⟨h.ok, h.len, h.fall, fun k hk => ?_, h.old, fun k hk => h.nw k (by rw [← ht]; exact hk), h.nw2, fun k hk => h.su k (by rw [← ht]; exact hk)⟩
  have hk : k < (parts rs).length := hk
  obtain ⟨T, ⟨x, e1, e2⟩, e3⟩ := h.cur k hk
  refine ⟨T, ⟨x, ?_, ?_⟩, e3⟩
  · rw [parts_snoc, List.getElem?_append_left hk]
    exact e1
  · rw [e2]
    unfold cc
    rw [stA_lo hk, lk_lo (by omega)]
theorem JD.put {rs : List (List UInt8)} {sn : Nat} {A : Nat → Int} {W : Nat} {D0 : Nat → List UInt8} {d : disk_Disk} (h : JD rs sn A W D0 d) (hsw : (parts (rs.take sn)).length ≤ W) (hW : W < 60) {T : List UInt8} (hT : HasC A (parts rs) W T) (h64 : T.length = 64) : JD rs sn A (W + 1) D0 (writeD d ((3 + W : Nat) : Int) (ofL T)) := by
  have hmg : ∀ k : Nat, mget (writeD d ((3 + W : Nat) : Int) (ofL T)).wait_ ((3 + k : Nat) : Int) = if k = W then some ⟨ofL T, (actD d).acts_⟩ else mget d.wait_ ((3 + k : Nat) : Int) := fun k => by
    show mget (mset d.wait_ ((3 + W : Nat) : Int) ⟨ofL T, (actD d).acts_⟩) ((3 + k : Nat) : Int) = _
    rw [mget_mset]
    by_cases e : k = W
    · rw [if_pos e, if_pos (by omega)]
    · rw [if_neg e, if_neg (by omega)]
  refine ⟨write_ok h.ok (by omega) (by rw [h.len]; omega) (by rw [ofL_size, h64]), h.len, h.fall, fun k hk => ?_, fun k h1 h2 => ?_, fun k hk => ?_, fun k h1 h2 => ?_, h.su⟩
  · by_cases e : k = W
    · subst e
      exact ⟨T, hT, by rw [cur_write, if_pos rfl]⟩
    · obtain ⟨T', e1, e2⟩ := h.cur k (by omega)
      exact ⟨T', e1, by rw [cur_write, if_neg (by omega), e2]⟩
  · rw [cur_write, if_neg (by omega)]
    exact h.old k (by omega) h2
  · rw [hmg, if_neg (by omega)]
    exact h.nw k hk
  · rw [hmg, if_neg (by omega)]
    exact h.nw2 k (by omega) h2
/-- what comes of one round -/
abbrev ARes := AOut ⊕ (Int × journal_Journal × guard_Guard × disk_Disk)
theorem add_round {j : journal_Journal} {boot n0 last : Int} {P : Nat} (hPj : j.base_ + j.next_ = (P : Int)) (hPs : P ≤ 100000) {s : List UInt8} (hs : s.length ≤ 6000) {k : Nat} {d : disk_Disk} (hf : FOk d.fall_) (hok : DOk d) (hg : GOk ⟨boot, n0 + (k : Int)⟩) (hw : whyB d ((P + k : Nat) : Int) = 0) (hk : k ≤ 100000) :
    F.journal_Journal_Append.l1 j (ofL (s.drop (36 + 38 * k))) (k : Int) (lnk boot n0 last k) (ofL (prt s k)) ((knd k).toNat : Int) boot (n0 + (k : Int)) d.sure_ d.wait_ d.off_ d.armed_ d.left_ d.fall_.Keep d.fall_.Tear d.acts_ d.falls_ =
      some (if due d then .inr (.inr (8, ⟨j.base_, j.size_, j.next_, j.last_, j.list_, j.sure_, true⟩, ⟨boot, n0 + (k : Int)⟩, dropD d.fall_ d))
        else if s.length ≤ 36 + 38 * k then .inr (.inl ((((k + 1 : Nat) : Int), lnk boot n0 last (k + 1), boot, n0 + ((k + 1 : Nat) : Int), (writeD d ((P + k : Nat) : Int) (ofL (secL (lnk boot n0 last (k + 1)) (hdr boot n0 last s k)))).sure_, (writeD d ((P + k : Nat) : Int) (ofL (secL (lnk boot n0 last (k + 1)) (hdr boot n0 last s k)))).wait_, (writeD d ((P + k : Nat) : Int) (ofL (secL (lnk boot n0 last (k + 1)) (hdr boot n0 last s k)))).off_, (writeD d ((P + k : Nat) : Int) (ofL (secL (lnk boot n0 last (k + 1)) (hdr boot n0 last s k)))).armed_, (writeD d ((P + k : Nat) : Int) (ofL (secL (lnk boot n0 last (k + 1)) (hdr boot n0 last s k)))).left_, (writeD d ((P + k : Nat) : Int) (ofL (secL (lnk boot n0 last (k + 1)) (hdr boot n0 last s k)))).fall_.Keep, (writeD d ((P + k : Nat) : Int) (ofL (secL (lnk boot n0 last (k + 1)) (hdr boot n0 last s k)))).fall_.Tear, (writeD d ((P + k : Nat) : Int) (ofL (secL (lnk boot n0 last (k + 1)) (hdr boot n0 last s k)))).acts_, (writeD d ((P + k : Nat) : Int) (ofL (secL (lnk boot n0 last (k + 1)) (hdr boot n0 last s k)))).falls_) : AOut))
        else .inl (aTup boot n0 last s (k + 1) (writeD d ((P + k : Nat) : Int) (ofL (secL (lnk boot n0 last (k + 1)) (hdr boot n0 last s k)))))) := by
  have hl := hdr_len boot n0 last s k
  have hst : stampG ⟨boot, n0 + (k : Int)⟩ = lnk boot n0 last (k + 1) := stamp_eq hg
  have hup : upG ⟨boot, n0 + (k : Int)⟩ = ⟨boot, n0 + ((k + 1 : Nat) : Int)⟩ := by
    unfold upG
    have : n0 + (k : Int) + 1 = n0 + ((k + 1 : Nat) : Int) := by omega
    dsimp only
    rw [this]
  have hput : F.guard_Guard_Put ((P + k : Nat) : Int) (ofL (hdr boot n0 last s k)) ⟨boot, n0 + (k : Int)⟩ d = some (if due d then (0, 8, ⟨boot, n0 + (k : Int)⟩, dropD d.fall_ d) else (lnk boot n0 last (k + 1), 0, ⟨boot, n0 + ((k + 1 : Nat) : Int)⟩, writeD d ((P + k : Nat) : Int) (ofL (secL (lnk boot n0 last (k + 1)) (hdr boot n0 last s k))))) := by
    rw [gput_eq hg hf hok _ _ (by omega), if_neg (by omega), if_neg (fun e => e hw), hst, hup]
  have hpl := prt_len s k
  have hpos : IntKind.i64.wrap (IntKind.i64.wrap (j.base_ + j.next_) + (k : Int)) = ((P + k : Nat) : Int) := by rw [hPj, w64 (n := (P : Int)) (by omega) (by omega), w64 (by omega) (by omega)]; omega
  unfold F.journal_Journal_Append.l1
  rw [geight_eq, Option.bind_some, bstr_kind, chk_pos (by rw [ofL_size, ofL_size, fixI_len]; simp)]
  simp only [ofL_append]
  rw [chk_pos (by rw [ofL_size, ofL_size, List.length_append, fixI_len]; simp; omega), hpos]
  have hh : ([knd k] ++ fixI 8 (lnk boot n0 last k) ++ prt s k) = hdr boot n0 last s k := by unfold hdr; simp
  rw [hh]
  refine (congrArg (fun o => Option.bind o _) hput).trans ?_
  rw [Option.bind_some]
  by_cases hd : due d
  · rw [if_pos hd, if_pos hd]
    rfl
  rw [if_neg hd, if_neg hd]
  generalize writeD d ((P + k : Nat) : Int) (ofL (secL (lnk boot n0 last (k + 1)) (hdr boot n0 last s k))) = d'
  dsimp only
  rw [if_neg (by decide), seq_nil, wadd (by omega)]
  by_cases hend : s.length ≤ 36 + 38 * k
  · have : s.drop (36 + 38 * k) = [] := List.drop_eq_nil_iff.2 hend
    rw [decide_eq_true this, if_pos rfl, if_pos hend]
  · have hne : ¬ (s.drop (36 + 38 * k) = []) := fun e => hend (List.drop_eq_nil_iff.1 e)
    rw [decide_eq_false hne, if_neg (by decide), if_neg hend]
    have hl : (s.drop (36 + 38 * k)).length = s.length - (36 + 38 * k) := List.length_drop
    rw [ofL_size, hl, min38, chk_pos (by omega), ofL_extract, Int.toNat_natCast]
    have ht : ((s.drop (36 + 38 * k)).take (min (s.length - (36 + 38 * k)) 38)).drop (0 : Int).toNat = prt s (k + 1) := by
      show ((s.drop (36 + 38 * k)).take (min (s.length - (36 + 38 * k)) 38)).drop 0 = (s.drop (36 + 38 * k)).take 38
      rw [List.drop_zero, ← hl, Nat.min_comm, List.take_eq_take_iff]
      omega
    rw [ht, ofL_size]
    have hpl2 : (prt s (k + 1)).length = min 38 (s.length - (36 + 38 * k)) := by
      show ((s.drop (36 + 38 * k)).take 38).length = _
      rw [List.length_take, hl]
    rw [chk_pos (by omega), ofL_extract, Int.toNat_natCast, Int.toNat_natCast]
    have hd : ((s.drop (36 + 38 * k)).take (s.length - (36 + 38 * k))).drop (prt s (k + 1)).length = s.drop (36 + 38 * (k + 1)) := by
      rw [List.take_of_length_le (by omega), List.drop_drop, hpl2]
      by_cases h2 : 38 ≤ s.length - (36 + 38 * k)
      · rw [Nat.min_eq_left h2]
        congr 1
      · rw [Nat.min_eq_right (by omega), List.drop_of_length_le (by omega), List.drop_of_length_le (by omega)]
    rw [hd]
    rfl
/-- what comes of an act: it is done, or the power went -/
theorem append_law {rs : List (List UInt8)} {sn : Nat} {A : Nat → Int} {b K0 : Nat} {D0 : Nat → List UInt8} {d : disk_Disk} (h : JI rs sn A b K0 D0 d) {s : List UInt8} (hs : s.length ≤ 6000) (hroom : (parts rs).length + nd s.length ≤ 60) {n0 : Int} (h0 : 0 ≤ n0) (h1 : n0 ≤ 1000000) :
    (∃ d', F.journal_Journal_Append (ofL s) (jnl rs sn A) ⟨(b : Int), n0⟩ d = some (0, jnl (rs ++ [s]) sn (stA A (parts rs).length b n0), ⟨(b : Int), n0 + (nd s.length : Int)⟩, d') ∧ JI (rs ++ [s]) sn (stA A (parts rs).length b n0) b K0 D0 d') ∨
    (∃ j' g' q d', F.journal_Journal_Append (ofL s) (jnl rs sn A) ⟨(b : Int), n0⟩ d = some (8, j', g', dropD d'.fall_ d') ∧ JB (rs ++ [s]) sn (stA A (parts rs).length b n0) b K0 ((parts rs).length + q) D0 ∧ JD (rs ++ [s]) sn (stA A (parts rs).length b n0) ((parts rs).length + q) D0 d') := by
  have hnp := nd_pos s.length
  have hb1 := h.hB.b1
  have hb2 := h.hB.b2
  have hJB : ∀ q, q ≤ nd s.length → JB (rs ++ [s]) sn (stA A (parts rs).length b n0) b K0 ((parts rs).length + q) D0 := fun q hq => h.hB.add hs hroom h0 h1 hq
  have hrl := recs60 h.hB.p60
  have hg : ∀ k, k < nd s.length → GOk ⟨(b : Int), n0 + (k : Int)⟩ := fun k hk => ⟨by show 1 ≤ (b : Int); omega, by show (b : Int) ≤ _; omega, by show 0 ≤ n0 + (k : Int); omega, by show n0 + (k : Int) < 4294967295; omega⟩
  have hPj : (jnl rs sn A).base_ + (jnl rs sn A).next_ = ((3 + (parts rs).length : Nat) : Int) := by show (3 : Int) + ((parts rs).length : Int) = _; omega
  have hlast : (jnl rs sn A).last_ = lk A (parts rs).length := rfl
  -- the rounds
  have hw0 : JD (rs ++ [s]) sn (stA A (parts rs).length b n0) ((parts rs).length + 0) D0 d := h.hD.add h.hB.hsn s n0
  have hstep : ∀ (k : Nat) (e : disk_Disk), k < nd s.length → JD (rs ++ [s]) sn (stA A (parts rs).length b n0) ((parts rs).length + k) D0 e → e.off_ = false → JD (rs ++ [s]) sn (stA A (parts rs).length b n0) ((parts rs).length + (k + 1)) D0 (writeD e ((3 + (parts rs).length + k : Nat) : Int) (ofL (secL (lnk (b : Int) n0 (lk A (parts rs).length) (k + 1)) (hdr (b : Int) n0 (lk A (parts rs).length) s k)))) := by
    intro k e hk hJ ho
    have hsw := (hJB k (by omega)).sw
    have hT : HasC (stA A (parts rs).length b n0) (parts (rs ++ [s])) ((parts rs).length + k) (secL (lnk (b : Int) n0 (lk A (parts rs).length) (k + 1)) (hdr (b : Int) n0 (lk A (parts rs).length) s k)) := by
      refine ⟨(knd k, prt s k), ?_, ?_⟩
      · rw [parts_snoc, List.getElem?_append_right (by omega), Nat.add_sub_cancel_left, prec_get s hk]
      · unfold cc hdr
        rw [lnk_lk, lnk_lk]
        have : lk (stA A (parts rs).length b n0) ((parts rs).length + (k + 1)) = stA A (parts rs).length b n0 ((parts rs).length + k) := by
          unfold lk
          rw [if_neg (by omega)]
          rfl
        rw [this]
    have := hJ.put hsw (by omega) hT (secL_len (hdr_len _ _ _ _ _))
    rw [show 3 + ((parts rs).length + k) = 3 + (parts rs).length + k by omega] at this
    exact this
  have hwhy : ∀ (k : Nat) (e : disk_Disk), k < nd s.length → e.sure_.length = 64 → e.off_ = false → whyB e ((3 + (parts rs).length + k : Nat) : Int) = 0 := fun k e hk hl ho => whyB_in ho (by omega) (by rw [hl]; omega)
  obtain ⟨r, e, hr⟩ := iter_up (f := fun x => F.journal_Journal_Append.l1 (jnl rs sn A) x.1 x.2.1 x.2.2.1 x.2.2.2.1 x.2.2.2.2.1 x.2.2.2.2.2.1 x.2.2.2.2.2.2.1 x.2.2.2.2.2.2.2.1 x.2.2.2.2.2.2.2.2.1 x.2.2.2.2.2.2.2.2.2.1 x.2.2.2.2.2.2.2.2.2.2.1 x.2.2.2.2.2.2.2.2.2.2.2.1 x.2.2.2.2.2.2.2.2.2.2.2.2.1 x.2.2.2.2.2.2.2.2.2.2.2.2.2.1 x.2.2.2.2.2.2.2.2.2.2.2.2.2.2.1 x.2.2.2.2.2.2.2.2.2.2.2.2.2.2.2) (nd s.length - 1)
    (fun k t => ∃ e, t = aTup (b : Int) n0 (lk A (parts rs).length) s k e ∧ JD (rs ++ [s]) sn (stA A (parts rs).length b n0) ((parts rs).length + k) D0 e ∧ e.off_ = false)
    (fun r => (∃ e, r = .inl ((((nd s.length : Nat) : Int), lnk (b : Int) n0 (lk A (parts rs).length) (nd s.length), (b : Int), n0 + ((nd s.length : Nat) : Int), e.sure_, e.wait_, e.off_, e.armed_, e.left_, e.fall_.Keep, e.fall_.Tear, e.acts_, e.falls_) : AOut) ∧ JD (rs ++ [s]) sn (stA A (parts rs).length b n0) ((parts rs).length + nd s.length) D0 e ∧ e.off_ = false) ∨
      (∃ j' g' q e, q ≤ nd s.length ∧ r = .inr (8, j', g', dropD e.fall_ e) ∧ JD (rs ++ [s]) sn (stA A (parts rs).length b n0) ((parts rs).length + q) D0 e))
    (fun k t hk hI => by
      obtain ⟨e, rfl, hJ, ho⟩ := hI
      have hm : 36 + 38 * k < s.length := nd_more.1 (by omega)
      have hrd := add_round (last := lk A (parts rs).length) hPj (by omega) hs (k := k) hJ.fall hJ.ok (hg k (by omega)) (hwhy k e (by omega) hJ.len ho) (by omega)
      by_cases hd : due e
      · rw [if_pos hd] at hrd
        exact .inr ⟨_, hrd, .inr ⟨_, _, k, e, by omega, rfl, hJ⟩⟩
      · rw [if_neg hd, if_neg (by omega)] at hrd
        exact .inl ⟨_, hrd, _, rfl, hstep k e (by omega) hJ ho, ho⟩)
    (fun t hI => by
      obtain ⟨e, rfl, hJ, ho⟩ := hI
      have hm : ¬ (36 + 38 * (nd s.length - 1) < s.length) := fun e => by have := nd_more.2 e; omega
      have hrd := add_round (last := lk A (parts rs).length) hPj (by omega) hs (k := nd s.length - 1) hJ.fall hJ.ok (hg _ (by omega)) (hwhy _ e (by omega) hJ.len ho) (by omega)
      by_cases hd : due e
      · rw [if_pos hd] at hrd
        exact ⟨_, hrd, .inr ⟨_, _, nd s.length - 1, e, by omega, rfl, hJ⟩⟩
      · rw [if_neg hd, if_pos (by omega)] at hrd
        have hJ2 := hstep (nd s.length - 1) e (by omega) hJ ho
        have e1 : nd s.length - 1 + 1 = nd s.length := by omega
        rw [e1] at hrd hJ2
        exact ⟨_, hrd, .inl ⟨_, rfl, hJ2, ho⟩⟩)
    (s0 := aTup (b : Int) n0 (lk A (parts rs).length) s 0 d) ⟨d, rfl, hw0, h.off⟩ (k := FUEL) (by
      rw [FUEL_eq]
      have : nd s.length ≤ 60 := by omega
      omega)
  have hhead : F.journal_Journal_Append (ofL s) (jnl rs sn A) ⟨(b : Int), n0⟩ d = thru (some r) (fun x => F.journal_Journal_Append.r2 (ofL s) (jnl rs sn A) x.1 x.2.1 x.2.2.1 x.2.2.2.1 x.2.2.2.2.1 x.2.2.2.2.2.1 x.2.2.2.2.2.2.1 x.2.2.2.2.2.2.2.1 x.2.2.2.2.2.2.2.2.1 x.2.2.2.2.2.2.2.2.2.1 x.2.2.2.2.2.2.2.2.2.2.1 x.2.2.2.2.2.2.2.2.2.2.2.1 x.2.2.2.2.2.2.2.2.2.2.2.2) := by
    have hleft : IntKind.i64.wrap ((jnl rs sn A).size_ - (jnl rs sn A).next_) = 60 - ((parts rs).length : Int) := w64 (n := (60 : Int) - ((parts rs).length : Int)) (by omega) (by omega)
    unfold F.journal_Journal_Append F.journal_Journal_off F.journal_Journal_Left F.journal_Journal_none
    rw [Option.bind_some, if_neg (by decide), if_neg (show ¬ (jnl rs sn A).dead_ = true from Bool.noConfusion), Option.bind_some, if_neg (by decide), ofL_size, if_neg (by simp; omega), need1_eq (by omega), Option.bind_some, Option.bind_some, if_neg (by decide), Option.bind_some, hleft, if_neg (by simp; omega), min36, chk_pos (by omega)]
    have hb2' : bstr ([IntKind.u8.wrap ((s.length : Int).fdiv (2 ^ 8)), IntKind.u8.wrap (s.length : Int)] : List Int) = ofL (lenL s) := by
      have hf : (s.length : Int).fdiv (2 ^ 8) = ((s.length / 256 : Nat) : Int) := fdiv_pow s.length 8
      rw [hf, u8w, u8w]
      exact bstr_ns [UInt8.ofNat (s.length / 256), UInt8.ofNat s.length]
    rw [hb2', ofL_extract, ofL_extract, Int.toNat_natCast]
    have ht : (s.take (min s.length 36)).drop (0 : Int).toNat = s.take 36 := by
      show (s.take (min s.length 36)).drop 0 = _
      rw [List.drop_zero, List.take_eq_take_iff]
      omega
    have hd : (s.take (s.length : Int).toNat).drop (min s.length 36) = s.drop (36 + 38 * 0) := by
      rw [Int.toNat_natCast, List.take_length]
      by_cases h : 36 ≤ s.length
      · rw [Nat.min_eq_right h]
      · rw [Nat.min_eq_left (by omega), List.drop_of_length_le (by omega), List.drop_of_length_le (by omega)]
    have hll : (lenL s).length = 2 := rfl
    rw [ht, hd, chk_pos (by rw [ofL_size, ofL_size, List.length_take, hll]; omega), chk_pos (by omega)]
    simp only [ofL_append]
    have e0 : (ofL (s.drop (36 + 38 * 0)), (0 : Int), (jnl rs sn A).last_, ofL (lenL s ++ s.take 36), (1 : Int), (b : Int), n0, d.sure_, d.wait_, d.off_, d.armed_, d.left_, d.fall_.Keep, d.fall_.Tear, d.acts_, d.falls_) = aTup (b : Int) n0 (lk A (parts rs).length) s 0 d := by
      unfold aTup
      rw [show n0 + ((0 : Nat) : Int) = n0 by omega]
      rfl
    exact congrArg (fun o => thru o _) ((congrArg (fun z => iter _ FUEL z) e0).trans e)
  rcases hr with ⟨e', rfl, hJ, ho⟩ | ⟨j', g', q, e', hq, rfl, hJ⟩
  · refine .inl ⟨e', ?_, ⟨?_, ?_, ho⟩⟩
    · rw [hhead, thru_inl]
      unfold F.journal_Journal_Append.r2
      rw [chk_pos (by unfold room jnl; rw [List.length_singleton]; simp; omega)]
      have hnx : IntKind.i64.wrap ((jnl rs sn A).next_ + ((nd s.length : Nat) : Int)) = ((parts (rs ++ [s])).length : Int) := by
        rw [snoc_len]
        show IntKind.i64.wrap (((parts rs).length : Int) + ((nd s.length : Nat) : Int)) = _
        rw [w64 (by omega) (by omega)]
        omega
      rw [hnx, lnk_lk, ← snoc_len]
      unfold jnl
      rw [List.map_append]
      rfl
    · rw [snoc_len]; exact hJB _ (Nat.le_refl _)
    · rw [snoc_len]; exact hJ
  · exact .inr ⟨j', g', q, e', by rw [hhead, thru_inr], hJB q hq, hJ⟩
/-- what has no room, or is too long, is not laid -/
theorem append_long {j : journal_Journal} {g : guard_Guard} {D : disk_Disk} {s : ByteArray} (hdead : j.dead_ = false) (h : 6000 < s.size) : F.journal_Journal_Append s j g D = some (3, j, g, D) := by
  unfold F.journal_Journal_Append F.journal_Journal_off F.journal_Journal_none
  rw [Option.bind_some, if_neg (by decide), hdead, if_neg (by decide), Option.bind_some, if_neg (by decide), if_pos (by simp; omega)]
theorem append_full {rs : List (List UInt8)} {sn : Nat} {A : Nat → Int} (h60 : (parts rs).length ≤ 60) {g : guard_Guard} {D : disk_Disk} {s : ByteArray} (h : s.size ≤ 6000) (hn : 60 < (parts rs).length + nd s.size) : F.journal_Journal_Append s (jnl rs sn A) g D = some (6, jnl rs sn A, g, D) := by
  have hleft : IntKind.i64.wrap ((jnl rs sn A).size_ - (jnl rs sn A).next_) = 60 - ((parts rs).length : Int) := w64 (n := (60 : Int) - ((parts rs).length : Int)) (by omega) (by omega)
  unfold F.journal_Journal_Append F.journal_Journal_off F.journal_Journal_Left F.journal_Journal_none
  rw [Option.bind_some, if_neg (by decide), if_neg (show ¬ (jnl rs sn A).dead_ = true from Bool.noConfusion), Option.bind_some, if_neg (by decide), if_neg (by simp; omega), need1_eq (by omega), Option.bind_some, Option.bind_some, if_neg (by decide), Option.bind_some, hleft, if_pos (by simp; omega)]
/-! ### flushing -/
theorem JD.flush {rs : List (List UInt8)} {sn : Nat} {A : Nat → Int} {b K0 : Nat} {D0 : Nat → List UInt8} {d : disk_Disk} (h : JI rs sn A b K0 D0 d) : JI rs rs.length A b K0 D0 (flushD d) := by
  have hp := h.hB.p60
  have hsw := h.hB.sw
  have hl := h.hD.len
  have hcf : ∀ k, k < 60 → curB (flushD d) ((3 + k : Nat) : Int) = curB d ((3 + k : Nat) : Int) := fun k hk => cur_flush h.hD.ok (by omega) (by rw [hl]; omega)
  refine ⟨⟨h.hB.hr, Nat.le_refl _, h.hB.b1, h.hB.b2, by rw [List.take_length]; exact Nat.le_trans h.hB.k0 hsw, by rw [List.take_length]; exact Nat.le_refl _, Nat.le_refl _, hp, h.hB.a1, h.hB.a2, h.hB.a3, h.hB.old, h.hB.no⟩, ⟨flush_ok h.hD.ok, by rw [flush_len, hl], h.hD.fall, fun k hk => ?_, fun k h1 h2 => ?_, fun k _ => rfl, fun k _ _ => rfl, fun k h1 h2 => ?_⟩, h.off⟩
  · obtain ⟨T, e1, e2⟩ := h.hD.cur k hk
    exact ⟨T, e1, by rw [hcf k (by omega), e2]⟩
  · rw [hcf k h2]; exact h.hD.old k h1 h2
  · rw [List.take_length] at h1
    show ((setAll' d.wait_ d.sure_)[3 + k]?).map (·.s_) = _
    rw [setAll'_get _ _ _ h.hD.ok.keys (fun p hp => (h.hD.ok.inr p hp).1), h.hD.nw2 k h1 h2]
    exact h.hD.su k (Nat.le_trans hsw h1) h2
theorem flush_law {rs : List (List UInt8)} {sn : Nat} {A : Nat → Int} {b K0 : Nat} {D0 : Nat → List UInt8} {d : disk_Disk} (h : JI rs sn A b K0 D0 d) (g : guard_Guard) :
    (∃ d', F.journal_Journal_Flush (jnl rs sn A) g d = some (0, jnl rs rs.length A, d') ∧ JI rs rs.length A b K0 D0 d') ∨ (∃ j', F.journal_Journal_Flush (jnl rs sn A) g d = some (8, j', dropD d.fall_ d)) := by
  unfold F.journal_Journal_Flush F.journal_Journal_off F.journal_Journal_none
  rw [Option.bind_some, if_neg (by decide), if_neg (show ¬ (jnl rs sn A).dead_ = true from Bool.noConfusion), Option.bind_some, if_neg (by decide)]
  have hll : ((jnl rs sn A).list_.length : Int) = (rs.length : Int) := by unfold jnl; rw [List.length_map]
  by_cases hc : sn = rs.length
  · subst hc
    rw [if_pos (by rw [hll]; unfold jnl; simp)]
    exact .inl ⟨d, rfl, h⟩
  · rw [if_neg (by rw [hll]; unfold jnl; simp; omega), gflush_eq h.hD.fall h.hD.ok, h.off, if_neg (by decide), Option.bind_some]
    by_cases hd : due d
    · rw [if_pos hd]
      exact .inr ⟨_, rfl⟩
    · rw [if_neg hd]
      dsimp only
      rw [if_neg (by decide), hll]
      exact .inl ⟨_, rfl, JD.flush h⟩
end Go.Proofs.YtgbloaophfaaoaaGreatDoor
