/- Nothing of a key that was shredded is left on the disk: the plain law. -/
import Derived.Test.YtilpkebkhibpeaaDoorGShreds
import Derived.Test.YtilpkebkhibpeaaDoorPRing
import Derived.Test.YtilpkebkhibpeaaDoorPImage
import Derived.Test.YtilpkebkhibpeaaDoorPAwake13
namespace Go.Proofs.YtilpkebkhibpeaaDoor
set_option linter.all false
open Go Go.RowKit Go.Fw
set_option maxRecDepth 100000
attribute [local irreducible] FUEL
structure Ok20 (d : disk_Disk) : Prop where
  ok : DOk d
  len : d.sure_.length = 20
  off : d.off_ = false
  armed : d.armed_ = false
  fall : FOk d.fall_
theorem Ok20.due {d : disk_Disk} (h : Ok20 d) : ¬ due d := by unfold Go.Proofs.YtilpkebkhibpeaaDoor.due; rw [h.armed]; intro e; cases e.1
theorem step_ok {d : disk_Disk} (h : Ok20 d) {j : Int} (h0 : 0 ≤ j) (h1 : j < 20) {s : List UInt8} (hs : s.length = 64) :
    Ok20 (flushD (writeD d j (ofL s))) ∧ (¬ due (writeD d j (ofL s))) ∧ (flushD (writeD d j (ofL s))).wait_ = [] ∧ ∀ k, 0 ≤ k → k < 20 → curB (flushD (writeD d j (ofL s))) k = if k = j then ofL s else curB d k := by
  have hw := write_ok h.ok h0 (by rw [h.len]; exact h1) (s := ofL s) (by rw [ofL_size, hs])
  have hl : (writeD d j (ofL s)).sure_.length = 20 := h.len
  refine ⟨⟨flush_ok hw, by rw [flush_len, hl], h.off, h.armed, h.fall⟩, ?_, rfl, fun k k0 k1 => ?_⟩
  · unfold due
    have : (writeD d j (ofL s)).armed_ = false := h.armed
    rw [this]
    intro e
    cases e.1
  · rw [cur_flush hw k0 (by rw [hl]; exact k1), cur_write]
theorem pure_KeyringShreds (x0 x1 x2 : Int) (f : disk_Fall) {z0 z1 z2 z3 w0 w1 w2 : Prop} (_ : w0) (_ : z0) (_ : w1) (_ : z1) (_ : w2) (_ : z2) (w3 : ((Lit.int .u64 f.Keep).wf = true) ∧ ((Lit.int .i64 f.Tear).wf = true)) (_ : z3) : F.law13_KeyringShreds x0 x1 x2 f = some true := by
  have hF : FOk f := ⟨(wf_i64 w3.2).1, (wf_i64 w3.2).2⟩
  unfold F.law13_KeyringShreds
  have hn := new_eq (n := 20) (by decide) (by decide)
  rw [show ((20 : Nat) : Int) = 20 from rfl] at hn
  rw [hn, Option.bind_some]
  dsimp only [optC]
  rw [if_neg (by decide), thru_inl]
  unfold F.law13_KeyringShreds.r1
  have hlen : (newD 20).sure_.length = 20 := by unfold newD; rw [List.length_replicate]
  rw [made_eq hlen (by decide) (by decide), Option.bind_some]
  dsimp only [optC]
  have hcond : (if decide (x0 < 0) = true then some true else if decide (x0 ≥ 7) = true then some true else if (x1 == 0) = true then some true else some (x1 == x2)) = some (decide (x0 < 0 ∨ x0 ≥ 7 ∨ x1 = 0 ∨ x1 = x2)) := by
    by_cases h1 : x0 < 0
    · rw [if_pos (by simpa using h1)]; simp [h1]
    · rw [if_neg (by simpa using h1)]
      by_cases h2 : x0 ≥ 7
      · rw [if_pos (by simpa using h2)]; simp [h2]
      · rw [if_neg (by simpa using h2)]
        by_cases h3 : x1 = 0
        · rw [if_pos (by simpa using h3)]; simp [h3]
        · rw [if_neg (by simpa using h3)]
          congr 1
          rw [Bool.eq_iff_iff]
          simp [h1, h2, h3]
  rw [hcond, Option.bind_some]
  unfold F.law13_KeyringShreds.r3
  by_cases hc : x0 < 0 ∨ x0 ≥ 7 ∨ x1 = 0 ∨ x1 = x2
  · rw [decide_eq_true hc, if_pos rfl, awake]
    rfl
  rw [decide_eq_false hc, if_neg (by decide), thru_inl]
  unfold F.law13_KeyringShreds.r4
  have ok0 : Ok20 (newD 20) := ⟨new_ok (by decide) (by decide), hlen, rfl, rfl, ⟨by decide, by decide⟩⟩
  have g0 : GOk ⟨1, 0⟩ := ⟨by decide, by decide, by decide, by decide⟩
  have g1 : GOk (upG ⟨1, 0⟩) := ⟨by decide, by decide, by decide, by decide⟩
  have hk1 := keyL_len x1
  have hk2 := keyL_len x2
  -- the first key
  have at0 : At ⟨5, 8, 0⟩ (newD 20) x0 (5 + x0) noL := {
    lo := by omega
    hi := by show x0 < 8; omega
    sum := w64 (n := 5 + x0) (by omega) (by omega)
    j0 := by omega
    why := whyB_in rfl (by omega) (by rw [hlen]; omega)
    cur := new_cur (by omega) (by omega)
    len := rfl }
  have hs1 : (secL (stampG ⟨1, 0⟩) (keyL x1)).length = 64 := secL_len (by omega)
  obtain ⟨ok1, d1, _, c1⟩ := step_ok ok0 (j := 5 + x0) (by omega) (by omega) hs1
  rw [key_eq, Option.bind_some, rput_eq g0 ok0.fall ok0.ok at0 hk1, if_neg (by rw [no_read]; exact fun e => e rfl), if_neg ok0.due, if_neg d1, Option.bind_some]
  generalize hD1 : flushD (writeD (newD 20) (5 + x0) (ofL (secL (stampG ⟨1, 0⟩) (keyL x1)))) = D1 at ok1 c1
  dsimp only
  rw [if_neg (by decide), key_eq, Option.bind_some, w64 (n := x0 + 1) (by omega) (by omega)]
  -- the second key
  have at1 : At ⟨5, 8, 0⟩ D1 (x0 + 1) (5 + (x0 + 1)) noL := {
    lo := by omega
    hi := by show x0 + 1 < 8; omega
    sum := w64 (n := 5 + (x0 + 1)) (by omega) (by omega)
    j0 := by omega
    why := whyB_in ok1.off (by omega) (by rw [ok1.len]; omega)
    cur := by rw [c1 _ (by omega) (by omega), if_neg (by omega)]; exact new_cur (by omega) (by omega)
    len := rfl }
  have hst2 : stampG (upG ⟨1, 0⟩) = 4294967298 := stamp_eq g1
  have hs2 : (secL (stampG (upG ⟨1, 0⟩)) (keyL x2)).length = 64 := secL_len (by omega)
  obtain ⟨ok2, d2, _, c2⟩ := step_ok ok1 (j := 5 + (x0 + 1)) (by omega) (by omega) hs2
  rw [rput_eq g1 ok1.fall ok1.ok at1 hk2, if_neg (by rw [no_read]; exact fun e => e rfl), if_neg ok1.due, if_neg d2, Option.bind_some]
  generalize hD2 : flushD (writeD D1 (5 + (x0 + 1)) (ofL (secL (stampG (upG ⟨1, 0⟩)) (keyL x2)))) = D2 at ok2 c2
  dsimp only
  rw [if_neg (by decide)]
  -- the first one is shredded
  have at2 : At ⟨5, 8, 0⟩ D2 x0 (5 + x0) (secL (stampG ⟨1, 0⟩) (keyL x1)) := {
    lo := by omega
    hi := by show x0 < 8; omega
    sum := w64 (n := 5 + x0) (by omega) (by omega)
    j0 := by omega
    why := whyB_in ok2.off (by omega) (by rw [ok2.len]; omega)
    cur := by rw [c2 _ (by omega) (by omega), if_neg (by omega), c1 _ (by omega) (by omega), if_pos rfl]
    len := hs1 }
  have hst1 : stampG ⟨1, 0⟩ = 4294967297 := stamp_eq g0
  have hr1 : readL (secL (stampG ⟨1, 0⟩) (keyL x1)) = (keyL x1, 4294967297, 0) := by rw [hst1]; exact sec_read (by decide) (by decide) (by omega)
  obtain ⟨ok3, d3, w3', c3⟩ := step_ok ok2 (j := 5 + x0) (by omega) (by omega) (s := noL) rfl
  rw [rshred_eq ok2.fall ok2.ok at2, if_neg (by rw [hr1]; simp), if_neg ok2.due, if_neg d3, Option.bind_some]
  generalize hD3 : flushD (writeD D2 (5 + x0) (ofL noL)) = D3 at ok3 c3 w3'
  dsimp only
  rw [if_neg (by decide), thru_inl]
  unfold F.law13_KeyringShreds.r5
  show Option.bind (F.disk_Disk_Image D3) _ = _
  rw [image_eq ok3.ok, Option.bind_some]
  show Option.bind (F.disk_Disk_Crash f D3) _ = _
  rw [crash_eq hF ok3.ok, ok3.off, if_neg (by decide), Option.bind_some]
  have hsure : (dropD f D3).sure_ = D3.sure_ := by
    have hk : sortI (keysD D3) = [] := by
      unfold keysD
      rw [w3']
      exact List.Perm.eq_nil (sortI_p [])
    show fallG f D3.wait_ (sortI (keysD D3)) 0 D3.sure_ = _
    rw [hk]
    rfl
  have hil : (imageL D3.sure_).length = 1280 := by rw [imageL_len _ ok3.ok.sec, ok3.len]
  rw [image_eq (drop_ok ok3.ok), hsure, Option.bind_some, seqB_refl, if_neg (by decide), ofL_size, hil, if_neg (by decide), thru_inl]
  unfold F.law13_KeyringShreds.r6
  obtain ⟨k, rfl⟩ : ∃ k : Nat, x0 = (k : Int) := ⟨x0.toNat, by omega⟩
  obtain ⟨y, hy⟩ := getq (l := D3.sure_) (i := 5 + k) (by rw [ok3.len]; omega)
  have hcur : ∀ j : Int, curB D3 j = ((D3.sure_[j.toNat]?).getD zS).s_ := fun j => by unfold curB; rw [w3']; rfl
  have hyc : y.s_ = ofL noL := by
    have h1 := c3 (5 + (k : Int)) (by omega) (by omega)
    rw [if_pos rfl, hcur] at h1
    have e : (5 + (k : Int)).toNat = 5 + k := by omega
    rw [e, hy] at h1
    exact h1
  have e1 : IntKind.i64.wrap (64 * IntKind.i64.wrap (5 + (k : Int))) = ((64 * (5 + k) : Nat) : Int) := by rw [w64 (n := 5 + (k : Int)) (by omega) (by omega), w64 (by omega) (by omega)]; omega
  have e2 : IntKind.i64.wrap (64 * IntKind.i64.wrap (6 + (k : Int))) = ((64 * (5 + k + 1) : Nat) : Int) := by rw [w64 (n := 6 + (k : Int)) (by omega) (by omega), w64 (by omega) (by omega)]; omega
  have hsec : ((imageL D3.sure_).take (64 * (5 + k + 1))).drop (64 * (5 + k)) = noL := by
    rw [imageL_sec _ _ _ ok3.ok.sec hy, hyc, ofL_toList]
  have hno : bstr (List.replicate (64 : Int).toNat 0 : List Int) = ofL noL := by rw [bstr_ofL, List.map_replicate]; rfl
  rw [e1, e2, ofL_size, hil, chk_pos (by omega), chk_pos (by decide), ofL_extract, Int.toNat_natCast, Int.toNat_natCast, hsec, hno, if_pos (seqB_refl _)]
  dsimp only
  rw [start_eq (drop_ok ok3.ok).pos, if_pos (show (dropD f D3).off_ = true from rfl), Option.bind_some]
  dsimp only
  rw [if_pos (by decide)]
  have hE : ∀ j : Int, curB (startD (dropD f D3)) j = curB D3 j := fun j => by
    rw [hcur]
    show (((dropD f D3).sure_[j.toNat]?).getD zS).s_ = _
    rw [hsure]
  have hEl : (startD (dropD f D3)).sure_.length = 20 := by show (dropD f D3).sure_.length = 20; rw [hsure, ok3.len]
  have atE : ∀ (s : Int) (i : Int) (b : List UInt8), 0 ≤ i → i < 8 → curB D3 (5 + i) = ofL b → b.length = 64 → At ⟨5, 8, s⟩ (startD (dropD f D3)) i (5 + i) b := fun s i b h0 h1 h2 h3 => {
    lo := h0
    hi := h1
    sum := w64 (n := 5 + i) (by omega) (by omega)
    j0 := by omega
    why := whyB_in rfl (by omega) (by rw [hEl]; omega)
    cur := by rw [hE, h2]
    len := h3 }
  have hr2 : readL (secL (stampG (upG ⟨1, 0⟩)) (keyL x2)) = (keyL x2, 4294967298, 0) := by rw [hst2]; exact sec_read (by decide) (by decide) (by omega)
  rw [rfree_eq (by rw [hEl]; decide) (atE _ (k : Int) noL (by omega) (by omega) (by rw [c3 _ (by omega) (by omega), if_pos rfl]) rfl), no_read, Option.bind_some, if_pos (by decide), w64 (n := (k : Int) + 1) (by omega) (by omega), rfree_eq (by rw [hEl]; decide) (atE _ ((k : Int) + 1) (secL (stampG (upG ⟨1, 0⟩)) (keyL x2)) (by omega) (by omega) (by rw [c3 _ (by omega) (by omega), if_neg (by omega), c2 _ (by omega) (by omega), if_pos rfl]) hs2), hr2, Option.bind_some, if_pos (by simp), awake]
  rfl
end Go.Proofs.YtilpkebkhibpeaaDoor
