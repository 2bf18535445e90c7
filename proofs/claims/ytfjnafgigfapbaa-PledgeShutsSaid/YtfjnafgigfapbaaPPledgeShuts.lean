/- What is shut is opened again; what is opened of any bytes: the plain law. -/
import Derived.Test.YtfjnafgigfapbaaGShuts
import Derived.Test.YtfjnafgigfapbaaPPledge
import Derived.Test.YtfjnafgigfapbaaPAwake06
namespace Go.Proofs.Ytfjnafgigfapbaa
set_option linter.all false
open Go Go.RowKit Go.Fw
set_option maxRecDepth 100000
attribute [local irreducible] FUEL
def digs : ByteArray := ByteArray.mk #[48, 49, 50, 51, 52, 53, 54, 55, 56, 57, 97, 98, 99, 100, 101, 102]
theorem digs_size : digs.size = 16 := rfl
theorem pure_PledgeShuts (x0 x1 x2 x3 : ByteArray) {w0 z0 w1 z1 w2 z2 w3 z3 : Prop} (_ : w0) (_ : z0) (_ : w1) (_ : z1) (_ : w2) (_ : z2) (_ : w3) (_ : z3) : F.law06_PledgeShuts x0 x1 x2 x3 = some true := by
  have h0 := cutB_size x0
  have h1 := cutB_size x1
  have h2 := cutB_size x2
  have h3 := cutB_size x3
  unfold F.law06_PledgeShuts
  rw [mnew_eq, Option.bind_some, Option.bind_some, cut_eq, Option.bind_some, cut_eq, Option.bind_some, cut_eq, Option.bind_some, cut_eq, Option.bind_some]
  generalize cutB x0 = k at h0
  generalize cutB x1 = n at h1
  generalize cutB x2 = v at h2
  generalize cutB x3 = c at h3
  have hn := text_small (s := n) (by omega)
  have hl := labB_size (name := n) (by omega)
  have ssz := shutB_size T32_new k n digs v
  rw [text_eqS (by omega), Option.bind_some]
  show chk (wField.size + (textB n).size ≤ _) (Option.bind (F.pledge_Shut k n digs v m00) _) = _
  rw [chk_pos (by rw [wField_size]; omega), shut_eq m00 T32_new (by omega) (by omega) (by decide) (by omega), Option.bind_some, open_eq m00 T32_new (by omega) (by omega) (by rw [ssz, digs_size]; omega), Option.bind_some, open_shut T32_new digs_size]
  show thru (chk (digs.size + v.size ≤ _) (Option.bind (F.mill_Mill_Veil k (labB n) (digs ++ v) m00) _)) _ = _
  rw [chk_pos (by rw [digs_size]; omega), veil_eq m00 T32_new (by omega) (by omega) (by rw [size_app, digs_size]; omega), Option.bind_some]
  have e1 : seqB (shutB m00.table_ k n digs v) (veilB m00.table_ k (labB n) (digs ++ v)) = true := seqB_iff.2 rfl
  have e2 : seqB digs (ByteArray.mk #[48, 49, 50, 51, 52, 53, 54, 55, 56, 57, 97, 98, 99, 100, 101, 102]) = true := seqB_iff.2 rfl
  dsimp only
  rw [e1, if_neg (by decide), e2, if_neg (by decide), seqB_refl, if_neg (by decide), if_neg (by decide), thru_inl]
  unfold F.law06_PledgeShuts.r1
  rw [open_eq m00 T32_new (by omega) (by omega) (by omega), Option.bind_some]
  by_cases hc : c.size < 16
  · rw [if_pos (by simp; omega)]
    have ho : openB m00.table_ k n c = (b0, b0, false) := by unfold openB; rw [if_pos hc]
    rw [ho]
    dsimp only
    have e3 : seqB b0 (ByteArray.mk #[]) = true := seqB_iff.2 rfl
    rw [e3, if_pos rfl, if_pos rfl, if_pos (by decide), awake]
    rfl
  · rw [if_neg (by simp; omega), thru_inl]
    have ho : openB m00.table_ k n c = ((veilB m00.table_ k (labB n) c).extract 0 16, (veilB m00.table_ k (labB n) c).extract 16 c.size, true) := by unfold openB; rw [if_neg hc]
    have sv := veilB_size T32_new k (labB n) c
    unfold F.law06_PledgeShuts.r2
    rw [ho]
    dsimp only
    have e4 : ((veilB m00.table_ k (labB n) c).extract 0 16).size = 16 := by rw [extract_size (by omega)]
    have e5 : (veilB m00.table_ k (labB n) c).extract 0 16 ++ (veilB m00.table_ k (labB n) c).extract 16 c.size = veilB m00.table_ k (labB n) c := by
      rw [← sv]
      generalize veilB m00.table_ k (labB n) c = q
      rw [ofL_surj q, extract_ofL, extract_ofL, ofL_append, ofL_size, List.take_length, List.drop_zero, List.take_append_drop]
    rw [if_pos rfl, e4, if_pos (by decide), chk_pos (by rw [extract_size (by omega)]; omega)]
    show Option.bind (F.mill_Mill_Veil k (labB n) c m00) _ = _
    rw [veil_eq m00 T32_new (by omega) (by omega) (by omega), Option.bind_some, e5, seqB_refl, if_pos rfl, awake]
    rfl
end Go.Proofs.Ytfjnafgigfapbaa
