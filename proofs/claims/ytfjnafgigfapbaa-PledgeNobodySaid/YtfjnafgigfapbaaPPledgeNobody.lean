/- Without a mill nothing is pledged: the plain law. -/
import Derived.Test.YtfjnafgigfapbaaGNobody
import Derived.Test.YtfjnafgigfapbaaPPledge
import Derived.Test.YtfjnafgigfapbaaPAwake06
namespace Go.Proofs.Ytfjnafgigfapbaa
set_option linter.all false
open Go Go.RowKit Go.Fw
set_option maxRecDepth 100000
attribute [local irreducible] FUEL
theorem sum1 (s : ByteArray) : F.mill_Mill_Sum_1 s = some b0 := rfl
theorem tag1 (k s : ByteArray) : F.mill_Mill_Tag_1 k s = some b0 := rfl
theorem stream1 (k s : ByteArray) (n : Int) : F.mill_Mill_Stream_1 k s n = some b0 := rfl
theorem veil1 (k l s : ByteArray) : F.mill_Mill_Veil_1 k l s = some b0 := by
  unfold F.mill_Mill_Veil_1
  rw [stream1, Option.bind_some]
  by_cases h0 : s.size = 0
  · have hs : sbytes s = [] := List.length_eq_zero_iff.1 (by rw [sbytes_length]; exact h0)
    rw [if_neg (by rw [h0]; decide), chk_pos (by rw [h0]; decide), hs]
    have h := iter_stop (f := fun (x : List Int × Int) => F.mill_Mill_Veil_1.l1 s b0 x.1 x.2) (k := 18446744073709551615) (s := ([], 0)) (r := []) (by
      dsimp only
      unfold F.mill_Mill_Veil_1.l1
      rw [hs, if_neg (by decide)])
    rw [show 18446744073709551615 + 1 = FUEL by rw [FUEL_eq]] at h
    refine (congrArg (fun o => Option.bind o _) h).trans ?_
    rfl
  · rw [if_pos (by rw [b0_size]; simp; omega)]; rfl
theorem open1 {k n c : ByteArray} (hn : n.size ≤ 10000) : F.pledge_Open_1 k n c = some (b0, b0, false) := by
  unfold F.pledge_Open_1
  rw [label_eq hn, Option.bind_some, veil1]
  rfl
theorem of1 {a b c d : ByteArray} (ha : a.size ≤ 10000) (hb : b.size ≤ 10000) (hc : c.size ≤ 10000) (hd : d.size ≤ 10000) : F.pledge_Of_1 a b c d = some b0 := by
  have sa := text_small ha
  have sb := text_small hb
  have sc := text_small hc
  have sd := text_small hd
  unfold F.pledge_Of_1
  rw [text_eqS ha, Option.bind_some]
  show chk (c2.size + (textB a).size ≤ _) _ = _
  rw [chk_pos (by rw [c2_size]; omega), text_eqS hb, Option.bind_some]
  show chk ((c2 ++ textB a).size + (textB b).size ≤ _) _ = _
  rw [chk_pos (by rw [size_app, c2_size]; omega), text_eqS hc, Option.bind_some]
  show chk (((c2 ++ textB a) ++ textB b).size + (textB c).size ≤ _) _ = _
  rw [chk_pos (by rw [size_app, size_app, c2_size]; omega), text_eqS hd, Option.bind_some]
  show chk ((((c2 ++ textB a) ++ textB b) ++ textB c).size + (textB d).size ≤ _) _ = _
  rw [chk_pos (by rw [size_app, size_app, size_app, c2_size]; omega)]
  rfl
theorem salt1 {a b : ByteArray} (hb : b.size ≤ 10000) : F.pledge_Salt_1 a b = some b0 := by
  have sb := text_small hb
  unfold F.pledge_Salt_1
  rw [text_eqS hb, Option.bind_some]
  show chk (wSalt.size + (textB b).size ≤ _) _ = _
  rw [chk_pos (by rw [wSalt_size]; omega), tag1]
  rfl
theorem shut1 {k n s v : ByteArray} (hn : n.size ≤ 10000) (hs : s.size ≤ 10000) (hv : v.size ≤ 10000) : F.pledge_Shut_1 k n s v = some b0 := by
  unfold F.pledge_Shut_1
  rw [label_eq hn, Option.bind_some, chk_pos (by omega), veil1]
  rfl
theorem slip1 {d i n v : ByteArray} (hi : i.size ≤ 10000) (hn : n.size ≤ 10000) (hv : v.size ≤ 10000) : F.pledge_Slip_1 d i n v = some ⟨n, b0, b0, false⟩ := by
  unfold F.pledge_Slip_1
  rw [salt1 hn, Option.bind_some, of1 hi hn (by decide) hv, Option.bind_some]
  have hk : F.pledge_Key_1 d = some b0 := rfl
  rw [hk, Option.bind_some, shut1 hn (by decide) hv]
  rfl
theorem pure_PledgeNobody (x0 : ByteArray) {w0 z0 : Prop} (_ : w0) (_ : z0) : F.law06_PledgeNobody x0 = some true := by
  have h0 := cutB_size x0
  unfold F.law06_PledgeNobody
  rw [cut_eq, Option.bind_some]
  generalize cutB x0 = s at h0
  have hl : F.pledge_Leaf_1 s = some b0 := by
    unfold F.pledge_Leaf_1
    show chk (c0.size + s.size ≤ _) _ = _
    rw [chk_pos (by rw [c0_size]; omega), sum1]
    rfl
  have hn : F.pledge_Node_1 s s = some b0 := by
    unfold F.pledge_Node_1
    show chk (c1.size + s.size ≤ _) (chk ((c1 ++ s).size + s.size ≤ _) _) = _
    rw [chk_pos (by rw [c1_size]; omega), chk_pos (by rw [size_app, c1_size]; omega), sum1]
    rfl
  have hz : F.pledge_None_1 = some b0 := rfl
  have hk : F.pledge_Key_1 s = some b0 := rfl
  have e : b0 ++ b0 = b0 := rfl
  rw [open1 (by omega), Option.bind_some, of1 (by omega) (by omega) (by omega) (by omega), Option.bind_some, hl, Option.bind_some, chk_pos (by decide), hn, Option.bind_some, e, chk_pos (by decide), hz, Option.bind_some, e, chk_pos (by decide), hk, Option.bind_some, e, chk_pos (by decide), salt1 (by omega), Option.bind_some, e, chk_pos (by decide), shut1 (by omega) (by omega) (by omega), Option.bind_some, e, chk_pos (by decide)]
  dsimp only
  rw [e, chk_pos (by decide), e, chk_pos (by decide), e]
  have e3 : seqB b0 (ByteArray.mk #[]) = true := seqB_iff.2 rfl
  rw [e3, if_pos rfl, if_pos (by decide), slip1 (by omega) (by omega) (by omega), Option.bind_some]
  dsimp only
  rw [e3, seqB_refl, awake]
  rfl
end Go.Proofs.Ytfjnafgigfapbaa
