/- What any field is pledged by, and the sums of leaves, of two sums, and of nothing: the plain law. -/
import Derived.Test.YtfjnafgigfapbaaGSums
import Derived.Test.YtfjnafgigfapbaaPPledge
import Derived.Test.YtfjnafgigfapbaaPAwake06
namespace Go.Proofs.Ytfjnafgigfapbaa
set_option linter.all false
open Go Go.RowKit Go.Fw
set_option maxRecDepth 100000
attribute [local irreducible] FUEL
theorem lof_eq {a b c d : ByteArray} (ha : a.size ≤ 10000) (hb : b.size ≤ 10000) (hc : c.size ≤ 10000) (hd : d.size ≤ 10000) : F.law06_of a b c d = some (ofTx a b c d) := by
  have sa := text_small ha
  have sb := text_small hb
  have sc := text_small hc
  have sd := text_small hd
  unfold F.law06_of
  rw [text_eqS ha, Option.bind_some]
  show chk (c2.size + (textB a).size ≤ _) _ = _
  rw [chk_pos (by rw [c2_size]; omega), text_eqS hb, Option.bind_some]
  show chk ((c2 ++ textB a).size + (textB b).size ≤ _) _ = _
  rw [chk_pos (by rw [size_app, c2_size]; omega), text_eqS hc, Option.bind_some]
  show chk (((c2 ++ textB a) ++ textB b).size + (textB c).size ≤ _) _ = _
  rw [chk_pos (by rw [size_app, size_app, c2_size]; omega), text_eqS hd, Option.bind_some]
  show chk ((((c2 ++ textB a) ++ textB b) ++ textB c).size + (textB d).size ≤ _) _ = _
  rw [chk_pos (by rw [size_app, size_app, size_app, c2_size]; omega)]
  rfl
theorem leaf_eq {v : ByteArray} (m : mill_Mill) (h : v.size ≤ 10000) : F.pledge_Leaf v m = some (sumB m.table_ (c0 ++ v), noteM (c0 ++ v) (sumB m.table_ (c0 ++ v)) m) := by
  unfold F.pledge_Leaf
  show chk (c0.size + v.size ≤ _) (Option.bind (F.mill_Mill_Sum (c0 ++ v) m) _) = _
  rw [chk_pos (by rw [c0_size]; omega), sum_eqB m (by rw [size_app, c0_size]; omega)]
  rfl
theorem node_eq {v u : ByteArray} (m : mill_Mill) (h : v.size ≤ 10000) (h2 : u.size ≤ 10000) : F.pledge_Node v u m = some (sumB m.table_ (c1 ++ v ++ u), noteM (c1 ++ v ++ u) (sumB m.table_ (c1 ++ v ++ u)) m) := by
  unfold F.pledge_Node
  show chk (c1.size + v.size ≤ _) (chk ((c1 ++ v).size + u.size ≤ _) (Option.bind (F.mill_Mill_Sum (c1 ++ v ++ u) m) _)) = _
  rw [chk_pos (by rw [c1_size]; omega), chk_pos (by rw [size_app, c1_size]; omega), sum_eqB m (by rw [size_app, size_app, c1_size]; omega)]
  rfl
theorem none_eq (m : mill_Mill) : F.pledge_None m = some (sumB m.table_ b0, noteM b0 (sumB m.table_ b0) m) := by
  unfold F.pledge_None
  show Option.bind (F.mill_Mill_Sum b0 m) _ = _
  rw [sum_eqB m (by decide)]
  rfl
theorem pure_PledgeSums (x0 x1 x2 x3 : ByteArray) {w0 z0 w1 z1 w2 z2 w3 z3 : Prop} (_ : w0) (_ : z0) (_ : w1) (_ : z1) (_ : w2) (_ : z2) (_ : w3) (_ : z3) : F.law06_PledgeSums x0 x1 x2 x3 = some true := by
  have h0 := cutB_size x0
  have h1 := cutB_size x1
  have h2 := cutB_size x2
  have h3 := cutB_size x3
  unfold F.law06_PledgeSums
  rw [mnew_eq, Option.bind_some, Option.bind_some, cut_eq, Option.bind_some, cut_eq, Option.bind_some, cut_eq, Option.bind_some, cut_eq, Option.bind_some]
  generalize cutB x0 = a at h0
  generalize cutB x1 = b at h1
  generalize cutB x2 = c at h2
  generalize cutB x3 = d at h3
  have sz := ofTx_size (a := a) (b := b) (c := c) (d := d) (by omega) (by omega) (by omega) (by omega)
  rw [of_eq m00 (by omega) (by omega) (by omega) (by omega), Option.bind_some, lof_eq (by omega) (by omega) (by omega) (by omega), Option.bind_some, sum_eqB m00 (by omega), Option.bind_some]
  dsimp only
  rw [seqB_refl, if_pos rfl]
  have T1 : (noteM (ofTx a b c d) (sumB m00.table_ (ofTx a b c d)) m00).table_ = m00.table_ := noteM_table _ _ _
  generalize noteM (ofTx a b c d) (sumB m00.table_ (ofTx a b c d)) m00 = m1 at T1
  rw [leaf_eq m1 (by omega), Option.bind_some]
  show chk (c0.size + d.size ≤ _) (Option.bind (F.mill_Mill_Sum (c0 ++ d) m1) _) = _
  rw [chk_pos (by rw [c0_size]; omega), sum_eqB m1 (by rw [size_app, c0_size]; omega), Option.bind_some]
  dsimp only
  rw [seqB_refl, if_pos rfl]
  generalize noteM (c0 ++ d) (sumB m1.table_ (c0 ++ d)) m1 = m2
  rw [node_eq m2 (by omega) (by omega), Option.bind_some]
  show chk (c1.size + a.size ≤ _) (chk ((c1 ++ a).size + b.size ≤ _) (Option.bind (F.mill_Mill_Sum (c1 ++ a ++ b) m2) _)) = _
  rw [chk_pos (by rw [c1_size]; omega), chk_pos (by rw [size_app, c1_size]; omega), sum_eqB m2 (by rw [size_app, size_app, c1_size]; omega), Option.bind_some]
  dsimp only
  rw [seqB_refl, if_pos rfl]
  generalize noteM (c1 ++ a ++ b) (sumB m2.table_ (c1 ++ a ++ b)) m2 = m3
  rw [none_eq m3, Option.bind_some]
  show Option.bind (F.mill_Mill_Sum b0 m3) _ = _
  rw [sum_eqB m3 (by decide), Option.bind_some]
  dsimp only
  rw [seqB_refl, if_pos rfl, awake]
  rfl
end Go.Proofs.Ytfjnafgigfapbaa
