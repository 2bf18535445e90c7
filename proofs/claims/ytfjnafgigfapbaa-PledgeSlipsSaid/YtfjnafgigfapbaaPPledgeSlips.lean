/- Any field as it is kept, and that what it keeps is what it was made of: the plain law. -/
import Derived.Test.YtfjnafgigfapbaaGSlips
import Derived.Test.YtfjnafgigfapbaaPPledge
import Derived.Test.YtfjnafgigfapbaaPAwake06
namespace Go.Proofs.Ytfjnafgigfapbaa
set_option linter.all false
open Go Go.RowKit Go.Fw
set_option maxRecDepth 100000
attribute [local irreducible] FUEL
theorem pure_PledgeSlips (x0 x1 x2 x3 : ByteArray) {w0 z0 w1 z1 w2 z2 w3 z3 : Prop} (_ : w0) (_ : z0) (_ : w1) (_ : z1) (_ : w2) (_ : z2) (_ : w3) (_ : z3) : F.law06_PledgeSlips x0 x1 x2 x3 = some true := by
  have h0 := cutB_size x0
  have h1 := cutB_size x1
  have h2 := cutB_size x2
  have h3 := cutB_size x3
  unfold F.law06_PledgeSlips
  rw [mnew_eq, Option.bind_some, cut_eq, Option.bind_some, cut_eq, Option.bind_some, cut_eq, Option.bind_some, cut_eq, Option.bind_some]
  generalize cutB x0 = d at h0
  generalize cutB x1 = i at h1
  generalize cutB x2 = n at h2
  generalize cutB x3 = v at h3
  have ss := saltB_size T32_new d n
  have sz := shutB_size T32_new (tagB m00.table_ d wKey) n (saltB m00.table_ d n) v
  have sk := T32_new d wKey
  have hnm : (slipB m00.table_ d i n v).Name.size ≤ 10000 := by unfold slipB; dsimp only; omega
  have hci : (slipB m00.table_ d i n v).Cipher.size ≤ 10000 := by unfold slipB; dsimp only; omega
  obtain ⟨m1, e1, t1⟩ := slip_eq (draw := d) (id := i) (name := n) (value := v) m00 T32_new (by omega) (by omega) (by omega) (by omega)
  have hs : slipB m00.table_ d i n v = ⟨n, sumB m00.table_ (ofTx i n (saltB m00.table_ d n) v), shutB m00.table_ (tagB m00.table_ d wKey) n (saltB m00.table_ d n) v, false⟩ := rfl
  generalize slipB m00.table_ d i n v = sl at e1 hs hnm hci
  have T1 : T32 m1.table_ := by rw [t1]; exact T32_new
  rw [e1, Option.bind_some]
  dsimp only
  rw [salt_eq m1 T1 (by omega) (by omega), Option.bind_some, key_eq m1 (by omega), Option.bind_some, t1]
  obtain ⟨m2, e2, t2⟩ := kept_eq (key := tagB m00.table_ d wKey) (id := i) (s := sl) m1 T1 (by omega) (by omega) hnm hci
  rw [t1] at e2 t2
  rw [e2, Option.bind_some]
  dsimp only
  have e3 := of_eq (a := i) (b := n) (c := saltB m00.table_ d n) (d := v) m2 (by omega) (by omega) (by omega) (by omega)
  have T3 : (noteM (ofTx i n (saltB m00.table_ d n) v) (sumB m2.table_ (ofTx i n (saltB m00.table_ d n) v)) m2).table_ = m00.table_ := by rw [noteM_table, t2]
  refine (congrArg (fun o => Option.bind o _) e3).trans ?_
  refine (Option.bind_some _ _).trans ?_
  clear e3
  dsimp only
  rw [t2] at T3 ⊢
  generalize noteM (ofTx i n (saltB m00.table_ d n) v) (sumB m00.table_ (ofTx i n (saltB m00.table_ d n) v)) m2 = m3 at T3
  have e5 := shut_eq (key := tagB m00.table_ d wKey) (name := n) (salt := saltB m00.table_ d n) (value := v) m3 (by rw [T3]; exact T32_new) (by omega) (by omega) (by omega) (by omega)
  refine (congrArg (fun o => Option.bind o _) e5).trans ?_
  refine (Option.bind_some _ _).trans ?_
  rw [T3]
  clear e5
  obtain ⟨m4, e4, t4⟩ := kept_eq (key := tagB m00.table_ d wKey) (id := i) (s := ⟨(sl).Name, (sl).Pledge, (sl).Cipher, true⟩) m3 (by rw [T3]; exact T32_new) (by omega) (by omega) hnm hci
  rw [e4, Option.bind_some]
  have ho : openB m00.table_ (tagB m00.table_ d wKey) n (shutB m00.table_ (tagB m00.table_ d wKey) n (saltB m00.table_ d n) v) = (saltB m00.table_ d n, v, true) := open_shut T32_new ss
  have hk : keptB m00.table_ (tagB m00.table_ d wKey) i sl = (saltB m00.table_ d n, v, true) := by
    rw [hs]
    generalize shutB m00.table_ (tagB m00.table_ d wKey) n (saltB m00.table_ d n) v = c at ho
    generalize tagB m00.table_ d wKey = k at ho
    generalize saltB m00.table_ d n = t at ho
    generalize m00.table_ = T at ho
    unfold keptB
    dsimp only
    rw [ho]
    dsimp only
    rw [if_pos ⟨rfl, rfl, rfl⟩]
  have hk2 : ∀ T k (s : api_Slip), s.Erased = true → keptB T k i s = (b0, b0, false) := by
    intro T k s h
    unfold keptB
    rw [if_neg (fun h' => by rw [h] at h'; cases h'.1)]
  rw [hk, hk2 _ _ _ rfl, awake]
  clear hk hk2 ho e1 e2 e4 
  generalize sumB m00.table_ (ofTx i n (saltB m00.table_ d n) v) = c at hs
  generalize shutB m00.table_ (tagB m00.table_ d wKey) n (saltB m00.table_ d n) v = u at hs
  generalize saltB m00.table_ d n = t at hs
  subst hs
  dsimp only
  rw [seqB_refl, seqB_refl, seqB_refl, seqB_refl, seqB_refl]
  rfl
end Go.Proofs.Ytfjnafgigfapbaa
