/- Whatever a slip keeps is told just where it is what the slip pledges: the plain law. -/
import Derived.Test.YtfjnafgigfapbaaGKepts
import Derived.Test.YtfjnafgigfapbaaPPledge
import Derived.Test.YtfjnafgigfapbaaPAwake06
namespace Go.Proofs.Ytfjnafgigfapbaa
set_option linter.all false
open Go Go.RowKit Go.Fw
set_option maxRecDepth 100000
attribute [local irreducible] FUEL
theorem pure_PledgeKepts (x0 x1 : ByteArray) (x2 : api_Slip) {w0 z0 w1 z1 w2 z2 : Prop} (_ : w0) (_ : z0) (_ : w1) (_ : z1) (_ : w2) (_ : z2) : F.law06_PledgeKepts x0 x1 x2 = some true := by
  have h0 := cutB_size x0
  have h1 := cutB_size x1
  have h2 := cutB_size x2.Name
  have h3 := cutB_size x2.Cipher
  unfold F.law06_PledgeKepts
  rw [mnew_eq, Option.bind_some, cut_eq, Option.bind_some, cut_eq, Option.bind_some, cut_eq, Option.bind_some, cut_eq, Option.bind_some, cut_eq, Option.bind_some]
  generalize cutB x0 = k at h0
  generalize cutB x1 = i at h1
  generalize cutB x2.Name = n at h2
  generalize cutB x2.Cipher = c at h3
  generalize cutB x2.Pledge = p
  generalize x2.Erased = er
  obtain ⟨m1, e1, t1⟩ := kept_eq (key := k) (id := i) (s := ⟨n, p, c, er⟩) m00 T32_new (by omega) (by omega) (by show n.size ≤ _; omega) (by show c.size ≤ _; omega)
  have T1 : T32 m1.table_ := by rw [t1]; exact T32_new
  obtain ⟨o1, o2⟩ := openB_small T32_new (key := k) (name := n) (c := c) (by omega)
  rw [e1, Option.bind_some]
  dsimp only
  rw [open_eq m1 T1 (by omega) (by omega) (by omega), Option.bind_some, t1]
  have e0 : seqB b0 (ByteArray.mk #[]) = true := seqB_iff.2 rfl
  unfold keptB
  dsimp only
  generalize openB m00.table_ k n c = o at o1 o2
  obtain ⟨a, b, ok⟩ := o
  dsimp only at o1 o2 ⊢
  cases er with
  | true =>
    have hk : (if true = false ∧ ok = true ∧ sumB m00.table_ (ofTx i n a b) = p then (a, b, true) else (b0, b0, false)) = (b0, b0, false) := if_neg (fun h => by cases h.1)
    rw [hk, if_neg (by decide), Option.bind_some]
    unfold F.law06_PledgeKepts.r1
    dsimp only
    rw [e0, awake]
    rfl
  | false =>
    rw [if_pos (by decide)]
    cases ok with
    | false =>
      have hk : (if false = false ∧ false = true ∧ sumB m00.table_ (ofTx i n a b) = p then (a, b, true) else (b0, b0, false)) = (b0, b0, false) := if_neg (fun h => by cases h.2.1)
      rw [hk, if_neg (by decide), Option.bind_some]
      unfold F.law06_PledgeKepts.r1
      dsimp only
      rw [e0, awake]
      rfl
    | true =>
      rw [if_pos rfl, of_eq m1 (by omega) (by omega) (by omega) (by omega), Option.bind_some, Option.bind_some, t1]
      dsimp only
      unfold F.law06_PledgeKepts.r1
      by_cases h : sumB m00.table_ (ofTx i n a b) = p
      · have hk : (if false = false ∧ true = true ∧ sumB m00.table_ (ofTx i n a b) = p then (a, b, true) else (b0, b0, false)) = (a, b, true) := if_pos ⟨rfl, rfl, h⟩
        rw [hk, h, seqB_refl, if_neg (by decide), thru_inl]
        unfold F.law06_PledgeKepts.r2
        dsimp only
        rw [seqB_refl, seqB_refl, awake]
        rfl
      · have hk : (if false = false ∧ true = true ∧ sumB m00.table_ (ofTx i n a b) = p then (a, b, true) else (b0, b0, false)) = (b0, b0, false) := if_neg (fun h' => h h'.2.2)
        have : seqB (sumB m00.table_ (ofTx i n a b)) p = false := by
          cases hc : seqB (sumB m00.table_ (ofTx i n a b)) p with
          | false => rfl
          | true => exact absurd (seqB_iff.1 hc) h
        rw [hk, this]
        dsimp only
        rw [e0, awake]
        rfl
end Go.Proofs.Ytfjnafgigfapbaa
