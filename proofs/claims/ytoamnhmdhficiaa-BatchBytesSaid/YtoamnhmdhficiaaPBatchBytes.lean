/- Any proof's bytes, and that it is read again: the plain law. -/
import Derived.Test.YtoamnhmdhficiaaGBytes
import Derived.Test.YtoamnhmdhficiaaPBatchReads
namespace Go.Proofs.Ytoamnhmdhficiaa
set_option linter.all false
open Go Go.RowKit Go.Fw
set_option maxRecDepth 100000
attribute [local irreducible] FUEL
theorem same_refl {l : List ByteArray} (h : l.length < 1000000000000000000) : F.law30_same l l = some true := by
  unfold F.law30_same
  rw [if_neg (by simp)]
  have e := iter_count (f := fun (x : Int) => F.law30_same.l1 l l x) (fun i => (i : Int)) (n := l.length) (r := .inl ()) (fun i hi => by
    obtain ⟨y, hy⟩ := getq hi
    unfold F.law30_same.l1
    rw [if_pos (by simp; omega), at_nat hy, Option.bind_some, Option.bind_some, seqB_refl, if_neg (by decide), wadd (by omega)])
    (by
      unfold F.law30_same.l1
      rw [if_neg (by simp)]) (k := FUEL) (by rw [FUEL_eq]; omega)
  refine (congrArg (fun o => thru o _) e).trans ?_
  rfl
theorem wnum_eq {n : Nat} (h : n < 72057594037927936) {s : List UInt8} (hs : s.length ≤ 1000000000) : F.octet_Writer_Num (n : Int) ⟨ofL s, false⟩ = some ⟨ofL (s ++ numL n), false⟩ := by
  have n1 := numL_len h
  unfold F.octet_Writer_Num F.octet_Writer_Num.r1
  rw [num_eq h, Option.bind_some]
  dsimp only
  have hq : seqB (numB n) (ByteArray.mk #[]) = false := by
    cases hc : seqB (numB n) (ByteArray.mk #[]) with
    | false => rfl
    | true =>
      have := congrArg ByteArray.size (seqB_iff.1 hc)
      unfold numB at this
      rw [ofL_size] at this
      have h0 : (ByteArray.mk #[]).size = 0 := rfl
      omega
  rw [if_neg (by decide), hq, Option.bind_some]
  unfold numB
  rw [chk_pos (by rw [ofL_size, ofL_size]; omega), ofL_append]
theorem wraw_eq {y : ByteArray} (hy : y.size ≤ 1000) {s : List UInt8} (hs : s.length ≤ 1000000000) : F.octet_Writer_Raw y ⟨ofL s, false⟩ = some ⟨ofL (s ++ y.data.toList), false⟩ := by
  unfold F.octet_Writer_Raw
  dsimp only
  rw [chk_pos (by rw [ofL_size]; omega), app_eq, ofL_toList]
theorem bbytes_eq {p : batch_Proof} (hp : Fine p) (h : RightP p) : F.batch_Bytes p = some (ofL (bytesL p)) := by
  have a1 := h.s1
  have a2 := h.s2
  have a3 := h.k2
  have a4 := h.nodes
  have alf := h.lf
  have n1 := numL_len (n := p.Size.toNat) (by omega)
  have n2 := numL_len (n := p.Picks.length) (by omega)
  have n3 := numL_len (n := p.Nodes.length) (by omega)
  unfold F.batch_Bytes
  rw [right_eq hp, Option.bind_some, right_of h, if_neg (by decide)]
  have e1 := wnum_eq (n := p.Size.toNat) (by omega) (s := []) (by simp)
  rw [show ((p.Size.toNat : Nat) : Int) = p.Size by omega] at e1
  have e1' : F.octet_Writer_Num p.Size ⟨ByteArray.mk #[], false⟩ = some ⟨ofL (numL p.Size.toNat), false⟩ := e1
  rw [e1', Option.bind_some, wnum_eq (n := p.Picks.length) (by omega) (by omega), Option.bind_some]
  dsimp only
  have hlen : ∀ i, (catP (p.Picks.take i) (p.Leaf.take i)).length ≤ 40 * 64 := fun i => by
    have := catP_len (p.Picks.take i) (p.Leaf.take i) (fun x hx => h.inP x (List.mem_of_mem_take hx)) (fun x hx => h.leaf32 x (List.mem_of_mem_take hx))
    have h2 : (p.Picks.take i).length ≤ p.Picks.length := by rw [List.length_take]; omega
    omega
  have e2 := iter_count (f := fun (x : Int × ByteArray × Bool) => F.batch_Bytes.l1 p x.1 x.2.1 x.2.2) (fun i => ((i : Int), ofL ((numL p.Size.toNat ++ numL p.Picks.length) ++ catP (p.Picks.take i) (p.Leaf.take i)), false)) (n := p.Picks.length) (r := (ofL ((numL p.Size.toNat ++ numL p.Picks.length) ++ catP p.Picks p.Leaf), false)) (fun i hi => by
    obtain ⟨x, hx⟩ := getq hi
    obtain ⟨y, hy⟩ := getq (l := p.Leaf) (i := i) (by omega)
    have hb := h.inP x (List.mem_of_getElem? hx)
    have hz := h.leaf32 y (List.mem_of_getElem? hy)
    unfold inP at hb
    have n4 := numL_len (n := x.toNat) (by omega)
    have := hlen i
    dsimp only
    unfold F.batch_Bytes.l1
    rw [if_pos (by simp; omega), at_nat hx, Option.bind_some]
    have e3 := wnum_eq (n := x.toNat) (by omega) (s := (numL p.Size.toNat ++ numL p.Picks.length) ++ catP (p.Picks.take i) (p.Leaf.take i)) (by rw [List.length_append, List.length_append]; omega)
    rw [show ((x.toNat : Nat) : Int) = x by omega] at e3
    rw [e3, Option.bind_some, at_nat hy, Option.bind_some, wraw_eq (by omega) (by rw [List.length_append, List.length_append, List.length_append]; omega), Option.bind_some, wadd (by omega), catP_take _ _ _ hx hy]
    simp only [List.append_assoc])
    (by
      dsimp only
      unfold F.batch_Bytes.l1
      rw [if_neg (by simp), List.take_length, List.take_of_length_le (l := p.Leaf) (by omega)]) (k := FUEL) (by rw [FUEL_eq]; omega)
  have e2' : iter (fun x => F.batch_Bytes.l1 p x.1 x.2.1 x.2.2) FUEL (0, ofL (numL p.Size.toNat ++ numL p.Picks.length), false) = some (ofL ((numL p.Size.toNat ++ numL p.Picks.length) ++ catP p.Picks p.Leaf), false) := by
    rw [← e2, List.take_zero, List.take_zero]
    unfold catP
    rw [List.append_nil]
    rfl
  refine (congrArg (fun o => Option.bind o _) e2').trans ?_
  rw [Option.bind_some]
  unfold F.batch_Bytes.r2
  have hl := hlen p.Picks.length
  rw [List.take_length, List.take_of_length_le (l := p.Leaf) (by omega)] at hl
  rw [wnum_eq (n := p.Nodes.length) (by omega) (by rw [List.length_append, List.length_append]; omega), Option.bind_some]
  dsimp only
  generalize hA : numL p.Size.toNat ++ numL p.Picks.length ++ catP p.Picks p.Leaf ++ numL p.Nodes.length = A
  have hAl : A.length ≤ 10000 := by rw [← hA, List.length_append, List.length_append, List.length_append]; omega
  have e5 := iter_count (f := fun (x : Int × ByteArray × Bool) => F.batch_Bytes.l3 p x.1 x.2.1 x.2.2) (fun i => ((i : Int), ofL (A ++ catN (p.Nodes.take i)), false)) (n := p.Nodes.length) (r := (ofL (A ++ catN p.Nodes), false)) (fun i hi => by
    obtain ⟨y, hy⟩ := getq hi
    have hz := h.nodes32 y (List.mem_of_getElem? hy)
    have hk := catN_len (p.Nodes.take i) (fun x hx => h.nodes32 x (List.mem_of_mem_take hx))
    have hk2 : (p.Nodes.take i).length ≤ p.Nodes.length := by rw [List.length_take]; omega
    dsimp only
    unfold F.batch_Bytes.l3
    rw [if_pos (by simp; omega), at_nat hy, Option.bind_some, wraw_eq (by omega) (by rw [List.length_append]; omega), Option.bind_some, wadd (by omega), catN_take _ _ hy]
    simp only [List.append_assoc])
    (by
      dsimp only
      unfold F.batch_Bytes.l3
      rw [if_neg (by simp), List.take_length]) (k := FUEL) (by rw [FUEL_eq]; omega)
  have e5' : iter (fun x => F.batch_Bytes.l3 p x.1 x.2.1 x.2.2) FUEL (0, ofL A, false) = some (ofL (A ++ catN p.Nodes), false) := by
    rw [← e5, List.take_zero]
    unfold catN
    rw [List.append_nil]
    rfl
  refine (congrArg (fun o => Option.bind o _) e5').trans ?_
  rw [Option.bind_some]
  unfold F.batch_Bytes.r4 F.octet_Writer_All bytesL
  dsimp only
  rw [← hA, if_neg (by decide)]
  simp only [List.append_assoc, Option.bind_some]
theorem bbytes_none {p : batch_Proof} (hp : Fine p) (h : rightP p = false) : F.batch_Bytes p = some (ofL []) := by
  unfold F.batch_Bytes
  rw [right_eq hp, Option.bind_some, h]
  rfl
theorem bytesL_len {p : batch_Proof} (h : RightP p) : (bytesL p).length ≤ 1000000 := by
  have a1 := h.s1
  have a2 := h.s2
  have a3 := h.k2
  have a4 := h.nodes
  have n1 := numL_len (n := p.Size.toNat) (by omega)
  have n2 := numL_len (n := p.Picks.length) (by omega)
  have n3 := numL_len (n := p.Nodes.length) (by omega)
  have n4 := catP_len p.Picks p.Leaf h.inP h.leaf32
  have n5 := catN_len p.Nodes h.nodes32
  unfold bytesL
  rw [List.length_append, List.length_append, List.length_append, List.length_append]
  omega
theorem pure_BatchBytes (p : batch_Proof) {w z : Prop} (_ : w) (_ : z) : F.law30_BatchBytes p = some true := by
  unfold F.law30_BatchBytes
  have hp := few_fine p
  generalize hq : fewP p = q at hp
  rw [few_eq, Option.bind_some, hq]
  cases hr : rightP q with
  | false =>
    rw [bbytes_none hp hr, Option.bind_some, lright_eq hp, Option.bind_some, hr, if_pos (by decide), if_pos sq0, awake]
    rfl
  | true =>
    have h := right_spec hr
    rw [bbytes_eq hp h, Option.bind_some, lright_eq hp, Option.bind_some, hr, if_neg (by decide), thru_inl]
    unfold F.law30_BatchBytes.r1
    have hlen := bytesL_len h
    rcases read_eq (s := bytesL q) (by omega) with ⟨p', e1, hr', hp'⟩ | ⟨er, her, e1, hno⟩
    rotate_left
    · exact absurd rfl (hno q h)
    have heq := bytesL_inj h (right_spec hr') hp'
    subst heq
    have a3 := h.k2
    have a4 := h.nodes
    have a5 := h.lf
    rw [e1, Option.bind_some]
    dsimp only
    rw [if_neg (by decide), if_neg (by simp), if_neg (by simp), same_refl (by omega), Option.bind_some, if_neg (by decide), same_refl (by omega), Option.bind_some, if_neg (by decide), thru_inl]
    unfold F.law30_BatchBytes.r2
    have e := iter_count (f := fun (x : Int) => F.law30_BatchBytes.l3 q (q, 0) x) (fun i => (i : Int)) (n := q.Picks.length) (r := .inl ()) (fun i hi => by
      obtain ⟨y, hy⟩ := getq hi
      unfold F.law30_BatchBytes.l3
      rw [if_pos (by simp; omega), at_nat hy, Option.bind_some, Option.bind_some, if_neg (by simp), wadd (by omega)])
      (by
        unfold F.law30_BatchBytes.l3
        rw [if_neg (by simp)]) (k := FUEL) (by rw [FUEL_eq]; omega)
    refine (congrArg (fun o => thru o _) e).trans ?_
    rw [thru_inl]
    unfold F.law30_BatchBytes.r4
    rw [lbytes_eq h, Option.bind_some, seqB_refl, if_pos rfl, awake]
    rfl
end Go.Proofs.Ytoamnhmdhficiaa
