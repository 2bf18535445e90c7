/- What any bytes are read as may be, and has just these bytes: the plain law. -/
import Derived.Test.YtoamnhmdhficiaaGReads
import Derived.Test.YtoamnhmdhficiaaPBatchRead
import Derived.Test.YtoamnhmdhficiaaPAwake30
namespace Go.Proofs.Ytoamnhmdhficiaa
set_option linter.all false
open Go Go.RowKit Go.Fw
set_option maxRecDepth 100000
attribute [local irreducible] FUEL
theorem catP_take : ∀ (P : List Int) (L : List ByteArray) (i : Nat) {p : Int} {l : ByteArray}, P[i]? = some p → L[i]? = some l → catP (P.take (i + 1)) (L.take (i + 1)) = catP (P.take i) (L.take i) ++ (numL p.toNat ++ l.data.toList)
  | [], _, i, _, _, h, _ => by cases i <;> cases h
  | _ :: _, [], i, _, _, _, h => by cases i <;> cases h
  | q :: P, m :: L, 0, p, l, h, h' => by
    simp at h h'
    subst h; subst h'
    simp [catP]
  | q :: P, m :: L, i + 1, p, l, h, h' => by
    simp at h h'
    have := catP_take P L i h h'
    rw [List.take_succ_cons, List.take_succ_cons, List.take_succ_cons, List.take_succ_cons]
    unfold catP
    rw [this]
    simp only [List.append_assoc]
theorem catN_take : ∀ (L : List ByteArray) (i : Nat) {l : ByteArray}, L[i]? = some l → catN (L.take (i + 1)) = catN (L.take i) ++ l.data.toList
  | [], i, _, h => by cases i <;> cases h
  | m :: L, 0, l, h => by
    simp at h
    subst h
    simp [catN]
  | m :: L, i + 1, l, h => by
    simp at h
    have := catN_take L i h
    rw [List.take_succ_cons, List.take_succ_cons]
    unfold catN
    rw [this, List.append_assoc]
theorem catP_len : ∀ (P : List Int) (L : List ByteArray), (∀ x ∈ P, inP x) → (∀ y ∈ L, y.size = 32) → (catP P L).length ≤ 40 * P.length
  | [], _, _, _ => by unfold catP; simp
  | _ :: _, [], _, _ => by unfold catP; simp
  | p :: P, l :: L, h, h' => by
    have h1 := h p (by simp)
    have h2 := h' l (by simp)
    unfold inP at h1
    have h3 := numL_len (n := p.toNat) (by omega)
    have h4 := catP_len P L (fun x hx => h x (by simp [hx])) (fun x hx => h' x (by simp [hx]))
    unfold catP
    rw [List.length_append, List.length_append, size_ofL', h2, List.length_cons]
    omega
theorem catN_len : ∀ (L : List ByteArray), (∀ y ∈ L, y.size = 32) → (catN L).length = 32 * L.length
  | [], _ => rfl
  | l :: L, h' => by
    have h2 := h' l (by simp)
    have h4 := catN_len L (fun x hx => h' x (by simp [hx]))
    unfold catN
    rw [List.length_append, size_ofL', h2, h4, List.length_cons]
    omega
theorem getq {α : Type} {l : List α} {i : Nat} (h : i < l.length) : ∃ y, l[i]? = some y := ⟨l[i], List.getElem?_eq_getElem h⟩
theorem lbytes_eq {p : batch_Proof} (h : RightP p) : F.law30_bytes p = some (ofL (bytesL p)) := by
  have a1 := h.s1
  have a2 := h.s2
  have a3 := h.k2
  have a4 := h.nodes
  have alf := h.lf
  have n1 := numL_len (n := p.Size.toNat) (by omega)
  have n2 := numL_len (n := p.Picks.length) (by omega)
  have n3 := numL_len (n := p.Nodes.length) (by omega)
  unfold F.law30_bytes
  have e1 : F.octet_Num p.Size = some (numB p.Size.toNat) := by
    have := num_eq (n := p.Size.toNat) (by omega)
    rw [show ((p.Size.toNat : Nat) : Int) = p.Size by omega] at this
    exact this
  rw [e1, Option.bind_some, num_eq (n := p.Picks.length) (by omega), Option.bind_some]
  unfold numB
  rw [chk_pos (by rw [ofL_size, ofL_size]; omega), ofL_append]
  have hlen : ∀ i, (catP (p.Picks.take i) (p.Leaf.take i)).length ≤ 40 * 64 := fun i => by
    have := catP_len (p.Picks.take i) (p.Leaf.take i) (fun x hx => h.inP x (List.mem_of_mem_take hx)) (fun x hx => h.leaf32 x (List.mem_of_mem_take hx))
    have h2 : (p.Picks.take i).length ≤ p.Picks.length := by rw [List.length_take]; omega
    omega
  have e2 := iter_count (f := fun (x : ByteArray × Int) => F.law30_bytes.l2 p x.1 x.2) (fun i => (ofL ((numL p.Size.toNat ++ numL p.Picks.length) ++ catP (p.Picks.take i) (p.Leaf.take i)), (i : Int))) (n := p.Picks.length) (r := ofL ((numL p.Size.toNat ++ numL p.Picks.length) ++ catP p.Picks p.Leaf)) (fun i hi => by
    obtain ⟨x, hx⟩ := getq hi
    obtain ⟨y, hy⟩ := getq (l := p.Leaf) (i := i) (by omega)
    have hb := h.inP x (List.mem_of_getElem? hx)
    have hz := h.leaf32 y (List.mem_of_getElem? hy)
    unfold inP at hb
    have n4 := numL_len (n := x.toNat) (by omega)
    have := hlen i
    dsimp only
    unfold F.law30_bytes.l2 F.law30_bytes.r1
    have e3 : F.octet_Num x = some (numB x.toNat) := by
      have := num_eq (n := x.toNat) (by omega)
      rw [show ((x.toNat : Nat) : Int) = x by omega] at this
      exact this
    rw [if_pos (by simp; omega), if_pos (by simp; omega), thru_inl, at_nat hx, Option.bind_some, at_nat hy, Option.bind_some, e3, Option.bind_some]
    unfold numB
    rw [chk_pos (by rw [ofL_size, ofL_size, List.length_append, List.length_append]; omega), ofL_append, chk_pos (by rw [ofL_size, hz, List.length_append, List.length_append, List.length_append]; omega), app_eq, ofL_toList, wadd (by omega), catP_take _ _ _ hx hy]
    simp only [List.append_assoc])
    (by
      dsimp only
      unfold F.law30_bytes.l2
      rw [if_neg (by simp), thru_inr, List.take_length, List.take_of_length_le (l := p.Leaf) (by omega)]) (k := FUEL) (by rw [FUEL_eq]; omega)
  have e2' : iter (fun x => F.law30_bytes.l2 p x.1 x.2) FUEL (ofL (numL p.Size.toNat ++ numL p.Picks.length), 0) = some (ofL ((numL p.Size.toNat ++ numL p.Picks.length) ++ catP p.Picks p.Leaf)) := by
    rw [← e2, List.take_zero, List.take_zero]
    unfold catP
    rw [List.append_nil]
    rfl
  refine (congrArg (fun o => Option.bind o _) e2').trans ?_
  rw [Option.bind_some]
  unfold F.law30_bytes.r3
  have hl := hlen p.Picks.length
  rw [List.take_length, List.take_of_length_le (l := p.Leaf) (by omega)] at hl
  rw [num_eq (n := p.Nodes.length) (by omega), Option.bind_some]
  unfold numB
  rw [chk_pos (by rw [ofL_size, ofL_size, List.length_append, List.length_append]; omega), ofL_append]
  generalize hA : numL p.Size.toNat ++ numL p.Picks.length ++ catP p.Picks p.Leaf ++ numL p.Nodes.length = A
  have hAl : A.length ≤ 10000 := by rw [← hA, List.length_append, List.length_append, List.length_append]; omega
  have e5 := iter_count (f := fun (x : ByteArray × Int) => F.law30_bytes.l4 p x.1 x.2) (fun i => (ofL (A ++ catN (p.Nodes.take i)), (i : Int))) (n := p.Nodes.length) (r := ofL (A ++ catN p.Nodes)) (fun i hi => by
    obtain ⟨y, hy⟩ := getq hi
    have hz := h.nodes32 y (List.mem_of_getElem? hy)
    have hk := catN_len (p.Nodes.take i) (fun x hx => h.nodes32 x (List.mem_of_mem_take hx))
    have hk2 : (p.Nodes.take i).length ≤ p.Nodes.length := by rw [List.length_take]; omega
    dsimp only
    unfold F.law30_bytes.l4
    rw [if_pos (by simp; omega), at_nat hy, Option.bind_some, chk_pos (by rw [ofL_size, hz, List.length_append]; omega), app_eq, ofL_toList, wadd (by omega), catN_take _ _ hy]
    simp only [List.append_assoc])
    (by
      dsimp only
      unfold F.law30_bytes.l4
      rw [if_neg (by simp), List.take_length]) (k := FUEL) (by rw [FUEL_eq]; omega)
  have e5' : iter (fun x => F.law30_bytes.l4 p x.1 x.2) FUEL (ofL A, 0) = some (ofL (A ++ catN p.Nodes)) := by
    rw [← e5, List.take_zero]
    unfold catN
    rw [List.append_nil]
    rfl
  refine (congrArg (fun o => Option.bind o _) e5').trans ?_
  rw [Option.bind_some]
  unfold F.law30_bytes.r5 bytesL
  rw [← hA]
  simp only [List.append_assoc]
theorem pure_BatchReads (b : ByteArray) {w z : Prop} (_ : w) (_ : z) : F.law30_BatchReads b = some true := by
  unfold F.law30_BatchReads
  have hcut : ∃ s : List UInt8, s.length ≤ 4000 ∧ (if decide ((b.size : Int) > 4000) then (chk (0 ≤ (0 : Int) ∧ (0 : Int) ≤ (4000 : Int) ∧ (4000 : Int) ≤ (b.size : Int)) (some (b.extract (0 : Int).toNat (4000 : Int).toNat))) else some b) = some (ofL s) := by
    by_cases h : b.size > 4000
    · refine ⟨(b.data.toList.take 4000).drop 0, by rw [List.length_drop, List.length_take]; omega, ?_⟩
      rw [if_pos (by simp; omega), chk_pos (by omega)]
      rw [ofL_surj b, ofL_extract, ofL_toList]
      rfl
    · refine ⟨b.data.toList, by rw [size_ofL']; omega, ?_⟩
      rw [if_neg (by simp; omega), ← ofL_surj]
  obtain ⟨s, hs, e⟩ := hcut
  refine (congrArg (fun o => Option.bind o _) e).trans ?_
  rw [Option.bind_some]
  unfold F.law30_BatchReads.r1
  rcases read_eq (s := s) (by omega) with ⟨p, e1, hr, hp⟩ | ⟨er, her, e1, _⟩
  · have h := right_spec hr
    rw [e1, Option.bind_some]
    dsimp only
    rw [if_neg (by decide), thru_inl]
    unfold F.law30_BatchReads.r2
    dsimp only
    have a3 := h.k2
    have a4 := h.nodes
    have a5 := h.lf
    rw [lright_eq ⟨by omega, by omega, by omega⟩, Option.bind_some, hr, if_pos rfl, lbytes_eq h, Option.bind_some, ← hp, seqB_refl, if_pos rfl, awake]
    rfl
  · rw [e1, Option.bind_some]
    unfold p00
    dsimp only
    rw [if_pos (by simpa using her), if_pos (by decide), if_pos (by decide), awake]
    rfl
end Go.Proofs.Ytoamnhmdhficiaa
