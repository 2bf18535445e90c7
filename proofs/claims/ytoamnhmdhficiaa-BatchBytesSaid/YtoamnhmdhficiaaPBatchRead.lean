/- A proof's bytes, and what bytes are read as, in plain words. -/
import Derived.Test.YtoamnhmdhficiaaPRead
import Derived.Test.YtoamnhmdhficiaaPBatch
namespace Go.Proofs.Ytoamnhmdhficiaa
set_option linter.all false
open Go Go.RowKit Go.Fw
set_option maxRecDepth 100000
attribute [local irreducible] FUEL

def catP : List Int → List ByteArray → List UInt8
  | p :: P, l :: L => numL p.toNat ++ (l.data.toList ++ catP P L)
  | _, _ => []
def catN : List ByteArray → List UInt8
  | [] => []
  | l :: L => l.data.toList ++ catN L
def inP (x : Int) : Prop := 0 ≤ x ∧ x ≤ 65536
theorem catP_cut : ∀ (P : List Int) (L : List ByteArray) (P' : List Int) (L' : List ByteArray) {r r' : List UInt8}, L.length = P.length → P'.length = P.length → L'.length = P.length → (∀ x ∈ P, inP x) → (∀ x ∈ P', inP x) → (∀ y ∈ L, y.size = 32) → (∀ y ∈ L', y.size = 32) →
    catP P L ++ r = catP P' L' ++ r' → P = P' ∧ L = L' ∧ r = r'
  | [], L, P', L', r, r', h1, h2, h3, _, _, _, _, h => by
    have e1 := List.length_eq_zero_iff.1 h1
    have e2 := List.length_eq_zero_iff.1 h2
    have e3 := List.length_eq_zero_iff.1 h3
    subst e1; subst e2; subst e3
    exact ⟨rfl, rfl, h⟩
  | p :: P, L, P', L', r, r', h1, h2, h3, hp, hp', hl, hl', h => by
    obtain ⟨l, L, rfl⟩ : ∃ a b, L = a :: b := by cases L with | nil => simp at h1 | cons a b => exact ⟨a, b, rfl⟩
    obtain ⟨p', P', rfl⟩ : ∃ a b, P' = a :: b := by cases P' with | nil => simp at h2 | cons a b => exact ⟨a, b, rfl⟩
    obtain ⟨l', L', rfl⟩ : ∃ a b, L' = a :: b := by cases L' with | nil => simp at h3 | cons a b => exact ⟨a, b, rfl⟩
    have b1 := hp p (by simp)
    have b2 := hp' p' (by simp)
    have s1 := hl l (by simp)
    have s2 := hl' l' (by simp)
    unfold inP at b1 b2
    unfold catP at h
    rw [List.append_assoc, List.append_assoc, List.append_assoc, List.append_assoc] at h
    obtain ⟨e1, h⟩ := numL_cut (by omega) (by omega) h
    obtain ⟨e2, h⟩ := List.append_inj h (by rw [size_ofL', size_ofL', s1, s2])
    obtain ⟨e3, e4, e5⟩ := catP_cut P L P' L' (by simpa using h1) (by simpa using h2) (by simpa using h3) (fun x hx => hp x (by simp [hx])) (fun x hx => hp' x (by simp [hx])) (fun x hx => hl x (by simp [hx])) (fun x hx => hl' x (by simp [hx])) h
    have : p = p' := by omega
    have : l = l' := by rw [ofL_surj l, ofL_surj l', e2]
    subst e3; subst e4; subst e5
    exact ⟨by congr, by congr, rfl⟩
theorem catN_cut : ∀ (L L' : List ByteArray) {r r' : List UInt8}, L'.length = L.length → (∀ y ∈ L, y.size = 32) → (∀ y ∈ L', y.size = 32) → catN L ++ r = catN L' ++ r' → L = L' ∧ r = r'
  | [], L', r, r', h1, _, _, h => by
    have e1 := List.length_eq_zero_iff.1 h1
    subst e1
    exact ⟨rfl, h⟩
  | l :: L, L', r, r', h1, hl, hl', h => by
    obtain ⟨l', L', rfl⟩ : ∃ a b, L' = a :: b := by cases L' with | nil => simp at h1 | cons a b => exact ⟨a, b, rfl⟩
    have s1 := hl l (by simp)
    have s2 := hl' l' (by simp)
    unfold catN at h
    rw [List.append_assoc, List.append_assoc] at h
    obtain ⟨e2, h⟩ := List.append_inj h (by rw [size_ofL', size_ofL', s1, s2])
    obtain ⟨e3, e4⟩ := catN_cut L L' (by simpa using h1) (fun x hx => hl x (by simp [hx])) (fun x hx => hl' x (by simp [hx])) h
    have : l = l' := by rw [ofL_surj l, ofL_surj l', e2]
    subst e3; subst e4
    exact ⟨by congr, rfl⟩

/-! ### the rounds of reading -/
theorem loop1_bad (r31 : Int × octet_Reader) {c : Nat} (hr : r31.1 = (c : Int)) (hc : c ≤ 64) {s : ByteArray} {j e : Int} (he : e ≠ 0) : ∀ (rem : Nat) (P : List Int) (L : List ByteArray) (G : Nat), rem + P.length = c → L.length = P.length → rem < G →
    ∃ P' L', iter (fun x => F.batch_Read.l1 r31 x.1 x.2.1 x.2.2.1 x.2.2.2.1 x.2.2.2.2.1 x.2.2.2.2.2) G ((P.length : Int), s, j, e, P, L) = some (s, j, e, P', L')
  | 0, P, L, G, h1, h2, hG => by
    obtain ⟨G, rfl⟩ : ∃ k, G = k + 1 := ⟨G - 1, by omega⟩
    refine ⟨P, L, iter_stop ?_⟩
    dsimp only
    unfold F.batch_Read.l1
    rw [hr, if_neg (by simp; omega)]
  | rem + 1, P, L, G, h1, h2, hG => by
    obtain ⟨G, rfl⟩ : ∃ k, G = k + 1 := ⟨G - 1, by omega⟩
    obtain ⟨P', L', h⟩ := loop1_bad r31 hr hc (s := s) (j := j) he rem (P ++ [0]) (L ++ [ofL []]) G (by simp; omega) (by simp [h2]) (by omega)
    refine ⟨P', L', iter_next ?_ h⟩
    dsimp only
    unfold F.batch_Read.l1
    rw [hr, if_pos (by simp; omega), num_bad he, Option.bind_some]
    dsimp only
    rw [raw_bad he, Option.bind_some]
    dsimp only
    rw [chk_pos (by simp [room]; omega), chk_pos (by simp [room]; omega), wadd (by omega)]
    simp
theorem loop1 (s : List UInt8) (hs : s.length ≤ 1000000000000000000) (r31 : Int × octet_Reader) {c : Nat} (hr : r31.1 = (c : Int)) (hc : c ≤ 64) : ∀ (rem i : Nat) (P : List Int) (L : List ByteArray) (G : Nat), rem + P.length = c → L.length = P.length → i ≤ s.length → rem < G →
    (∃ Q M k, Q.length = rem ∧ M.length = rem ∧ (∀ x ∈ Q, inP x) ∧ (∀ y ∈ M, y.size = 32) ∧ s.drop i = catP Q M ++ s.drop k ∧ k ≤ s.length ∧
      iter (fun x => F.batch_Read.l1 r31 x.1 x.2.1 x.2.2.1 x.2.2.2.1 x.2.2.2.2.1 x.2.2.2.2.2) G ((P.length : Int), ofL s, (i : Int), 0, P, L) = some (ofL s, (k : Int), 0, P ++ Q, L ++ M)) ∨
    (∃ j e P' L', e ≠ 0 ∧ iter (fun x => F.batch_Read.l1 r31 x.1 x.2.1 x.2.2.1 x.2.2.2.1 x.2.2.2.2.1 x.2.2.2.2.2) G ((P.length : Int), ofL s, (i : Int), 0, P, L) = some (ofL s, j, e, P', L') ∧
      ∀ Q M r, Q.length = rem → M.length = rem → (∀ x ∈ Q, inP x) → (∀ y ∈ M, y.size = 32) → s.drop i ≠ catP Q M ++ r)
  | 0, i, P, L, G, h1, h2, hi, hG => by
    obtain ⟨G, rfl⟩ : ∃ k, G = k + 1 := ⟨G - 1, by omega⟩
    refine .inl ⟨[], [], i, rfl, rfl, (fun _ h => by cases h), (fun _ h => by cases h), rfl, hi, iter_stop ?_⟩
    dsimp only
    unfold F.batch_Read.l1
    rw [hr, if_neg (by simp; omega), List.append_nil, List.append_nil]
  | rem + 1, i, P, L, G, h1, h2, hi, hG => by
    obtain ⟨G, rfl⟩ : ∃ k, G = k + 1 := ⟨G - 1, by omega⟩
    have hstep : ∀ {n : Int} {R1 R2 : octet_Reader} {b : ByteArray}, F.octet_Reader_Num 65536 ⟨ofL s, (i : Int), 0⟩ = some (n, R1) → F.octet_Reader_Raw 32 R1 = some (b, R2) →
        F.batch_Read.l1 r31 (P.length : Int) (ofL s) (i : Int) 0 P L = some (.inl (((P ++ [n]).length : Int), R2.s_, R2.at_, R2.e_, P ++ [n], L ++ [b])) := by
      intro n R1 R2 b e1 e2
      unfold F.batch_Read.l1
      rw [hr, if_pos (by simp; omega), e1, Option.bind_some]
      dsimp only
      rw [e2, Option.bind_some]
      dsimp only
      rw [chk_pos (by simp [room]; omega), chk_pos (by simp [room]; omega), wadd (by omega)]
      simp
    rcases num_rd hs hi 65536 with ⟨n, k, hn, hn56, hd, hik, hk, e1⟩ | ⟨j, e, he, e1, hno⟩
    rotate_left
    · obtain ⟨P', L', h⟩ := loop1_bad r31 hr hc (s := ofL s) (j := j) he rem (P ++ [0]) (L ++ [ofL []]) G (by simp; omega) (by simp [h2]) (by omega)
      refine .inr ⟨j, e, P', L', he, iter_next (hstep e1 (raw_bad he)) h, ?_⟩
      intro Q M r hQ hM hq hm hc
      obtain ⟨q, Q, rfl⟩ : ∃ a b, Q = a :: b := by cases Q with | nil => simp at hQ | cons a b => exact ⟨a, b, rfl⟩
      obtain ⟨m, M, rfl⟩ : ∃ a b, M = a :: b := by cases M with | nil => simp at hM | cons a b => exact ⟨a, b, rfl⟩
      have hb := hq q (by simp)
      unfold inP at hb
      unfold catP at hc
      rw [List.append_assoc] at hc
      exact hno _ _ (by omega) (by omega) hc
    rcases raw_rd hs hk 32 with ⟨l, hl, hd2, hk2, e2⟩ | ⟨e2, hno⟩
    rotate_left
    · obtain ⟨P', L', h⟩ := loop1_bad r31 hr hc (s := ofL s) (j := (k : Int)) (e := 2) (by decide) rem (P ++ [(n : Int)]) (L ++ [ofL []]) G (by simp; omega) (by simp [h2]) (by omega)
      refine .inr ⟨(k : Int), 2, P', L', by decide, iter_next (hstep e1 e2) h, ?_⟩
      intro Q M r hQ hM hq hm hc
      obtain ⟨q, Q, rfl⟩ : ∃ a b, Q = a :: b := by cases Q with | nil => simp at hQ | cons a b => exact ⟨a, b, rfl⟩
      obtain ⟨m, M, rfl⟩ : ∃ a b, M = a :: b := by cases M with | nil => simp at hM | cons a b => exact ⟨a, b, rfl⟩
      have hb := hq q (by simp)
      have hz := hm m (by simp)
      unfold inP at hb
      unfold catP at hc
      rw [List.append_assoc, List.append_assoc, hd] at hc
      obtain ⟨_, hc⟩ := numL_cut hn56 (by omega) hc
      exact hno _ _ (by rw [size_ofL', hz]) hc
    have hnext := hstep e1 e2
    rcases loop1 s hs r31 hr hc rem (k + 32) (P ++ [(n : Int)]) (L ++ [ofL l]) G (by simp; omega) (by simp [h2]) hk2 (by omega) with ⟨Q, M, k', hQ, hM, hq, hm, hd3, hk3, e3⟩ | ⟨j, e, P', L', he, e3, hno⟩
    · refine .inl ⟨(n : Int) :: Q, ofL l :: M, k', by simp [hQ], by simp [hM], ?_, ?_, ?_, hk3, ?_⟩
      · intro x hx
        rcases List.mem_cons.1 hx with rfl | hx
        · unfold inP; omega
        · exact hq x hx
      · intro y hy
        rcases List.mem_cons.1 hy with rfl | hy
        · rw [ofL_size, hl]
        · exact hm y hy
      · unfold catP
        rw [hd, hd2, hd3, ofL_toList, Int.toNat_natCast, List.append_assoc, List.append_assoc]
      · refine iter_next hnext (e3.trans ?_)
        simp
    · refine .inr ⟨j, e, P', L', he, iter_next hnext e3, ?_⟩
      intro Q M r hQ hM hq hm hc
      obtain ⟨q, Q, rfl⟩ : ∃ a b, Q = a :: b := by cases Q with | nil => simp at hQ | cons a b => exact ⟨a, b, rfl⟩
      obtain ⟨m, M, rfl⟩ : ∃ a b, M = a :: b := by cases M with | nil => simp at hM | cons a b => exact ⟨a, b, rfl⟩
      have hb := hq q (by simp)
      have hz := hm m (by simp)
      unfold inP at hb
      unfold catP at hc
      rw [List.append_assoc, List.append_assoc, hd] at hc
      obtain ⟨_, hc⟩ := numL_cut hn56 (by omega) hc
      rw [hd2] at hc
      obtain ⟨_, hc⟩ := List.append_inj hc (by rw [hl, size_ofL', hz])
      exact hno Q M r (by simpa using hQ) (by simpa using hM) (fun x hx => hq x (by simp [hx])) (fun x hx => hm x (by simp [hx])) hc

theorem loop3_bad (r81 : Int × octet_Reader) {c : Nat} (hr : r81.1 = (c : Int)) (hc : c ≤ 1024) {s : ByteArray} {j e : Int} (he : e ≠ 0) : ∀ (rem : Nat) (L : List ByteArray) (G : Nat), rem + L.length = c → rem < G →
    ∃ L', iter (fun x => F.batch_Read.l3 r81 x.1 x.2.1 x.2.2.1 x.2.2.2.1 x.2.2.2.2) G ((L.length : Int), s, j, e, L) = some (s, j, e, L')
  | 0, L, G, h1, hG => by
    obtain ⟨G, rfl⟩ : ∃ k, G = k + 1 := ⟨G - 1, by omega⟩
    refine ⟨L, iter_stop ?_⟩
    dsimp only
    unfold F.batch_Read.l3
    rw [hr, if_neg (by simp; omega)]
  | rem + 1, L, G, h1, hG => by
    obtain ⟨G, rfl⟩ : ∃ k, G = k + 1 := ⟨G - 1, by omega⟩
    obtain ⟨L', h⟩ := loop3_bad r81 hr hc (s := s) (j := j) he rem (L ++ [ofL []]) G (by simp; omega) (by omega)
    refine ⟨L', iter_next ?_ h⟩
    dsimp only
    unfold F.batch_Read.l3
    rw [hr, if_pos (by simp; omega), raw_bad he, Option.bind_some]
    dsimp only
    rw [chk_pos (by simp [room]; omega), wadd (by omega)]
    simp
theorem loop3 (s : List UInt8) (hs : s.length ≤ 1000000000000000000) (r81 : Int × octet_Reader) {c : Nat} (hr : r81.1 = (c : Int)) (hc : c ≤ 1024) : ∀ (rem i : Nat) (L : List ByteArray) (G : Nat), rem + L.length = c → i ≤ s.length → rem < G →
    (∃ M k, M.length = rem ∧ (∀ y ∈ M, y.size = 32) ∧ s.drop i = catN M ++ s.drop k ∧ k ≤ s.length ∧
      iter (fun x => F.batch_Read.l3 r81 x.1 x.2.1 x.2.2.1 x.2.2.2.1 x.2.2.2.2) G ((L.length : Int), ofL s, (i : Int), 0, L) = some (ofL s, (k : Int), 0, L ++ M)) ∨
    (∃ j e L', e ≠ 0 ∧ iter (fun x => F.batch_Read.l3 r81 x.1 x.2.1 x.2.2.1 x.2.2.2.1 x.2.2.2.2) G ((L.length : Int), ofL s, (i : Int), 0, L) = some (ofL s, j, e, L') ∧
      ∀ M r, M.length = rem → (∀ y ∈ M, y.size = 32) → s.drop i ≠ catN M ++ r)
  | 0, i, L, G, h1, hi, hG => by
    obtain ⟨G, rfl⟩ : ∃ k, G = k + 1 := ⟨G - 1, by omega⟩
    refine .inl ⟨[], i, rfl, (fun _ h => by cases h), rfl, hi, iter_stop ?_⟩
    dsimp only
    unfold F.batch_Read.l3
    rw [hr, if_neg (by simp; omega), List.append_nil]
  | rem + 1, i, L, G, h1, hi, hG => by
    obtain ⟨G, rfl⟩ : ∃ k, G = k + 1 := ⟨G - 1, by omega⟩
    have hstep : ∀ {R2 : octet_Reader} {b : ByteArray}, F.octet_Reader_Raw 32 ⟨ofL s, (i : Int), 0⟩ = some (b, R2) →
        F.batch_Read.l3 r81 (L.length : Int) (ofL s) (i : Int) 0 L = some (.inl (((L ++ [b]).length : Int), R2.s_, R2.at_, R2.e_, L ++ [b])) := by
      intro R2 b e2
      unfold F.batch_Read.l3
      rw [hr, if_pos (by simp; omega), e2, Option.bind_some]
      dsimp only
      rw [chk_pos (by simp [room]; omega), wadd (by omega)]
      simp
    rcases raw_rd hs hi 32 with ⟨l, hl, hd2, hk2, e2⟩ | ⟨e2, hno⟩
    rotate_left
    · obtain ⟨L', h⟩ := loop3_bad r81 hr hc (s := ofL s) (j := (i : Int)) (e := 2) (by decide) rem (L ++ [ofL []]) G (by simp; omega) (by omega)
      refine .inr ⟨(i : Int), 2, L', by decide, iter_next (hstep e2) h, ?_⟩
      intro M r hM hm hc
      obtain ⟨m, M, rfl⟩ : ∃ a b, M = a :: b := by cases M with | nil => simp at hM | cons a b => exact ⟨a, b, rfl⟩
      have hz := hm m (by simp)
      unfold catN at hc
      rw [List.append_assoc] at hc
      exact hno _ _ (by rw [size_ofL', hz]) hc
    have hnext := hstep e2
    rcases loop3 s hs r81 hr hc rem (i + 32) (L ++ [ofL l]) G (by simp; omega) hk2 (by omega) with ⟨M, k', hM, hm, hd3, hk3, e3⟩ | ⟨j, e, L', he, e3, hno⟩
    · refine .inl ⟨ofL l :: M, k', by simp [hM], ?_, ?_, hk3, ?_⟩
      · intro y hy
        rcases List.mem_cons.1 hy with rfl | hy
        · rw [ofL_size, hl]
        · exact hm y hy
      · unfold catN
        rw [hd2, hd3, ofL_toList, List.append_assoc]
      · refine iter_next hnext (e3.trans ?_)
        simp
    · refine .inr ⟨j, e, L', he, iter_next hnext e3, ?_⟩
      intro M r hM hm hc
      obtain ⟨m, M, rfl⟩ : ∃ a b, M = a :: b := by cases M with | nil => simp at hM | cons a b => exact ⟨a, b, rfl⟩
      have hz := hm m (by simp)
      unfold catN at hc
      rw [List.append_assoc, hd2] at hc
      obtain ⟨_, hc⟩ := List.append_inj hc (by rw [hl, size_ofL', hz])
      exact hno M r (by simpa using hM) (fun x hx => hm x (by simp [hx])) hc

theorem riseG_of {n : Int} : ∀ (l : List Int) {last : Int}, Rise l → (∀ x ∈ l, last < x ∧ x < n) → riseG n last l = true
  | [], _, _, _ => rfl
  | x :: l, last, h, hb => by
    have h1 := hb x (by simp)
    unfold riseG
    have := riseG_of l (last := x) (List.pairwise_cons.1 h).2 (fun y hy => ⟨(List.pairwise_cons.1 h).1 y hy, (hb y (by simp [hy])).2⟩)
    simp [h1.1, h1.2, this]
theorem right_of {p : batch_Proof} (h : RightP p) : rightP p = true := by
  unfold rightP
  have e1 := riseG_of p.Picks (n := p.Size) (last := -1) h.rise (fun x hx => by have := h.within x hx; omega)
  have e2 : all32B p.Leaf = true := List.all_eq_true.2 fun s hs => by simpa using h.leaf32 s hs
  have e3 : all32B p.Nodes = true := List.all_eq_true.2 fun s hs => by simpa using h.nodes32 s hs
  simp only [Bool.and_eq_true, decide_eq_true_eq]
  exact ⟨h.s1, h.s2, h.k1, h.k2, h.lf, e1, h.nodes, e2, e3⟩
/-- a proof as bytes -/
def bytesL (p : batch_Proof) : List UInt8 := numL p.Size.toNat ++ (numL p.Picks.length ++ (catP p.Picks p.Leaf ++ (numL p.Nodes.length ++ catN p.Nodes)))
theorem RightP.inP {p : batch_Proof} (h : RightP p) : ∀ x ∈ p.Picks, inP x := fun x hx => by
  have := h.within x hx
  have := h.s2
  unfold Go.Proofs.Ytoamnhmdhficiaa.inP
  omega
theorem bytesL_inj {p q : batch_Proof} (hp : RightP p) (hq : RightP q) (h : bytesL p = bytesL q) : p = q := by
  have a1 := hp.s1
  have a2 := hp.s2
  have a3 := hp.k2
  have a4 := hp.nodes
  have b1 := hq.s1
  have b2 := hq.s2
  have b3 := hq.k2
  have b4 := hq.nodes
  unfold bytesL at h
  obtain ⟨e1, h⟩ := numL_cut (by omega) (by omega) h
  obtain ⟨e2, h⟩ := numL_cut (by omega) (by omega) h
  obtain ⟨e3, e4, h⟩ := catP_cut _ _ _ _ hp.lf e2.symm (by rw [hq.lf, e2]) hp.inP hq.inP hp.leaf32 hq.leaf32 h
  obtain ⟨e5, h⟩ := numL_cut (by omega) (by omega) h
  have h : catN p.Nodes ++ [] = catN q.Nodes ++ [] := by rw [List.append_nil, List.append_nil, h]
  obtain ⟨e6, _⟩ := catN_cut _ _ e5.symm hp.nodes32 hq.nodes32 h
  have e7 : p.Size = q.Size := by omega
  cases p; cases q
  dsimp only at e3 e4 e6 e7
  rw [e3, e4, e6, e7]

def p00 : batch_Proof := ⟨0, [], [], []⟩
theorem r4_bad {r26 : Int × octet_Reader} {P : List Int} {L M : List ByteArray} {s : ByteArray} {j e : Int} (he : e ≠ 0) : F.batch_Read.r4 r26 P L s j e M = some (p00, e) := by
  unfold F.batch_Read.r4 F.octet_Reader_End F.octet_Reader_Left F.octet_Reader_Err
  dsimp only
  rw [Option.bind_some, if_pos (by simpa using he), Option.bind_some, if_neg (by decide), Option.bind_some, Option.bind_some]
  dsimp only
  rw [if_pos (by simpa using he)]
  rfl
theorem r2_bad {r26 : Int × octet_Reader} {P : List Int} {L : List ByteArray} {s : ByteArray} {j e : Int} (he : e ≠ 0) : F.batch_Read.r2 r26 s j e P L = some (p00, e) := by
  unfold F.batch_Read.r2
  rw [num_bad he, Option.bind_some]
  obtain ⟨L', h⟩ := loop3_bad (0, ⟨s, j, e⟩) (c := 0) rfl (by decide) (s := s) (j := j) he 0 [] FUEL rfl (by rw [FUEL_eq]; omega)
  refine (congrArg (fun o => Option.bind o _) h).trans ?_
  rw [Option.bind_some]
  exact r4_bad he
/-- what any bytes are read as -/
theorem read_eq {s : List UInt8} (hs : s.length ≤ 1000000000000000000) :
    (∃ p, F.batch_Read (ofL s) = some (p, 0) ∧ rightP p = true ∧ s = bytesL p) ∨
    (∃ e, e ≠ 0 ∧ F.batch_Read (ofL s) = some (p00, e) ∧ ∀ p, RightP p → s ≠ bytesL p) := by
  have e0 : F.octet_Read (ofL s) = some ⟨ofL s, ((0 : Nat) : Int), 0⟩ := rfl
  unfold F.batch_Read
  rw [e0, Option.bind_some]
  have hfuel : ∀ n, n ≤ 2000 → n < FUEL := fun n h => by rw [FUEL_eq]; omega
  have small : ∀ {p : batch_Proof}, RightP p → p.Size.toNat ≤ 65536 ∧ p.Picks.length ≤ 64 ∧ p.Nodes.length ≤ 1024 := fun h => by
    have a1 := h.s1
    have a2 := h.s2
    exact ⟨by omega, h.k2, h.nodes⟩
  rcases num_rd hs (Nat.zero_le _) 65536 with ⟨n, i1, hn, hn56, d1, _, hi1, e1⟩ | ⟨j, e, he, e1, hno⟩
  rotate_left
  · refine .inr ⟨e, he, ?_, ?_⟩
    · rw [show ((65536 : Nat) : Int) = 65536 from rfl] at e1
      rw [e1, Option.bind_some]
      dsimp only
      rw [num_bad he, Option.bind_some]
      obtain ⟨P', L', h⟩ := loop1_bad (0, ⟨ofL s, j, e⟩) (c := 0) rfl (by decide) (s := ofL s) (j := j) he 0 [] [] FUEL rfl rfl (hfuel 0 (by decide))
      refine (congrArg (fun o => Option.bind o _) h).trans ?_
      rw [Option.bind_some]
      exact r2_bad he
    · intro p hp h
      rw [List.drop_zero] at hno
      have := (small hp).1
      exact hno _ _ (by omega) (by omega) h
  rw [show ((65536 : Nat) : Int) = 65536 from rfl] at e1
  rw [e1, Option.bind_some]
  dsimp only
  rw [List.drop_zero] at d1
  rcases num_rd hs hi1 64 with ⟨c, i2, hc, hc56, d2, _, hi2, e2⟩ | ⟨j, e, he, e2, hno⟩
  rotate_left
  · refine .inr ⟨e, he, ?_, ?_⟩
    · rw [show ((64 : Nat) : Int) = 64 from rfl] at e2
      rw [e2, Option.bind_some]
      dsimp only
      obtain ⟨P', L', h⟩ := loop1_bad (0, ⟨ofL s, j, e⟩) (c := 0) rfl (by decide) (s := ofL s) (j := j) he 0 [] [] FUEL rfl rfl (hfuel 0 (by decide))
      refine (congrArg (fun o => Option.bind o _) h).trans ?_
      rw [Option.bind_some]
      exact r2_bad he
    · intro p hp h
      have := small hp
      unfold bytesL at h
      rw [d1] at h
      obtain ⟨_, h⟩ := numL_cut hn56 (by omega) h
      exact hno _ _ (by omega) (by omega) h
  rw [show ((64 : Nat) : Int) = 64 from rfl] at e2
  rw [e2, Option.bind_some]
  dsimp only
  rcases loop1 s hs ((c : Int), ⟨ofL s, (i2 : Int), 0⟩) rfl hc c i2 [] [] FUEL rfl rfl hi2 (hfuel c (by omega)) with ⟨Q, M, i3, hQ, hM, hq, hm, d3, hi3, e3⟩ | ⟨j, e, P', L', he, e3, hno⟩
  rotate_left
  · refine .inr ⟨e, he, ?_, ?_⟩
    · refine (congrArg (fun o => Option.bind o _) e3).trans ?_
      rw [Option.bind_some]
      exact r2_bad he
    · intro p hp h
      have := small hp
      unfold bytesL at h
      rw [d1] at h
      obtain ⟨_, h⟩ := numL_cut hn56 (by omega) h
      rw [d2] at h
      obtain ⟨hcc, h⟩ := numL_cut hc56 (by omega) h
      exact hno _ _ _ hcc.symm (by rw [hp.lf, hcc]) hp.inP hp.leaf32 h
  have e3' : ∀ {ρ : Type} (g : ByteArray × Int × Int × List Int × List ByteArray → Option ρ), Option.bind (iter (fun x => F.batch_Read.l1 ((c : Int), ⟨ofL s, (i2 : Int), 0⟩) x.1 x.2.1 x.2.2.1 x.2.2.2.1 x.2.2.2.2.1 x.2.2.2.2.2) FUEL (0, ofL s, (i2 : Int), 0, [], [])) g = g (ofL s, (i3 : Int), 0, Q, M) := fun g => (congrArg (fun o => Option.bind o g) e3).trans rfl
  rw [e3']
  dsimp only
  unfold F.batch_Read.r2
  rcases num_rd hs hi3 1024 with ⟨w, i4, hw, hw56, d4, _, hi4, e4⟩ | ⟨j, e, he, e4, hno⟩
  rotate_left
  · refine .inr ⟨e, he, ?_, ?_⟩
    · rw [show ((1024 : Nat) : Int) = 1024 from rfl] at e4
      rw [e4, Option.bind_some]
      obtain ⟨L', h⟩ := loop3_bad (0, ⟨ofL s, j, e⟩) (c := 0) rfl (by decide) (s := ofL s) (j := j) he 0 [] FUEL rfl (hfuel 0 (by decide))
      refine (congrArg (fun o => Option.bind o _) h).trans ?_
      rw [Option.bind_some]
      exact r4_bad he
    · intro p hp h
      have := small hp
      unfold bytesL at h
      rw [d1] at h
      obtain ⟨_, h⟩ := numL_cut hn56 (by omega) h
      rw [d2] at h
      obtain ⟨hcc, h⟩ := numL_cut hc56 (by omega) h
      rw [d3] at h
      obtain ⟨_, _, h⟩ := catP_cut _ _ _ _ (by rw [hQ, hM]) (by rw [hQ, hcc]) (by rw [hp.lf, hQ, hcc]) hq hp.inP hm hp.leaf32 h
      exact hno _ _ (by omega) (by omega) h
  rw [show ((1024 : Nat) : Int) = 1024 from rfl] at e4
  rw [e4, Option.bind_some]
  dsimp only
  rcases loop3 s hs ((w : Int), ⟨ofL s, (i4 : Int), 0⟩) rfl hw w i4 [] FUEL rfl hi4 (hfuel w (by omega)) with ⟨W, i5, hW, hww, d5, hi5, e5⟩ | ⟨j, e, L', he, e5, hno⟩
  rotate_left
  · refine .inr ⟨e, he, ?_, ?_⟩
    · refine (congrArg (fun o => Option.bind o _) e5).trans ?_
      rw [Option.bind_some]
      exact r4_bad he
    · intro p hp h
      have := small hp
      unfold bytesL at h
      rw [d1] at h
      obtain ⟨_, h⟩ := numL_cut hn56 (by omega) h
      rw [d2] at h
      obtain ⟨hcc, h⟩ := numL_cut hc56 (by omega) h
      rw [d3] at h
      obtain ⟨_, _, h⟩ := catP_cut _ _ _ _ (by rw [hQ, hM]) (by rw [hQ, hcc]) (by rw [hp.lf, hQ, hcc]) hq hp.inP hm hp.leaf32 h
      rw [d4] at h
      obtain ⟨hww, h⟩ := numL_cut hw56 (by omega) h
      exact hno p.Nodes [] hww.symm hp.nodes32 (by rw [List.append_nil]; exact h)
  have e5' : ∀ {ρ : Type} (g : ByteArray × Int × Int × List ByteArray → Option ρ), Option.bind (iter (fun x => F.batch_Read.l3 ((w : Int), ⟨ofL s, (i4 : Int), 0⟩) x.1 x.2.1 x.2.2.1 x.2.2.2.1 x.2.2.2.2) FUEL (0, ofL s, (i4 : Int), 0, [])) g = g (ofL s, (i5 : Int), 0, W) := fun g => (congrArg (fun o => Option.bind o g) e5).trans rfl
  rw [e5']
  dsimp only
  -- the end
  have hall : s = numL n ++ (numL c ++ (catP Q M ++ (numL w ++ (catN W ++ s.drop i5)))) := by rw [← d5, ← d4, ← d3, ← d2, ← d1]
  unfold F.batch_Read.r4 F.octet_Reader_End F.octet_Reader_Left F.octet_Reader_Err
  dsimp only
  rw [Option.bind_some, if_neg (by decide), Option.bind_some, ofL_size, w64 (by omega) (by omega)]
  by_cases hend : i5 < s.length
  · refine .inr ⟨4, by decide, ?_, ?_⟩
    · rw [if_pos (by simp; omega), fail_eq, Option.bind_some, Option.bind_some, Option.bind_some]
      rfl
    · intro p hp h
      have := small hp
      have hall := h.symm.trans hall
      unfold bytesL at hall
      obtain ⟨_, hall⟩ := numL_cut (by omega) hn56 hall
      obtain ⟨hcc, hall⟩ := numL_cut (by omega) hc56 hall
      obtain ⟨_, _, hall⟩ := catP_cut _ _ _ _ hp.lf (by rw [hQ, hcc]) (by rw [hM, hcc]) hp.inP hq hp.leaf32 hm hall
      obtain ⟨hww2, hall⟩ := numL_cut (by omega) hw56 hall
      obtain ⟨_, hz⟩ := catN_cut (r := []) _ _ (by rw [hW, hww2]) hp.nodes32 hww (by rw [List.append_nil]; exact hall)
      have := congrArg List.length hz
      rw [List.length_drop] at this
      simp at this
      omega
  · have hi : s.drop i5 = [] := List.drop_eq_nil_of_le (by omega)
    rw [hi, List.append_nil] at hall
    rw [if_neg (by simp; omega), Option.bind_some, Option.bind_some]
    dsimp only
    rw [if_neg (by decide), right_eq ⟨by dsimp only; omega, by dsimp only; omega, by dsimp only; omega⟩, Option.bind_some]
    cases hrp : rightP ⟨(n : Int), Q, M, W⟩ with
    | true =>
      refine .inl ⟨⟨(n : Int), Q, M, W⟩, rfl, hrp, ?_⟩
      unfold bytesL
      dsimp only
      rw [Int.toNat_natCast, hQ, hW]
      exact hall
    | false =>
      refine .inr ⟨4, by decide, rfl, ?_⟩
      intro p hp h
      have := small hp
      have a1 := hp.s1
      have hall := h.symm.trans hall
      unfold bytesL at hall
      obtain ⟨hnn, hall⟩ := numL_cut (by omega) hn56 hall
      obtain ⟨hcc, hall⟩ := numL_cut (by omega) hc56 hall
      obtain ⟨g1, g2, hall⟩ := catP_cut _ _ _ _ hp.lf (by rw [hQ, hcc]) (by rw [hM, hcc]) hp.inP hq hp.leaf32 hm hall
      obtain ⟨hww2, hall⟩ := numL_cut (by omega) hw56 hall
      obtain ⟨g3, hz⟩ := catN_cut (r := []) (r' := []) _ _ (by rw [hW, hww2]) hp.nodes32 hww (by rw [List.append_nil, List.append_nil]; exact hall)
      have g4 : p.Size = (n : Int) := by omega
      rw [← g1, ← g2, ← g3, ← g4] at hrp
      rw [show (⟨p.Size, p.Picks, p.Leaf, p.Nodes⟩ : batch_Proof) = p from rfl, right_of hp] at hrp
      cases hrp
end Go.Proofs.Ytoamnhmdhficiaa
