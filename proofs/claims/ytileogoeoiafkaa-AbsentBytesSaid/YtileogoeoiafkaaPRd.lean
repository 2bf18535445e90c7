/- Readers, in plain words: what is read, or that nothing of the kind is there; one behind the other. -/
import Derived.Test.YtileogoeoiafkaaPRead
namespace Go.Proofs.Ytileogoeoiafkaa
set_option linter.all false
open Go Go.RowKit Go.Fw
set_option maxRecDepth 100000
attribute [local irreducible] FUEL
/-- a reader of what is so laid -/
structure Rd {α : Type} (s : List UInt8) (R : octet_Reader → Option (α × octet_Reader)) (V : α → Prop) (enc : α → List UInt8) : Prop where
  bad : ∀ j e, e ≠ 0 → ∃ a, R ⟨ofL s, j, e⟩ = some (a, ⟨ofL s, j, e⟩)
  good : ∀ i : Nat, i ≤ s.length → (∃ a k, V a ∧ s.drop i = enc a ++ s.drop k ∧ i ≤ k ∧ k ≤ s.length ∧ R ⟨ofL s, (i : Int), 0⟩ = some (a, ⟨ofL s, (k : Int), 0⟩)) ∨
    (∃ a j e, e ≠ 0 ∧ R ⟨ofL s, (i : Int), 0⟩ = some (a, ⟨ofL s, j, e⟩) ∧ ∀ a' r, V a' → s.drop i ≠ enc a' ++ r)
/-- what is so laid is laid in one way -/
def Cut {α : Type} (V : α → Prop) (enc : α → List UInt8) : Prop := ∀ a b r r', V a → V b → enc a ++ r = enc b ++ r' → a = b ∧ r = r'
section
variable {s : List UInt8} {α β : Type}
theorem Rd.seq {R1 : octet_Reader → Option (α × octet_Reader)} {V1 : α → Prop} {e1 : α → List UInt8} {R2 : α → octet_Reader → Option (β × octet_Reader)} {V2 : α → β → Prop} {e2 : α → β → List UInt8} (h1 : Rd s R1 V1 e1) (c1 : Cut V1 e1) (h2 : ∀ a, V1 a → Rd s (R2 a) (V2 a) (e2 a))
    (hb : ∀ a j e, e ≠ 0 → ∃ b, R2 a ⟨ofL s, j, e⟩ = some (b, ⟨ofL s, j, e⟩)) : Rd s (fun m => Option.bind (R1 m) fun x => Option.bind (R2 x.1 x.2) fun y => some ((x.1, y.1), y.2)) (fun z => V1 z.1 ∧ V2 z.1 z.2) (fun z => e1 z.1 ++ e2 z.1 z.2) := by
  constructor
  · intro j e he
    obtain ⟨a, ha⟩ := h1.bad j e he
    obtain ⟨b, hb⟩ := hb a j e he
    exact ⟨(a, b), by rw [ha, Option.bind_some]; dsimp only; rw [hb, Option.bind_some]⟩
  · intro i hi
    rcases h1.good i hi with ⟨a, k, va, ea, h3, h4, ra⟩ | ⟨a, j, e, he, ra, hn⟩
    · rcases (h2 a va).good k h4 with ⟨b, k2, vb, eb, h5, h6, rb⟩ | ⟨b, j, e, he, rb, hn⟩
      · refine .inl ⟨(a, b), k2, ⟨va, vb⟩, ?_, by omega, h6, ?_⟩
        · dsimp only
          rw [ea, eb, List.append_assoc]
        · rw [ra, Option.bind_some]; dsimp only; rw [rb, Option.bind_some]
      · refine .inr ⟨(a, b), j, e, he, by rw [ra, Option.bind_some]; dsimp only; rw [rb, Option.bind_some], ?_⟩
        rintro ⟨a', b'⟩ r ⟨va', vb'⟩ h
        dsimp only at va' vb' h
        rw [ea, List.append_assoc] at h
        obtain ⟨rfl, h9⟩ := c1 _ _ _ _ va va' h
        exact hn b' r vb' h9
    · obtain ⟨b, rb⟩ := hb a j e he
      refine .inr ⟨(a, b), j, e, he, by rw [ra, Option.bind_some]; dsimp only; rw [rb, Option.bind_some], ?_⟩
      rintro ⟨a', b'⟩ r ⟨va', vb'⟩ h
      dsimp only at va' vb' h
      rw [List.append_assoc] at h
      exact hn a' _ va' h
/-- the same, told otherwise -/
theorem Rd.map {R : octet_Reader → Option (α × octet_Reader)} {V : α → Prop} {enc : α → List UInt8} (h : Rd s R V enc) (f : α → β) (g : β → α) (hfg : ∀ b, f (g b) = b) (hgf : ∀ a, V a → g (f a) = a) : Rd s (fun m => Option.bind (R m) fun x => some (f x.1, x.2)) (fun b => V (g b)) (fun b => enc (g b)) := by
  constructor
  · intro j e he
    obtain ⟨a, ha⟩ := h.bad j e he
    exact ⟨f a, by rw [ha, Option.bind_some]⟩
  · intro i hi
    rcases h.good i hi with ⟨a, k, va, ea, h3, h4, ra⟩ | ⟨a, j, e, he, ra, hn⟩
    · refine .inl ⟨f a, k, ?_, ?_, h3, h4, by rw [ra, Option.bind_some]⟩
      · rw [hgf a va]; exact va
      · rw [hgf a va]; exact ea
    · exact .inr ⟨f a, j, e, he, by rw [ra, Option.bind_some], fun b r vb => hn (g b) r vb⟩
theorem Rd.congr {R R' : octet_Reader → Option (α × octet_Reader)} {V : α → Prop} {enc : α → List UInt8} (h : Rd s R V enc) (hr : ∀ m, R' m = R m) : Rd s R' V enc := by
  have : R' = R := funext hr
  rw [this]; exact h
theorem Cut.seq {V1 : α → Prop} {e1 : α → List UInt8} {V2 : α → β → Prop} {e2 : α → β → List UInt8} (c1 : Cut V1 e1) (c2 : ∀ a, V1 a → Cut (V2 a) (e2 a)) : Cut (fun z : α × β => V1 z.1 ∧ V2 z.1 z.2) (fun z => e1 z.1 ++ e2 z.1 z.2) := by
  rintro ⟨a, b⟩ ⟨a', b'⟩ r r' ⟨h1, h2⟩ ⟨h3, h4⟩ h
  dsimp only at h1 h2 h3 h4 h
  rw [List.append_assoc, List.append_assoc] at h
  obtain ⟨rfl, h5⟩ := c1 _ _ _ _ h1 h3 h
  obtain ⟨rfl, h6⟩ := c2 a h1 _ _ _ _ h2 h4 h5
  exact ⟨rfl, h6⟩
end
/-! ### numbers, bytes, texts -/
def VNum (max : Nat) (n : Int) : Prop := 0 ≤ n ∧ n ≤ max
def eNum (n : Int) : List UInt8 := numL n.toNat
theorem cut_num {max : Nat} (h : max < 72057594037927936) : Cut (VNum max) eNum := by
  intro a b r r' ha hb he
  unfold VNum at ha hb
  obtain ⟨h1, h2⟩ := numL_cut (by omega) (by omega) he
  exact ⟨by omega, h2⟩
theorem rd_num {s : List UInt8} (hs : s.length ≤ 1000000000000000000) {max : Nat} (hm : max < 72057594037927936) : Rd s (F.octet_Reader_Num (max : Int)) (VNum max) eNum := by
  constructor
  · exact fun j e he => ⟨0, num_bad he⟩
  · intro i hi
    rcases num_rd hs hi max with ⟨n, k, h1, h2, h3, h4, h5, h6⟩ | ⟨j, e, he, h1, h2⟩
    · exact .inl ⟨(n : Int), k, ⟨by omega, by omega⟩, h3, h4, h5, h6⟩
    · refine .inr ⟨0, j, e, he, h1, fun a r ha => ?_⟩
      unfold VNum at ha
      exact h2 a.toNat r (by omega) (by omega)
def VRaw (n : Int) (b : ByteArray) : Prop := (b.size : Int) = n
def eRaw (b : ByteArray) : List UInt8 := b.data.toList
theorem cut_raw (n : Int) : Cut (VRaw n) eRaw := by
  intro a b r r' ha hb he
  unfold VRaw at ha hb
  unfold eRaw at he
  obtain ⟨h1, h2⟩ := List.append_inj he (by rw [size_ofL', size_ofL']; omega)
  exact ⟨by rw [ofL_surj a, ofL_surj b, h1], h2⟩
theorem rd_raw {s : List UInt8} (hs : s.length ≤ 1000000000000000000) {n : Int} (hn : 0 ≤ n) : Rd s (F.octet_Reader_Raw n) (VRaw n) eRaw := by
  constructor
  · exact fun j e he => ⟨ofL [], raw_bad he⟩
  · intro i hi
    have hn' : ((n.toNat : Nat) : Int) = n := Int.toNat_of_nonneg hn
    rcases raw_rd hs hi n.toNat with ⟨l, h1, h2, h3, h4⟩ | ⟨h1, h2⟩
    · rw [hn'] at h4
      refine .inl ⟨ofL l, i + n.toNat, ?_, ?_, by omega, h3, h4⟩
      · unfold VRaw; rw [ofL_size]; omega
      · unfold eRaw; rw [ofL_toList]; exact h2
    · rw [hn'] at h1
      refine .inr ⟨_, _, 2, by decide, h1, fun a r ha => ?_⟩
      unfold VRaw at ha
      exact h2 _ r (by show a.data.toList.length = _; rw [size_ofL']; omega)
def VText (max : Nat) (b : ByteArray) : Prop := b.size ≤ max
def eText (b : ByteArray) : List UInt8 := textL b.data.toList
theorem cut_text {max : Nat} (h : max < 72057594037927936) : Cut (VText max) eText := by
  intro a b r r' ha hb he
  unfold VText at ha hb
  obtain ⟨h1, h2⟩ := textL_cut (by rw [size_ofL']; omega) (by rw [size_ofL']; omega) he
  exact ⟨by rw [ofL_surj a, ofL_surj b, h1], h2⟩
theorem rd_text {s : List UInt8} (hs : s.length ≤ 1000000000000000000) {max : Nat} (hm : max < 72057594037927936) : Rd s (F.octet_Reader_Text (max : Int)) (VText max) eText := by
  constructor
  · intro j e he
    refine ⟨ofL [], ?_⟩
    unfold F.octet_Reader_Text
    rw [num_bad he, Option.bind_some]
    dsimp only
    rw [raw_bad he]; rfl
  · intro i hi
    unfold F.octet_Reader_Text
    rcases (rd_num hs hm).good i hi with ⟨n, k, vn, en, h3, h4, rn⟩ | ⟨n, j, e, he, rn, hn⟩
    · unfold VNum at vn
      rw [rn, Option.bind_some]
      dsimp only
      rcases (rd_raw hs vn.1).good k h4 with ⟨b, k2, vb, eb, h5, h6, rb⟩ | ⟨b, j, e, he, rb, hn⟩
      · unfold VRaw at vb
        rw [rb, Option.bind_some]
        refine .inl ⟨b, k2, by unfold VText; omega, ?_, by omega, h6, rfl⟩
        rw [en, eb]
        unfold eNum eText textL eRaw
        rw [size_ofL', List.append_assoc, show n.toNat = b.size by omega]
      · rw [rb, Option.bind_some]
        refine .inr ⟨b, j, e, he, rfl, fun a r ha h => ?_⟩
        unfold VText at ha
        rw [en] at h
        unfold eNum eText textL at h
        rw [size_ofL', List.append_assoc] at h
        obtain ⟨h1, h2⟩ := numL_cut (by omega) (by omega) h
        exact hn a r (by unfold VRaw; omega) h2
    · rw [rn, Option.bind_some]
      dsimp only
      refine .inr ⟨ofL [], j, e, he, by rw [raw_bad he]; rfl, fun a r ha h => ?_⟩
      unfold VText at ha
      refine hn (a.size : Int) (a.data.toList ++ r) ⟨by omega, by omega⟩ ?_
      rw [h]
      unfold eNum eText textL
      rw [size_ofL', List.append_assoc, Int.toNat_natCast]
/-! ### texts -/
def eTxs : List ByteArray → List UInt8
  | [] => []
  | b :: l => eText b ++ eTxs l
def VTxs (max : Nat) (l : List ByteArray) : Prop := ∀ b ∈ l, VText max b
theorem cut_txs {max : Nat} (h : max < 72057594037927936) : ∀ (l l' : List ByteArray) (r r' : List UInt8), l.length = l'.length → VTxs max l → VTxs max l' → eTxs l ++ r = eTxs l' ++ r' → l = l' ∧ r = r'
  | [], [], r, r', _, _, _, h => ⟨rfl, h⟩
  | [], _ :: _, _, _, hl, _, _, _ => by simp at hl
  | _ :: _, [], _, _, hl, _, _, _ => by simp at hl
  | b :: l, b' :: l', r, r', hl, h1, h2, he => by
    unfold eTxs at he
    rw [List.append_assoc, List.append_assoc] at he
    obtain ⟨rfl, he1⟩ := cut_text h _ _ _ _ (h1 b (List.mem_cons_self ..)) (h2 b' (List.mem_cons_self ..)) he
    obtain ⟨rfl, he2⟩ := cut_txs h l l' r r' (by simpa using hl) (fun x hx => h1 x (List.mem_cons_of_mem _ hx)) (fun x hx => h2 x (List.mem_cons_of_mem _ hx)) he1
    exact ⟨rfl, he2⟩
theorem txs_loop {s : List UInt8} (hs : s.length ≤ 1000000000000000000) {max : Nat} (hm : max < 72057594037927936) (q : Int × octet_Reader) {c : Nat} (hq : q.1 = (c : Int)) (hc : c ≤ 1000) : ∀ (rem i : Nat) (acc : List ByteArray) (k : Nat), acc.length + rem = c → i ≤ s.length → rem < k →
    (∃ l j, l.length = rem ∧ VTxs max l ∧ s.drop i = eTxs l ++ s.drop j ∧ i ≤ j ∧ j ≤ s.length ∧ iter (fun x => F.octet_Reader_Texts.l1 (max : Int) q x.1 x.2.1 x.2.2.1 x.2.2.2.1 x.2.2.2.2) k (acc, (acc.length : Int), ofL s, (i : Int), 0) = some (.inl (acc ++ l, ofL s, (j : Int), 0))) ∨
    (∃ j e, e ≠ 0 ∧ iter (fun x => F.octet_Reader_Texts.l1 (max : Int) q x.1 x.2.1 x.2.2.1 x.2.2.2.1 x.2.2.2.2) k (acc, (acc.length : Int), ofL s, (i : Int), 0) = some (.inr ([], ⟨ofL s, j, e⟩)) ∧ ∀ l r, l.length = rem → VTxs max l → s.drop i ≠ eTxs l ++ r)
  | rem, i, acc, 0, _, _, h => by omega
  | 0, i, acc, k + 1, hl, hi, _ => by
    refine .inl ⟨[], i, rfl, (fun b hb => by cases hb), rfl, Nat.le_refl _, hi, ?_⟩
    rw [iter]
    dsimp only
    unfold F.octet_Reader_Texts.l1
    rw [if_neg (by rw [hq]; simp; omega), List.append_nil]
  | rem + 1, i, acc, k + 1, hl, hi, hk => by
    have hstep : ∀ {a : ByteArray} {j e : Int}, F.octet_Reader_Text (max : Int) ⟨ofL s, (i : Int), 0⟩ = some (a, ⟨ofL s, j, e⟩) → F.octet_Reader_Texts.l1 (max : Int) q acc (acc.length : Int) (ofL s) (i : Int) 0 = if e ≠ 0 then some (.inr (.inr ([], ⟨ofL s, j, e⟩))) else some (.inl (acc ++ [a], ((acc.length + 1 : Nat) : Int), ofL s, j, e)) := fun {a j e} h => by
      unfold F.octet_Reader_Texts.l1 F.octet_Reader_Err
      rw [if_pos (by rw [hq]; apply decide_eq_true; omega), h, Option.bind_some, Option.bind_some]
      dsimp only
      by_cases he : e = 0
      · rw [if_neg (by simpa using he), if_neg (by simpa using he), chk_pos (by
          unfold room
          rw [List.length_singleton]; omega), w64 (n := (acc.length : Int) + 1) (by omega) (by omega)]; rfl
      · rw [if_pos (by simpa using he), if_pos he]
    rcases (rd_text hs hm).good i hi with ⟨a, j, va, ea, h3, h4, ra⟩ | ⟨a, j, e, he, ra, hn⟩
    · have hs1 := hstep ra
      rw [if_neg (by simp)] at hs1
      have hlen : (acc ++ [a]).length = acc.length + 1 := by rw [List.length_append, List.length_singleton]
      have ih := txs_loop hs hm q hq hc rem j (acc ++ [a]) k (by omega) h4 (by omega)
      rw [hlen] at ih
      rw [iter]
      dsimp only
      rw [hs1]
      rcases ih with ⟨l, j2, g1, g2, g3, g4, g5, g6⟩ | ⟨j2, e, he, g1, g2⟩
      · refine .inl ⟨a :: l, j2, by rw [List.length_cons, g1], fun b hb => ?_, ?_, by omega, g5, ?_⟩
        · rcases List.mem_cons.1 hb with rfl | hb
          · exact va
          · exact g2 b hb
        · rw [ea, g3]
          show _ = (eText a ++ eTxs l) ++ _
          rw [List.append_assoc]
        · refine g6.trans ?_
          rw [List.append_assoc]; rfl
      · refine .inr ⟨j2, e, he, g1, fun l r hl2 hv h => ?_⟩
        cases l with
        | nil => simp at hl2
        | cons b l =>
          rw [ea] at h
          unfold eTxs at h
          rw [List.append_assoc] at h
          obtain ⟨rfl, h9⟩ := cut_text hm _ _ _ _ va (hv b (List.mem_cons_self ..)) h
          exact g2 l r (by simpa using hl2) (fun x hx => hv x (List.mem_cons_of_mem _ hx)) h9
    · have hs1 := hstep ra
      rw [if_pos he] at hs1
      rw [iter]
      dsimp only
      rw [hs1]
      refine .inr ⟨j, e, he, rfl, fun l r hl2 hv h => ?_⟩
      cases l with
      | nil => simp at hl2
      | cons b l =>
        unfold eTxs at h
        rw [List.append_assoc] at h
        exact hn b _ (hv b (List.mem_cons_self ..)) h
def VTexts (many max : Nat) (l : List ByteArray) : Prop := l.length ≤ many ∧ VTxs max l
def eTexts (l : List ByteArray) : List UInt8 := numL l.length ++ eTxs l
theorem cut_texts {many max : Nat} (h : many < 72057594037927936) (h2 : max < 72057594037927936) : Cut (VTexts many max) eTexts := by
  intro a b r r' ha hb he
  unfold VTexts at ha hb
  unfold eTexts at he
  rw [List.append_assoc, List.append_assoc] at he
  obtain ⟨e1, he⟩ := numL_cut (by omega) (by omega) he
  exact cut_txs h2 a b r r' e1 ha.2 hb.2 he
theorem rd_texts {s : List UInt8} (hs : s.length ≤ 1000000000000000000) {many max : Nat} (hn : many ≤ 1000) (hm : max < 72057594037927936) : Rd s (F.octet_Reader_Texts (many : Int) (max : Int)) (VTexts many max) eTexts := by
  have hfu : ∃ k, FUEL = k + 1 := ⟨18446744073709551615, FUEL_eq⟩
  constructor
  · intro j e he
    obtain ⟨k, hk⟩ := hfu
    refine ⟨[], ?_⟩
    unfold F.octet_Reader_Texts
    rw [num_bad he, Option.bind_some, hk, iter]
    dsimp only
    unfold F.octet_Reader_Texts.l1
    rw [if_neg (by simp)]; rfl
  · intro i hi
    unfold F.octet_Reader_Texts
    rcases (rd_num hs (max := many) (by omega)).good i hi with ⟨n, j, vn, en, h3, h4, rn⟩ | ⟨n, j, e, he, rn, hno⟩
    · unfold VNum at vn
      rw [rn, Option.bind_some]
      have hnn : ((n.toNat : Nat) : Int) = n := Int.toNat_of_nonneg vn.1
      rcases txs_loop hs hm (n, ⟨ofL s, (j : Int), 0⟩) (c := n.toNat) hnn.symm (by omega) n.toNat j [] FUEL (by simp) h4 (by rw [FUEL_eq]; omega) with ⟨l, j2, g1, g2, g3, g4, g5, g6⟩ | ⟨j2, e, he, g1, g2⟩
      · refine .inl ⟨l, j2, ⟨by omega, g2⟩, ?_, by omega, g5, ?_⟩
        · rw [en, g3]
          unfold eNum eTexts
          rw [g1, List.append_assoc]
        · refine (congrArg (fun o => thru o _) g6).trans ?_
          rfl
      · refine .inr ⟨[], j2, e, he, ?_, fun l r hv h => ?_⟩
        · exact (congrArg (fun o => thru o _) g1).trans rfl
        · rw [en] at h
          unfold eNum eTexts at h
          unfold VTexts at hv
          rw [List.append_assoc] at h
          obtain ⟨e1, h⟩ := numL_cut (by omega) (by omega) h
          exact g2 l r e1.symm hv.2 h
    · have hz : F.octet_Reader_Num (many : Int) ⟨ofL s, (i : Int), 0⟩ = some (0, ⟨ofL s, j, e⟩) := by
        rcases num_rd hs hi many with ⟨n', k', _, _, _, _, _, h6⟩ | ⟨j', e', he', h1, _⟩
        · rw [h6] at rn
          have := congrArg (fun x : Option (Int × octet_Reader) => x.map fun y => y.2.e_) rn
          simp at this
          exact absurd this.symm he
        · rw [h1] at rn
          rw [h1]
          have := Option.some.inj rn
          have h2 : (⟨ofL s, j', e'⟩ : octet_Reader) = ⟨ofL s, j, e⟩ := (Prod.mk.inj this).2
          rw [h2]
      obtain ⟨k, hk⟩ := hfu
      rw [hz, Option.bind_some, hk, iter]
      dsimp only
      refine .inr ⟨[], j, e, he, ?_, fun l r hv h => ?_⟩
      · unfold F.octet_Reader_Texts.l1
        rw [if_neg (by simp)]; rfl
      · unfold VTexts at hv
        unfold eTexts at h
        rw [List.append_assoc] at h
        refine hno (l.length : Int) (eTxs l ++ r) ⟨by omega, by omega⟩ ?_
        rw [h]
        unfold eNum
        rw [Int.toNat_natCast]
/-! ### what is laid -/
theorem wnum_eq {n : Nat} (h : n < 72057594037927936) {s : List UInt8} (hs : s.length ≤ 1000000000) : F.octet_Writer_Num (n : Int) ⟨ofL s, false⟩ = some ⟨ofL (s ++ numL n), false⟩ := by
  have n1 := numL_len h
  unfold F.octet_Writer_Num F.octet_Writer_Num.r1
  rw [num_eq h, Option.bind_some]
  dsimp only
  have hq : seqB (numB n) (ByteArray.mk #[]) = false := by
    cases hc : seqB (numB n) (ByteArray.mk #[]) with
    | false => rfl
    | true =>
      have := congrArg ByteArray.size (seqB_iff.1 hc)
      unfold numB at this
      rw [ofL_size] at this
      have h0 : (ByteArray.mk #[]).size = 0 := rfl
      omega
  rw [if_neg (by decide), hq, Option.bind_some]
  unfold numB
  rw [chk_pos (by rw [ofL_size, ofL_size]; omega), ofL_append]
theorem wtext_eq {y : ByteArray} (hy : y.size ≤ 1000) {s : List UInt8} (hs : s.length ≤ 1000000000) : F.octet_Writer_Text y ⟨ofL s, false⟩ = some ⟨ofL (s ++ eText y), false⟩ := by
  have h1 := textB_size (s := y) (by omega)
  unfold F.octet_Writer_Text
  have ht : F.octet_Text y = some (textB y) := by
    unfold F.octet_Text
    rw [num_eq (by omega), Option.bind_some, chk_pos (by have := numB_size (n := y.size) (by omega); omega)]
    rfl
  rw [ht, Option.bind_some]
  dsimp only
  rw [chk_pos (by rw [ofL_size]; omega), textB_eq, ofL_append]; rfl
theorem eText_len {y : ByteArray} (hy : y.size ≤ 1000) : (eText y).length ≤ y.size + 8 := by
  have := numL_len (n := y.size) (by omega)
  unfold eText textL
  rw [List.length_append, size_ofL']; omega
theorem eTxs_len : ∀ {l : List ByteArray} {b : Nat}, (∀ x ∈ l, x.size ≤ b) → b ≤ 1000 → (eTxs l).length ≤ l.length * (b + 8)
  | [], b, _, _ => by unfold eTxs; simp
  | x :: l, b, h, hb => by
    have h0 := h x (List.mem_cons_self ..)
    have h1 := eText_len (y := x) (by omega)
    have h2 := eTxs_len (l := l) (b := b) (fun z hz => h z (List.mem_cons_of_mem _ hz)) hb
    unfold eTxs
    rw [List.length_append, List.length_cons, Nat.succ_mul]; omega
theorem wtxs_loop {P : List ByteArray} (hP : ∀ x ∈ P, x.size ≤ 1000) (hPl : P.length ≤ 1000) : ∀ (rest : List ByteArray) (i : Nat) (s : List UInt8) (k : Nat), P.drop i = rest → i + rest.length = P.length → s.length + rest.length * 1008 ≤ 1000000000 → rest.length < k →
    iter (fun x => F.octet_Writer_Texts.l1 P x.1 x.2.1 x.2.2) k ((i : Int), ofL s, false) = some ⟨ofL (s ++ eTxs rest), false⟩
  | rest, i, s, 0, _, _, _, h => by omega
  | [], i, s, k + 1, hd, hl, hs, _ => by
    have : i = P.length := by simpa using hl
    subst this
    rw [iter]
    dsimp only
    unfold F.octet_Writer_Texts.l1 eTxs
    rw [if_neg (by simp), List.append_nil]
  | y :: rest, i, s, k + 1, hd, hl, hs, hk => by
    have hy : P[i]? = some y := by
      have := congrArg List.head? hd
      rw [List.head?_drop] at this
      simpa using this
    simp only [List.length_cons] at hl hs hk
    have h0 := hP y (List.mem_of_getElem? hy)
    have h1 := eText_len h0
    rw [iter]
    dsimp only
    unfold F.octet_Writer_Texts.l1
    rw [if_pos (by apply decide_eq_true; omega), at_nat hy, Option.bind_some, wtext_eq h0 (by omega), Option.bind_some, w64 (n := (i : Int) + 1) (by omega) (by omega)]
    dsimp only
    have ih := wtxs_loop hP hPl rest (i + 1) (s ++ eText y) k (by rw [← List.drop_drop, hd]; rfl) (by omega) (by rw [List.length_append]; omega) (by omega)
    refine ih.trans ?_
    rw [List.append_assoc]; rfl
theorem wtexts_eq {P : List ByteArray} (hP : ∀ x ∈ P, x.size ≤ 1000) (hPl : P.length ≤ 1000) {s : List UInt8} (hs : s.length ≤ 100000000) : F.octet_Writer_Texts P ⟨ofL s, false⟩ = some ⟨ofL (s ++ eTexts P), false⟩ := by
  have n1 := numL_len (n := P.length) (by omega)
  unfold F.octet_Writer_Texts
  rw [wnum_eq (by omega) (by omega), Option.bind_some]
  dsimp only
  have h := wtxs_loop hP hPl P 0 (s ++ numL P.length) FUEL rfl (by omega) (by rw [List.length_append]; omega) (by rw [FUEL_eq]; omega)
  refine h.trans ?_
  unfold eTexts
  rw [List.append_assoc]
end Go.Proofs.Ytileogoeoiafkaa
