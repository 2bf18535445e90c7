/- Numbers and bytes read from a text, in plain words. -/
import Derived.Test.YtileogoeoiafkaaPOct
import Derived.Test.YtileogoeoiafkaaGBytes
namespace Go.Proofs.Ytileogoeoiafkaa
set_option linter.all false
open Go Go.RowKit Go.Fw
set_option maxRecDepth 100000
attribute [local irreducible] FUEL

theorem sq0 : seqB (ofL []) (ByteArray.mk #[]) = true := seqB_iff.2 rfl
theorem fail_eq {s : ByteArray} {j x : Int} : F.octet_Reader_Fail x ⟨s, j, 0⟩ = some ⟨s, j, x⟩ := by
  unfold F.octet_Reader_Fail F.octet_Reader_Fail.r1
  rw [Option.bind_some]
  rfl
theorem fail_bad {s : ByteArray} {j x e : Int} (he : e ≠ 0) : F.octet_Reader_Fail x ⟨s, j, e⟩ = some ⟨s, j, e⟩ := by
  unfold F.octet_Reader_Fail F.octet_Reader_Fail.r1
  rw [Option.bind_some, if_neg (by simpa using he)]
theorem raw_bad {s : ByteArray} {j x e : Int} (he : e ≠ 0) : F.octet_Reader_Raw x ⟨s, j, e⟩ = some (ofL [], ⟨s, j, e⟩) := by
  unfold F.octet_Reader_Raw F.octet_Reader_Err
  rw [Option.bind_some]
  dsimp only
  rw [if_pos (by simpa using he)]
  rfl
theorem raw_ok {s : List UInt8} {i n : Nat} (hs : s.length ≤ 1000000000000000000) (h : i + n ≤ s.length) :
    F.octet_Reader_Raw (n : Int) ⟨ofL s, (i : Int), 0⟩ = some (ofL ((s.drop i).take n), ⟨ofL s, ((i + n : Nat) : Int), 0⟩) := by
  unfold F.octet_Reader_Raw F.octet_Reader_Err
  rw [Option.bind_some]
  dsimp only
  have e1 : IntKind.i64.wrap ((i : Int) + (n : Int)) = ((i + n : Nat) : Int) := by rw [w64 (by omega) (by omega)]; omega
  have e2 : IntKind.i64.wrap (((i + n : Nat) : Int) - (n : Int)) = (i : Int) := by rw [w64 (by omega) (by omega)]; omega
  rw [if_neg (by decide), if_neg (by simp), ofL_size, w64 (n := (s.length : Int) - i) (by omega) (by omega), if_neg (by simp; omega), e1, e2, chk_pos (by omega), Int.toNat_natCast, Int.toNat_natCast, ofL_extract, List.drop_take]
  rw [show i + n - i = n by omega]
theorem raw_short {s : List UInt8} {i n : Nat} (hs : s.length ≤ 1000000000000000000) (hi : i ≤ s.length) (h : s.length < i + n) :
    F.octet_Reader_Raw (n : Int) ⟨ofL s, (i : Int), 0⟩ = some (ofL [], ⟨ofL s, (i : Int), 2⟩) := by
  unfold F.octet_Reader_Raw F.octet_Reader_Err
  rw [Option.bind_some]
  dsimp only
  rw [if_neg (by decide), if_neg (by simp), ofL_size, w64 (n := (s.length : Int) - i) (by omega) (by omega), if_pos (by simp; omega), fail_eq]
  rfl
theorem num_bad {s : ByteArray} {j x e : Int} (he : e ≠ 0) : F.octet_Reader_Num x ⟨s, j, e⟩ = some (0, ⟨s, j, e⟩) := by
  unfold F.octet_Reader_Num
  rw [raw_bad he, Option.bind_some]
  dsimp only
  rw [if_pos sq0]

theorem foldE_num {ρ : Type} (bad : ρ) (c : Nat → ρ) : ∀ (l : List UInt8) (i t : Nat), 1 ≤ i → foldE (fun i (t : Nat) (y : UInt8) => if i = 0 ∧ y = 0 then (.inr bad : Nat ⊕ ρ) else .inl (t * 256 + y.toNat)) c l i t = c (l.foldl (fun n b => n * 256 + b.toNat) t)
  | [], _, _, _ => rfl
  | y :: l, i, t, h => by
    unfold foldE
    rw [if_neg (by omega)]
    exact foldE_num bad c l (i + 1) _ (by omega)
def numOut (s : ByteArray) (j e : Int) : List UInt8 → (Int × ByteArray × Int × Int) ⊕ (Int × octet_Reader)
  | [] => .inl (0, s, j, e)
  | b :: r => if b = 0 then .inr (0, ⟨s, j, 4⟩) else .inl (((valL (b :: r) : Nat) : Int), s, j, e)
theorem numOut_nil (s : ByteArray) (j e : Int) : numOut s j e [] = .inl (0, s, j, e) := rfl
theorem numOut_zero (s : ByteArray) (j e : Int) (r : List UInt8) : numOut s j e (0 :: r) = .inr (0, ⟨s, j, 4⟩) := rfl
theorem numOut_pos (s : ByteArray) (j e : Int) {b : UInt8} (r : List UInt8) (h : b ≠ 0) : numOut s j e (b :: r) = .inl (((valL (b :: r) : Nat) : Int), s, j, e) := if_neg h
theorem num_rounds {l : List UInt8} (hl : l.length ≤ 7) (r29 : ByteArray × octet_Reader) (h1 : r29.1 = ofL l) {s : ByteArray} {j e : Int} (h2 : r29.2 = ⟨s, j, e⟩) (he : e = 0 ∨ l = []) :
    iter (fun x => F.octet_Reader_Num.l2 r29 x.1 x.2) FUEL (0, 0) = some (numOut s j e l) := by
  have h := iter_fold (f := fun (x : Int × Int) => F.octet_Reader_Num.l2 r29 x.1 x.2) (fun i (t : Nat) => ((t : Int), (i : Int)))
    (fun i (t : Nat) (y : UInt8) => if i = 0 ∧ y = 0 then (.inr (.inr (0, ⟨s, j, 4⟩)) : Nat ⊕ ((Int × ByteArray × Int × Int) ⊕ (Int × octet_Reader))) else .inl (t * 256 + y.toNat)) (fun t => .inl ((t : Int), s, j, e)) (fun i t => t < 256 ^ i) l
    (fun i t y ht hy => by
      have hi := lt_of_get hy
      have hb := u8_lt y
      have h7 : 256 ^ i ≤ 256 ^ 6 := Nat.pow_le_pow_right (by decide) (by omega)
      have h6 : (256 : Nat) ^ 6 = 281474976710656 := by decide
      refine ⟨?_, ?_⟩
      · dsimp only
        unfold F.octet_Reader_Num.l2 F.octet_Reader_Num.r1
        rw [h1, sbytes_ofL, if_pos (by simp; omega), h2]
        have ha : at_ (l.map fun b => (b.toNat : Int)) (i : Int) = some (y.toNat : Int) := at_nat (by rw [List.getElem?_map, hy]; rfl)
        rw [ha, Option.bind_some]
        have hn : thru (some (.inl ()) : Option (Unit ⊕ ((Int × Int) ⊕ ((Int × ByteArray × Int × Int) ⊕ (Int × octet_Reader))))) (fun x => some (.inl (ior .i64 (IntKind.i64.wrap ((t : Int) * 2 ^ 8)) (IntKind.i64.wrap (y.toNat : Int)), IntKind.i64.wrap ((i : Int) + 1)))) = some (.inl (((t * 256 + y.toNat : Nat) : Int), ((i + 1 : Nat) : Int))) := by
          rw [thru_inl, wadd (by omega), w64 (n := (y.toNat : Int)) (by omega) (by omega)]
          have e3 : IntKind.i64.wrap ((t : Int) * 2 ^ 8) = ((t * 256 : Nat) : Int) := by
            rw [show (2 : Int) ^ 8 = 256 from rfl, w64 (by omega) (by omega)]; omega
          rw [e3, ior64 (by omega) (by omega), or256 t y.toNat hb]
        by_cases h0 : i = 0
        · by_cases hy0 : y = 0
          · rw [if_pos (by simp [h0]), if_pos (by simp [hy0]), if_pos ⟨h0, hy0⟩]
            have he0 : e = 0 := by
              rcases he with he | he
              · exact he
              · rw [he] at hi; simp at hi
            rw [he0, fail_eq, Option.bind_some]
            rfl
          · have hyz : y.toNat ≠ 0 := fun h => hy0 (UInt8.toNat_inj.1 h)
            rw [if_pos (by simp [h0]), if_neg (by simp; omega), if_neg (fun h => hy0 h.2)]
            exact hn
        · rw [if_neg (by simp; omega), if_neg (fun h => h0 h.1)]
          exact hn
      · intro t' ht'
        by_cases hc : i = 0 ∧ y = 0
        · rw [if_pos hc] at ht'; cases ht'
        · rw [if_neg hc] at ht'
          injection ht' with ht'
          rw [← ht', Nat.pow_succ]
          omega)
    (fun t ht => by
      dsimp only
      unfold F.octet_Reader_Num.l2
      rw [h1, sbytes_ofL, if_neg (by simp), h2]) (t0 := 0) (by decide) (k := FUEL) (by rw [FUEL_eq]; omega)
  refine h.trans ?_
  cases l with
  | nil => rfl
  | cons b r =>
    unfold foldE
    by_cases hb : b = 0
    · rw [if_pos ⟨rfl, hb⟩, hb, numOut_zero]
    · rw [if_neg (fun h => hb h.2), numOut_pos _ _ _ _ hb]
      dsimp only
      rw [foldE_num _ _ r 1 _ (Nat.le_refl _)]
      rfl

/-- a number read, or told to be none -/
theorem num_rd {s : List UInt8} {i : Nat} (hs : s.length ≤ 1000000000000000000) (hi : i ≤ s.length) (max : Nat) :
    (∃ n k, n ≤ max ∧ n < 72057594037927936 ∧ s.drop i = numL n ++ s.drop k ∧ i ≤ k ∧ k ≤ s.length ∧ F.octet_Reader_Num (max : Int) ⟨ofL s, (i : Int), 0⟩ = some ((n : Int), ⟨ofL s, (k : Int), 0⟩)) ∨
    (∃ j e, e ≠ 0 ∧ F.octet_Reader_Num (max : Int) ⟨ofL s, (i : Int), 0⟩ = some (0, ⟨ofL s, j, e⟩) ∧ ∀ n r, n ≤ max → n < 72057594037927936 → s.drop i ≠ numL n ++ r) := by
  by_cases h1 : i + 1 ≤ s.length
  rotate_left
  · refine .inr ⟨i, 2, by decide, ?_, ?_⟩
    · unfold F.octet_Reader_Num
      have := raw_short (n := 1) hs hi (by omega)
      rw [show ((1 : Nat) : Int) = 1 from rfl] at this
      rw [this, Option.bind_some]
      dsimp only
      rw [if_pos sq0]
    · intro n r _ _ h
      have := congrArg List.length h
      rw [List.length_drop, List.length_append] at this
      unfold numL at this
      simp at this; omega
  obtain ⟨b, hb⟩ : ∃ b, s[i]? = some b := ⟨s[i]'(by omega), List.getElem?_eq_getElem (by omega)⟩
  have hd : s.drop i = b :: s.drop (i + 1) := by
    have hlt : i < s.length := by omega
    rw [List.drop_eq_getElem_cons hlt]
    rw [List.getElem?_eq_getElem hlt] at hb
    rw [Option.some.inj hb]
  have hr := raw_ok (n := 1) hs h1
  rw [show ((1 : Nat) : Int) = 1 from rfl, hd, show (b :: s.drop (i + 1)).take 1 = [b] from rfl] at hr
  have hb8 := u8_lt b
  have hbt : bt (ofL [b]) 0 = (b.toNat : Int) := by rw [bt_ofL]; rfl
  have hsq : ¬ (seqB (ofL [b]) (ByteArray.mk #[]) = true) := fun h => by
    have := ofL_inj (b := []) (seqB_iff.1 h)
    cases this
  have hwr : IntKind.i64.wrap (b.toNat : Int) = (b.toNat : Int) := w64 (by omega) (by omega)
  -- what begins with this byte
  have key : ∀ {n : Nat} {r : List UInt8}, n < 72057594037927936 → s.drop i = numL n ++ r → b.toNat = (dig n).length ∧ s.drop (i + 1) = dig n ++ r := by
    intro n r hn h
    rw [hd] at h
    unfold numL at h
    rw [List.cons_append, List.cons.injEq] at h
    refine ⟨?_, h.2⟩
    have := dig_len hn
    rw [h.1]
    simp; omega
  by_cases h7 : b.toNat > 7
  · refine .inr ⟨((i + 1 : Nat) : Int), 4, by decide, ?_, ?_⟩
    · unfold F.octet_Reader_Num
      rw [hr, Option.bind_some]
      dsimp only
      rw [if_neg hsq, ofL_size, chk_pos (by simp), hbt, hwr, if_pos (by simp; omega), fail_eq]
      rfl
    · intro n r _ hn h
      have := (key hn h).1
      have := dig_len hn
      omega
  by_cases hk : i + 1 + b.toNat ≤ s.length
  rotate_left
  · refine .inr ⟨((i + 1 : Nat) : Int), 2, by decide, ?_, ?_⟩
    · unfold F.octet_Reader_Num
      rw [hr, Option.bind_some]
      dsimp only
      rw [if_neg hsq, ofL_size, chk_pos (by simp), hbt, hwr, if_neg (by simp; omega), raw_short hs (by omega) (by omega), Option.bind_some, ofL_size, chk_pos (by unfold maxLen; simp)]
      have := num_rounds (l := []) (by decide) (ofL [], ⟨ofL s, ((i + 1 : Nat) : Int), 2⟩) rfl (s := ofL s) (j := ((i + 1 : Nat) : Int)) (e := 2) rfl (.inr rfl)
      refine (congrArg (fun o => thru o _) this).trans ?_
      rw [numOut_nil, thru_inl]
      rfl
    · intro n r _ hn h
      have h1 := (key hn h).1
      have h2 := congrArg List.length (key hn h).2
      rw [List.length_append, List.length_drop] at h2
      omega
  have hraw := raw_ok (n := b.toNat) hs hk
  generalize hl : (s.drop (i + 1)).take b.toNat = l at hraw
  have hll : l.length = b.toNat := by rw [← hl, List.length_take, List.length_drop]; omega
  have hsl : s.drop (i + 1) = l ++ s.drop (i + 1 + b.toNat) := by
    rw [← hl, ← List.drop_drop (i := b.toNat) (j := i + 1), List.take_append_drop]
  have hrd := num_rounds (l := l) (by omega) (ofL l, ⟨ofL s, ((i + 1 + b.toNat : Nat) : Int), 0⟩) rfl (s := ofL s) (j := ((i + 1 + b.toNat : Nat) : Int)) (e := 0) rfl (.inl rfl)
  have hgo : F.octet_Reader_Num (max : Int) ⟨ofL s, (i : Int), 0⟩ = thru (some (numOut (ofL s) ((i + 1 + b.toNat : Nat) : Int) 0 l)) (fun x => F.octet_Reader_Num.r3 (max : Int) x.1 x.2.1 x.2.2.1 x.2.2.2) := by
    unfold F.octet_Reader_Num
    rw [hr, Option.bind_some]
    dsimp only
    rw [if_neg hsq, ofL_size, chk_pos (by simp), hbt, hwr, if_neg (by simp; omega), hraw, Option.bind_some, ofL_size, chk_pos (by unfold maxLen; omega)]
    exact congrArg (fun o => thru o _) hrd
  have hkey2 : ∀ {n : Nat} {r : List UInt8}, n < 72057594037927936 → s.drop i = numL n ++ r → l = dig n := by
    intro n r hn h
    obtain ⟨g1, g2⟩ := key hn h
    rw [← hl, g2, g1, List.take_left]
  by_cases hz : ∃ r, l = 0 :: r
  · obtain ⟨r, rfl⟩ := hz
    refine .inr ⟨((i + 1 + b.toNat : Nat) : Int), 4, by decide, ?_, ?_⟩
    · rw [hgo]
      rw [numOut_zero, thru_inr]
    · intro n r' _ hn h
      exact dig_head hn (hkey2 hn h).symm
  have hz : ∀ r, l ≠ 0 :: r := fun r h => hz ⟨r, h⟩
  obtain ⟨d1, d2⟩ := dig_of (l := l) (by omega) hz
  have hgo2 : F.octet_Reader_Num (max : Int) ⟨ofL s, (i : Int), 0⟩ = F.octet_Reader_Num.r3 (max : Int) ((valL l : Nat) : Int) (ofL s) ((i + 1 + b.toNat : Nat) : Int) 0 := by
    rw [hgo]
    cases l with
    | nil => rfl
    | cons c r =>
      rw [numOut_pos _ _ _ _ (fun h => hz r (by rw [h])), thru_inl]
  unfold F.octet_Reader_Num.r3 F.octet_Reader_Err at hgo2
  rw [Option.bind_some] at hgo2
  dsimp only at hgo2
  rw [if_neg (by decide)] at hgo2
  by_cases hm : valL l ≤ max
  · refine .inl ⟨valL l, i + 1 + b.toNat, hm, d2, ?_, by omega, hk, ?_⟩
    · rw [hd, hsl]
      unfold numL
      rw [d1, hll, ofNat_toNat]
      rfl
    · rw [hgo2, if_neg (by simp; omega)]
  · refine .inr ⟨((i + 1 + b.toNat : Nat) : Int), 3, by decide, ?_, ?_⟩
    · rw [hgo2, if_pos (by simp; omega), fail_eq]
      rfl
    · intro n r hn1 hn h
      have := hkey2 hn h
      rw [this, val_dig hn] at hm
      exact hm hn1
theorem raw_rd {s : List UInt8} {i : Nat} (hs : s.length ≤ 1000000000000000000) (hi : i ≤ s.length) (n : Nat) :
    (∃ l, l.length = n ∧ s.drop i = l ++ s.drop (i + n) ∧ i + n ≤ s.length ∧ F.octet_Reader_Raw (n : Int) ⟨ofL s, (i : Int), 0⟩ = some (ofL l, ⟨ofL s, ((i + n : Nat) : Int), 0⟩)) ∨
    (F.octet_Reader_Raw (n : Int) ⟨ofL s, (i : Int), 0⟩ = some (ofL [], ⟨ofL s, (i : Int), 2⟩) ∧ ∀ l r, l.length = n → s.drop i ≠ l ++ r) := by
  by_cases h : i + n ≤ s.length
  · refine .inl ⟨(s.drop i).take n, by rw [List.length_take, List.length_drop]; omega, ?_, h, raw_ok hs h⟩
    rw [← List.drop_drop, List.take_append_drop]
  · refine .inr ⟨raw_short hs hi (by omega), ?_⟩
    intro l r hl he
    have := congrArg List.length he
    rw [List.length_drop, List.length_append] at this
    omega
end Go.Proofs.Ytileogoeoiafkaa
