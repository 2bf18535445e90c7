/- A guard's sectors in plain words. -/
import Derived.Test.YtgbloaophfaaoaaGreatDoorPDiskW
import Derived.Test.YtgbloaophfaaoaaGreatDoorPSec
import Derived.Test.YtgbloaophfaaoaaGreatDoorPNum
import Derived.Test.YtgbloaophfaaoaaGreatDoorGPlaysc
import Derived.Test.YtgbloaophfaaoaaGreatDoorGPlays
namespace Go.Proofs.YtgbloaophfaaoaaGreatDoor
set_option linter.all false
open Go Go.RowKit Go.Fw
set_option maxRecDepth 100000
attribute [local irreducible] FUEL
def nB (b : List UInt8) : Nat := ((b[8]?).getD 0).toNat
def restL (b : List UInt8) : List UInt8 := (b.take 56).drop (9 + nB b)
/-- is a sector told whole -/
def wholeL (b : List UInt8) : Prop := b.take 8 = b.drop 56 ∧ 4294967296 ≤ num64 (b.take 8) ∧ nB b ≤ 47 ∧ ∀ x ∈ restL b, x = 0
instance (b : List UInt8) : Decidable (wholeL b) := inferInstanceAs (Decidable (_ ∧ _))
def noL : List UInt8 := List.replicate 64 0
/-- what a sector is told as -/
def readL (b : List UInt8) : List UInt8 × Int × Int :=
  if b = noL then ([], 0, 7) else if wholeL b then ((b.take (9 + nB b)).drop 9, num64 (b.take 8), 0) else ([], 0, 17)
theorem emp_eq : seqB (ofL []) (ByteArray.mk #[]) = true := seqB_refl _
theorem repB_zero (n : Nat) : repB (ByteArray.mk #[0]) n = ofL (List.replicate n 0) := by
  unfold repB ofL
  congr 2
  induction n with
  | zero => rfl
  | succ n ih => rw [Lib.repeatL, ih]; rfl
theorem rep0 {n : Int} (h0 : 0 ≤ n) (h1 : n ≤ 1000000) : F.strings_Repeat (ByteArray.mk #[0]) n = some (ofL (List.replicate n.toNat 0)) := by
  unfold F.strings_Repeat
  rw [repB_zero, chk_pos (by
    have : (ByteArray.mk #[0]).size = 1 := rfl
    rw [this]
    omega)]
theorem dropW_nil {l : List UInt8} {c : UInt8} : l.dropWhile (· == c) = [] ↔ ∀ x ∈ l, x = c := by
  induction l with
  | nil => simp
  | cons y l ih =>
    by_cases h : y = c
    · rw [List.dropWhile_cons_of_pos (by simpa using h), ih]
      simp [h]
    · rw [List.dropWhile_cons_of_neg (by simpa using h)]
      simp [h]
theorem trim_nil {l : List UInt8} {c : UInt8} : Go.Lib.trimB l c = [] ↔ ∀ x ∈ l, x = c := by
  unfold Lib.trimB Lib.trimLeftB Lib.trimRightB
  rw [dropW_nil]
  constructor
  · intro h
    have h2 : ∀ x ∈ (l.reverse.dropWhile (· == c)), x = c := fun x hx => h x (List.mem_reverse.2 hx)
    have h3 : l.reverse.dropWhile (· == c) = [] := by
      rcases hd : l.reverse.dropWhile (· == c) with _ | ⟨y, t⟩
      · rfl
      · exfalso
        have hy := List.head_dropWhile_not (p := (· == c)) (l := l.reverse) (by rw [hd]; simp)
        have e : (l.reverse.dropWhile (· == c)).head (by rw [hd]; simp) = y := by simp [hd]
        rw [e, h2 y (by rw [hd]; simp)] at hy
        simp at hy
    intro x hx
    exact dropW_nil.1 h3 x (List.mem_reverse.2 hx)
  · intro h
    have h3 : l.reverse.dropWhile (· == c) = [] := dropW_nil.2 fun x hx => h x (List.mem_reverse.1 hx)
    rw [h3]
    simp
theorem trim0 {l : List UInt8} (h : l.length ≤ 1000000) : ∃ r, F.strings_Trim (ofL l) (ByteArray.mk #[0]) = some r ∧ (seqB r (ByteArray.mk #[]) = true ↔ ∀ x ∈ l, x = 0) := by
  unfold F.strings_Trim
  have hc : trimC (ByteArray.mk #[0]) = 0 := rfl
  rw [chk_pos (by
    refine ⟨rfl, ?_, ?_⟩
    · rw [hc]; decide
    · rw [ofL_size]; omega)]
  refine ⟨_, rfl, ?_⟩
  rw [seqB_iff]
  unfold trimB
  rw [hc, ofL_toList, ← trim_nil]
  constructor
  · intro h
    have := congrArg (fun s : ByteArray => s.data.toList) h
    simpa using this
  · intro h; rw [h]
theorem gread_not {d : disk_Disk} (h : 1 ≤ d.sure_.length) {i : Int} (hw : whyB d i ≠ 0) : F.guard_Read i d = some (e0, 0, whyB d i) := by
  unfold F.guard_Read
  rw [read_eq h, if_neg hw, Option.bind_some, if_pos (by simpa using hw)]
  rfl
theorem bt8 {b : List UInt8} : IntKind.i64.wrap (bt (ofL b) 8) = (nB b : Int) := by
  rw [bt_ofL]
  have : ((b[(8 : Int).toNat]?).getD 0).toNat < 256 := u8_lt _
  rw [w64 (by omega) (by omega)]
  rfl
theorem nB_lt (b : List UInt8) : nB b < 256 := u8_lt _
theorem gread_eq {d : disk_Disk} (h : 1 ≤ d.sure_.length) {i : Int} (hw : whyB d i = 0) {b : List UInt8} (hc : curB d i = ofL b) (hb : b.length = 64) : F.guard_Read i d = some (ofL (readL b).1, (readL b).2.1, (readL b).2.2) := by
  unfold F.guard_Read
  rw [read_eq h, if_pos hw, Option.bind_some, hc, if_neg (by simp), rep0 (by decide) (by decide), Option.bind_some]
  have hno : ofL (List.replicate (Int.toNat 64) 0) = ofL noL := rfl
  dsimp only
  rw [hno]
  unfold readL
  by_cases hn : b = noL
  · rw [if_pos hn, hn, if_pos (seqB_refl _)]
    rfl
  rw [if_neg hn, if_neg (fun e => hn (ofL_inj (seqB_iff.1 e)))]
  have hlt := nB_lt b
  rw [ofL_size, hb, chk_pos (by decide), chk_pos (by decide), chk_pos (by decide), ofL_extract, ofL_extract, bt8]
  have e1 : (b.take (8 : Int).toNat).drop (0 : Int).toNat = b.take 8 := rfl
  have e2 : (b.take (((64 : Nat) : Int)).toNat).drop (56 : Int).toNat = b.drop 56 := by
    rw [List.take_of_length_le (by rw [hb]; decide)]; rfl
  rw [e1, e2, number_eq (s := b.take 8) (by rw [List.length_take]; omega), Option.bind_some]
  have hT : b.take 8 = b.drop 56 ↔ seqB (ofL (b.take 8)) (ofL (b.drop 56)) = true := by
    rw [seqB_iff]; exact ⟨fun e => by rw [e], fun e => ofL_inj e⟩
  by_cases h1 : b.take 8 = b.drop 56
  · rw [hT.1 h1, if_neg (by decide)]
    by_cases h2 : 4294967296 ≤ num64 (b.take 8)
    · rw [if_neg (by simp; omega)]
      by_cases h3 : nB b ≤ 47
      · rw [if_neg (by simp; omega), w64 (by omega) (by omega), chk_pos (by omega), ofL_extract]
        have e3 : (b.take (56 : Int).toNat).drop ((9 : Int) + (nB b : Int)).toNat = restL b := by
          unfold restL
          have : ((9 : Int) + (nB b : Int)).toNat = 9 + nB b := by omega
          rw [this]
          rfl
        rw [e3]
        obtain ⟨r, er, hr⟩ := trim0 (l := restL b) (by unfold restL; rw [List.length_drop, List.length_take]; omega)
        rw [er, Option.bind_some]
        by_cases h4 : ∀ x ∈ restL b, x = 0
        · rw [hr.2 h4, if_neg (by decide), if_pos (c := wholeL b) ⟨h1, h2, h3, h4⟩, thru_inl]
          unfold F.guard_Read.r1
          dsimp only
          rw [bt8, ofL_size, hb, w64 (by omega) (by omega), chk_pos (by omega), ofL_extract]
          have : ((9 : Int) + (nB b : Int)).toNat = 9 + nB b := by omega
          rw [this]
          rfl
        · have : seqB r (ByteArray.mk #[]) = false := by
            cases hs : seqB r (ByteArray.mk #[]) with
            | false => rfl
            | true => exact absurd (hr.1 hs) h4
          rw [this, if_pos (by decide), thru_inr, if_neg (c := wholeL b) (fun e => h4 e.2.2.2)]
          rfl
      · rw [if_pos (by simp; omega), thru_inr, if_neg (c := wholeL b) (fun e => h3 e.2.2.1)]
        rfl
    · rw [if_pos (by simp; omega), thru_inr, if_neg (c := wholeL b) (fun e => h2 e.2.1)]
      rfl
  · have : seqB (ofL (b.take 8)) (ofL (b.drop 56)) = false := by
      cases hs : seqB (ofL (b.take 8)) (ofL (b.drop 56)) with
      | false => rfl
      | true => exact absurd (hT.2 hs) h1
    rw [this, if_pos (by decide), thru_inr, if_neg (c := wholeL b) (fun e => h1 e.1)]
    rfl
/-! ### what is put -/
def stampG (g : guard_Guard) : Int := ior .i64 (IntKind.i64.wrap (g.boot_ * 2 ^ 32)) (IntKind.i64.wrap (g.n_ + 1))
/-- a guard as it may be -/
structure GOk (g : guard_Guard) : Prop where
  b1 : 1 ≤ g.boot_
  b2 : g.boot_ ≤ 2147483647
  n0 : 0 ≤ g.n_
  n1 : g.n_ < 4294967295
theorem stamp_eq {g : guard_Guard} (h : GOk g) : stampG g = g.boot_ * 4294967296 + (g.n_ + 1) := by
  obtain ⟨h1, h2, h3, h4⟩ := h
  unfold stampG
  rw [show (2 : Int) ^ 32 = 4294967296 from rfl, w64 (by omega) (by omega), w64 (by omega) (by omega)]
  unfold ior
  rw [BitVec.toNat_or]
  have e1 : (BitVec.ofInt IntKind.i64.bits (g.boot_ * 4294967296)).toNat = g.boot_.toNat * 4294967296 := by
    rw [BitVec.toNat_ofInt]
    have : ((2 ^ IntKind.i64.bits : Nat) : Int) = 18446744073709551616 := rfl
    rw [this]
    omega
  have e2 : (BitVec.ofInt IntKind.i64.bits (g.n_ + 1)).toNat = g.n_.toNat + 1 := by
    rw [BitVec.toNat_ofInt]
    have : ((2 ^ IntKind.i64.bits : Nat) : Int) = 18446744073709551616 := rfl
    rw [this]
    omega
  rw [e1, e2, show (4294967296 : Nat) = 2 ^ 32 from rfl, Nat.mul_comm, ← Nat.two_pow_add_eq_or_of_lt (by omega)]
  have : (((2 ^ 32 * g.boot_.toNat + (g.n_.toNat + 1) : Nat) : Int)) = g.boot_ * 4294967296 + (g.n_ + 1) := by omega
  rw [this, w64 (by omega) (by omega)]
def upG (g : guard_Guard) : guard_Guard := ⟨g.boot_, g.n_ + 1⟩
theorem bstr_one (n : Nat) (h : n < 256) : bstr ([IntKind.u8.wrap (n : Int)] : List Int) = ofL [UInt8.ofNat n] := by
  have : IntKind.u8.wrap (n : Int) = ((UInt8.ofNat n).toNat : Int) := by
    simp [IntKind.wrap, IntKind.bits, IntKind.signed]
  rw [this]
  exact bstr_ns [UInt8.ofNat n]
theorem gput_eq {g : guard_Guard} (hg : GOk g) {d : disk_Disk} (hf : FOk d.fall_) (h : DOk d) (i : Int) (s : List UInt8) (hs : s.length ≤ 1000000) :
    F.guard_Guard_Put i (ofL s) g d = some (if 47 < s.length then (0, 3, g, d) else if whyB d i ≠ 0 then (0, whyB d i, g, d) else if due d then (0, 8, g, dropD d.fall_ d) else (stampG g, 0, upG g, writeD d i (ofL (secL (stampG g) s)))) := by
  unfold F.guard_Guard_Put F.guard_Guard_none
  rw [Option.bind_some, ofL_size]
  by_cases h1 : 47 < s.length
  · rw [if_pos (by simp; omega), if_pos h1]
  rw [if_neg (by simp; omega), if_neg h1, if_neg (by have := hg.n1; simp; omega)]
  show Option.bind (F.guard_Eight (stampG g)) _ = _
  rw [geight_eq, Option.bind_some, bstr_one _ (by omega)]
  simp only [ofL_append]
  rw [chk_pos (by rw [ofL_size, ofL_size, fixI_len]; simp), chk_pos (by rw [ofL_size, List.length_append, fixI_len]; simp; omega), w64 (by omega) (by omega), rep0 (by omega) (by omega), Option.bind_some]
  simp only [ofL_append]
  have e : ((47 : Int) - (s.length : Int)).toNat = 47 - s.length := by omega
  rw [e]
  have hl : (fixI 8 (stampG g) ++ [UInt8.ofNat s.length] ++ s ++ List.replicate (47 - s.length) 0 ++ fixI 8 (stampG g)) = secL (stampG g) s := by
    unfold secL
    simp
  rw [chk_pos (by rw [ofL_size, ofL_size, List.length_append, List.length_append, List.length_replicate, fixI_len]; simp; omega), chk_pos (by rw [ofL_size, ofL_size, List.length_append, List.length_append, List.length_append, List.length_replicate, fixI_len]; simp; omega), hl, write_eq hf h, Option.bind_some]
  have h64 : (ofL (secL (stampG g) s)).size = 64 := by rw [ofL_size, secL_len (by omega)]
  by_cases hw : whyB d i = 0
  · rw [if_neg (c := whyB d i ≠ 0) (fun e => e hw), if_neg (c := whyB d i ≠ 0) (fun e => e hw), if_neg (c := (ofL (secL (stampG g) s)).size ≠ 64) (fun e => e h64)]
    by_cases hd : due d
    · rw [if_pos hd, if_pos hd]
      rfl
    · rw [if_neg hd, if_neg hd]
      dsimp only
      rw [if_neg (by decide)]
      show some (stampG g, 0, (⟨g.boot_, IntKind.i64.wrap (g.n_ + 1)⟩ : guard_Guard), _) = _
      rw [w64 (n := g.n_ + 1) (by have := hg.n0; omega) (by have := hg.n1; omega)]
      rfl
  · rw [if_pos (c := whyB d i ≠ 0) hw, if_pos (c := whyB d i ≠ 0) hw]
    dsimp only
    rw [if_pos (by simpa using hw)]
theorem cur_write (d : disk_Disk) (i : Int) (s : ByteArray) (j : Int) : curB (writeD d i s) j = if j = i then s else curB d j := by
  unfold curB writeD
  dsimp only
  rw [mget_mset]
  by_cases e : j = i
  · rw [if_pos e, if_pos e]
  · rw [if_neg e, if_neg e]
theorem num_of_fix {a : Int} (h0 : 0 ≤ a) (h1 : a ≤ 9223372036854775807) : num64 (fixI 8 a) = a := num_fix (by omega) h1
theorem nB_sec {a : Int} {s : List UInt8} (h : s.length ≤ 47) : nB (secL a s) = s.length := by
  unfold nB secL
  rw [List.getElem?_append_right (by rw [fixI_len]; decide), fixI_len]
  simp
  omega
theorem sec_whole {a : Int} {s : List UInt8} (h0 : 4294967296 ≤ a) (h1 : a ≤ 9223372036854775807) (h : s.length ≤ 47) : wholeL (secL a s) := by
  refine ⟨by rw [sec_head, sec_tail h], by rw [sec_head, num_of_fix (by omega) h1]; exact h0, by rw [nB_sec h]; exact h, ?_⟩
  intro x hx
  unfold restL at hx
  rw [nB_sec h] at hx
  have e : (secL a s).take 56 = fixI 8 a ++ (UInt8.ofNat s.length :: (s ++ List.replicate (47 - s.length) 0)) := by
    unfold secL
    rw [show fixI 8 a ++ (UInt8.ofNat s.length :: (s ++ (List.replicate (47 - s.length) 0 ++ fixI 8 a))) = (fixI 8 a ++ (UInt8.ofNat s.length :: (s ++ List.replicate (47 - s.length) 0))) ++ fixI 8 a by simp, List.take_append_of_le_length (by simp [fixI_len]; omega), List.take_of_length_le (by simp [fixI_len]; omega)]
  rw [e, show fixI 8 a ++ (UInt8.ofNat s.length :: (s ++ List.replicate (47 - s.length) 0)) = (fixI 8 a ++ UInt8.ofNat s.length :: s) ++ List.replicate (47 - s.length) 0 by simp, List.drop_append_of_le_length (by simp [fixI_len]; omega), List.drop_of_length_le (by simp [fixI_len]; omega), List.nil_append] at hx
  exact (List.mem_replicate.1 hx).2
theorem sec_not_no {a : Int} {s : List UInt8} (h0 : 4294967296 ≤ a) (h1 : a ≤ 9223372036854775807) : secL a s ≠ noL := by
  intro e
  have e1 := congrArg (List.take 8) e
  rw [sec_head] at e1
  have e2 := num_of_fix (by omega) h1
  rw [e1] at e2
  have : num64 (List.take 8 noL) = 0 := rfl
  omega
theorem sec_read {a : Int} {s : List UInt8} (h0 : 4294967296 ≤ a) (h1 : a ≤ 9223372036854775807) (h : s.length ≤ 47) : readL (secL a s) = (s, a, 0) := by
  unfold readL
  rw [if_neg (sec_not_no h0 h1), if_pos (sec_whole h0 h1 h), nB_sec h, sec_head, num_of_fix (by omega) h1]
  congr 1
  unfold secL
  rw [show fixI 8 a ++ (UInt8.ofNat s.length :: (s ++ (List.replicate (47 - s.length) 0 ++ fixI 8 a))) = (fixI 8 a ++ [UInt8.ofNat s.length] ++ s) ++ (List.replicate (47 - s.length) 0 ++ fixI 8 a) by simp, List.take_append_of_le_length (by simp [fixI_len]; omega), List.take_of_length_le (by simp [fixI_len]; omega), List.append_assoc, ← List.append_assoc, List.drop_append_of_le_length (by simp [fixI_len]), List.drop_of_length_le (by simp [fixI_len]), List.nil_append]
theorem no_read : readL noL = ([], 0, 7) := by unfold readL; rw [if_pos rfl]
theorem no_sec : secL 0 [] = noL := by decide
theorem readL_len (b : List UInt8) (hb : b.length = 64) : (readL b).1.length ≤ 47 := by
  unfold readL
  split
  · decide
  · split
    · rename_i h
      have := h.2.2.1
      dsimp only
      rw [List.length_drop, List.length_take]
      omega
    · decide
/-- a sector that is not whole is told to be torn -/
theorem torn_read {b : List UInt8} (h : b.take 8 ≠ b.drop 56) : readL b = ([], 0, 17) := by
  unfold readL
  rw [if_neg (fun e => h (by rw [e]; rfl)), if_neg (fun e => h e.1)]
/-- what comes of a torn writing: all of the old, all of the new, or it is told -/
theorem mix_read {a b : Int} {s t : List UInt8} {n : Nat} (hs : s.length ≤ 47) (ht : t.length ≤ 47) (ha : 0 ≤ a) (ha1 : a ≤ 9223372036854775807) (hb : 0 ≤ b) (hb1 : b ≤ 9223372036854775807) (hab : a ≠ b) (hn : n ≤ 64) :
    mixL n (secL a s) (secL b t) = secL b t ∨ mixL n (secL a s) (secL b t) = secL a s ∨ readL (mixL n (secL a s) (secL b t)) = ([], 0, 17) := by
  by_cases hm : (mixL n (secL a s) (secL b t)).take 8 = (mixL n (secL a s) (secL b t)).drop 56
  · rcases mix_whole (secL_len hs) (secL_len ht) (by rw [sec_head, sec_tail hs]) (by rw [sec_head, sec_tail ht]) (by rw [sec_head, sec_head]; exact fun e => hab (fix_inj ha (by omega) hb (by omega) e)) hn hm with h | h
    · exact .inl h
    · exact .inr (.inl h)
  · exact .inr (.inr (torn_read hm))
end Go.Proofs.YtgbloaophfaaoaaGreatDoor
