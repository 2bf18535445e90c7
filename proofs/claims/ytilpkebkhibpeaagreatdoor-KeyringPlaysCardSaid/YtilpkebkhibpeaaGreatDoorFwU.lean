/- Plain words, more: bytes as numbers, parts of texts. -/
import Derived.Test.YtilpkebkhibpeaaGreatDoorFwS
import Derived.Test.YtilpkebkhibpeaaGreatDoorFwN
namespace Go.Fw
set_option linter.all false
open Go Go.RowKit

def ns (l : List UInt8) : List Int := l.map fun b => (b.toNat : Int)
theorem ns_length (l : List UInt8) : (ns l).length = l.length := by simp [ns]
theorem ns_get {l : List UInt8} {i : Nat} {b : UInt8} (h : l[i]? = some b) : (ns l)[i]? = some (b.toNat : Int) := by simp [ns, h]
theorem ns_set (l : List UInt8) (i : Nat) (b : UInt8) : (ns l).set i (b.toNat : Int) = ns (l.set i b) := by simp [ns, List.map_set]
theorem bstr_ns (l : List UInt8) : bstr (ns l) = ofL l := by
  rw [bstr_ofL]
  congr 1
  unfold ns
  rw [List.map_map]
  conv => rhs; rw [← List.map_id l]
  congr 1
  funext b
  simp
theorem sbytes_ns (s : ByteArray) : sbytes s = ns s.data.toList := rfl
theorem u8w (n : Nat) : IntKind.u8.wrap (n : Int) = ((UInt8.ofNat n).toNat : Int) := by
  simp [IntKind.wrap, IntKind.bits, IntKind.signed]
theorem extract_size {s : ByteArray} {a b : Nat} (h : b ≤ s.size) : (s.extract a b).size = b - a := by
  rw [ofL_surj s, ofL_extract, ofL_size, List.length_drop, List.length_take, size_ofL']
  omega
theorem u8_lt (b : UInt8) : b.toNat < 256 := UInt8.toNat_lt b
theorem ofNat_toNat (b : UInt8) : UInt8.ofNat b.toNat = b := by simp

/-- a list of bytes as a number, the highest first -/
def valL (l : List UInt8) : Nat := l.foldl (fun n b => n * 256 + b.toNat) 0
theorem valL_snoc (l : List UInt8) (b : UInt8) : valL (l ++ [b]) = valL l * 256 + b.toNat := by simp [valL]
theorem valL_lt (l : List UInt8) : valL l < 256 ^ l.length := by
  have : ∀ (k : Nat) (l : List UInt8), l.length = k → valL l < 256 ^ k := by
    intro k
    induction k with
    | zero => intro l h; rw [List.length_eq_zero_iff.1 h]; decide
    | succ k ih =>
      intro l h
      rcases List.eq_nil_or_concat l with rfl | ⟨L, b, rfl⟩
      · simp at h
      · have hL : L.length = k := by simpa using h
        have h1 := ih L hL
        have := u8_lt b
        rw [List.concat_eq_append, valL_snoc, Nat.pow_succ]
        omega
  exact this l.length l rfl
/-- a number's bytes, the highest first, as many as it needs -/
def digG : Nat → Nat → List UInt8
  | 0, _ => []
  | f + 1, n => if n = 0 then [] else digG f (n / 256) ++ [UInt8.ofNat n]
theorem val_digG : ∀ (f n : Nat), n < 256 ^ f → valL (digG f n) = n
  | 0, n, h => by simp at h; subst h; rfl
  | f + 1, n, h => by
    unfold digG
    by_cases h0 : n = 0
    · rw [if_pos h0, h0]; rfl
    · rw [if_neg h0, valL_snoc, val_digG f (n / 256) (by rw [Nat.pow_succ] at h; omega)]
      simp; omega
theorem digG_len : ∀ (f n k : Nat), n < 256 ^ k → (digG f n).length ≤ k
  | 0, _, _, _ => Nat.zero_le _
  | f + 1, n, k, h => by
    unfold digG
    by_cases h0 : n = 0
    · rw [if_pos h0]; exact Nat.zero_le _
    · rw [if_neg h0, List.length_append, List.length_singleton]
      cases k with
      | zero => simp at h; omega
      | succ k =>
        have := digG_len f (n / 256) k (by rw [Nat.pow_succ] at h; omega)
        omega
theorem valL_zero (l : List UInt8) : valL (0 :: l) = valL l := by simp [valL]
theorem valL_pos : ∀ (k : Nat) (l : List UInt8) (b : UInt8), l.length = k → b ≠ 0 → 0 < valL (b :: l) := by
  intro k
  induction k with
  | zero =>
    intro l b h hb
    rw [List.length_eq_zero_iff.1 h]
    have : b.toNat ≠ 0 := fun h => hb (UInt8.toNat_inj.1 h)
    show 0 < 0 * 256 + b.toNat
    omega
  | succ k ih =>
    intro l b h hb
    rcases List.eq_nil_or_concat l with rfl | ⟨L, c, rfl⟩
    · simp at h
    · have := ih L b (by simpa using h) hb
      rw [List.concat_eq_append, ← List.cons_append, valL_snoc]
      omega
theorem digG_head {f n : Nat} {r : List UInt8} (h : n < 256 ^ f) : digG f n ≠ 0 :: r := by
  intro e
  have h1 := val_digG f n h
  rw [e, valL_zero] at h1
  have h2 := digG_len f n r.length (by rw [← h1]; exact valL_lt r)
  rw [e] at h2
  simp at h2
  omega
theorem dig_val : ∀ (f : Nat) (l : List UInt8), l.length ≤ f → (∀ r, l ≠ 0 :: r) → digG f (valL l) = l
  | 0, l, h, _ => by rw [List.length_eq_zero_iff.1 (Nat.le_zero.1 h)]; rfl
  | f + 1, l, h, hz => by
    rcases List.eq_nil_or_concat l with rfl | ⟨L, b, rfl⟩
    · rfl
    · rw [List.concat_eq_append] at hz h ⊢
      have hb := u8_lt b
      have hne : valL (L ++ [b]) ≠ 0 := by
        cases L with
        | nil =>
          have : b ≠ 0 := fun e => hz [] (by rw [e]; rfl)
          have := valL_pos 0 [] b rfl this
          rw [List.nil_append]; omega
        | cons a L =>
          have : a ≠ 0 := fun e => hz (L ++ [b]) (by rw [e]; rfl)
          have := valL_pos _ (L ++ [b]) a rfl this
          rw [List.cons_append]; omega
      unfold digG
      rw [if_neg hne, valL_snoc]
      have e1 : (valL L * 256 + b.toNat) / 256 = valL L := by omega
      have e2 : UInt8.ofNat (valL L * 256 + b.toNat) = b := by
        apply UInt8.toNat_inj.1
        simp
      rw [e1, e2, dig_val f L (by simp at h; omega) (fun r e => hz (r ++ [b]) (by rw [e]; rfl))]
def dig (n : Nat) : List UInt8 := digG 8 n
theorem val_dig {n : Nat} (h : n < 72057594037927936) : valL (dig n) = n := val_digG 8 n (Nat.lt_trans h (by decide))
theorem dig_len {n : Nat} (h : n < 72057594037927936) : (dig n).length ≤ 7 := digG_len 8 n 7 (Nat.lt_of_lt_of_le h (by decide))
theorem dig_of {l : List UInt8} (h : l.length ≤ 7) (hz : ∀ r, l ≠ 0 :: r) : dig (valL l) = l ∧ valL l < 72057594037927936 := by
  refine ⟨dig_val 8 l (by omega) hz, ?_⟩
  have h1 := valL_lt l
  have h2 : 256 ^ l.length ≤ 256 ^ 7 := Nat.pow_le_pow_right (by decide) h
  exact Nat.lt_of_lt_of_le h1 (Nat.le_trans h2 (by decide))
theorem dig_head {n : Nat} {r : List UInt8} (h : n < 72057594037927936) : dig n ≠ 0 :: r := digG_head (Nat.lt_trans h (by decide))
/-- a number as bytes -/
def numL (n : Nat) : List UInt8 := UInt8.ofNat (dig n).length :: dig n
theorem numL_len {n : Nat} (h : n < 72057594037927936) : 1 ≤ (numL n).length ∧ (numL n).length ≤ 8 := by
  unfold numL
  rw [List.length_cons]
  have := dig_len h
  omega
theorem numL_cut {n m : Nat} (hn : n < 72057594037927936) (hm : m < 72057594037927936) {r s : List UInt8} (h : numL n ++ r = numL m ++ s) : n = m ∧ r = s := by
  unfold numL at h
  simp only [List.cons_append, List.cons.injEq] at h
  obtain ⟨h1, h2⟩ := h
  have l1 := dig_len hn
  have l2 := dig_len hm
  have hl : (dig n).length = (dig m).length := by
    have := congrArg UInt8.toNat h1
    simp at this; omega
  obtain ⟨h3, h4⟩ := List.append_inj h2 hl
  have := congrArg valL h3
  rw [val_dig hn, val_dig hm] at this
  exact ⟨this, h4⟩
theorem or256 (t b : Nat) (hb : b < 256) : t * 256 ||| b = t * 256 + b := by
  have := Nat.two_pow_add_eq_or_of_lt (i := 8) hb t
  rw [show 2 ^ 8 = 256 from rfl] at this
  rw [Nat.mul_comm, ← this]
end Go.Fw
