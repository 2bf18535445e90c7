/- Bits of numbers; sha256 in plain numbers. -/
import Derived.Test.YtilpkebkhibpeaaGreatDoorFwM
namespace Go.Fw
set_option linter.all false
open Go Go.RowKit

theorem ior32 {a b : Nat} (ha : a < 4294967296) (hb : b < 4294967296) : ior .u32 (a : Int) (b : Int) = ((a ||| b : Nat) : Int) := by
  have h : (BitVec.ofInt IntKind.u32.bits (a : Int) ||| BitVec.ofInt IntKind.u32.bits (b : Int)).toNat = a ||| b := by
    rw [BitVec.ofInt_natCast, BitVec.ofInt_natCast, BitVec.toNat_or, BitVec.toNat_ofNat, BitVec.toNat_ofNat]
    show a % 4294967296 ||| b % 4294967296 = _
    rw [Nat.mod_eq_of_lt ha, Nat.mod_eq_of_lt hb]
  unfold ior
  rw [h]
  have := @Nat.or_lt_two_pow a b 32 ha hb
  exact wu32 (by omega) (by omega)
theorem iand32 {a b : Nat} (ha : a < 4294967296) (hb : b < 4294967296) : iand .u32 (a : Int) (b : Int) = ((a &&& b : Nat) : Int) := by
  have h : (BitVec.ofInt IntKind.u32.bits (a : Int) &&& BitVec.ofInt IntKind.u32.bits (b : Int)).toNat = a &&& b := by
    rw [BitVec.ofInt_natCast, BitVec.ofInt_natCast, BitVec.toNat_and, BitVec.toNat_ofNat, BitVec.toNat_ofNat]
    show a % 4294967296 &&& b % 4294967296 = _
    rw [Nat.mod_eq_of_lt ha, Nat.mod_eq_of_lt hb]
  unfold iand
  rw [h]
  have := @Nat.and_lt_two_pow a b 32 hb
  exact wu32 (by omega) (by omega)
theorem ixor32 {a b : Nat} (ha : a < 4294967296) (hb : b < 4294967296) : ixor .u32 (a : Int) (b : Int) = ((a ^^^ b : Nat) : Int) := by
  have h : (BitVec.ofInt IntKind.u32.bits (a : Int) ^^^ BitVec.ofInt IntKind.u32.bits (b : Int)).toNat = a ^^^ b := by
    rw [BitVec.ofInt_natCast, BitVec.ofInt_natCast, BitVec.toNat_xor, BitVec.toNat_ofNat, BitVec.toNat_ofNat]
    show a % 4294967296 ^^^ b % 4294967296 = _
    rw [Nat.mod_eq_of_lt ha, Nat.mod_eq_of_lt hb]
  unfold ixor
  rw [h]
  have := @Nat.xor_lt_two_pow a b 32 ha hb
  exact wu32 (by omega) (by omega)
theorem ior64 {a b : Nat} (ha : a < 9223372036854775808) (hb : b < 9223372036854775808) : ior .i64 (a : Int) (b : Int) = ((a ||| b : Nat) : Int) := by
  have h : (BitVec.ofInt IntKind.i64.bits (a : Int) ||| BitVec.ofInt IntKind.i64.bits (b : Int)).toNat = a ||| b := by
    rw [BitVec.ofInt_natCast, BitVec.ofInt_natCast, BitVec.toNat_or, BitVec.toNat_ofNat, BitVec.toNat_ofNat]
    show a % 18446744073709551616 ||| b % 18446744073709551616 = _
    rw [Nat.mod_eq_of_lt (by omega), Nat.mod_eq_of_lt (by omega)]
  unfold ior
  rw [h]
  have := @Nat.or_lt_two_pow a b 63 ha hb
  exact w64 (by omega) (by omega)
theorem iand64 {a b : Nat} (ha : a < 9223372036854775808) (hb : b < 9223372036854775808) : iand .i64 (a : Int) (b : Int) = ((a &&& b : Nat) : Int) := by
  have h : (BitVec.ofInt IntKind.i64.bits (a : Int) &&& BitVec.ofInt IntKind.i64.bits (b : Int)).toNat = a &&& b := by
    rw [BitVec.ofInt_natCast, BitVec.ofInt_natCast, BitVec.toNat_and, BitVec.toNat_ofNat, BitVec.toNat_ofNat]
    show a % 18446744073709551616 &&& b % 18446744073709551616 = _
    rw [Nat.mod_eq_of_lt (by omega), Nat.mod_eq_of_lt (by omega)]
  unfold iand
  rw [h]
  have := @Nat.and_lt_two_pow a b 63 hb
  exact w64 (by omega) (by omega)
theorem ixor64 {a b : Nat} (ha : a < 9223372036854775808) (hb : b < 9223372036854775808) : ixor .i64 (a : Int) (b : Int) = ((a ^^^ b : Nat) : Int) := by
  have h : (BitVec.ofInt IntKind.i64.bits (a : Int) ^^^ BitVec.ofInt IntKind.i64.bits (b : Int)).toNat = a ^^^ b := by
    rw [BitVec.ofInt_natCast, BitVec.ofInt_natCast, BitVec.toNat_xor, BitVec.toNat_ofNat, BitVec.toNat_ofNat]
    show a % 18446744073709551616 ^^^ b % 18446744073709551616 = _
    rw [Nat.mod_eq_of_lt (by omega), Nat.mod_eq_of_lt (by omega)]
  unfold ixor
  rw [h]
  have := @Nat.xor_lt_two_pow a b 63 ha hb
  exact w64 (by omega) (by omega)
theorem u32_nat (n : Nat) : IntKind.u32.wrap (n : Int) = ((n % 4294967296 : Nat) : Int) := by
  simp [IntKind.wrap, IntKind.bits, IntKind.signed]
theorem fdiv_nat (n d : Nat) : ((n : Int)).fdiv (d : Int) = ((n / d : Nat) : Int) := by
  rw [Int.fdiv_eq_ediv_of_nonneg _ (by omega)]; rfl
theorem fdiv_pow (n d : Nat) : ((n : Int)).fdiv ((2 : Int) ^ d) = ((n / 2 ^ d : Nat) : Int) := by
  have : ((2 : Int) ^ d) = ((2 ^ d : Nat) : Int) := by simp
  rw [this, fdiv_nat]
theorem mul_pow (n d : Nat) : (n : Int) * (2 : Int) ^ d = ((n * 2 ^ d : Nat) : Int) := by simp

/-! ### sha256 -/
def B32 (x : Nat) : Prop := x < 4294967296
def rot (n x : Nat) : Nat := (x * 2 ^ (32 - n)) % 4294967296 ||| x / 2 ^ n
theorem or32 {a b : Nat} (ha : a < 4294967296) (hb : b < 4294967296) : a ||| b < 4294967296 := @Nat.or_lt_two_pow a b 32 ha hb
theorem xor32 {a b : Nat} (ha : a < 4294967296) (hb : b < 4294967296) : a ^^^ b < 4294967296 := @Nat.xor_lt_two_pow a b 32 ha hb
theorem and32 {a b : Nat} (hb : b < 4294967296) : a &&& b < 4294967296 := @Nat.and_lt_two_pow a b 32 hb
theorem div_lt32 {a : Nat} (d : Nat) (ha : a < 4294967296) : a / 2 ^ d < 4294967296 := Nat.lt_of_le_of_lt (Nat.div_le_self _ _) ha
theorem rot_lt {n x : Nat} (hx : x < 4294967296) : rot n x < 4294967296 := or32 (Nat.mod_lt _ (by decide)) (div_lt32 _ hx)

def sgA (x : Nat) : Nat := rot 7 x ^^^ rot 18 x ^^^ x / 2 ^ 3
def sgB (x : Nat) : Nat := rot 17 x ^^^ rot 19 x ^^^ x / 2 ^ 10
def sgE (x : Nat) : Nat := rot 6 x ^^^ rot 11 x ^^^ rot 25 x
def sgF (x : Nat) : Nat := rot 2 x ^^^ rot 13 x ^^^ rot 22 x
theorem sgA_lt {x : Nat} (h : x < 4294967296) : sgA x < 4294967296 := xor32 (xor32 (rot_lt h) (rot_lt h)) (div_lt32 _ h)
theorem sgB_lt {x : Nat} (h : x < 4294967296) : sgB x < 4294967296 := xor32 (xor32 (rot_lt h) (rot_lt h)) (div_lt32 _ h)
theorem sgE_lt {x : Nat} (h : x < 4294967296) : sgE x < 4294967296 := xor32 (xor32 (rot_lt h) (rot_lt h)) (rot_lt h)
theorem sgF_lt {x : Nat} (h : x < 4294967296) : sgF x < 4294967296 := xor32 (xor32 (rot_lt h) (rot_lt h)) (rot_lt h)
def shCh (e f g : Nat) : Nat := (e &&& f) ^^^ ((4294967295 ^^^ e) &&& g)
def shMaj (a b c : Nat) : Nat := (a &&& b) ^^^ (a &&& c) ^^^ (b &&& c)

def byt (l : List UInt8) (i : Nat) : Nat := ((l[i]?).getD 0).toNat
theorem byt_lt (l : List UInt8) (i : Nat) : byt l i < 256 := UInt8.toNat_lt _
def w4 (l : List UInt8) (i : Nat) : Nat := ((byt l (4 * i) * 2 ^ 24 ||| byt l (4 * i + 1) * 2 ^ 16) ||| byt l (4 * i + 2) * 2 ^ 8) ||| byt l (4 * i + 3)
theorem w4_lt (l : List UInt8) (i : Nat) : w4 l i < 4294967296 := by
  have h := byt_lt l
  refine or32 (or32 (or32 ?_ ?_) ?_) ?_
  · have := h (4 * i); omega
  · have := h (4 * i + 1); omega
  · have := h (4 * i + 2); omega
  · have := h (4 * i + 3); omega
/-- the next word -/
def wN (w : List Nat) (i : Nat) : Nat := (w.getD (i - 16) 0 + sgA (w.getD (i - 15) 0) + w.getD (i - 7) 0 + sgB (w.getD (i - 2) 0)) % 4294967296
/-- the first so many words of a block -/
def wL (l : List UInt8) : Nat → List Nat
  | 0 => []
  | i + 1 => wL l i ++ [if i < 16 then w4 l i else wN (wL l i) i]
theorem wL_length (l : List UInt8) (i : Nat) : (wL l i).length = i := by
  induction i with
  | zero => rfl
  | succ i ih => simp [wL, ih]
theorem wL_lt (l : List UInt8) (i : Nat) : ∀ x ∈ wL l i, x < 4294967296 := by
  induction i with
  | zero => intro x hx; cases hx
  | succ i ih =>
    intro x hx
    rcases List.mem_append.1 hx with h | h
    · exact ih x h
    · have := List.mem_singleton.1 h
      subst this
      split
      · exact w4_lt _ _
      · exact Nat.mod_lt _ (by decide)
theorem getD_lt {w : List Nat} (h : ∀ x ∈ w, x < 4294967296) (i : Nat) : w.getD i 0 < 4294967296 := by
  rw [List.getD_eq_getElem?_getD]
  cases hx : w[i]? with
  | none => decide
  | some x => exact h x (List.mem_of_getElem? hx)
def shK : List Nat := [1116352408, 1899447441, 3049323471, 3921009573, 961987163, 1508970993, 2453635748, 2870763221, 3624381080, 310598401, 607225278, 1426881987, 1925078388, 2162078206, 2614888103, 3248222580, 3835390401, 4022224774, 264347078, 604807628, 770255983, 1249150122, 1555081692, 1996064986, 2554220882, 2821834349, 2952996808, 3210313671, 3336571891, 3584528711, 113926993, 338241895, 666307205, 773529912, 1294757372, 1396182291, 1695183700, 1986661051, 2177026350, 2456956037, 2730485921, 2820302411, 3259730800, 3345764771, 3516065817, 3600352804, 4094571909, 275423344, 430227734, 506948616, 659060556, 883997877, 958139571, 1322822218, 1537002063, 1747873779, 1955562222, 2024104815, 2227730452, 2361852424, 2428436474, 2756734187, 3204031479, 3329325298]
/-- eight words -/
structure H8 where
  a : Nat
  b : Nat
  c : Nat
  d : Nat
  e : Nat
  f : Nat
  g : Nat
  h : Nat
structure H8.ok (x : H8) : Prop where
  a : x.a < 4294967296
  b : x.b < 4294967296
  c : x.c < 4294967296
  d : x.d < 4294967296
  e : x.e < 4294967296
  f : x.f < 4294967296
  g : x.g < 4294967296
  h : x.h < 4294967296
def shH : H8 := ⟨1779033703, 3144134277, 1013904242, 2773480762, 1359893119, 2600822924, 528734635, 1541459225⟩
theorem shH_ok : shH.ok := ⟨by decide, by decide, by decide, by decide, by decide, by decide, by decide, by decide⟩
/-- one round -/
def shR (w : List Nat) (i : Nat) (v : H8) : H8 :=
  let t := v.h + sgE v.e + shCh v.e v.f v.g + shK.getD i 0 + w.getD i 0
  ⟨(t + (sgF v.a + shMaj v.a v.b v.c)) % 4294967296, v.a, v.b, v.c, (v.d + t) % 4294967296, v.e, v.f, v.g⟩
def shV (w : List Nat) (v : H8) : Nat → H8
  | 0 => v
  | i + 1 => shR w i (shV w v i)
theorem shV_ok (w : List Nat) {v : H8} (hv : v.ok) (i : Nat) : (shV w v i).ok := by
  induction i with
  | zero => exact hv
  | succ i ih => exact ⟨Nat.mod_lt _ (by decide), ih.a, ih.b, ih.c, Nat.mod_lt _ (by decide), ih.e, ih.f, ih.g⟩
/-- a block -/
def shB (v : H8) (l : List UInt8) : H8 :=
  let u := shV (wL l 64) v 64
  ⟨(v.a + u.a) % 4294967296, (v.b + u.b) % 4294967296, (v.c + u.c) % 4294967296, (v.d + u.d) % 4294967296, (v.e + u.e) % 4294967296, (v.f + u.f) % 4294967296, (v.g + u.g) % 4294967296, (v.h + u.h) % 4294967296⟩
theorem shB_ok (v : H8) (l : List UInt8) : (shB v l).ok := ⟨Nat.mod_lt _ (by decide), Nat.mod_lt _ (by decide), Nat.mod_lt _ (by decide), Nat.mod_lt _ (by decide), Nat.mod_lt _ (by decide), Nat.mod_lt _ (by decide), Nat.mod_lt _ (by decide), Nat.mod_lt _ (by decide)⟩
/-- so many blocks -/
def shRun : Nat → H8 → List UInt8 → H8
  | 0, v, _ => v
  | q + 1, v, l => shRun q (shB v (l.take 64)) (l.drop 64)
theorem shRun_ok : ∀ (q : Nat) (v : H8) (l : List UInt8), v.ok → (shRun q v l).ok
  | 0, _, _, h => h
  | q + 1, v, l, _ => shRun_ok q _ _ (shB_ok _ _)
theorem shRun_add : ∀ (p q : Nat) (v : H8) (l : List UInt8), shRun (p + q) v l = shRun q (shRun p v l) (l.drop (64 * p))
  | 0, q, v, l => by simp [shRun]
  | p + 1, q, v, l => by
    rw [show p + 1 + q = (p + q) + 1 by omega, shRun, shRun_add p q, shRun, List.drop_drop, show 64 * (p + 1) = 64 + 64 * p by omega]
theorem shRun_app : ∀ (p : Nat) (v : H8) (l s : List UInt8), 64 * p ≤ l.length → shRun p v (l ++ s) = shRun p v l
  | 0, _, _, _, _ => rfl
  | p + 1, v, l, s, h => by
    rw [shRun, shRun, List.take_append_of_le_length (by omega), List.drop_append_of_le_length (by omega), shRun_app p _ _ _ (by simp; omega)]
/-- the words of a text's whole blocks, and what is left -/
def shAll (l : List UInt8) : H8 := shRun (l.length / 64) shH l
def shRest (l : List UInt8) : List UInt8 := l.drop (64 * (l.length / 64))
theorem shRest_length (l : List UInt8) : (shRest l).length = l.length % 64 := by simp [shRest]; omega
theorem shAll_app (l s : List UInt8) : shAll (l ++ s) = shRun ((shRest l ++ s).length / 64) (shAll l) (shRest l ++ s) := by
  have e : (l ++ s).length / 64 = l.length / 64 + (shRest l ++ s).length / 64 := by
    simp [shRest_length]; omega
  unfold shAll
  rw [e, shRun_add, shRun_app _ _ _ _ (by omega), List.drop_append_of_le_length (by omega)]
  rfl
theorem shRest_app (l s : List UInt8) : shRest (l ++ s) = (shRest l ++ s).drop (64 * ((shRest l ++ s).length / 64)) := by
  have e : 64 * ((l ++ s).length / 64) = 64 * (l.length / 64) + 64 * ((shRest l ++ s).length / 64) := by
    simp [shRest_length]; omega
  rw [shRest, e, ← List.drop_drop, List.drop_append_of_le_length (by omega)]
  rfl

/-! ### the sum -/
def padz (r : Nat) : Nat := (119 - r) % 64
def tail8 (n : Nat) (i : Nat) : Nat := (n * 8 % 18446744073709551616) / 2 ^ (56 - 8 * i) % 256
def shTail (r n : Nat) : List Nat := (128 :: List.replicate (padz r) 0) ++ (List.range 8).map (tail8 n)
def four (x : Nat) : List Nat := [x / 2 ^ 24 % 256, x / 2 ^ 16 % 256, x / 2 ^ 8 % 256, x % 256]
def H8.list (v : H8) : List Nat := [v.a, v.b, v.c, v.d, v.e, v.f, v.g, v.h]
def u8s (l : List Nat) : List UInt8 := l.map UInt8.ofNat
/-- SHA256 -/
def digest (T : List UInt8) : List UInt8 := u8s ((shAll (T ++ u8s (shTail (T.length % 64) (T.length % 18446744073709551616)))).list.flatMap four)
theorem digest_length (T : List UInt8) : (digest T).length = 32 := by
  simp [digest, u8s, H8.list, four]

end Go.Fw
