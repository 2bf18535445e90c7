/- The small logic over the walk rules, and what stands on it. -/
import Derived.Test.YtgbloaophfaaoaaGreatDoorFwA
import Derived.MapKept
import Derived.Lib.UnsafeStr
import Derived.Lib.Repeat
import Derived.Laws.StructEq
import Derived.Maps.RangeRun
import Derived.Sort.Row
import Derived.Sort.Grow
import Derived.Shelf.Strings.Trim
import Derived.Scope
import Derived.Sort.EncStr
import Derived.Lib.SlicesCompact
/- Bits of numbers; sha256 in plain numbers. -/
namespace Go.Fw
set_option linter.all false
open Go Go.RowKit

theorem ior32 {a b : Nat} (ha : a < 4294967296) (hb : b < 4294967296) : ior .u32 (a : Int) (b : Int) = ((a ||| b : Nat) : Int) := by
  have h : (BitVec.ofInt IntKind.u32.bits (a : Int) ||| BitVec.ofInt IntKind.u32.bits (b : Int)).toNat = a ||| b := by
    rw [BitVec.ofInt_natCast, BitVec.ofInt_natCast, BitVec.toNat_or, BitVec.toNat_ofNat, BitVec.toNat_ofNat]
    show a % 4294967296 ||| b % 4294967296 = _
    rw [Nat.mod_eq_of_lt ha, Nat.mod_eq_of_lt hb]
  unfold ior
  rw [h]
  have := @Nat.or_lt_two_pow a b 32 ha hb
  exact wu32 (by omega) (by omega)
theorem iand32 {a b : Nat} (ha : a < 4294967296) (hb : b < 4294967296) : iand .u32 (a : Int) (b : Int) = ((a &&& b : Nat) : Int) := by
  have h : (BitVec.ofInt IntKind.u32.bits (a : Int) &&& BitVec.ofInt IntKind.u32.bits (b : Int)).toNat = a &&& b := by
    rw [BitVec.ofInt_natCast, BitVec.ofInt_natCast, BitVec.toNat_and, BitVec.toNat_ofNat, BitVec.toNat_ofNat]
    show a % 4294967296 &&& b % 4294967296 = _
    rw [Nat.mod_eq_of_lt ha, Nat.mod_eq_of_lt hb]
  unfold iand
  rw [h]
  have := @Nat.and_lt_two_pow a b 32 hb
  exact wu32 (by omega) (by omega)
theorem ixor32 {a b : Nat} (ha : a < 4294967296) (hb : b < 4294967296) : ixor .u32 (a : Int) (b : Int) = ((a ^^^ b : Nat) : Int) := by
  have h : (BitVec.ofInt IntKind.u32.bits (a : Int) ^^^ BitVec.ofInt IntKind.u32.bits (b : Int)).toNat = a ^^^ b := by
    rw [BitVec.ofInt_natCast, BitVec.ofInt_natCast, BitVec.toNat_xor, BitVec.toNat_ofNat, BitVec.toNat_ofNat]
    show a % 4294967296 ^^^ b % 4294967296 = _
    rw [Nat.mod_eq_of_lt ha, Nat.mod_eq_of_lt hb]
  unfold ixor
  rw [h]
  have := @Nat.xor_lt_two_pow a b 32 ha hb
  exact wu32 (by omega) (by omega)
theorem ior64 {a b : Nat} (ha : a < 9223372036854775808) (hb : b < 9223372036854775808) : ior .i64 (a : Int) (b : Int) = ((a ||| b : Nat) : Int) := by
  have h : (BitVec.ofInt IntKind.i64.bits (a : Int) ||| BitVec.ofInt IntKind.i64.bits (b : Int)).toNat = a ||| b := by
    rw [BitVec.ofInt_natCast, BitVec.ofInt_natCast, BitVec.toNat_or, BitVec.toNat_ofNat, BitVec.toNat_ofNat]
    show a % 18446744073709551616 ||| b % 18446744073709551616 = _
    rw [Nat.mod_eq_of_lt (by omega), Nat.mod_eq_of_lt (by omega)]
  unfold ior
  rw [h]
  have := @Nat.or_lt_two_pow a b 63 ha hb
  exact w64 (by omega) (by omega)
theorem iand64 {a b : Nat} (ha : a < 9223372036854775808) (hb : b < 9223372036854775808) : iand .i64 (a : Int) (b : Int) = ((a &&& b : Nat) : Int) := by
  have h : (BitVec.ofInt IntKind.i64.bits (a : Int) &&& BitVec.ofInt IntKind.i64.bits (b : Int)).toNat = a &&& b := by
    rw [BitVec.ofInt_natCast, BitVec.ofInt_natCast, BitVec.toNat_and, BitVec.toNat_ofNat, BitVec.toNat_ofNat]
    show a % 18446744073709551616 &&& b % 18446744073709551616 = _
    rw [Nat.mod_eq_of_lt (by omega), Nat.mod_eq_of_lt (by omega)]
  unfold iand
  rw [h]
  have := @Nat.and_lt_two_pow a b 63 hb
  exact w64 (by omega) (by omega)
theorem ixor64 {a b : Nat} (ha : a < 9223372036854775808) (hb : b < 9223372036854775808) : ixor .i64 (a : Int) (b : Int) = ((a ^^^ b : Nat) : Int) := by
  have h : (BitVec.ofInt IntKind.i64.bits (a : Int) ^^^ BitVec.ofInt IntKind.i64.bits (b : Int)).toNat = a ^^^ b := by
    rw [BitVec.ofInt_natCast, BitVec.ofInt_natCast, BitVec.toNat_xor, BitVec.toNat_ofNat, BitVec.toNat_ofNat]
    show a % 18446744073709551616 ^^^ b % 18446744073709551616 = _
    rw [Nat.mod_eq_of_lt (by omega), Nat.mod_eq_of_lt (by omega)]
  unfold ixor
  rw [h]
  have := @Nat.xor_lt_two_pow a b 63 ha hb
  exact w64 (by omega) (by omega)
theorem u32_nat (n : Nat) : IntKind.u32.wrap (n : Int) = ((n % 4294967296 : Nat) : Int) := by
  simp [IntKind.wrap, IntKind.bits, IntKind.signed]
theorem fdiv_nat (n d : Nat) : ((n : Int)).fdiv (d : Int) = ((n / d : Nat) : Int) := by
  rw [Int.fdiv_eq_ediv_of_nonneg _ (by omega)]; rfl
theorem fdiv_pow (n d : Nat) : ((n : Int)).fdiv ((2 : Int) ^ d) = ((n / 2 ^ d : Nat) : Int) := by
  have : ((2 : Int) ^ d) = ((2 ^ d : Nat) : Int) := by simp
  rw [this, fdiv_nat]
theorem mul_pow (n d : Nat) : (n : Int) * (2 : Int) ^ d = ((n * 2 ^ d : Nat) : Int) := by simp

/-! ### sha256 -/
def B32 (x : Nat) : Prop := x < 4294967296
def rot (n x : Nat) : Nat := (x * 2 ^ (32 - n)) % 4294967296 ||| x / 2 ^ n
theorem or32 {a b : Nat} (ha : a < 4294967296) (hb : b < 4294967296) : a ||| b < 4294967296 := @Nat.or_lt_two_pow a b 32 ha hb
theorem xor32 {a b : Nat} (ha : a < 4294967296) (hb : b < 4294967296) : a ^^^ b < 4294967296 := @Nat.xor_lt_two_pow a b 32 ha hb
theorem and32 {a b : Nat} (hb : b < 4294967296) : a &&& b < 4294967296 := @Nat.and_lt_two_pow a b 32 hb
theorem div_lt32 {a : Nat} (d : Nat) (ha : a < 4294967296) : a / 2 ^ d < 4294967296 := Nat.lt_of_le_of_lt (Nat.div_le_self _ _) ha
theorem rot_lt {n x : Nat} (hx : x < 4294967296) : rot n x < 4294967296 := or32 (Nat.mod_lt _ (by decide)) (div_lt32 _ hx)

def sgA (x : Nat) : Nat := rot 7 x ^^^ rot 18 x ^^^ x / 2 ^ 3
def sgB (x : Nat) : Nat := rot 17 x ^^^ rot 19 x ^^^ x / 2 ^ 10
def sgE (x : Nat) : Nat := rot 6 x ^^^ rot 11 x ^^^ rot 25 x
def sgF (x : Nat) : Nat := rot 2 x ^^^ rot 13 x ^^^ rot 22 x
theorem sgA_lt {x : Nat} (h : x < 4294967296) : sgA x < 4294967296 := xor32 (xor32 (rot_lt h) (rot_lt h)) (div_lt32 _ h)
theorem sgB_lt {x : Nat} (h : x < 4294967296) : sgB x < 4294967296 := xor32 (xor32 (rot_lt h) (rot_lt h)) (div_lt32 _ h)
theorem sgE_lt {x : Nat} (h : x < 4294967296) : sgE x < 4294967296 := xor32 (xor32 (rot_lt h) (rot_lt h)) (rot_lt h)
theorem sgF_lt {x : Nat} (h : x < 4294967296) : sgF x < 4294967296 := xor32 (xor32 (rot_lt h) (rot_lt h)) (rot_lt h)
def shCh (e f g : Nat) : Nat := (e &&& f) ^^^ ((4294967295 ^^^ e) &&& g)
def shMaj (a b c : Nat) : Nat := (a &&& b) ^^^ (a &&& c) ^^^ (b &&& c)

def byt (l : List UInt8) (i : Nat) : Nat := ((l[i]?).getD 0).toNat
theorem byt_lt (l : List UInt8) (i : Nat) : byt l i < 256 := UInt8.toNat_lt _
def w4 (l : List UInt8) (i : Nat) : Nat := ((byt l (4 * i) * 2 ^ 24 ||| byt l (4 * i + 1) * 2 ^ 16) ||| byt l (4 * i + 2) * 2 ^ 8) ||| byt l (4 * i + 3)
theorem w4_lt (l : List UInt8) (i : Nat) : w4 l i < 4294967296 := by
  have h := byt_lt l
  refine or32 (or32 (or32 ?_ ?_) ?_) ?_
  · have := h (4 * i); omega
  · have := h (4 * i + 1); omega
  · have := h (4 * i + 2); omega
  · have := h (4 * i + 3); omega
/-- the next word -/
def wN (w : List Nat) (i : Nat) : Nat := (w.getD (i - 16) 0 + sgA (w.getD (i - 15) 0) + w.getD (i - 7) 0 + sgB (w.getD (i - 2) 0)) % 4294967296
/-- the first so many words of a block -/
def wL (l : List UInt8) : Nat → List Nat
  | 0 => []
  | i + 1 => wL l i ++ [if i < 16 then w4 l i else wN (wL l i) i]
theorem wL_length (l : List UInt8) (i : Nat) : (wL l i).length = i := by
  induction i with
  | zero => rfl
  | succ i ih => simp [wL, ih]
theorem wL_lt (l : List UInt8) (i : Nat) : ∀ x ∈ wL l i, x < 4294967296 := by
  induction i with
  | zero => intro x hx; cases hx
  | succ i ih =>
    intro x hx
    rcases List.mem_append.1 hx with h | h
    · exact ih x h
    · have := List.mem_singleton.1 h
      subst this
      split
      · exact w4_lt _ _
      · exact Nat.mod_lt _ (by decide)
theorem getD_lt {w : List Nat} (h : ∀ x ∈ w, x < 4294967296) (i : Nat) : w.getD i 0 < 4294967296 := by
  rw [List.getD_eq_getElem?_getD]
  cases hx : w[i]? with
  | none => decide
  | some x => exact h x (List.mem_of_getElem? hx)
def shK : List Nat := [1116352408, 1899447441, 3049323471, 3921009573, 961987163, 1508970993, 2453635748, 2870763221, 3624381080, 310598401, 607225278, 1426881987, 1925078388, 2162078206, 2614888103, 3248222580, 3835390401, 4022224774, 264347078, 604807628, 770255983, 1249150122, 1555081692, 1996064986, 2554220882, 2821834349, 2952996808, 3210313671, 3336571891, 3584528711, 113926993, 338241895, 666307205, 773529912, 1294757372, 1396182291, 1695183700, 1986661051, 2177026350, 2456956037, 2730485921, 2820302411, 3259730800, 3345764771, 3516065817, 3600352804, 4094571909, 275423344, 430227734, 506948616, 659060556, 883997877, 958139571, 1322822218, 1537002063, 1747873779, 1955562222, 2024104815, 2227730452, 2361852424, 2428436474, 2756734187, 3204031479, 3329325298]
/-- eight words -/
structure H8 where
  a : Nat
  b : Nat
  c : Nat
  d : Nat
  e : Nat
  f : Nat
  g : Nat
  h : Nat
structure H8.ok (x : H8) : Prop where
  a : x.a < 4294967296
  b : x.b < 4294967296
  c : x.c < 4294967296
  d : x.d < 4294967296
  e : x.e < 4294967296
  f : x.f < 4294967296
  g : x.g < 4294967296
  h : x.h < 4294967296
def shH : H8 := ⟨1779033703, 3144134277, 1013904242, 2773480762, 1359893119, 2600822924, 528734635, 1541459225⟩
theorem shH_ok : shH.ok := ⟨by decide, by decide, by decide, by decide, by decide, by decide, by decide, by decide⟩
/-- one round -/
def shR (w : List Nat) (i : Nat) (v : H8) : H8 :=
  let t := v.h + sgE v.e + shCh v.e v.f v.g + shK.getD i 0 + w.getD i 0
  ⟨(t + (sgF v.a + shMaj v.a v.b v.c)) % 4294967296, v.a, v.b, v.c, (v.d + t) % 4294967296, v.e, v.f, v.g⟩
def shV (w : List Nat) (v : H8) : Nat → H8
  | 0 => v
  | i + 1 => shR w i (shV w v i)
theorem shV_ok (w : List Nat) {v : H8} (hv : v.ok) (i : Nat) : (shV w v i).ok := by
  induction i with
  | zero => exact hv
  | succ i ih => exact ⟨Nat.mod_lt _ (by decide), ih.a, ih.b, ih.c, Nat.mod_lt _ (by decide), ih.e, ih.f, ih.g⟩
/-- a block -/
def shB (v : H8) (l : List UInt8) : H8 :=
  let u := shV (wL l 64) v 64
  ⟨(v.a + u.a) % 4294967296, (v.b + u.b) % 4294967296, (v.c + u.c) % 4294967296, (v.d + u.d) % 4294967296, (v.e + u.e) % 4294967296, (v.f + u.f) % 4294967296, (v.g + u.g) % 4294967296, (v.h + u.h) % 4294967296⟩
theorem shB_ok (v : H8) (l : List UInt8) : (shB v l).ok := ⟨Nat.mod_lt _ (by decide), Nat.mod_lt _ (by decide), Nat.mod_lt _ (by decide), Nat.mod_lt _ (by decide), Nat.mod_lt _ (by decide), Nat.mod_lt _ (by decide), Nat.mod_lt _ (by decide), Nat.mod_lt _ (by decide)⟩
/-- so many blocks -/
def shRun : Nat → H8 → List UInt8 → H8
  | 0, v, _ => v
  | q + 1, v, l => shRun q (shB v (l.take 64)) (l.drop 64)
theorem shRun_ok : ∀ (q : Nat) (v : H8) (l : List UInt8), v.ok → (shRun q v l).ok
  | 0, _, _, h => h
  | q + 1, v, l, _ => shRun_ok q _ _ (shB_ok _ _)
theorem shRun_add : ∀ (p q : Nat) (v : H8) (l : List UInt8), shRun (p + q) v l = shRun q (shRun p v l) (l.drop (64 * p))
  | 0, q, v, l => by simp [shRun]
  | p + 1, q, v, l => by
    rw [show p + 1 + q = (p + q) + 1 by omega, shRun, shRun_add p q, shRun, List.drop_drop, show 64 * (p + 1) = 64 + 64 * p by omega]
theorem shRun_app : ∀ (p : Nat) (v : H8) (l s : List UInt8), 64 * p ≤ l.length → shRun p v (l ++ s) = shRun p v l
  | 0, _, _, _, _ => rfl
  | p + 1, v, l, s, h => by
    rw [shRun, shRun, List.take_append_of_le_length (by omega), List.drop_append_of_le_length (by omega), shRun_app p _ _ _ (by simp; omega)]
/-- the words of a text's whole blocks, and what is left -/
def shAll (l : List UInt8) : H8 := shRun (l.length / 64) shH l
def shRest (l : List UInt8) : List UInt8 := l.drop (64 * (l.length / 64))
theorem shRest_length (l : List UInt8) : (shRest l).length = l.length % 64 := by simp [shRest]; omega
theorem shAll_app (l s : List UInt8) : shAll (l ++ s) = shRun ((shRest l ++ s).length / 64) (shAll l) (shRest l ++ s) := by
  have e : (l ++ s).length / 64 = l.length / 64 + (shRest l ++ s).length / 64 := by
    simp [shRest_length]; omega
  unfold shAll
  rw [e, shRun_add, shRun_app _ _ _ _ (by omega), List.drop_append_of_le_length (by omega)]
  rfl
theorem shRest_app (l s : List UInt8) : shRest (l ++ s) = (shRest l ++ s).drop (64 * ((shRest l ++ s).length / 64)) := by
  have e : 64 * ((l ++ s).length / 64) = 64 * (l.length / 64) + 64 * ((shRest l ++ s).length / 64) := by
    simp [shRest_length]; omega
  rw [shRest, e, ← List.drop_drop, List.drop_append_of_le_length (by omega)]
  rfl

/-! ### the sum -/
def padz (r : Nat) : Nat := (119 - r) % 64
def tail8 (n : Nat) (i : Nat) : Nat := (n * 8 % 18446744073709551616) / 2 ^ (56 - 8 * i) % 256
def shTail (r n : Nat) : List Nat := (128 :: List.replicate (padz r) 0) ++ (List.range 8).map (tail8 n)
def four (x : Nat) : List Nat := [x / 2 ^ 24 % 256, x / 2 ^ 16 % 256, x / 2 ^ 8 % 256, x % 256]
def H8.list (v : H8) : List Nat := [v.a, v.b, v.c, v.d, v.e, v.f, v.g, v.h]
def u8s (l : List Nat) : List UInt8 := l.map UInt8.ofNat
/-- SHA256 -/
def digest (T : List UInt8) : List UInt8 := u8s ((shAll (T ++ u8s (shTail (T.length % 64) (T.length % 18446744073709551616)))).list.flatMap four)
theorem digest_length (T : List UInt8) : (digest T).length = 32 := by
  simp [digest, u8s, H8.list, four]

end Go.Fw

/- Maps of the call's own: what they hold, in the order in which it was put. -/
namespace Go.Fw
set_option linter.all false
open Go Go.RowKit Go.MapKept

/-- what stands under a key -/
def mget {κ ν : Type} [DecidableEq κ] : List (κ × ν) → κ → Option ν
  | [], _ => none
  | p :: l, k => if k = p.1 then some p.2 else mget l k
def mset {κ ν : Type} [DecidableEq κ] : List (κ × ν) → κ → ν → List (κ × ν)
  | [], k, v => [(k, v)]
  | p :: l, k, v => if k = p.1 then (k, v) :: l else p :: mset l k v
def mdel {κ ν : Type} [DecidableEq κ] : List (κ × ν) → κ → List (κ × ν)
  | [], _ => []
  | p :: l, k => if k = p.1 then l else p :: mdel l k

/-- a text, a number, a truth, as it stands under a key, or in a map -/
def kStr (s : ByteArray) : Value := .string s
def kInt (k : IntKind) (n : Int) : Value := .int k n
def kBool (b : Bool) : Value := .bool b

/-- what a map needs of its keys -/
structure MKey (P : Program) (kt : TypeId) {κ : Type} [DecidableEq κ] (kf : κ → Value) : Prop where
  check : ∀ (em : Bool) (k : κ) (w : World), (Instr.checkKey em 10000 kt (kf k)).run P w = .ok () w
  kind : ∃ d, P.underlying kt = some d ∧ ∀ a b : κ, Instr.sameNow d (kf a) (kf b) = some (decide (a = b))
  bits : ∀ a : κ, Instr.sameBits 10000 (kf a) (kf a) = true
  inj : ∀ a b : κ, kf a = kf b → a = b

theorem mkey_str {P : Program} {kt : TypeId} (h : P.underlying kt = some .string) : MKey P kt kStr where
  check em k w := by unfold Instr.checkKey; simp [Sem.run_bind, run_underlying h w, kStr, kInt]
  kind := ⟨.string, h, fun a b => by
    show some (a == b) = _
    have hb := MapKept.bytes_beq a b
    by_cases e : a = b
    · rw [hb.2 e]; simp [e]
    · have : (a == b) = false := by
        cases hc : (a == b) with
        | false => rfl
        | true => exact absurd (hb.1 hc) e
      simp [this, e]⟩
  bits a := by show (a == a) = true; exact (MapKept.bytes_beq a a).2 rfl
  inj a b h := by unfold kStr at h; injection h
theorem mkey_int {P : Program} {kt : TypeId} {q : IntKind} (h : P.underlying kt = some (.int q)) : MKey P kt (kInt q) where
  check em k w := by unfold Instr.checkKey; simp [Sem.run_bind, run_underlying h w, kStr, kInt]
  kind := ⟨.int q, h, fun a b => by
    unfold Instr.sameNow kInt
    by_cases e : a = b
    · subst e; simp
    · simp [e]⟩
  bits a := by show (q == q && a == a) = true; cases q <;> simp
  inj a b h := by unfold kInt at h; injection h

set_option linter.unusedSectionVars false
section
variable {P : Program} {kt vt T : TypeId} {κ ν : Type} [DecidableEq κ] {kf : κ → Value} {vf : ν → Value}

def ment (kf : κ → Value) (vf : ν → Value) (es : List MapEntry) (l : List (κ × ν)) : Prop := es.map (fun e => (e.key, e.val)) = l.map fun p => (kf p.1, vf p.2)
/-- A MAP OF THE CALL's OWN -/
def mpo (kf : κ → Value) (vf : ν → Value) (b : Nat) (l : List (κ × ν)) : HP := fun h => ∃ es clock, h b = some (.map es clock) ∧ ment kf vf es.toList l ∧ Stamped es clock

theorem ment_length {es : List MapEntry} {l : List (κ × ν)} (h : ment kf vf es l) : es.length = l.length := by
  have := congrArg List.length h
  simpa using this

/-- what a find tells, and what may be done with it -/
def Found (kf : κ → Value) (vf : ν → Value) (es : List MapEntry) (l : List (κ × ν)) (k : κ) (j : Nat) (v : ν) : Prop :=
  mget l k = some v ∧ (∃ e, es[j]? = some e ∧ e.key = kf k) ∧ (∀ v', ment kf vf (es.modify j fun e => { e with key := kf k, val := vf v' }) (mset l k v')) ∧ ment kf vf (es.eraseIdx j) (mdel l k)
def Missing (kf : κ → Value) (vf : ν → Value) (es : List MapEntry) (l : List (κ × ν)) (k : κ) : Prop :=
  mget l k = none ∧ (∀ v' e', e'.key = kf k → e'.val = vf v' → ment kf vf (es ++ [e']) (mset l k v')) ∧ mdel l k = l ∧ ∀ e ∈ es, e.key ≠ kf k
theorem findNow_eq {d : TypeDesc} (hinj : ∀ a b : κ, kf a = kf b → a = b) (hd : ∀ a b : κ, Instr.sameNow d (kf a) (kf b) = some (decide (a = b))) (k : κ) : ∀ (es : List MapEntry) (l : List (κ × ν)) (i : Nat), ment kf vf es l →
    (∃ v j, Found kf vf es l k j v ∧ Instr.findNow d (kf k) es i = some (some (i + j, vf v))) ∨ (Missing kf vf es l k ∧ Instr.findNow d (kf k) es i = some none)
  | [], [], i, _ => .inr ⟨⟨rfl, (fun v' e' h1 h2 => by simp [ment, mset, h1, h2]), rfl, (fun e he => by cases he)⟩, rfl⟩
  | [], _ :: _, _, h => by simp [ment] at h
  | _ :: _, [], _, h => by simp [ment] at h
  | e :: es, p :: l, i, h => by
    unfold ment at h
    simp only [List.map_cons, List.cons.injEq, Prod.mk.injEq] at h
    obtain ⟨⟨h1, h2⟩, h3⟩ := h
    unfold Instr.findNow
    rw [h1, hd]
    by_cases hk : k = p.1
    · left
      refine ⟨p.2, 0, ⟨by unfold mget; rw [if_pos hk], ⟨e, rfl, by rw [h1, hk]⟩, fun v' => ?_, ?_⟩, by simp [hk, h2]⟩
      · unfold mset ment; rw [if_pos hk]; simp [List.modify, h3]
      · unfold mdel ment; rw [if_pos hk]; simp [h3]
    · rcases findNow_eq hinj hd k es l (i + 1) h3 with ⟨v, j, ⟨g1, g2, g3, g4⟩, g5⟩ | ⟨⟨g1, g2, g3, g0⟩, g4⟩
      · left
        refine ⟨v, j + 1, ⟨by unfold mget; rw [if_neg hk]; exact g1, by simpa using g2, fun v' => ?_, ?_⟩, ?_⟩
        · have := g3 v'
          unfold ment at this
          unfold mset ment; rw [if_neg hk, List.modify_succ_cons, List.map_cons, List.map_cons, this, h1, h2]
        · unfold ment at g4
          unfold mdel ment; rw [if_neg hk]; simp [h1, h2, g4]
        · simp only [hk, decide_false]; rw [g5]; congr 3; omega
      · right
        refine ⟨⟨by unfold mget; rw [if_neg hk]; exact g1, fun v' e' q1 q2 => ?_, by unfold mdel; rw [if_neg hk, g3], fun e0 he0 => ?_⟩, by simp only [hk, decide_false]; exact g4⟩
        have := g2 v' e' q1 q2
        unfold ment at this
        unfold mset ment; rw [if_neg hk]; simp only [List.cons_append, List.map_cons, h1, h2, this]
        rcases List.mem_cons.1 he0 with h | h
        · subst h; rw [h1]; exact fun e => hk (hinj _ _ e).symm
        · exact g0 e0 h

theorem run_findKey (K : MKey P kt kf) {es : List MapEntry} {l : List (κ × ν)} (h : ment kf vf es l) (k : κ) (w : World) :
    (∃ v j, Found kf vf es l k j v ∧ (Instr.findKey kt (kf k) es).run P w = .ok (some (j, vf v)) w) ∨ (Missing kf vf es l k ∧ (Instr.findKey kt (kf k) es).run P w = .ok none w) := by
  obtain ⟨d, hu, hd⟩ := K.kind
  rcases findNow_eq (vf := vf) K.inj hd k es l 0 h with ⟨v, j, g1, g2⟩ | ⟨g1, g2⟩
  · left
    refine ⟨v, j, g1, ?_⟩
    simp [Instr.findKey, Sem.run_bind, run_underlying hu w, g2]
  · right
    refine ⟨g1, ?_⟩
    simp [Instr.findKey, Sem.run_bind, run_underlying hu w, g2]

theorem run_getMap {w : World} {b : Nat} {es : Array MapEntry} {clock : Nat} (h : hp w b = some (.map es clock)) : (getObj b).run P w = .ok (.map es clock) w := by
  exact MapKept.run_getObj_map h
theorem map_in {H : List HP} {k b : Nat} {l : List (κ × ν)} {w : World} (hk : H[k]? = some (mpo kf vf b l)) (hs : Sat H (hp w)) : ∃ es clock, hp w b = some (.map es clock) ∧ ment kf vf es.toList l ∧ Stamped es clock := by
  obtain ⟨h, h1, ⟨es, clock, h2, h3, h4⟩, _⟩ := sat_at hk hs
  exact ⟨es, clock, h1 b _ h2, h3, h4⟩
/-- a map's type: its keys', its values' -/
def mapOf (P : Program) (t : TypeId) : Option (TypeId × TypeId) := match P.underlying t with | some (.map k e) => some (k, e) | _ => none
theorem mapOf_spec {t : TypeId} (h : mapOf P t = some (kt, vt)) : P.underlying t = some (.map kt vt) := by
  unfold mapOf at h
  split at h
  · cases h; assumption
  · cases h
/-- what a look-up tells -/
def mgetD (l : List (κ × ν)) (k : κ) (z : ν) : ν := (mget l k).getD z
def mhas (l : List (κ × ν)) (k : κ) : Bool := (mget l k).isSome

variable {ops : Array Oper} {Q : Exit → Act → World → Prop} {i n : Nat} {L : Slots} {o : Oper} {w0 : World} {H : List HP} {K : Act → World → Prop}

theorem q_lookup (k : Nat) (z : ν) {b : Nat} {l : List (κ × ν)} {t : TypeId} {x y : Operand} {key : κ} {ok : Bool} (MK : MKey P kt kf) (hop : o.op = .lookup t x y ok) (ht : mapOf P t = some (kt, vt)) (hk : H[k]? = some (mpo kf vf b l)) (hx : rho L x = .map (some b)) (hy : rho L y = kf key)
    (hz : (P.info? vt).bind (·.zero) = some (vf z)) : RunIs P (SAT w0 H) L o (if ok then .tuple #[vf (mgetD l key z), .bool (mhas l key)] else vf (mgetD l key z)) := by
  intro w hs
  obtain ⟨es, clock, hg, he, hst⟩ := map_in hk hs.1
  have hu := mapOf_spec ht
  have hzv : (zeroValue vt).run P w = .ok (vf z) w := by
    cases hi : P.info? vt with
    | none => rw [hi] at hz; cases hz
    | some inf => rw [hi] at hz; replace hz : inf.zero = some (vf z) := hz; simp [zeroValue, typeInfo, Sem.run_bind, hi, hz]
  rcases run_findKey (vf := vf) MK he key w with ⟨v, j, ⟨g1, _⟩, g2⟩ | ⟨⟨g1, _⟩, g2⟩
  · have e1 : mgetD l key z = v := by unfold mgetD; rw [g1]; rfl
    have e2 : mhas l key = true := by unfold mhas; rw [g1]; rfl
    rw [e1, e2]
    cases ok <;> simp [execOp, hop, hx, hy, Instr.lookup, Sem.run_bind, run_underlying hu w, run_getMap hg, MK.check, g2, Result.andThen_ok]
  · have e1 : mgetD l key z = z := by unfold mgetD; rw [g1]; rfl
    have e2 : mhas l key = false := by unfold mhas; rw [g1]; rfl
    rw [e1, e2]
    cases ok <;> simp [execOp, hop, hx, hy, Instr.lookup, Sem.run_bind, run_underlying hu w, run_getMap hg, MK.check, g2, hzv, Result.andThen_ok]
theorem q_lookup1 (k : Nat) (z : ν) {b : Nat} {l : List (κ × ν)} {t : TypeId} {x y : Operand} {key : κ} (MK : MKey P kt kf) (hop : o.op = .lookup t x y false) (ht : mapOf P t = some (kt, vt)) (hk : H[k]? = some (mpo kf vf b l)) (hx : rho L x = .map (some b)) (hy : rho L y = kf key)
    (hz : (P.info? vt).bind (·.zero) = some (vf z)) : RunIs P (SAT w0 H) L o (vf (mgetD l key z)) := q_lookup k z MK hop ht hk hx hy hz
theorem q_lookup2 (k : Nat) (z : ν) {b : Nat} {l : List (κ × ν)} {t : TypeId} {x y : Operand} {key : κ} (MK : MKey P kt kf) (hop : o.op = .lookup t x y true) (ht : mapOf P t = some (kt, vt)) (hk : H[k]? = some (mpo kf vf b l)) (hx : rho L x = .map (some b)) (hy : rho L y = kf key)
    (hz : (P.info? vt).bind (·.zero) = some (vf z)) : RunIs P (SAT w0 H) L o (.tuple #[vf (mgetD l key z), .bool (mhas l key)]) := q_lookup k z MK hop ht hk hx hy hz
/-- .. of no map -/
theorem q_lookup_nil (z : ν) {t : TypeId} {x y : Operand} {key : κ} {ok : Bool} {S : World → Prop} (MK : MKey P kt kf) (hop : o.op = .lookup t x y ok) (ht : mapOf P t = some (kt, vt)) (hx : rho L x = .map none) (hy : rho L y = kf key)
    (hz : (P.info? vt).bind (·.zero) = some (vf z)) : RunIs P S L o (if ok then .tuple #[vf z, .bool false] else vf z) := by
  intro w hs
  have hu := mapOf_spec ht
  have hzv : (zeroValue vt).run P w = .ok (vf z) w := by
    cases hi : P.info? vt with
    | none => rw [hi] at hz; cases hz
    | some inf => rw [hi] at hz; replace hz : inf.zero = some (vf z) := hz; simp [zeroValue, typeInfo, Sem.run_bind, hi, hz]
  rcases run_findKey (kf := kf) (vf := vf) (es := []) (l := ([] : List (κ × ν))) MK rfl key w with ⟨v, j, ⟨g1, _⟩, g2⟩ | ⟨⟨g1, _⟩, g2⟩
  · cases g1
  · cases ok <;> simp [execOp, hop, hx, hy, Instr.lookup, Sem.run_bind, run_underlying hu w, MK.check, g2, hzv, Result.andThen_ok]

theorem q_lookup_nil1 (z : ν) {t : TypeId} {x y : Operand} {key : κ} {S : World → Prop} (MK : MKey P kt kf) (hop : o.op = .lookup t x y false) (ht : mapOf P t = some (kt, vt)) (hx : rho L x = .map none) (hy : rho L y = kf key)
    (hz : (P.info? vt).bind (·.zero) = some (vf z)) : RunIs P S L o (vf z) := q_lookup_nil z MK hop ht hx hy hz
theorem q_lookup_nil2 (z : ν) {t : TypeId} {x y : Operand} {key : κ} {S : World → Prop} (MK : MKey P kt kf) (hop : o.op = .lookup t x y true) (ht : mapOf P t = some (kt, vt)) (hx : rho L x = .map none) (hy : rho L y = kf key)
    (hz : (P.info? vt).bind (·.zero) = some (vf z)) : RunIs P S L o (.tuple #[vf z, .bool false]) := q_lookup_nil z MK hop ht hx hy hz

theorem q_len_map (k : Nat) {b : Nat} {l : List (κ × ν)} {t : TypeId} {x : Operand} (hop : o.op = .call { callee := .builtin .len, args := #[x], argTypes := #[t] }) (ht : mapOf P t = some (kt, vt)) (hx : rho L x = .map (some b))
    (hk : H[k]? = some (mpo kf vf b l)) : RunIs P (SAT w0 H) L o (.int .i64 (l.length : Int)) := by
  intro w hs
  obtain ⟨es, clock, hg, he, hst⟩ := map_in hk hs.1
  have hl := ment_length he
  rw [Array.length_toList] at hl
  have hu := mapOf_spec ht
  simp [execOp, hop, resolve, invoke, builtin, Builtin.len_, hx, Sem.run_bind, run_underlying hu w, run_getMap hg, hl, Result.andThen_ok, goInt]

theorem hp_setObj {w : World} {b : Nat} {es : Array MapEntry} {clock : Nat} (ob' : Obj) (hg : hp w b = some (.map es clock)) : ∃ w', (setObj b ob').run P w = .ok () w' ∧ hp w' = (hp w).upd b ob' ∧ Keep w w' := by
  refine ⟨_, MapKept.run_setObj_map ob' hg, ?_, ⟨rfl, rfl, rfl⟩⟩
  unfold hp at hg
  have hlt := (Array.getElem?_eq_some_iff.1 hg).1
  funext c
  unfold hp Hl.upd
  simp only [Array.getElem?_setIfInBounds]
  by_cases h : b = c
  · subst h; simp [hlt]
  · rw [if_neg h, if_neg (fun e => h e.symm)]
theorem sat_upd_map {H : List HP} {k b : Nat} {l l' : List (κ × ν)} {es' : Array MapEntry} {clock' : Nat} {w w' : World} (hk : H[k]? = some (mpo kf vf b l)) (hs : Sat H (hp w)) (hh : hp w' = (hp w).upd b (.map es' clock')) (he : ment kf vf es'.toList l') (hst : Stamped es' clock') : Sat (H.set k (mpo kf vf b l')) (hp w') := by
  refine sat_set hk hs fun h hsub ⟨es, clock, hb, _, _⟩ => ?_
  refine ⟨h.upd b (.map es' clock'), ?_, ⟨es', clock', by simp [Hl.upd], he, hst⟩, ?_⟩
  · intro c o e
    rw [hh]
    unfold Hl.upd at e ⊢
    by_cases hc : c = b
    · rw [if_pos hc] at e ⊢; exact e
    · rw [if_neg hc] at e ⊢; exact hsub c o e
  · intro c o e1 e2
    have hc : c ≠ b := by intro hc; subst hc; rw [hb] at e2; cases e2
    rw [hh]; unfold Hl.upd; rw [if_neg hc, if_neg hc]; exact ⟨e1, e2⟩

theorem pw_mapSet (k : Nat) {b : Nat} {l : List (κ × ν)} {t : TypeId} {x y z : Operand} {key : κ} {v : ν} (MK : MKey P kt kf) (ho : ops[i]? = some o) (hop : o.op = .mapUpdate t x y z) (hd : dstOk n o.dst = true) (hw : wantedL ops L o = some true) (hkn : knows L o = true)
    (ht : mapOf P t = some (kt, vt)) (hk : H[k]? = some (mpo kf vf b l)) (hx : rho L x = .map (some b)) (hy : rho L y = kf key) (hz : rho L z = vf v)
    (h : NW K n (putL o.dst undef L) (SAT w0 (H.set k (mpo kf vf b (mset l key v))))) : PW P ops Q i n L (SAT w0 H) K := by
  refine pw_run0 ho hd hw hkn (fun w hs => ?_) h
  obtain ⟨es, clock, hg, he, hst⟩ := map_in hk hs.1
  have hu := mapOf_spec ht
  rcases run_findKey (vf := vf) MK he key w with ⟨u, j, ⟨g1, ⟨e, g2, g2'⟩, g3, g4⟩, g5⟩ | ⟨⟨g1, g2, g3, g0⟩, g4⟩
  · obtain ⟨w', hr, hh, hkp⟩ := hp_setObj (P := P) (.map (es.modify j fun e => { e with key := kf key, val := vf v }) clock) hg
    refine ⟨w', ?_, sat_upd_map hk hs.1 hh (by rw [Array.toList_modify]; exact g3 v) (stamped_modify hst _ _ (fun _ _ => rfl) (fun e' _ he' => by rw [Array.getElem?_toList] at g2; rw [g2] at he'; cases he'; exact g2'.symm)), hs.2.trans hkp⟩
    rw [Array.getElem?_toList] at g2
    simp [execOp, hop, hx, hy, hz, Instr.mapUpdate, Sem.run_bind, run_underlying hu w, run_getMap hg, MK.check, g5, g2, g2', Instr.keyThatStays, MK.bits, hr, Result.andThen_ok]
  · obtain ⟨w', hr, hh, hkp⟩ := hp_setObj (P := P) (.map (es.push { key := kf key, val := vf v, born := clock }) (clock + 1)) hg
    refine ⟨w', ?_, sat_upd_map hk hs.1 hh (by rw [Array.toList_push]; exact g2 v _ rfl rfl) (stamped_push hst g0), hs.2.trans hkp⟩
    simp [execOp, hop, hx, hy, hz, Instr.mapUpdate, Sem.run_bind, run_underlying hu w, run_getMap hg, MK.check, g4, hr, Result.andThen_ok]

theorem pw_mapDel (k : Nat) {b : Nat} {l : List (κ × ν)} {t t2 : TypeId} {x y : Operand} {key : κ} (MK : MKey P kt kf) (ho : ops[i]? = some o) (hop : o.op = .call { callee := .builtin .delete, args := #[x, y], argTypes := #[t, t2] }) (hd : dstOk n o.dst = true) (hw : wantedL ops L o = some true) (hkn : knows L o = true)
    (ht : mapOf P t = some (kt, vt)) (hx : rho L x = .map (some b)) (hy : rho L y = kf key) (hk : H[k]? = some (mpo kf vf b l))
    (h : NW K n (putL o.dst (.tuple #[]) L) (SAT w0 (H.set k (mpo kf vf b (mdel l key))))) : PW P ops Q i n L (SAT w0 H) K := by
  refine pw_run (S' := fun u w => u = .tuple #[] ∧ SAT w0 (H.set k (mpo kf vf b (mdel l key))) w) ho hd hw hkn (fun w hs => ?_) fun u a w hf hs => by obtain ⟨rfl, hs⟩ := hs; exact h a w hf hs
  obtain ⟨es, clock, hg, he, hst⟩ := map_in hk hs.1
  have hu := mapOf_spec ht
  rcases run_findKey (vf := vf) MK he key w with ⟨u, j, ⟨g1, _, g3, g4⟩, g5⟩ | ⟨⟨g1, g2, g3, g0⟩, g4⟩
  · obtain ⟨w', hr, hh, hkp⟩ := hp_setObj (P := P) (.map (es.eraseIdxIfInBounds j) clock) hg
    refine ⟨_, w', ?_, rfl, sat_upd_map hk hs.1 hh (by rw [Array.toList_eraseIdxIfInBounds]; exact g4) (stamped_erase hst _), hs.2.trans hkp⟩
    simp [execOp, hop, resolve, invoke, builtin, Builtin.delete_, hx, hy, Sem.run_bind, run_underlying hu w, run_getMap hg, MK.check, g5, hr, Result.andThen_ok]
  · obtain ⟨w', hr, hh, hkp⟩ := hp_setObj (P := P) (.map es clock) hg
    refine ⟨_, w', ?_, rfl, sat_upd_map hk hs.1 hh (by rw [g3]; exact he) hst, hs.2.trans hkp⟩
    simp [execOp, hop, resolve, invoke, builtin, Builtin.delete_, hx, hy, Sem.run_bind, run_underlying hu w, run_getMap hg, MK.check, g4, hr, Result.andThen_ok]

theorem pw_mapClear (k : Nat) {b : Nat} {l : List (κ × ν)} {t : TypeId} {x : Operand} (ho : ops[i]? = some o) (hop : o.op = .call { callee := .builtin .clear, args := #[x], argTypes := #[t] }) (hd : dstOk n o.dst = true) (hw : wantedL ops L o = some true) (hkn : knows L o = true)
    (ht : mapOf P t = some (kt, vt)) (hx : rho L x = .map (some b)) (hk : H[k]? = some (mpo kf vf b l))
    (h : NW K n (putL o.dst (.tuple #[]) L) (SAT w0 (H.set k (mpo kf vf b ([] : List (κ × ν)))))) : PW P ops Q i n L (SAT w0 H) K := by
  refine pw_run (S' := fun u w => u = .tuple #[] ∧ SAT w0 (H.set k (mpo kf vf b ([] : List (κ × ν)))) w) ho hd hw hkn (fun w hs => ?_) fun u a w hf hs => by obtain ⟨rfl, hs⟩ := hs; exact h a w hf hs
  obtain ⟨es, clock, hg, he, hst⟩ := map_in hk hs.1
  have hu := mapOf_spec ht
  obtain ⟨w', hr, hh, hkp⟩ := hp_setObj (P := P) (.map #[] clock) hg
  refine ⟨_, w', ?_, rfl, sat_upd_map hk hs.1 hh rfl (stamped_empty _), hs.2.trans hkp⟩
  simp [execOp, hop, resolve, invoke, builtin, Builtin.clear_, hx, Sem.run_bind, run_underlying hu w, run_getMap hg, hr, Result.andThen_ok]

/-- a new map -/
theorem pw_makeMap (kf : κ → Value) (vf : ν → Value) {t : TypeId} (ho : ops[i]? = some o) (hop : o.op = .makeMap t none) (hd : dstOk n o.dst = true) (hw : wantedL ops L o = some true) (hkn : knows L o = true)
    (h : ∀ b : Nat, NW K n (putL o.dst (.map (some b)) L) (SAT w0 (mpo kf vf b ([] : List (κ × ν)) :: H))) : PW P ops Q i n L (SAT w0 H) K := by
  refine pw_run (S' := fun u w => ∃ b, u = .map (some b) ∧ SAT w0 (mpo kf vf b ([] : List (κ × ν)) :: H) w) ho hd hw hkn
    (fun w hs => ⟨_, w.alloc (.map #[] 0), ?_, w.heap.size, rfl, sat_alloc hs.1 ⟨#[], 0, by simp [Hl.one], rfl, stamped_empty 0⟩, hs.2.trans ⟨rfl, rfl, rfl⟩⟩) fun u a w hf hs => by obtain ⟨b, rfl, hs⟩ := hs; exact h b a w hf hs
  simp [execOp, hop, Instr.makeMap, newObj]
  rfl
end
end Go.Fw

/- What comes in, decoded: a type's cells, as a plain value; how great what it holds is. -/
namespace Go.Fw
set_option linter.all false
open Go Go.RowKit Go.ChangeShapes Go.WideShapes Go.ChangeAt

/-- the cells of a type are those of a plain value, of which 'wf' holds, and which weighs 'N' -/
def Dec (P : Program) (t : TypeId) {α : Type} (F : Hl → List Value → α → Prop) (wf : α → Prop) (N : α → List Nat) : Prop :=
  ∀ (H : Type) (enc : TypeId × Value → H) (w : World) (base : Nat) (spare : Nat → Bool) (held : Bool) (fuel : Nat) (cs : List Value) (x : DataW H × List MemPlace), DataW.trod enc P w base spare held fuel t cs = some x →
    ∃ a, F (hp w) cs a ∧ wf a ∧ ∀ R, (∀ n ∈ x.1.weights P t, n ≤ R) → ∀ n ∈ N a, n ≤ R

section
variable {P : Program} {t : TypeId}
theorem dec_int {k : IntKind} (ht : P.underlying t = some (.int k)) : Dec P t (fun _ cs (n : Int) => cs = [.int k n]) (fun n => (Lit.int k n).wf = true) (fun _ => []) := by
  intro H enc w base spare held fuel cs x h
  obtain ⟨n, rfl, rfl, hw⟩ := DataW.trod_int ht h
  exact ⟨n, rfl, hw, fun R _ m hm => by cases hm⟩
theorem dec_bool (ht : P.underlying t = some .bool) : Dec P t (fun _ cs (b : Bool) => cs = [.bool b]) (fun _ => True) (fun _ => []) := by
  intro H enc w base spare held fuel cs x h
  obtain ⟨n, rfl, rfl⟩ := DataW.trod_bool ht h
  exact ⟨n, rfl, trivial, fun R _ m hm => by cases hm⟩
theorem dec_str (ht : P.underlying t = some .string) : Dec P t (fun _ cs (s : ByteArray) => cs = [.string s]) (fun _ => True) (fun s => [s.size]) := by
  intro H enc w base spare held fuel cs x h
  obtain ⟨s, rfl, rfl, hw⟩ := DataW.trod_string ht h
  refine ⟨s, rfl, trivial, fun R hR m hm => ?_⟩
  rw [List.mem_singleton] at hm
  subst hm
  exact hR _ (by simp [DataW.weights])

theorem list_choose {α : Type} {p : Nat → α → Prop} : ∀ (n : Nat), (∀ i, i < n → ∃ a, p i a) → ∃ l : List α, l.length = n ∧ ∀ i a, l[i]? = some a → p i a
  | 0, _ => ⟨[], rfl, fun i a h => by cases h⟩
  | n + 1, h => by
    obtain ⟨l, hl, hp⟩ := list_choose n fun i hi => h i (by omega)
    obtain ⟨a, ha⟩ := h n (by omega)
    refine ⟨l ++ [a], by simp [hl], fun i b hb => ?_⟩
    by_cases hi : i < n
    · rw [List.getElem?_append_left (by omega)] at hb; exact hp i b hb
    · rw [List.getElem?_append_right (by omega)] at hb
      have : i = n := by have := (List.getElem?_eq_some_iff.1 hb).1; simp at this; omega
      subst this
      rw [hl, Nat.sub_self] at hb
      cases hb; exact ha

theorem dec_slice {α : Type} {E : TypeId} (e : Enc α) {wf : α → Prop} {N : α → List Nat} (hD : Dec P E (fun _ cs a => cs = e.f a) wf N) (ht : P.underlying t = some (.slice E)) (hsz : P.cellsOf E = e.sz) :
    Dec P t (fun I cs l => ∃ p c, cs = [.slice p l.length c] ∧ ro I e p c l) (fun l => ∀ a ∈ l, wf a) (fun l => l.length * P.bytesOf E :: l.flatMap N) := by
  intro H enc w base spare held fuel cs x h
  rcases DataW.trod_slice ht h with ⟨rfl, rfl⟩ | ⟨a, len, cap, elems, rest, n, _, rfl, rfl, hb, hl, hm, hlen, hel, hsp, hns⟩
  · exact ⟨[], ⟨none, 0, rfl, ro_nil _ _⟩, (fun a ha => by cases ha), fun R hR m hm => by simp at hm; omega⟩
  have each : ∀ i, i < len → ∃ z : α, ∃ y cs', elems[i]? = some y ∧ w.cells? base (a.add (i * e.sz)) e.sz = some cs' ∧ cs' = e.f z ∧ wf z ∧ ∀ R, (∀ n ∈ y.1.weights P E, n ≤ R) → ∀ n ∈ N z, n ≤ R := by
    intro i hi
    have h1 := hel i hi
    rw [List.getElem?_eq_getElem (by omega), hsz, Option.bind_eq_some_iff] at h1
    obtain ⟨cs', h2, h3⟩ := h1
    obtain ⟨z, hz, hw, hN⟩ := hD H enc w base spare held n cs' _ h3
    exact ⟨z, _, cs', List.getElem?_eq_getElem (by omega), h2, hz, hw, hN⟩
  obtain ⟨l, hll, hl2⟩ := list_choose len each
  have hget : ∀ z ∈ l, ∃ i, i < len ∧ l[i]? = some z := fun z hz => by
    obtain ⟨i, hi⟩ := List.getElem?_of_mem hz
    exact ⟨i, by have := (List.getElem?_eq_some_iff.1 hi).1; omega, hi⟩
  refine ⟨l, ⟨some a, cap, by rw [hll], by omega, hm, (fun h => by cases h), fun j v hj => ⟨a, rfl, ?_⟩⟩, fun z hz => ?_, fun R hR m hm => ?_⟩
  · have hjl : j < l.length * e.sz := by
      have := (List.getElem?_eq_some_iff.1 hj).1
      rwa [Enc.all_length] at this
    have hq : (j / e.sz) * e.sz + j % e.sz = j := by rw [Nat.mul_comm]; exact Nat.div_add_mod j e.sz
    have hr : j % e.sz < e.sz := Nat.mod_lt _ e.pos
    have hd : j / e.sz < l.length := Nat.div_lt_of_lt_mul (by rw [Nat.mul_comm]; exact hjl)
    obtain ⟨y, cs', _, h2, h3, _⟩ := hl2 (j / e.sz) _ (List.getElem?_eq_getElem hd)
    have hg := Enc.all_get e (List.getElem?_eq_getElem hd) (j % e.sz) hr
    rw [hq, hj, ← h3] at hg
    have hcell := (World.cells?_some h2).2.2 (j % e.sz) hr
    rw [add_add, hq, ← hg] at hcell
    rw [cellOf_hp]
    exact hcell
  · obtain ⟨i, hi, hz⟩ := hget z hz
    obtain ⟨y, cs', _, _, _, hw, _⟩ := hl2 i z hz
    exact hw
  · have hel2 : ∀ y ∈ elems, ∀ n ∈ y.1.weights P E, n ≤ R := fun y hy n hn => hR n (by
      simp only [DataW.weights, ht, List.mem_cons, List.mem_append]
      exact Or.inr (Or.inl (weights_mem_all (d := y.1) (List.mem_map.2 ⟨y, hy, rfl⟩) n hn)))
    rcases List.mem_cons.1 hm with rfl | hm
    · have := hR ((elems.length + rest.length) * P.bytesOf E) (by simp [DataW.weights, ht])
      refine Nat.le_trans (Nat.mul_le_mul_right _ ?_) this
      omega
    · obtain ⟨z, hz, hm⟩ := List.mem_flatMap.1 hm
      obtain ⟨i, hi, hz⟩ := hget z hz
      obtain ⟨y, cs', hy, _, _, _, hN⟩ := hl2 i z hz
      exact hN R (hel2 y (List.mem_of_getElem? hy)) m hm

/-- a run of cells, in parts -/
def cparts : List Nat → Nat → List Value → List (List Value)
  | [], _, _ => []
  | s :: r, o, cs => (cs.drop o).take s :: cparts r (o + s) cs
theorem cells_parts : ∀ (ss : List Nat) (o : Nat) (cs : List Value), cs.length = o + ss.sum → cs.drop o = (cparts ss o cs).flatten
  | [], o, cs, h => by simp at h; simp [cparts, h]
  | s :: r, o, cs, h => by
    simp only [cparts, List.flatten_cons]
    rw [← cells_parts r (o + s) cs (by simp at h; omega), ← List.drop_drop, List.take_append_drop]
theorem weights_agg {H : Type} {fs : Array Field} {xs : List (DataW H × List MemPlace)} {R : Nat} (ht : P.underlying t = some (.struct fs)) (hR : ∀ n ∈ (DataW.agg (xs.map (·.1))).weights P t, n ≤ R) {j : Nat} {f : Field} {y : DataW H × List MemPlace} (hf : fs[j]? = some f) (hy : xs[j]? = some y) : ∀ n ∈ y.1.weights P f.type, n ≤ R := fun n hn => hR n (by
  simp only [DataW.weights, ht]
  exact DataW.weights_mem_each (by rw [List.getElem?_map, Array.getElem?_toList, hf]; rfl) (by rw [List.getElem?_map, hy]; rfl) n hn)
theorem get_some {α : Type} {l : List α} {n : Nat} (h : l.length = n) (i : Nat) (hi : i < n) : ∃ y, l[i]? = some y := ⟨_, List.getElem?_eq_getElem (by omega)⟩
theorem arr_of {cs : Array Value} {l : List Value} (h : cs.toList = l) : cs = l.toArray := by rw [← h]
theorem sized_dec {H : Type} {ts : List TypeId} {ds : List (DataW H)} (h : (DataW.weightsEach P ts ds).all (· ≤ reachBytes) = true) {j : Nat} {x : DataW H} (ht : ts[j]? = some t) (hd : ds[j]? = some x) {N : List Nat} (hN : ∀ R, (∀ n ∈ x.weights P t, n ≤ R) → ∀ n ∈ N, n ≤ R) : ∀ n ∈ N, n ≤ 140737488351232 :=
  hN 140737488351232 fun n hn => of_decide_eq_true (List.all_eq_true.1 h _ (DataW.weights_mem_each ht hd n hn))
end
end Go.Fw

/- Slices of three bounds; open regions where one of several operations is done next. -/
namespace Go.Fw
set_option linter.all false
open Go Go.RowKit
section
variable {P : Program} {ops : Array Oper} {Q : Exit → Act → World → Prop} {i n tl : Nat} {L : Slots} {S : World → Prop} {o : Oper} {w0 : World} {H : List HP} {K : Act → World → Prop} {α : Type} {e : Enc α} {E : Nat} {p : Option Addr} {c : Nat} {l : List α} {I : Hl}

theorem run_bounds3 {w : World} {len cap : Nat} {lo : Option Operand} {hi mx : Operand} {a b m : Int} (ha : bnd L 0 lo = some a) (hb : bnd L len (some hi) = some b) (hm : bnd L len (some mx) = some m) (h0 : 0 ≤ a) (hab : a ≤ b) (hbm : b ≤ m) (hbc : m ≤ cap) :
    (Instr.sliceBounds true len cap (lo.map (rho L)) (some (rho L hi)) (some (rho L mx))).run P w = .ok (a.toNat, b.toNat, m.toNat) w := by
  have h1 : (0 : Int) ≤ b := by omega
  have h3 : (0 : Int) ≤ m := by omega
  have h2 : a ≤ max b 0 := by omega
  have h4 : b ≤ max m 0 := by omega
  simp only [bnd] at hb hm
  cases hy : rho L hi <;> rw [hy] at hb <;> simp only [Option.some.injEq] at hb <;> first | (cases hb; done) | skip
  cases hz : rho L mx <;> rw [hz] at hm <;> simp only [Option.some.injEq] at hm <;> first | (cases hm; done) | skip
  subst hb; subst hm
  cases lo with
  | none => simp only [bnd, Option.some.injEq] at ha; subst ha; simp [Instr.sliceBounds, Instr.sliceBound, asIntOf, h1, h3, h4, hbc]
  | some x =>
    simp only [bnd] at ha
    cases hx : rho L x <;> rw [hx] at ha <;> simp only [Option.some.injEq] at ha <;> first | (cases ha; done) | skip
    subst ha
    simp [Instr.sliceBounds, Instr.sliceBound, asIntOf, hx, h0, h1, h2, h3, h4, hbc]

/-- 's[a:b:m]' of a slice that is never written -/
theorem q_slice3_ro {t : TypeId} {x : Operand} {lo : Option Operand} {hi mx : Operand} {a b m : Int} (sz : Nat) (hr : ro I e p c l) (hop : o.op = .slice t x lo (some hi) (some mx)) (hsl : slOf P t = some (E, sz)) (hsz : e.sz = sz) (hx : rho L x = .slice p l.length c)
    (ha : bnd L 0 lo = some a) (hb : bnd L l.length (some hi) = some b) (hm : bnd L l.length (some mx) = some m) (h0 : 0 ≤ a) (hab : a ≤ b) (hbm : b ≤ m) (hbc : m ≤ l.length) :
    ∃ p' c', ro I e p' c' ((l.drop a.toNat).take (b.toNat - a.toNat)) ∧ RunIs P S L o (.slice p' ((l.drop a.toNat).take (b.toNat - a.toNat)).length c') := by
  subst hsz
  obtain ⟨hu, inf, hi', hisz⟩ := slOf_spec hsl
  have hlc := hr.le
  have hlen : ((l.drop a.toNat).take (b.toNat - a.toNat)).length = b.toNat - a.toNat := by simp; omega
  refine ⟨if m.toNat = a.toNat then p else p.map (·.add (a.toNat * e.sz)), m.toNat - a.toNat, ⟨by rw [hlen]; omega, by have := hr.max; omega, fun hn => ?_, fun j v hj => ?_⟩, fun w _ => ?_⟩
  · split at hn
    · omega
    · cases p with
      | none => have := hr.nil rfl; omega
      | some q => cases hn
  · rw [Enc.all_take, Enc.all_drop] at hj
    rw [List.getElem?_take] at hj
    split at hj <;> first | (cases hj; done) | skip
    rename_i hjl
    rw [List.getElem?_drop] at hj
    obtain ⟨q, hq, hcell⟩ := hr.cells _ _ hj
    subst hq
    have hne : m.toNat ≠ a.toNat := by
      intro hc
      have : b.toNat - a.toNat = 0 := by omega
      rw [this] at hjl; omega
    rw [if_neg hne]
    exact ⟨_, rfl, by rw [add_add]; exact hcell⟩
  · rw [hlen]
    have hbd := run_bounds3 (P := P) (w := w) (len := l.length) (cap := c) ha hb hm h0 hab hbm (by omega)
    simp [execOp, hop, hx, Instr.sliceAt, Instr.slice, run_underlying hu, hbd, sizeOf, typeInfo, hi', hisz]
theorem pw_slice3_ro {t : TypeId} {x : Operand} {lo : Option Operand} {hi mx : Operand} {a b m : Int} (sz : Nat) (hr : ro I e p c l) (ho : ops[i]? = some o) (hop : o.op = .slice t x lo (some hi) (some mx)) (hd : dstOk n o.dst = true) (hw : wantedL ops L o = some true) (hkn : knows L o = true)
    (hsl : slOf P t = some (E, sz)) (hsz : e.sz = sz) (hx : rho L x = .slice p l.length c) (ha : bnd L 0 lo = some a) (hb : bnd L l.length (some hi) = some b) (hm : bnd L l.length (some mx) = some m) (hc : 0 ≤ a ∧ a ≤ b ∧ b ≤ m ∧ m ≤ l.length)
    (h : ∀ p' c', ro I e p' c' ((l.drop a.toNat).take (b.toNat - a.toNat)) → NW K n (putL o.dst (.slice p' ((l.drop a.toNat).take (b.toNat - a.toNat)).length c') L) S) : PW P ops Q i n L S K := by
  obtain ⟨p', c', h1, h2⟩ := q_slice3_ro (P := P) (S := S) sz hr hop hsl hsz hx ha hb hm hc.1 hc.2.1 hc.2.2.1 hc.2.2.2
  exact pw_quiet ho hd hw hkn h2 (h p' c' h1)
theorem aw_slice3_ro (i : Nat) {T : World → Prop} {f mm mm' : Nat} {t : TypeId} {x : Operand} {lo : Option Operand} {hi mx : Operand} {a b m : Int} (sz : Nat) (hr : ro I e p c l) (ho : ops[i]? = some o) (hop : o.op = .slice t x lo (some hi) (some mx)) (hd : dstOk n o.dst = true) (hw : wantedL ops L o = some true) (hkn : knows L o = true)
    (hmay : mayNow ops tl mm i = true) (hm' : mm ||| 2 ^ i = mm') (hQ : Calm Q) (hT : ∀ w, S w → T w)
    (hsl : slOf P t = some (E, sz)) (hsz : e.sz = sz) (hx : rho L x = .slice p l.length c) (ha : bnd L 0 lo = some a) (hb : bnd L l.length (some hi) = some b) (hm : bnd L l.length (some mx) = some m) (hc : 0 ≤ a ∧ a ≤ b ∧ b ≤ m ∧ m ≤ l.length)
    (h : ∀ p' c', ro I e p' c' ((l.drop a.toNat).take (b.toNat - a.toNat)) → AW P ops Q tl T f mm' n (putL o.dst (.slice p' ((l.drop a.toNat).take (b.toNat - a.toNat)).length c') L) S) : AW P ops Q tl T (f + 1) mm n L S := by
  obtain ⟨p', c', h1, h2⟩ := q_slice3_ro (P := P) (S := fun _ => True) sz hr hop hsl hsz hx ha hb hm hc.1 hc.2.1 hc.2.2.1 hc.2.2.2
  exact aw_pure i ho hd hw hkn hmay hm' hQ hT h2 (h p' c' h1)

/-- where one of several is done next -/
theorem aw_many (is : List Nat) {T : World → Prop} {f m : Nat} (hne : is.isEmpty = false) (hr : Region.ready .any ops (bits ops.size m) = is)
    (h : ∀ i ∈ is, PW P ops Q i n L S fun a w => (off (bits ops.size (m ||| 2 ^ i)) tl → T w) ∧ wpAnyT P ops Q tl T f (bits ops.size (m ||| 2 ^ i)) a w) : AW P ops Q tl T (f + 1) m n L S := by
  intro a w hf hs
  have hk : (Region.ready .any ops (bits ops.size m) = [] → Q .normal a w) ∧
      ∀ j ∈ Region.ready .any ops (bits ops.size m), wpOp P ops Q j (fun a' w' => (off ((bits ops.size m).setIfInBounds j true) tl → T w') ∧ wpAnyT P ops Q tl T f ((bits ops.size m).setIfInBounds j true) a' w') a w := by
    refine ⟨(fun h0 => by rw [hr] at h0; subst h0; cases hne), fun j hj => ?_⟩
    rw [hr] at hj
    rw [bits_set]
    exact h j hj a w hf hs
  exact hk
theorem aw_two (i j : Nat) {T : World → Prop} {f m mi mj : Nat} (hr : Region.ready .any ops (bits ops.size m) = [i, j]) (hi : m ||| 2 ^ i = mi) (hj : m ||| 2 ^ j = mj)
    (h1 : PW P ops Q i n L S fun a w => (off (bits ops.size mi) tl → T w) ∧ wpAnyT P ops Q tl T f (bits ops.size mi) a w)
    (h2 : PW P ops Q j n L S fun a w => (off (bits ops.size mj) tl → T w) ∧ wpAnyT P ops Q tl T f (bits ops.size mj) a w) : AW P ops Q tl T (f + 1) m n L S := by
  subst hi; subst hj
  refine aw_many [i, j] rfl hr fun k hk => ?_
  simp only [List.mem_cons, List.not_mem_nil, or_false] at hk
  rcases hk with rfl | rfl
  · exact h1
  · exact h2
theorem aw_three (i j k : Nat) {T : World → Prop} {f m mi mj mk : Nat} (hr : Region.ready .any ops (bits ops.size m) = [i, j, k]) (hi : m ||| 2 ^ i = mi) (hj : m ||| 2 ^ j = mj) (hk : m ||| 2 ^ k = mk)
    (h1 : PW P ops Q i n L S fun a w => (off (bits ops.size mi) tl → T w) ∧ wpAnyT P ops Q tl T f (bits ops.size mi) a w)
    (h2 : PW P ops Q j n L S fun a w => (off (bits ops.size mj) tl → T w) ∧ wpAnyT P ops Q tl T f (bits ops.size mj) a w)
    (h3 : PW P ops Q k n L S fun a w => (off (bits ops.size mk) tl → T w) ∧ wpAnyT P ops Q tl T f (bits ops.size mk) a w) : AW P ops Q tl T (f + 1) m n L S := by
  subst hi; subst hj; subst hk
  refine aw_many [i, j, k] rfl hr fun q hq => ?_
  simp only [List.mem_cons, List.not_mem_nil, or_false] at hq
  rcases hq with rfl | rfl | rfl
  · exact h1
  · exact h2
  · exact h3
end
end Go.Fw

/- Calls whose worlds are known otherwise; a text that is built: strings.Builder. -/
namespace Go.Fw
set_option linter.all false
open Go Go.RowKit

theorem nw_state {K : Act → World → Prop} {n : Nat} {L : Slots} {S S' : World → Prop} (hs : ∀ w, S w → S' w) (h : NW K n L S') : NW K n L S := fun a w hf h' => h a w hf (hs w h')

theorem sub_below {w w' : World} (h : Below w.heap.size w w') : Hl.sub (hp w) (hp w') := fun b o e => by
  unfold hp at e ⊢
  have hlt := (Array.getElem?_eq_some_iff.1 e).1
  rw [h.block b hlt]; exact e
theorem keep_below {B : Nat} {w w' : World} (h : Below B w w') : Keep w w' := ⟨h.os, h.tape, h.output⟩
/-- a call that turns nothing of what was -/
theorem tr_below {P : Program} {f : FuncId} {args : List Value} {H : List HP} {r : Value} (h : ∀ w, Calls P f args.toArray w fun e w' => e = .returned r ∧ Below w.heap.size w w') : Tr P f args H (fun r' H' => r' = r ∧ H' = H) := by
  intro F w hs
  refine (h w).mono ?_
  rintro e w' ⟨rfl, hb⟩
  exact ⟨r, H, rfl, ⟨rfl, rfl⟩, sat_mono (sub_below hb) hs, keep_below hb⟩
theorem tr_same {P : Program} {f : FuncId} {args : List Value} {H : List HP} {r : Value} (h : ∀ w, Calls P f args.toArray w fun e w' => e = .returned r ∧ w' = w) : Tr P f args H (fun r' H' => r' = r ∧ H' = H) := by
  intro F w hs
  refine (h w).mono ?_
  rintro e w' ⟨rfl, rfl⟩
  exact ⟨r, H, rfl, ⟨rfl, rfl⟩, hs, Keep.refl _⟩

theorem tr_weak {P : Program} {f : FuncId} {args : List Value} {H : List HP} {R R' : Value → List HP → Prop} (h : Tr P f args H R) (hR : ∀ r H', R r H' → R' r H') : Tr P f args H R' := by
  intro F w hs
  refine (h F w hs).mono ?_
  rintro e w' ⟨r, H', he, hr, hs', hk⟩
  exact ⟨r, H', he, hR r H' hr, hs', hk⟩
/-- of nothing -/
def emp : HP := fun _ => True

theorem sbytes_append (a b : ByteArray) : sbytes (a ++ b) = sbytes a ++ sbytes b := by simp [sbytes]
theorem sbytes_nil {s : ByteArray} (h : sbytes s = []) : s = ByteArray.empty := by
  have : s.data.toList = [] := by simpa [sbytes] using h
  cases s with
  | mk d => apply ByteArray.ext; simp at this; simp [this]

/-! ### copyCheck -/
section
variable {P : Program} {f : FuncId} {b T : Nat} {v : Value}
theorem tr_copy_fresh (h : ∀ w : World, w.cell? ⟨b, 0, none⟩ = some (.pointer none) → w.shape? b = some (T, 2) → w.frozen? ⟨b, 0, none⟩ = false →
      Calls P f #[.pointer (some ⟨b, 0, none⟩)] w fun e w' => e = .returned (.tuple #[]) ∧ w' = w.setCell ⟨b, 0, none⟩ (.pointer (some ⟨b, 0, none⟩))) {I : Hl} {G : List HP} :
    Tr P f [.pointer (some ⟨b, 0, none⟩)] (imm I :: pt b #[.pointer none, v] T :: G) (fun r H' => r = .tuple #[] ∧ H' = imm I :: pt b #[.pointer (some ⟨b, 0, none⟩), v] T :: G) := by
  intro F w hs
  have hg := pt_in (k := 1) (H := (imm I :: pt b #[.pointer none, v] T :: G) ++ F) rfl hs
  have h0 : w.cell? ⟨b, 0, none⟩ = some (.pointer none) := by rw [cell_of hg]; rfl
  have h1 : w.shape? b = some (T, 2) := by unfold hp at hg; simp [World.shape?, hg]
  have h2 : w.frozen? ⟨b, 0, none⟩ = false := by rw [frozen_of hg]; simp
  refine (h w h0 h1 h2).mono ?_
  rintro e w' ⟨rfl, rfl⟩
  refine ⟨_, _, rfl, ⟨rfl, rfl⟩, ?_, ⟨rfl, rfl, rfl⟩⟩
  exact sat_upd_pt (k := 1) (H := (imm I :: pt b #[.pointer none, v] T :: G) ++ F) (cs' := #[.pointer (some ⟨b, 0, none⟩), v]) rfl hs (by rw [hp_setCell hg]; rfl)
theorem tr_copy_used (h : ∀ w : World, w.cell? ⟨b, 0, none⟩ = some (.pointer (some ⟨b, 0, none⟩)) → Calls P f #[.pointer (some ⟨b, 0, none⟩)] w fun e w' => e = .returned (.tuple #[]) ∧ w' = w) {I : Hl} {G : List HP} :
    Tr P f [.pointer (some ⟨b, 0, none⟩)] (imm I :: pt b #[.pointer (some ⟨b, 0, none⟩), v] T :: G) (fun r H' => r = .tuple #[] ∧ H' = imm I :: pt b #[.pointer (some ⟨b, 0, none⟩), v] T :: G) := by
  intro F w hs
  have hg := pt_in (k := 1) (H := (imm I :: pt b #[.pointer (some ⟨b, 0, none⟩), v] T :: G) ++ F) rfl hs
  refine (h w (by rw [cell_of hg]; rfl)).mono ?_
  rintro e w' ⟨rfl, rfl⟩
  exact ⟨_, _, rfl, ⟨rfl, rfl⟩, hs, Keep.refl _⟩
end

/-! ### bytes of a row of the call's own, as a text that shares them -/
section
variable {P : Program} {ops : Array Oper} {Q : Exit → Act → World → Prop} {i n : Nat} {L : Slots} {o : Oper} {w0 : World} {H : List HP} {K : Act → World → Prop} {E : Nat} {p : Option Addr} {c : Nat}

theorem sat_alloc' {w : World} (ob : Obj) (hs : Sat H (hp w)) : Sat H (hp (w.alloc ob)) := sat_drop (sat_alloc (q := emp) (ob := ob) hs trivial)
theorem pw_sliceData (k : Nat) {l : List Int} {x : Operand} {t ty : TypeId} {e' : Nat} (hk : H[k]? = some (own (eInt .u8) E p c l)) (ho : ops[i]? = some o) (hop : o.op = .call { callee := .builtin .unsafeSliceData, args := #[x], argTypes := #[t] }) (hty : o.type = ty) (hu : P.underlying ty = some (.pointer e')) (hd : dstOk n o.dst = true) (hw : wantedL ops L o = some true) (hkn : knows L o = true)
    (hx : rho L x = .slice p l.length c) (h : ∀ q : Option Addr, (l ≠ [] → q = p) → NW K n (putL o.dst (.pointer q) L) (SAT w0 H)) : PW P ops Q i n L (SAT w0 H) K := by
  refine pw_run (S' := fun u w => ∃ q : Option Addr, (l ≠ [] → q = p) ∧ u = .pointer q ∧ SAT w0 H w) ho hd hw hkn (fun w hs => ?_) fun u a w hf hs => by obtain ⟨q, hq, rfl, hs⟩ := hs; exact h q hq a w hf hs
  obtain ⟨hh, h1, h2, _⟩ := sat_at hk hs.1
  have hlc := h2.2.1
  cases p with
  | none =>
    refine ⟨.pointer none, w, ?_, none, fun _ => rfl, rfl, hs⟩
    simp [execOp, hop, hx, resolve, invoke, builtin, Lib.run_unsafeSliceData_nil, Result.andThen_ok]
  | some a =>
    by_cases hc : c = 0
    · have hl : l = [] := by cases l with
        | nil => rfl
        | cons x l => simp at hlc; omega
      rcases h2.2.2.2 with ⟨hp0, _⟩ | ⟨g, cur, fz, hp0, hg, _⟩
      · cases hp0
      cases hp0
      have hgw := h1 g _ hg
      have hsh : w.shape? g = some (E, cur.size) := by unfold hp at hgw; simp [World.shape?, hgw]
      have hr := Lib.run_unsafeSliceData_zero (P := P) (w := w) #[t] ty e' hu ⟨g, 0, none⟩ l.length (E, cur.size) hsh
      subst hc
      refine ⟨_, w.alloc (.view ⟨g, 0, none⟩ e'), ?_, some ⟨w.heap.size, 0, none⟩, fun h => absurd hl h, rfl, sat_alloc' _ hs.1, hs.2.trans ⟨rfl, rfl, rfl⟩⟩
      simp [execOp, hop, hx, resolve, invoke, builtin, hty, hr, Result.andThen_ok]
    · refine ⟨.pointer (some a), w, ?_, some a, fun _ => rfl, rfl, hs⟩
      simp [execOp, hop, hx, resolve, invoke, builtin, Lib.run_unsafeSliceData_row (P := P) (w := w) #[t] o.type a l.length c hc, Result.andThen_ok]

theorem hp_freeze {w : World} {g : Nat} {cur : Array Value} {T : TypeId} {fz : Nat × Nat} (hg : hp w g = some (.cells cur T fz)) (m : Nat) : ∃ fz', hp (w.freeze ⟨g, 0, none⟩ m) = (hp w).upd g (.cells cur T fz') := by
  obtain ⟨lo, hi⟩ := fz
  unfold World.freeze
  by_cases hm : m = 0
  · rw [if_pos hm]
    refine ⟨(lo, hi), ?_⟩
    funext c; unfold Hl.upd; split
    · rename_i h; subst h; exact hg
    · rfl
  · rw [if_neg hm]
    refine ⟨if lo == hi then (0, 0 + m) else (min lo 0, max hi (0 + m)), ?_⟩
    · funext c
      unfold hp at hg
      unfold hp Hl.upd
      simp only [Array.getElem?_modify]
      by_cases h : g = c
      · subst h; rw [if_pos rfl, if_pos rfl, hg]; rfl
      · rw [if_neg h, if_neg (fun e => h e.symm)]

theorem pw_unsafeString (k : Nat) {s : ByteArray} {x y : Operand} {pt it ty : TypeId} {kd : IntKind} {q : Option Addr} (hq : sbytes s ≠ [] → q = p) (hk : H[k]? = some (own (eInt .u8) E p c (sbytes s))) (ho : ops[i]? = some o) (hop : o.op = .call { callee := .builtin .unsafeString, args := #[x, y], argTypes := #[pt, it] }) (hu : P.underlying pt = some (.pointer E)) (hcl : P.cellsOf E = 1) (hd : dstOk n o.dst = true) (hw : wantedL ops L o = some true) (hkn : knows L o = true)
    (hx : rho L x = .pointer q) (hy : rho L y = .int .i64 ((sbytes s).length : Int)) (h : NW K n (putL o.dst (.string s) L) (SAT w0 (H.set k emp))) : PW P ops Q i n L (SAT w0 H) K := by
  refine pw_run (S' := fun u w => u = .string s ∧ SAT w0 (H.set k emp) w) ho hd hw hkn (fun w hs => ?_) fun u a w hf hs => by obtain ⟨rfl, hs⟩ := hs; exact h a w hf hs
  have hemp : SAT w0 (H.set k emp) w := ⟨sat_set hk hs.1 fun hh hsub _ => ⟨hh, hsub, trivial, fun b o e1 e2 => ⟨e1, e2⟩⟩, hs.2⟩
  obtain ⟨hh, h1, h2, _⟩ := sat_at hk hs.1
  by_cases h0 : sbytes s = []
  · have hs0 := sbytes_nil h0
    subst hs0
    refine ⟨_, w, ?_, rfl, hemp⟩
    have hr := Lib.run_unsafeString_none (P := P) (w := w) pt it o.type q
    have : ((sbytes ByteArray.empty).length : Int) = 0 := rfl
    rw [this] at hy
    simp [execOp, hop, hx, hy, resolve, invoke, builtin, hr, Result.andThen_ok]
  · have hqp := hq h0
    subst hqp
    rcases h2.2.2.2 with ⟨_, hc0⟩ | ⟨g, cur, fz, hp0, hg, hsoft, hcs, htk⟩
    · have := h2.2.1
      have : (sbytes s).length = 0 := by omega
      exact absurd (List.length_eq_zero_iff.1 this) h0
    have hgw := h1 g _ hg
    have hlen : (sbytes s).length = s.data.toList.length := by simp [sbytes]
    have hsh : w.shape? g = some (E, cur.size) := by unfold hp at hgw; simp [World.shape?, hgw]
    have hmax := h2.2.2.1
    have hlc := h2.2.1
    have hr := Lib.run_unsafeString_row (P := P) w pt it o.type E hu hcl g cur.size hsh s.data.toList (fun e => h0 (by simp [sbytes, e])) (by rw [hcs, ← hlen]; simp only [eInt, Nat.mul_one]; exact hlc) (by rw [← hlen]; unfold maxLen at hmax; omega) (fun j x hj => by
      rw [add_lit, cell_of hgw, Nat.zero_add]
      have h3 : ((eInt .u8).all (sbytes s))[j]? = some (.int .u8 x.toNat) := by rw [all_u8]; simp [sbytes, hj]
      rw [← htk, List.getElem?_take] at h3
      split at h3
      · simpa using h3
      · cases h3)
    subst hp0
    obtain ⟨fz', hfz⟩ := hp_freeze hgw s.data.toList.length
    refine ⟨_, w.freeze ⟨g, 0, none⟩ s.data.toList.length, ?_, rfl, ?_, hs.2.trans ⟨by unfold World.freeze; split <;> rfl, by unfold World.freeze; split <;> rfl, by unfold World.freeze; split <;> rfl⟩⟩
    · rw [hlen] at hy
      generalize s.data.toList.length = m at hr hy ⊢
      have hs8 : (⟨s.data.toList.toArray⟩ : ByteArray) = s := by cases s; simp
      rw [hs8] at hr
      simp [execOp, hop, hx, hy, resolve, invoke, builtin, hr, Result.andThen_ok]
    · refine sat_set hk hs.1 fun h hsub ho2 => ?_
      rcases ho2.2.2.2 with ⟨hp1, _⟩ | ⟨g5, cur5, fz5, hp5, hg5, _⟩
      · cases hp1
      cases hp5
      refine ⟨h.upd g (.cells cur E fz'), fun b ob hbo => ?_, trivial, fun b ob e1 e2 => ?_⟩
      · rw [hfz]
        unfold Hl.upd at hbo ⊢
        by_cases hbg : b = g
        · rw [if_pos hbg] at hbo ⊢; exact hbo
        · rw [if_neg hbg] at hbo ⊢; exact hsub b ob hbo
      · have hbg : b ≠ g := by intro hb; subst hb; rw [hg5] at e2; cases e2
        rw [hfz]; unfold Hl.upd; rw [if_neg hbg, if_neg hbg]; exact ⟨e1, e2⟩
end

section
variable {P : Program} {ops : Array Oper} {Q : Exit → Act → World → Prop} {i n : Nat} {L : Slots} {o : Oper} {w0 : World} {H : List HP} {K : Act → World → Prop} {E : Nat} {p : Option Addr} {c : Nat}
theorem pw_uString (k : Nat) {l : List Int} {x y : Operand} {pt it : TypeId} {q : Option Addr} (hl : l = sbytes (bstr l)) (hq : l ≠ [] → q = p) (hk : H[k]? = some (own (eInt .u8) E p c l)) (ho : ops[i]? = some o) (hop : o.op = .call { callee := .builtin .unsafeString, args := #[x, y], argTypes := #[pt, it] }) (hu : P.underlying pt = some (.pointer E)) (hcl : P.cellsOf E = 1) (hd : dstOk n o.dst = true) (hw : wantedL ops L o = some true) (hkn : knows L o = true)
    (hx : rho L x = .pointer q) (hy : rho L y = .int .i64 (l.length : Int)) (h : NW K n (putL o.dst (.string (bstr l)) L) (SAT w0 (H.set k emp))) : PW P ops Q i n L (SAT w0 H) K := by
  generalize bstr l = s at hl h
  subst hl
  exact pw_unsafeString k (ty := 0) (kd := .i64) hq hk ho hop hu hcl hd hw hkn hx hy h
end
theorem bstr_sbytes (s : ByteArray) : bstr (sbytes s) = s := by
  have h : ∀ (l : List UInt8) (r : ByteArray), (l.map fun b => (b.toNat : Int)).foldl (fun r n => r.push (UInt8.ofNat n.toNat)) r = ⟨(r.data.toList ++ l).toArray⟩ := by
    intro l
    induction l with
    | nil => intro r; cases r; simp
    | cons b l ih => intro r; rw [List.map_cons, List.foldl_cons, ih]; cases r; simp [ByteArray.push]
  unfold bstr sbytes
  rw [h]
  cases s with
  | mk d => apply ByteArray.ext; apply Array.ext'; simp [ByteArray.empty, ByteArray.emptyWithCapacity]; rfl

/-! ### strings.Builder -/
/-- A TEXT THAT IS BUILT -/
def bld (T E : Nat) (b : Nat) (s : ByteArray) : HP := fun h => ∃ ad p c, (ad = none ∨ ad = some ⟨b, 0, none⟩) ∧ Sat [pt b #[.pointer ad, .slice p (sbytes s).length c] T, own (eInt .u8) E p c (sbytes s)] h
theorem sat_bld {T E b : Nat} {s : ByteArray} {I : Hl} {F : List HP} {g : Hl} (hs : Sat (imm I :: bld T E b s :: F) g) :
    ∃ ad p c, (ad = none ∨ ad = some ⟨b, 0, none⟩) ∧ Sat (imm I :: pt b #[.pointer ad, .slice p (sbytes s).length c] T :: own (eInt .u8) E p c (sbytes s) :: F) g := by
  obtain ⟨h, h1, ⟨ad, p, c, ha, h2⟩, h3⟩ := sat_swap hs
  refine ⟨ad, p, c, ha, ?_⟩
  have := sat_join (r := imm I :: F) h1 h2 h3
  refine sat_perm (l := [pt b #[.pointer ad, .slice p (sbytes s).length c] T, own (eInt .u8) E p c (sbytes s)] ++ imm I :: F) ?_ this
  exact (List.perm_append_comm (l₁ := [pt b #[.pointer ad, .slice p (sbytes s).length c] T, own (eInt .u8) E p c (sbytes s)]) (l₂ := [imm I])).append_right F
theorem bld_sat {T E b : Nat} {s : ByteArray} {p : Option Addr} {c : Nat} {ad : Option Addr} (ha : ad = none ∨ ad = some ⟨b, 0, none⟩) {I : Hl} {F : List HP} {g : Hl} (hs : Sat (imm I :: pt b #[.pointer ad, .slice p (sbytes s).length c] T :: own (eInt .u8) E p c (sbytes s) :: F) g) : Sat (imm I :: bld T E b s :: F) g := by
  have h0 := sat_perm (l' := [pt b #[.pointer ad, .slice p (sbytes s).length c] T, own (eInt .u8) E p c (sbytes s)] ++ imm I :: F)
    ((List.perm_append_comm (l₁ := [imm I]) (l₂ := [pt b #[.pointer ad, .slice p (sbytes s).length c] T, own (eInt .u8) E p c (sbytes s)])).append_right F) hs
  obtain ⟨h, h1, h2, h3⟩ := sat_part h0
  exact sat_swap ⟨h, h1, ⟨ad, p, c, ha, h2⟩, h3⟩
theorem bld_new {T E b : Nat} {w0 w : World} {F : List HP} (hs : SAT w0 (pt b #[.pointer none, .slice none 0 0] T :: F) w) : SAT w0 (bld T E b ByteArray.empty :: F) w := by
  obtain ⟨⟨h, h1, h2, h3⟩, hk⟩ := hs
  exact ⟨⟨h, h1, ⟨none, none, 0, .inl rfl, h, Hl.sub_refl _, h2, fun _ => none, (fun _ _ e => by cases e), own_nil _ _ _, trivial⟩, h3⟩, hk⟩
/-- so many of a text -/
def repB (s : ByteArray) (n : Nat) : ByteArray := ⟨(Lib.repeatL s.data.toList n).toArray⟩
end Go.Fw

/- Plain words, more: rounds over a list; what maps hold; texts. -/
namespace Go.Fw
set_option linter.all false
open Go Go.RowKit

/-- rounds over a list, which may be left -/
def foldE {α τ ρ : Type} (step : Nat → τ → α → τ ⊕ ρ) (fin : τ → ρ) : List α → Nat → τ → ρ
  | [], _, t => fin t
  | y :: l, i, t => match step i t y with
    | .inl t' => foldE step fin l (i + 1) t'
    | .inr r => r
theorem iter_fold {α τ ρ σ : Type} {f : σ → Option (σ ⊕ ρ)} (mk : Nat → τ → σ) (step : Nat → τ → α → τ ⊕ ρ) (fin : τ → ρ) (I : Nat → τ → Prop) (l : List α)
    (h : ∀ i t y, I i t → l[i]? = some y → f (mk i t) = some (match step i t y with | .inl t' => .inl (mk (i + 1) t') | .inr r => .inr r) ∧ ∀ t', step i t y = .inl t' → I (i + 1) t')
    (hend : ∀ t, I l.length t → f (mk l.length t) = some (.inr (fin t))) {t0 : τ} (h0 : I 0 t0) : ∀ {k : Nat}, l.length < k → iter f k (mk 0 t0) = some (foldE step fin l 0 t0) := by
  have : ∀ (m : List α) (i : Nat) (t : τ), l.drop i = m → i + m.length = l.length → I i t → ∀ k, m.length < k → iter f k (mk i t) = some (foldE step fin m i t) := by
    intro m
    induction m with
    | nil =>
      intro i t hd hl hI k hk
      obtain ⟨k, rfl⟩ : ∃ j, k = j + 1 := ⟨k - 1, by simp at hk; omega⟩
      have : i = l.length := by simpa using hl
      subst this
      rw [iter, hend t hI]; rfl
    | cons y m ih =>
      intro i t hd hl hI k hk
      obtain ⟨k, rfl⟩ : ∃ j, k = j + 1 := ⟨k - 1, by simp at hk; omega⟩
      have hy : l[i]? = some y := by
        have := congrArg List.head? hd
        rw [List.head?_drop] at this
        simpa using this
      obtain ⟨h1, h2⟩ := h i t y hI hy
      rw [iter, h1]
      unfold foldE
      cases hs : step i t y with
      | inl t' =>
        refine ih (i + 1) t' ?_ (by simp at hl; omega) (h2 t' hs) k (by simp at hk; omega)
        rw [← List.drop_drop, hd]; rfl
      | inr r => rfl
  exact fun {k} hk => this l 0 t0 rfl (by simp) h0 k hk

/-- rounds, as many as may be, of which something holds -/
theorem iter_up {σ ρ : Type} {f : σ → Option (σ ⊕ ρ)} (n : Nat) (I : Nat → σ → Prop) (Q : ρ → Prop)
    (h : ∀ i s, i < n → I i s → (∃ s', f s = some (.inl s') ∧ I (i + 1) s') ∨ ∃ r, f s = some (.inr r) ∧ Q r)
    (he : ∀ s, I n s → ∃ r, f s = some (.inr r) ∧ Q r) {s0 : σ} (h0 : I 0 s0) : ∀ {k : Nat}, n < k → ∃ r, iter f k s0 = some r ∧ Q r := by
  have : ∀ m i s, i + m = n → I i s → ∀ k, m < k → ∃ r, iter f k s = some r ∧ Q r := by
    intro m
    induction m with
    | zero =>
      intro i s hi hI k hk
      obtain ⟨k, rfl⟩ : ∃ j, k = j + 1 := ⟨k - 1, by omega⟩
      have : i = n := by omega
      subst this
      obtain ⟨r, h1, h2⟩ := he s hI
      exact ⟨r, iter_stop h1, h2⟩
    | succ m ih =>
      intro i s hi hI k hk
      obtain ⟨k, rfl⟩ : ∃ j, k = j + 1 := ⟨k - 1, by omega⟩
      rcases h i s (by omega) hI with ⟨s', h1, h2⟩ | ⟨r, h1, h2⟩
      · obtain ⟨r, h3, h4⟩ := ih (i + 1) s' (by omega) h2 k (by omega)
        exact ⟨r, iter_next h1 h3, h4⟩
      · exact ⟨r, iter_stop h1, h2⟩
  exact fun {k} hk => this n 0 s0 (by omega) h0 k hk

theorem chk_pos' {c : Prop} [Decidable c] {α : Type} {x : Option α} (h : c) : chk c x = x := chk_pos h
theorem thru_inl {α β : Type} (a : α) (f : α → Option β) : thru (some (.inl a : α ⊕ β)) f = f a := rfl
theorem thru_inr {α β : Type} (b : β) (f : α → Option β) : thru (some (.inr b : α ⊕ β)) f = some b := rfl
theorem optC_none {α β : Type} (a : Option β) (b : α → Option β) : optC none a b = a := rfl
theorem optC_some {α β : Type} (x : α) (a : Option β) (b : α → Option β) : optC (some x) a b = b x := rfl
theorem wadd {i : Nat} (h : i < 9223372036854775807) : IntKind.i64.wrap ((i : Int) + 1) = ((i + 1 : Nat) : Int) := by rw [w64 (by omega) (by omega)]; omega
theorem at_nat {α : Type} {l : List α} {i : Nat} {y : α} (h : l[i]? = some y) : at_ l (i : Int) = some y := at_pos (by omega) (by rw [Int.toNat_natCast]; exact h)
theorem lt_of_get {α : Type} {l : List α} {i : Nat} {y : α} (h : l[i]? = some y) : i < l.length := (List.getElem?_eq_some_iff.1 h).1

section
variable {κ ν : Type} [DecidableEq κ]
theorem mget_cons (p : κ × ν) (l : List (κ × ν)) (k : κ) : mget (p :: l) k = if k = p.1 then some p.2 else mget l k := rfl
theorem mset_cons (p : κ × ν) (l : List (κ × ν)) (k : κ) (v : ν) : mset (p :: l) k v = if k = p.1 then (k, v) :: l else p :: mset l k v := rfl
theorem mget_mset (l : List (κ × ν)) (k k' : κ) (v : ν) : mget (mset l k v) k' = if k' = k then some v else mget l k' := by
  induction l with
  | nil => show mget [(k, v)] k' = _; rw [mget_cons]
  | cons p l ih =>
    rw [mset_cons]
    by_cases h : k = p.1
    · rw [if_pos h, mget_cons, mget_cons]
      by_cases h2 : k' = k
      · rw [if_pos h2, if_pos h2]
      · rw [if_neg h2, if_neg h2, if_neg (by rw [← h]; exact h2)]
    · rw [if_neg h, mget_cons, mget_cons, ih]
      by_cases h2 : k' = p.1
      · rw [if_pos h2, if_pos h2, if_neg (fun e => h (e.symm.trans h2))]
      · rw [if_neg h2, if_neg h2]
theorem mset_length_le (l : List (κ × ν)) (k : κ) (v : ν) : (mset l k v).length ≤ l.length + 1 := by
  induction l with
  | nil => simp [mset]
  | cons p l ih => unfold mset; split <;> simp; exact ih
theorem mhas_iff {l : List (κ × ν)} {k : κ} : mhas l k = true ↔ ∃ v, mget l k = some v := by unfold mhas; exact Option.isSome_iff_exists
theorem mgetD_some {l : List (κ × ν)} {k : κ} {v z : ν} (h : mget l k = some v) : mgetD l k z = v := by unfold mgetD; rw [h]; rfl
theorem mhas_false {l : List (κ × ν)} {k : κ} (h : mhas l k = false) : mget l k = none := by
  unfold mhas at h
  cases hg : mget l k with
  | none => rfl
  | some v => rw [hg] at h; cases h
end
theorem ofL_lit (s : ByteArray) : ofL s.data.toList = s := (ofL_surj s).symm
theorem size_ofL' (s : ByteArray) : s.data.toList.length = s.size := by rw [Array.length_toList]; rfl
theorem app_eq (a b : ByteArray) : a ++ b = ofL (a.data.toList ++ b.data.toList) := by
  conv => lhs; rw [ofL_surj a, ofL_surj b]
  rw [ofL_append]
theorem size_app (a b : ByteArray) : (a ++ b).size = a.size + b.size := by rw [app_eq, ofL_size, List.length_append, size_ofL', size_ofL']
/-- texts of one length, cut apart -/
theorem app_inj {a b c d : ByteArray} (h : a ++ b = c ++ d) (hl : a.size = c.size) : a = c ∧ b = d := by
  rw [app_eq, app_eq] at h
  have h := ofL_inj h
  have := List.append_inj h (by rw [size_ofL', size_ofL', hl])
  rw [ofL_surj a, ofL_surj b, ofL_surj c, ofL_surj d, this.1, this.2]
  exact ⟨rfl, rfl⟩
theorem seqB_false {a b : ByteArray} (h : seqB a b = false) : a ≠ b := fun e => by rw [seqB_iff.2 e] at h; cases h
end Go.Fw

/- Two structs held against one another. -/
namespace Go.Fw
set_option linter.all false
open Go Go.RowKit

def eqF (P : Program) (t : TypeId) (x y : Option Value) : Option Bool :=
  match P.underlying t, x, y with
  | some (.int _), some (.int k a), some (.int k' b) => if k = k' then some (a == b) else none
  | some .bool, some (.bool a), some (.bool b) => some (a == b)
  | some .string, some (.string a), some (.string b) => some (seqB a b)
  | _, _, _ => none
/-- are two structs of plain fields one? -/
def eqFs (P : Program) (xs ys : Array Value) : List Field → Option Bool
  | [] => some true
  | f :: fs => bif f.name == "_" then none else match eqF P f.type xs[f.offset]? ys[f.offset]? with
    | none => none
    | some b => match eqFs P xs ys fs with
      | none => none
      | some r => some (b && r)
theorem run_eqFs {P : Program} {xs ys : Array Value} (d : Nat) (w : World) : ∀ (fs : List Field) {b : Bool}, eqFs P xs ys fs = some b → (Op.eqFields (d + 1) xs ys fs).run P w = .ok b w
  | [], b, h => by cases h; rfl
  | f :: fs, b, h => by
    unfold eqFs at h
    cases hn : f.name == "_" with
    | true => rw [hn] at h; cases h
    | false =>
    rw [hn] at h
    simp only [cond_false] at h
    have hname : f.name ≠ "_" := by simpa using hn
    cases he : eqF P f.type xs[f.offset]? ys[f.offset]? with
    | none => rw [he] at h; cases h
    | some c =>
    rw [he] at h
    simp only at h
    cases hr : eqFs P xs ys fs with
    | none => rw [hr] at h; cases h
    | some r =>
    rw [hr] at h
    simp only [Option.some.injEq] at h
    subst h
    have ih := run_eqFs d w fs hr
    have key : ∀ {a b : Value}, xs[f.offset]? = some a → ys[f.offset]? = some b → (isAgg f.type).run P w = .ok false w → (Op.equalIn (d + 1) f.type a b).run P w = .ok c w → (Op.eqFields (d + 1) xs ys (f :: fs)).run P w = .ok (c && r) w := by
      intro a b hx hy ha hq
      have h1 : (part f.type xs f.offset).run P w = .ok a w := by simp [part, Sem.run_bind, ha, hx]
      have h2 : (part f.type ys f.offset).run P w = .ok b w := by simp [part, Sem.run_bind, ha, hy]
      unfold Op.eqFields
      rw [if_pos hname]
      simp only [Sem.run_bind, h1, h2, hq, Result.andThen_ok]
      cases c with
      | true => simp [ih]
      | false => simp
    unfold eqF at he
    split at he
    · rename_i hu hx hy
      split at he
      · rename_i hk
        subst hk
        have he := Option.some.inj he
        exact key hx hy (by simp [isAgg, Sem.run_bind, run_underlying hu]) (by rw [← he]; exact run_equalIn_int w d _ _ _ _ _ hu)
      · cases he
    · rename_i hu hx hy
      have he := Option.some.inj he
      exact key hx hy (by simp [isAgg, Sem.run_bind, run_underlying hu]) (by rw [← he]; exact run_equalIn_bool' w d _ _ _ hu)
    · rename_i hu hx hy
      have he := Option.some.inj he
      exact key hx hy (by simp [isAgg, Sem.run_bind, run_underlying hu]) (by rw [← he]; exact run_equalIn_string w d _ _ _ hu)
    · cases he
section
variable {P : Program} {S : World → Prop} {L : Slots} {o : Oper}
theorem q_eql_struct {t t' : TypeId} {x y : Operand} {xs ys : Array Value} {b : Bool} (hop : o.op = .binOp .eql t x y t') (hx : rho L x = .agg xs) (hy : rho L y = .agg ys) (ht : P.stoodInHeld t = false) (hg : P.eqGuardType P.depth t = false) (hf : (match P.underlying t with | some (.struct _) => true | _ => false) = true) (he : eqFs P xs ys (P.fieldsOf t).toList = some b) : RunIs P S L o (.bool b) := by
  intro w _
  have hu : P.underlying t = some (.struct (P.fieldsOf t)) := by
    unfold Program.fieldsOf
    split at hf
    · rename_i h; rw [h]
    · cases hf
  have h1 := run_eqFs (P := P) (xs := xs) (ys := ys) 9998 w _ he
  have h2 := run_equalIn_struct (P := P) w 9999 t xs ys hu ht
  rw [h1] at h2
  simp only [execOp, hop, hx, hy, Sem.run_bind, run_eqGuard_agg w .eql t x y xs ys hg, Result.andThen_ok, run_eql_struct, h2]
  rfl
theorem q_neq_struct {t t' : TypeId} {x y : Operand} {xs ys : Array Value} {b : Bool} (hop : o.op = .binOp .neq t x y t') (hx : rho L x = .agg xs) (hy : rho L y = .agg ys) (ht : P.stoodInHeld t = false) (hg : P.eqGuardType P.depth t = false) (hf : (match P.underlying t with | some (.struct _) => true | _ => false) = true) (he : eqFs P xs ys (P.fieldsOf t).toList = some b) : RunIs P S L o (.bool (!b)) := by
  intro w _
  have hu : P.underlying t = some (.struct (P.fieldsOf t)) := by
    unfold Program.fieldsOf
    split at hf
    · rename_i h; rw [h]
    · cases hf
  have h1 := run_eqFs (P := P) (xs := xs) (ys := ys) 9998 w _ he
  have h2 := run_equalIn_struct (P := P) w 9999 t xs ys hu ht
  rw [h1] at h2
  simp only [execOp, hop, hx, hy, Sem.run_bind, run_eqGuard_agg w .neq t x y xs ys hg, Result.andThen_ok, run_neq_struct, h2]
  rfl
end
end Go.Fw

/- Plain words, more: bytes as numbers, parts of texts. -/
namespace Go.Fw
set_option linter.all false
open Go Go.RowKit

def ns (l : List UInt8) : List Int := l.map fun b => (b.toNat : Int)
theorem ns_length (l : List UInt8) : (ns l).length = l.length := by simp [ns]
theorem ns_get {l : List UInt8} {i : Nat} {b : UInt8} (h : l[i]? = some b) : (ns l)[i]? = some (b.toNat : Int) := by simp [ns, h]
theorem ns_set (l : List UInt8) (i : Nat) (b : UInt8) : (ns l).set i (b.toNat : Int) = ns (l.set i b) := by simp [ns, List.map_set]
theorem bstr_ns (l : List UInt8) : bstr (ns l) = ofL l := by
  rw [bstr_ofL]
  congr 1
  unfold ns
  rw [List.map_map]
  conv => rhs; rw [← List.map_id l]
  congr 1
  funext b
  simp
theorem sbytes_ns (s : ByteArray) : sbytes s = ns s.data.toList := rfl
theorem u8w (n : Nat) : IntKind.u8.wrap (n : Int) = ((UInt8.ofNat n).toNat : Int) := by
  simp [IntKind.wrap, IntKind.bits, IntKind.signed]
theorem extract_size {s : ByteArray} {a b : Nat} (h : b ≤ s.size) : (s.extract a b).size = b - a := by
  rw [ofL_surj s, ofL_extract, ofL_size, List.length_drop, List.length_take, size_ofL']
  omega
theorem u8_lt (b : UInt8) : b.toNat < 256 := UInt8.toNat_lt b
theorem ofNat_toNat (b : UInt8) : UInt8.ofNat b.toNat = b := by simp

/-- a list of bytes as a number, the highest first -/
def valL (l : List UInt8) : Nat := l.foldl (fun n b => n * 256 + b.toNat) 0
theorem valL_snoc (l : List UInt8) (b : UInt8) : valL (l ++ [b]) = valL l * 256 + b.toNat := by simp [valL]
theorem valL_lt (l : List UInt8) : valL l < 256 ^ l.length := by
  have : ∀ (k : Nat) (l : List UInt8), l.length = k → valL l < 256 ^ k := by
    intro k
    induction k with
    | zero => intro l h; rw [List.length_eq_zero_iff.1 h]; decide
    | succ k ih =>
      intro l h
      rcases List.eq_nil_or_concat l with rfl | ⟨L, b, rfl⟩
      · simp at h
      · have hL : L.length = k := by simpa using h
        have h1 := ih L hL
        have := u8_lt b
        rw [List.concat_eq_append, valL_snoc, Nat.pow_succ]
        omega
  exact this l.length l rfl
/-- a number's bytes, the highest first, as many as it needs -/
def digG : Nat → Nat → List UInt8
  | 0, _ => []
  | f + 1, n => if n = 0 then [] else digG f (n / 256) ++ [UInt8.ofNat n]
theorem val_digG : ∀ (f n : Nat), n < 256 ^ f → valL (digG f n) = n
  | 0, n, h => by simp at h; subst h; rfl
  | f + 1, n, h => by
    unfold digG
    by_cases h0 : n = 0
    · rw [if_pos h0, h0]; rfl
    · rw [if_neg h0, valL_snoc, val_digG f (n / 256) (by rw [Nat.pow_succ] at h; omega)]
      simp; omega
theorem digG_len : ∀ (f n k : Nat), n < 256 ^ k → (digG f n).length ≤ k
  | 0, _, _, _ => Nat.zero_le _
  | f + 1, n, k, h => by
    unfold digG
    by_cases h0 : n = 0
    · rw [if_pos h0]; exact Nat.zero_le _
    · rw [if_neg h0, List.length_append, List.length_singleton]
      cases k with
      | zero => simp at h; omega
      | succ k =>
        have := digG_len f (n / 256) k (by rw [Nat.pow_succ] at h; omega)
        omega
theorem valL_zero (l : List UInt8) : valL (0 :: l) = valL l := by simp [valL]
theorem valL_pos : ∀ (k : Nat) (l : List UInt8) (b : UInt8), l.length = k → b ≠ 0 → 0 < valL (b :: l) := by
  intro k
  induction k with
  | zero =>
    intro l b h hb
    rw [List.length_eq_zero_iff.1 h]
    have : b.toNat ≠ 0 := fun h => hb (UInt8.toNat_inj.1 h)
    show 0 < 0 * 256 + b.toNat
    omega
  | succ k ih =>
    intro l b h hb
    rcases List.eq_nil_or_concat l with rfl | ⟨L, c, rfl⟩
    · simp at h
    · have := ih L b (by simpa using h) hb
      rw [List.concat_eq_append, ← List.cons_append, valL_snoc]
      omega
theorem digG_head {f n : Nat} {r : List UInt8} (h : n < 256 ^ f) : digG f n ≠ 0 :: r := by
  intro e
  have h1 := val_digG f n h
  rw [e, valL_zero] at h1
  have h2 := digG_len f n r.length (by rw [← h1]; exact valL_lt r)
  rw [e] at h2
  simp at h2
  omega
theorem dig_val : ∀ (f : Nat) (l : List UInt8), l.length ≤ f → (∀ r, l ≠ 0 :: r) → digG f (valL l) = l
  | 0, l, h, _ => by rw [List.length_eq_zero_iff.1 (Nat.le_zero.1 h)]; rfl
  | f + 1, l, h, hz => by
    rcases List.eq_nil_or_concat l with rfl | ⟨L, b, rfl⟩
    · rfl
    · rw [List.concat_eq_append] at hz h ⊢
      have hb := u8_lt b
      have hne : valL (L ++ [b]) ≠ 0 := by
        cases L with
        | nil =>
          have : b ≠ 0 := fun e => hz [] (by rw [e]; rfl)
          have := valL_pos 0 [] b rfl this
          rw [List.nil_append]; omega
        | cons a L =>
          have : a ≠ 0 := fun e => hz (L ++ [b]) (by rw [e]; rfl)
          have := valL_pos _ (L ++ [b]) a rfl this
          rw [List.cons_append]; omega
      unfold digG
      rw [if_neg hne, valL_snoc]
      have e1 : (valL L * 256 + b.toNat) / 256 = valL L := by omega
      have e2 : UInt8.ofNat (valL L * 256 + b.toNat) = b := by
        apply UInt8.toNat_inj.1
        simp
      rw [e1, e2, dig_val f L (by simp at h; omega) (fun r e => hz (r ++ [b]) (by rw [e]; rfl))]
def dig (n : Nat) : List UInt8 := digG 8 n
theorem val_dig {n : Nat} (h : n < 72057594037927936) : valL (dig n) = n := val_digG 8 n (Nat.lt_trans h (by decide))
theorem dig_len {n : Nat} (h : n < 72057594037927936) : (dig n).length ≤ 7 := digG_len 8 n 7 (Nat.lt_of_lt_of_le h (by decide))
theorem dig_of {l : List UInt8} (h : l.length ≤ 7) (hz : ∀ r, l ≠ 0 :: r) : dig (valL l) = l ∧ valL l < 72057594037927936 := by
  refine ⟨dig_val 8 l (by omega) hz, ?_⟩
  have h1 := valL_lt l
  have h2 : 256 ^ l.length ≤ 256 ^ 7 := Nat.pow_le_pow_right (by decide) h
  exact Nat.lt_of_lt_of_le h1 (Nat.le_trans h2 (by decide))
theorem dig_head {n : Nat} {r : List UInt8} (h : n < 72057594037927936) : dig n ≠ 0 :: r := digG_head (Nat.lt_trans h (by decide))
/-- a number as bytes -/
def numL (n : Nat) : List UInt8 := UInt8.ofNat (dig n).length :: dig n
theorem numL_len {n : Nat} (h : n < 72057594037927936) : 1 ≤ (numL n).length ∧ (numL n).length ≤ 8 := by
  unfold numL
  rw [List.length_cons]
  have := dig_len h
  omega
theorem numL_cut {n m : Nat} (hn : n < 72057594037927936) (hm : m < 72057594037927936) {r s : List UInt8} (h : numL n ++ r = numL m ++ s) : n = m ∧ r = s := by
  unfold numL at h
  simp only [List.cons_append, List.cons.injEq] at h
  obtain ⟨h1, h2⟩ := h
  have l1 := dig_len hn
  have l2 := dig_len hm
  have hl : (dig n).length = (dig m).length := by
    have := congrArg UInt8.toNat h1
    simp at this; omega
  obtain ⟨h3, h4⟩ := List.append_inj h2 hl
  have := congrArg valL h3
  rw [val_dig hn, val_dig hm] at this
  exact ⟨this, h4⟩
theorem or256 (t b : Nat) (hb : b < 256) : t * 256 ||| b = t * 256 + b := by
  have := Nat.two_pow_add_eq_or_of_lt (i := 8) hb t
  rw [show 2 ^ 8 = 256 from rfl] at this
  rw [Nat.mul_comm, ← this]
end Go.Fw

/- Rounds over a map of the call's own, in whichever order. -/
namespace Go.Fw
set_option linter.all false
open Go Go.RowKit Go.MapKept Go.ChangeMaps

section
variable {P : Program} {kt vt T : TypeId} {κ ν : Type} [DecidableEq κ] {kf : κ → Value} {vf : ν → Value}

/-- which entry the round has -/
def curOk (kf : κ → Value) (vf : ν → Value) (es : List MapEntry) (seen : Array Nat) (c0 clock : Nat) : Option (κ × ν) → Prop
  | none => True
  | some p => ∃ (e : MapEntry) (seen' : Array Nat), seen = seen'.push e.born ∧ e ∈ es ∧ e.key = kf p.1 ∧ e.val = vf p.2 ∧ c0 = clock
/-- A MAP THAT IS RANGED OVER: what it holds, what is left to come, which entry the round has -/
def mrg (kf : κ → Value) (vf : ν → Value) (b r : Nat) (l left : List (κ × ν)) (cur : Option (κ × ν)) : HP := fun h =>
  ∃ es clock since seen c0, h b = some (.map es clock) ∧ h r = some (.mapIter (some b) since seen c0) ∧ b ≠ r ∧ ment kf vf es.toList l ∧ Stamped es clock ∧ since ≤ c0 ∧ since ≤ clock ∧ (∀ x ∈ es.toList, x.born < since) ∧
    ment kf vf (leftOf es seen).toList left ∧ curOk kf vf es.toList seen c0 clock cur

theorem left_nil (es : Array MapEntry) : leftOf es #[] = es := by
  unfold leftOf
  refine Array.filter_eq_self.2 fun e _ => by simp
theorem ment_keys {es : List MapEntry} {l : List (κ × ν)} (h : ment kf vf es l) (hn : (es.map (·.key)).Nodup) : (l.map Prod.fst).Nodup := by
  have : es.map (·.key) = (l.map Prod.fst).map kf := by
    have := congrArg (List.map Prod.fst) h
    simpa [List.map_map, Function.comp_def] using this
  rw [this] at hn
  rw [List.nodup_iff_pairwise_ne, List.pairwise_map] at hn
  rw [List.nodup_iff_pairwise_ne]
  exact hn.imp fun h e => h (by rw [e])
theorem map_keys {w0 : World} {H : List HP} {k b : Nat} {l : List (κ × ν)} {w : World} (hk : H[k]? = some (mpo kf vf b l)) (hs : SAT w0 H w) : (l.map Prod.fst).Nodup := by
  obtain ⟨es, clock, _, he, hst⟩ := map_in hk hs.1
  exact ment_keys he hst.2.2
theorem mrg_in {H : List HP} {k b r : Nat} {l left : List (κ × ν)} {cur : Option (κ × ν)} {w : World} (hk : H[k]? = some (mrg kf vf b r l left cur)) (hs : Sat H (hp w)) :
    ∃ es clock since seen c0, hp w b = some (.map es clock) ∧ hp w r = some (.mapIter (some b) since seen c0) ∧ b ≠ r ∧ ment kf vf es.toList l ∧ Stamped es clock ∧ since ≤ c0 ∧ since ≤ clock ∧ (∀ x ∈ es.toList, x.born < since) ∧
    ment kf vf (leftOf es seen).toList left ∧ curOk kf vf es.toList seen c0 clock cur := by
  obtain ⟨h, h1, ⟨es, clock, since, seen, c0, h2, h3, h4⟩, _⟩ := sat_at hk hs
  exact ⟨es, clock, since, seen, c0, h1 b _ h2, h1 r _ h3, h4⟩

variable {ops : Array Oper} {Q : Exit → Act → World → Prop} {i n : Nat} {L : Slots} {o : Oper} {w0 : World} {H : List HP} {K : Act → World → Prop}

theorem pw_range (k : Nat) {b : Nat} {l : List (κ × ν)} {t : TypeId} {x : Operand} (ho : ops[i]? = some o) (hop : o.op = .range t x) (hd : dstOk n o.dst = true) (hw : wantedL ops L o = some true) (hkn : knows L o = true)
    (ht : mapOf P t = some (kt, vt)) (hx : rho L x = .map (some b)) (hk : H[k]? = some (mpo kf vf b l))
    (h : ∀ r : Nat, NW K n (putL o.dst (.pointer (some ⟨r, 0, none⟩)) L) (SAT w0 (H.set k (mrg kf vf b r l l none)))) : PW P ops Q i n L (SAT w0 H) K := by
  refine pw_run (S' := fun u w => ∃ r, u = .pointer (some ⟨r, 0, none⟩) ∧ SAT w0 (H.set k (mrg kf vf b r l l none)) w) ho hd hw hkn (fun w hs => ?_) fun u a w hf hs => by obtain ⟨r, rfl, hs⟩ := hs; exact h r a w hf hs
  obtain ⟨es, clock, hg, he, hst⟩ := map_in hk hs.1
  have hu := mapOf_spec ht
  refine ⟨_, w.alloc (.mapIter (some b) clock #[] clock), ?_, w.heap.size, rfl, ?_, hs.2.trans ⟨rfl, rfl, rfl⟩⟩
  · have := run_range_map (P := P) w t kt vt b es clock hu hg
    simp [execOp, hop, hx, this, Result.andThen_ok]
  · refine sat_set hk hs.1 fun hh hsub hm => ?_
    obtain ⟨es', clock', h1, h2, h3⟩ := hm
    have hbn : hh w.heap.size = none := by
      cases hc : hh w.heap.size with
      | none => rfl
      | some o' => have := hsub _ _ hc; rw [hp_size] at this; cases this
    have hne : b ≠ w.heap.size := by intro e; rw [e, hbn] at h1; cases h1
    refine ⟨hh.upd w.heap.size (.mapIter (some b) clock #[] clock), ?_, ⟨es', clock', clock, #[], clock, ?_, ?_, hne, h2, h3, Nat.le_refl _, ?_, ?_, by rw [left_nil]; exact h2, trivial⟩, ?_⟩
    · intro c o' e
      rw [hp_alloc]
      unfold Hl.upd at e ⊢
      by_cases hc : c = w.heap.size
      · rw [if_pos hc] at e ⊢; exact e
      · rw [if_neg hc] at e ⊢; exact hsub c o' e
    · unfold Hl.upd; rw [if_neg hne]; exact h1
    · unfold Hl.upd; rw [if_pos rfl]
    · have := hsub b _ h1; rw [hg] at this; cases this; exact Nat.le_refl _
    · have := hsub b _ h1; rw [hg] at this; cases this; exact hst.1
    · intro c o' e1 e2
      have hc : c ≠ w.heap.size := by intro hc; subst hc; rw [hp_size] at e1; cases e1
      rw [hp_alloc]
      unfold Hl.upd
      rw [if_neg hc, if_neg hc]
      exact ⟨e1, e2⟩

theorem left_push {es : Array MapEntry} {seen : Array Nat} {e : MapEntry} (he : e ∈ (leftOf es seen).toList) (hn : (es.toList.map (·.born)).Nodup) :
    ∃ A B, (leftOf es seen).toList = A ++ e :: B ∧ (leftOf es (seen.push e.born)).toList = A ++ B := by
  have h1 : (leftOf es (seen.push e.born)).toList = (leftOf es seen).toList.filter fun x => !(x.born == e.born) := by
    unfold leftOf
    rw [Array.toList_filter, Array.toList_filter, List.filter_filter]
    refine List.filter_congr fun x _ => ?_
    simp only [Array.contains_push]
    cases seen.contains x.born <;> simp
  have hsub : ((leftOf es seen).toList.map (·.born)).Nodup := by
    unfold leftOf
    rw [Array.toList_filter]
    exact hn.sublist (List.Sublist.map _ List.filter_sublist)
  obtain ⟨A, B, hAB⟩ := List.append_of_mem he
  refine ⟨A, B, hAB, ?_⟩
  rw [h1, hAB]
  rw [hAB] at hsub
  rw [List.map_append, List.map_cons, List.nodup_append] at hsub
  obtain ⟨_, hB, hA⟩ := hsub
  rw [List.nodup_cons] at hB
  rw [List.filter_append, List.filter_cons_of_neg (by simp)]
  congr 1
  · refine List.filter_eq_self.2 fun x hx => ?_
    have := hA x.born (List.mem_map_of_mem hx) e.born (by simp)
    simpa using this
  · refine List.filter_eq_self.2 fun x hx => ?_
    have : x.born ≠ e.born := fun h => hB.1 (by rw [← h]; exact List.mem_map_of_mem hx)
    simpa using this
theorem ment_split {A B : List MapEntry} {e : MapEntry} {l : List (κ × ν)} (h : ment kf vf (A ++ e :: B) l) : ∃ p l', l.Perm (p :: l') ∧ e.key = kf p.1 ∧ e.val = vf p.2 ∧ ment kf vf (A ++ B) l' := by
  unfold ment at h
  rw [List.map_append, List.map_cons] at h
  obtain ⟨l1, l2, rfl, h1, h2⟩ := List.map_eq_append_iff.1 h.symm
  cases l2 with
  | nil => simp at h2
  | cons p l2 =>
    simp only [List.map_cons, List.cons.injEq, Prod.mk.injEq] at h2
    refine ⟨p, l1 ++ l2, List.perm_middle, h2.1.1.symm, h2.1.2.symm, ?_⟩
    unfold ment
    rw [List.map_append, List.map_append, ← h1, ← h2.2]
theorem hp_setBlock {w : World} {r : Nat} {o1 : Obj} (o' : Obj) (hr : hp w r = some o1) : hp (setBlock w r o') = (hp w).upd r o' := by
  have hlt := (Array.getElem?_eq_some_iff.1 hr).1
  funext c
  unfold hp Hl.upd setBlock
  simp only [Array.getElem?_setIfInBounds]
  by_cases h : r = c
  · subst h; simp [hlt]
  · rw [if_neg h, if_neg (fun e => h e.symm)]

theorem pw_next (k : Nat) {b r : Nat} {l left : List (κ × ν)} {cur : Option (κ × ν)} {x : Operand} (ho : ops[i]? = some o) (hop : o.op = .next x false) (hd : dstOk n o.dst = true) (hw : wantedL ops L o = some true) (hkn : knows L o = true)
    (hx : rho L x = .pointer (some ⟨r, 0, none⟩)) (hk : H[k]? = some (mrg kf vf b r l left cur))
    (h0 : left = [] → NW K n (putL o.dst (.tuple #[.bool false]) L) (SAT w0 H))
    (h1 : ∀ (p : κ × ν) (lft : List (κ × ν)), left.Perm (p :: lft) → NW K n (putL o.dst (.tuple #[.bool true, kf p.1, vf p.2]) L) (SAT w0 (H.set k (mrg kf vf b r l lft (some p))))) : PW P ops Q i n L (SAT w0 H) K := by
  refine pw_run (S' := fun u w => (left = [] ∧ u = .tuple #[.bool false] ∧ SAT w0 H w) ∨ ∃ p lft, left.Perm (p :: lft) ∧ u = .tuple #[.bool true, kf p.1, vf p.2] ∧ SAT w0 (H.set k (mrg kf vf b r l lft (some p))) w) ho hd hw hkn (fun w hs => ?_) fun u a w hf hs => by
    rcases hs with ⟨e, rfl, hs⟩ | ⟨p, lft, e, rfl, hs⟩
    · exact h0 e a w hf hs
    · exact h1 p lft e a w hf hs
  obtain ⟨es, clock, since, seen, c0, g1, g2, g3, g4, g5, g6, g7, g8, g9, g10⟩ := mrg_in hk hs.1
  rcases run_next_at (P := P) w o.type r b since c0 seen es clock g2 g1 g8 g6 with ⟨e1, e2⟩ | ⟨e, he, w1, hw1, e2⟩
  · refine ⟨_, w, by simp [execOp, hop, hx, e2, Result.andThen_ok], .inl ⟨?_, rfl, hs⟩⟩
    have := ment_length g9
    rw [Array.length_toList, e1] at this
    exact List.length_eq_zero_iff.1 this.symm
  · obtain ⟨A, B, hAB, hAB2⟩ := left_push he g5.2.1
    rw [hAB] at g9
    obtain ⟨p, lft, hp1, hp2, hp3, hp4⟩ := ment_split g9
    have hhp : hp w1 = hp w := by rcases hw1 with rfl | rfl <;> rfl
    have hkp : Keep w w1 := by rcases hw1 with rfl | rfl <;> exact ⟨rfl, rfl, rfl⟩
    refine ⟨.tuple #[.bool true, e.key, e.val], setBlock w1 r (.mapIter (some b) since (seen.push e.born) clock), by simp [execOp, hop, hx, e2, Result.andThen_ok], .inr ⟨p, lft, hp1, by rw [hp2, hp3], ?_, hs.2.trans (hkp.trans ⟨rfl, rfl, rfl⟩)⟩⟩
    refine sat_set hk hs.1 fun hh hsub hm => ?_
    obtain ⟨es', clock', since', seen', c0', m1, m2, m3, m4, m5, m6, m7, m8, m9, m10⟩ := hm
    have q1 := hsub b _ m1
    rw [g1] at q1
    cases q1
    have q2 := hsub r _ m2
    rw [g2] at q2
    cases q2
    have hset : hp (setBlock w1 r (.mapIter (some b) since (seen.push e.born) clock)) = (hp w).upd r (.mapIter (some b) since (seen.push e.born) clock) := by
      rw [hp_setBlock _ (by rw [hhp]; exact g2), hhp]
    refine ⟨hh.upd r (.mapIter (some b) since (seen.push e.born) clock), ?_, ⟨es, clock, since, seen.push e.born, clock, ?_, ?_, g3, g4, g5, g7, g7, g8, by rw [hAB2]; exact hp4, ⟨e, seen, rfl, ?_, hp2, hp3, rfl⟩⟩, ?_⟩
    · intro c o' e'
      rw [hset]
      unfold Hl.upd at e' ⊢
      by_cases hc : c = r
      · rw [if_pos hc] at e' ⊢; exact e'
      · rw [if_neg hc] at e' ⊢; exact hsub c o' e'
    · unfold Hl.upd; rw [if_neg g3]; exact m1
    · unfold Hl.upd; rw [if_pos rfl]
    · have := he
      unfold leftOf at this
      rw [Array.toList_filter] at this
      exact (List.mem_filter.1 this).1
    · intro c o' e1 e2'
      have hc : c ≠ r := by intro hc; subst hc; rw [m2] at e2'; cases e2'
      rw [hset]
      unfold Hl.upd
      rw [if_neg hc, if_neg hc]
      exact ⟨e1, e2'⟩

theorem q_entry (k : Nat) {b r : Nat} {l left : List (κ × ν)} {p : κ × ν} {x : Operand} (hop : o.op = .entry x) (hx : rho L x = .pointer (some ⟨r, 0, none⟩)) (hk : H[k]? = some (mrg kf vf b r l left (some p))) :
    RunIs P (SAT w0 H) L o (.tuple #[kf p.1, vf p.2]) := by
  intro w hs
  obtain ⟨es, clock, since, seen, c0, g1, g2, g3, g4, g5, g6, g7, g8, g9, ⟨e, seen', rfl, he, hk1, hk2, rfl⟩⟩ := mrg_in hk hs.1
  have := run_entry_at (P := P) w r b since seen' es c0 e g2 g1 he g5.2.1
  simp [execOp, hop, hx, this, hk1, hk2, Result.andThen_ok]

theorem leftOf_erase {es : Array MapEntry} {seen : Array Nat} {j : Nat} {e : MapEntry} (hj : es.toList[j]? = some e) (hs : seen.contains e.born = true) : (leftOf (es.eraseIdxIfInBounds j) seen).toList = (leftOf es seen).toList := by
  unfold leftOf
  rw [Array.toList_filter, Array.toList_filter, Array.toList_eraseIdxIfInBounds]
  generalize es.toList = l at hj
  induction l generalizing j with
  | nil => simp at hj
  | cons x l ih =>
    cases j with
    | zero =>
      simp at hj
      subst hj
      rw [List.eraseIdx_cons_zero, List.filter_cons_of_neg (by rw [hs]; decide)]
    | succ j =>
      simp at hj
      rw [List.eraseIdx_cons_succ, List.filter_cons, List.filter_cons, ih hj]
/-- the round's own entry is taken away -/
theorem pw_mapDel_cur (k : Nat) {b r : Nat} {l left : List (κ × ν)} {p : κ × ν} {t t2 : TypeId} {x y : Operand} (MK : MKey P kt kf) (ho : ops[i]? = some o) (hop : o.op = .call { callee := .builtin .delete, args := #[x, y], argTypes := #[t, t2] }) (hd : dstOk n o.dst = true) (hw : wantedL ops L o = some true) (hkn : knows L o = true)
    (ht : mapOf P t = some (kt, vt)) (hx : rho L x = .map (some b)) (hy : rho L y = kf p.1) (hk : H[k]? = some (mrg kf vf b r l left (some p)))
    (h : NW K n (putL o.dst (.tuple #[]) L) (SAT w0 (H.set k (mrg kf vf b r (mdel l p.1) left none)))) : PW P ops Q i n L (SAT w0 H) K := by
  refine pw_run (S' := fun u w => u = .tuple #[] ∧ SAT w0 (H.set k (mrg kf vf b r (mdel l p.1) left none)) w) ho hd hw hkn (fun w hs => ?_) fun u a w hf hs => by obtain ⟨rfl, hs⟩ := hs; exact h a w hf hs
  obtain ⟨es, clock, since, seen, c0, g1, g2, g3, g4, g5, g6, g7, g8, g9, ⟨e, seen', hseen, he, hk1, hk2, hc0⟩⟩ := mrg_in hk hs.1
  have hu := mapOf_spec ht
  rcases run_findKey (vf := vf) MK g4 p.1 w with ⟨u, j, ⟨_, ⟨e', q1, q2⟩, _, q4⟩, q5⟩ | ⟨⟨_, _, _, q0⟩, _⟩
  · have hee : e' = e := by
      have hp := (stamped_iff es clock).1 g5 |>.2.2
      have m1 : e' ∈ es.toList := List.mem_of_getElem? q1
      by_cases hh : e' = e
      · exact hh
      · exfalso
        obtain ⟨a, ha⟩ := List.getElem?_of_mem m1
        obtain ⟨c, hc⟩ := List.getElem?_of_mem he
        have hn : (es.toList.map (·.key)).Nodup := g5.2.2
        have h1 : (es.toList.map (·.key))[a]? = some (kf p.1) := by rw [List.getElem?_map, ha]; simp [q2]
        have h2 : (es.toList.map (·.key))[c]? = some (kf p.1) := by rw [List.getElem?_map, hc]; simp [hk1]
        have hac : a = c := (List.getElem?_inj (by rw [List.length_map]; exact (List.getElem?_eq_some_iff.1 ha).1) hn).1 (by rw [h1, h2])
        subst hac
        rw [ha] at hc
        exact hh (Option.some.inj hc)
    subst hee
    obtain ⟨w', hr, hh, hkp⟩ := hp_setObj (P := P) (.map (es.eraseIdxIfInBounds j) clock) g1
    refine ⟨_, w', by simp [execOp, hop, resolve, invoke, builtin, Builtin.delete_, hx, hy, Sem.run_bind, run_underlying hu w, run_getMap g1, MK.check, q5, hr, Result.andThen_ok], rfl, ?_, hs.2.trans hkp⟩
    refine sat_set hk hs.1 fun hl hsub hm => ?_
    obtain ⟨es', clock', since', seen'', c0', m1, m2, m3, m4, m5, m6, m7, m8, m9, m10⟩ := hm
    have z1 := hsub b _ m1
    rw [g1] at z1
    cases z1
    have z2 := hsub r _ m2
    rw [g2] at z2
    cases z2
    refine ⟨hl.upd b (.map (es.eraseIdxIfInBounds j) clock), ?_, ⟨es.eraseIdxIfInBounds j, clock, since, seen, c0, ?_, ?_, g3, by rw [Array.toList_eraseIdxIfInBounds]; exact q4, stamped_erase g5 _, g6, g7, ?_, ?_, trivial⟩, ?_⟩
    · intro c o' e1
      rw [hh]
      unfold Hl.upd at e1 ⊢
      by_cases hc : c = b
      · rw [if_pos hc] at e1 ⊢; exact e1
      · rw [if_neg hc] at e1 ⊢; exact hsub c o' e1
    · unfold Hl.upd; rw [if_pos rfl]
    · unfold Hl.upd; rw [if_neg (fun e => g3 e.symm)]; exact m2
    · intro x hx'
      rw [Array.toList_eraseIdxIfInBounds] at hx'
      exact g8 x (List.mem_of_mem_eraseIdx hx')
    · rw [leftOf_erase q1 (by rw [hseen]; simp)]; exact g9
    · intro c o' e1 e2
      have hc : c ≠ b := by intro hc; subst hc; rw [m1] at e2; cases e2
      rw [hh]; unfold Hl.upd; rw [if_neg hc, if_neg hc]; exact ⟨e1, e2⟩
  · exact absurd hk1 (q0 e he)

theorem mrg_keys {k b r : Nat} {l left : List (κ × ν)} {cur : Option (κ × ν)} {w : World} (hk : H[k]? = some (mrg kf vf b r l left cur)) (hs : SAT w0 H w) : (l.map Prod.fst).Nodup := by
  obtain ⟨es, clock, since, seen, c0, g1, g2, g3, g4, g5, _⟩ := mrg_in hk hs.1
  exact ment_keys g4 g5.2.2
/-- the rounds are over -/
theorem sat_mrg_end {k b r : Nat} {l left : List (κ × ν)} {cur : Option (κ × ν)} {w : World} (hk : H[k]? = some (mrg kf vf b r l left cur)) (hs : SAT w0 H w) : SAT w0 (H.set k (mpo kf vf b l)) w := by
  refine ⟨sat_set hk hs.1 fun h hsub ⟨es, clock, since, seen, c0, h1, _, _, h4, h5, _⟩ => ⟨h, hsub, ⟨es, clock, h1, h4, h5⟩, fun _ _ e1 e2 => ⟨e1, e2⟩⟩, hs.2⟩
theorem sat_mrg_none {k b r : Nat} {l left : List (κ × ν)} {cur : Option (κ × ν)} {w : World} (hk : H[k]? = some (mrg kf vf b r l left cur)) (hs : SAT w0 H w) : SAT w0 (H.set k (mrg kf vf b r l left none)) w := by
  refine ⟨sat_set hk hs.1 fun h hsub ⟨es, clock, since, seen, c0, h1, h2, h3, h4, h5, h6, h7, h8, h9, _⟩ => ⟨h, hsub, ⟨es, clock, since, seen, c0, h1, h2, h3, h4, h5, h6, h7, h8, h9, trivial⟩, fun _ _ e1 e2 => ⟨e1, e2⟩⟩, hs.2⟩
end

/-! ### rounds, as a function -/
def mloop {σ α : Type} (f : α → σ → Option σ) : List α → σ → Option σ
  | [], s => some s
  | p :: l, s => (f p s).bind (mloop f l)
theorem mloop_app {σ α : Type} (f : α → σ → Option σ) : ∀ (l l' : List α) (s : σ), mloop f (l ++ l') s = (mloop f l s).bind (mloop f l')
  | [], _, _ => rfl
  | p :: l, l', s => by
    show (f p s).bind (mloop f (l ++ l')) = ((f p s).bind (mloop f l)).bind (mloop f l')
    cases f p s with
    | none => rfl
    | some t => exact mloop_app f l l' t
theorem mloop_snoc {σ α : Type} {f : α → σ → Option σ} {l : List α} {p : α} {s t u : σ} (h : mloop f l s = some t) (h2 : f p t = some u) : mloop f (l ++ [p]) s = some u := by
  rw [mloop_app, h]
  show (f p t).bind _ = _
  rw [h2]; rfl
/-- what has been done, and what is to come: the next round goes well -/
theorem mloop_step {σ α : Type} {f : α → σ → Option σ} {l done lft : List α} {p : α} {s t : σ} (hall : ∀ l', l'.Perm l → ∃ v, mloop f l' s = some v) (hd : mloop f done s = some t) (hp : (done ++ (p :: lft)).Perm l) : ∃ u, f p t = some u := by
  obtain ⟨v, hv⟩ := hall _ hp
  rw [mloop_app, hd] at hv
  cases hf : f p t with
  | some u => exact ⟨u, rfl⟩
  | none =>
    have hv : (f p t).bind (mloop f lft) = some v := hv
    rw [hf] at hv; cases hv
/-- rounds that may change places -/
theorem mloop_perm {σ α : Type} {f : α → σ → Option σ} {D : α → α → Prop} (hD : ∀ a b, D a b → D b a) (hc : ∀ a b s, D a b → (f a s).bind (f b) = (f b s).bind (f a)) {l l' : List α} (h : l.Perm l') : l.Pairwise D → ∀ s, mloop f l s = mloop f l' s := by
  induction h with
  | nil => exact fun _ _ => rfl
  | cons x h ih =>
    intro hp s
    rw [List.pairwise_cons] at hp
    unfold mloop
    cases f x s with
    | none => rfl
    | some t => exact ih hp.2 t
  | swap x y l =>
    intro hp s
    rw [List.pairwise_cons, List.pairwise_cons] at hp
    have := hc x y s (hD _ _ (hp.1 x (by simp)))
    unfold mloop
    have e : ∀ (a b : α), (f a s).bind (mloop f (b :: l)) = ((f a s).bind (f b)).bind (mloop f l) := by
      intro a b
      cases f a s <;> rfl
    rw [e, e, this]
  | trans h1 h2 ih1 ih2 =>
    intro hp s
    rw [ih1 hp s, ih2 (hp.perm h1 (fun {a b} h => hD a b h)) s]
theorem map_fst_pair {κ ν : Type} {l : List (κ × ν)} (h : (l.map Prod.fst).Nodup) : l.Pairwise fun a b => a.1 ≠ b.1 := by
  rw [List.nodup_iff_pairwise_ne, List.pairwise_map] at h
  exact h
theorem at_set_none {α : Type} {s : List α} {i : Nat} {v : α} {j : Int} (h : at_ s j = none) : at_ (s.set i v) j = none := by
  unfold at_ at *
  split
  · rename_i hj
    rw [if_pos hj] at h
    rw [List.getElem?_eq_none_iff] at h ⊢
    rw [List.length_set]; exact h
  · rfl
theorem at_set_some {α : Type} {s : List α} {i : Nat} {v : α} {j : Int} {y : α} (h : at_ s j = some y) : ∃ z, at_ (s.set i v) j = some z := by
  cases hz : at_ (s.set i v) j with
  | some z => exact ⟨z, rfl⟩
  | none =>
    exfalso
    unfold at_ at *
    split at hz
    · rename_i hj
      rw [if_pos hj] at h
      rw [List.getElem?_eq_none_iff, List.length_set] at hz
      rw [List.getElem?_eq_none hz] at h
      cases h
    · rename_i hj
      rw [if_neg hj] at h; cases h
theorem mdel_comm {κ ν : Type} [DecidableEq κ] : ∀ (l : List (κ × ν)) (a b : κ), mdel (mdel l a) b = mdel (mdel l b) a
  | [], _, _ => rfl
  | p :: l, a, b => by
    by_cases ha : a = p.1
    · by_cases hb : b = p.1
      · rw [ha, hb]
      · have e1 : mdel (p :: l) a = l := if_pos ha
        have e2 : mdel (p :: l) b = p :: mdel l b := if_neg hb
        rw [e1, e2]
        exact (if_pos ha).symm
    · by_cases hb : b = p.1
      · have e1 : mdel (p :: l) a = p :: mdel l a := if_neg ha
        have e2 : mdel (p :: l) b = l := if_pos hb
        rw [e1, e2]
        exact if_pos hb
      · have e1 : mdel (p :: l) a = p :: mdel l a := if_neg ha
        have e2 : mdel (p :: l) b = p :: mdel l b := if_neg hb
        rw [e1, e2]
        have e3 : mdel (p :: mdel l a) b = p :: mdel (mdel l a) b := if_neg hb
        have e4 : mdel (p :: mdel l b) a = p :: mdel (mdel l b) a := if_neg ha
        rw [e3, e4, mdel_comm l a b]
end Go.Fw

/- What is sorted where it lies: the kit's contract of slices.Sort as a call over small heaps. -/
namespace Go.Fw
set_option linter.all false
open Go Go.RowKit
theorem hp_sorted {β : Type} [Inhabited β] {enc : β → Value} {w : World} {n g : Nat} {d : Array β} {os : Array Obj} : (∀ b o, b ≠ g → hp w b = some o → hp (Sort.grow (Sort.putRow enc (Sort.ahead w n) g 0 d) os) b = some o) ∧
    (∀ cur E fz, hp w g = some (.cells cur E fz) → hp (Sort.grow (Sort.putRow enc (Sort.ahead w n) g 0 d) os) g = some (.cells (Sort.putCells enc 0 d cur) E fz)) := by
  have key : ∀ b o, hp w b = some o → hp (Sort.grow (Sort.putRow enc (Sort.ahead w n) g 0 d) os) b = (w.heap.modify g (Sort.onCells (Sort.putCells enc 0 d)))[b]? := by
    intro b o h
    have hlt := (Array.getElem?_eq_some_iff.1 h).1
    show ((w.heap.modify g (Sort.onCells (Sort.putCells enc 0 d))) ++ os)[b]? = _
    rw [Array.getElem?_append_left (by rw [Array.size_modify]; exact hlt)]
  refine ⟨fun b o hb h => ?_, fun cur E fz h => ?_⟩
  · rw [key b o h, Array.getElem?_modify, if_neg (fun e => hb e.symm)]; exact h
  · rw [key g _ h, Array.getElem?_modify, if_pos rfl]
    unfold hp at h
    rw [h]; rfl
theorem tr_sort {P : Program} {f : FuncId} {α β : Type} [Inhabited β] {enc : β → Value} {φ : α → β} (e : Enc α) (hsz : e.sz = 1) (he : ∀ x, e.f x = [enc (φ x)]) (E : Nat) (srt : List β → List β) (hlen : ∀ z, (srt z).length = z.length) (res : List α → List α) (hres : ∀ l, (res l).map φ = srt (l.map φ))
    (hn : ∀ (cap : Nat) (w : World), Calls P f #[.slice none 0 cap] w fun e w' => e = .returned (.tuple #[]) ∧ w' = w)
    (hc : ∀ (blk off cap : Nat) (zs : List β) (w : World), Sort.Holds enc w blk off zs.toArray → blk < w.heap.size → zs.length < 4611686018427387904 → Calls P f #[.slice (some ⟨blk, off, none⟩) zs.length cap] w fun e w' => e = .returned (.tuple #[]) ∧ ∃ n os, w' = Sort.grow (Sort.putRow enc (Sort.ahead w n) blk off (srt zs).toArray) os)
    (p : Option Addr) (c : Nat) (l : List α) (hll : l.length < 4611686018427387904) : Tr P f [.slice p l.length c] [own e E p c l] (fun r H' => r = .tuple #[] ∧ H' = [own e E p c (res l)]) := by
  have hrl : ∀ l, (res l).length = l.length := fun l => by
    have := congrArg List.length (hres l)
    rw [List.length_map, hlen, List.length_map] at this
    exact this
  intro F w hs
  have hs0 := hs
  obtain ⟨h, h1, ⟨o1, o2, o3, o4⟩, _⟩ := hs
  rcases o4 with ⟨rfl, rfl⟩ | ⟨g, cur, fz, rfl, hg, hsoft, hcs, htk⟩
  · have hl0 : l = [] := List.length_eq_zero_iff.1 (by omega)
    subst hl0
    refine (hn 0 w).mono ?_
    rintro e' w' ⟨rfl, rfl⟩
    refine ⟨_, _, rfl, ⟨rfl, rfl⟩, ?_, Keep.refl _⟩
    have : res [] = [] := List.length_eq_zero_iff.1 (by rw [hrl]; rfl)
    rw [this]; exact hs0
  · have hgw := h1 g _ hg
    have hget : ∀ (l : List α) (j : Nat) (x : α), l[j]? = some x → (e.all l)[j]? = some (enc (φ x)) := fun l j x hx => by
      have := Enc.all_get e hx 0 e.pos
      rw [hsz, Nat.mul_one, Nat.add_zero, he] at this
      exact this
    have hcur : ∀ (j : Nat) (x : α), l[j]? = some x → cur[j]? = some (enc (φ x)) := fun j x hx => by
      have hj := lt_of_get hx
      have := hget l j x hx
      rw [← htk, List.getElem?_take, hsz, if_pos (by omega), Array.getElem?_toList] at this
      exact this
    have hH : Sort.Holds enc w g 0 (l.map φ).toArray := by
      intro j hj
      have hj : j < l.length := by simpa using hj
      obtain ⟨x, hx⟩ : ∃ x, l[j]? = some x := ⟨l[j], List.getElem?_eq_getElem hj⟩
      have hx2 : (l.map φ).toArray[j]! = φ x := by
        rw [getElem!_pos _ j (by simpa using hj)]
        simp only [List.getElem_toArray, List.getElem_map]
        rw [List.getElem?_eq_getElem hj] at hx
        rw [Option.some.inj hx]
      refine ⟨?_, ?_⟩
      · unfold World.cell?
        show (match w.heap[g]? with | some (.cells c _ _) => _ | _ => none) = _
        unfold hp at hgw
        rw [hgw]
        show cur[0 + j]? = _
        rw [Nat.zero_add, hcur j x hx, hx2]
      · unfold World.frozen?
        show (match w.heap[g]? with | some (.cells _ _ (lo, hi)) => _ | _ => false) = _
        unfold hp at hgw
        rw [hgw]
        exact hsoft (0 + j) (by rw [hcs, hsz]; omega)
    have hblk : g < w.heap.size := (Array.getElem?_eq_some_iff.1 hgw).1
    have hcc := hc g 0 c (l.map φ) w hH hblk (by rw [List.length_map]; exact hll)
    rw [List.length_map] at hcc
    refine hcc.mono ?_
    rintro e' w' ⟨rfl, n, os, rfl⟩
    refine ⟨_, _, rfl, ⟨rfl, rfl⟩, ?_, ⟨rfl, rfl, rfl⟩⟩
    obtain ⟨q1, q2⟩ := hp_sorted (enc := enc) (w := w) (n := n) (g := g) (d := (srt (l.map φ)).toArray) (os := os)
    refine sat_turn hs0 fun hh hsub hm => ?_
    obtain ⟨m1, m2, m3, m4⟩ := hm
    rcases m4 with ⟨hx, _⟩ | ⟨g2, cur2, fz2, hp2, hg2, hsoft2, hcs2, htk2⟩
    · cases hx
    cases hp2
    have hg3 := hsub g _ hg2
    rw [hgw] at hg3
    cases hg3
    refine ⟨hh.upd g (.cells (Sort.putCells enc 0 (srt (l.map φ)).toArray cur) E fz), ?_, ⟨e.all_length _, by rw [hrl]; exact m2, m3, .inr ⟨g, Sort.putCells enc 0 (srt (l.map φ)).toArray cur, fz, rfl, by simp [Hl.upd], by unfold Sort.putCells; rw [Array.size_mapIdx]; exact hsoft, by unfold Sort.putCells; rw [Array.size_mapIdx]; exact hcs, ?_⟩⟩, ?_⟩
    · intro b o hb
      unfold Hl.upd at hb
      by_cases hbg : b = g
      · rw [if_pos hbg] at hb
        cases hb
        subst hbg
        exact q2 _ _ _ hgw
      · rw [if_neg hbg] at hb
        exact q1 b o hbg (hsub b o hb)
    · apply List.ext_getElem?
      intro j
      rw [List.getElem?_take, hsz, Nat.mul_one, hrl]
      by_cases hj : j < l.length
      · rw [if_pos hj, Array.getElem?_toList]
        obtain ⟨y, hy⟩ : ∃ y, (res l)[j]? = some y := ⟨(res l)[j]'(by rw [hrl]; exact hj), List.getElem?_eq_getElem (by rw [hrl]; exact hj)⟩
        rw [hget (res l) j y hy]
        unfold Sort.putCells
        rw [Array.getElem?_mapIdx]
        obtain ⟨x, hx⟩ : ∃ x, l[j]? = some x := ⟨l[j], List.getElem?_eq_getElem hj⟩
        rw [hcur j x hx]
        have hsj : (srt (l.map φ))[j]? = some (φ y) := by rw [← hres l, List.getElem?_map, hy]; rfl
        have hsl : (srt (l.map φ)).length = l.length := by rw [hlen, List.length_map]
        simp only [Option.map_some, Nat.sub_zero, Nat.zero_le, true_and, Nat.zero_add, List.size_toArray]
        rw [if_pos (by omega), getElem!_pos _ j (by simp; omega)]
        have hjs : j < (srt (l.map φ)).length := by omega
        rw [List.getElem?_eq_getElem hjs] at hsj
        simp only [List.getElem_toArray]
        rw [Option.some.inj hsj]
      · rw [if_neg hj, List.getElem?_eq_none (by rw [e.all_length, hrl, hsz]; omega)]
    · intro b o e1 e2
      have hbg : b ≠ g := by intro hbg; subst hbg; rw [hg2] at e2; cases e2
      unfold Hl.upd
      rw [if_neg hbg]
      exact ⟨q1 b o hbg e1, e2⟩
/-- a list in order -/
def sortI (l : List Int) : List Int := l.mergeSort fun x y => decide (x ≤ y)
theorem sortI_len (l : List Int) : (sortI l).length = l.length := by unfold sortI; rw [List.length_mergeSort]
theorem sortI_perm {l l' : List Int} (h : l.Perm l') : sortI l = sortI l' := by
  unfold sortI
  have tr : ∀ a b c : Int, decide (a ≤ b) = true → decide (b ≤ c) = true → decide (a ≤ c) = true := fun a b c h1 h2 => by simp at *; omega
  have to : ∀ a b : Int, (decide (a ≤ b) || decide (b ≤ a)) = true := fun a b => by simp; omega
  refine List.Perm.eq_of_pairwise (le := fun a b : Int => decide (a ≤ b) = true) (fun a b _ _ h1 h2 => by simp at h1 h2; omega) (List.pairwise_mergeSort tr to l) (List.pairwise_mergeSort tr to l') ?_
  exact (List.mergeSort_perm l _).trans (h.trans (List.mergeSort_perm l' _).symm)
end Go.Fw

/- strings.Trim by one byte: the kit's contract as a call over small heaps. -/
namespace Go.Fw
set_option linter.all false
open Go Go.RowKit
/-- the one byte that is trimmed -/
def trimC (x : ByteArray) : UInt8 := x.data.toList.headD 0
abbrev trimOk (x0 x1 : ByteArray) : Prop := x1.size = 1 ∧ (trimC x1).toNat < 128 ∧ x0.size ≤ 9223372036854775807
def trimB (x0 x1 : ByteArray) : ByteArray := ⟨(Go.Lib.trimB x0.data.toList (trimC x1)).toArray⟩
theorem trim_one {x : ByteArray} (h : x.size = 1) : x = ⟨#[trimC x]⟩ := by
  have h1 : x.data.toList.length = 1 := by rw [size_ofL']; exact h
  rw [ofL_surj x]
  unfold trimC
  rw [ofL_toList]
  match hx : x.data.toList, h1 with
  | [c], _ => rfl
theorem tr_trim {P : Program} {f : FuncId} {I : Hl} {x0 x1 : ByteArray} (h : trimOk x0 x1)
    (hc : ∀ (c : UInt8) (_ : c.toNat < 128) (w : World), Calls P f #[.string x0, .string ⟨#[c]⟩] w fun e w' => e = .returned (.string ⟨(Go.Lib.trimB x0.data.toList c).toArray⟩) ∧ (w' = w ∨ w' = w.drew)) :
    Tr P f [.string x0, .string x1] [imm I] (fun r H' => r = .string (trimB x0 x1) ∧ H' = [imm I]) := by
  intro F w hs
  have := hc (trimC x1) h.2.1 w
  rw [← trim_one h.1] at this
  refine this.mono ?_
  rintro e w' ⟨rfl, hw⟩
  rcases hw with rfl | rfl
  · exact ⟨_, _, rfl, ⟨rfl, rfl⟩, hs, Keep.refl _⟩
  · exact ⟨_, _, rfl, ⟨rfl, rfl⟩, hs, ⟨rfl, rfl, rfl⟩⟩
end Go.Fw

/- A part of the code that is a scope of its own, and leaves it by no goto. -/
namespace Go.Fw
set_option linter.all false
open Go Go.RowKit
variable {P : Program} {Q : Exit → Act → World → Prop} {n : Nat} {L : Slots} {S : World → Prop}
theorem cw_scope {c : Code} (h : CW P c (Exit.noGoto Q) n L S) : CW P (.scope c) Q n L S := fun a w hf hs => wp_scope_straight (h a w hf hs)
theorem ew_scope (h : EW Q .normal n L S) : EW (Exit.noGoto Q) .normal n L S := h
theorem ew_scope_ret (h : EW Q .ret n L S) : EW (Exit.noGoto Q) .ret n L S := h
theorem ew_scope_exit {id : Nat} (h : EW Q (.exit id) n L S) : EW (Exit.noGoto Q) (.exit id) n L S := h
section
variable {fn : Func} {tmps : Array Value} {w : World} {r1 r2 r3 r4 r5 : ResultVar} {v1 v2 v3 v4 v5 : Value}
theorem results5 (h : fn.results = #[r1, r2, r3, r4, r5]) (h1 : resRun P tmps w r1 v1) (h2 : resRun P tmps w r2 v2) (h3 : resRun P tmps w r3 v3) (h4 : resRun P tmps w r4 v4) (h5 : resRun P tmps w r5 v5) : (results fn tmps).run P w = .ok (.tuple #[v1, v2, v3, v4, v5]) w := by
  cases r1 <;> cases r2 <;> cases r3 <;> cases r4 <;> cases r5 <;> simp only [resRun] at h1 h2 h3 h4 h5 <;>
    (try obtain ⟨a1, h1, g1⟩ := h1) <;> (try obtain ⟨a2, h2, g2⟩ := h2) <;> (try obtain ⟨a3, h3, g3⟩ := h3) <;> (try obtain ⟨a4, h4, g4⟩ := h4) <;> (try obtain ⟨a5, h5, g5⟩ := h5) <;> simp [results, asAddr, *]
end
section
variable {fn : Func} {R : Value → List HP → Prop} {F H H1 : List HP} {w0 : World} {r1 r2 r3 r4 r5 : ResultVar} {v1 v2 v3 v4 v5 : Value}
theorem fin5 (hs : ∀ w, SAT w0 H w → SAT w0 (H1 ++ F) w) (hf : fn.results = #[r1, r2, r3, r4, r5]) (h1 : ∀ a w, Fr n L a → SAT w0 H w → resRun P a.tmps w r1 v1) (h2 : ∀ a w, Fr n L a → SAT w0 H w → resRun P a.tmps w r2 v2) (h3 : ∀ a w, Fr n L a → SAT w0 H w → resRun P a.tmps w r3 v3) (h4 : ∀ a w, Fr n L a → SAT w0 H w → resRun P a.tmps w r4 v4) (h5 : ∀ a w, Fr n L a → SAT w0 H w → resRun P a.tmps w r5 v5) (hR : R (.tuple #[v1, v2, v3, v4, v5]) H1) : EW (FinQ P fn R F w0) .ret n L (SAT w0 H) :=
  fin_of (fun a w x y => results5 hf (h1 a w x y) (h2 a w x y) (h3 a w x y) (h4 a w x y) (h5 a w x y)) hs hR
end
end Go.Fw

/- Rows whose elements hold slices of their own, that are never written. -/
namespace Go.Fw
set_option linter.all false
open Go Go.RowKit Go.ChangeShapes Go.WideShapes Go.ChangeAt
/-- a slice as it lies -/
structure Rs (α : Type) where
  p : Option Addr
  c : Nat
  l : List α
/-- how elements that hold slices lie: by a twin that knows where these are -/
structure NEnc (α : Type) where
  β : Type
  e : Enc β
  log : β → α
  ok : Hl → β → Prop
  sub : ∀ {I J : Hl}, Hl.sub I J → ∀ r, ok I r → ok J r
section
variable {α : Type}
def roN (I : Hl) (n : NEnc α) (p : Option Addr) (c : Nat) (l : List α) : Prop := ∃ R : List n.β, ro I n.e p c R ∧ R.map n.log = l ∧ ∀ r ∈ R, n.ok I r
def elemN (I : Hl) (n : NEnc α) (q : Addr) (y : α) : Prop := ∃ r : n.β, elem I n.e q r ∧ n.log r = y ∧ n.ok I r
theorem roN.sub {I J : Hl} (h : Hl.sub I J) {n : NEnc α} {p : Option Addr} {c : Nat} {l : List α} (hr : roN I n p c l) : roN J n p c l := by
  obtain ⟨R, h1, h2, h3⟩ := hr
  exact ⟨R, h1.sub h, h2, fun r hr => n.sub h r (h3 r hr)⟩
theorem elemN.sub {I J : Hl} (h : Hl.sub I J) {n : NEnc α} {q : Addr} {y : α} (hr : elemN I n q y) : elemN J n q y := by
  obtain ⟨r, h1, h2, h3⟩ := hr
  exact ⟨r, h1.sub h, h2, n.sub h r h3⟩
theorem roN_nil (I : Hl) (n : NEnc α) : roN I n none 0 ([] : List α) := ⟨[], ro_nil I n.e, rfl, fun r hr => by cases hr⟩
theorem roN_at {I : Hl} {n : NEnc α} {p : Option Addr} {c : Nat} {l : List α} {j : Int} {y : α} (hr : roN I n p c l) (hy : at_ l j = some y) : ∃ R : List n.β, R.length = l.length ∧ ro I n.e p c R ∧ ∃ r, at_ R j = some r ∧ n.log r = y ∧ n.ok I r := by
  obtain ⟨R, h1, rfl, h3⟩ := hr
  obtain ⟨h0, hg⟩ := at_some hy
  rw [List.getElem?_map, Option.map_eq_some_iff] at hg
  obtain ⟨r, hr, hl⟩ := hg
  refine ⟨R, by rw [List.length_map], h1, r, ?_, hl, h3 r (List.mem_of_getElem? hr)⟩
  unfold at_
  rw [if_pos h0, hr]
end
section
variable {P : Program} {ops : Array Oper} {Q : Exit → Act → World → Prop} {i n tl : Nat} {L : Slots} {S : World → Prop}
theorem pw_index_roN {K : Act → World → Prop} {o : Oper} {α : Type} {ne : NEnc α} {E : Nat} {p : Option Addr} {c : Nat} {l : List α} {I : Hl} {t : TypeId} {x ix : Operand} {kd : IntKind} {j : Int} {y : α} (sz : Nat) (hr : roN I ne p c l) (ho : ops[i]? = some o) (hop : o.op = .indexAddr t x ix) (hd : dstOk n o.dst = true) (hw : wantedL ops L o = some true) (hkn : knows L o = true)
    (ht : slOf P t = some (E, sz)) (hsz : ne.e.sz = sz) (hx : rho L x = .slice p l.length c) (hix : rho L ix = .int kd j) (hy : at_ l j = some y) (h : ∀ q : Addr, elemN I ne q y → NW K n (putL o.dst (.pointer (some q)) L) S) : PW P ops Q i n L S K := by
  obtain ⟨R, hl, hR, r, hrj, hlog, hok⟩ := roN_at hr hy
  exact pw_index_ro sz hR ho hop hd hw hkn ht hsz (by rw [hx, hl]) hix hrj fun q hq => h q ⟨r, hq, hlog, hok⟩
theorem aw_index_roN (i : Nat) {T : World → Prop} {f m m' : Nat} {o : Oper} {α : Type} {ne : NEnc α} {E : Nat} {p : Option Addr} {c : Nat} {l : List α} {I : Hl} {t : TypeId} {x ix : Operand} {kd : IntKind} {j : Int} {y : α} (sz : Nat) (hr : roN I ne p c l) (ho : ops[i]? = some o) (hop : o.op = .indexAddr t x ix) (hd : dstOk n o.dst = true) (hw : wantedL ops L o = some true) (hkn : knows L o = true)
    (hmay : mayNow ops tl m i = true) (hm' : m ||| 2 ^ i = m') (hQ : Calm Q) (hT : ∀ w, S w → T w)
    (ht : slOf P t = some (E, sz)) (hsz : ne.e.sz = sz) (hx : rho L x = .slice p l.length c) (hix : rho L ix = .int kd j) (hy : at_ l j = some y) (h : ∀ q : Addr, elemN I ne q y → AW P ops Q tl T f m' n (putL o.dst (.pointer (some q)) L) S) : AW P ops Q tl T (f + 1) m n L S := by
  obtain ⟨R, hl, hR, r, hrj, hlog, hok⟩ := roN_at hr hy
  exact aw_index_ro i sz hR ho hop hd hw hkn hmay hm' hQ hT ht hsz (by rw [hx, hl]) hix hrj fun q hq => h q ⟨r, hq, hlog, hok⟩
end
/-! ### decoders -/
section
variable {P : Program} {t : TypeId}
theorem dec_mono {α : Type} {F G : Hl → List Value → α → Prop} {wf : α → Prop} {N : α → List Nat} (h : Dec P t F wf N) (hm : ∀ I cs a, F I cs a → G I cs a) : Dec P t G wf N := by
  intro H enc w base spare held fuel cs x hx
  obtain ⟨a, h1, h2, h3⟩ := h H enc w base spare held fuel cs x hx
  exact ⟨a, hm _ _ _ h1, h2, h3⟩
theorem dec_sliceN {α : Type} {E : TypeId} (ne : NEnc α) {wf : α → Prop} {N : α → List Nat} (hD : Dec P E (fun I cs a => ∃ r : ne.β, cs = ne.e.f r ∧ ne.log r = a ∧ ne.ok I r) wf N) (ht : P.underlying t = some (.slice E)) (hsz : P.cellsOf E = ne.e.sz) :
    Dec P t (fun I cs l => ∃ p c, cs = [.slice p l.length c] ∧ roN I ne p c l) (fun l => ∀ a ∈ l, wf a) (fun l => l.length * P.bytesOf E :: l.flatMap N) := by
  intro H enc w base spare held fuel cs x h
  rcases DataW.trod_slice ht h with ⟨rfl, rfl⟩ | ⟨a, len, cap, elems, rest, n, _, rfl, rfl, hb, hl, hm, hlen, hel, hsp, hns⟩
  · exact ⟨[], ⟨none, 0, rfl, roN_nil _ _⟩, (fun a ha => by cases ha), fun R hR m hm => by simp at hm; omega⟩
  have each : ∀ i, i < len → ∃ z : ne.β, ∃ y cs', elems[i]? = some y ∧ w.cells? base (a.add (i * ne.e.sz)) ne.e.sz = some cs' ∧ cs' = ne.e.f z ∧ ne.ok (hp w) z ∧ wf (ne.log z) ∧ ∀ R, (∀ n ∈ y.1.weights P E, n ≤ R) → ∀ n ∈ N (ne.log z), n ≤ R := by
    intro i hi
    have h1 := hel i hi
    rw [List.getElem?_eq_getElem (by omega), hsz, Option.bind_eq_some_iff] at h1
    obtain ⟨cs', h2, h3⟩ := h1
    obtain ⟨z, ⟨r, hz, rfl, hk⟩, hw, hN⟩ := hD H enc w base spare held n cs' _ h3
    exact ⟨r, _, cs', List.getElem?_eq_getElem (by omega), h2, hz, hk, hw, hN⟩
  obtain ⟨l, hll, hl2⟩ := list_choose len each
  have hget : ∀ z ∈ l, ∃ i, i < len ∧ l[i]? = some z := fun z hz => by
    obtain ⟨i, hi⟩ := List.getElem?_of_mem hz
    exact ⟨i, by have := (List.getElem?_eq_some_iff.1 hi).1; omega, hi⟩
  refine ⟨l.map ne.log, ⟨some a, cap, by rw [List.length_map, hll], l, ⟨by omega, hm, (fun h => by cases h), fun j v hj => ⟨a, rfl, ?_⟩⟩, rfl, fun r hr => ?_⟩, fun z hz => ?_, fun R hR m hm => ?_⟩
  · have hjl : j < l.length * ne.e.sz := by
      have := (List.getElem?_eq_some_iff.1 hj).1
      rwa [Enc.all_length] at this
    have hq : (j / ne.e.sz) * ne.e.sz + j % ne.e.sz = j := by rw [Nat.mul_comm]; exact Nat.div_add_mod j ne.e.sz
    have hr : j % ne.e.sz < ne.e.sz := Nat.mod_lt _ ne.e.pos
    have hd : j / ne.e.sz < l.length := Nat.div_lt_of_lt_mul (by rw [Nat.mul_comm]; exact hjl)
    obtain ⟨y, cs', _, h2, h3, _⟩ := hl2 (j / ne.e.sz) _ (List.getElem?_eq_getElem hd)
    have hg := Enc.all_get ne.e (List.getElem?_eq_getElem hd) (j % ne.e.sz) hr
    rw [hq, hj, ← h3] at hg
    have hcell := (World.cells?_some h2).2.2 (j % ne.e.sz) hr
    rw [add_add, hq, ← hg] at hcell
    rw [cellOf_hp]
    exact hcell
  · obtain ⟨i, hi, hz⟩ := hget r hr
    obtain ⟨y, cs', _, _, _, hk, _⟩ := hl2 i r hz
    exact hk
  · obtain ⟨r, hr, rfl⟩ := List.mem_map.1 hz
    obtain ⟨i, hi, hz⟩ := hget r hr
    obtain ⟨y, cs', _, _, _, _, hw, _⟩ := hl2 i r hz
    exact hw
  · have hel2 : ∀ y ∈ elems, ∀ n ∈ y.1.weights P E, n ≤ R := fun y hy n hn => hR n (by
      simp only [DataW.weights, ht, List.mem_cons, List.mem_append]
      exact Or.inr (Or.inl (weights_mem_all (d := y.1) (List.mem_map.2 ⟨y, hy, rfl⟩) n hn)))
    rcases List.mem_cons.1 hm with rfl | hm
    · have := hR ((elems.length + rest.length) * P.bytesOf E) (by simp [DataW.weights, ht])
      refine Nat.le_trans (Nat.mul_le_mul_right _ ?_) this
      rw [List.length_map]
      omega
    · obtain ⟨z, hz, hm⟩ := List.mem_flatMap.1 hm
      obtain ⟨r, hr, rfl⟩ := List.mem_map.1 hz
      obtain ⟨i, hi, hz⟩ := hget r hr
      obtain ⟨y, cs', hy, _, _, _, _, hN⟩ := hl2 i r hz
      exact hN R (hel2 y (List.mem_of_getElem? hy)) m hm
end
end Go.Fw

/- What turns a row where it lies: the kit's contracts of slices.Sort at []string and of slices.Compact, as calls over small heaps. -/
namespace Go.Fw
set_option linter.all false
open Go Go.RowKit
theorem tr_putrow {P : Program} {f : FuncId} {α β : Type} [Inhabited β] {enc : β → Value} {φ : α → β} (e : Enc α) (hsz : e.sz = 1) (he : ∀ x, e.f x = [enc (φ x)]) (E : Nat) (srt : List β → List β) (hlen : ∀ z, (srt z).length = z.length) (res : List α → List α) (hres : ∀ l, (res l).map φ = srt (l.map φ))
    (rv : Option Addr → List β → Nat → Value) (hn : ∀ (cap : Nat) (w : World), Calls P f #[.slice none 0 cap] w fun e w' => e = .returned (rv none [] cap) ∧ w' = w)
    (hc : ∀ (blk off cap : Nat) (zs : List β) (w : World), Sort.Holds enc w blk off zs.toArray → blk < w.heap.size → zs.length < 4611686018427387904 → zs.length ≤ cap → Calls P f #[.slice (some ⟨blk, off, none⟩) zs.length cap] w fun e w' => e = .returned (rv (some ⟨blk, off, none⟩) zs cap) ∧ ∃ n os, w' = Sort.grow (Sort.putRow enc (Sort.ahead w n) blk off (srt zs).toArray) os)
    (p : Option Addr) (c : Nat) (l : List α) (hll : l.length < 4611686018427387904) : Tr P f [.slice p l.length c] [own e E p c l] (fun r H' => r = rv p (l.map φ) c ∧ H' = [own e E p c (res l)]) := by
  have hrl : ∀ l, (res l).length = l.length := fun l => by
    have := congrArg List.length (hres l)
    rw [List.length_map, hlen, List.length_map] at this
    exact this
  intro F w hs
  have hs0 := hs
  obtain ⟨h, h1, ⟨o1, o2, o3, o4⟩, _⟩ := hs
  rcases o4 with ⟨rfl, rfl⟩ | ⟨g, cur, fz, rfl, hg, hsoft, hcs, htk⟩
  · have hl0 : l = [] := List.length_eq_zero_iff.1 (by omega)
    subst hl0
    refine (hn 0 w).mono ?_
    rintro e' w' ⟨rfl, rfl⟩
    refine ⟨_, _, rfl, ⟨rfl, rfl⟩, ?_, Keep.refl _⟩
    have : res [] = [] := List.length_eq_zero_iff.1 (by rw [hrl]; rfl)
    rw [this]; exact hs0
  · have hgw := h1 g _ hg
    have hget : ∀ (l : List α) (j : Nat) (x : α), l[j]? = some x → (e.all l)[j]? = some (enc (φ x)) := fun l j x hx => by
      have := Enc.all_get e hx 0 e.pos
      rw [hsz, Nat.mul_one, Nat.add_zero, he] at this
      exact this
    have hcur : ∀ (j : Nat) (x : α), l[j]? = some x → cur[j]? = some (enc (φ x)) := fun j x hx => by
      have hj := lt_of_get hx
      have := hget l j x hx
      rw [← htk, List.getElem?_take, hsz, if_pos (by omega), Array.getElem?_toList] at this
      exact this
    have hH : Sort.Holds enc w g 0 (l.map φ).toArray := by
      intro j hj
      have hj : j < l.length := by simpa using hj
      obtain ⟨x, hx⟩ : ∃ x, l[j]? = some x := ⟨l[j], List.getElem?_eq_getElem hj⟩
      have hx2 : (l.map φ).toArray[j]! = φ x := by
        rw [getElem!_pos _ j (by simpa using hj)]
        simp only [List.getElem_toArray, List.getElem_map]
        rw [List.getElem?_eq_getElem hj] at hx
        rw [Option.some.inj hx]
      refine ⟨?_, ?_⟩
      · unfold World.cell?
        show (match w.heap[g]? with | some (.cells c _ _) => _ | _ => none) = _
        unfold hp at hgw
        rw [hgw]
        show cur[0 + j]? = _
        rw [Nat.zero_add, hcur j x hx, hx2]
      · unfold World.frozen?
        show (match w.heap[g]? with | some (.cells _ _ (lo, hi)) => _ | _ => false) = _
        unfold hp at hgw
        rw [hgw]
        exact hsoft (0 + j) (by rw [hcs, hsz]; omega)
    have hblk : g < w.heap.size := (Array.getElem?_eq_some_iff.1 hgw).1
    have hcc := hc g 0 c (l.map φ) w hH hblk (by rw [List.length_map]; exact hll) (by rw [List.length_map]; exact o2)
    rw [List.length_map] at hcc
    refine hcc.mono ?_
    rintro e' w' ⟨rfl, n, os, rfl⟩
    refine ⟨_, _, rfl, ⟨rfl, rfl⟩, ?_, ⟨rfl, rfl, rfl⟩⟩
    obtain ⟨q1, q2⟩ := hp_sorted (enc := enc) (w := w) (n := n) (g := g) (d := (srt (l.map φ)).toArray) (os := os)
    refine sat_turn hs0 fun hh hsub hm => ?_
    obtain ⟨m1, m2, m3, m4⟩ := hm
    rcases m4 with ⟨hx, _⟩ | ⟨g2, cur2, fz2, hp2, hg2, hsoft2, hcs2, htk2⟩
    · cases hx
    cases hp2
    have hg3 := hsub g _ hg2
    rw [hgw] at hg3
    cases hg3
    refine ⟨hh.upd g (.cells (Sort.putCells enc 0 (srt (l.map φ)).toArray cur) E fz), ?_, ⟨e.all_length _, by rw [hrl]; exact m2, m3, .inr ⟨g, Sort.putCells enc 0 (srt (l.map φ)).toArray cur, fz, rfl, by simp [Hl.upd], by unfold Sort.putCells; rw [Array.size_mapIdx]; exact hsoft, by unfold Sort.putCells; rw [Array.size_mapIdx]; exact hcs, ?_⟩⟩, ?_⟩
    · intro b o hb
      unfold Hl.upd at hb
      by_cases hbg : b = g
      · rw [if_pos hbg] at hb
        cases hb
        subst hbg
        exact q2 _ _ _ hgw
      · rw [if_neg hbg] at hb
        exact q1 b o hbg (hsub b o hb)
    · apply List.ext_getElem?
      intro j
      rw [List.getElem?_take, hsz, Nat.mul_one, hrl]
      by_cases hj : j < l.length
      · rw [if_pos hj, Array.getElem?_toList]
        obtain ⟨y, hy⟩ : ∃ y, (res l)[j]? = some y := ⟨(res l)[j]'(by rw [hrl]; exact hj), List.getElem?_eq_getElem (by rw [hrl]; exact hj)⟩
        rw [hget (res l) j y hy]
        unfold Sort.putCells
        rw [Array.getElem?_mapIdx]
        obtain ⟨x, hx⟩ : ∃ x, l[j]? = some x := ⟨l[j], List.getElem?_eq_getElem hj⟩
        rw [hcur j x hx]
        have hsj : (srt (l.map φ))[j]? = some (φ y) := by rw [← hres l, List.getElem?_map, hy]; rfl
        have hsl : (srt (l.map φ)).length = l.length := by rw [hlen, List.length_map]
        simp only [Option.map_some, Nat.sub_zero, Nat.zero_le, true_and, Nat.zero_add, List.size_toArray]
        rw [if_pos (by omega), getElem!_pos _ j (by simp; omega)]
        have hjs : j < (srt (l.map φ)).length := by omega
        rw [List.getElem?_eq_getElem hjs] at hsj
        simp only [List.getElem_toArray]
        rw [Option.some.inj hsj]
      · rw [if_neg hj, List.getElem?_eq_none (by rw [e.all_length, hrl, hsz]; omega)]
    · intro b o e1 e2
      have hbg : b ≠ g := by intro hbg; subst hbg; rw [hg2] at e2; cases e2
      unfold Hl.upd
      rw [if_neg hbg]
      exact ⟨q1 b o hbg e1, e2⟩
/-- the bytes of a text -/
def toB (s : ByteArray) : List UInt8 := s.data.toList
theorem encS (s : ByteArray) : eStr.f s = [Go.Proofs.encStr (toB s)] := by
  show [Value.string s] = [Value.string ⟨s.data.toList.toArray⟩]
  rw [Array.toArray_toList]
theorem toB_ofL (l : List UInt8) : toB (ofL l) = l := ofL_toList l
/-- texts in order -/
def sortS (l : List ByteArray) : List ByteArray := ((l.map toB).mergeSort fun x y => decide (x ≤ y)).map ofL
theorem sortS_toB (l : List ByteArray) : (sortS l).map toB = (l.map toB).mergeSort fun x y => decide (x ≤ y) := by
  unfold sortS
  rw [List.map_map]
  have : (toB ∘ ofL) = id := by funext x; exact toB_ofL x
  rw [this, List.map_id]
theorem sortS_len (l : List ByteArray) : (sortS l).length = l.length := by
  unfold sortS
  rw [List.length_map, List.length_mergeSort, List.length_map]
/-- each once of a list in order -/
def compS (l : List ByteArray) : List ByteArray := (Lib.compact (l.map toB)).map ofL
theorem compact_le (zs : List (List UInt8)) : (Lib.compact zs).length ≤ zs.length := by
  unfold Lib.compact Lib.compactUpTo
  rw [List.length_map]
  refine Nat.le_trans (List.length_filter_le _ _) ?_
  rw [List.length_range]
  exact Nat.le_refl _
theorem own_shorter {α : Type} {e : Enc α} {E : Nat} {p : Option Addr} {c : Nat} {A B : List α} {h : Hl} (ho : own e E p c (A ++ B) h) : own e E p c A h := by
  obtain ⟨o1, o2, o3, o4⟩ := ho
  rw [List.length_append] at o2
  refine ⟨e.all_length _, by omega, o3, ?_⟩
  rcases o4 with h0 | ⟨g, cur, fz, hp, hg, hsoft, hcs, htk⟩
  · exact .inl h0
  · refine .inr ⟨g, cur, fz, hp, hg, hsoft, hcs, ?_⟩
    have := congrArg (List.take (A.length * e.sz)) htk
    rw [List.take_take, List.length_append, Nat.min_eq_left (Nat.mul_le_mul_right _ (by omega)), Enc.all_append, List.take_append_of_le_length (by rw [Enc.all_length]; exact Nat.le_refl _), List.take_of_length_le (l := e.all A) (by rw [Enc.all_length]; exact Nat.le_refl _)] at this
    exact this
theorem tr_sortS' {P : Program} {f : FuncId} (E : Nat)
    (hn : ∀ (cap : Nat) (w : World), Calls P f #[.slice none 0 cap] w fun e w' => e = .returned (.tuple #[]) ∧ w' = w)
    (hc : ∀ (blk off cap : Nat) (zs : List (List UInt8)) (w : World), Sort.Holds Go.Proofs.encStr w blk off zs.toArray → blk < w.heap.size → zs.length < 4611686018427387904 → Calls P f #[.slice (some ⟨blk, off, none⟩) zs.length cap] w fun e w' => e = .returned (.tuple #[]) ∧ ∃ n os, w' = Sort.grow (Sort.putRow Go.Proofs.encStr (Sort.ahead w n) blk off (zs.mergeSort fun x y => decide (x ≤ y)).toArray) os)
    (p : Option Addr) (c : Nat) (l : List ByteArray) (h : l.length < 4611686018427387904) : Tr P f [.slice p l.length c] [own eStr E p c l] (fun r H' => r = .tuple #[] ∧ H' = [own eStr E p c (sortS l)]) :=
  tr_sort (enc := Go.Proofs.encStr) (φ := toB) eStr rfl encS E (fun z => z.mergeSort fun x y => decide (x ≤ y)) (fun z => List.length_mergeSort z) sortS sortS_toB hn hc p c l h
theorem tr_compS' {P : Program} {f : FuncId} (E : Nat)
    (hn : ∀ (a : Option Addr) (cap : Nat) (w : World), Calls P f #[.slice a 0 cap] w fun e w' => e = .returned (.slice a 0 cap) ∧ w' = w)
    (hc : ∀ (blk off cap : Nat) (zs : List (List UInt8)) (w : World), Sort.Holds Go.Proofs.encStr w blk off zs.toArray → zs.length ≤ 9223372036854775807 → zs.length ≤ cap → Calls P f #[.slice (some ⟨blk, off, none⟩) zs.length cap] w fun e w' => e = .returned (.slice (some ⟨blk, off, none⟩) (Lib.compact zs).length cap) ∧ ∃ q, w' = Sort.putRow Go.Proofs.encStr (Sort.ahead w q) blk off (Lib.compact zs ++ List.replicate (zs.length - (Lib.compact zs).length) []).toArray)
    (p : Option Addr) (c : Nat) (l : List ByteArray) (h : l.length < 4611686018427387904) : Tr P f [.slice p l.length c] [own eStr E p c l] (fun r H' => r = .slice p (compS l).length c ∧ H' = [own eStr E p c (compS l)]) := by
  have key := tr_putrow (enc := Go.Proofs.encStr) (φ := toB) (f := f) (P := P) eStr rfl encS E (fun zs => Lib.compact zs ++ List.replicate (zs.length - (Lib.compact zs).length) []) (fun z => by have := compact_le z; simp; omega) (fun l => compS l ++ List.replicate (l.length - (compS l).length) (ofL [])) (fun l => by
      unfold compS
      rw [List.map_append, List.map_map, List.map_replicate, List.length_map, List.length_map]
      have : (toB ∘ ofL) = id := by funext x; exact toB_ofL x
      rw [this, List.map_id, toB_ofL]) (fun a zs cap => .slice a (Lib.compact zs).length cap) (fun cap w => hn none cap w)
      (fun blk off cap zs w h1 _ h3 h4 => (hc blk off cap zs w h1 (by omega) h4).mono (by
        rintro e w' ⟨rfl, q, rfl⟩
        exact ⟨rfl, q, #[], by rw [Sort.grow_empty]⟩)) p c l h
  intro F w hs
  refine (key F w hs).mono ?_
  rintro e w' ⟨r, H', rfl, ⟨hr, rfl⟩, hs2, hk⟩
  refine ⟨r, [own eStr E p c (compS l)], rfl, ⟨?_, rfl⟩, sat_imp (fun _ ho => own_shorter ho) hs2, hk⟩
  rw [hr]
  unfold compS
  rw [List.length_map]
end Go.Fw

/- Rows of the call's own whose elements hold slices that are never written. -/
namespace Go.Fw
set_option linter.all false
open Go Go.RowKit
/-- A ROW OF THE CALL's OWN, WHOSE ELEMENTS HOLD SLICES -/
def ownN {α : Type} (I : Hl) (n : NEnc α) (E : Nat) (p : Option Addr) (c : Nat) (l : List α) : HP := fun h => ∃ x : {R : List n.β // R.map n.log = l ∧ ∀ r ∈ R, n.ok I r}, own n.e E p c x.1 h
theorem sat_ex {ι : Type} {q : ι → HP} : ∀ {l : List HP} {k : Nat} {g : Hl}, l[k]? = some (fun h => ∃ x, q x h) → Sat l g → ∃ x, Sat (l.set k (q x)) g
  | [], _, _, hk, _ => by cases hk
  | p :: l, 0, g, hk, hs => by
    have hk : p = fun h => ∃ x, q x h := Option.some.inj hk
    subst hk
    obtain ⟨h, h1, ⟨x, hx⟩, h2⟩ := hs
    exact ⟨x, h, h1, hx, h2⟩
  | p :: l, k + 1, g, hk, hs => by
    obtain ⟨h, h1, hp, h2⟩ := hs
    obtain ⟨x, hx⟩ := sat_ex (l := l) (k := k) hk h2
    exact ⟨x, h, h1, hp, hx⟩
theorem sat_impk {p q : HP} (hpq : ∀ h, p h → q h) : ∀ {l : List HP} {k : Nat} {g : Hl}, l[k]? = some p → Sat l g → Sat (l.set k q) g
  | [], _, _, hk, _ => by cases hk
  | p' :: l, 0, g, hk, hs => by
    have hk : p' = p := Option.some.inj hk
    subst hk
    obtain ⟨h, h1, hx, h2⟩ := hs
    exact ⟨h, h1, hpq h hx, h2⟩
  | p' :: l, k + 1, g, hk, hs => by
    obtain ⟨h, h1, hp, h2⟩ := hs
    exact ⟨h, h1, hp, sat_impk hpq (l := l) (k := k) hk h2⟩
section
variable {α : Type} {I J : Hl} {n : NEnc α} {E : Nat} {p : Option Addr} {c : Nat} {l : List α} {w0 w : World} {H : List HP} {k : Nat}
theorem sat_openN (hk : H[k]? = some (ownN I n E p c l)) (hs : SAT w0 H w) : ∃ R : List n.β, R.map n.log = l ∧ (∀ r ∈ R, n.ok I r) ∧ SAT w0 (H.set k (own n.e E p c R)) w := by
  obtain ⟨x, hx⟩ := sat_ex hk hs.1
  exact ⟨x.1, x.2.1, x.2.2, hx, hs.2⟩
theorem sat_closeN {R : List n.β} (k : Nat) (hk : H[k]? = some (own n.e E p c R)) (hl : R.map n.log = l) (ho : ∀ r ∈ R, n.ok I r) (hs : SAT w0 H w) : SAT w0 (H.set k (ownN I n E p c l)) w :=
  ⟨sat_impk (fun _ h => ⟨⟨R, hl, ho⟩, h⟩) hk hs.1, hs.2⟩
theorem sat_liftN (k : Nat) (hk : H[k]? = some (ownN I n E p c l)) (hsub : Hl.sub I J) (hs : SAT w0 H w) : SAT w0 (H.set k (ownN J n E p c l)) w :=
  ⟨sat_impk (fun _ ⟨x, h⟩ => ⟨⟨x.1, x.2.1, fun r hr => n.sub hsub r (x.2.2 r hr)⟩, h⟩) hk hs.1, hs.2⟩
theorem sat_ownN_nil (I : Hl) (n : NEnc α) (E : Nat) (hs : SAT w0 H w) : SAT w0 (ownN I n E none 0 ([] : List α) :: H) w :=
  sat_closeN (H := own n.e E none 0 [] :: H) 0 rfl rfl (fun r hr => by cases hr) (sat_own_nil n.e E hs)
end
section
variable {P : Program} {ops : Array Oper} {Q : Exit → Act → World → Prop} {i m tl : Nat} {L : Slots} {w0 : World} {H : List HP} {α : Type} {I : Hl} {n : NEnc α} {E : Nat} {p : Option Addr} {c : Nat} {l : List α}
theorem ow_openN (k : Nat) (hk : H[k]? = some (ownN I n E p c l)) (h : ∀ R : List n.β, R.map n.log = l → (∀ r ∈ R, n.ok I r) → OW P ops Q i m L (SAT w0 (H.set k (own n.e E p c R)))) : OW P ops Q i m L (SAT w0 H) := by
  intro a w hf hs
  obtain ⟨R, h1, h2, h3⟩ := sat_openN hk hs
  exact h R h1 h2 a w hf h3
theorem cw_openN (k : Nat) {cd : Code} (hk : H[k]? = some (ownN I n E p c l)) (h : ∀ R : List n.β, R.map n.log = l → (∀ r ∈ R, n.ok I r) → CW P cd Q m L (SAT w0 (H.set k (own n.e E p c R)))) : CW P cd Q m L (SAT w0 H) := by
  intro a w hf hs
  obtain ⟨R, h1, h2, h3⟩ := sat_openN hk hs
  exact h R h1 h2 a w hf h3
theorem aw_openN {T : World → Prop} {f mm : Nat} (k : Nat) (hk : H[k]? = some (ownN I n E p c l)) (h : ∀ R : List n.β, R.map n.log = l → (∀ r ∈ R, n.ok I r) → AW P ops Q tl T f mm m L (SAT w0 (H.set k (own n.e E p c R)))) : AW P ops Q tl T f mm m L (SAT w0 H) := by
  intro a w hf hs
  obtain ⟨R, h1, h2, h3⟩ := sat_openN hk hs
  exact h R h1 h2 a w hf h3
theorem sat_junk {w : World} {H : List HP} {q : HP} (k : Nat) (hk : H[k]? = some q) (hs : SAT w0 H w) : SAT w0 (H.set k emp) w := ⟨sat_impk (fun _ _ => trivial) hk hs.1, hs.2⟩
end
end Go.Fw

/- Elements of an array that is a part of a variable, at an open index. -/
namespace Go.Fw
set_option linter.all false
open Go Go.RowKit
/-- a list with one element set, laid out element by element -/
def setF {α : Type} : List α → Nat → Nat → α → List α
  | [], _, _, _ => []
  | x :: l, i, j, z => (if j = i then z else x) :: setF l (i + 1) j z
theorem setF_get {α : Type} : ∀ (l : List α) (i j : Nat) (z : α) (r : Nat), (setF l i j z)[r]? = if j = i + r ∧ r < l.length then some z else l[r]?
  | [], i, j, z, r => by simp [setF]
  | x :: l, i, j, z, 0 => by
    unfold setF
    rw [List.getElem?_cons_zero, List.getElem?_cons_zero, Nat.add_zero]
    by_cases h : j = i
    · rw [if_pos h, if_pos ⟨h, by simp⟩]
    · rw [if_neg h, if_neg (fun e => h e.1)]
  | x :: l, i, j, z, r + 1 => by
    unfold setF
    rw [List.getElem?_cons_succ, List.getElem?_cons_succ, setF_get l (i + 1) j z r]
    have : (j = i + 1 + r ∧ r < l.length) ↔ (j = i + (r + 1) ∧ r + 1 < (x :: l).length) := by
      rw [List.length_cons]; omega
    by_cases h : j = i + 1 + r ∧ r < l.length
    · rw [if_pos h, if_pos (this.1 h)]
    · rw [if_neg h, if_neg (fun e => h (this.2 e))]
theorem setF_set {α : Type} (l : List α) (j : Nat) (z : α) : setF l 0 j z = l.set j z := by
  apply List.ext_getElem?
  intro r
  rw [setF_get, List.getElem?_set, Nat.zero_add]
  by_cases h : j = r
  · subst h
    by_cases h2 : j < l.length
    · rw [if_pos ⟨rfl, h2⟩, if_pos rfl, if_pos h2]
    · rw [if_neg (fun e => h2 e.2), if_pos rfl, if_neg h2, List.getElem?_eq_none (by omega)]
  · rw [if_neg (fun e => h e.1), if_neg h]
section
variable {P : Program} {ops : Array Oper} {Q : Exit → Act → World → Prop} {i n : Nat} {L : Slots} {S : World → Prop} {o : Oper} {w0 : World} {H : List HP} {K : Act → World → Prop} {α : Type} {e : Enc α} {l : List α}
/-- '&v.a[j]' -/
theorem q_index_objel {b off : Nat} {t : TypeId} {x ix : Operand} {kd : IntKind} {j : Int} {y : α} {m E sz tot : Nat} (hop : o.op = .indexAddr t x ix) (har : arOf P t = some (m, E, sz, tot)) (hx : rho L x = .pointer (some ⟨b, off, none⟩)) (hix : rho L ix = .int kd j) (hl : l.length = m) (hy : at_ l j = some y) :
    RunIs P S L o (.pointer (some ((⟨b, off, none⟩ : Addr).add (j.toNat * sz)))) := by
  intro w _
  obtain ⟨hu, ⟨inf, hi, his⟩, _⟩ := arOf_spec har
  have h0 := (at_some hy).1
  have hj := at_lt hy
  rw [hl] at hj
  simp [execOp, hop, hx, hix, Instr.indexAt, asIntOf, run_underlying hu, Instr.sureAddr, h0, hj, sizeOf, typeInfo, hi, his]
theorem all_get1 (h1 : e.sz = 1) (l : List α) (r : Nat) : (e.all l)[r]? = (l[r]?).bind fun x => (e.f x)[0]? := by
  cases hr : l[r]? with
  | none =>
    rw [List.getElem?_eq_none]
    · rfl
    · rw [e.all_length, h1, Nat.mul_one]; exact List.getElem?_eq_none_iff.1 hr
  | some x =>
    have := Enc.all_get e hr 0 e.pos
    rw [h1] at this
    simpa using this
theorem objel_get {C : Array Value} {off : Nat} {A B : List Value} {j : Int} {y : α} {v : Value} (h1 : e.sz = 1) (hC : C.toList = A ++ (e.all l ++ B)) (hA : A.length = off) (hy : at_ l j = some y) (hv : e.f y = [v]) : C[off + j.toNat]? = some v := by
  have h2 := (at_some hy).2
  have hlt : j.toNat < l.length := (List.getElem?_eq_some_iff.1 h2).1
  rw [← Array.getElem?_toList, hC, List.getElem?_append_right (by omega), hA, Nat.add_sub_cancel_left, List.getElem?_append_left (by rw [e.all_length, h1]; omega), all_get1 h1, h2, Option.bind_some, hv]
  rfl
theorem q_load_objel (k : Nat) {b off : Nat} {T t : TypeId} {x : Operand} {j : Int} {y : α} {v : Value} {C : Array Value} (A B : List Value) (hk : H[k]? = some (pt b C T)) (hC : C.toList = A ++ (e.all l ++ B)) (hA : A.length = off) (h1 : e.sz = 1) (hop : o.op = .load t x) (hsc : ((P.underlying t).map fun d => match d with | .struct _ => false | .array _ _ => false | _ => true) = some true)
    (hx : rho L x = .pointer (some ((⟨b, off, none⟩ : Addr).add (j.toNat * 1)))) (hy : at_ l j = some y) (hv : e.f y = [v]) : RunIs P (SAT w0 H) L o v := by
  rw [add_lit, Nat.mul_one] at hx
  refine q_load k hop hx hk ?_
  unfold ptLoad
  cases hu : P.underlying t with
  | none => rw [hu] at hsc; cases hsc
  | some d =>
    rw [hu] at hsc
    have := objel_get h1 hC hA hy hv
    cases d <;> first | (cases hsc; done) | exact this
theorem pw_store_objel (k : Nat) {b off : Nat} {T t : TypeId} {x y : Operand} {j : Int} {z z' : α} {v : Value} {C C' : Array Value} (A B : List Value) (hk : H[k]? = some (pt b C T)) (hC : C.toList = A ++ (e.all l ++ B)) (hA : A.length = off) (h1 : e.sz = 1) (hC' : C'.toList = A ++ (e.all (setF l 0 j.toNat z') ++ B)) (ho : ops[i]? = some o) (hop : o.op = .store t x y) (hd : dstOk n o.dst = true) (hw : wantedL ops L o = some true) (hkn : knows L o = true)
    (hi1 : (P.info? t).map (·.size) = some 1) (hx : rho L x = .pointer (some ((⟨b, off, none⟩ : Addr).add (j.toNat * 1)))) (hy : rho L y = v) (hone : v.oneCell' = true) (hz : at_ l j = some z) (hv : e.f z' = [v])
    (h : NW K n (putL o.dst undef L) (SAT w0 (H.set k (pt b C' T)))) : PW P ops Q i n L (SAT w0 H) K := by
  rw [add_lit, Nat.mul_one] at hx
  refine pw_store k _ ho hop hd hw hkn hx hk ?_ h
  have hjl : j.toNat < l.length := (List.getElem?_eq_some_iff.1 (at_some hz).2).1
  have hcells : v.cells = #[v] := by cases v <;> first | rfl | (simp [Value.oneCell'] at hone)
  have hlen : C.size = off + (l.length + B.length) := by rw [← Array.length_toList, hC, List.length_append, List.length_append, hA, e.all_length, h1, Nat.mul_one]
  unfold ptStore
  cases hi : P.info? t with
  | none => rw [hi] at hi1; cases hi1
  | some inf =>
    rw [hi] at hi1
    simp only [Option.map_some, Option.some.injEq] at hi1
    simp only [hy, hcells, hi1]
    rw [Nat.ble_eq_true_of_le (show off + j.toNat + #[v].size ≤ C.size by rw [hlen]; show off + j.toNat + 1 ≤ _; omega)]
    simp only [List.size_toArray, List.length_cons, List.length_nil, Nat.zero_add, Nat.beq_refl, List.all_cons, hone, List.all_nil, Bool.and_self, cond_true, Option.some.injEq, setAll]
    apply Array.ext'
    rw [Array.toList_setIfInBounds, hC, hC', setF_set, List.set_append_right _ _ (by omega), hA, Nat.add_sub_cancel_left, List.set_append_left _ _ (by rw [e.all_length, h1]; omega)]
    congr 2
    apply List.ext_getElem?
    intro r
    rw [List.getElem?_set, all_get1 h1 (l.set j.toNat z')]
    by_cases hr : j.toNat = r
    · subst hr
      rw [if_pos rfl, if_pos (by rw [e.all_length, h1]; omega), List.getElem?_set_self hjl, Option.bind_some, hv]
      rfl
    · rw [if_neg hr, List.getElem?_set_ne hr, all_get1 h1]
end
end Go.Fw
