/- Numbers in eight bytes, in plain words. -/
import Derived.Test.YtgbloaophfaaoaaGreatDoorFwN
namespace Go.Proofs.YtgbloaophfaaoaaGreatDoor
set_option linter.all false
open Go Go.RowKit Go.Fw
set_option maxRecDepth 100000
attribute [local irreducible] FUEL
theorem wrap_congr {a b : Int} (h : a % 18446744073709551616 = b % 18446744073709551616) : IntKind.i64.wrap a = IntKind.i64.wrap b := by rw [i64_as, i64_as, h]
theorem wrap_mod (a : Int) : IntKind.i64.wrap a % 18446744073709551616 = a % 18446744073709551616 := by rw [i64_as]; split <;> omega
theorem ior_step (t : Int) (b : UInt8) : ior .i64 (IntKind.i64.wrap (t * 2 ^ 8)) (IntKind.i64.wrap (b.toNat : Int)) = IntKind.i64.wrap (t * 256 + b.toNat) := by
  have hb8 := u8_lt b
  rw [w64 (n := (b.toNat : Int)) (by omega) (by omega), show (2 : Int) ^ 8 = 256 from rfl]
  have hx : (BitVec.ofInt IntKind.i64.bits (IntKind.i64.wrap (t * 256))).toNat = ((t * 256) % 18446744073709551616).toNat := by
    rw [BitVec.toNat_ofInt]
    exact congrArg Int.toNat (wrap_mod _)
  have hy : (BitVec.ofInt IntKind.i64.bits (b.toNat : Int)).toNat = b.toNat := by
    rw [BitVec.ofInt_natCast, BitVec.toNat_ofNat]
    show b.toNat % 18446744073709551616 = _
    omega
  unfold ior
  rw [BitVec.toNat_or, hx, hy]
  generalize hU : ((t * 256) % 18446744073709551616).toNat = U
  have h1 : U = U / 256 * 256 := by omega
  rw [h1, or256 _ _ hb8]
  exact wrap_congr (by omega)
/-- bytes as a number of 64 bits -/
def num64 (l : List UInt8) : Int := l.foldl (fun t b => IntKind.i64.wrap (t * 256 + b.toNat)) 0
theorem num64_snoc (l : List UInt8) (b : UInt8) : num64 (l ++ [b]) = IntKind.i64.wrap (num64 l * 256 + b.toNat) := by simp [num64]
theorem num64_val (l : List UInt8) : num64 l = IntKind.i64.wrap (valL l : Int) := by
  have : ∀ (k : Nat) (l : List UInt8), l.length = k → num64 l = IntKind.i64.wrap (valL l : Int) := by
    intro k
    induction k with
    | zero => intro l h; rw [List.length_eq_zero_iff.1 h]; decide
    | succ k ih =>
      intro l h
      rcases List.eq_nil_or_concat l with rfl | ⟨L, b, rfl⟩
      · simp at h
      · rw [List.concat_eq_append, num64_snoc, valL_snoc, ih L (by simpa using h)]
        have := wrap_mod (valL L : Int)
        exact wrap_congr (by omega)
  exact this _ l rfl
/-- so many bytes of a number, the highest first -/
def fixI : Nat → Int → List UInt8
  | 0, _ => []
  | k + 1, x => fixI k (x / 256) ++ [UInt8.ofNat (x % 256).toNat]
theorem fixI_len : ∀ (k : Nat) (x : Int), (fixI k x).length = k
  | 0, _ => rfl
  | k + 1, x => by unfold fixI; rw [List.length_append, fixI_len k]; rfl
theorem fixI_val : ∀ (k : Nat) (x : Int), (valL (fixI k x) : Int) = x % ((256 ^ k : Nat) : Int)
  | 0, x => by simp [fixI, valL]
  | k + 1, x => by
    unfold fixI
    rw [valL_snoc]
    have ih := fixI_val k (x / 256)
    have hb : (UInt8.ofNat (x % 256).toNat).toNat = (x % 256).toNat := by
      have : (x % 256).toNat < 256 := by omega
      simp; try omega
    rw [hb, Nat.pow_succ]
    have hp : (0 : Int) < ((256 ^ k : Nat) : Int) := by have := Nat.pow_pos (n := k) (show 0 < 256 by decide); omega
    generalize hQ : ((256 ^ k : Nat) : Int) = Q at ih hp
    have hc : (((valL (fixI k (x / 256)) * 256 + (x % 256).toNat : Nat) : Int)) = (x / 256) % Q * 256 + x % 256 := by
      rw [← ih]; omega
    have hq : ((256 ^ k * 256 : Nat) : Int) = Q * 256 := by rw [← hQ]; omega
    rw [hc, hq]
    have h2 : Q * (x / 256 / Q) + (x / 256) % Q = x / 256 := Int.mul_ediv_add_emod (x / 256) Q
    have h3 : 0 ≤ (x / 256) % Q := Int.emod_nonneg _ (by omega)
    have h4 : (x / 256) % Q < Q := Int.emod_lt_of_pos _ hp
    have h5 : x = ((x / 256) % Q * 256 + x % 256) + Q * 256 * (x / 256 / Q) := by
      have : Q * 256 * (x / 256 / Q) = 256 * (Q * (x / 256 / Q)) := by rw [Int.mul_comm Q 256, Int.mul_assoc]
      omega
    have h6 : 0 ≤ x % 256 := Int.emod_nonneg _ (by decide)
    have h7 : x % 256 < 256 := Int.emod_lt_of_pos _ (by decide)
    generalize (x / 256) % Q = S at h3 h4 h5
    generalize x % 256 = R at h5 h6 h7
    generalize x / 256 / Q = W at h5
    rw [h5, Int.add_mul_emod_self_left, Int.emod_eq_of_lt (by omega) (by omega)]
end Go.Proofs.YtgbloaophfaaoaaGreatDoor
