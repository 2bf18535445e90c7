/- Sectors that are stamped, in plain words. -/
import Derived.Test.YtgbloaophfaaoaaGreatDoorPEight
namespace Go.Proofs.YtgbloaophfaaoaaGreatDoor
set_option linter.all false
open Go Go.RowKit Go.Fw
set_option maxRecDepth 100000
attribute [local irreducible] FUEL
/-- a sector that holds something by a stamp; by the stamp 0, nothing: noughts -/
def secL (a : Int) (s : List UInt8) : List UInt8 := fixI 8 a ++ (UInt8.ofNat s.length :: (s ++ (List.replicate (47 - s.length) 0 ++ fixI 8 a)))
theorem secL_len {a : Int} {s : List UInt8} (h : s.length ≤ 47) : (secL a s).length = 64 := by simp [secL, fixI_len]; omega
theorem sec_head (a : Int) (s : List UInt8) : (secL a s).take 8 = fixI 8 a := by
  unfold secL
  rw [List.take_append_of_le_length (by rw [fixI_len]; decide), List.take_of_length_le (by rw [fixI_len]; decide)]
theorem sec_tail {a : Int} {s : List UInt8} (h : s.length ≤ 47) : (secL a s).drop 56 = fixI 8 a := by
  unfold secL
  rw [List.drop_append, List.drop_of_length_le (by rw [fixI_len]; decide), List.nil_append, fixI_len, show 56 - 8 = 47 + 1 from rfl, List.drop_succ_cons, List.drop_append, List.drop_of_length_le (by omega), List.nil_append, List.drop_append, List.drop_of_length_le (by rw [List.length_replicate]; omega), List.nil_append, List.length_replicate, Nat.sub_self]
  rfl
def mixL (n : Nat) (new old : List UInt8) : List UInt8 := new.take n ++ old.drop n
theorem mix_len {n : Nat} {new old : List UInt8} (h1 : new.length = 64) (h2 : old.length = 64) (h : n ≤ 64) : (mixL n new old).length = 64 := by simp [mixL, h1, h2]; omega
theorem mix_whole {new old : List UInt8} {n : Nat} (h1 : new.length = 64) (h2 : old.length = 64) (w1 : new.take 8 = new.drop 56) (w2 : old.take 8 = old.drop 56) (hn : new.take 8 ≠ old.take 8) (hle : n ≤ 64) (hm : (mixL n new old).take 8 = (mixL n new old).drop 56) : mixL n new old = old ∨ mixL n new old = new := by
  have hlt : (new.take n).length = n := by rw [List.length_take]; omega
  rcases Nat.lt_or_ge n 57 with h57 | h57
  · have hd : (mixL n new old).drop 56 = old.drop 56 := by
      unfold mixL
      rw [List.drop_append, List.drop_of_length_le (by omega), List.nil_append, List.drop_drop, hlt]
      congr 1
      omega
    rcases Nat.lt_or_ge 8 n with h8 | h8
    · exfalso
      have ht : (mixL n new old).take 8 = new.take 8 := by
        unfold mixL
        rw [List.take_append_of_le_length (by omega), List.take_take, Nat.min_eq_left (by omega)]
      exact hn (by rw [← ht, hm, hd, w2])
    · left
      have ht : (mixL n new old).take n = new.take n := by
        unfold mixL
        rw [List.take_append_of_le_length (by omega), List.take_take, Nat.min_self]
      have e := congrArg (List.take n) (hm.trans (hd.trans w2.symm))
      rw [List.take_take, List.take_take, Nat.min_eq_left h8, ht] at e
      unfold mixL
      rw [e, List.take_append_drop]
  · right
    have ht : (mixL n new old).take 8 = new.take 8 := by
      unfold mixL
      rw [List.take_append_of_le_length (by omega), List.take_take, Nat.min_eq_left (by omega)]
    have hd : (mixL n new old).drop n = old.drop n := by
      unfold mixL
      rw [List.drop_append, List.drop_of_length_le (by omega), List.nil_append, hlt, Nat.sub_self, List.drop_zero]
    have e := congrArg (List.drop (n - 56)) (w1.symm.trans (ht.symm.trans hm))
    rw [List.drop_drop, List.drop_drop, show 56 + (n - 56) = n by omega, hd] at e
    unfold mixL
    rw [← e, List.take_append_drop]
theorem fix_inj {a b : Int} (ha : 0 ≤ a) (ha1 : a < 18446744073709551616) (hb : 0 ≤ b) (hb1 : b < 18446744073709551616) (h : fixI 8 a = fixI 8 b) : a = b := by
  have h1 := fixI_val 8 a
  have h2 := fixI_val 8 b
  rw [h, h2] at h1
  have e : ((256 ^ 8 : Nat) : Int) = 18446744073709551616 := by decide
  rw [e] at h1
  omega
end Go.Proofs.YtgbloaophfaaoaaGreatDoor
