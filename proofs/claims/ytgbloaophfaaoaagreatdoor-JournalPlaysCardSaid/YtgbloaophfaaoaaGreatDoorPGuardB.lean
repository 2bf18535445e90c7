/- A guard is made, and read. -/
import Derived.Test.YtgbloaophfaaoaaGreatDoorPGuard
import Derived.Test.YtgbloaophfaaoaaGreatDoorGPlays
namespace Go.Proofs.YtgbloaophfaaoaaGreatDoor
set_option linter.all false
open Go Go.RowKit Go.Fw
set_option maxRecDepth 100000
attribute [local irreducible] FUEL
theorem fix_val : ∀ (k : Nat) (l : List UInt8), l.length = k → fixI k (valL l : Int) = l
  | 0, l, h => by rw [List.length_eq_zero_iff.1 h]; rfl
  | k + 1, l, h => by
    rcases List.eq_nil_or_concat l with rfl | ⟨L, b, rfl⟩
    · simp at h
    · rw [List.concat_eq_append] at h ⊢
      have hb := u8_lt b
      unfold fixI
      rw [valL_snoc]
      have e1 : (((valL L * 256 + b.toNat : Nat) : Int)) / 256 = (valL L : Int) := by omega
      have e2 : ((((valL L * 256 + b.toNat : Nat) : Int)) % 256).toNat = b.toNat := by omega
      rw [e1, e2, fix_val k L (by simpa using h)]
      simp
theorem fix_congr : ∀ (k : Nat) (x y : Int), x % ((256 ^ k : Nat) : Int) = y % ((256 ^ k : Nat) : Int) → fixI k x = fixI k y := by
  intro k x y h
  have h1 := fixI_val k x
  have h2 := fixI_val k y
  have hv : valL (fixI k x) = valL (fixI k y) := by
    rw [← h2, ] at h
    rw [h] at h1
    exact Int.ofNat.inj h1
  have e1 := fix_val k (fixI k x) (fixI_len k x)
  have e2 := fix_val k (fixI k y) (fixI_len k y)
  rw [← e1, ← e2, hv]
theorem fix_num {l : List UInt8} (h : l.length = 8) : fixI 8 (num64 l) = l := by
  rw [num64_val]
  refine (fix_congr 8 _ _ ?_).trans (fix_val 8 l h)
  have : ((256 ^ 8 : Nat) : Int) = 18446744073709551616 := by decide
  rw [this]
  exact wrap_mod _
theorem gnew_eq {d : disk_Disk} (h : 1 ≤ d.sure_.length) {b : Int} (h1 : 1 ≤ b) (h2 : b ≤ 2147483647) : F.guard_New b d = some (some ⟨b, 0⟩, 0) := by
  unfold F.guard_New F.disk_Disk_Size
  rw [Option.bind_some, if_neg (by intro e; rw [beq_iff_eq] at e; omega), if_neg (by simp; omega), if_neg (by simp; omega), thru_inl]
  rfl
theorem new_cur {n : Nat} {j : Int} (h0 : 0 ≤ j) (h1 : j < (n : Int)) : curB (newD n) j = ofL noL := by
  show (((List.replicate n (⟨blankB, 0⟩ : disk_sector))[j.toNat]?).getD zS).s_ = _
  rw [List.getElem?_replicate, if_pos (by omega)]
  show blankB = _
  rw [blank_fill]
  unfold fillB
  rw [bstr_ofL, List.map_replicate]
  rfl
end Go.Proofs.YtgbloaophfaaoaaGreatDoor
