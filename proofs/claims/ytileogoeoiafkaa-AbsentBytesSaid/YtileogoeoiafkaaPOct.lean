/- Numbers and texts as bytes, in plain words. -/
import Derived.Test.YtileogoeoiafkaaFwU
import Derived.Test.YtileogoeoiafkaaGOct
namespace Go.Proofs.Ytileogoeoiafkaa
set_option linter.all false
open Go Go.RowKit Go.Fw
set_option maxRecDepth 100000
attribute [local irreducible] FUEL

def numB (n : Nat) : ByteArray := ofL (numL n)
theorem numB_size {n : Nat} (h : n < 72057594037927936) : (numB n).size ≤ 8 := by
  unfold numB numL
  rw [ofL_size, List.length_cons]
  have := dig_len h
  omega
/-- a text as bytes -/
def textL (s : List UInt8) : List UInt8 := numL s.length ++ s
def textB (s : ByteArray) : ByteArray := numB s.size ++ s
theorem textB_eq (s : ByteArray) : textB s = ofL (textL s.data.toList) := by
  unfold textB textL numB
  rw [app_eq, ofL_toList, size_ofL']
theorem textB_size {s : ByteArray} (h : s.size < 72057594037927936) : (textB s).size ≤ s.size + 8 := by
  unfold textB
  rw [size_app]
  have := numB_size h
  omega
theorem textL_cut {a b r s : List UInt8} (ha : a.length < 72057594037927936) (hb : b.length < 72057594037927936) (h : textL a ++ r = textL b ++ s) : a = b ∧ r = s := by
  unfold textL at h
  rw [List.append_assoc, List.append_assoc] at h
  obtain ⟨h1, h2⟩ := numL_cut ha hb h
  exact List.append_inj h2 h1
theorem textB_cut {a b r s : ByteArray} (ha : a.size < 72057594037927936) (hb : b.size < 72057594037927936) (h : textB a ++ r = textB b ++ s) : a = b ∧ r = s := by
  rw [textB_eq, textB_eq, app_eq, app_eq, ofL_toList, ofL_toList] at h
  obtain ⟨h1, h2⟩ := textL_cut (by rw [size_ofL']; exact ha) (by rw [size_ofL']; exact hb) (ofL_inj h)
  exact ⟨by rw [ofL_surj a, ofL_surj b, h1], by rw [ofL_surj r, ofL_surj s, h2]⟩

theorem num_loop : ∀ (f n m : Nat) (s : List UInt8), n < 256 ^ f → f < m → s.length + f ≤ 1000 → iter (fun (x : Int × ByteArray) => F.octet_Num.l2 x.1 x.2) m ((n : Int), ofL s) = some (ofL (digG f n ++ s))
  | 0, n, m, s, h, hm, hs => by
    simp at h
    subst h
    obtain ⟨m, rfl⟩ : ∃ j, m = j + 1 := ⟨m - 1, by omega⟩
    refine iter_stop ?_
    dsimp only
    unfold F.octet_Num.l2
    rw [if_neg (by decide)]; rfl
  | f + 1, n, m, s, h, hm, hs => by
    obtain ⟨m, rfl⟩ : ∃ j, m = j + 1 := ⟨m - 1, by omega⟩
    unfold digG
    by_cases h0 : n = 0
    · subst h0
      rw [if_pos rfl]
      refine iter_stop ?_
      dsimp only
      unfold F.octet_Num.l2
      rw [if_neg (by decide)]; rfl
    · rw [if_neg h0, List.append_assoc]
      refine iter_next (s' := (((n / 256 : Nat) : Int), ofL (UInt8.ofNat n :: s))) ?_ ?_
      · dsimp only
        unfold F.octet_Num.l2
        have hb : bstr ([IntKind.u8.wrap (n : Int)] : List Int) = ofL [UInt8.ofNat n] := by rw [u8w]; exact bstr_ns [UInt8.ofNat n]
        rw [if_pos (by simp; omega), hb, chk_pos (by rw [ofL_size, ofL_size]; simp; omega), ofL_append, fdiv_pow n 8]
        rfl
      · have ih : 256 ^ f * 256 = 256 ^ (f + 1) := by rw [Nat.pow_succ]
        exact num_loop f (n / 256) m (UInt8.ofNat n :: s) (by omega) (by omega) (by simp; omega)
theorem num_eq {n : Nat} (h : n < 72057594037927936) : F.octet_Num (n : Int) = some (numB n) := by
  unfold F.octet_Num
  rw [if_neg (by simp), if_neg (by simp; omega)]
  show F.octet_Num.r1 (n : Int) = _
  unfold F.octet_Num.r1
  have hl := num_loop 8 n FUEL [] (Nat.lt_trans h (by decide)) (by rw [FUEL_eq]; omega) (by decide)
  have he : ofL ([] : List UInt8) = ByteArray.mk #[] := rfl
  rw [he] at hl
  rw [hl, List.append_nil]
  show F.octet_Num.r3 (ofL (dig n)) = _
  unfold F.octet_Num.r3
  have hb : bstr ([IntKind.u8.wrap ((ofL (dig n)).size : Int)] : List Int) = ofL [UInt8.ofNat (dig n).length] := by rw [u8w, ofL_size]; exact bstr_ns [UInt8.ofNat (dig n).length]
  have := dig_len h
  rw [hb, chk_pos (by rw [ofL_size, ofL_size]; simp; omega), ofL_append]
  rfl
end Go.Proofs.Ytileogoeoiafkaa
