/- Plain words: numbers within their bounds, bytes as lists, rounds counted. -/
import Derived.Test.YtilpkebkhibpeaaGreatDoorFwK
namespace Go.Fw
set_option linter.all false
open Go Go.RowKit

theorem i64_as (n : Int) : IntKind.i64.wrap n = if (9223372036854775808 : Int) ≤ n % 18446744073709551616 then n % 18446744073709551616 - 18446744073709551616 else n % 18446744073709551616 := by
  have h1 : ((2 : Int) ^ IntKind.i64.bits) = 18446744073709551616 := by decide
  have h2 : ((2 : Int) ^ (IntKind.i64.bits - 1)) = 9223372036854775808 := by decide
  unfold IntKind.wrap
  rw [h1, h2]
  by_cases h : (9223372036854775808 : Int) ≤ n % 18446744073709551616
  · rw [if_pos h]; exact if_pos (by simp [IntKind.signed]; exact h)
  · rw [if_neg h]; exact if_neg (by simp [IntKind.signed]; omega)
theorem w64 {n : Int} (h0 : -9223372036854775808 ≤ n) (h1 : n ≤ 9223372036854775807) : IntKind.i64.wrap n = n := by
  rw [i64_as]; split <;> omega
theorem wu8 {n : Int} (h0 : 0 ≤ n) (h1 : n < 256) : IntKind.u8.wrap n = n := by
  simp [IntKind.wrap, IntKind.bits, IntKind.signed]; omega
theorem wu32 {n : Int} (h0 : 0 ≤ n) (h1 : n < 4294967296) : IntKind.u32.wrap n = n := by
  simp [IntKind.wrap, IntKind.bits, IntKind.signed]; omega
theorem wu64 {n : Int} (h0 : 0 ≤ n) (h1 : n < 18446744073709551616) : IntKind.u64.wrap n = n := by
  simp [IntKind.wrap, IntKind.bits, IntKind.signed]; omega

theorem FUEL_eq : FUEL = 18446744073709551616 := by decide

/-- rounds that are known one by one -/
theorem iter_count {σ ρ : Type} {f : σ → Option (σ ⊕ ρ)} (st : Nat → σ) {n : Nat} {r : ρ} (h : ∀ i, i < n → f (st i) = some (.inl (st (i + 1)))) (hr : f (st n) = some (.inr r)) :
    ∀ {k : Nat}, n < k → iter f k (st 0) = some r := by
  have : ∀ m i, i + m = n → ∀ k, m < k → iter f k (st i) = some r := by
    intro m
    induction m with
    | zero =>
      intro i hi k hk
      obtain ⟨k, rfl⟩ : ∃ j, k = j + 1 := ⟨k - 1, by omega⟩
      have : i = n := by omega
      subst this
      exact iter_stop hr
    | succ m ih =>
      intro i hi k hk
      obtain ⟨k, rfl⟩ : ∃ j, k = j + 1 := ⟨k - 1, by omega⟩
      exact iter_next (h i (by omega)) (ih (i + 1) (by omega) k (by omega))
  exact fun {k} hk => this n 0 (by omega) k hk

/-- bytes of a list -/
def ofL (l : List UInt8) : ByteArray := ⟨l.toArray⟩
theorem ofL_surj (s : ByteArray) : s = ofL s.data.toList := by cases s; simp [ofL]
theorem ofL_inj {a b : List UInt8} (h : ofL a = ofL b) : a = b := by
  have := congrArg (fun s : ByteArray => s.data.toList) h
  simpa [ofL] using this
theorem ofL_size (l : List UInt8) : (ofL l).size = l.length := by simp [ofL, ByteArray.size]
theorem ofL_append (a b : List UInt8) : ofL a ++ ofL b = ofL (a ++ b) := by
  apply ByteArray.ext
  simp [ofL]
theorem ofL_toList (l : List UInt8) : (ofL l).data.toList = l := by simp [ofL]
theorem ofL_extract (l : List UInt8) (i j : Nat) : (ofL l).extract i j = ofL ((l.take j).drop i) := by
  apply ByteArray.ext
  apply Array.ext'
  simp [ofL, List.drop_take]
theorem ofL_get (l : List UInt8) (i : Nat) : (ofL l)[i]? = l[i]? := by
  by_cases h : i < l.length
  · rw [List.getElem?_eq_getElem h, getElem?_pos (ofL l) i (by rw [ofL_size]; exact h)]
    simp [ofL, ByteArray.getElem_eq_getElem_data]
  · rw [List.getElem?_eq_none (by omega), getElem?_neg (ofL l) i (by rw [ofL_size]; exact h)]
theorem bt_ofL (l : List UInt8) (j : Int) : bt (ofL l) j = ((l[j.toNat]?).getD 0).toNat := by unfold bt; rw [ofL_get]
theorem sbytes_ofL (l : List UInt8) : sbytes (ofL l) = l.map fun b => (b.toNat : Int) := by unfold sbytes; rw [ofL_toList]
theorem toL_ofL (l : List UInt8) : (ofL l).toList = l := by rw [ByteArray.toList_eq]; simp [ofL]
theorem bstr_ofL (l : List Int) : bstr l = ofL (l.map fun n => UInt8.ofNat n.toNat) := by
  have : ∀ (l : List Int) (r : List UInt8), l.foldl (fun r n => r.push (UInt8.ofNat n.toNat)) (ofL r) = ofL (r ++ l.map fun n => UInt8.ofNat n.toNat) := by
    intro l
    induction l with
    | nil => intro r; simp
    | cons n l ih =>
      intro r
      have hp : (ofL r).push (UInt8.ofNat n.toNat) = ofL (r ++ [UInt8.ofNat n.toNat]) := by apply ByteArray.ext; simp [ofL, ByteArray.push]
      rw [List.foldl_cons, hp, ih]
      simp
  have h := this l []
  rw [List.nil_append] at h
  exact h
theorem seqB_iff {a b : ByteArray} : seqB a b = true ↔ a = b := by
  rw [ofL_surj a, ofL_surj b]
  unfold seqB
  rw [toL_ofL, toL_ofL]
  constructor
  · intro h; rw [eq_of_beq h]
  · intro h; rw [ofL_inj h]; simp
theorem seqB_refl (a : ByteArray) : seqB a a = true := seqB_iff.2 rfl
theorem u8_back (b : UInt8) : UInt8.ofNat ((b.toNat : Int).toNat) = b := by simp
theorem at_pos {α : Type} {l : List α} {j : Int} {x : α} (h0 : 0 ≤ j) (h : l[j.toNat]? = some x) : at_ l j = some x := by unfold at_; rw [if_pos h0, h]
end Go.Fw
