/- Plain words, more: rounds over a list; what maps hold; texts. -/
import Derived.Test.YtilpkebkhibpeaaGreatDoorFwM
import Derived.Test.YtilpkebkhibpeaaGreatDoorFwO
namespace Go.Fw
set_option linter.all false
open Go Go.RowKit

/-- rounds over a list, which may be left -/
def foldE {α τ ρ : Type} (step : Nat → τ → α → τ ⊕ ρ) (fin : τ → ρ) : List α → Nat → τ → ρ
  | [], _, t => fin t
  | y :: l, i, t => match step i t y with
    | .inl t' => foldE step fin l (i + 1) t'
    | .inr r => r
theorem iter_fold {α τ ρ σ : Type} {f : σ → Option (σ ⊕ ρ)} (mk : Nat → τ → σ) (step : Nat → τ → α → τ ⊕ ρ) (fin : τ → ρ) (I : Nat → τ → Prop) (l : List α)
    (h : ∀ i t y, I i t → l[i]? = some y → f (mk i t) = some (match step i t y with | .inl t' => .inl (mk (i + 1) t') | .inr r => .inr r) ∧ ∀ t', step i t y = .inl t' → I (i + 1) t')
    (hend : ∀ t, I l.length t → f (mk l.length t) = some (.inr (fin t))) {t0 : τ} (h0 : I 0 t0) : ∀ {k : Nat}, l.length < k → iter f k (mk 0 t0) = some (foldE step fin l 0 t0) := by
  have : ∀ (m : List α) (i : Nat) (t : τ), l.drop i = m → i + m.length = l.length → I i t → ∀ k, m.length < k → iter f k (mk i t) = some (foldE step fin m i t) := by
    intro m
    induction m with
    | nil =>
      intro i t hd hl hI k hk
      obtain ⟨k, rfl⟩ : ∃ j, k = j + 1 := ⟨k - 1, by simp at hk; omega⟩
      have : i = l.length := by simpa using hl
      subst this
      rw [iter, hend t hI]; rfl
    | cons y m ih =>
      intro i t hd hl hI k hk
      obtain ⟨k, rfl⟩ : ∃ j, k = j + 1 := ⟨k - 1, by simp at hk; omega⟩
      have hy : l[i]? = some y := by
        have := congrArg List.head? hd
        rw [List.head?_drop] at this
        simpa using this
      obtain ⟨h1, h2⟩ := h i t y hI hy
      rw [iter, h1]
      unfold foldE
      cases hs : step i t y with
      | inl t' =>
        refine ih (i + 1) t' ?_ (by simp at hl; omega) (h2 t' hs) k (by simp at hk; omega)
        rw [← List.drop_drop, hd]; rfl
      | inr r => rfl
  exact fun {k} hk => this l 0 t0 rfl (by simp) h0 k hk

/-- rounds, as many as may be, of which something holds -/
theorem iter_up {σ ρ : Type} {f : σ → Option (σ ⊕ ρ)} (n : Nat) (I : Nat → σ → Prop) (Q : ρ → Prop)
    (h : ∀ i s, i < n → I i s → (∃ s', f s = some (.inl s') ∧ I (i + 1) s') ∨ ∃ r, f s = some (.inr r) ∧ Q r)
    (he : ∀ s, I n s → ∃ r, f s = some (.inr r) ∧ Q r) {s0 : σ} (h0 : I 0 s0) : ∀ {k : Nat}, n < k → ∃ r, iter f k s0 = some r ∧ Q r := by
  have : ∀ m i s, i + m = n → I i s → ∀ k, m < k → ∃ r, iter f k s = some r ∧ Q r := by
    intro m
    induction m with
    | zero =>
      intro i s hi hI k hk
      obtain ⟨k, rfl⟩ : ∃ j, k = j + 1 := ⟨k - 1, by omega⟩
      have : i = n := by omega
      subst this
      obtain ⟨r, h1, h2⟩ := he s hI
      exact ⟨r, iter_stop h1, h2⟩
    | succ m ih =>
      intro i s hi hI k hk
      obtain ⟨k, rfl⟩ : ∃ j, k = j + 1 := ⟨k - 1, by omega⟩
      rcases h i s (by omega) hI with ⟨s', h1, h2⟩ | ⟨r, h1, h2⟩
      · obtain ⟨r, h3, h4⟩ := ih (i + 1) s' (by omega) h2 k (by omega)
        exact ⟨r, iter_next h1 h3, h4⟩
      · exact ⟨r, iter_stop h1, h2⟩
  exact fun {k} hk => this n 0 s0 (by omega) h0 k hk

theorem chk_pos' {c : Prop} [Decidable c] {α : Type} {x : Option α} (h : c) : chk c x = x := chk_pos h
theorem thru_inl {α β : Type} (a : α) (f : α → Option β) : thru (some (.inl a : α ⊕ β)) f = f a := rfl
theorem thru_inr {α β : Type} (b : β) (f : α → Option β) : thru (some (.inr b : α ⊕ β)) f = some b := rfl
theorem optC_none {α β : Type} (a : Option β) (b : α → Option β) : optC none a b = a := rfl
theorem optC_some {α β : Type} (x : α) (a : Option β) (b : α → Option β) : optC (some x) a b = b x := rfl
theorem wadd {i : Nat} (h : i < 9223372036854775807) : IntKind.i64.wrap ((i : Int) + 1) = ((i + 1 : Nat) : Int) := by rw [w64 (by omega) (by omega)]; omega
theorem at_nat {α : Type} {l : List α} {i : Nat} {y : α} (h : l[i]? = some y) : at_ l (i : Int) = some y := at_pos (by omega) (by rw [Int.toNat_natCast]; exact h)
theorem lt_of_get {α : Type} {l : List α} {i : Nat} {y : α} (h : l[i]? = some y) : i < l.length := (List.getElem?_eq_some_iff.1 h).1

section
variable {κ ν : Type} [DecidableEq κ]
theorem mget_cons (p : κ × ν) (l : List (κ × ν)) (k : κ) : mget (p :: l) k = if k = p.1 then some p.2 else mget l k := rfl
theorem mset_cons (p : κ × ν) (l : List (κ × ν)) (k : κ) (v : ν) : mset (p :: l) k v = if k = p.1 then (k, v) :: l else p :: mset l k v := rfl
theorem mget_mset (l : List (κ × ν)) (k k' : κ) (v : ν) : mget (mset l k v) k' = if k' = k then some v else mget l k' := by
  induction l with
  | nil => show mget [(k, v)] k' = _; rw [mget_cons]
  | cons p l ih =>
    rw [mset_cons]
    by_cases h : k = p.1
    · rw [if_pos h, mget_cons, mget_cons]
      by_cases h2 : k' = k
      · rw [if_pos h2, if_pos h2]
      · rw [if_neg h2, if_neg h2, if_neg (by rw [← h]; exact h2)]
    · rw [if_neg h, mget_cons, mget_cons, ih]
      by_cases h2 : k' = p.1
      · rw [if_pos h2, if_pos h2, if_neg (fun e => h (e.symm.trans h2))]
      · rw [if_neg h2, if_neg h2]
theorem mset_length_le (l : List (κ × ν)) (k : κ) (v : ν) : (mset l k v).length ≤ l.length + 1 := by
  induction l with
  | nil => simp [mset]
  | cons p l ih => unfold mset; split <;> simp; exact ih
theorem mhas_iff {l : List (κ × ν)} {k : κ} : mhas l k = true ↔ ∃ v, mget l k = some v := by unfold mhas; exact Option.isSome_iff_exists
theorem mgetD_some {l : List (κ × ν)} {k : κ} {v z : ν} (h : mget l k = some v) : mgetD l k z = v := by unfold mgetD; rw [h]; rfl
theorem mhas_false {l : List (κ × ν)} {k : κ} (h : mhas l k = false) : mget l k = none := by
  unfold mhas at h
  cases hg : mget l k with
  | none => rfl
  | some v => rw [hg] at h; cases h
end
theorem ofL_lit (s : ByteArray) : ofL s.data.toList = s := (ofL_surj s).symm
theorem size_ofL' (s : ByteArray) : s.data.toList.length = s.size := by rw [Array.length_toList]; rfl
theorem app_eq (a b : ByteArray) : a ++ b = ofL (a.data.toList ++ b.data.toList) := by
  conv => lhs; rw [ofL_surj a, ofL_surj b]
  rw [ofL_append]
theorem size_app (a b : ByteArray) : (a ++ b).size = a.size + b.size := by rw [app_eq, ofL_size, List.length_append, size_ofL', size_ofL']
/-- texts of one length, cut apart -/
theorem app_inj {a b c d : ByteArray} (h : a ++ b = c ++ d) (hl : a.size = c.size) : a = c ∧ b = d := by
  rw [app_eq, app_eq] at h
  have h := ofL_inj h
  have := List.append_inj h (by rw [size_ofL', size_ofL', hl])
  rw [ofL_surj a, ofL_surj b, ofL_surj c, ofL_surj d, this.1, this.2]
  exact ⟨rfl, rfl⟩
theorem seqB_false {a b : ByteArray} (h : seqB a b = false) : a ≠ b := fun e => by rw [seqB_iff.2 e] at h; cases h
end Go.Fw
