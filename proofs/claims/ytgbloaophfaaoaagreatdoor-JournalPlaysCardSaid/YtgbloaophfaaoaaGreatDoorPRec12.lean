/- What a journal finds behind a loss of power: what lasted, whole and in order, and perhaps some of what came behind. -/
import Derived.Test.YtgbloaophfaaoaaGreatDoorPScan12
namespace Go.Proofs.YtgbloaophfaaoaaGreatDoor
set_option linter.all false
open Go Go.RowKit Go.Fw
set_option maxRecDepth 100000
attribute [local irreducible] FUEL
/-! ### sectors of earlier starts -/
def bd (b : Nat) : Int := (b : Int) * 4294967296
/-- a sector as it was ahead of a start -/
structure OldS (b : Nat) (T : List UInt8) : Prop where
  len : T.length = 64
  z : ∀ i, i < 3 → T[i]? = some 0 ∧ T[56 + i]? = some 0
  hb : ∃ x, T[3]? = some x ∧ x.toNat < b
  tb : ∃ x, T[59]? = some x ∧ x.toNat < b
  st : ∀ p, (partV T p).2.2.2 < bd b
  lk : ∀ p, bd b ≤ p → partV T p = zP
theorem OldS.up {b : Nat} {T : List UInt8} (h : OldS b T) : OldS (b + 1) T where
  len := h.len
  z := h.z
  hb := by obtain ⟨x, h1, h2⟩ := h.hb; exact ⟨x, h1, by omega⟩
  tb := by obtain ⟨x, h1, h2⟩ := h.tb; exact ⟨x, h1, by omega⟩
  st p := by have := h.st p; unfold bd at *; omega
  lk p hp := h.lk p (by unfold bd at *; omega)
theorem part_not {T : List UInt8} (h : (readL T).2.2 ≠ 0) (p : Int) : partV T p = zP := by unfold partV; rw [if_pos h]
theorem noL_old : OldS 1 noL where
  len := rfl
  z i hi := by
    match i, hi with
    | 0, _ | 1, _ | 2, _ => exact ⟨rfl, rfl⟩
  hb := ⟨0, rfl, by decide⟩
  tb := ⟨0, rfl, by decide⟩
  st p := by rw [part_not (by rw [no_read]; decide)]; show (0 : Int) < _; unfold bd; omega
  lk p _ := part_not (by rw [no_read]; decide) p
theorem fix_boot {b : Nat} (hb : b < 256) {m : Int} (h0 : 0 ≤ m) (h1 : m < 4294967296) : (∀ i, i < 3 → (fixI 8 (bd b + m))[i]? = some 0) ∧ (fixI 8 (bd b + m))[3]? = some (UInt8.ofNat b) := by
  have hx : ∀ i, i < 8 → (fixI 8 (bd b + m))[i]? = some (hiB (bd b + m) i) := fun i hi => by
    rw [fix_hi, List.getElem?_map, List.getElem?_range hi]
    rfl
  have e0 : ∀ i, i < 3 → hiB (bd b + m) i = 0 := fun i hi => by
    unfold hiB bd
    match i, hi with
    | 0, _ =>
      have : ((b : Int) * 4294967296 + m) / ((2 ^ (56 - 8 * 0) : Nat) : Int) % 256 = 0 := by
        show ((b : Int) * 4294967296 + m) / 72057594037927936 % 256 = 0
        omega
      rw [this]; rfl
    | 1, _ =>
      have : ((b : Int) * 4294967296 + m) / ((2 ^ (56 - 8 * 1) : Nat) : Int) % 256 = 0 := by
        show ((b : Int) * 4294967296 + m) / 281474976710656 % 256 = 0
        omega
      rw [this]; rfl
    | 2, _ =>
      have : ((b : Int) * 4294967296 + m) / ((2 ^ (56 - 8 * 2) : Nat) : Int) % 256 = 0 := by
        show ((b : Int) * 4294967296 + m) / 1099511627776 % 256 = 0
        omega
      rw [this]; rfl
  refine ⟨fun i hi => by rw [hx i (by omega), e0 i hi], ?_⟩
  rw [hx 3 (by decide)]
  unfold hiB bd
  have : ((b : Int) * 4294967296 + m) / ((2 ^ (56 - 8 * 3) : Nat) : Int) % 256 = (b : Int) := by
    show ((b : Int) * 4294967296 + m) / 4294967296 % 256 = (b : Int)
    omega
  rw [this, Int.toNat_natCast]
theorem sec_get {a : Int} {s : List UInt8} (hs : s.length ≤ 47) {i : Nat} (hi : i < 8) : (secL a s)[i]? = (fixI 8 a)[i]? ∧ (secL a s)[56 + i]? = (fixI 8 a)[i]? := by
  have h1 := sec_head a s
  have h2 := sec_tail (a := a) hs
  constructor
  · rw [← h1, List.getElem?_take, if_pos hi]
  · rw [← h2, List.getElem?_drop]
theorem mix_get {n : Nat} {x y : List UInt8} (hx : x.length = 64) (hy : y.length = 64) (hn : n ≤ 64) (i : Nat) : (mixL n x y)[i]? = if i < n then x[i]? else y[i]? := by
  unfold mixL
  by_cases h : i < n
  · rw [if_pos h, List.getElem?_append_left (by rw [List.length_take]; omega), List.getElem?_take, if_pos h]
  · rw [if_neg h, List.getElem?_append_right (by rw [List.length_take]; omega), List.length_take, List.getElem?_drop]
    congr 1
    omega
/-- what comes of a torn writing over a sector of an earlier start -/
theorem mix_new {b : Nat} (hb : b < 256) {m : Int} (h0 : 0 ≤ m) (h1 : m < 4294967296) {s : List UInt8} (hs : s.length ≤ 47) {S : List UInt8} (hS : OldS b S) {n : Nat} (hn : n ≤ 64) :
    mixL n (secL (bd b + m) s) S = S ∨ mixL n (secL (bd b + m) s) S = secL (bd b + m) s ∨ (OldS (b + 1) (mixL n (secL (bd b + m) s) S) ∧ ∀ p, partV (mixL n (secL (bd b + m) s) S) p = zP) := by
  have hl := secL_len (a := bd b + m) hs
  obtain ⟨f1, f2⟩ := fix_boot hb h0 h1
  have hg := mix_get hl hS.len hn
  have hlen : (mixL n (secL (bd b + m) s) S).length = 64 := mix_len hl hS.len hn
  rcases Nat.lt_or_ge n 4 with h4 | h4
  · left
    apply List.ext_getElem?
    intro i
    rw [hg]
    by_cases hi : i < n
    · rw [if_pos hi, (sec_get hs (i := i) (by omega)).1, f1 i (by omega), (hS.z i (by omega)).1]
    · rw [if_neg hi]
  right
  have hub : (UInt8.ofNat b).toNat = b := by simp; omega
  have torn : (mixL n (secL (bd b + m) s) S).take 8 ≠ (mixL n (secL (bd b + m) s) S).drop 56 → OldS (b + 1) (mixL n (secL (bd b + m) s) S) ∧ ∀ p, partV (mixL n (secL (bd b + m) s) S) p = zP := by
    intro hne
    have hz : ∀ p, partV (mixL n (secL (bd b + m) s) S) p = zP := fun p => part_not (by rw [torn_read hne]; decide) p
    refine ⟨⟨hlen, fun i hi => ⟨?_, ?_⟩, ?_, ?_, fun p => ?_, fun p _ => hz p⟩, hz⟩
    · rw [hg, if_pos (by omega), (sec_get hs (i := i) (by omega)).1, f1 i hi]
    · rw [hg]
      split
      · rw [(sec_get hs (i := i) (by omega)).2, f1 i hi]
      · exact (hS.z i hi).2
    · exact ⟨UInt8.ofNat b, by rw [hg, if_pos (by omega), (sec_get hs (i := 3) (by decide)).1, f2], by omega⟩
    · by_cases h60 : 59 < n
      · exact ⟨UInt8.ofNat b, by rw [hg, if_pos h60, (sec_get hs (i := 3) (by decide)).2, f2], by omega⟩
      · obtain ⟨x, e1, e2⟩ := hS.tb
        exact ⟨x, by rw [hg, if_neg h60, e1], by omega⟩
    · rw [hz p]
      show (0 : Int) < _
      unfold bd
      omega
  by_cases h60 : 59 < n
  · by_cases he : (mixL n (secL (bd b + m) s) S).take 8 = (mixL n (secL (bd b + m) s) S).drop 56
    · left
      apply List.ext_getElem?
      intro i
      by_cases hi : i < n
      · rw [hg, if_pos hi]
      · rcases Nat.lt_or_ge i 64 with h64 | h64
        · obtain ⟨k, rfl⟩ : ∃ k, i = 56 + k := ⟨i - 56, by omega⟩
          have e1 : (mixL n (secL (bd b + m) s) S)[56 + k]? = (mixL n (secL (bd b + m) s) S)[k]? := by
            rw [← List.getElem?_drop, ← he, List.getElem?_take, if_pos (by omega)]
          rw [e1, hg, if_pos (by omega), (sec_get hs (i := k) (by omega)).1, (sec_get hs (i := k) (by omega)).2]
        · rw [List.getElem?_eq_none (by omega), List.getElem?_eq_none (by omega)]
    · exact .inr (torn he)
  · refine .inr (torn fun he => ?_)
    obtain ⟨x, e1, e2⟩ := hS.tb
    have e3 : (mixL n (secL (bd b + m) s) S)[56 + 3]? = (mixL n (secL (bd b + m) s) S)[3]? := by
      rw [← List.getElem?_drop, ← he, List.getElem?_take, if_pos (by decide)]
    rw [hg, hg, if_neg (by omega), if_pos (by omega), e1, (sec_get hs (i := 3) (by decide)).1, f2] at e3
    have := Option.some.inj e3
    rw [this, hub] at e2
    omega
/-! ### the sectors of records -/
def prec (s : List UInt8) : List (UInt8 × List UInt8) := (List.range (nd s.length)).map fun q => (knd q, prt s q)
def parts (rs : List (List UInt8)) : List (UInt8 × List UInt8) := rs.flatMap prec
def lk (A : Nat → Int) (k : Nat) : Int := if k = 0 then 7 else A (k - 1)
def cc (A : Nat → Int) (k : Nat) (x : UInt8 × List UInt8) : List UInt8 := secL (A k) (x.1 :: (fixI 8 (lk A k) ++ x.2))
/-- a sector holds its part of the records -/
def HasC (A : Nat → Int) (ps : List (UInt8 × List UInt8)) (k : Nat) (T : List UInt8) : Prop := ∃ x, ps[k]? = some x ∧ T = cc A k x
theorem prec_len (s : List UInt8) : (prec s).length = nd s.length := by unfold prec; rw [List.length_map, List.length_range]
theorem prec_get (s : List UInt8) {q : Nat} (h : q < nd s.length) : (prec s)[q]? = some (knd q, prt s q) := by
  unfold prec
  rw [List.getElem?_map, List.getElem?_range h]
  rfl
theorem part_mem {rs : List (List UInt8)} {k : Nat} {x : UInt8 × List UInt8} (h : (parts rs)[k]? = some x) : ∃ s ∈ rs, ∃ q, q < nd s.length ∧ x = (knd q, prt s q) := by
  have hm := List.mem_of_getElem? h
  obtain ⟨s, hs, hx⟩ := List.mem_flatMap.1 hm
  unfold prec at hx
  obtain ⟨q, hq, e⟩ := List.mem_map.1 hx
  exact ⟨s, hs, q, List.mem_range.1 hq, e.symm⟩
theorem body_len {s : List UInt8} {q : Nat} (l : Int) : (knd q :: (fixI 8 l ++ prt s q)).length ≤ 47 := by
  have := prt_len s q
  rw [List.length_cons, List.length_append, fixI_len]
  omega
theorem part_chain {a l : Int} {s : List UInt8} {q : Nat} (ha0 : 4294967296 ≤ a) (ha1 : a ≤ 9223372036854775807) (hl0 : 0 ≤ l) (hl1 : l ≤ 9223372036854775807) (hs : s.length ≤ 6000) (p : Int) :
    partV (secL a (knd q :: (fixI 8 l ++ prt s q))) p = if l = p then (if q = 0 then (1, (s.length : Int), s.take 36, a) else (2, 0, prt s q, a)) else zP := by
  have hrd := sec_read ha0 ha1 (body_len (s := s) (q := q) l)
  unfold partV
  rw [hrd]
  dsimp only
  have h9 : ¬ (knd q :: (fixI 8 l ++ prt s q)).length < 9 := by rw [List.length_cons, List.length_append, fixI_len]; omega
  have hn : ((knd q :: (fixI 8 l ++ prt s q)).take 9).drop 1 = fixI 8 l := by rw [List.take_succ_cons, List.drop_succ_cons, List.drop_zero, List.take_append_of_le_length (by rw [fixI_len]; decide), List.take_of_length_le (by rw [fixI_len]; decide)]
  have hd : (knd q :: (fixI 8 l ++ prt s q)).drop 9 = prt s q := by rw [List.drop_succ_cons, List.drop_append_of_le_length (by rw [fixI_len]; decide), List.drop_of_length_le (by rw [fixI_len]; decide), List.nil_append]
  have hk : kB (knd q :: (fixI 8 l ++ prt s q)) = ((knd q).toNat : Int) := rfl
  rw [if_neg (fun e => e rfl), if_neg h9, hn, num_of_fix hl0 hl1, hd, hk]
  by_cases hp : l = p
  rotate_left
  · rw [if_pos hp, if_neg hp]
  rw [if_neg (c := l ≠ p) (fun e => e hp), if_pos hp]
  cases q with
  | zero =>
    have hlen : ¬ (prt s 0).length < 2 := by show ¬ (lenL s ++ s.take 36).length < 2; rw [List.length_append]; show ¬ 2 + _ < 2; omega
    rw [if_pos (show ((knd 0).toNat : Int) = 1 by decide), if_neg hlen, if_pos rfl]
    have e1 : lB (prt s 0) = (s.length : Int) := by
      have : lB (prt s 0) = ((UInt8.ofNat (s.length / 256)).toNat : Int) * 256 + ((UInt8.ofNat s.length).toNat : Int) := rfl
      have c0 : (UInt8.ofNat (s.length / 256)).toNat = s.length / 256 := by simp; omega
      have c1 : (UInt8.ofNat s.length).toNat = s.length % 256 := by simp
      rw [this, c0, c1]
      omega
    rw [e1]
    rfl
  | succ q =>
    rw [if_neg (show ¬ ((knd (q + 1)).toNat : Int) = 1 by show ¬ ((2 : UInt8).toNat : Int) = 1; decide), if_neg (by omega)]
    rfl
/-! ### a record that is there, or not whole -/
theorem go_step {C : Nat → List UInt8} {A : Nat → Int} {s : List UInt8} {i q : Nat} (hs : s.length ≤ 6000) (hq0 : 1 ≤ q) (hq : q < nd s.length) (h60 : i + q < 60) (hC : C (i + q) = secL (A (i + q)) (knd q :: (fixI 8 (A (i + q - 1)) ++ prt s q))) (h1 : 4294967296 ≤ A (i + q)) (h2 : A (i + q) ≤ 9223372036854775807) (h3 : 0 ≤ A (i + q - 1)) (h4 : A (i + q - 1) ≤ 9223372036854775807) (f : Nat) :
    recGo C s.length i (f + 1) (s.take (36 + 38 * (q - 1))) (A (i + q - 1)) q = recGo C s.length i f (s.take (36 + 38 * q)) (A (i + q)) (q + 1) := by
  have hm : 36 + 38 * (q - 1) < s.length := nd_more.1 (by omega)
  have hp : partZ C (i + q) (A (i + q - 1)) = (2, 0, prt s q, A (i + q)) := by
    unfold partZ
    rw [if_pos h60, hC, part_chain h1 h2 h3 h4 hs, if_pos rfl, if_neg (by omega)]
  obtain ⟨r, rfl⟩ : ∃ r, q = r + 1 := ⟨q - 1, by omega⟩
  have hpl : (prt s (r + 1)).length = min (s.length - (36 + 38 * r)) 38 := by
    show ((s.drop (36 + 38 * r)).take 38).length = _
    rw [List.length_take, List.length_drop]
    omega
  have hjoin : s.take (36 + 38 * r) ++ prt s (r + 1) = s.take (36 + 38 * (r + 1)) := by
    show s.take (36 + 38 * r) ++ (s.drop (36 + 38 * r)).take 38 = _
    rw [← List.take_add]
    congr 1
  have hal : (s.take (36 + 38 * r)).length = 36 + 38 * r := by rw [List.length_take]; rw [Nat.add_sub_cancel] at hm; omega
  conv => lhs; unfold recGo
  rw [Nat.add_sub_cancel] at hm ⊢
  rw [hal, if_neg (by omega)]
  have e : A (i + (r + 1) - 1) = A (i + (r + 1) - 1) := rfl
  rw [hp]
  dsimp only
  rw [if_neg (by rw [hpl]; simp), hjoin]
theorem go_run {C : Nat → List UInt8} {A : Nat → Int} {s : List UInt8} {i m : Nat} (hs : s.length ≤ 6000) (hm : m ≤ nd s.length) (h60 : i + m ≤ 60) (hC : ∀ q, 1 ≤ q → q < m → C (i + q) = secL (A (i + q)) (knd q :: (fixI 8 (A (i + q - 1)) ++ prt s q))) (hA : ∀ q, q < m → 4294967296 ≤ A (i + q) ∧ A (i + q) ≤ 9223372036854775807) :
    ∀ (q f : Nat), 1 ≤ q → q ≤ m → recGo C s.length i (f + (q - 1)) (s.take 36) (A i) 1 = recGo C s.length i f (s.take (36 + 38 * (q - 1))) (A (i + q - 1)) q
  | 0, f, h, _ => absurd h (by decide)
  | 1, f, _, _ => rfl
  | q + 2, f, _, hq => by
    have ih := go_run hs hm h60 hC hA (q + 1) (f + 1) (by omega) (by omega)
    have h1 := hA (q + 1) (by omega)
    have h2 := hA q (by omega)
    have st := go_step (C := C) (A := A) (s := s) (i := i) (q := q + 1) hs (by omega) (by omega) (by omega) (hC (q + 1) (by omega) (by omega)) h1.1 h1.2 (by show 0 ≤ A (i + q); omega) (by show A (i + q) ≤ _; exact h2.2) f
    have e1 : f + (q + 2 - 1) = f + 1 + (q + 1 - 1) := by omega
    rw [e1, ih]
    exact st
theorem first_eq {C : Nat → List UInt8} {A : Nat → Int} {s : List UInt8} {i : Nat} (hs : s.length ≤ 6000) (h60 : i < 60) (hC : C i = secL (A i) (knd 0 :: (fixI 8 (lk A i) ++ prt s 0))) (h1 : 4294967296 ≤ A i) (h2 : A i ≤ 9223372036854775807) (h3 : 0 ≤ lk A i) (h4 : lk A i ≤ 9223372036854775807) : recV C i (lk A i) = recGo C s.length i 62 (s.take 36) (A i) 1 := by
  have hp : partZ C i (lk A i) = (1, (s.length : Int), s.take 36, A i) := by
    unfold partZ
    rw [if_pos h60, hC, part_chain h1 h2 h3 h4 hs, if_pos rfl, if_pos rfl]
  unfold recV
  rw [hp]
  dsimp only
  have hle : (s.take 36).length = min 36 s.length := List.length_take
  rw [if_neg (by
    rw [hle]
    rintro (e | e | e)
    · exact e rfl
    · omega
    · split at e <;> omega), Int.toNat_natCast]
theorem rec_whole {C : Nat → List UInt8} {A : Nat → Int} {s : List UInt8} {i : Nat} (hs : s.length ≤ 6000) (h60 : i + nd s.length ≤ 60) (hC : ∀ q, q < nd s.length → C (i + q) = secL (A (i + q)) (knd q :: (fixI 8 (lk A (i + q)) ++ prt s q))) (hA : ∀ q, q < nd s.length → 4294967296 ≤ A (i + q) ∧ A (i + q) ≤ 9223372036854775807) (h3 : 0 ≤ lk A i) (h4 : lk A i ≤ 9223372036854775807) :
    recV C i (lk A i) = some (s, nd s.length, A (i + nd s.length - 1)) := by
  have hn := nd_pos s.length
  have hC' : ∀ q, 1 ≤ q → q < nd s.length → C (i + q) = secL (A (i + q)) (knd q :: (fixI 8 (A (i + q - 1)) ++ prt s q)) := fun q h1 h2 => by
    rw [hC q h2]
    unfold lk
    rw [if_neg (by omega)]
  have h0 : 4294967296 ≤ A i ∧ A i ≤ 9223372036854775807 := hA 0 (by omega)
  rw [first_eq (i := i) hs (by omega) (hC 0 (by omega)) h0.1 h0.2 h3 h4]
  have hrun := go_run (C := C) (A := A) (s := s) (i := i) hs (Nat.le_refl _) h60 hC' hA (nd s.length) (62 - (nd s.length - 1)) hn (Nat.le_refl _)
  rw [show 62 - (nd s.length - 1) + (nd s.length - 1) = 62 by omega] at hrun
  rw [hrun]
  have hm : ¬ (36 + 38 * (nd s.length - 1) < s.length) := fun e => by have := nd_more.2 e; omega
  obtain ⟨f, hf⟩ : ∃ f, 62 - (nd s.length - 1) = f + 1 := ⟨61 - (nd s.length - 1), by omega⟩
  rw [hf, List.take_of_length_le (by omega)]
  unfold recGo
  rw [if_pos (Nat.le_refl _)]
theorem rec_broken {C : Nat → List UInt8} {A : Nat → Int} {s : List UInt8} {i q : Nat} (hs : s.length ≤ 6000) (hq0 : 1 ≤ q) (hq : q < nd s.length) (h60 : i + q ≤ 60) (hC : ∀ r, r < q → C (i + r) = secL (A (i + r)) (knd r :: (fixI 8 (lk A (i + r)) ++ prt s r))) (hA : ∀ r, r < q → 4294967296 ≤ A (i + r) ∧ A (i + r) ≤ 9223372036854775807) (h3 : 0 ≤ lk A i) (h4 : lk A i ≤ 9223372036854775807) (hz : partZ C (i + q) (A (i + q - 1)) = zP) : recV C i (lk A i) = none := by
  have hC' : ∀ r, 1 ≤ r → r < q → C (i + r) = secL (A (i + r)) (knd r :: (fixI 8 (A (i + r - 1)) ++ prt s r)) := fun r h1 h2 => by
    rw [hC r h2]
    unfold lk
    rw [if_neg (by omega)]
  have h0 : 4294967296 ≤ A i ∧ A i ≤ 9223372036854775807 := hA 0 (by omega)
  rw [first_eq (i := i) hs (by omega) (hC 0 (by omega)) h0.1 h0.2 h3 h4]
  have hrun := go_run (C := C) (A := A) (s := s) (i := i) hs (Nat.le_of_lt hq) h60 hC' hA q (62 - (q - 1)) hq0 (Nat.le_refl _)
  rw [show 62 - (q - 1) + (q - 1) = 62 by omega] at hrun
  rw [hrun]
  have hm : 36 + 38 * (q - 1) < s.length := nd_more.1 (by omega)
  obtain ⟨f, hf⟩ : ∃ f, 62 - (q - 1) = f + 1 := ⟨61 - (q - 1), by omega⟩
  rw [hf]
  unfold recGo
  rw [if_neg (by rw [List.length_take]; omega), hz, if_pos (.inl (by decide))]
/-- sectors that tell no more than others do find no more -/
theorem go_sim {C0 C1 : Nat → List UInt8} {B : Int} {sz i : Nat} (hB : 0 < B) (h : ∀ k, i < k → k < 60 → C1 k = C0 k ∨ ∀ p, p < B → partV (C1 k) p = zP) (hst : ∀ k, i < k → k < 60 → ∀ p, (partV (C0 k) p).2.2.2 < B) :
    ∀ (f : Nat) (acc : List UInt8) (a : Int) (n : Nat), 1 ≤ n → a < B → recGo C0 sz i f acc a n = none → recGo C1 sz i f acc a n = none
  | 0, _, _, _, _, _, _ => rfl
  | f + 1, acc, a, n, hn, ha, h0 => by
    unfold recGo at h0 ⊢
    by_cases h1 : sz ≤ acc.length
    · rw [if_pos h1] at h0; cases h0
    rw [if_neg h1] at h0 ⊢
    have hcase : partZ C1 (i + n) a = partZ C0 (i + n) a ∨ partZ C1 (i + n) a = zP := by
      unfold partZ
      by_cases hk : i + n < 60
      · rw [if_pos hk, if_pos hk]
        rcases h (i + n) (by omega) hk with e | e
        · rw [e]; exact .inl rfl
        · exact .inr (e a ha)
      · rw [if_neg hk, if_neg hk]; exact .inl rfl
    rcases hcase with e | e
    · rw [e]
      by_cases h2 : (partZ C0 (i + n) a).1 ≠ 2 ∨ (partZ C0 (i + n) a).2.2.1.length ≠ min (sz - acc.length) 38
      · rw [if_pos h2]
      · rw [if_neg h2] at h0 ⊢
        refine go_sim hB h hst f _ _ _ (by omega) ?_ h0
        unfold partZ
        by_cases hk : i + n < 60
        · rw [if_pos hk]; exact hst _ (by omega) hk a
        · rw [if_neg hk]; exact hB
    · rw [e, if_pos (.inl (by decide))]
theorem rec_sim {C0 C1 : Nat → List UInt8} {B : Int} {i : Nat} (hB : 0 < B) (h : ∀ k, i ≤ k → k < 60 → C1 k = C0 k ∨ ∀ p, p < B → partV (C1 k) p = zP) (hst : ∀ k, i ≤ k → k < 60 → ∀ p, (partV (C0 k) p).2.2.2 < B) {p : Int} (hp : p < B) (h0 : recV C0 i p = none) : recV C1 i p = none := by
  have hcase : partZ C1 i p = partZ C0 i p ∨ partZ C1 i p = zP := by
    unfold partZ
    by_cases hk : i < 60
    · rw [if_pos hk, if_pos hk]
      rcases h i (Nat.le_refl _) hk with e | e
      · rw [e]; exact .inl rfl
      · exact .inr (e p hp)
    · rw [if_neg hk, if_neg hk]; exact .inl rfl
  unfold recV at h0 ⊢
  rcases hcase with e | e
  · rw [e]
    by_cases hc : (partZ C0 i p).1 ≠ 1 ∨ 6000 < (partZ C0 i p).2.1 ∨ ((partZ C0 i p).2.2.1.length : Int) ≠ (if 36 < (partZ C0 i p).2.1 then 36 else (partZ C0 i p).2.1)
    · rw [if_pos hc]
    · rw [if_neg hc] at h0 ⊢
      refine go_sim hB (fun k h1 h2 => h k (by omega) h2) (fun k h1 h2 => hst k (by omega) h2) _ _ _ _ (Nat.le_refl _) ?_ h0
      unfold partZ
      by_cases hk : i < 60
      · rw [if_pos hk]; exact hst _ (Nat.le_refl _) hk p
      · rw [if_neg hk]; exact hB
  · rw [e, if_pos (.inl (by decide))]
/-! ### where the records are -/
theorem parts_take {rs : List (List UInt8)} {m : Nat} {s : List UInt8} (h : rs[m]? = some s) : parts (rs.take (m + 1)) = parts (rs.take m) ++ prec s := by
  rw [List.take_add_one, h, Option.toList_some]
  unfold parts
  rw [List.flatMap_append, List.flatMap_cons, List.flatMap_nil, List.append_nil]
theorem parts_pre (rs : List (List UInt8)) (m : Nat) : ∃ t, parts rs = parts (rs.take m) ++ t := ⟨parts (rs.drop m), by unfold parts; rw [← List.flatMap_append, List.take_append_drop]⟩
theorem used_le (rs : List (List UInt8)) (m : Nat) : (parts (rs.take m)).length ≤ (parts rs).length := by
  obtain ⟨t, e⟩ := parts_pre rs m
  rw [e, List.length_append]
  omega
theorem used_mono (rs : List (List UInt8)) {m n : Nat} (h : m ≤ n) : (parts (rs.take m)).length ≤ (parts (rs.take n)).length := by
  have := used_le (rs.take n) m
  rw [List.take_take, Nat.min_eq_left h] at this
  exact this
theorem parts_get {rs : List (List UInt8)} {m : Nat} {s : List UInt8} (h : rs[m]? = some s) {q : Nat} (hq : q < nd s.length) : (parts rs)[(parts (rs.take m)).length + q]? = some (knd q, prt s q) := by
  obtain ⟨t, e⟩ := parts_pre rs (m + 1)
  rw [e, parts_take h, List.append_assoc, List.getElem?_append_right (by omega), Nat.add_sub_cancel_left, List.getElem?_append_left (by rw [prec_len]; exact hq), prec_get s hq]
theorem parts_same (rs : List (List UInt8)) {m k : Nat} (h : k < (parts (rs.take m)).length) : (parts (rs.take m))[k]? = (parts rs)[k]? := by
  obtain ⟨t, e⟩ := parts_pre rs m
  rw [e, List.getElem?_append_left h]
/-- what is known of a journal whose disk lost its power -/
structure Fall (rs : List (List UInt8)) (sn : Nat) (A : Nat → Int) (b K0 W : Nat) (D0 D1 : Nat → List UInt8) : Prop where
  hr : ∀ s ∈ rs, s.length ≤ 6000
  hsn : sn ≤ rs.length
  b1 : 1 ≤ b
  b2 : b < 256
  k0 : K0 ≤ (parts (rs.take sn)).length
  sw : (parts (rs.take sn)).length ≤ W
  wp : W ≤ (parts rs).length
  p60 : (parts rs).length ≤ 60
  a1 : ∀ k, k < W → 4294967296 ≤ A k ∧ A k < bd (b + 1)
  a2 : ∀ k, K0 ≤ k → k < W → bd b ≤ A k
  a3 : ∀ k, k < K0 → A k < bd b
  cs : ∀ k, k < (parts (rs.take sn)).length → HasC A (parts rs) k (D1 k)
  cw : ∀ k, (parts (rs.take sn)).length ≤ k → k < W → D1 k = D0 k ∨ HasC A (parts rs) k (D1 k) ∨ ∀ p, partV (D1 k) p = zP
  ce : ∀ k, W ≤ k → k < 60 → D1 k = D0 k
  old : ∀ k, K0 ≤ k → k < 60 → OldS b (D0 k)
  no : recV D0 K0 (lk A K0) = none
theorem bd_lt {b : Nat} (h1 : 1 ≤ b) (h2 : b < 256) : 4294967296 ≤ bd b ∧ bd (b + 1) ≤ 1099511627776 := by unfold bd; omega
theorem Fall.lk_in {rs : List (List UInt8)} {sn : Nat} {A : Nat → Int} {b K0 W : Nat} {D0 D1 : Nat → List UInt8} (h : Fall rs sn A b K0 W D0 D1) {k : Nat} (hk : k ≤ W) : 0 ≤ lk A k ∧ lk A k ≤ 9223372036854775807 ∧ (k ≤ K0 → lk A k < bd b) ∧ (K0 < k → bd b ≤ lk A k) := by
  have hb := bd_lt h.b1 h.b2
  unfold lk
  by_cases h0 : k = 0
  · rw [if_pos h0]
    exact ⟨by decide, by decide, fun _ => by omega, fun _ => by omega⟩
  · rw [if_neg h0]
    have h1 := h.a1 (k - 1) (by omega)
    exact ⟨by omega, by omega, fun h2 => h.a3 (k - 1) (by omega), fun h2 => h.a2 (k - 1) (by omega) (by omega)⟩
theorem has_eq {rs : List (List UInt8)} {A : Nat → Int} {m : Nat} {s : List UInt8} (hm : rs[m]? = some s) {q : Nat} (hq : q < nd s.length) {T : List UInt8} (h : HasC A (parts rs) ((parts (rs.take m)).length + q) T) : T = secL (A ((parts (rs.take m)).length + q)) (knd q :: (fixI 8 (lk A ((parts (rs.take m)).length + q)) ++ prt s q)) := by
  obtain ⟨x, e1, e2⟩ := h
  rw [parts_get hm hq] at e1
  cases e1
  exact e2
/-- the sector hangs to no record that is there -/
theorem Fall.miss {rs : List (List UInt8)} {sn : Nat} {A : Nat → Int} {b K0 W : Nat} {D0 D1 : Nat → List UInt8} (h : Fall rs sn A b K0 W D0 D1) {k : Nat} (hk : (parts (rs.take sn)).length ≤ k) (hk2 : k ≤ W) (hK : K0 < k) (hn : ¬ (k < W ∧ HasC A (parts rs) k (D1 k))) : partZ D1 k (lk A k) = zP := by
  unfold partZ
  by_cases h60 : k < 60
  · rw [if_pos h60]
    have hl := (h.lk_in hk2).2.2.2 hK
    have ho := h.old k (by omega) h60
    by_cases hw : k < W
    · rcases h.cw k hk hw with e | e | e
      · rw [e]; exact ho.lk _ hl
      · exact absurd ⟨hw, e⟩ hn
      · exact e _
    · rw [h.ce k (by omega) h60]
      exact ho.lk _ hl
  · rw [if_neg h60]
theorem Fall.none_first {rs : List (List UInt8)} {sn : Nat} {A : Nat → Int} {b K0 W : Nat} {D0 D1 : Nat → List UInt8} (h : Fall rs sn A b K0 W D0 D1) (hK : K0 = (parts (rs.take sn)).length) (hn : ¬ (K0 < W ∧ HasC A (parts rs) K0 (D1 K0))) : recV D1 K0 (lk A K0) = none := by
  have hb := bd_lt h.b1 h.b2
  have hkw : K0 ≤ W := Nat.le_trans h.k0 h.sw
  refine rec_sim (B := bd b) (by omega) (fun k h1 h2 => ?_) (fun k h1 h2 p => (h.old k h1 h2).st p) ((h.lk_in hkw).2.2.1 (Nat.le_refl _)) h.no
  by_cases hw : k < W
  · rcases h.cw k (by omega) hw with e | e | e
    · exact .inl e
    · right
      intro p hp
      have hne : k ≠ K0 := fun e2 => hn (by subst e2; exact ⟨hw, e⟩)
      obtain ⟨x, e1, e2⟩ := e
      obtain ⟨s, hs, q, hq, rfl⟩ := part_mem e1
      have hl := h.lk_in (k := k) (by omega)
      have ha := h.a1 k hw
      rw [e2]
      unfold cc
      rw [part_chain ha.1 (by omega) hl.1 hl.2.1 (h.hr s hs), if_neg (by have := hl.2.2.2 (by omega); omega)]
    · exact .inr fun p _ => e p
  · exact .inl (h.ce k (by omega) h2)
theorem recover {rs : List (List UInt8)} {sn : Nat} {A : Nat → Int} {b K0 W : Nat} {D0 D1 : Nat → List UInt8} (h : Fall rs sn A b K0 W D0 D1) :
    ∃ m, sn ≤ m ∧ m ≤ rs.length ∧ (parts (rs.take m)).length ≤ W ∧ scanV D1 61 0 7 [] = ((parts (rs.take m)).length, lk A (parts (rs.take m)).length, rs.take m) ∧ recV D1 (parts (rs.take m)).length (lk A (parts (rs.take m)).length) = none ∧ ∀ k, k < (parts (rs.take m)).length → HasC A (parts rs) k (D1 k) := by
  have hb := bd_lt h.b1 h.b2
  -- from behind so many records on
  have key : ∀ (t m f : Nat), t + m = rs.length → (parts (rs.take m)).length ≤ W → 60 < f + (parts (rs.take m)).length → (∀ k, k < (parts (rs.take m)).length → HasC A (parts rs) k (D1 k)) →
      ∃ m', sn ≤ m' ∧ m' ≤ rs.length ∧ (parts (rs.take m')).length ≤ W ∧ scanV D1 f (parts (rs.take m)).length (lk A (parts (rs.take m)).length) (rs.take m) = ((parts (rs.take m')).length, lk A (parts (rs.take m')).length, rs.take m') ∧ recV D1 (parts (rs.take m')).length (lk A (parts (rs.take m')).length) = none ∧ ∀ k, k < (parts (rs.take m')).length → HasC A (parts rs) k (D1 k) := by
    intro t
    induction t with
    | zero =>
      intro m f hm hW hf hH
      have hmr : m = rs.length := by omega
      have hP : (parts (rs.take m)).length = W := by
        have := h.wp
        rw [hmr, List.take_length] at hW ⊢
        omega
      have hno : recV D1 (parts (rs.take m)).length (lk A (parts (rs.take m)).length) = none := by
        rw [hP]
        rcases Nat.lt_or_ge K0 W with hlt | hge
        · have hz := h.miss (k := W) h.sw (Nat.le_refl _) hlt (fun e => absurd e.1 (by omega))
          unfold recV
          rw [hz, if_pos (.inl (by decide))]
        · have h1 := h.k0
          have h2 := h.sw
          have : W = K0 := by omega
          rw [this]
          exact h.none_first (by omega) (fun e => absurd e.1 (by omega))
      obtain ⟨f', rfl⟩ : ∃ f', f = f' + 1 := ⟨f - 1, by have := h.wp; have := h.p60; omega⟩
      refine ⟨m, by rw [hmr]; exact h.hsn, by omega, hW, ?_, hno, hH⟩
      unfold scanV
      rw [hno]
    | succ t ih =>
      intro m f hm hW hf hH
      obtain ⟨s, hs⟩ := getq (l := rs) (i := m) (by omega)
      have hs6 := h.hr s (List.mem_of_getElem? hs)
      have hU : (parts (rs.take (m + 1))).length = (parts (rs.take m)).length + nd s.length := by rw [parts_take hs, List.length_append, prec_len]
      have hU60 : (parts (rs.take (m + 1))).length ≤ 60 := by have := used_le rs (m + 1); have := h.p60; omega
      have hnp := nd_pos s.length
      have hlk := h.lk_in hW
      obtain ⟨f', rfl⟩ : ∃ f', f = f' + 1 := ⟨f - 1, by omega⟩
      by_cases hall : ∀ q, q < nd s.length → (parts (rs.take m)).length + q < W ∧ HasC A (parts rs) ((parts (rs.take m)).length + q) (D1 ((parts (rs.take m)).length + q))
      · have hW2 : (parts (rs.take (m + 1))).length ≤ W := by
          have := (hall (nd s.length - 1) (by omega)).1
          omega
        have hrec := rec_whole (C := D1) (A := A) (s := s) (i := (parts (rs.take m)).length) hs6 (by omega) (fun q hq => has_eq hs hq (hall q hq).2) (fun q hq => by have := h.a1 _ (hall q hq).1; omega) hlk.1 hlk.2.1
        obtain ⟨m', g1, g2, g3, g4, g5, g6⟩ := ih (m + 1) f' (by omega) hW2 (by omega) (fun k hk => by
          by_cases hk2 : k < (parts (rs.take m)).length
          · exact hH k hk2
          · have e : k = (parts (rs.take m)).length + (k - (parts (rs.take m)).length) := by omega
            rw [e]
            exact (hall (k - (parts (rs.take m)).length) (by omega)).2)
        refine ⟨m', g1, g2, g3, ?_, g5, g6⟩
        unfold scanV
        rw [hrec]
        dsimp only
        have e1 : lk A (parts (rs.take (m + 1))).length = A ((parts (rs.take m)).length + nd s.length - 1) := by
          rw [hU]
          unfold lk
          rw [if_neg (by omega)]
        have e2 : rs.take (m + 1) = rs.take m ++ [s] := by rw [List.take_add_one, hs, Option.toList_some]
        rw [← e1, ← e2, ← hU]
        exact g4
      · -- the first of its sectors that is not there
        have hmsn : sn ≤ m := by
          rcases Nat.lt_or_ge m sn with hlt | hge
          · exfalso
            apply hall
            intro q hq
            have := used_mono rs (m := m + 1) (n := sn) (by omega)
            have := h.sw
            exact ⟨by omega, h.cs _ (by omega)⟩
          · exact hge
        have hmin : ∃ q, q < nd s.length ∧ (¬ ((parts (rs.take m)).length + q < W ∧ HasC A (parts rs) ((parts (rs.take m)).length + q) (D1 ((parts (rs.take m)).length + q)))) ∧ ∀ r, r < q → (parts (rs.take m)).length + r < W ∧ HasC A (parts rs) ((parts (rs.take m)).length + r) (D1 ((parts (rs.take m)).length + r)) := by
          have : ∀ n, n ≤ nd s.length → (∀ r, r < n → (parts (rs.take m)).length + r < W ∧ HasC A (parts rs) ((parts (rs.take m)).length + r) (D1 ((parts (rs.take m)).length + r))) ∨ ∃ q, q < nd s.length ∧ (¬ ((parts (rs.take m)).length + q < W ∧ HasC A (parts rs) ((parts (rs.take m)).length + q) (D1 ((parts (rs.take m)).length + q)))) ∧ ∀ r, r < q → (parts (rs.take m)).length + r < W ∧ HasC A (parts rs) ((parts (rs.take m)).length + r) (D1 ((parts (rs.take m)).length + r)) := by
            intro n
            induction n with
            | zero => exact fun _ => .inl fun r hr => absurd hr (by omega)
            | succ n ihn =>
              intro hn
              rcases ihn (by omega) with e | e
              · by_cases hc : (parts (rs.take m)).length + n < W ∧ HasC A (parts rs) ((parts (rs.take m)).length + n) (D1 ((parts (rs.take m)).length + n))
                · exact .inl fun r hr => by
                    by_cases hrn : r = n
                    · subst hrn; exact hc
                    · exact e r (by omega)
                · exact .inr ⟨n, by omega, hc, e⟩
              · exact .inr e
          rcases this (nd s.length) (Nat.le_refl _) with e | e
          · exact absurd e hall
          · exact e
        obtain ⟨q, hq, hnq, hbef⟩ := hmin
        have hSU := used_mono rs hmsn
        have hkW : (parts (rs.take m)).length + q ≤ W := by
          by_cases h0 : q = 0
          · omega
          · have := (hbef (q - 1) (by omega)).1
            omega
        have hno : recV D1 (parts (rs.take m)).length (lk A (parts (rs.take m)).length) = none := by
          rcases Nat.lt_or_ge K0 ((parts (rs.take m)).length + q) with hlt | hge
          · have hz := h.miss (k := (parts (rs.take m)).length + q) (by omega) hkW hlt hnq
            by_cases h0 : q = 0
            · subst h0
              rw [Nat.add_zero] at hz
              unfold recV
              rw [hz, if_pos (.inl (by decide))]
            · have e : lk A ((parts (rs.take m)).length + q) = A ((parts (rs.take m)).length + q - 1) := by unfold lk; rw [if_neg (by omega)]
              rw [e] at hz
              exact rec_broken hs6 (by omega) hq (by omega) (fun r hr => has_eq hs (by omega) (hbef r hr).2) (fun r hr => by have := h.a1 _ (hbef r hr).1; omega) hlk.1 hlk.2.1 hz
          · have h1 := h.k0
            have h0 : q = 0 := by omega
            subst h0
            rw [Nat.add_zero] at hnq hge
            have hK : K0 = (parts (rs.take m)).length := by omega
            rw [← hK] at hnq ⊢
            exact h.none_first (by omega) hnq
        refine ⟨m, hmsn, by omega, hW, ?_, hno, hH⟩
        unfold scanV
        rw [hno]
  have := key rs.length 0 61 (by omega) (by show 0 ≤ W; omega) (by show 60 < 61 + 0; omega) (fun k hk => absurd hk (by show ¬ k < 0; omega))
  exact this
end Go.Proofs.YtgbloaophfaaoaaGreatDoor
