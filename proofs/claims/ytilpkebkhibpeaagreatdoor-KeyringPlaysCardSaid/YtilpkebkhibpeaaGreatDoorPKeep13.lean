/- A ring that is put into, shredded, and kept from: each call beside the plain one. -/
import Derived.Test.YtilpkebkhibpeaaGreatDoorPPlay13
import Derived.Test.YtilpkebkhibpeaaGreatDoorGPlays
namespace Go.Proofs.YtilpkebkhibpeaaGreatDoor
set_option linter.all false
open Go Go.RowKit Go.Fw
set_option maxRecDepth 100000
attribute [local irreducible] FUEL
/-- all stands as it should -/
structure KI (k : Nat) (d : disk_Disk) (g : guard_Guard) (r : keyring_Ring) (p : law13_plain) : Prop where
  kd : Kd (kl p) d
  base : r.base_ = 5
  slots : r.slots_ = 8
  sh : r.shred_ = p.shred_
  s0 : 0 ≤ p.shred_
  s1 : p.shred_ ≤ 9 * (k : Int)
  b1 : 1 ≤ p.boot_
  b2 : p.boot_ ≤ (k : Int) + 1
  g1 : 1 ≤ g.boot_
  g2 : g.boot_ ≤ (k : Int) + 1
  n0 : 0 ≤ g.n_
  n1 : g.n_ ≤ (k : Int)
theorem KI.gok {k : Nat} {d : disk_Disk} {g : guard_Guard} {r : keyring_Ring} {p : law13_plain} (h : KI k d g r p) (hk : k ≤ 100) : GOk g := by
  have h1 := h.g1; have h2 := h.g2; have h3 := h.n0; have h4 := h.n1
  exact ⟨by omega, by omega, by omega, by omega⟩
theorem KI.up {k : Nat} {d : disk_Disk} {g : guard_Guard} {r : keyring_Ring} {p : law13_plain} (h : KI k d g r p) : KI (k + 1) d g r p := by
  have h1 := h.g2; have h2 := h.b2; have h3 := h.n1; have h4 := h.s1
  exact ⟨h.kd, h.base, h.slots, h.sh, h.s0, by omega, h.b1, by omega, h.g1, by omega, h.n0, by omega⟩
theorem nd_calm {E : disk_Disk} (hE : E.armed_ = false) : ¬ due E := by unfold due; rw [hE]; intro e; cases e.1
/-- what comes of a step: it is done, or the power went -/
def Out (k : Nat) (x c f w : Int) (g : guard_Guard) (r : keyring_Ring) (d : disk_Disk) (p : law13_plain) : Prop :=
  (f = w ∧ KI (k + 1) d g r p) ∨ (f = 8 ∧ w = 0 ∧ (∃ i : Nat, x = (i : Int) ∧ i < 8 ∧ Dn (kl p) i c d) ∧ 1 ≤ p.boot_ ∧ p.boot_ ≤ (k : Int) + 1)
theorem put_out {i : Int} {s : ByteArray} {r : keyring_Ring} {g : guard_Guard} {d : disk_Disk} (h : i < 0 ∨ r.slots_ ≤ i) : F.keyring_Ring_Put i s r g d = some (5, g, d) := by
  unfold F.keyring_Ring_Put
  rw [rwhy_eq, if_pos h, Option.bind_some, if_pos (by decide)]
theorem put_not {i : Int} {s : ByteArray} {r : keyring_Ring} {g : guard_Guard} {d : disk_Disk} (h : ¬ (i < 0 ∨ r.slots_ ≤ i)) (hs : s.size ≠ 32) : F.keyring_Ring_Put i s r g d = some (1, g, d) := by
  unfold F.keyring_Ring_Put
  rw [rwhy_eq, if_neg h, Option.bind_some, if_neg (by decide), if_pos (by simp; omega)]
theorem shred_out {i : Int} {r : keyring_Ring} {g : guard_Guard} {d : disk_Disk} (h : i < 0 ∨ r.slots_ ≤ i) : F.keyring_Ring_Shred i r g d = some (5, r, d) := by
  unfold F.keyring_Ring_Shred
  rw [rwhy_eq, if_pos h, Option.bind_some, if_pos (by decide)]
theorem put_law {k : Nat} (hk : k < 40) {d : disk_Disk} {g : guard_Guard} {r : keyring_Ring} {p : law13_plain} (h : KI k d g r p) (x : Int) {s : List UInt8} {c : Int} (hs : s = keyL c ∧ 0 < c ∧ c ≤ 200 ∨ s.length ≠ 32) :
    ∃ f w g' d' p', F.law13_put x (ofL s) c r g d p = some (f, w, g', d', p') ∧ Out k x c f w g' r d' p' := by
  unfold F.law13_put
  by_cases hx : 0 ≤ x ∧ x < 8
  rotate_left
  · rw [put_out (by rw [h.slots]; omega), Option.bind_some, in_eq, Option.bind_some, decide_eq_false hx, if_pos (by decide)]
    exact ⟨_, _, _, _, _, rfl, .inl ⟨rfl, h.up⟩⟩
  rcases hs with ⟨rfl, hc0, hc1⟩ | hs
  rotate_left
  · rw [put_not (by rw [h.slots]; omega) (by rw [ofL_size]; exact hs), Option.bind_some, in_eq, Option.bind_some, decide_eq_true hx, if_neg (by decide), if_pos (by rw [ofL_size]; simp; omega)]
    exact ⟨_, _, _, _, _, rfl, .inl ⟨rfl, h.up⟩⟩
  obtain ⟨i, rfl⟩ : ∃ i : Nat, x = (i : Int) := ⟨x.toNat, by omega⟩
  have hi : i < 8 := by omega
  obtain ⟨y, b, e1, e2, e3⟩ := h.kd.ks i hi
  have hat : at_ ([p.keys_.e0, p.keys_.e1, p.keys_.e2, p.keys_.e3, p.keys_.e4, p.keys_.e5, p.keys_.e6, p.keys_.e7] : List Int) (i : Int) = some y := at_nat e1
  have hg := h.gok (by omega)
  have hA := at_of h.kd.b h.base h.slots hi e3 e2.len
  rw [rput_eq hg h.kd.b.fall h.kd.b.ok hA (keyL_len c)]
  have hb := h.b1
  have hb2 := h.b2
  rcases e2.rd with ⟨h0, hr⟩ | ⟨h0, a, hr⟩
  · subst h0
    have hst := stamp_eq hg
    have hS : Slot c (secL (stampG g) (keyL c)) := .inr ⟨hc0, hc1, stampG g, by have := hg.b1; have := hg.n0; omega, by have := hg.b2; have := hg.n1; omega, rfl⟩
    rw [if_neg (by rw [hr]; simp)]
    by_cases hd1 : due d
    · rw [if_pos hd1, Option.bind_some, in_eq, Option.bind_some, decide_eq_true hx, if_neg (by decide), if_neg (by rw [ofL_size, keyL_len]; decide), hat, Option.bind_some]
      exact ⟨_, _, _, _, _, rfl, .inr ⟨rfl, rfl, ⟨i, rfl, hi, dn_idle h.kd _ _ _⟩, hb, hb2⟩⟩
    rw [if_neg hd1]
    by_cases hd2 : due (writeD d ((5 + i : Nat) : Int) (ofL (secL (stampG g) (keyL c))))
    · rw [if_pos hd2, Option.bind_some, in_eq, Option.bind_some, decide_eq_true hx, if_neg (by decide), if_neg (by rw [ofL_size, keyL_len]; decide), hat, Option.bind_some]
      exact ⟨_, _, _, _, _, rfl, .inr ⟨rfl, rfl, ⟨i, rfl, hi, dn_write h.kd _ hi hS e1 (.inr ⟨hc0, rfl⟩)⟩, hb, hb2⟩⟩
    rw [if_neg hd2, Option.bind_some, in_eq, Option.bind_some, decide_eq_true hx, if_neg (by decide), if_neg (by rw [ofL_size, keyL_len]; decide), hat, Option.bind_some, if_neg (by decide), if_pos (by simp), Option.bind_some, Int.toNat_natCast]
    refine ⟨_, _, _, _, _, rfl, .inl ⟨rfl, ?_⟩⟩
    have hg2 := h.g2
    have hn0 := h.n0
    have hn1 := h.n1
    have hs1 := h.s1
    exact {
      kd := by rw [kl_set]; exact put_b h.kd.b h.kd.kn hi (fun j hj _ => h.kd.ks j hj) hS
      base := h.base
      slots := h.slots
      sh := h.sh
      s0 := h.s0
      s1 := by show p.shred_ ≤ _; omega
      b1 := hb
      b2 := by show p.boot_ ≤ _; omega
      g1 := h.g1
      g2 := by show g.boot_ ≤ _; omega
      n0 := by show 0 ≤ g.n_ + 1; omega
      n1 := by show g.n_ + 1 ≤ _; omega }
  · rw [if_pos (by rw [hr]; simp), Option.bind_some, in_eq, Option.bind_some, decide_eq_true hx, if_neg (by decide), if_neg (by rw [ofL_size, keyL_len]; decide), hat, Option.bind_some, if_pos (by simp; omega)]
    exact ⟨_, _, _, _, _, rfl, .inl ⟨rfl, h.up⟩⟩
theorem shred_law {k : Nat} (hk : k < 40) {d : disk_Disk} {g : guard_Guard} {r : keyring_Ring} {p : law13_plain} (h : KI k d g r p) (x : Int) :
    ∃ f w r' d' p', F.law13_shred x r g d p = some (f, w, r', d', p') ∧ Out k x 0 f w g r' d' p' := by
  unfold F.law13_shred
  by_cases hx : 0 ≤ x ∧ x < 8
  rotate_left
  · rw [shred_out (by rw [h.slots]; omega), Option.bind_some, in_eq, Option.bind_some, decide_eq_false hx, if_pos (by decide)]
    exact ⟨_, _, _, _, _, rfl, .inl ⟨rfl, h.up⟩⟩
  obtain ⟨i, rfl⟩ : ∃ i : Nat, x = (i : Int) := ⟨x.toNat, by omega⟩
  have hi : i < 8 := by omega
  obtain ⟨y, b, e1, e2, e3⟩ := h.kd.ks i hi
  have hat : at_ ([p.keys_.e0, p.keys_.e1, p.keys_.e2, p.keys_.e3, p.keys_.e4, p.keys_.e5, p.keys_.e6, p.keys_.e7] : List Int) (i : Int) = some y := at_nat e1
  have hA := at_of h.kd.b h.base h.slots hi e3 e2.len
  rw [rshred_eq h.kd.b.fall h.kd.b.ok hA]
  have hb := h.b1
  have hb2 := h.b2
  rcases e2.rd with ⟨h0, hr⟩ | ⟨h0, a, hr⟩
  · subst h0
    rw [if_pos (by rw [hr]), Option.bind_some, in_eq, Option.bind_some, decide_eq_true hx, if_neg (by decide), if_pos (by simp), hat, Option.bind_some, Option.bind_some]
    unfold F.law13_shred.r1
    rw [if_neg (by decide)]
    exact ⟨_, _, _, _, _, rfl, .inl ⟨rfl, h.up⟩⟩
  · have hS : Slot 0 noL := .inl ⟨rfl, rfl⟩
    rw [if_neg (by rw [hr]; simp)]
    by_cases hd1 : due d
    · rw [if_pos hd1, Option.bind_some, in_eq, Option.bind_some, decide_eq_true hx, if_neg (by decide), if_neg (by simp), Option.bind_some]
      unfold F.law13_shred.r1
      rw [if_neg (by decide)]
      exact ⟨_, _, _, _, _, rfl, .inr ⟨rfl, rfl, ⟨i, rfl, hi, dn_idle h.kd _ _ _⟩, hb, hb2⟩⟩
    rw [if_neg hd1]
    by_cases hd2 : due (writeD d ((5 + i : Nat) : Int) (ofL noL))
    · rw [if_pos hd2, Option.bind_some, in_eq, Option.bind_some, decide_eq_true hx, if_neg (by decide), if_neg (by simp), Option.bind_some]
      unfold F.law13_shred.r1
      rw [if_neg (by decide)]
      exact ⟨_, _, _, _, _, rfl, .inr ⟨rfl, rfl, ⟨i, rfl, hi, dn_write h.kd _ hi hS e1 (.inl ⟨rfl, h0⟩)⟩, hb, hb2⟩⟩
    have hy : (y != 0) = true := by simp; omega
    rw [if_neg hd2, Option.bind_some, in_eq, Option.bind_some, decide_eq_true hx, if_neg (by decide), if_pos (by simp), hat, Option.bind_some, Option.bind_some, hy]
    unfold F.law13_shred.r1
    rw [if_pos rfl, hat, Option.bind_some, Int.toNat_natCast]
    refine ⟨_, _, _, _, _, rfl, .inl ⟨rfl, ?_⟩⟩
    have hg2 := h.g2
    have hn1 := h.n1
    have hs0 := h.s0
    have hs1 := h.s1
    have hw : IntKind.i64.wrap (p.shred_ + 1) = p.shred_ + 1 := w64 (by omega) (by omega)
    exact {
      kd := by rw [kl_set]; exact put_b h.kd.b h.kd.kn hi (fun j hj _ => h.kd.ks j hj) hS
      base := h.base
      slots := h.slots
      sh := by show IntKind.i64.wrap (r.shred_ + 1) = IntKind.i64.wrap (p.shred_ + 1); rw [h.sh]
      s0 := by show 0 ≤ IntKind.i64.wrap (p.shred_ + 1); rw [hw]; omega
      s1 := by show IntKind.i64.wrap (p.shred_ + 1) ≤ _; rw [hw]; omega
      b1 := hb
      b2 := by show p.boot_ ≤ _; omega
      g1 := h.g1
      g2 := by omega
      n0 := h.n0
      n1 := by omega }
/-! ### all but some are shredded -/
/-- is a slot to go -/
def goes (l : List Int) (i : Nat) : Bool := !decide ((i : Int) ∈ l)
/-- the keys behind so many slots -/
def keysM (l ks : List Int) : Nat → List Int
  | 0 => ks
  | m + 1 => if goes l m && ((ks[m]?).getD 0 != 0) then (keysM l ks m).set m 0 else keysM l ks m
def cntM (l ks : List Int) : Nat → Nat
  | 0 => 0
  | m + 1 => if goes l m && ((ks[m]?).getD 0 != 0) then cntM l ks m + 1 else cntM l ks m
theorem cntM_le (l ks : List Int) : ∀ m, cntM l ks m ≤ m
  | 0 => Nat.le_refl _
  | m + 1 => by
    have ih := cntM_le l ks m
    unfold cntM
    split <;> omega
theorem keysM_len (l ks : List Int) : ∀ m, (keysM l ks m).length = ks.length
  | 0 => rfl
  | m + 1 => by
    have ih := keysM_len l ks m
    unfold keysM
    split
    · rw [List.length_set, ih]
    · exact ih
theorem keysM_get (l ks : List Int) : ∀ (m j : Nat), m ≤ j → (keysM l ks m)[j]? = ks[j]?
  | 0, _, _ => rfl
  | m + 1, j, h => by
    have ih := keysM_get l ks m j (by omega)
    unfold keysM
    split
    · rw [List.getElem?_set_ne (by omega), ih]
    · exact ih
theorem mem_take_succ {l : List Int} {k : Nat} {y i : Int} (h : l[k]? = some y) : decide (i ∈ l.take (k + 1)) = (decide (i ∈ l.take k) || (y == i)) := by
  rw [List.take_add_one, h, Option.toList_some]
  by_cases h1 : i ∈ l.take k
  · simp [h1]
  · by_cases h2 : y = i
    · simp [h1, h2]
    · have : ¬ (i = y) := fun e => h2 e.symm
      simp [h1, h2, this]
/-- is a slot among those that are kept: the law's look -/
theorem kin_eq {l : List Int} (hl : l.length ≤ 1000000000000000000) (i : Int) : iter (fun x => F.law13_keep.l1 l i x.1 x.2) FUEL (false, 0) = some (decide (i ∈ l)) := by
  obtain ⟨r, e, hr⟩ := iter_up (f := fun x => F.law13_keep.l1 l i x.1 x.2) l.length
    (fun k s => s = (decide (i ∈ l.take k), (k : Int)))
    (fun r => r = decide (i ∈ l))
    (fun k s hk hs => by
      subst hs
      obtain ⟨y, hy⟩ := getq (l := l) (i := k) hk
      refine .inl ⟨(decide (i ∈ l.take (k + 1)), ((k + 1 : Nat) : Int)), ?_, rfl⟩
      dsimp only
      unfold F.law13_keep.l1
      rw [if_pos (by simp; omega), mem_take_succ hy, wadd (by omega)]
      cases hu : decide (i ∈ l.take k) with
      | true => rw [if_pos rfl]; rfl
      | false => rw [if_neg (by decide), at_nat hy, Option.bind_some]; rfl)
    (fun s hs => by
      subst hs
      refine ⟨_, ?_, rfl⟩
      dsimp only
      unfold F.law13_keep.l1
      rw [if_neg (by simp), List.take_length])
    (s0 := (false, 0)) (by simp) (k := FUEL) (by rw [FUEL_eq]; omega)
  rw [e, hr]
abbrev KT := Int × Int × Int × Int × Int × Int × Int × Int × Int
def kt (n : Int) (ks : List Int) : KT := (n, (ks[0]?).getD 0, (ks[1]?).getD 0, (ks[2]?).getD 0, (ks[3]?).getD 0, (ks[4]?).getD 0, (ks[5]?).getD 0, (ks[6]?).getD 0, (ks[7]?).getD 0)
theorem eight {ks : List Int} (h : ks.length = 8) : ([(ks[0]?).getD 0, (ks[1]?).getD 0, (ks[2]?).getD 0, (ks[3]?).getD 0, (ks[4]?).getD 0, (ks[5]?).getD 0, (ks[6]?).getD 0, (ks[7]?).getD 0] : List Int) = ks := by
  match ks, h with
  | [a, b, c, d, e, f, g, i], _ => rfl
theorem kt_set (n : Int) {ks : List Int} (h : ks.length = 8) (m : Nat) : ((n, if m = 0 then 0 else (ks[0]?).getD 0, if m = 1 then 0 else (ks[1]?).getD 0, if m = 2 then 0 else (ks[2]?).getD 0, if m = 3 then 0 else (ks[3]?).getD 0, if m = 4 then 0 else (ks[4]?).getD 0, if m = 5 then 0 else (ks[5]?).getD 0, if m = 6 then 0 else (ks[6]?).getD 0, if m = 7 then 0 else (ks[7]?).getD 0) : KT) = kt n (ks.set m 0) := by
  have e : ∀ r, r < 8 → ((ks.set m 0)[r]?).getD 0 = if m = r then 0 else (ks[r]?).getD 0 := fun r hr => by
    rw [List.getElem?_set]
    by_cases hm : m = r
    · rw [if_pos hm, if_pos hm, if_pos (by omega)]; rfl
    · rw [if_neg hm, if_neg hm]
  unfold kt
  rw [e 0 (by decide), e 1 (by decide), e 2 (by decide), e 3 (by decide), e 4 (by decide), e 5 (by decide), e 6 (by decide), e 7 (by decide)]
theorem keep_count {l : List Int} (hl : l.length ≤ 1000000000000000000) {ks : List Int} (h8 : ks.length = 8) :
    iter (fun x => F.law13_keep.l5 l x.1 x.2.1 x.2.2.1 x.2.2.2.1 x.2.2.2.2.1 x.2.2.2.2.2.1 x.2.2.2.2.2.2.1 x.2.2.2.2.2.2.2.1 x.2.2.2.2.2.2.2.2.1 x.2.2.2.2.2.2.2.2.2) FUEL (0, 0, (kt 0 ks).2) = some (kt (cntM l ks 8 : Int) (keysM l ks 8)) := by
  have e := iter_count (f := fun (x : Int × Int × Int × Int × Int × Int × Int × Int × Int × Int) => F.law13_keep.l5 l x.1 x.2.1 x.2.2.1 x.2.2.2.1 x.2.2.2.2.1 x.2.2.2.2.2.1 x.2.2.2.2.2.2.1 x.2.2.2.2.2.2.2.1 x.2.2.2.2.2.2.2.2.1 x.2.2.2.2.2.2.2.2.2) (fun m => ((cntM l ks m : Int), (m : Int), (kt (cntM l ks m : Int) (keysM l ks m)).2)) (n := 8) (r := kt (cntM l ks 8 : Int) (keysM l ks 8)) (fun m hm => by
      have hK := keysM_len l ks m
      have hkg := keysM_get l ks m m (Nat.le_refl _)
      obtain ⟨y, hy⟩ := getq (l := ks) (i := m) (by omega)
      have hcl := cntM_le l ks m
      dsimp only
      generalize hQ : keysM l ks m = Q at hK hkg
      have hat : at_ ([(kt (cntM l ks m : Int) Q).2.1, (kt (cntM l ks m : Int) Q).2.2.1, (kt (cntM l ks m : Int) Q).2.2.2.1, (kt (cntM l ks m : Int) Q).2.2.2.2.1, (kt (cntM l ks m : Int) Q).2.2.2.2.2.1, (kt (cntM l ks m : Int) Q).2.2.2.2.2.2.1, (kt (cntM l ks m : Int) Q).2.2.2.2.2.2.2.1, (kt (cntM l ks m : Int) Q).2.2.2.2.2.2.2.2] : List Int) (m : Int) = some y := by
        show at_ ([(Q[0]?).getD 0, (Q[1]?).getD 0, (Q[2]?).getD 0, (Q[3]?).getD 0, (Q[4]?).getD 0, (Q[5]?).getD 0, (Q[6]?).getD 0, (Q[7]?).getD 0] : List Int) (m : Int) = some y
        rw [eight (by rw [hK]; exact h8)]
        exact at_nat (by rw [hkg, hy])
      unfold F.law13_keep.l5
      rw [if_pos (by simp; omega)]
      have hin := kin_eq hl (m : Int)
      refine (congrArg (fun o => Option.bind (Option.bind o _) _) hin).trans ?_
      rw [Option.bind_some]
      unfold F.law13_keep.r2
      have hgo : goes l m = !decide ((m : Int) ∈ l) := rfl
      have hcond : (if (!decide ((m : Int) ∈ l)) = true then (Option.bind (at_ ([(kt (cntM l ks m : Int) Q).2.1, (kt (cntM l ks m : Int) Q).2.2.1, (kt (cntM l ks m : Int) Q).2.2.2.1, (kt (cntM l ks m : Int) Q).2.2.2.2.1, (kt (cntM l ks m : Int) Q).2.2.2.2.2.1, (kt (cntM l ks m : Int) Q).2.2.2.2.2.2.1, (kt (cntM l ks m : Int) Q).2.2.2.2.2.2.2.1, (kt (cntM l ks m : Int) Q).2.2.2.2.2.2.2.2] : List Int) (m : Int)) (fun (y48 : Int) => some (y48 != 0))) else some false) = some (goes l m && (y != 0)) := by
        rw [hat, hgo]
        cases decide ((m : Int) ∈ l) <;> rfl
      rw [hcond, Option.bind_some]
      unfold F.law13_keep.r3
      have hn : ∀ b : Bool, cntM l ks (m + 1) = if goes l m && (y != 0) then cntM l ks m + 1 else cntM l ks m := fun _ => by
        conv => lhs; unfold cntM
        rw [hy]
        rfl
      have hq : ∀ b : Bool, keysM l ks (m + 1) = if goes l m && (y != 0) then Q.set m 0 else Q := fun _ => by
        conv => lhs; unfold keysM
        rw [hy, hQ]
        rfl
      cases hb : (goes l m && (y != 0)) with
      | true =>
        rw [if_pos rfl, hat, Option.bind_some, Option.bind_some]
        unfold F.law13_keep.r4
        dsimp only
        rw [hn true, hq true, hb, if_pos rfl, if_pos rfl, wadd (by omega), Int.toNat_natCast, wadd (by omega)]
        have hk2 := kt_set ((cntM l ks m + 1 : Nat) : Int) (ks := Q) (by rw [hK]; exact h8) m
        exact congrArg (fun z : KT => some (Sum.inl (((cntM l ks m + 1 : Nat) : Int), ((m + 1 : Nat) : Int), z.2))) hk2
      | false =>
        rw [if_neg (by decide), Option.bind_some]
        unfold F.law13_keep.r4
        dsimp only
        rw [hn true, hq true, hb, if_neg (by decide), if_neg (by decide), wadd (by omega)])
    (by
      dsimp only
      unfold F.law13_keep.l5
      rw [if_neg (by decide)]
      rfl) (k := FUEL) (by rw [FUEL_eq]; omega)
  exact e
abbrev RT := Int × Int × Int × Int × Int × List disk_sector × List (Int × disk_sector) × Bool × Bool × Int × Int × Int × Int × Int
def dt (d : disk_Disk) : List disk_sector × List (Int × disk_sector) × Bool × Bool × Int × Int × Int × Int × Int := (d.sure_, d.wait_, d.off_, d.armed_, d.left_, d.fall_.Keep, d.fall_.Tear, d.acts_, d.falls_)
/-- is a slot among those that are kept: the ring's look -/
theorem kin2_eq {l : List Int} (hl : l.length ≤ 1000000000000000000) (n : Int) (i b s h : Int) (d : disk_Disk) :
    iter (fun x => F.keyring_Ring_Keep.l1 l n i b s h d.sure_ d.wait_ d.off_ d.armed_ d.left_ d.fall_.Keep d.fall_.Tear d.acts_ d.falls_ x) FUEL 0 = some (if i ∈ l then .inr (.inl (n, b, s, h, dt d)) else .inl ()) := by
  obtain ⟨r, e, hr⟩ := iter_up (f := fun x => F.keyring_Ring_Keep.l1 l n i b s h d.sure_ d.wait_ d.off_ d.armed_ d.left_ d.fall_.Keep d.fall_.Tear d.acts_ d.falls_ x) l.length
    (fun k s' => s' = (k : Int) ∧ i ∉ l.take k)
    (fun r => r = if i ∈ l then .inr (.inl (n, b, s, h, dt d)) else .inl ())
    (fun k s' hk hs => by
      obtain ⟨rfl, hni⟩ := hs
      obtain ⟨y, hy⟩ := getq (l := l) (i := k) hk
      unfold F.keyring_Ring_Keep.l1
      by_cases hyi : y = i
      · refine .inr ⟨_, ?_, rfl⟩
        rw [if_pos (by simp; omega), at_nat hy, Option.bind_some, if_pos (by simpa using hyi), if_pos (by rw [← hyi]; exact List.mem_of_getElem? hy)]
        rfl
      · refine .inl ⟨((k + 1 : Nat) : Int), ?_, rfl, ?_⟩
        · rw [if_pos (by simp; omega), at_nat hy, Option.bind_some, if_neg (by simpa using hyi), wadd (by omega)]
        · intro hm
          rw [List.take_add_one, hy, Option.toList_some, List.mem_append] at hm
          rcases hm with hm | hm
          · exact hni hm
          · exact hyi (List.mem_singleton.1 hm).symm)
    (fun s' hs => by
      obtain ⟨rfl, hni⟩ := hs
      refine ⟨_, ?_, rfl⟩
      unfold F.keyring_Ring_Keep.l1
      rw [List.take_length] at hni
      rw [if_neg (by simp), if_neg hni])
    (s0 := 0) ⟨rfl, by simp⟩ (k := FUEL) (by rw [FUEL_eq]; omega)
  rw [e, hr]
structure KM (l ks : List Int) (m : Nat) (d : disk_Disk) : Prop where
  kd : Kd (keysM l ks m) d
  armed : d.armed_ = false
theorem ring_keep {l : List Int} (hl : l.length ≤ 1000000000000000000) {ks : List Int} {d : disk_Disk} (h : Kd ks d) (ha : d.armed_ = false) {r : keyring_Ring} {g : guard_Guard} (hb : r.base_ = 5) (hs : r.slots_ = 8) (h0 : 0 ≤ r.shred_) (h1 : r.shred_ ≤ 1000000) :
    ∃ d', F.keyring_Ring_Keep l r g d = some ((cntM l ks 8 : Int), 0, ⟨5, 8, r.shred_ + (cntM l ks 8 : Int)⟩, d') ∧ Kd (keysM l ks 8) d' := by
  unfold F.keyring_Ring_Keep
  rw [rwhy_eq, if_neg (by rw [hs]; omega), Option.bind_some, if_neg (by decide)]
  obtain ⟨z, e, d', hz, hd'⟩ := iter_up (f := fun (x : RT) => F.keyring_Ring_Keep.l4 l r g x.1 x.2.1 x.2.2.1 x.2.2.2.1 x.2.2.2.2.1 x.2.2.2.2.2.1 x.2.2.2.2.2.2.1 x.2.2.2.2.2.2.2.1 x.2.2.2.2.2.2.2.2.1 x.2.2.2.2.2.2.2.2.2.1 x.2.2.2.2.2.2.2.2.2.2.1 x.2.2.2.2.2.2.2.2.2.2.2.1 x.2.2.2.2.2.2.2.2.2.2.2.2.1 x.2.2.2.2.2.2.2.2.2.2.2.2.2) 8
    (fun m (s : RT) => ∃ d, s = ((cntM l ks m : Int), (m : Int), 5, 8, r.shred_ + (cntM l ks m : Int), dt d) ∧ KM l ks m d)
    (fun z => ∃ d, z = .inl ((cntM l ks 8 : Int), 5, 8, r.shred_ + (cntM l ks 8 : Int), dt d) ∧ KM l ks 8 d)
    (fun m s hm hI => by
      obtain ⟨d, rfl, hK⟩ := hI
      have hcl := cntM_le l ks m
      obtain ⟨y, b, e1, e2, e3⟩ := hK.kd.ks m hm
      have hy : ks[m]? = some y := by rw [← keysM_get l ks m m (Nat.le_refl _)]; exact e1
      have hn : cntM l ks (m + 1) = if goes l m && (y != 0) then cntM l ks m + 1 else cntM l ks m := by
        conv => lhs; unfold cntM
        rw [hy]
        rfl
      have hq : keysM l ks (m + 1) = if goes l m && (y != 0) then (keysM l ks m).set m 0 else keysM l ks m := by
        conv => lhs; unfold keysM
        rw [hy]
        rfl
      have hgo : goes l m = !decide ((m : Int) ∈ l) := rfl
      refine .inl ?_
      dsimp only
      unfold F.keyring_Ring_Keep.l4
      rw [if_pos (by rw [hs]; simp; omega)]
      have hkin := kin2_eq hl (cntM l ks m : Int) (m : Int) 5 8 (r.shred_ + (cntM l ks m : Int)) d
      by_cases hin : (m : Int) ∈ l
      · rw [if_pos hin] at hkin
        have hg0 : (goes l m && (y != 0)) = false := by rw [hgo, decide_eq_true hin]; rfl
        rw [hg0, if_neg (by decide)] at hn hq
        refine ⟨((cntM l ks (m + 1) : Int), ((m + 1 : Nat) : Int), 5, 8, r.shred_ + (cntM l ks (m + 1) : Int), dt d), ?_, d, rfl, by rw [hq]; exact hK.kd, hK.armed⟩
        refine (congrArg (fun o => thru (thru o _) _) hkin).trans ?_
        rw [thru_inr, thru_inl]
        unfold F.keyring_Ring_Keep.r3
        rw [hn, wadd (by omega)]
      · rw [if_neg hin] at hkin
        have hA := at_of hK.kd.b (r := ⟨5, 8, r.shred_ + (cntM l ks m : Int)⟩) rfl rfl hm e3 e2.len
        have hp : 1 ≤ d.sure_.length := by rw [hK.kd.b.len]; decide
        rcases e2.rd with ⟨h0', hr⟩ | ⟨h0', a, hr⟩
        · have hg0 : (goes l m && (y != 0)) = false := by rw [h0']; simp
          rw [hg0, if_neg (by decide)] at hn hq
          refine ⟨((cntM l ks (m + 1) : Int), ((m + 1 : Nat) : Int), 5, 8, r.shred_ + (cntM l ks (m + 1) : Int), dt d), ?_, d, rfl, by rw [hq]; exact hK.kd, hK.armed⟩
          refine (congrArg (fun o => thru (thru o _) _) hkin).trans ?_
          rw [thru_inl]
          have hf : F.keyring_Ring_Free (m : Int) ⟨5, 8, r.shred_ + (cntM l ks m : Int)⟩ g (⟨d.sure_, d.wait_, d.off_, d.armed_, d.left_, (⟨d.fall_.Keep, d.fall_.Tear⟩ : disk_Fall), d.acts_, d.falls_⟩ : disk_Disk) = some true := by
            have := rfree_eq (g := g) hp hA
            rw [hr] at this
            exact this
          have h2 : F.keyring_Ring_Keep.r2 g (cntM l ks m : Int) (m : Int) 5 8 (r.shred_ + (cntM l ks m : Int)) d.sure_ d.wait_ d.off_ d.armed_ d.left_ d.fall_.Keep d.fall_.Tear d.acts_ d.falls_ = some (.inl ((cntM l ks m : Int), 5, 8, r.shred_ + (cntM l ks m : Int), dt d)) := by
            unfold F.keyring_Ring_Keep.r2
            rw [hf, Option.bind_some, if_pos rfl]
            rfl
          refine (congrArg (fun o => thru o _) h2).trans ?_
          rw [thru_inl]
          unfold F.keyring_Ring_Keep.r3
          rw [hn, wadd (by omega)]
        · have hg1 : (goes l m && (y != 0)) = true := by rw [hgo, decide_eq_false hin]; simp; omega
          rw [hg1, if_pos rfl] at hn hq
          have hS : Slot 0 noL := .inl ⟨rfl, rfl⟩
          have hput := put_b hK.kd.b hK.kd.kn hm (fun j hj _ => hK.kd.ks j hj) hS
          refine ⟨((cntM l ks (m + 1) : Int), ((m + 1 : Nat) : Int), 5, 8, r.shred_ + (cntM l ks (m + 1) : Int), dt (flushD (writeD d ((5 + m : Nat) : Int) (ofL noL)))), ?_, _, rfl, by rw [hq]; exact hput, hK.armed⟩
          refine (congrArg (fun o => thru (thru o _) _) hkin).trans ?_
          rw [thru_inl]
          have hf : F.keyring_Ring_Free (m : Int) ⟨5, 8, r.shred_ + (cntM l ks m : Int)⟩ g (⟨d.sure_, d.wait_, d.off_, d.armed_, d.left_, (⟨d.fall_.Keep, d.fall_.Tear⟩ : disk_Fall), d.acts_, d.falls_⟩ : disk_Disk) = some false := by
            have := rfree_eq (g := g) hp hA
            rw [hr] at this
            exact this
          have hsh : F.keyring_Ring_Shred (m : Int) ⟨5, 8, r.shred_ + (cntM l ks m : Int)⟩ g (⟨d.sure_, d.wait_, d.off_, d.armed_, d.left_, (⟨d.fall_.Keep, d.fall_.Tear⟩ : disk_Fall), d.acts_, d.falls_⟩ : disk_Disk) = some (0, ⟨5, 8, IntKind.i64.wrap (r.shred_ + (cntM l ks m : Int) + 1)⟩, flushD (writeD d ((5 + m : Nat) : Int) (ofL noL))) := by
            have := rshred_eq (g := g) hK.kd.b.fall hK.kd.b.ok hA
            rw [hr, if_neg (by simp), if_neg (nd_calm hK.armed), if_neg (nd_calm (by exact hK.armed))] at this
            exact this
          have h2 : F.keyring_Ring_Keep.r2 g (cntM l ks m : Int) (m : Int) 5 8 (r.shred_ + (cntM l ks m : Int)) d.sure_ d.wait_ d.off_ d.armed_ d.left_ d.fall_.Keep d.fall_.Tear d.acts_ d.falls_ = some (.inl (IntKind.i64.wrap ((cntM l ks m : Int) + 1), 5, 8, IntKind.i64.wrap (r.shred_ + (cntM l ks m : Int) + 1), dt (flushD (writeD d ((5 + m : Nat) : Int) (ofL noL))))) := by
            unfold F.keyring_Ring_Keep.r2
            rw [hf, Option.bind_some, if_neg (by decide), hsh, Option.bind_some, if_neg (by simp)]
            rfl
          refine (congrArg (fun o => thru o _) h2).trans ?_
          rw [thru_inl]
          unfold F.keyring_Ring_Keep.r3
          rw [hn, wadd (by omega), wadd (by omega), w64 (n := r.shred_ + (cntM l ks m : Int) + 1) (by omega) (by omega)]
          have e5 : r.shred_ + (cntM l ks m : Int) + 1 = r.shred_ + ((cntM l ks m + 1 : Nat) : Int) := by omega
          rw [e5])
    (fun s hI => by
      obtain ⟨d, rfl, hK⟩ := hI
      refine ⟨_, ?_, d, rfl, hK⟩
      dsimp only
      unfold F.keyring_Ring_Keep.l4
      rw [if_neg (by rw [hs]; decide)])
    (s0 := ((0, 0, 5, 8, r.shred_ + 0, dt d) : RT)) ⟨d, rfl, h, ha⟩ (k := FUEL) (by rw [FUEL_eq]; omega)
  subst hz
  have e0 : ((0, 0, r.base_, r.slots_, r.shred_, d.sure_, d.wait_, d.off_, d.armed_, d.left_, d.fall_.Keep, d.fall_.Tear, d.acts_, d.falls_) : RT) = (0, 0, 5, 8, r.shred_ + 0, dt d) := by rw [hb, hs, Int.add_zero]; rfl
  refine ⟨d', ?_, hd'.kd⟩
  refine (congrArg (fun o => thru o _) ((congrArg (fun z => iter _ FUEL z) e0).trans e)).trans ?_
  rw [thru_inl]
  rfl
theorem keep_law {k : Nat} (hk : k < 40) {l : List Int} (hl : l.length ≤ 1000000000000000000) {d : disk_Disk} {g : guard_Guard} {r : keyring_Ring} {p : law13_plain} (h : KI k d g r p) (ha : d.armed_ = false) :
    ∃ r' d' p', F.law13_keep l r g d p = some (true, r', d', p') ∧ KI (k + 1) d' g r' p' := by
  have hs0 := h.s0
  have hs1 := h.s1
  have hc8 := cntM_le l (kl p) 8
  obtain ⟨d', e, hK⟩ := ring_keep hl h.kd ha (g := g) h.base h.slots (by rw [h.sh]; exact hs0) (by rw [h.sh]; omega)
  unfold F.law13_keep
  have hc := keep_count hl (ks := kl p) rfl
  refine ⟨⟨5, 8, r.shred_ + (cntM l (kl p) 8 : Int)⟩, d', ⟨⟨((keysM l (kl p) 8)[0]?).getD 0, ((keysM l (kl p) 8)[1]?).getD 0, ((keysM l (kl p) 8)[2]?).getD 0, ((keysM l (kl p) 8)[3]?).getD 0, ((keysM l (kl p) 8)[4]?).getD 0, ((keysM l (kl p) 8)[5]?).getD 0, ((keysM l (kl p) 8)[6]?).getD 0, ((keysM l (kl p) 8)[7]?).getD 0⟩, p.boot_, IntKind.i64.wrap (p.shred_ + (cntM l (kl p) 8 : Int))⟩, ?_, ?_⟩
  · refine (congrArg (fun o => Option.bind o _) hc).trans ?_
    rw [Option.bind_some]
    unfold F.law13_keep.r6 kt
    dsimp only
    rw [e, Option.bind_some]
    dsimp only
    rw [if_pos (by simp)]
    rfl
  · have hw : IntKind.i64.wrap (p.shred_ + (cntM l (kl p) 8 : Int)) = p.shred_ + (cntM l (kl p) 8 : Int) := w64 (by omega) (by omega)
    have hb1 := h.b1; have hb2 := h.b2; have hg1 := h.g1; have hg2 := h.g2; have hn0 := h.n0; have hn1 := h.n1; have hsh := h.sh
    rw [hw]
    exact {
      kd := by
        have := eight (ks := keysM l (kl p) 8) (by rw [keysM_len]; rfl)
        show Kd ([_, _, _, _, _, _, _, _] : List Int) d'
        rw [this]
        exact hK
      base := rfl
      slots := rfl
      sh := by show r.shred_ + _ = p.shred_ + _; rw [hsh]
      s0 := by show 0 ≤ p.shred_ + _; omega
      s1 := by show p.shred_ + (cntM l (kl p) 8 : Int) ≤ _; omega
      b1 := hb1
      b2 := by show p.boot_ ≤ _; omega
      g1 := hg1
      g2 := by omega
      n0 := hn0
      n1 := by omega }
end Go.Proofs.YtilpkebkhibpeaaGreatDoor
