/- A ring's slots, step by step, and behind a loss of power, in plain words. -/
import Derived.Test.YtilpkebkhibpeaaGreatDoorPRing
import Derived.Test.YtilpkebkhibpeaaGreatDoorGPlays
namespace Go.Proofs.YtilpkebkhibpeaaGreatDoor
set_option linter.all false
open Go Go.RowKit Go.Fw
set_option maxRecDepth 100000
attribute [local irreducible] FUEL
def kl (p : law13_plain) : List Int := [p.keys_.e0, p.keys_.e1, p.keys_.e2, p.keys_.e3, p.keys_.e4, p.keys_.e5, p.keys_.e6, p.keys_.e7]
/-- a slot's key (0: none), and what its sector holds -/
def Slot (c : Int) (b : List UInt8) : Prop := (c = 0 ∧ b = noL) ∨ (0 < c ∧ c ≤ 200 ∧ ∃ a : Int, 4294967296 ≤ a ∧ a ≤ 9223372036854775807 ∧ b = secL a (keyL c))
theorem keyL47 (c : Int) : (keyL c).length ≤ 47 := by rw [keyL_len]; decide
theorem Slot.len {c : Int} {b : List UInt8} (h : Slot c b) : b.length = 64 := by
  rcases h with ⟨_, rfl⟩ | ⟨_, _, a, _, _, rfl⟩
  · rfl
  · exact secL_len (keyL47 c)
theorem Slot.bd {c : Int} {b : List UInt8} (h : Slot c b) : 0 ≤ c ∧ c ≤ 200 := by
  rcases h with ⟨h, _⟩ | ⟨h1, h2, _⟩ <;> omega
theorem Slot.rd {c : Int} {b : List UInt8} (h : Slot c b) : (c = 0 ∧ readL b = ([], 0, 7)) ∨ (0 < c ∧ ∃ a, readL b = (keyL c, a, 0)) := by
  rcases h with ⟨h, rfl⟩ | ⟨h, _, a, a1, a2, rfl⟩
  · exact .inl ⟨h, no_read⟩
  · exact .inr ⟨h, a, sec_read a1 a2 (keyL47 c)⟩
theorem Slot.sec {c : Int} {b : List UInt8} (h : Slot c b) : ∃ a s, b = secL a s ∧ 0 ≤ a ∧ a ≤ 9223372036854775807 ∧ s.length ≤ 47 ∧ ((c = 0 ∧ a = 0) ∨ (0 < c ∧ 4294967296 ≤ a)) := by
  rcases h with ⟨h, rfl⟩ | ⟨h, _, a, a1, a2, rfl⟩
  · exact ⟨0, [], no_sec.symm, by decide, by decide, by decide, .inl ⟨h, rfl⟩⟩
  · exact ⟨a, keyL c, rfl, by omega, a2, keyL47 c, .inr ⟨h, a1⟩⟩
structure Kb (d : disk_Disk) : Prop where
  ok : DOk d
  len : d.sure_.length = 20
  off : d.off_ = false
  wait : d.wait_ = []
  fall : FOk d.fall_
/-- a slot stands as it should -/
def St (ks : List Int) (d : disk_Disk) (i : Nat) : Prop := ∃ c b, ks[i]? = some c ∧ Slot c b ∧ curB d ((5 + i : Nat) : Int) = ofL b
structure Kd (ks : List Int) (d : disk_Disk) : Prop where
  b : Kb d
  kn : ks.length = 8
  ks : ∀ i : Nat, i < 8 → St ks d i
theorem at_of {d : disk_Disk} (h : Kb d) {r : keyring_Ring} (hb : r.base_ = 5) (hs : r.slots_ = 8) {i : Nat} (hi : i < 8) {b : List UInt8} (hc : curB d ((5 + i : Nat) : Int) = ofL b) (hl : b.length = 64) : At r d (i : Int) ((5 + i : Nat) : Int) b where
  lo := by omega
  hi := by rw [hs]; omega
  sum := by rw [hb, w64 (by omega) (by omega)]; omega
  j0 := by omega
  why := whyB_in h.off (by omega) (by rw [h.len]; omega)
  cur := hc
  len := hl
theorem step_b {d : disk_Disk} (h : Kb d) {j : Nat} (hj : j < 20) {b : List UInt8} (hb : b.length = 64) : Kb (flushD (writeD d (j : Int) (ofL b))) ∧ ∀ k : Nat, k < 20 → curB (flushD (writeD d (j : Int) (ofL b))) (k : Int) = if k = j then ofL b else curB d (k : Int) := by
  have hw := write_ok h.ok (i := (j : Int)) (by omega) (by rw [h.len]; omega) (s := ofL b) (by rw [ofL_size, hb])
  have hl : (writeD d (j : Int) (ofL b)).sure_.length = 20 := h.len
  refine ⟨⟨flush_ok hw, by rw [flush_len, hl], h.off, rfl, h.fall⟩, fun k hk => ?_⟩
  rw [cur_flush hw (by omega) (by rw [hl]; omega), cur_write]
  by_cases e : k = j
  · rw [if_pos e, if_pos (by omega)]
  · rw [if_neg e, if_neg (by omega)]
theorem put_b {ks : List Int} {d : disk_Disk} (h : Kb d) (hn : ks.length = 8) {i : Nat} (hi : i < 8) (hk : ∀ j, j < 8 → j ≠ i → St ks d j) {c : Int} {b : List UInt8} (hS : Slot c b) : Kd (ks.set i c) (flushD (writeD d ((5 + i : Nat) : Int) (ofL b))) := by
  obtain ⟨h1, h2⟩ := step_b h (j := 5 + i) (by omega) hS.len
  refine ⟨h1, by rw [List.length_set, hn], fun j hj => ?_⟩
  by_cases e : j = i
  · subst e
    exact ⟨c, b, List.getElem?_set_self (by omega), hS, by rw [h2 _ (by omega), if_pos rfl]⟩
  · obtain ⟨c', b', e1, e2, e3⟩ := hk j hj e
    exact ⟨c', b', by rw [List.getElem?_set_ne (fun h => e h.symm), e1], e2, by rw [h2 _ (by omega), if_neg (by omega), e3]⟩
/-- the disk behind a loss of power; which slot's act was going on, and the key that was going in -/
structure Dn (ks : List Int) (i : Nat) (c : Int) (D : disk_Disk) : Prop where
  ok : DOk D
  len : D.sure_.length = 20
  off : D.off_ = true
  wait : D.wait_ = []
  fall : FOk D.fall_
  kn : ks.length = 8
  ks : ∀ j : Nat, j < 8 → St ks D j ∨ (j = i ∧ (∃ k, ks[j]? = some k ∧ 0 ≤ k ∧ k ≤ 200) ∧ ∃ b, b.length = 64 ∧ curB D ((5 + j : Nat) : Int) = ofL b ∧ (Slot c b ∨ readL b = ([], 0, 17)))
theorem cur_none {d : disk_Disk} (h : d.wait_ = []) (j : Nat) : curB d (j : Int) = ((d.sure_[j]?).getD zS).s_ := by
  unfold curB
  rw [h]
  rfl
theorem drop_len (f : disk_Fall) (d : disk_Disk) : (dropD f d).sure_.length = d.sure_.length := fallG_len _ _ _
/-- nothing waits: all stays -/
theorem drop_same {f : disk_Fall} {d : disk_Disk} (h : DOk d) (hw : d.wait_ = []) (j : Nat) : curB (dropD f d) (j : Int) = curB d (j : Int) := by
  rw [cur_none rfl, cur_none hw, (drop_get (f := f) h j).1 (by rw [hw]; rfl)]
theorem dn_idle {ks : List Int} {d : disk_Disk} (h : Kd ks d) (f : disk_Fall) (i : Nat) (c : Int) : Dn ks i c (dropD f d) where
  ok := drop_ok h.b.ok
  len := by rw [drop_len, h.b.len]
  off := rfl
  wait := rfl
  fall := h.b.fall
  kn := h.kn
  ks j hj := by
    obtain ⟨c', b, e1, e2, e3⟩ := h.ks j hj
    exact .inl ⟨c', b, e1, e2, by rw [drop_same h.b.ok h.b.wait, e3]⟩
theorem dn_write {ks : List Int} {d : disk_Disk} (h : Kd ks d) (f : disk_Fall) {i : Nat} (hi : i < 8) {c k : Int} {b : List UInt8} (hS : Slot c b) (hk : ks[i]? = some k) (hne : (c = 0 ∧ 0 < k) ∨ (0 < c ∧ k = 0)) : Dn ks i c (dropD f (writeD d ((5 + i : Nat) : Int) (ofL b))) := by
  have hw := write_ok h.b.ok (i := ((5 + i : Nat) : Int)) (by omega) (by rw [h.b.len]; omega) (s := ofL b) (by rw [ofL_size, hS.len])
  have hmg : ∀ j : Nat, mget (writeD d ((5 + i : Nat) : Int) (ofL b)).wait_ (j : Int) = if (j : Int) = ((5 + i : Nat) : Int) then some ⟨ofL b, (actD d).acts_⟩ else none := fun j => by
    show mget (mset d.wait_ ((5 + i : Nat) : Int) ⟨ofL b, (actD d).acts_⟩) (j : Int) = _
    rw [mget_mset, h.b.wait]
    rfl
  have hs : (writeD d ((5 + i : Nat) : Int) (ofL b)).sure_ = d.sure_ := rfl
  refine ⟨drop_ok hw, by rw [drop_len]; exact h.b.len, rfl, rfl, h.b.fall, h.kn, fun j hj => ?_⟩
  obtain ⟨c', b', e1, e2, e3⟩ := h.ks j hj
  obtain ⟨g1, g2⟩ := drop_get (f := f) hw (5 + j)
  by_cases e : j = i
  · subst e
    have hck : c' = k := Option.some.inj (e1.symm.trans hk)
    subst hck
    have hm := hmg (5 + j)
    rw [if_pos rfl] at hm
    obtain ⟨z, _, hz⟩ := g2 _ hm
    obtain ⟨old, ho⟩ := getq (l := d.sure_) (i := 5 + j) (by rw [h.b.len]; omega)
    have hold : old.s_ = ofL b' := by
      rw [cur_none h.b.wait, ho] at e3
      exact e3
    rw [hs, ho, Option.map_some] at hz
    obtain ⟨a, s, rfl, a0, a1, sl, ah⟩ := hS.sec
    obtain ⟨a', s', rfl, a0', a1', sl', ah'⟩ := e2.sec
    have l1 := secL_len (a := a) sl
    have l2 := secL_len (a := a') sl'
    have hT : tearN f ≤ 64 := by
      unfold tearN
      have := Int.tmod_lt_of_pos f.Tear (show (0 : Int) < 64 by decide)
      omega
    have hcur : curB (dropD f (writeD d ((5 + j : Nat) : Int) (ofL (secL a s)))) ((5 + j : Nat) : Int) = (fallV f z old ⟨ofL (secL a s), (actD d).acts_⟩).s_ := by
      rw [cur_none rfl, hz]
      rfl
    have key : ∃ R : List UInt8, R.length = 64 ∧ (fallV f z old ⟨ofL (secL a s), (actD d).acts_⟩).s_ = ofL R ∧ (R = secL a' s' ∨ R = secL a s ∨ readL R = ([], 0, 17)) := by
      unfold fallV
      cases ht : tearB f z with
      | false =>
        cases hkb : keepB f z with
        | true =>
          rw [if_neg (by decide), if_pos rfl]
          exact ⟨_, l1, rfl, .inr (.inl rfl)⟩
        | false =>
          rw [if_neg (by decide), if_neg (by decide), hold]
          exact ⟨_, l2, rfl, .inl rfl⟩
      | true =>
        rw [if_pos rfl]
        dsimp only
        cases hkb : keepB f z with
        | true =>
          rw [if_pos rfl, ofL_extract, ofL_extract, ofL_append]
          have e2 : ((secL a s).take (tearN f)).drop 0 ++ ((secL a s).take 64).drop (tearN f) = secL a s := by
            rw [List.drop_zero, List.take_of_length_le (l := secL a s) (i := 64) (by omega), List.take_append_drop]
          rw [e2]
          exact ⟨_, l1, rfl, .inr (.inl rfl)⟩
        | false =>
          rw [if_neg (by decide), hold, ofL_extract, ofL_extract, ofL_append]
          have e2 : ((secL a s).take (tearN f)).drop 0 ++ ((secL a' s').take 64).drop (tearN f) = mixL (tearN f) (secL a s) (secL a' s') := by
            rw [List.drop_zero, List.take_of_length_le (l := secL a' s') (i := 64) (by omega)]
            rfl
          rw [e2]
          exact ⟨_, mix_len l1 l2 hT, rfl, mix_read sl sl' a0 a1 a0' a1' (by omega) hT⟩
    obtain ⟨R, hR, hRe, hcase⟩ := key
    rw [hRe] at hcur
    rcases hcase with rfl | rfl | hcase
    · exact .inl ⟨c', _, e1, e2, hcur⟩
    · exact .inr ⟨rfl, ⟨c', e1, e2.bd⟩, _, hR, hcur, .inl hS⟩
    · exact .inr ⟨rfl, ⟨c', e1, e2.bd⟩, _, hR, hcur, .inr hcase⟩
  · have hm := hmg (5 + j)
    rw [if_neg (by omega)] at hm
    exact .inl ⟨c', b', e1, e2, by rw [cur_none rfl, g1 hm, hs, ← cur_none h.b.wait, e3]⟩
/-! ### what a slot is told as -/
theorem rget_eq {r : keyring_Ring} {g : guard_Guard} {d : disk_Disk} {i j : Int} {b : List UInt8} (hp : 1 ≤ d.sure_.length) (h : At r d i j b) : F.keyring_Ring_Get i r g d = some (if (readL b).2.2 ≠ 0 then (ByteArray.mk #[], (readL b).2.2) else if (readL b).1.length ≠ 32 then (ByteArray.mk #[], 17) else (ofL (readL b).1, 0)) := by
  unfold F.keyring_Ring_Get
  have hn : ¬ (i < 0 ∨ r.slots_ ≤ i) := by have := h.lo; have := h.hi; omega
  rw [rwhy_eq, if_neg hn, Option.bind_some, if_neg (by decide), h.sum, gget_eq hp h.why h.cur h.len, Option.bind_some]
  dsimp only
  by_cases h0 : (readL b).2.2 = 0
  · rw [if_neg (by simpa using h0), if_neg (c := (readL b).2.2 ≠ 0) (fun e => e h0), ofL_size]
    by_cases h1 : (readL b).1.length = 32
    · rw [if_neg (by simp; omega), if_neg (c := (readL b).1.length ≠ 32) (fun e => e h1)]
    · rw [if_pos (by simp; omega), if_pos (c := (readL b).1.length ≠ 32) h1]
  · rw [if_pos (by simpa using h0), if_pos (c := (readL b).2.2 ≠ 0) h0]
theorem get_key {r : keyring_Ring} {g : guard_Guard} {d : disk_Disk} {i j : Int} {b : List UInt8} (hp : 1 ≤ d.sure_.length) (h : At r d i j b) {c a : Int} (hr : readL b = (keyL c, a, 0)) : F.keyring_Ring_Get i r g d = some (ofL (keyL c), 0) := by
  rw [rget_eq hp h, hr]
  dsimp only
  rw [if_neg (by decide), if_neg (by rw [keyL_len]; decide)]
theorem get_free {r : keyring_Ring} {g : guard_Guard} {d : disk_Disk} {i j : Int} {b : List UInt8} (hp : 1 ≤ d.sure_.length) (h : At r d i j b) (hr : readL b = ([], 0, 7)) : F.keyring_Ring_Get i r g d = some (ByteArray.mk #[], 7) := by
  rw [rget_eq hp h, hr]
  rfl
theorem get_torn {r : keyring_Ring} {g : guard_Guard} {d : disk_Disk} {i j : Int} {b : List UInt8} (hp : 1 ≤ d.sure_.length) (h : At r d i j b) (hr : readL b = ([], 0, 17)) : F.keyring_Ring_Get i r g d = some (ByteArray.mk #[], 17) := by
  rw [rget_eq hp h, hr]
  rfl
theorem in_eq (i : Int) : F.law13_in i = some (decide (0 ≤ i ∧ i < 8)) := by
  unfold F.law13_in
  by_cases h : 0 ≤ i
  · rw [if_pos (by simpa using h)]
    congr 1
    simp [h]
  · rw [if_neg (by simpa using h)]
    congr 1
    simp [h]
theorem key8 {c : Int} (h0 : 0 ≤ c) (h1 : c ≤ 200) : F.law13_key (IntKind.u8.wrap c) = some (ofL (keyL c)) := by
  have : IntKind.u8.wrap c = c := by simp [IntKind.wrap, IntKind.bits, IntKind.signed]; omega
  rw [this, key_eq]
theorem key_first {c : Int} (h0 : 0 ≤ c) (h1 : c ≤ 200) : IntKind.i64.wrap (bt (ofL (keyL c)) 0) = c := by
  rw [bt_ofL]
  have e : ((keyL c)[(0 : Int).toNat]?).getD 0 = UInt8.ofNat c.toNat := rfl
  rw [e]
  have : (UInt8.ofNat c.toNat).toNat = c.toNat := by simp; omega
  rw [this, w64 (by omega) (by omega)]
  omega
theorem kl_set (p : law13_plain) (i : Nat) (c b s : Int) : kl ⟨⟨if i = 0 then c else p.keys_.e0, if i = 1 then c else p.keys_.e1, if i = 2 then c else p.keys_.e2, if i = 3 then c else p.keys_.e3, if i = 4 then c else p.keys_.e4, if i = 5 then c else p.keys_.e5, if i = 6 then c else p.keys_.e6, if i = 7 then c else p.keys_.e7⟩, b, s⟩ = (kl p).set i c := setF_set (kl p) i c
theorem kl_same (p : law13_plain) (b s : Int) : kl ⟨p.keys_, b, s⟩ = kl p := rfl
/-! ### behind a loss of power -/
def upD (D : disk_Disk) : disk_Disk := startD ⟨D.sure_, D.wait_, D.off_, false, D.left_, D.fall_, D.acts_, D.falls_⟩
theorem again_eq {i : Nat} {c : Int} {D d : disk_Disk} {p : law13_plain} {f : disk_Fall} {e0 : Int} (hD : Dn (kl p) i c D) (hb : 1 ≤ p.boot_) (hb2 : p.boot_ ≤ 1000) {x : Int} (hx : (x = (i : Int) ∧ i < 8) ∨ (x = -1 ∧ 8 ≤ i)) (hc0 : 0 ≤ c) (hc1 : c ≤ 200) (hcr : F.disk_Disk_Crash f d = some (e0, D)) :
    ∃ r d' p', F.law13_again f x c d p = some (some (r, ⟨p.boot_ + 1, 0⟩), d', p') ∧ Kd (kl p') d' ∧ r.base_ = 5 ∧ r.slots_ = 8 ∧ r.shred_ = p'.shred_ ∧ 0 ≤ p'.shred_ ∧ p'.shred_ ≤ 1 ∧ p'.boot_ = p.boot_ + 1 := by
  have hup : Kb (upD D) := ⟨⟨hD.ok.sec, hD.ok.keys, hD.ok.inr, hD.ok.pos, hD.ok.len⟩, hD.len, rfl, hD.wait, hD.fall⟩
  have hcu : ∀ j : Nat, curB (upD D) (j : Int) = curB D (j : Int) := fun j => rfl
  have hpos : 1 ≤ (upD D).sure_.length := by rw [hup.len]; decide
  have hst : F.disk_Disk_Start (⟨D.sure_, D.wait_, D.off_, false, D.left_, D.fall_, D.acts_, D.falls_⟩ : disk_Disk) = some (0, upD D) := by
    rw [start_eq (d := ⟨D.sure_, D.wait_, D.off_, false, D.left_, D.fall_, D.acts_, D.falls_⟩) (by show 1 ≤ D.sure_.length; rw [hD.len]; decide), if_pos (show D.off_ = true from hD.off)]
    rfl
  have hw : IntKind.i64.wrap (p.boot_ + 1) = p.boot_ + 1 := w64 (by omega) (by omega)
  unfold F.law13_again F.disk_Disk_Calm
  rw [hcr, Option.bind_some, Option.bind_some, hst, Option.bind_some, hw, made_eq hup.len (by omega) (by omega), Option.bind_some]
  dsimp only [optC]
  rw [in_eq, Option.bind_some]
  rcases hx with ⟨rfl, hi⟩ | ⟨rfl, hi⟩
  rotate_left
  · rw [decide_eq_false (by omega), if_neg (by decide)]
    refine ⟨_, _, _, rfl, ⟨hup, hD.kn, fun j hj => ?_⟩, rfl, rfl, rfl, Int.le_refl _, (by decide : (0 : Int) ≤ 1), rfl⟩
    rcases hD.ks j hj with h | ⟨h, _⟩
    · exact h
    · omega
  rw [decide_eq_true (by omega), if_pos rfl]
  obtain ⟨y, hy⟩ := getq (l := kl p) (i := i) hi
  have hat : at_ ([p.keys_.e0, p.keys_.e1, p.keys_.e2, p.keys_.e3, p.keys_.e4, p.keys_.e5, p.keys_.e6, p.keys_.e7] : List Int) (i : Int) = some y := at_nat hy
  have hoth : ∀ j, j < 8 → j ≠ i → St (kl p) (upD D) j := fun j hj hne => by
    rcases hD.ks j hj with h | ⟨h, _⟩
    · exact h
    · exact absurd h hne
  have hset : ∀ (c' : Int) (b : List UInt8), Slot c' b → curB D ((5 + i : Nat) : Int) = ofL b → Kd ((kl p).set i c') (upD D) := fun c' b hS hcb => by
    refine ⟨hup, by rw [List.length_set]; exact hD.kn, fun j hj => ?_⟩
    by_cases e : j = i
    · subst e
      exact ⟨c', b, List.getElem?_set_self hi, hS, hcb⟩
    · obtain ⟨c2, b2, e1, e2, e3⟩ := hoth j hj e
      exact ⟨c2, b2, by rw [List.getElem?_set_ne (fun h => e h.symm), e1], e2, e3⟩
  have atb : ∀ b : List UInt8, b.length = 64 → curB D ((5 + i : Nat) : Int) = ofL b → At ⟨5, 8, 0⟩ (upD D) (i : Int) ((5 + i : Nat) : Int) b := fun b hl hcb => at_of hup rfl rfl hi hcb hl
  -- a key is there: that of before, or the new one
  have hkey : ∀ (k : Int) (b : List UInt8) (a : Int), 0 < k → Slot k b → curB D ((5 + i : Nat) : Int) = ofL b → readL b = (keyL k, a, 0) → (k = y ∨ k = c) → 0 ≤ y → y ≤ 200 →
      ∃ r d' p', Option.bind (F.keyring_Ring_Get (i : Int) ⟨5, 8, 0⟩ ⟨p.boot_ + 1, 0⟩ (upD D)) (fun (r42 : ByteArray × Int) => Option.bind (at_ ([p.keys_.e0, p.keys_.e1, p.keys_.e2, p.keys_.e3, p.keys_.e4, p.keys_.e5, p.keys_.e6, p.keys_.e7] : List Int) (i : Int)) (fun (y44 : Int) => Option.bind (if r42.2 == 0 then (if decide (y44 > 0) then (Option.bind (F.law13_key (IntKind.u8.wrap (y44))) (fun (r49 : ByteArray) => if seqB r42.1 r49 then (some (true)) else (if decide (c > 0) then (Option.bind (F.law13_key (IntKind.u8.wrap (c))) (fun (r53 : ByteArray) => some ((seqB r42.1 r53)))) else (some (false))))) else (if decide (c > 0) then (Option.bind (F.law13_key (IntKind.u8.wrap (c))) (fun (r56 : ByteArray) => some ((seqB r42.1 r56)))) else (some (false)))) else (some (false))) (fun x => F.law13_again.r1 (i : Int) c p (0, upD D) (⟨5, 8, 0⟩, ⟨p.boot_ + 1, 0⟩) r42 y44 x))) = some (some (r, ⟨p.boot_ + 1, 0⟩), d', p') ∧ Kd (kl p') d' ∧ r.base_ = 5 ∧ r.slots_ = 8 ∧ r.shred_ = p'.shred_ ∧ 0 ≤ p'.shred_ ∧ p'.shred_ ≤ 1 ∧ p'.boot_ = p.boot_ + 1 := by
    intro k b a hk hS hcb hr hky hy0 hy1
    have hkb := hS.bd
    rw [get_key hpos (atb b hS.len hcb) hr, Option.bind_some, hat, Option.bind_some]
    dsimp only
    have hcond : (if ((0 : Int) == 0) = true then (if decide (y > 0) = true then (Option.bind (F.law13_key (IntKind.u8.wrap y)) (fun (r49 : ByteArray) => if seqB (ofL (keyL k)) r49 = true then some true else (if decide (c > 0) = true then (Option.bind (F.law13_key (IntKind.u8.wrap c)) (fun (r53 : ByteArray) => some (seqB (ofL (keyL k)) r53))) else some false))) else (if decide (c > 0) = true then (Option.bind (F.law13_key (IntKind.u8.wrap c)) (fun (r56 : ByteArray) => some (seqB (ofL (keyL k)) r56))) else some false)) else some false) = some true := by
      rw [if_pos (by decide)]
      by_cases h1 : y > 0
      · rw [if_pos (by simpa using h1), key8 hy0 hy1, Option.bind_some]
        rcases hky with rfl | rfl
        · rw [if_pos (seqB_refl _)]
        · rw [if_pos (c := decide (k > 0) = true) (by simpa using hk), key8 hc0 hc1, Option.bind_some, seqB_refl]
          split <;> rfl
      · rcases hky with rfl | rfl
        · omega
        · rw [if_neg (by simpa using h1), if_pos (c := decide (k > 0) = true) (by simpa using hk), key8 hc0 hc1, Option.bind_some, seqB_refl]
    rw [hcond, Option.bind_some]
    unfold F.law13_again.r1
    rw [if_pos rfl, chk_pos (by rw [ofL_size, keyL_len]; decide), hat, Option.bind_some, hw, key_first (by omega) (by omega), Int.toNat_natCast]
    refine ⟨_, _, _, rfl, ?_, rfl, rfl, rfl, Int.le_refl _, (by decide : (0 : Int) ≤ 1), rfl⟩
    rw [kl_set]
    exact hset k b hS hcb
  -- nothing is there
  have hfree : ∀ (b : List UInt8), Slot 0 b → curB D ((5 + i : Nat) : Int) = ofL b → readL b = ([], 0, 7) → (y = 0 ∨ c = 0) →
      ∃ r d' p', Option.bind (F.keyring_Ring_Get (i : Int) ⟨5, 8, 0⟩ ⟨p.boot_ + 1, 0⟩ (upD D)) (fun (r42 : ByteArray × Int) => Option.bind (at_ ([p.keys_.e0, p.keys_.e1, p.keys_.e2, p.keys_.e3, p.keys_.e4, p.keys_.e5, p.keys_.e6, p.keys_.e7] : List Int) (i : Int)) (fun (y44 : Int) => Option.bind (if r42.2 == 0 then (if decide (y44 > 0) then (Option.bind (F.law13_key (IntKind.u8.wrap (y44))) (fun (r49 : ByteArray) => if seqB r42.1 r49 then (some (true)) else (if decide (c > 0) then (Option.bind (F.law13_key (IntKind.u8.wrap (c))) (fun (r53 : ByteArray) => some ((seqB r42.1 r53)))) else (some (false))))) else (if decide (c > 0) then (Option.bind (F.law13_key (IntKind.u8.wrap (c))) (fun (r56 : ByteArray) => some ((seqB r42.1 r56)))) else (some (false)))) else (some (false))) (fun x => F.law13_again.r1 (i : Int) c p (0, upD D) (⟨5, 8, 0⟩, ⟨p.boot_ + 1, 0⟩) r42 y44 x))) = some (some (r, ⟨p.boot_ + 1, 0⟩), d', p') ∧ Kd (kl p') d' ∧ r.base_ = 5 ∧ r.slots_ = 8 ∧ r.shred_ = p'.shred_ ∧ 0 ≤ p'.shred_ ∧ p'.shred_ ≤ 1 ∧ p'.boot_ = p.boot_ + 1 := by
    intro b hS hcb hr hyc
    rw [get_free hpos (atb b hS.len hcb) hr, Option.bind_some, hat, Option.bind_some]
    dsimp only
    rw [if_neg (by decide), Option.bind_some]
    unfold F.law13_again.r1
    rw [if_neg (by decide)]
    dsimp only
    rw [if_pos (by decide)]
    have hc2 : (if (y == 0) = true then some true else some (c == 0)) = some true := by
      rcases hyc with rfl | rfl
      · rfl
      · split <;> rfl
    rw [hc2, Option.bind_some]
    unfold F.law13_again.r2
    rw [if_pos rfl, hat, Option.bind_some, hw, Int.toNat_natCast]
    refine ⟨_, _, _, rfl, ?_, rfl, rfl, rfl, Int.le_refl _, (by decide : (0 : Int) ≤ 1), rfl⟩
    rw [kl_set]
    exact hset 0 b hS hcb
  rcases hD.ks i hi with ⟨k, b, e1, e2, e3⟩ | ⟨_, ⟨k, hk, hk0, hk1⟩, b, hl, hcb, e2 | htorn⟩
  · have hky : k = y := Option.some.inj (e1.symm.trans hy)
    subst hky
    have hbd := e2.bd
    rcases e2.rd with ⟨h0, hr⟩ | ⟨h0, a, hr⟩
    · subst h0
      exact hfree b e2 e3 hr (.inl rfl)
    · exact hkey k b a h0 e2 e3 hr (.inl rfl) hbd.1 hbd.2
  · have hky : k = y := Option.some.inj (hk.symm.trans hy)
    subst hky
    rcases e2.rd with ⟨h0, hr⟩ | ⟨h0, a, hr⟩
    · subst h0
      exact hfree b e2 hcb hr (.inr rfl)
    · exact hkey c b a h0 e2 hcb hr (.inr rfl) hk0 hk1
  · rw [get_torn hpos (atb b hl hcb) htorn, Option.bind_some, hat, Option.bind_some]
    dsimp only
    rw [if_neg (by decide), Option.bind_some]
    unfold F.law13_again.r1
    rw [if_neg (by decide)]
    dsimp only
    rw [if_neg (by decide), Option.bind_some]
    unfold F.law13_again.r2
    rw [if_neg (by decide)]
    dsimp only
    rw [if_pos (by decide), rshred_eq hup.fall hup.ok (atb b hl hcb), htorn]
    dsimp only
    have nd : ∀ E : disk_Disk, E.armed_ = false → ¬ due E := fun E hE => by unfold due; rw [hE]; intro e; cases e.1
    rw [if_neg (by decide), if_neg (nd _ rfl), if_neg (nd _ rfl), Option.bind_some]
    dsimp only
    rw [if_neg (by decide), hat, Option.bind_some, hw, Int.toNat_natCast]
    refine ⟨_, _, _, rfl, ?_, rfl, rfl, rfl, (by decide : (0 : Int) ≤ 1), Int.le_refl _, rfl⟩
    rw [kl_set]
    exact put_b hup hD.kn hi hoth (.inl ⟨rfl, rfl⟩)
end Go.Proofs.YtilpkebkhibpeaaGreatDoor
