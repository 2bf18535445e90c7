/- Rows of the call's own whose elements hold slices that are never written. -/
import Derived.Test.YtilpkebkhibpeaaGreatDoorFw1
namespace Go.Fw
set_option linter.all false
open Go Go.RowKit
/-- A ROW OF THE CALL's OWN, WHOSE ELEMENTS HOLD SLICES -/
def ownN {α : Type} (I : Hl) (n : NEnc α) (E : Nat) (p : Option Addr) (c : Nat) (l : List α) : HP := fun h => ∃ x : {R : List n.β // R.map n.log = l ∧ ∀ r ∈ R, n.ok I r}, own n.e E p c x.1 h
theorem sat_ex {ι : Type} {q : ι → HP} : ∀ {l : List HP} {k : Nat} {g : Hl}, l[k]? = some (fun h => ∃ x, q x h) → Sat l g → ∃ x, Sat (l.set k (q x)) g
  | [], _, _, hk, _ => by cases hk
  | p :: l, 0, g, hk, hs => by
    have hk : p = fun h => ∃ x, q x h := Option.some.inj hk
    subst hk
    obtain ⟨h, h1, ⟨x, hx⟩, h2⟩ := hs
    exact ⟨x, h, h1, hx, h2⟩
  | p :: l, k + 1, g, hk, hs => by
    obtain ⟨h, h1, hp, h2⟩ := hs
    obtain ⟨x, hx⟩ := sat_ex (l := l) (k := k) hk h2
    exact ⟨x, h, h1, hp, hx⟩
theorem sat_impk {p q : HP} (hpq : ∀ h, p h → q h) : ∀ {l : List HP} {k : Nat} {g : Hl}, l[k]? = some p → Sat l g → Sat (l.set k q) g
  | [], _, _, hk, _ => by cases hk
  | p' :: l, 0, g, hk, hs => by
    have hk : p' = p := Option.some.inj hk
    subst hk
    obtain ⟨h, h1, hx, h2⟩ := hs
    exact ⟨h, h1, hpq h hx, h2⟩
  | p' :: l, k + 1, g, hk, hs => by
    obtain ⟨h, h1, hp, h2⟩ := hs
    exact ⟨h, h1, hp, sat_impk hpq (l := l) (k := k) hk h2⟩
section
variable {α : Type} {I J : Hl} {n : NEnc α} {E : Nat} {p : Option Addr} {c : Nat} {l : List α} {w0 w : World} {H : List HP} {k : Nat}
theorem sat_openN (hk : H[k]? = some (ownN I n E p c l)) (hs : SAT w0 H w) : ∃ R : List n.β, R.map n.log = l ∧ (∀ r ∈ R, n.ok I r) ∧ SAT w0 (H.set k (own n.e E p c R)) w := by
  obtain ⟨x, hx⟩ := sat_ex hk hs.1
  exact ⟨x.1, x.2.1, x.2.2, hx, hs.2⟩
theorem sat_closeN {R : List n.β} (k : Nat) (hk : H[k]? = some (own n.e E p c R)) (hl : R.map n.log = l) (ho : ∀ r ∈ R, n.ok I r) (hs : SAT w0 H w) : SAT w0 (H.set k (ownN I n E p c l)) w :=
  ⟨sat_impk (fun _ h => ⟨⟨R, hl, ho⟩, h⟩) hk hs.1, hs.2⟩
theorem sat_liftN (k : Nat) (hk : H[k]? = some (ownN I n E p c l)) (hsub : Hl.sub I J) (hs : SAT w0 H w) : SAT w0 (H.set k (ownN J n E p c l)) w :=
  ⟨sat_impk (fun _ ⟨x, h⟩ => ⟨⟨x.1, x.2.1, fun r hr => n.sub hsub r (x.2.2 r hr)⟩, h⟩) hk hs.1, hs.2⟩
theorem sat_ownN_nil (I : Hl) (n : NEnc α) (E : Nat) (hs : SAT w0 H w) : SAT w0 (ownN I n E none 0 ([] : List α) :: H) w :=
  sat_closeN (H := own n.e E none 0 [] :: H) 0 rfl rfl (fun r hr => by cases hr) (sat_own_nil n.e E hs)
end
section
variable {P : Program} {ops : Array Oper} {Q : Exit → Act → World → Prop} {i m tl : Nat} {L : Slots} {w0 : World} {H : List HP} {α : Type} {I : Hl} {n : NEnc α} {E : Nat} {p : Option Addr} {c : Nat} {l : List α}
theorem ow_openN (k : Nat) (hk : H[k]? = some (ownN I n E p c l)) (h : ∀ R : List n.β, R.map n.log = l → (∀ r ∈ R, n.ok I r) → OW P ops Q i m L (SAT w0 (H.set k (own n.e E p c R)))) : OW P ops Q i m L (SAT w0 H) := by
  intro a w hf hs
  obtain ⟨R, h1, h2, h3⟩ := sat_openN hk hs
  exact h R h1 h2 a w hf h3
theorem cw_openN (k : Nat) {cd : Code} (hk : H[k]? = some (ownN I n E p c l)) (h : ∀ R : List n.β, R.map n.log = l → (∀ r ∈ R, n.ok I r) → CW P cd Q m L (SAT w0 (H.set k (own n.e E p c R)))) : CW P cd Q m L (SAT w0 H) := by
  intro a w hf hs
  obtain ⟨R, h1, h2, h3⟩ := sat_openN hk hs
  exact h R h1 h2 a w hf h3
theorem aw_openN {T : World → Prop} {f mm : Nat} (k : Nat) (hk : H[k]? = some (ownN I n E p c l)) (h : ∀ R : List n.β, R.map n.log = l → (∀ r ∈ R, n.ok I r) → AW P ops Q tl T f mm m L (SAT w0 (H.set k (own n.e E p c R)))) : AW P ops Q tl T f mm m L (SAT w0 H) := by
  intro a w hf hs
  obtain ⟨R, h1, h2, h3⟩ := sat_openN hk hs
  exact h R h1 h2 a w hf h3
theorem sat_junk {w : World} {H : List HP} {q : HP} (k : Nat) (hk : H[k]? = some q) (hs : SAT w0 H w) : SAT w0 (H.set k emp) w := ⟨sat_impk (fun _ _ => trivial) hk hs.1, hs.2⟩
end
end Go.Fw
