/- A logic of small heaps over the walk's own rules: heaplets, what holds of several of them apart, and how a world's heap turns. -/
import Derived.WalkKit
namespace Go.Fw
set_option linter.all false
open Go Go.RowKit

/-- a small heap: some of the blocks -/
abbrev Hl := Nat → Option Obj
/-- what holds of a small heap -/
abbrev HP := Hl → Prop
def hp (w : World) : Hl := fun b => w.heap[b]?
def Hl.sub (h g : Hl) : Prop := ∀ b o, h b = some o → g b = some o
def Hl.minus (g h : Hl) : Hl := fun b => match h b with | some _ => none | none => g b
def Hl.join (h k : Hl) : Hl := fun b => match h b with | some o => some o | none => k b
def Hl.upd (g : Hl) (b : Nat) (o : Obj) : Hl := fun c => if c = b then some o else g c
def Hl.one (b : Nat) (o : Obj) : Hl := fun c => if c = b then some o else none

theorem Hl.sub_refl (h : Hl) : Hl.sub h h := fun _ _ e => e
theorem Hl.sub_trans {h k g : Hl} (a : Hl.sub h k) (b : Hl.sub k g) : Hl.sub h g := fun c o e => b c o (a c o e)
theorem Hl.minus_some {g h : Hl} {b : Nat} {o : Obj} : (Hl.minus g h) b = some o ↔ g b = some o ∧ h b = none := by
  unfold Hl.minus
  cases hb : h b <;> simp
theorem Hl.minus_sub (g h : Hl) : Hl.sub (g.minus h) g := fun _ _ e => (Hl.minus_some.1 e).1
theorem Hl.minus_mono {g g' : Hl} (h : Hl) (s : Hl.sub g g') : Hl.sub (g.minus h) (g'.minus h) := fun b o e => by
  obtain ⟨e1, e2⟩ := Hl.minus_some.1 e
  exact Hl.minus_some.2 ⟨s b o e1, e2⟩
theorem Hl.minus_comm (g h k : Hl) : (g.minus h).minus k = (g.minus k).minus h := by
  funext b
  unfold Hl.minus
  cases h b <;> cases k b <;> rfl
theorem Hl.join_some {h k : Hl} {b : Nat} {o : Obj} : (Hl.join h k) b = some o ↔ h b = some o ∨ (h b = none ∧ k b = some o) := by
  unfold Hl.join
  cases hb : h b <;> simp
theorem Hl.join_none {h k : Hl} {b : Nat} : (Hl.join h k) b = none ↔ h b = none ∧ k b = none := by
  unfold Hl.join
  cases hb : h b <;> simp

/-- each of these holds of a part of its own -/
def Sat : List HP → Hl → Prop
  | [], _ => True
  | p :: r, g => ∃ h, Hl.sub h g ∧ p h ∧ Sat r (g.minus h)

theorem sat_mono : ∀ {l : List HP} {g g' : Hl}, Hl.sub g g' → Sat l g → Sat l g'
  | [], _, _, _, _ => trivial
  | _ :: _, _, _, s, ⟨h, h1, h2, h3⟩ => ⟨h, Hl.sub_trans h1 s, h2, sat_mono (Hl.minus_mono h s) h3⟩

theorem sat_swap {p q : HP} {r : List HP} {g : Hl} (s : Sat (p :: q :: r) g) : Sat (q :: p :: r) g := by
  obtain ⟨h, h1, h2, k, k1, k2, k3⟩ := s
  refine ⟨k, Hl.sub_trans k1 (Hl.minus_sub _ _), k2, h, fun b o e => ?_, h2, ?_⟩
  · refine Hl.minus_some.2 ⟨h1 b o e, ?_⟩
    cases hk : k b with
    | none => rfl
    | some o' => have := (Hl.minus_some.1 (k1 b o' hk)).2; rw [e] at this; cases this
  · rw [Hl.minus_comm]; exact k3

theorem sat_perm {l l' : List HP} (pm : l.Perm l') : ∀ {g : Hl}, Sat l g → Sat l' g := by
  induction pm with
  | nil => exact fun s => s
  | cons x _ ih => exact fun ⟨h, h1, h2, h3⟩ => ⟨h, h1, h2, ih h3⟩
  | swap x y l => exact fun s => sat_swap s
  | trans _ _ ih1 ih2 => exact fun s => ih2 (ih1 s)

theorem sat_drop {p : HP} {r : List HP} {g : Hl} (s : Sat (p :: r) g) : Sat r g := by
  obtain ⟨h, h1, _, h3⟩ := s
  exact sat_mono (Hl.minus_sub _ _) h3

theorem sat_drops {l r : List HP} {g : Hl} (s : Sat (l ++ r) g) : Sat r g := by
  induction l generalizing g with
  | nil => exact s
  | cons p l ih => exact ih (sat_drop s)
theorem sat_take {l r : List HP} {g : Hl} (s : Sat (l ++ r) g) : Sat l g := by
  induction l generalizing g with
  | nil => exact trivial
  | cons p l ih => obtain ⟨h, h1, h2, h3⟩ := s; exact ⟨h, h1, h2, ih h3⟩

/-- what implies another stands for it -/
theorem sat_imp {p q : HP} {r : List HP} {g : Hl} (hpq : ∀ h, p h → q h) (s : Sat (p :: r) g) : Sat (q :: r) g := by
  obtain ⟨h, h1, h2, h3⟩ := s
  exact ⟨h, h1, hpq h h2, h3⟩

/-- several in one -/
def star (l : List HP) : HP := fun h => Sat l h

theorem sat_join : ∀ {l r : List HP} {h g : Hl}, Hl.sub h g → Sat l h → Sat r (g.minus h) → Sat (l ++ r) g
  | [], _, _, _, _, _, s => sat_mono (Hl.minus_sub _ _) s
  | _ :: l, r, h, g, hg, ⟨k, k1, k2, k3⟩, s => by
    refine ⟨k, Hl.sub_trans k1 hg, k2, sat_join (h := h.minus k) (Hl.minus_mono k hg) k3 (sat_mono ?_ s)⟩
    intro b o e
    obtain ⟨e1, e2⟩ := Hl.minus_some.1 e
    have hkn : k b = none := by
      cases hk : k b with
      | none => rfl
      | some o' => rw [k1 b o' hk] at e2; cases e2
    refine Hl.minus_some.2 ⟨Hl.minus_some.2 ⟨e1, hkn⟩, ?_⟩
    cases hm : (h.minus k) b with
    | none => rfl
    | some o' => rw [(Hl.minus_some.1 hm).1] at e2; cases e2

theorem sat_part : ∀ {l r : List HP} {g : Hl}, Sat (l ++ r) g → ∃ h, Hl.sub h g ∧ Sat l h ∧ Sat r (g.minus h)
  | [], _, g, s => ⟨fun _ => none, (fun _ _ e => by cases e), trivial, sat_mono (g' := g.minus fun _ => none) (fun b o e => Hl.minus_some.2 ⟨e, rfl⟩) s⟩
  | p :: l, r, g, ⟨k, k1, k2, k3⟩ => by
    obtain ⟨h, h1, h2, h3⟩ := sat_part (l := l) (r := r) k3
    refine ⟨k.join h, fun b o e => ?_, ⟨k, fun b o e => Hl.join_some.2 (.inl e), k2, sat_mono (fun b o e => ?_) h2⟩, sat_mono (fun b o e => ?_) h3⟩
    · rcases Hl.join_some.1 e with e | ⟨_, e⟩
      · exact k1 b o e
      · exact (Hl.minus_some.1 (h1 b o e)).1
    · exact Hl.minus_some.2 ⟨Hl.join_some.2 (.inr ⟨(Hl.minus_some.1 (h1 b o e)).2, e⟩), (Hl.minus_some.1 (h1 b o e)).2⟩
    · obtain ⟨e1, e2⟩ := Hl.minus_some.1 e
      obtain ⟨e1, e3⟩ := Hl.minus_some.1 e1
      exact Hl.minus_some.2 ⟨e1, Hl.join_none.2 ⟨e3, e2⟩⟩

theorem sat_star {l r : List HP} {g : Hl} : Sat (star l :: r) g ↔ Sat (l ++ r) g :=
  ⟨fun ⟨_, h1, h2, h3⟩ => sat_join h1 h2 h3, fun s => let ⟨h, h1, h2, h3⟩ := sat_part s; ⟨h, h1, h2, h3⟩⟩

/-- a new block -/
theorem sat_new {l : List HP} {q : HP} {g g' : Hl} {b : Nat} {o : Obj} (hb : g b = none) (hg : g' = g.upd b o) (hq : q (Hl.one b o)) (s : Sat l g) : Sat (q :: l) g' := by
    subst hg
    refine ⟨Hl.one b o, fun c o' e => ?_, hq, sat_mono (fun c o' e => ?_) s⟩
    · unfold Hl.one at e; unfold Hl.upd; split <;> simp_all
    · refine Hl.minus_some.2 ?_
      have hc : c ≠ b := by intro hc; subst hc; rw [hb] at e; cases e
      exact ⟨by unfold Hl.upd; rw [if_neg hc]; exact e, by unfold Hl.one; rw [if_neg hc]⟩

/-- one of them turns: its part may change, and take new blocks in; all else stays -/
theorem sat_turn {p q : HP} {r : List HP} {g g' : Hl} (s : Sat (p :: r) g)
    (ht : ∀ h, Hl.sub h g → p h → ∃ h', Hl.sub h' g' ∧ q h' ∧ (∀ b o, g b = some o → h b = none → g' b = some o ∧ h' b = none)) : Sat (q :: r) g' := by
  obtain ⟨h, h1, h2, h3⟩ := s
  obtain ⟨h', k1, k2, k3⟩ := ht h h1 h2
  refine ⟨h', k1, k2, sat_mono (fun b o e => ?_) h3⟩
  obtain ⟨e1, e2⟩ := Hl.minus_some.1 e
  obtain ⟨f1, f2⟩ := k3 b o e1 e2
  exact Hl.minus_some.2 ⟨f1, f2⟩

/-- a place of the list is brought to the front -/
def front (k : Nat) (l : List HP) : List HP := (l[k]?).toList ++ l.eraseIdx k
theorem perm_front {l : List HP} {k : Nat} {p : HP} (h : l[k]? = some p) : l.Perm (p :: l.eraseIdx k) := by
  induction l generalizing k with
  | nil => simp at h
  | cons x l ih =>
    cases k with
    | zero => simp at h; subst h; simp
    | succ k => simp at h; simp; exact ((ih h).cons x).trans (.swap _ _ _)
theorem perm_set {l : List HP} {k : Nat} {p q : HP} (h : l[k]? = some p) : (q :: l.eraseIdx k).Perm (l.set k q) := by
  induction l generalizing k with
  | nil => simp at h
  | cons x l ih =>
    cases k with
    | zero => simp
    | succ k => simp at h; simp; exact (List.Perm.swap _ _ _).trans ((ih h).cons x)

theorem sat_at {l : List HP} {k : Nat} {p : HP} {g : Hl} (h : l[k]? = some p) (s : Sat l g) : ∃ hl, Hl.sub hl g ∧ p hl ∧ Sat (l.eraseIdx k) (g.minus hl) :=
  sat_perm (perm_front h) s
theorem sat_set {l : List HP} {k : Nat} {p q : HP} {g g' : Hl} (h : l[k]? = some p) (s : Sat l g)
    (ht : ∀ h, Hl.sub h g → p h → ∃ h', Hl.sub h' g' ∧ q h' ∧ (∀ b o, g b = some o → h b = none → g' b = some o ∧ h' b = none)) : Sat (l.set k q) g' :=
  sat_perm (perm_set h) (sat_turn (sat_perm (perm_front h) s) ht)

/-- the outside is as it was -/
structure Keep (w w' : World) : Prop where
  os : w'.os = w.os
  tape : w'.tape = w.tape
  output : w'.output = w.output
theorem Keep.refl (w : World) : Keep w w := ⟨rfl, rfl, rfl⟩
theorem Keep.trans {a b c : World} (h : Keep a b) (k : Keep b c) : Keep a c := ⟨k.os.trans h.os, k.tape.trans h.tape, k.output.trans h.output⟩

theorem hp_alloc (w : World) (o : Obj) : hp (w.alloc o) = (hp w).upd w.heap.size o := by
  funext b
  unfold hp Hl.upd
  show (w.heap.push o)[b]? = _
  rw [Array.getElem?_push]
theorem hp_size (w : World) : hp w w.heap.size = none := by unfold hp; simp
theorem hp_drew (w : World) : hp w.drew = hp w := rfl

end Go.Fw
