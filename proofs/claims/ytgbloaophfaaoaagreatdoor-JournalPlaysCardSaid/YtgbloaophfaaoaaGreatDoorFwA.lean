/- The small logic over the walk rules, and what stands on it. -/
import Derived.WalkKit
import Derived.OrdersHeld
import Derived.Deep.AppendSrc
import Derived.Deep.DeepAppendWide
import Derived.Laws.BytesString
import Derived.Laws.MakeOwn
import Derived.Lib.ConvBytes
import Derived.LoopN
import Derived.ProofKit
import Derived.OpenShut
import Derived.ShutString
import Derived.ChangeOld
import Derived.Below
import Derived.SizedLaws
import Derived.SliceStrings
/- A logic of small heaps over the walk's own rules: heaplets, what holds of several of them apart, and how a world's heap turns. -/
namespace Go.Fw
set_option linter.all false
open Go Go.RowKit

/-- a small heap: some of the blocks -/
abbrev Hl := Nat → Option Obj
/-- what holds of a small heap -/
abbrev HP := Hl → Prop
def hp (w : World) : Hl := fun b => w.heap[b]?
def Hl.sub (h g : Hl) : Prop := ∀ b o, h b = some o → g b = some o
def Hl.minus (g h : Hl) : Hl := fun b => match h b with | some _ => none | none => g b
def Hl.join (h k : Hl) : Hl := fun b => match h b with | some o => some o | none => k b
def Hl.upd (g : Hl) (b : Nat) (o : Obj) : Hl := fun c => if c = b then some o else g c
def Hl.one (b : Nat) (o : Obj) : Hl := fun c => if c = b then some o else none

theorem Hl.sub_refl (h : Hl) : Hl.sub h h := fun _ _ e => e
theorem Hl.sub_trans {h k g : Hl} (a : Hl.sub h k) (b : Hl.sub k g) : Hl.sub h g := fun c o e => b c o (a c o e)
theorem Hl.minus_some {g h : Hl} {b : Nat} {o : Obj} : (Hl.minus g h) b = some o ↔ g b = some o ∧ h b = none := by
  unfold Hl.minus
  cases hb : h b <;> simp
theorem Hl.minus_sub (g h : Hl) : Hl.sub (g.minus h) g := fun _ _ e => (Hl.minus_some.1 e).1
theorem Hl.minus_mono {g g' : Hl} (h : Hl) (s : Hl.sub g g') : Hl.sub (g.minus h) (g'.minus h) := fun b o e => by
  obtain ⟨e1, e2⟩ := Hl.minus_some.1 e
  exact Hl.minus_some.2 ⟨s b o e1, e2⟩
theorem Hl.minus_comm (g h k : Hl) : (g.minus h).minus k = (g.minus k).minus h := by
  funext b
  unfold Hl.minus
  cases h b <;> cases k b <;> rfl
theorem Hl.join_some {h k : Hl} {b : Nat} {o : Obj} : (Hl.join h k) b = some o ↔ h b = some o ∨ (h b = none ∧ k b = some o) := by
  unfold Hl.join
  cases hb : h b <;> simp
theorem Hl.join_none {h k : Hl} {b : Nat} : (Hl.join h k) b = none ↔ h b = none ∧ k b = none := by
  unfold Hl.join
  cases hb : h b <;> simp

/-- each of these holds of a part of its own -/
def Sat : List HP → Hl → Prop
  | [], _ => True
  | p :: r, g => ∃ h, Hl.sub h g ∧ p h ∧ Sat r (g.minus h)

theorem sat_mono : ∀ {l : List HP} {g g' : Hl}, Hl.sub g g' → Sat l g → Sat l g'
  | [], _, _, _, _ => trivial
  | _ :: _, _, _, s, ⟨h, h1, h2, h3⟩ => ⟨h, Hl.sub_trans h1 s, h2, sat_mono (Hl.minus_mono h s) h3⟩

theorem sat_swap {p q : HP} {r : List HP} {g : Hl} (s : Sat (p :: q :: r) g) : Sat (q :: p :: r) g := by
  obtain ⟨h, h1, h2, k, k1, k2, k3⟩ := s
  refine ⟨k, Hl.sub_trans k1 (Hl.minus_sub _ _), k2, h, fun b o e => ?_, h2, ?_⟩
  · refine Hl.minus_some.2 ⟨h1 b o e, ?_⟩
    cases hk : k b with
    | none => rfl
    | some o' => have := (Hl.minus_some.1 (k1 b o' hk)).2; rw [e] at this; cases this
  · rw [Hl.minus_comm]; exact k3

theorem sat_perm {l l' : List HP} (pm : l.Perm l') : ∀ {g : Hl}, Sat l g → Sat l' g := by
  induction pm with
  | nil => exact fun s => s
  | cons x _ ih => exact fun ⟨h, h1, h2, h3⟩ => ⟨h, h1, h2, ih h3⟩
  | swap x y l => exact fun s => sat_swap s
  | trans _ _ ih1 ih2 => exact fun s => ih2 (ih1 s)

theorem sat_drop {p : HP} {r : List HP} {g : Hl} (s : Sat (p :: r) g) : Sat r g := by
  obtain ⟨h, h1, _, h3⟩ := s
  exact sat_mono (Hl.minus_sub _ _) h3

theorem sat_drops {l r : List HP} {g : Hl} (s : Sat (l ++ r) g) : Sat r g := by
  induction l generalizing g with
  | nil => exact s
  | cons p l ih => exact ih (sat_drop s)
theorem sat_take {l r : List HP} {g : Hl} (s : Sat (l ++ r) g) : Sat l g := by
  induction l generalizing g with
  | nil => exact trivial
  | cons p l ih => obtain ⟨h, h1, h2, h3⟩ := s; exact ⟨h, h1, h2, ih h3⟩

/-- what implies another stands for it -/
theorem sat_imp {p q : HP} {r : List HP} {g : Hl} (hpq : ∀ h, p h → q h) (s : Sat (p :: r) g) : Sat (q :: r) g := by
  obtain ⟨h, h1, h2, h3⟩ := s
  exact ⟨h, h1, hpq h h2, h3⟩

/-- several in one -/
def star (l : List HP) : HP := fun h => Sat l h

theorem sat_join : ∀ {l r : List HP} {h g : Hl}, Hl.sub h g → Sat l h → Sat r (g.minus h) → Sat (l ++ r) g
  | [], _, _, _, _, _, s => sat_mono (Hl.minus_sub _ _) s
  | _ :: l, r, h, g, hg, ⟨k, k1, k2, k3⟩, s => by
    refine ⟨k, Hl.sub_trans k1 hg, k2, sat_join (h := h.minus k) (Hl.minus_mono k hg) k3 (sat_mono ?_ s)⟩
    intro b o e
    obtain ⟨e1, e2⟩ := Hl.minus_some.1 e
    have hkn : k b = none := by
      cases hk : k b with
      | none => rfl
      | some o' => rw [k1 b o' hk] at e2; cases e2
    refine Hl.minus_some.2 ⟨Hl.minus_some.2 ⟨e1, hkn⟩, ?_⟩
    cases hm : (h.minus k) b with
    | none => rfl
    | some o' => rw [(Hl.minus_some.1 hm).1] at e2; cases e2

theorem sat_part : ∀ {l r : List HP} {g : Hl}, Sat (l ++ r) g → ∃ h, Hl.sub h g ∧ Sat l h ∧ Sat r (g.minus h)
  | [], _, g, s => ⟨fun _ => none, (fun _ _ e => by cases e), trivial, sat_mono (g' := g.minus fun _ => none) (fun b o e => Hl.minus_some.2 ⟨e, rfl⟩) s⟩
  | p :: l, r, g, ⟨k, k1, k2, k3⟩ => by
    obtain ⟨h, h1, h2, h3⟩ := sat_part (l := l) (r := r) k3
    refine ⟨k.join h, fun b o e => ?_, ⟨k, fun b o e => Hl.join_some.2 (.inl e), k2, sat_mono (fun b o e => ?_) h2⟩, sat_mono (fun b o e => ?_) h3⟩
    · rcases Hl.join_some.1 e with e | ⟨_, e⟩
      · exact k1 b o e
      · exact (Hl.minus_some.1 (h1 b o e)).1
    · exact Hl.minus_some.2 ⟨Hl.join_some.2 (.inr ⟨(Hl.minus_some.1 (h1 b o e)).2, e⟩), (Hl.minus_some.1 (h1 b o e)).2⟩
    · obtain ⟨e1, e2⟩ := Hl.minus_some.1 e
      obtain ⟨e1, e3⟩ := Hl.minus_some.1 e1
      exact Hl.minus_some.2 ⟨e1, Hl.join_none.2 ⟨e3, e2⟩⟩

theorem sat_star {l r : List HP} {g : Hl} : Sat (star l :: r) g ↔ Sat (l ++ r) g :=
  ⟨fun ⟨_, h1, h2, h3⟩ => sat_join h1 h2 h3, fun s => let ⟨h, h1, h2, h3⟩ := sat_part s; ⟨h, h1, h2, h3⟩⟩

/-- a new block -/
theorem sat_new {l : List HP} {q : HP} {g g' : Hl} {b : Nat} {o : Obj} (hb : g b = none) (hg : g' = g.upd b o) (hq : q (Hl.one b o)) (s : Sat l g) : Sat (q :: l) g' := by
    subst hg
    refine ⟨Hl.one b o, fun c o' e => ?_, hq, sat_mono (fun c o' e => ?_) s⟩
    · unfold Hl.one at e; unfold Hl.upd; split <;> simp_all
    · refine Hl.minus_some.2 ?_
      have hc : c ≠ b := by intro hc; subst hc; rw [hb] at e; cases e
      exact ⟨by unfold Hl.upd; rw [if_neg hc]; exact e, by unfold Hl.one; rw [if_neg hc]⟩

/-- one of them turns: its part may change, and take new blocks in; all else stays -/
theorem sat_turn {p q : HP} {r : List HP} {g g' : Hl} (s : Sat (p :: r) g)
    (ht : ∀ h, Hl.sub h g → p h → ∃ h', Hl.sub h' g' ∧ q h' ∧ (∀ b o, g b = some o → h b = none → g' b = some o ∧ h' b = none)) : Sat (q :: r) g' := by
  obtain ⟨h, h1, h2, h3⟩ := s
  obtain ⟨h', k1, k2, k3⟩ := ht h h1 h2
  refine ⟨h', k1, k2, sat_mono (fun b o e => ?_) h3⟩
  obtain ⟨e1, e2⟩ := Hl.minus_some.1 e
  obtain ⟨f1, f2⟩ := k3 b o e1 e2
  exact Hl.minus_some.2 ⟨f1, f2⟩

/-- a place of the list is brought to the front -/
def front (k : Nat) (l : List HP) : List HP := (l[k]?).toList ++ l.eraseIdx k
theorem perm_front {l : List HP} {k : Nat} {p : HP} (h : l[k]? = some p) : l.Perm (p :: l.eraseIdx k) := by
  induction l generalizing k with
  | nil => simp at h
  | cons x l ih =>
    cases k with
    | zero => simp at h; subst h; simp
    | succ k => simp at h; simp; exact ((ih h).cons x).trans (.swap _ _ _)
theorem perm_set {l : List HP} {k : Nat} {p q : HP} (h : l[k]? = some p) : (q :: l.eraseIdx k).Perm (l.set k q) := by
  induction l generalizing k with
  | nil => simp at h
  | cons x l ih =>
    cases k with
    | zero => simp
    | succ k => simp at h; simp; exact (List.Perm.swap _ _ _).trans ((ih h).cons x)

theorem sat_at {l : List HP} {k : Nat} {p : HP} {g : Hl} (h : l[k]? = some p) (s : Sat l g) : ∃ hl, Hl.sub hl g ∧ p hl ∧ Sat (l.eraseIdx k) (g.minus hl) :=
  sat_perm (perm_front h) s
theorem sat_set {l : List HP} {k : Nat} {p q : HP} {g g' : Hl} (h : l[k]? = some p) (s : Sat l g)
    (ht : ∀ h, Hl.sub h g → p h → ∃ h', Hl.sub h' g' ∧ q h' ∧ (∀ b o, g b = some o → h b = none → g' b = some o ∧ h' b = none)) : Sat (l.set k q) g' :=
  sat_perm (perm_set h) (sat_turn (sat_perm (perm_front h) s) ht)

/-- the outside is as it was -/
structure Keep (w w' : World) : Prop where
  os : w'.os = w.os
  tape : w'.tape = w.tape
  output : w'.output = w.output
theorem Keep.refl (w : World) : Keep w w := ⟨rfl, rfl, rfl⟩
theorem Keep.trans {a b c : World} (h : Keep a b) (k : Keep b c) : Keep a c := ⟨k.os.trans h.os, k.tape.trans h.tape, k.output.trans h.output⟩

theorem hp_alloc (w : World) (o : Obj) : hp (w.alloc o) = (hp w).upd w.heap.size o := by
  funext b
  unfold hp Hl.upd
  show (w.heap.push o)[b]? = _
  rw [Array.getElem?_push]
theorem hp_size (w : World) : hp w w.heap.size = none := by unfold hp; simp
theorem hp_drew (w : World) : hp w.drew = hp w := rfl

end Go.Fw

/- The walk's rules, said of frames of which some slots are known, and of a world of which something is known. -/
namespace Go.Fw
set_option linter.all false
open Go Go.RowKit

/-- what is known of a frame -/
abbrev Slots := List (Nat × Value)
def look : Slots → Nat → Option Value
  | [], _ => none
  | (s, v) :: r, t => bif Nat.beq s t then some v else look r t
theorem look_cons (s : Nat) (v : Value) (r : Slots) (t : Nat) : look ((s, v) :: r) t = if s = t then some v else look r t := by
  rw [show look ((s, v) :: r) t = (bif Nat.beq s t then some v else look r t) from rfl]
  by_cases h : s = t
  · subst h; simp
  · have : Nat.beq s t = false := by cases hb : Nat.beq s t with | false => rfl | true => exact absurd (Nat.eq_of_beq_eq_true hb) h
    rw [this, if_neg h]; rfl

structure Fr (n : Nat) (L : Slots) (a : Act) : Prop where
  size : a.tmps.size = n
  defers : a.defers = []
  get : ∀ t v, look L t = some v → a.tmps[t]? = some v

def rho (L : Slots) : Operand → Value
  | .tmp t => (look L t).getD undef
  | .const v => v
  | .global g => .pointer (some ⟨g, 0, none⟩)
  | .func f => .func (.func f) #[] #[]
def known (L : Slots) : Operand → Bool
  | .tmp t => (look L t).isSome
  | _ => true

theorem rho_eval {n : Nat} {L : Slots} {a : Act} (h : Fr n L a) {x : Operand} (hk : known L x = true) : a.eval x = rho L x := by
  cases x with
  | tmp t =>
    simp only [known, Option.isSome_iff_exists] at hk
    obtain ⟨v, hv⟩ := hk
    have := h.get t v hv
    simp [Act.eval, rho, hv, Array.getD_eq_getD_getElem?, this]
  | const v => rfl
  | global g => rfl
  | func f => rfl

def putL (dst : Option Tmp) (v : Value) (L : Slots) : Slots :=
  match dst with
  | some d => (d, v) :: L
  | none => L
def dstOk (n : Nat) : Option Tmp → Bool
  | some d => Nat.blt d n
  | none => true

theorem Fr.put {n : Nat} {L : Slots} {a : Act} (h : Fr n L a) {dst : Option Tmp} (hd : dstOk n dst = true) (v : Value) : Fr n (putL dst v L) (a.put dst v) := by
  cases dst with
  | none => exact h
  | some d =>
    have hd : d < n := by simpa [dstOk, Nat.blt_eq] using hd
    refine ⟨by simp [Act.put, h.size], h.defers, fun t u hu => ?_⟩
    simp only [putL, look_cons] at hu
    simp only [Act.put]
    rw [Array.getElem?_setIfInBounds]
    split at hu
    · rename_i e; subst e; cases hu; rw [if_pos rfl, if_pos (by rw [h.size]; exact hd)]
    · rename_i e; rw [if_neg e]; exact h.get t u hu

def keepL (ks : List Nat) (L : Slots) : Slots := ks.filterMap fun t => (look L t).map fun v => (t, v)
theorem look_keepL {ks : List Nat} {L : Slots} {t : Nat} {v : Value} (h : look (keepL ks L) t = some v) : look L t = some v := by
  induction ks with
  | nil => cases h
  | cons k ks ih =>
    unfold keepL at h
    rw [List.filterMap_cons] at h
    cases hk : look L k with
    | none => rw [hk] at h; exact ih h
    | some u =>
      rw [hk] at h
      simp only [Option.map_some, look_cons] at h
      split at h
      · rename_i e; subst e; rw [hk]; exact h
      · exact ih h
theorem Fr.keep {n : Nat} {L : Slots} {a : Act} (h : Fr n L a) (ks : List Nat) : Fr n (keepL ks L) a :=
  ⟨h.size, h.defers, fun _ _ e => h.get _ _ (look_keepL e)⟩

def wantedL (ops : Array Oper) (L : Slots) (o : Oper) : Option Bool :=
  match o.guard with
  | none => some true
  | some (j, want) =>
    match (ops[j]?).bind (·.dst) with
    | none => some false
    | some d =>
      match look L d with
      | none => none
      | some (.bool b) => some (b == want)
      | some _ => some false

theorem wanted_of {n : Nat} {ops : Array Oper} {L : Slots} {a : Act} (h : Fr n L a) {o : Oper} {b : Bool} (hw : wantedL ops L o = some b) :
    Region.wanted o (yielded ops a.tmps) = b := by
  unfold wantedL at hw
  unfold Region.wanted yielded
  cases hg : o.guard with
  | none => rw [hg] at hw; cases hw; rfl
  | some q =>
    obtain ⟨j, want⟩ := q
    rw [hg] at hw
    simp only at hw ⊢
    cases hj : (ops[j]?).bind (·.dst) with
    | none => rw [hj] at hw; cases hw; simp
    | some d =>
      rw [hj] at hw
      simp only at hw
      cases hl : look L d with
      | none => rw [hl] at hw; cases hw
      | some v =>
        rw [hl] at hw
        have := h.get d v hl
        simp only [Option.bind_some, this]
        cases v <;> simp only [Option.some.injEq] at hw <;> subst hw <;> simp

/-- what needs no memory -/
def pv {α : Type} (P : Program) : Sem α → Option α
  | .pure a => some a
  | .program k => pv P (k P)
  | _ => none
theorem pv_run {α : Type} {P : Program} {s : Sem α} {v : α} (h : pv P s = some v) (w : World) : s.run P w = .ok v w := by
  induction s with
  | pure a => cases h; rfl
  | program k ih => exact ih P h
  | _ => cases h

def notSelect : Op → Bool
  | .select .. => false
  | _ => true
def knows (L : Slots) (o : Oper) : Bool := notSelect o.op && o.op.operands.toList.all (known L)
theorem exec_eq {n : Nat} {L : Slots} {a : Act} (h : Fr n L a) {o : Oper} (hk : knows L o = true) : execOp a.eval o = execOp (rho L) o := by
  simp only [knows, Bool.and_eq_true, List.all_eq_true] at hk
  refine execOp_congr o (fun cs b e => ?_) (fun x hx => rho_eval h (hk.2 x (by simpa using hx)))
  rw [e] at hk; cases hk.1

/-- one operation that needs no memory -/
def stepV (P : Program) (n : Nat) (ops : Array Oper) (i : Nat) (L : Slots) : Option Slots :=
  match ops[i]? with
  | none => none
  | some o =>
    bif dstOk n o.dst then
      match wantedL ops L o with
      | none => none
      | some false => some (putL o.dst undef L)
      | some true =>
        bif knows L o then
          match pv P (execOp (rho L) o) with
          | some (.value v) => some (putL o.dst v L)
          | _ => none
        else none
    else none
def runV (P : Program) (n : Nat) (ops : Array Oper) : (count i : Nat) → Slots → Option Slots
  | 0, _, L => some L
  | c + 1, i, L =>
    match stepV P n ops i L with
    | none => none
    | some L' => runV P n ops c (i + 1) L'

/-- a region from an operation on -/
def OW (P : Program) (ops : Array Oper) (Q : Exit → Act → World → Prop) (i n : Nat) (L : Slots) (S : World → Prop) : Prop :=
  ∀ a w, Fr n L a → S w → wpList P ops Q (ops.toList.drop i) a w
/-- code -/
def CW (P : Program) (c : Code) (Q : Exit → Act → World → Prop) (n : Nat) (L : Slots) (S : World → Prop) : Prop :=
  ∀ a w, Fr n L a → S w → c.wp P Q a w
/-- an end -/
def EW (Q : Exit → Act → World → Prop) (e : Exit) (n : Nat) (L : Slots) (S : World → Prop) : Prop :=
  ∀ a w, Fr n L a → S w → Q e a w

section
variable {P : Program} {ops : Array Oper} {Q : Exit → Act → World → Prop} {i n : Nat} {L : Slots} {S : World → Prop} {o : Oper}

theorem drop_at (ho : ops[i]? = some o) : ops.toList.drop i = o :: ops.toList.drop (i + 1) := by
  have h : ops.toList[i]? = some o := by simpa using ho
  obtain ⟨hi, he⟩ := List.getElem?_eq_some_iff.1 h
  rw [List.drop_eq_getElem_cons hi, he]

/-- what is to be shown next -/
def NW (K : Act → World → Prop) (n : Nat) (L : Slots) (S : World → Prop) : Prop := ∀ a w, Fr n L a → S w → K a w
/-- one operation, and what is to be shown behind it -/
def PW (P : Program) (ops : Array Oper) (Q : Exit → Act → World → Prop) (i n : Nat) (L : Slots) (S : World → Prop) (K : Act → World → Prop) : Prop :=
  ∀ a w, Fr n L a → S w → wpOp P ops Q i K a w
/-- an operation that only reads -/
def RunIs (P : Program) (S : World → Prop) (L : Slots) (o : Oper) (v : Value) : Prop := ∀ w, S w → (execOp (rho L) o).run P w = .ok (.value v) w

variable {K : Act → World → Prop}

theorem ow_pw (ho : (ops[i]?).isSome = true) (h : PW P ops Q i n L S (wpList P ops Q (ops.toList.drop (i + 1)))) : OW P ops Q i n L S := by
  obtain ⟨o, ho⟩ := Option.isSome_iff_exists.1 ho
  intro a w hf hs
  have := h a w hf hs
  rw [drop_at ho]
  unfold wpOp at this
  rw [ho] at this
  exact this

theorem pw_skip (ho : ops[i]? = some o) (hd : dstOk n o.dst = true) (hw : wantedL ops L o = some false) (h : NW K n (putL o.dst undef L) S) : PW P ops Q i n L S K := by
  intro a w hf hs
  unfold wpOp
  rw [ho]
  simp only [wanted_of hf hw]
  exact h _ _ (hf.put hd _) hs

theorem pw_wp (ho : ops[i]? = some o) (hw : wantedL ops L o = some true)
    (h : ∀ a w, Fr n L a → S w → o.wp P a w K Q) : PW P ops Q i n L S K := by
  intro a w hf hs
  unfold wpOp
  rw [ho]
  simp only [wanted_of hf hw, if_true]
  exact .inl (h a w hf hs)

/-- an operation whose run is known -/
theorem pw_run {S' : Value → World → Prop} (ho : ops[i]? = some o) (hd : dstOk n o.dst = true) (hw : wantedL ops L o = some true) (hk : knows L o = true)
    (hr : ∀ w, S w → ∃ v w', (execOp (rho L) o).run P w = .ok (.value v) w' ∧ S' v w')
    (h : ∀ v, NW K n (putL o.dst v L) (S' v)) : PW P ops Q i n L S K := by
  refine pw_wp ho hw fun a w hf hs => ?_
  obtain ⟨v, w', hv, hs'⟩ := hr w hs
  unfold Oper.wp
  rw [exec_eq hf hk, hv]
  exact h v _ _ (hf.put hd v) hs'
theorem pw_run0 {S' : World → Prop} (ho : ops[i]? = some o) (hd : dstOk n o.dst = true) (hw : wantedL ops L o = some true) (hk : knows L o = true)
    (hr : ∀ w, S w → ∃ w', (execOp (rho L) o).run P w = .ok .skip w' ∧ S' w')
    (h : NW K n (putL o.dst undef L) S') : PW P ops Q i n L S K := by
  refine pw_wp ho hw fun a w hf hs => ?_
  obtain ⟨w', hv, hs'⟩ := hr w hs
  unfold Oper.wp
  rw [exec_eq hf hk, hv]
  exact h _ _ (hf.put hd _) hs'
theorem pw_quiet {v : Value} (ho : ops[i]? = some o) (hd : dstOk n o.dst = true) (hw : wantedL ops L o = some true) (hk : knows L o = true)
    (hr : RunIs P S L o v) (h : NW K n (putL o.dst v L) S) : PW P ops Q i n L S K :=
  pw_run (S' := fun u w => u = v ∧ S w) ho hd hw hk (fun w hs => ⟨v, w, hr w hs, rfl, hs⟩) fun u a w hf hs => by obtain ⟨rfl, hs⟩ := hs; exact h a w hf hs

theorem q_val {v : Value} (h : pv P (execOp (rho L) o) = some (.value v)) : RunIs P S L o v := fun w _ => pv_run h w
theorem RunIs.weak {S' : World → Prop} {v : Value} (h : RunIs P S L o v) (hs : ∀ w, S' w → S w) : RunIs P S' L o v := fun w h' => h w (hs w h')

theorem ow_one {L' : Slots} (hv : stepV P n ops i L = some L') (h : OW P ops Q (i + 1) n L' S) : OW P ops Q i n L S := by
  unfold stepV at hv
  cases ho : ops[i]? with
  | none => rw [ho] at hv; cases hv
  | some o =>
    refine ow_pw (by rw [ho]; rfl) ?_
    rw [ho] at hv
    simp only at hv
    cases hd : dstOk n o.dst with
    | false => rw [hd] at hv; cases hv
    | true =>
      rw [hd] at hv
      cases hw : wantedL ops L o with
      | none => rw [hw] at hv; cases hv
      | some b =>
        rw [hw] at hv
        cases b with
        | false => cases hv; exact pw_skip ho hd hw h
        | true =>
          cases hk : knows L o with
          | false => rw [hk] at hv; cases hv
          | true =>
            rw [hk] at hv
            simp only [cond_true] at hv
            cases hp : pv P (execOp (rho L) o) with
            | none => rw [hp] at hv; cases hv
            | some x =>
              rw [hp] at hv
              cases x <;> simp only [Option.some.injEq] at hv <;> first | (cases hv; done) | skip
              case value v => subst hv; exact pw_quiet ho hd hw hk (q_val hp) h

theorem ow_keep (ks : List Nat) {L' : Slots} (hl : keepL ks L = L') (h : OW P ops Q i n L' S) : OW P ops Q i n L S :=
  fun a w hf hs => h a w (hl ▸ hf.keep ks) hs

theorem ow_runV : ∀ (c : Nat) {i : Nat} {L L' : Slots}, runV P n ops c i L = some L' → OW P ops Q (i + c) n L' S → OW P ops Q i n L S
  | 0, _, _, _, h, k => by cases h; exact k
  | c + 1, i, L, L', h, k => by
    unfold runV at h
    cases hs : stepV P n ops i L with
    | none => rw [hs] at h; cases h
    | some L1 =>
      rw [hs] at h
      refine ow_one hs (ow_runV c h ?_)
      rw [show i + 1 + c = i + (c + 1) by omega]
      exact k

/-- some operations that need no memory; 'ks': the slots of which anything is told behind them -/
theorem ow_vals (c : Nat) {j : Nat} (ks : List Nat) (L' : Slots) (hj : i + c = j) (h : (runV P n ops c i L).map (keepL ks) = some L') (k : OW P ops Q j n L' S) : OW P ops Q i n L S := by
  cases hr : runV P n ops c i L with
  | none => rw [hr] at h; cases h
  | some L1 =>
    rw [hr] at h
    simp only [Option.map_some, Option.some.injEq] at h
    subst hj
    exact ow_runV c hr (ow_keep ks h k)

theorem ow_end (hi : ops.size = i) (h : EW Q .normal n L S) : OW P ops Q i n L S := by
  intro a w hf hs
  rw [List.drop_of_length_le (by simp [hi])]
  exact h a w hf hs

theorem ow_state {S' : World → Prop} (hs : ∀ w, S w → S' w) (h : OW P ops Q i n L S') : OW P ops Q i n L S := fun a w hf h' => h a w hf (hs w h')

theorem cw_region {id : Nat} (h : OW P ops Q 0 n L S) : CW P (.region id ops false) Q n L S :=
  fun a w hf hs => wp_region_list (by simpa using h a w hf hs)
theorem cw_seq {x y : Code} (h : CW P x (Exit.then (y.wp P Q) Q) n L S) : CW P (.seq x y) Q n L S := fun a w hf hs => wp_seq (h a w hf hs)
theorem cw_mid {x y : Code} (M : Act → World → Prop) (hx : CW P x (Exit.then M Q) n L S) (hy : ∀ a w, M a w → y.wp P Q a w) : CW P (.seq x y) Q n L S :=
  fun a w hf hs => wp_seq (wp_mono (hx a w hf hs) fun e a w hq => by cases e <;> first | exact hy _ _ hq | exact hq)
theorem cw_block {id : Nat} {c : Code} (h : CW P c (Exit.inBlock id Q) n L S) : CW P (.block id c) Q n L S := fun a w hf hs => wp_block (h a w hf hs)
theorem cw_cond {c : Operand} {x y : Code} {b : Bool} (hk : known L c = true) (hc : rho L c = .bool b) (ht : b = true → CW P x Q n L S) (hf : b = false → CW P y Q n L S) : CW P (.cond c x y) Q n L S :=
  fun a w fr hs => wp_cond_split ((rho_eval fr hk).trans hc) (fun e => ht e a w fr hs) (fun e => hf e a w fr hs)
theorem cw_cond_t {c : Operand} {x y : Code} {b : Bool} (hk : known L c = true) (hc : rho L c = .bool b) (hb : b = true) (h : CW P x Q n L S) : CW P (.cond c x y) Q n L S :=
  cw_cond hk hc (fun _ => h) (fun e => by rw [hb] at e; cases e)
theorem cw_cond_f {c : Operand} {x y : Code} {b : Bool} (hk : known L c = true) (hc : rho L c = .bool b) (hb : b = false) (h : CW P y Q n L S) : CW P (.cond c x y) Q n L S :=
  cw_cond hk hc (fun e => by rw [hb] at e; cases e) (fun _ => h)
theorem cw_skip (h : EW Q .normal n L S) : CW P .skip Q n L S := fun a w hf hs => wp_skip (h a w hf hs)
theorem cw_label {l : Nat} (h : EW Q .normal n L S) : CW P (.label l) Q n L S := fun a w hf hs => wp_label (h a w hf hs)
theorem cw_ret (h : EW Q .ret n L S) : CW P .ret Q n L S := fun a w hf hs => wp_ret (h a w hf hs)
theorem cw_exit {id : Nat} (h : EW Q (.exit id) n L S) : CW P (.exit id) Q n L S := fun a w hf hs => wp_exit (h a w hf hs)
theorem cw_keep {c : Code} (ks : List Nat) {L' : Slots} (hl : keepL ks L = L') (h : CW P c Q n L' S) : CW P c Q n L S := fun a w hf hs => h a w (hl ▸ hf.keep ks) hs
theorem cw_state {c : Code} {S' : World → Prop} (hs : ∀ w, S w → S' w) (h : CW P c Q n L S') : CW P c Q n L S := fun a w hf h' => h a w hf (hs w h')

theorem ew_then {y : Code} (h : CW P y Q n L S) : EW (Exit.then (y.wp P Q) Q) .normal n L S := h
theorem ew_then_ret {K : Act → World → Prop} (h : EW Q .ret n L S) : EW (Exit.then K Q) .ret n L S := h
theorem ew_then_exit {K : Act → World → Prop} {id : Nat} (h : EW Q (.exit id) n L S) : EW (Exit.then K Q) (.exit id) n L S := h
theorem ew_blk {id : Nat} (h : EW Q .normal n L S) : EW (Exit.inBlock id Q) .normal n L S := h
theorem ew_blk_ret {id : Nat} (h : EW Q .ret n L S) : EW (Exit.inBlock id Q) .ret n L S := h
theorem ew_blk_exit {id : Nat} (h : EW Q .normal n L S) : EW (Exit.inBlock id Q) (.exit id) n L S := fun a w hf hs => by
  simp only [Exit.inBlock, if_true]; exact h a w hf hs
theorem ew_blk_other {id id' : Nat} (hne : id' ≠ id) (h : EW Q (.exit id') n L S) : EW (Exit.inBlock id Q) (.exit id') n L S := fun a w hf hs => by
  simp only [Exit.inBlock, if_neg hne]; exact h a w hf hs

/-- a loop: 'I k': so many rounds are left at most -/
theorem wp_rounds {c : Code} (I : Nat → Act → World → Prop)
    (round : ∀ k a w, I k a w → c.wp P (Exit.then (fun a w => ∃ k', k' < k ∧ I k' a w) Q) a w) : ∀ k a w, I k a w → (Code.loop c).wp P Q a w := by
  intro k0 a0 w0 h0
  have dec : ∀ a w, Decidable (∃ k, I k a w) := fun _ _ => Classical.propDecidable _
  have key : ∀ a w (h : ∃ k, I k a w), ∃ m, I m a w ∧ ∀ k, I k a w → m ≤ k := by
    intro a w ⟨k, hk⟩
    induction k using Nat.strongRecOn with
    | _ k ih =>
      by_cases hl : ∃ k', k' < k ∧ I k' a w
      · obtain ⟨k', h1, h2⟩ := hl; exact ih k' h1 h2
      · refine ⟨k, hk, fun k' hk' => ?_⟩
        rcases Nat.lt_or_ge k' k with h | h
        · exact absurd ⟨k', h, hk'⟩ hl
        · exact h
  classical
  let μ : Act → World → Nat := fun a w => if h : ∃ k, I k a w then Classical.choose (key a w h) else 0
  have hμ : ∀ a w (h : ∃ k, I k a w), I (μ a w) a w ∧ ∀ k, I k a w → μ a w ≤ k := fun a w h => by
    have := Classical.choose_spec (key a w h)
    simp only [μ, dif_pos h]
    exact this
  refine wp_loop (fun a w => ∃ k, I k a w) μ ⟨k0, h0⟩ fun a w hI => ?_
  have h1 := hμ a w hI
  refine wp_mono (round _ a w h1.1) fun e a' w' hq => ?_
  cases e <;> first | exact hq | skip
  obtain ⟨k', hlt, hk'⟩ := hq
  exact ⟨⟨k', hk'⟩, Nat.lt_of_le_of_lt ((hμ a' w' ⟨k', hk'⟩).2 k' hk') hlt⟩
end
end Go.Fw

/- Calls over small heaps; variables in memory: a block that is known whole. -/
namespace Go.Fw
set_option linter.all false
open Go Go.RowKit

/-- what is known of a world: what its heap holds, and that the outside is as it was -/
def SAT (w0 : World) (H : List HP) : World → Prop := fun w => Sat H (hp w) ∧ Keep w0 w

/-- a block that is known whole -/
def pt (b : Nat) (cs : Array Value) (T : TypeId) : HP := fun h => h b = some (.cells cs T (0, 0))
/-- what is never written -/
def imm (I : Hl) : HP := fun h => Hl.sub I h

/-- A CALL: called where H holds (and whatever else beside it), it returns, and R tells its result and what holds then. -/
def Tr (P : Program) (f : FuncId) (args : List Value) (H : List HP) (R : Value → List HP → Prop) : Prop :=
  ∀ F w, Sat (H ++ F) (hp w) → Calls P f args.toArray w fun e w' => ∃ r H', e = .returned r ∧ R r H' ∧ Sat (H' ++ F) (hp w') ∧ Keep w w'

def rows : Nat → List Value → Slots
  | _, [] => []
  | k, v :: vs => (k, v) :: rows (k + 1) vs
theorem look_rows : ∀ (vs : List Value) (k t : Nat) (v : Value), look (rows k vs) t = some v → k ≤ t ∧ vs[t - k]? = some v
  | [], _, _, _, h => by cases h
  | u :: vs, k, t, v, h => by
    simp only [rows, look_cons] at h
    split at h
    · rename_i e; subst e; simpa using h
    · rename_i e
      obtain ⟨h1, h2⟩ := look_rows vs (k + 1) t v h
      refine ⟨by omega, ?_⟩
      rw [show t - k = (t - (k + 1)) + 1 by omega]
      simpa using h2

def FinQ (P : Program) (fn : Func) (R : Value → List HP → Prop) (F : List HP) (w0 : World) : Exit → Act → World → Prop :=
  bodyPost P fn fun e w' => ∃ r H', e = .returned r ∧ R r H' ∧ Sat (H' ++ F) (hp w') ∧ Keep w0 w'

theorem tr_of_cw {P : Program} {f : FuncId} {fn : Func} {c : Code} {args : List Value} {H : List HP} {R : Value → List HP → Prop}
    (hf : P.funcs[f]? = some fn) (hb : fn.body = some c) (hn : args.length ≤ fn.ntmps) (n : Nat) (hnn : fn.ntmps = n)
    (h : ∀ F w0, CW P c (FinQ P fn R F w0) n (rows 0 args) (SAT w0 (H ++ F))) : Tr P f args H R := by
  subst hnn
  intro F w hs
  refine calls_of_wp hf hb (h F w _ w ⟨by simp; omega, rfl, fun t v ht => ?_⟩ ⟨hs, Keep.refl w⟩)
  obtain ⟨_, h2⟩ := look_rows args 0 t v ht
  have hlt : t < args.length := by have := (List.getElem?_eq_some_iff.1 h2).1; omega
  rw [Array.getElem?_append_left (by simpa using hlt)]
  simpa using h2

/-- a result, in a slot or in memory -/
def resRun (P : Program) (tmps : Array Value) (w : World) : ResultVar → Value → Prop
  | .tmp t, v => tmps[t]? = some v
  | .cell a t, v => ∃ ad, tmps[a]? = some (.pointer (some ad)) ∧ (loadVar t ad).run P w = .ok v w
section
variable {P : Program} {fn : Func} {tmps : Array Value} {w : World} {r1 r2 r3 r4 : ResultVar} {v1 v2 v3 v4 : Value}
theorem results0 (h : fn.results = #[]) : (results fn tmps).run P w = .ok (.tuple #[]) w := by simp [results, h]
theorem results1 (h : fn.results = #[r1]) (h1 : resRun P tmps w r1 v1) : (results fn tmps).run P w = .ok v1 w := by
  cases r1 <;> simp only [resRun] at h1
  · simp [results, h, h1]
  · obtain ⟨ad, h1, h2⟩ := h1; simp [results, h, h1, h2, asAddr]
theorem results2 (h : fn.results = #[r1, r2]) (h1 : resRun P tmps w r1 v1) (h2 : resRun P tmps w r2 v2) : (results fn tmps).run P w = .ok (.tuple #[v1, v2]) w := by
  cases r1 <;> cases r2 <;> simp only [resRun] at h1 h2
  · simp [results, h, h1, h2]
  · obtain ⟨a2, h2, g2⟩ := h2; simp [results, h, h1, h2, g2, asAddr]
  · obtain ⟨a1, h1, g1⟩ := h1; simp [results, h, h1, g1, h2, asAddr]
  · obtain ⟨a1, h1, g1⟩ := h1; obtain ⟨a2, h2, g2⟩ := h2; simp [results, h, h1, g1, h2, g2, asAddr]
theorem results3 (h : fn.results = #[r1, r2, r3]) (h1 : resRun P tmps w r1 v1) (h2 : resRun P tmps w r2 v2) (h3 : resRun P tmps w r3 v3) : (results fn tmps).run P w = .ok (.tuple #[v1, v2, v3]) w := by
  cases r1 <;> cases r2 <;> cases r3 <;> simp only [resRun] at h1 h2 h3 <;>
    (try obtain ⟨a1, h1, g1⟩ := h1) <;> (try obtain ⟨a2, h2, g2⟩ := h2) <;> (try obtain ⟨a3, h3, g3⟩ := h3) <;> simp [results, asAddr, *]
theorem results4 (h : fn.results = #[r1, r2, r3, r4]) (h1 : resRun P tmps w r1 v1) (h2 : resRun P tmps w r2 v2) (h3 : resRun P tmps w r3 v3) (h4 : resRun P tmps w r4 v4) : (results fn tmps).run P w = .ok (.tuple #[v1, v2, v3, v4]) w := by
  cases r1 <;> cases r2 <;> cases r3 <;> cases r4 <;> simp only [resRun] at h1 h2 h3 h4 <;>
    (try obtain ⟨a1, h1, g1⟩ := h1) <;> (try obtain ⟨a2, h2, g2⟩ := h2) <;> (try obtain ⟨a3, h3, g3⟩ := h3) <;> (try obtain ⟨a4, h4, g4⟩ := h4) <;> simp [results, asAddr, *]
end
end Go.Fw

/- Loads, stores, new variables, calls: the operations that touch blocks that are known whole. -/
namespace Go.Fw
set_option linter.all false
open Go Go.RowKit

def ptLoad (P : Program) (t : TypeId) (cs : Array Value) (off : Nat) : Option Value :=
  match P.underlying t with
  | some (.struct _) | some (.array _ _) =>
    match P.info? t with
    | some i => bif Nat.ble (off + i.size) cs.size then some (.agg (cs.extract off (off + i.size))) else none
    | none => none
  | some _ => cs[off]?
  | none => none

section
variable {P : Program}

theorem add_lit (b off j : Nat) : (⟨b, off, none⟩ : Addr).add j = ⟨b, off + j, none⟩ := by unfold Addr.add; split <;> simp_all
theorem cell_of {w : World} {b : Nat} {cs : Array Value} {T : TypeId} {fz : Nat × Nat} (hg : hp w b = some (.cells cs T fz)) (off : Nat) : w.cell? ⟨b, off, none⟩ = cs[off]? := by
  unfold hp at hg
  simp [World.cell?, hg]
theorem frozen_of {w : World} {b : Nat} {cs : Array Value} {T : TypeId} {fz : Nat × Nat} (hg : hp w b = some (.cells cs T fz)) (off : Nat) : w.frozen? ⟨b, off, none⟩ = (decide (fz.1 ≤ off) && decide (off < fz.2)) := by
  unfold hp at hg
  obtain ⟨lo, hi⟩ := fz
  simp [World.frozen?, hg]

theorem run_loadVar_pt {w : World} {b : Nat} {cs : Array Value} {T : TypeId} {fz : Nat × Nat} (hg : hp w b = some (.cells cs T fz)) {t : TypeId} {off : Nat} {v : Value} (h : ptLoad P t cs off = some v) :
    (loadVar t ⟨b, off, none⟩).run P w = .ok v w := by
  unfold ptLoad at h
  cases hu : P.underlying t with
  | none => rw [hu] at h; cases h
  | some d =>
    rw [hu] at h
    have agg : (∃ i, P.info? t = some i ∧ Nat.ble (off + i.size) cs.size = true ∧ v = .agg (cs.extract off (off + i.size))) → (isAgg t).run P w = .ok true w → (loadVar t ⟨b, off, none⟩).run P w = .ok v w := by
      rintro ⟨i, hi, hle, rfl⟩ ha
      have hle : off + i.size ≤ cs.size := Nat.le_of_ble_eq_true hle
      have hl : (cs.extract off (off + i.size)).toList.length = i.size := by simp; omega
      have := run_loadCells_list (P := P) w ⟨b, off, none⟩ (cs.extract off (off + i.size)).toList (fun j u hu => by
        rw [add_lit, cell_of hg]
        have : j < i.size := by have := (List.getElem?_eq_some_iff.1 hu).1; omega
        simp only [Array.getElem?_toList, Array.getElem?_extract] at hu
        split at hu
        · simpa using hu
        · cases hu)
      rw [hl, Array.toArray_toList] at this
      simp [loadVar, Sem.run_bind, ha, sizeOf, typeInfo, hi, this]
    cases d
    case struct fs =>
      simp only at h
      cases hi : P.info? t with
      | none => rw [hi] at h; cases h
      | some i =>
        rw [hi] at h; simp only at h
        cases hb : Nat.ble (off + i.size) cs.size with
        | false => rw [hb] at h; cases h
        | true => rw [hb] at h; cases h; exact agg ⟨i, hi, hb, rfl⟩ (by simp [isAgg, Sem.run_bind, run_underlying hu w])
    case array n e =>
      simp only at h
      cases hi : P.info? t with
      | none => rw [hi] at h; cases h
      | some i =>
        rw [hi] at h; simp only at h
        cases hb : Nat.ble (off + i.size) cs.size with
        | false => rw [hb] at h; cases h
        | true => rw [hb] at h; cases h; exact agg ⟨i, hi, hb, rfl⟩ (by simp [isAgg, Sem.run_bind, run_underlying hu w])
    all_goals
      simp only at h
      have hc := cell_of hg off
      rw [h] at hc
      simp [loadVar, Sem.run_bind, isAgg, run_underlying hu w, hc]

def setAll (cs : Array Value) (off : Nat) : List Value → Array Value
  | [] => cs
  | v :: r => setAll (cs.setIfInBounds off v) (off + 1) r
theorem size_setAll (vs : List Value) : ∀ (cs : Array Value) (off : Nat), (setAll cs off vs).size = cs.size := by
  induction vs with
  | nil => intro cs off; rfl
  | cons v r ih => intro cs off; rw [setAll, ih]; simp

theorem hp_setCell {w : World} {b : Nat} {cs : Array Value} {T : TypeId} {fz : Nat × Nat} (hg : hp w b = some (.cells cs T fz)) (off : Nat) (v : Value) :
    hp (w.setCell ⟨b, off, none⟩ v) = (hp w).upd b (.cells (cs.setIfInBounds off v) T fz) := by
  funext c
  unfold hp at hg
  unfold hp Hl.upd World.setCell
  simp only [Array.getElem?_modify]
  by_cases h : b = c
  · subst h; simp [hg]
  · rw [if_neg h, if_neg (fun e => h e.symm)]

/-- no cell of a block from a place on is frozen -/
def soft (fz : Nat × Nat) (size : Nat) : Prop := ∀ o, o < size → (decide (fz.1 ≤ o) && decide (o < fz.2)) = false
theorem soft_zero (size : Nat) : soft (0, 0) size := fun o _ => by simp

theorem run_storeCells_pt (b : Nat) (T : TypeId) (fz : Nat × Nat) : ∀ (vs : List Value) (off i : Nat) (cs : Array Value) (w : World), hp w b = some (.cells cs T fz) → soft fz cs.size → off + i + vs.length ≤ cs.size →
    vs.all (·.oneCell') = true → ∃ w', (storeCells ⟨b, off, none⟩ vs i).run P w = .ok () w' ∧ hp w' = (hp w).upd b (.cells (setAll cs (off + i) vs) T fz) ∧ Keep w w'
  | [], off, i, cs, w, hg, _, _, _ => ⟨w, rfl, by
      funext c; unfold Hl.upd setAll; split
      · rename_i h; subst h; exact hg
      · rfl, Keep.refl w⟩
  | v :: vs, off, i, cs, w, hg, hs, hl, h1 => by
    simp only [List.all_cons, Bool.and_eq_true] at h1
    simp only [List.length_cons] at hl
    have hc : w.cell? ⟨b, off + i, none⟩ = some cs[off + i] := by rw [cell_of hg, Array.getElem?_eq_getElem (by omega)]
    have hf : w.frozen? ⟨b, off + i, none⟩ = false := by rw [frozen_of hg]; exact hs _ (by omega)
    have hp1 := hp_setCell hg (off + i) v
    have hg1 : hp (w.setCell ⟨b, off + i, none⟩ v) b = some (.cells (cs.setIfInBounds (off + i) v) T fz) := by rw [hp1]; simp [Hl.upd]
    obtain ⟨w', hr, hh, hk⟩ := run_storeCells_pt b T fz vs off (i + 1) _ _ hg1 (by simpa using hs) (by simp; omega) h1.2
    refine ⟨w', ?_, ?_, Keep.trans (b := w.setCell ⟨b, off + i, none⟩ v) ⟨rfl, rfl, rfl⟩ hk⟩
    · unfold storeCells
      rw [Sem.run_bind, add_lit, run_store P w _ v _ h1.1, hc]
      simp only [hf]
      exact hr
    · rw [hh, hp1]
      funext c
      unfold Hl.upd
      split <;> rfl

def ptStore (P : Program) (t : TypeId) (cs : Array Value) (off : Nat) (v : Value) : Option (Array Value) :=
  match P.info? t with
  | some i => bif Nat.beq v.cells.size i.size && (Nat.ble (off + v.cells.size) cs.size && v.cells.toList.all (·.oneCell')) then some (setAll cs off v.cells.toList) else none
  | none => none

theorem run_storeVar_pt {w : World} {b : Nat} {cs cs' : Array Value} {T : TypeId} {fz : Nat × Nat} (hg : hp w b = some (.cells cs T fz)) (hs : soft fz cs.size) {t : TypeId} {off : Nat} {v : Value} (h : ptStore P t cs off v = some cs') :
    ∃ w', (storeVar t ⟨b, off, none⟩ v).run P w = .ok () w' ∧ hp w' = (hp w).upd b (.cells cs' T fz) ∧ Keep w w' := by
  unfold ptStore at h
  cases hi : P.info? t with
  | none => rw [hi] at h; cases h
  | some i =>
    rw [hi] at h
    simp only at h
    cases hb : (Nat.beq v.cells.size i.size && (Nat.ble (off + v.cells.size) cs.size && v.cells.toList.all (·.oneCell'))) with
    | false => rw [hb] at h; cases h
    | true =>
      rw [hb] at h
      cases h
      simp only [Bool.and_eq_true] at hb
      obtain ⟨h1, h2, h3⟩ := hb
      have h1 : v.cells.size = i.size := Nat.eq_of_beq_eq_true h1
      have h2 := Nat.le_of_ble_eq_true h2
      obtain ⟨w', hr, hh, hk⟩ := run_storeCells_pt (P := P) b T fz v.cells.toList off 0 cs w hg hs (by simpa using h2) h3
      exact ⟨w', by simp [storeVar, sizeOf, typeInfo, hi, h1, hr], hh, hk⟩

theorem sat_upd_pt {H : List HP} {k b : Nat} {cs cs' : Array Value} {T : TypeId} {w w' : World} (hk : H[k]? = some (pt b cs T)) (hs : Sat H (hp w)) (hh : hp w' = (hp w).upd b (.cells cs' T (0, 0))) : Sat (H.set k (pt b cs' T)) (hp w') := by
  refine sat_set hk hs fun h hsub hb => ?_
  refine ⟨h.upd b (.cells cs' T (0, 0)), ?_, by simp [pt, Hl.upd], ?_⟩
  · intro c o e
    rw [hh]
    unfold Hl.upd at e ⊢
    by_cases hc : c = b
    · rw [if_pos hc] at e ⊢; exact e
    · rw [if_neg hc] at e ⊢; exact hsub c o e
  · intro c o e1 e2
    have hc : c ≠ b := by intro hc; subst hc; unfold pt at hb; rw [hb] at e2; cases e2
    rw [hh]; unfold Hl.upd; rw [if_neg hc, if_neg hc]; exact ⟨e1, e2⟩
theorem pt_in {H : List HP} {k b : Nat} {cs : Array Value} {T : TypeId} {w : World} (hk : H[k]? = some (pt b cs T)) (hs : Sat H (hp w)) : hp w b = some (.cells cs T (0, 0)) := by
  obtain ⟨h, h1, h2, _⟩ := sat_at hk hs
  exact h1 b _ h2

variable {ops : Array Oper} {Q : Exit → Act → World → Prop} {i n : Nat} {L : Slots} {o : Oper} {w0 : World} {H : List HP} {K : Act → World → Prop}

theorem q_load (k : Nat) {b : Nat} {cs : Array Value} {T : TypeId} {off : Nat} {v : Value} {t : TypeId} {x : Operand} (hop : o.op = .load t x)
    (hx : rho L x = .pointer (some ⟨b, off, none⟩)) (hk : H[k]? = some (pt b cs T)) (hv : ptLoad P t cs off = some v) : RunIs P (SAT w0 H) L o v := by
  intro w hs
  have hg := pt_in hk hs.1
  simp only [execOp, hop, hx, Instr.loadAt, Instr.sureAddr, Sem.run_bind, Sem.run_pure, Result.andThen_ok, run_loadVar_pt hg hv]

theorem pw_store (k : Nat) {b : Nat} {cs : Array Value} {T : TypeId} {off : Nat} {t : TypeId} {x y : Operand} (cs' : Array Value) (ho : ops[i]? = some o) (hop : o.op = .store t x y) (hd : dstOk n o.dst = true) (hw : wantedL ops L o = some true) (hkn : knows L o = true)
    (hx : rho L x = .pointer (some ⟨b, off, none⟩)) (hk : H[k]? = some (pt b cs T)) (hv : ptStore P t cs off (rho L y) = some cs')
    (h : NW K n (putL o.dst undef L) (SAT w0 (H.set k (pt b cs' T)))) : PW P ops Q i n L (SAT w0 H) K := by
  refine pw_run0 ho hd hw hkn (fun w hs => ?_) h
  have hg := pt_in hk hs.1
  obtain ⟨w', hr, hh, hkp⟩ := run_storeVar_pt (P := P) hg (soft_zero _) hv
  refine ⟨w', ?_, sat_upd_pt hk hs.1 hh, hs.2.trans hkp⟩
  simp only [execOp, hop, hx, Instr.storeAt, Instr.sureAddr, Sem.run_bind, Sem.run_pure, Result.andThen_ok, hr]

theorem sat_alloc {w : World} {ob : Obj} {q : HP} (hs : Sat H (hp w)) (hq : q (Hl.one w.heap.size ob)) : Sat (q :: H) (hp (w.alloc ob)) :=
  sat_new (hp_size w) (hp_alloc w ob) hq hs

/-- a new variable, holding what is given -/
theorem pw_box {e : TypeId} {x : Operand} {cs : Array Value} (ho : ops[i]? = some o) (hop : o.op = .box e x) (hd : dstOk n o.dst = true) (hw : wantedL ops L o = some true) (hkn : knows L o = true) (hcs : (rho L x).cells = cs)
    (h : ∀ b : Nat, NW K n (putL o.dst (.pointer (some ⟨b, 0, none⟩)) L) (SAT w0 (pt b cs e :: H))) : PW P ops Q i n L (SAT w0 H) K := by
  subst hcs
  refine pw_run (S' := fun u w => ∃ b, u = .pointer (some ⟨b, 0, none⟩) ∧ SAT w0 (pt b (rho L x).cells e :: H) w) ho hd hw hkn
    (fun w hs => ⟨_, w.alloc (.cells (rho L x).cells e (0, 0)), ?_, w.heap.size, rfl, sat_alloc hs.1 (by simp [pt, Hl.one]), hs.2.trans ⟨rfl, rfl, rfl⟩⟩) fun u a w hf hs => by obtain ⟨b, rfl, hs⟩ := hs; exact h b a w hf hs
  simp [execOp, hop, Instr.box, newVar, newRow]

/-- a new variable, zero -/
theorem pw_alloc {e : TypeId} {cs : Array Value} (ho : ops[i]? = some o) (hop : o.op = .alloc e) (hd : dstOk n o.dst = true) (hw : wantedL ops L o = some true) (hkn : knows L o = true) (hz : ((P.info? e).bind (·.zero)).map (·.cells) = some cs)
    (h : ∀ b : Nat, NW K n (putL o.dst (.pointer (some ⟨b, 0, none⟩)) L) (SAT w0 (pt b cs e :: H))) : PW P ops Q i n L (SAT w0 H) K := by
  cases hi : P.info? e with
  | none => rw [hi] at hz; cases hz
  | some inf =>
    rw [hi] at hz
    replace hz : inf.zero.map (·.cells) = some cs := hz
    cases hzz : inf.zero with
    | none => rw [hzz] at hz; cases hz
    | some z =>
      rw [hzz] at hz
      cases hz
      refine pw_run (S' := fun u w => ∃ b, u = .pointer (some ⟨b, 0, none⟩) ∧ SAT w0 (pt b z.cells e :: H) w) ho hd hw hkn
        (fun w hs => ⟨_, w.alloc (.cells z.cells e (0, 0)), ?_, w.heap.size, rfl, sat_alloc hs.1 (by simp [pt, Hl.one]), hs.2.trans ⟨rfl, rfl, rfl⟩⟩) fun u a w hf hs => by obtain ⟨b, rfl, hs⟩ := hs; exact h b a w hf hs
      simp [execOp, hop, Instr.alloc, zeroValue, typeInfo, hi, hzz, newVar, newRow]

/-- A CALL by its contract; 'pm': what it wants stands ahead of all else -/
theorem pw_call {f : FuncId} {vs : List Value} {H1 F : List HP} {R : Value → List HP → Prop} {c : Call} (ho : ops[i]? = some o) (hop : o.op = .call c) (hcal : c.callee = .value (.func f)) (hd : dstOk n o.dst = true) (hw : wantedL ops L o = some true) (hkn : knows L o = true)
    (hvs : c.args.toList.map (rho L) = vs) (hbody : ((P.funcs[f]?).map fun fn => fn.name != "runtime.NumGoroutine" && fn.body.isSome) = some true) (pm : H.Perm (H1 ++ F)) (hc : Tr P f vs H1 R)
    (h : ∀ r H', R r H' → NW K n (putL o.dst r L) (SAT w0 (H' ++ F))) : PW P ops Q i n L (SAT w0 H) K := by
  refine pw_wp ho hw fun a w hf hs => ?_
  unfold Oper.wp
  rw [exec_eq hf hkn]
  have hargs : c.args.map (rho L) = vs.toArray := by
    rw [← hvs]
    apply Array.ext'
    rw [Array.toList_map]
  cases hfn : P.funcs[f]? with
  | none => rw [hfn] at hbody; cases hbody
  | some fn =>
    rw [hfn] at hbody
    simp only [Option.map_some, Option.some.injEq, Bool.and_eq_true] at hbody
    obtain ⟨hname, hb⟩ := hbody
    have hname : ¬ fn.name = "runtime.NumGoroutine" := by simpa using hname
    obtain ⟨code, hcode⟩ := Option.isSome_iff_exists.1 hb
    have hrun : (execOp (rho L) o).run P w = .ok (.enter f vs.toArray) w := by
      simp [execOp, hop, resolve, hcal, rho, Deferred.ofValue, invoke, callFunc, program, Sem.run, Sem.run_bind, hfn, hname, hcode, hargs]
    rw [hrun]
    refine (hc F w (sat_perm pm hs.1)).mono fun e w' ⟨r, H', he, hR, hs', hkp⟩ => ?_
    subst he
    exact h r H' hR _ _ (hf.put hd r) ⟨hs', hs.2.trans hkp⟩
end
end Go.Fw

/- A region whose order is open: what only reads is done first; what does more is done where nothing else can be done. What is known of the world need hold only till one operation, the tail, is done. -/
namespace Go.Fw
set_option linter.all false
open Go Go.RowKit
set_option linter.unusedVariables false

/-- which operations are done, as the bits of a number -/
def bits (n m : Nat) : Array Bool := ((List.range n).map fun i => Nat.testBit m i).toArray
theorem bits_zero (n : Nat) : bits n 0 = Array.replicate n false := by
  apply Array.ext'
  simp only [bits, Array.toList_replicate]
  apply List.ext_getElem
  · simp
  · intro i h1 h2; simp
theorem bits_set (n m i : Nat) : (bits n m).setIfInBounds i true = bits n (m ||| 2 ^ i) := by
  apply Array.ext
  · simp [bits]
  · intro j h1 h2
    simp only [bits, List.size_toArray, List.length_map, List.length_range, Array.size_setIfInBounds] at h1 h2
    rw [Array.getElem_setIfInBounds (by simpa [bits] using h1)]
    simp only [bits, List.getElem_toArray, List.getElem_map, List.getElem_range, Nat.testBit_or, Nat.testBit_two_pow]
    split
    · rename_i e; subst e; simp
    · rename_i e; simp [e]

section
variable {P : Program} {ops : Array Oper} {Q : Exit → Act → World → Prop} {i n tl : Nat} {L : Slots} {S : World → Prop} {o : Oper}

/-- no matter what slots hold where a panic leaves -/
def Calm (Q : Exit → Act → World → Prop) : Prop := ∀ c (a : Act) d v w, Q (.panic c) (a.put d v) w → Q (.panic c) a w
theorem calm_fin {fn : Func} {R : Value → List HP → Prop} {F : List HP} {w0 : World} : Calm (FinQ P fn R F w0) := fun c a d v w h => by
  obtain ⟨_, r, H', he, _⟩ := h; cases he

def off (listed : Array Bool) (tl : Nat) : Prop := listed.getD tl false = false
theorem off_set {listed : Array Bool} {j : Nat} (h : j ≠ tl) : off (listed.setIfInBounds j true) tl ↔ off listed tl := by
  unfold off; rw [getD_set_ne false h]

/-- in whatever order; and behind each operation, as long as the tail is not done, T holds -/
def wpAnyT (P : Program) (ops : Array Oper) (Q : Exit → Act → World → Prop) (tl : Nat) (T : World → Prop) : Nat → Array Bool → Act → World → Prop
  | 0, listed, a, w => Region.ready .any ops listed = [] ∧ Q .normal a w
  | f + 1, listed, a, w => (Region.ready .any ops listed = [] → Q .normal a w) ∧
      ∀ j ∈ Region.ready .any ops listed, wpOp P ops Q j (fun a' w' => (off (listed.setIfInBounds j true) tl → T w') ∧ wpAnyT P ops Q tl T f (listed.setIfInBounds j true) a' w') a w
theorem wpAny_of_T {T : World → Prop} : ∀ (f : Nat) (listed : Array Bool) (a : Act) (w : World), wpAnyT P ops Q tl T f listed a w → wpAny P .any ops Q f listed a w
  | 0, _, _, _, h => h
  | f + 1, listed, a, w, h => ⟨h.1, fun j hj => wpOp_mono (fun a' w' k => wpAny_of_T f _ a' w' k.2) (h.2 j hj)⟩

/-- what is done has all ahead of it done -/
def Closed (ops : Array Oper) (listed : Array Bool) : Prop := ∀ j oj, ops[j]? = some oj → listed.getD j false = true → ∀ e ∈ oj.after, Region.binds .any e = true → listed.getD e.on false = true
theorem closed_set {listed : Array Bool} {j : Nat} (hc : Closed ops listed) (hj : j ∈ Region.ready .any ops listed) : Closed ops (listed.setIfInBounds j true) := by
  intro k ok hk hl e he hb
  obtain ⟨_, oj, hoj, hall⟩ := mem_ready.1 hj
  by_cases hkj : j = k
  · subst hkj
    rw [hk] at hoj; cases hoj
    exact getD_set_true (hall e he hb)
  · rw [getD_set_ne false hkj] at hl
    exact getD_set_true (hc k ok hk hl e he hb)

/-- a way along what stands ahead -/
def wayB (ops : Array Oper) : Nat → List Nat → Bool
  | _, [] => true
  | t, b :: r => ((ops[t]?).map fun o => o.after.toList.any fun e => Region.binds .any e && Nat.beq e.on b) == some true && wayB ops b r
def endsAt (i : Nat) : Nat → List Nat → Bool
  | t, [] => Nat.beq t i
  | _, b :: r => endsAt i b r
theorem way_done {listed : Array Bool} (hc : Closed ops listed) : ∀ (r : List Nat) (t : Nat), wayB ops t r = true → endsAt i t r = true → listed.getD t false = true → listed.getD i false = true
  | [], t, _, he, h => by
    have : t = i := Nat.eq_of_beq_eq_true he
    subst this; exact h
  | b :: r, t, hw, he, h => by
    simp only [wayB, Bool.and_eq_true, beq_iff_eq] at hw
    obtain ⟨h1, h2⟩ := hw
    cases ho : ops[t]? with
    | none => rw [ho] at h1; cases h1
    | some o =>
      rw [ho] at h1
      simp only [Option.map_some, Option.some.injEq, List.any_eq_true, Bool.and_eq_true] at h1
      obtain ⟨e, hm, hb, hon⟩ := h1
      have hon : e.on = b := Nat.eq_of_beq_eq_true hon
      exact way_done hc r b h2 he (hon ▸ hc t o ho h e (by simpa using hm) hb)
theorem way_ready {listed : Array Bool} (hc : Closed ops listed) {r : List Nat} {b t : Nat} (hw : wayB ops t (b :: r) = true) (he : endsAt i t (b :: r) = true) (ht : t ∈ Region.ready .any ops listed) : listed.getD i false = true := by
  obtain ⟨_, o, ho, hall⟩ := mem_ready.1 ht
  simp only [wayB, Bool.and_eq_true, beq_iff_eq] at hw
  obtain ⟨h1, h2⟩ := hw
  rw [ho] at h1
  simp only [Option.map_some, Option.some.injEq, List.any_eq_true, Bool.and_eq_true] at h1
  obtain ⟨e, hm, hb, hon⟩ := h1
  have hon : e.on = b := Nat.eq_of_beq_eq_true hon
  exact way_done hc r b h2 he (hon ▸ hall e (by simpa using hm) hb)

theorem ready_un {listed : Array Bool} {j : Nat} (h : j ∈ Region.ready .any ops listed) : listed.getD j false = false := by
  have := (mem_ready.1 h).1
  by_cases hs : j < listed.size
  · simp [hs] at this ⊢; exact this
  · simp [Array.getElem?_eq_none (Nat.le_of_not_lt hs)] at this

theorem wpAnyT_first {T U : World → Prop} {oi : Oper} {v : Value} (hi : ops[i]? = some oi) (hsel : ∀ (j : Nat) (o : Oper) cs b, ops[j]? = some o → o.op ≠ .select cs b)
    (hQ : ∀ c a w, Q (.panic c) (a.put oi.dst v) w → Q (.panic c) a w) (hne : i ≠ tl) (hU : (∀ w, U w) ∨ ((∀ w, T w → U w) ∧ (ops.size ≤ tl ∨ ∃ b r, wayB ops tl (b :: r) = true ∧ endsAt i tl (b :: r) = true))) :
    ∀ (fuel : Nat) (listed : Array Bool) (a : Act) (w : World), Closed ops listed → off listed tl ∨ (∀ w, U w) →
      (∀ j oj, ops[j]? = some oj → j ≠ i → listed.getD j true = false → (∀ e ∈ oj.after, Region.binds .any e = true → e.on ≠ i) → oi.apart ops oj = true) →
      i ∈ Region.ready .any ops listed → YieldsIf P ops U oi v a → U w → (off listed tl → T w) →
      wpAnyT P ops Q tl T fuel (listed.setIfInBounds i true) (a.put oi.dst v) w → wpAnyT P ops Q tl T (fuel + 1) listed a w := by
  intro fuel
  induction fuel with
  | zero =>
    intro listed a w hc hoff hfree hr hy hUw hT H
    refine ⟨fun h => (by rw [h] at hr; cases hr), fun j hj => ?_⟩
    by_cases hji : j = i
    · subst hji
      exact hy.wpOp hi hUw ⟨fun h => hT ((off_set hne).1 h), H⟩
    · have := ready_mono hj hji
      rw [H.1] at this; cases this
  | succ fuel ih =>
    intro listed a w hc hoff hfree hr hy hUw hT H
    refine ⟨fun h => (by rw [h] at hr; cases hr), fun j hj => ?_⟩
    by_cases hji : j = i
    · subst hji
      exact hy.wpOp hi hUw ⟨fun h => hT ((off_set hne).1 h), H⟩
    · have h1 := H.2 j (ready_mono hj hji)
      obtain ⟨hjun, oj, hoj, hall⟩ := mem_ready.1 hj
      have hnot : ∀ e ∈ oj.after, Region.binds .any e = true → e.on ≠ i := fun e he hb heq => by
        have h1 := hall e he hb
        rw [heq, ready_un hr] at h1; cases h1
      have h2 := wpOp_putIf hoj (hfree j oj hoj hji hjun hnot) (fun cs b => hsel i oi cs b hi) (fun cs b => hsel j oj cs b hoj) hQ hy h1
      have hcomm : (listed.setIfInBounds i true).setIfInBounds j true = (listed.setIfInBounds j true).setIfInBounds i true := by
        rw [Array.setIfInBounds_comm _ _ (Ne.symm hji)]
      have hoff' : off (listed.setIfInBounds j true) tl ∨ ∀ w, U w := by
        rcases hoff with hoff | hu
        · rcases hU with hu | ⟨_, hlast | ⟨b, r, hw, he⟩⟩
          · exact .inr hu
          · refine .inl ((off_set fun hjt => ?_).2 hoff)
            have := (Array.getElem?_eq_some_iff.1 hoj).1
            omega
          · refine .inl ((off_set fun hjt => ?_).2 hoff)
            subst hjt
            have := way_ready hc hw he hj
            rw [ready_un hr] at this; cases this
        · exact .inr hu
      refine wpOp_mono (fun a' w' h3 => ?_) h2
      obtain ⟨hy', hT', H'⟩ := h3
      rw [hcomm] at hT' H'
      have hTT : off (listed.setIfInBounds j true) tl → T w' := fun h => hT' ((off_set hne).2 h)
      have hU' : U w' := by
        rcases hU with hu | ⟨hu, _⟩
        · exact hu w'
        · rcases hoff' with h | h
          · exact hu w' (hTT h)
          · exact h w'
      refine ⟨hTT, ih _ a' w' (closed_set hc hj) hoff' (fun k ok hk hki hun hno => hfree k ok hk hki ?_ hno) (ready_mono hr (Ne.symm hji)) hy' hU' hTT H'⟩
      by_cases hjk : j = k
      · subst hjk; exact hjun
      · rwa [getD_set_ne true hjk] at hun

/-- an open region: 'f': so many are left; 'm': those that are done -/
def AW (P : Program) (ops : Array Oper) (Q : Exit → Act → World → Prop) (tl : Nat) (T : World → Prop) (f m n : Nat) (L : Slots) (S : World → Prop) : Prop :=
  ∀ a w, Fr n L a → S w → wpAnyT P ops Q tl T f (bits ops.size m) a w

theorem cw_open {id : Nat} (tl : Nat) (T : World → Prop) (hm : P.follows .mixedOrders = true) {f : Nat} (hf : ops.size = f) (hd : ∀ w, S w → S w.drew) (h : AW P ops Q tl T f 0 n L S) : CW P (.region id ops true) Q n L S := by
  intro a w hfr hs
  subst hf
  have := h a _ hfr (hd w hs)
  rw [bits_zero] at this
  exact wp_region_any hm (wpAny_of_T _ _ _ _ this)

theorem sat_drew {w0 w : World} {H : List HP} (h : SAT w0 H w) : SAT w0 H w.drew := ⟨h.1, h.2.trans ⟨rfl, rfl, rfl⟩⟩

/-- may an operation that only reads be done now? -/
def closedB (ops : Array Oper) (listed : Array Bool) : Bool := (List.range ops.size).all fun j => !listed.getD j false || match ops[j]? with
  | some o => o.after.all fun e => !Region.binds .any e || listed.getD e.on false
  | none => true
theorem closed_of {listed : Array Bool} (h : closedB ops listed = true) : Closed ops listed := by
  intro j oj hj hl e he hb
  simp only [closedB, List.all_eq_true, List.mem_range] at h
  have := h j (Array.getElem?_eq_some_iff.1 hj).1
  rw [hl, hj] at this
  simp only [Bool.not_true, Bool.false_or, Array.all_eq_true_iff_forall_mem] at this
  have := this e he
  rw [hb] at this
  simpa using this
def mayNow (ops : Array Oper) (tl m i : Nat) : Bool :=
  Region.free .any ops (bits ops.size m) i && ((Region.ready .any ops (bits ops.size m)).contains i && (closedB ops (bits ops.size m) && (Region.noSelect ops && !(Nat.beq i tl))))

theorem aw_take {T U : World → Prop} {f m : Nat} {v : Value} (ho : ops[i]? = some o) (hmay : mayNow ops tl m i = true) (hQ : Calm Q) (hT : ∀ w, S w → T w)
    (hU : (∀ w, U w) ∨ ((∀ w, T w → U w) ∧ off (bits ops.size m) tl ∧ (ops.size ≤ tl ∨ ∃ b r, wayB ops tl (b :: r) = true ∧ endsAt i tl (b :: r) = true)))
    (hy : ∀ a, Fr n L a → YieldsIf P ops U o v a) (h : ∀ a w, Fr n L a → S w → wpAnyT P ops Q tl T f (bits ops.size (m ||| 2 ^ i)) (a.put o.dst v) w) : AW P ops Q tl T (f + 1) m n L S := by
  intro a w hf hs
  simp only [mayNow, Bool.and_eq_true, Bool.not_eq_true'] at hmay
  obtain ⟨h1, h2, h3, h4, h5⟩ := hmay
  have hne : i ≠ tl := fun e => by subst e; rw [Nat.beq_refl] at h5; cases h5
  refine wpAnyT_first (U := U) (v := v) ho (Region.noSelect_spec h4) (fun c a w h => hQ c a _ _ w h) hne (hU.imp id fun x => ⟨x.1, x.2.2⟩) f _ a w (closed_of h3) (hU.elim .inr fun x => .inl x.2.1)
    (fun j oj hj hne hun hno => Region.free_spec ho h1 j oj hj hne hun hno) (by simpa using h2) (hy a hf) (hU.elim (fun x => x w) fun x => x.1 w (hT w hs)) (fun _ => hT w hs) ?_
  rw [bits_set]; exact h a w hf hs

theorem aw_quiet (i : Nat) {T : World → Prop} {f m m' : Nat} {v : Value} (b : Nat) (r : List Nat) (ho : ops[i]? = some o) (hd : dstOk n o.dst = true) (hw : wantedL ops L o = some true) (hk : knows L o = true)
    (hmay : mayNow ops tl m i = true) (hm' : m ||| 2 ^ i = m') (hway : (!(bits ops.size m).getD tl false && (Nat.ble ops.size tl || (wayB ops tl (b :: r) && endsAt i tl (b :: r)))) = true) (hQ : Calm Q) (hT : ∀ w, S w → T w) (hr : RunIs P T L o v) (h : AW P ops Q tl T f m' n (putL o.dst v L) S) : AW P ops Q tl T (f + 1) m n L S := by
  simp only [Bool.and_eq_true, Bool.not_eq_true', Bool.or_eq_true] at hway
  refine aw_take (U := T) (v := v) ho hmay hQ hT (.inr ⟨fun _ h => h, hway.1, hway.2.imp Nat.le_of_ble_eq_true fun h => ⟨b, r, h.1, h.2⟩⟩) (fun a hf => .inl ⟨wanted_of hf hw, fun w' hT' => ?_⟩) fun a w hf hs => ?_
  · rw [exec_eq hf hk]; exact hr w' hT'
  · rw [hm']; exact h _ _ (hf.put hd v) hs
/-- the same, of an operation that needs nothing of the world -/
theorem aw_pure (i : Nat) {T : World → Prop} {f m m' : Nat} {v : Value} (ho : ops[i]? = some o) (hd : dstOk n o.dst = true) (hw : wantedL ops L o = some true) (hk : knows L o = true)
    (hmay : mayNow ops tl m i = true) (hm' : m ||| 2 ^ i = m') (hQ : Calm Q) (hT : ∀ w, S w → T w) (hr : RunIs P (fun _ => True) L o v) (h : AW P ops Q tl T f m' n (putL o.dst v L) S) : AW P ops Q tl T (f + 1) m n L S := by
  refine aw_take (U := fun _ => True) (v := v) ho hmay hQ hT (.inl fun _ => trivial) (fun a hf => .inl ⟨wanted_of hf hw, fun w' _ => ?_⟩) fun a w hf hs => ?_
  · rw [exec_eq hf hk]; exact hr w' trivial
  · rw [hm']; exact h _ _ (hf.put hd v) hs
theorem aw_skip (i : Nat) {T : World → Prop} {f m m' : Nat} (ho : ops[i]? = some o) (hd : dstOk n o.dst = true) (hw : wantedL ops L o = some false)
    (hmay : mayNow ops tl m i = true) (hm' : m ||| 2 ^ i = m') (hQ : Calm Q) (hT : ∀ w, S w → T w) (h : AW P ops Q tl T f m' n (putL o.dst undef L) S) : AW P ops Q tl T (f + 1) m n L S := by
  refine aw_take (U := fun _ => True) (v := undef) ho hmay hQ hT (.inl fun _ => trivial) (fun a hf => .inr ⟨wanted_of hf hw, rfl⟩) fun a w hf hs => ?_
  rw [hm']; exact h _ _ (hf.put hd _) hs

/-- some operations that need no memory, in this order -/
def runA (P : Program) (n : Nat) (ops : Array Oper) (tl : Nat) : List Nat → Nat → Slots → Option (Nat × Slots)
  | [], m, L => some (m, L)
  | i :: r, m, L =>
    bif mayNow ops tl m i then
      match stepV P n ops i L with
      | some L' => runA P n ops tl r (m ||| 2 ^ i) L'
      | none => none
    else none

theorem aw_one {T : World → Prop} {f m : Nat} {L' : Slots} (hmay : mayNow ops tl m i = true) (hQ : Calm Q) (hT : ∀ w, S w → T w)
    (hv : stepV P n ops i L = some L') (h : AW P ops Q tl T f (m ||| 2 ^ i) n L' S) : AW P ops Q tl T (f + 1) m n L S := by
  unfold stepV at hv
  cases ho : ops[i]? with
  | none => rw [ho] at hv; cases hv
  | some o =>
    rw [ho] at hv
    simp only at hv
    cases hd : dstOk n o.dst with
    | false => rw [hd] at hv; cases hv
    | true =>
      rw [hd] at hv
      cases hw : wantedL ops L o with
      | none => rw [hw] at hv; cases hv
      | some b =>
        rw [hw] at hv
        cases b with
        | false => cases hv; exact aw_skip i ho hd hw hmay rfl hQ hT h
        | true =>
          cases hk : knows L o with
          | false => rw [hk] at hv; cases hv
          | true =>
            rw [hk] at hv
            simp only [cond_true] at hv
            cases hp : pv P (execOp (rho L) o) with
            | none => rw [hp] at hv; cases hv
            | some x =>
              rw [hp] at hv
              cases x <;> simp only [Option.some.injEq] at hv <;> first | (cases hv; done) | skip
              case value v => subst hv; exact aw_pure i ho hd hw hk hmay rfl hQ hT (q_val hp) h

theorem aw_runA {T : World → Prop} (hQ : Calm Q) (hT : ∀ w, S w → T w) : ∀ (is : List Nat) {f m m' : Nat} {L L' : Slots}, runA P n ops tl is m L = some (m', L') → AW P ops Q tl T f m' n L' S → AW P ops Q tl T (f + is.length) m n L S
  | [], _, _, _, _, _, h, k => by cases h; exact k
  | i :: is, f, m, m', L, L', h, k => by
    unfold runA at h
    cases hm : mayNow ops tl m i with
    | false => rw [hm] at h; cases h
    | true =>
      rw [hm] at h
      cases hs : stepV P n ops i L with
      | none => rw [hs] at h; cases h
      | some L1 => rw [hs] at h; exact aw_one hm hQ hT hs (aw_runA hQ hT is h k)

theorem aw_keep (ks : List Nat) {T : World → Prop} {f m : Nat} {L' : Slots} (hl : keepL ks L = L') (h : AW P ops Q tl T f m n L' S) : AW P ops Q tl T f m n L S :=
  fun a w hf hs => h a w (hl ▸ hf.keep ks) hs

theorem aw_vals (is : List Nat) {T : World → Prop} {f f' m m' : Nat} (ks : List Nat) (L' : Slots) (hQ : Calm Q) (hT : ∀ w, S w → T w) (hf : f' + is.length = f)
    (h : (runA P n ops tl is m L).map (fun x => (x.1, keepL ks x.2)) = some (m', L')) (k : AW P ops Q tl T f' m' n L' S) : AW P ops Q tl T f m n L S := by
  cases hr : runA P n ops tl is m L with
  | none => rw [hr] at h; cases h
  | some x =>
    obtain ⟨m1, L1⟩ := x
    rw [hr] at h
    simp only [Option.map_some, Option.some.injEq, Prod.mk.injEq] at h
    obtain ⟨rfl, h⟩ := h
    subst hf
    exact aw_runA hQ hT is hr (aw_keep ks h k)

/-- where nothing else can be done -/
theorem aw_only (i : Nat) {T : World → Prop} {f m m' : Nat} (hr : Region.ready .any ops (bits ops.size m) = [i]) (hm' : m ||| 2 ^ i = m')
    (h : PW P ops Q i n L S fun a w => (off (bits ops.size m') tl → T w) ∧ wpAnyT P ops Q tl T f (bits ops.size m') a w) : AW P ops Q tl T (f + 1) m n L S := by
  intro a w hf hs
  have hk : (Region.ready .any ops (bits ops.size m) = [] → Q .normal a w) ∧
      ∀ j ∈ Region.ready .any ops (bits ops.size m), wpOp P ops Q j (fun a' w' => (off ((bits ops.size m).setIfInBounds j true) tl → T w') ∧ wpAnyT P ops Q tl T f ((bits ops.size m).setIfInBounds j true) a' w') a w := by
    refine ⟨(fun h0 => by rw [hr] at h0; cases h0), fun j hj => ?_⟩
    rw [hr] at hj
    simp only [List.mem_singleton] at hj
    subst hj
    rw [bits_set, hm']
    exact h a w hf hs
  exact hk
theorem aw_next {T : World → Prop} {f m : Nat} (hT : ∀ w, S w → T w) (h : AW P ops Q tl T f m n L S) : NW (fun a w => (off (bits ops.size m) tl → T w) ∧ wpAnyT P ops Q tl T f (bits ops.size m) a w) n L S :=
  fun a w hf hs => ⟨fun _ => hT w hs, h a w hf hs⟩
/-- behind the tail -/
theorem aw_last {T : World → Prop} {f m : Nat} (ht : (bits ops.size m).getD tl false = true) (h : AW P ops Q tl T f m n L S) : NW (fun a w => (off (bits ops.size m) tl → T w) ∧ wpAnyT P ops Q tl T f (bits ops.size m) a w) n L S :=
  fun a w hf hs => ⟨fun ho => (by unfold off at ho; rw [ht] at ho; cases ho), h a w hf hs⟩
theorem wpAnyT_past {T : World → Prop} : ∀ (f : Nat) (listed : Array Bool) (a : Act) (w : World), listed.getD tl false = true → wpAnyT P ops Q tl (fun _ => True) f listed a w → wpAnyT P ops Q tl T f listed a w
  | 0, _, _, _, _, h => h
  | f + 1, listed, a, w, ht, h => ⟨h.1, fun j hj => wpOp_mono (fun a' w' k => ⟨fun ho => (by unfold off at ho; rw [getD_set_true ht] at ho; cases ho), wpAnyT_past f _ a' w' (getD_set_true ht) k.2⟩) (h.2 j hj)⟩
theorem aw_past {T : World → Prop} {f m : Nat} (ht : (bits ops.size m).getD tl false = true) (h : AW P ops Q tl (fun _ => True) f m n L S) : AW P ops Q tl T f m n L S :=
  fun a w hf hs => wpAnyT_past f _ a w ht (h a w hf hs)
theorem aw_end {T : World → Prop} {f m : Nat} (hr : Region.ready .any ops (bits ops.size m) = []) (h : EW Q .normal n L S) : AW P ops Q tl T f m n L S := by
  intro a w hf hs
  cases f with
  | zero => exact ⟨hr, h a w hf hs⟩
  | succ f => exact ⟨fun _ => h a w hf hs, fun j hj => by rw [hr] at hj; cases hj⟩
end
end Go.Fw

/- Rows: slices of the call's own, and slices that are never written. -/
namespace Go.Fw
set_option linter.all false
open Go Go.RowKit

/-- how a value lies in cells -/
structure Enc (α : Type) where
  f : α → List Value
  sz : Nat
  len : ∀ x, (f x).length = sz
  one : ∀ x, (f x).all (·.oneCell') = true
  pos : 0 < sz

def eInt (k : IntKind) : Enc Int := ⟨fun n => [.int k n], 1, fun _ => rfl, fun _ => rfl, by decide⟩
def eStr : Enc ByteArray := ⟨fun s => [.string s], 1, fun _ => rfl, fun _ => rfl, by decide⟩
def eBool : Enc Bool := ⟨fun b => [.bool b], 1, fun _ => rfl, fun _ => rfl, by decide⟩

section
variable {α : Type} {e : Enc α}
def Enc.all (e : Enc α) (l : List α) : List Value := l.flatMap e.f
theorem Enc.all_length (e : Enc α) (l : List α) : (e.all l).length = l.length * e.sz := by
  induction l with
  | nil => simp [Enc.all]
  | cons x l ih => simp only [Enc.all, List.flatMap_cons, List.length_append, List.length_cons, e.len] at *; rw [ih, Nat.add_mul]; omega
theorem Enc.all_one (e : Enc α) (l : List α) : (e.all l).all (·.oneCell') = true := by
  simp only [Enc.all, List.all_flatMap, List.all_eq_true]
  intro x _
  exact List.all_eq_true.1 (e.one x)
theorem Enc.all_append (e : Enc α) (l r : List α) : e.all (l ++ r) = e.all l ++ e.all r := by simp [Enc.all]
theorem Enc.all_drop (e : Enc α) : ∀ (l : List α) (i : Nat), e.all (l.drop i) = (e.all l).drop (i * e.sz)
  | [], i => by simp [Enc.all]
  | x :: l, 0 => by simp
  | x :: l, i + 1 => by
    have h := Enc.all_drop e l i
    have hx := e.len x
    have hm : (i + 1) * e.sz = e.sz + i * e.sz := by rw [Nat.add_mul]; omega
    simp only [List.drop_succ_cons, h]
    show _ = (e.f x ++ e.all l).drop ((i + 1) * e.sz)
    rw [hm, ← hx, List.drop_append]
    simp
theorem Enc.all_take (e : Enc α) : ∀ (l : List α) (i : Nat), e.all (l.take i) = (e.all l).take (i * e.sz)
  | [], i => by simp [Enc.all]
  | x :: l, 0 => by simp [Enc.all]
  | x :: l, i + 1 => by
    have h := Enc.all_take e l i
    have hx := e.len x
    have hm : (i + 1) * e.sz = e.sz + i * e.sz := by rw [Nat.add_mul]; omega
    simp only [List.take_succ_cons]
    show e.f x ++ e.all (l.take i) = (e.f x ++ e.all l).take ((i + 1) * e.sz)
    rw [h, hm, ← hx, List.take_append, List.take_of_length_le (l := e.f x) (Nat.le_add_right _ _), Nat.add_sub_cancel_left]
theorem Enc.all_get (e : Enc α) {l : List α} {i : Nat} {x : α} (h : l[i]? = some x) (j : Nat) (hj : j < e.sz) : (e.all l)[i * e.sz + j]? = (e.f x)[j]? := by
  induction l generalizing i with
  | nil => simp at h
  | cons y l ih =>
    have hy := e.len y
    cases i with
    | zero =>
      simp only [List.getElem?_cons_zero, Option.some.injEq] at h
      subst h
      show (e.f y ++ e.all l)[0 * e.sz + j]? = _
      rw [List.getElem?_append_left (by rw [hy]; omega)]
      congr 1; omega
    | succ i =>
      simp only [List.getElem?_cons_succ] at h
      show (e.f y ++ e.all l)[(i + 1) * e.sz + j]? = _
      rw [List.getElem?_append_right (by rw [hy, Nat.add_mul]; omega), hy, ← ih h]
      congr 1
      rw [Nat.add_mul]; omega
end

/-- cells of a row of the call's own -/
def ownC (E sz : Nat) (p : Option Addr) (n c : Nat) (xs : List Value) : HP := fun h =>
  xs.length = n * sz ∧ n ≤ c ∧ c ≤ maxLen ∧ ((p = none ∧ c = 0) ∨
    ∃ g cur fz, p = some ⟨g, 0, none⟩ ∧ h g = some (.cells cur E fz) ∧ soft fz cur.size ∧ cur.size = c * sz ∧ cur.toList.take (n * sz) = xs)
/-- A SLICE OF THE CALL's OWN -/
def own {α : Type} (e : Enc α) (E : Nat) (p : Option Addr) (c : Nat) (l : List α) : HP := ownC E e.sz p l.length c (e.all l)

def cellOf (I : Hl) (a : Addr) : Option Value :=
  match I a.block with
  | some (.cells c _ _) => if a.spot.isSome then none else c[a.off]?
  | _ => none
theorem cellOf_hp (w : World) (a : Addr) : cellOf (hp w) a = w.cell? a := rfl
theorem cellOf_sub {I J : Hl} (h : Hl.sub I J) {a : Addr} {v : Value} (hc : cellOf I a = some v) : cellOf J a = some v := by
  unfold cellOf at *
  cases hi : I a.block with
  | none => rw [hi] at hc; cases hc
  | some ob => rw [hi] at hc; rw [h _ _ hi]; exact hc

/-- cells that are never written -/
def roC (I : Hl) (p : Option Addr) (xs : List Value) : Prop := ∀ j v, xs[j]? = some v → ∃ a, p = some a ∧ cellOf I (a.add j) = some v
/-- A SLICE THAT IS NEVER WRITTEN -/
structure ro {α : Type} (I : Hl) (e : Enc α) (p : Option Addr) (c : Nat) (l : List α) : Prop where
  le : l.length ≤ c
  max : c ≤ maxLen
  nil : p = none → c = 0
  cells : roC I p (e.all l)
theorem roC.sub {I J : Hl} (h : Hl.sub I J) {p : Option Addr} {xs : List Value} (hr : roC I p xs) : roC J p xs := fun j v hj => by
  obtain ⟨a, h1, h2⟩ := hr j v hj; exact ⟨a, h1, cellOf_sub h h2⟩
theorem ro.sub {α : Type} {I J : Hl} (h : Hl.sub I J) {e : Enc α} {p : Option Addr} {c : Nat} {l : List α} (hr : ro I e p c l) : ro J e p c l := ⟨hr.le, hr.max, hr.nil, hr.cells.sub h⟩

theorem add_add (a : Addr) (i j : Nat) : (a.add i).add j = a.add (i + j) := by
  unfold Addr.add
  split
  · rename_i h; subst h; simp
  · split
    · rename_i h1 h2; subst h2; simp [h1]
    · rename_i h1 h2; rw [if_neg (by omega)]; simp [Nat.add_assoc]

section
variable {P : Program} {ops : Array Oper} {Q : Exit → Act → World → Prop} {i n : Nat} {L : Slots} {S : World → Prop} {o : Oper} {w0 : World} {H : List HP} {K : Act → World → Prop} {α : Type} {e : Enc α} {E : Nat} {p : Option Addr} {c : Nat} {l : List α} {I : Hl}

theorem imm_in {k : Nat} {w : World} (hk : H[k]? = some (imm I)) (hs : Sat H (hp w)) : Hl.sub I (hp w) := by
  obtain ⟨h, h1, h2, _⟩ := sat_at hk hs
  exact Hl.sub_trans h2 h1

/-- the cells of one element -/
def elem (I : Hl) (e : Enc α) (q : Addr) (x : α) : Prop := ∀ j v, (e.f x)[j]? = some v → cellOf I (q.add j) = some v
theorem elem.sub {J : Hl} (h : Hl.sub I J) {q : Addr} {x : α} (hr : elem I e q x) : elem J e q x := fun j v hj => cellOf_sub h (hr j v hj)

theorem ro_at (hr : ro I e p c l) {i : Nat} {x : α} (hx : l[i]? = some x) : ∃ a, p = some a ∧ elem I e (a.add (i * e.sz)) x := by
  have hlen := e.len x
  obtain ⟨a, hp, _⟩ := hr.cells (i * e.sz + 0) _ (by rw [Enc.all_get e hx 0 e.pos]; exact List.getElem?_eq_getElem (by rw [hlen]; exact e.pos))
  refine ⟨a, hp, fun j v hj => ?_⟩
  have hjl : j < e.sz := by have := (List.getElem?_eq_some_iff.1 hj).1; omega
  obtain ⟨a', hp', hc⟩ := hr.cells (i * e.sz + j) v (by rw [Enc.all_get e hx j hjl]; exact hj)
  rw [hp] at hp'
  cases hp'
  rw [add_add]
  exact hc

/-- '&l[i]' of a slice that is never written -/
theorem q_index_ro {t : TypeId} {x ix : Operand} {kd : IntKind} {j : Int} {y : α} (sz : Nat) (hr : ro I e p c l) (hop : o.op = .indexAddr t x ix)
    (ht : (P.underlying t).bind (fun d => match d with | .slice E => (P.info? E).map (·.size) | _ => none) = some sz) (hsz : e.sz = sz) (hx : rho L x = .slice p l.length c) (hix : rho L ix = .int kd j) (h0 : 0 ≤ j) (hy : l[j.toNat]? = some y) :
    ∃ q : Addr, elem I e q y ∧ RunIs P S L o (.pointer (some q)) := by
  obtain ⟨a, rfl, hel⟩ := ro_at hr hy
  have hjl : j.toNat < l.length := (List.getElem?_eq_some_iff.1 hy).1
  refine ⟨_, hel, fun w _ => ?_⟩
  subst hsz
  cases hu : P.underlying t with
  | none => rw [hu] at ht; cases ht
  | some d =>
    rw [hu] at ht
    cases d <;> first | (cases ht; done) | skip
    case slice E =>
      simp only [Option.bind_some] at ht
      cases hi : P.info? E with
      | none => rw [hi] at ht; cases ht
      | some inf =>
        rw [hi] at ht
        simp only [Option.map_some, Option.some.injEq] at ht
        have hb : 0 ≤ j ∧ j < (l.length : Int) := ⟨h0, by omega⟩
        simp [execOp, hop, hx, hix, Instr.indexAt, asIntOf, run_underlying hu, hb.1, hb.2, sizeOf, typeInfo, hi, ht]

/-- a load out of an element that is never written -/
def elLoad (P : Program) (t : TypeId) (cs : List Value) (off : Nat) : Option Value := ptLoad P t cs.toArray off
theorem run_loadVar_el {w : World} {q : Addr} {y : α} (hI : Hl.sub I (hp w)) (he : elem I e q y) {t : TypeId} {off : Nat} {v : Value} (hv : elLoad P t (e.f y) off = some v) : (loadVar t (q.add off)).run P w = .ok v w := by
  have hcell : ∀ j u, (e.f y)[j]? = some u → w.cell? (q.add j) = some u := fun j u hj => cellOf_sub hI (he j u hj)
  unfold elLoad ptLoad at hv
  cases hu : P.underlying t with
  | none => rw [hu] at hv; cases hv
  | some d =>
    rw [hu] at hv
    have agg : (∃ i, P.info? t = some i ∧ Nat.ble (off + i.size) (e.f y).toArray.size = true ∧ v = .agg ((e.f y).toArray.extract off (off + i.size))) → (isAgg t).run P w = .ok true w → (loadVar t (q.add off)).run P w = .ok v w := by
      rintro ⟨i, hi, hle, rfl⟩ ha
      have hle : off + i.size ≤ (e.f y).toArray.size := Nat.le_of_ble_eq_true hle
      have hl : ((e.f y).toArray.extract off (off + i.size)).toList.length = i.size := by simp at hle ⊢; omega
      have := run_loadCells_list (P := P) w (q.add off) ((e.f y).toArray.extract off (off + i.size)).toList (fun j u hu => by
        rw [add_add]
        refine hcell _ _ ?_
        have : j < i.size := by have := (List.getElem?_eq_some_iff.1 hu).1; omega
        simp only [Array.getElem?_toList, Array.getElem?_extract] at hu
        split at hu
        · simpa using hu
        · cases hu)
      rw [hl, Array.toArray_toList] at this
      simp [loadVar, Sem.run_bind, ha, sizeOf, typeInfo, hi, this]
    cases d
    case struct fs =>
      simp only at hv
      cases hi : P.info? t with
      | none => rw [hi] at hv; cases hv
      | some i =>
        rw [hi] at hv; simp only at hv
        cases hb : Nat.ble (off + i.size) (e.f y).toArray.size with
        | false => rw [hb] at hv; cases hv
        | true => rw [hb] at hv; cases hv; exact agg ⟨i, hi, hb, rfl⟩ (by simp [isAgg, Sem.run_bind, run_underlying hu w])
    case array n e' =>
      simp only at hv
      cases hi : P.info? t with
      | none => rw [hi] at hv; cases hv
      | some i =>
        rw [hi] at hv; simp only at hv
        cases hb : Nat.ble (off + i.size) (e.f y).toArray.size with
        | false => rw [hb] at hv; cases hv
        | true => rw [hb] at hv; cases hv; exact agg ⟨i, hi, hb, rfl⟩ (by simp [isAgg, Sem.run_bind, run_underlying hu w])
    all_goals
      simp only at hv
      have hc := hcell off v (by simpa using hv)
      simp [loadVar, Sem.run_bind, isAgg, run_underlying hu w, hc]

theorem q_load_el (k : Nat) {q : Addr} {y : α} {t : TypeId} {x : Operand} {off : Nat} {v : Value} (hI : H[k]? = some (imm I)) (he : elem I e q y) (hop : o.op = .load t x) (hx : rho L x = .pointer (some (q.add off))) (hv : elLoad P t (e.f y) off = some v) :
    RunIs P (SAT w0 H) L o v := by
  intro w hs
  have hl := run_loadVar_el (P := P) (imm_in hI hs.1) he hv
  simp only [execOp, hop, hx, Instr.loadAt, Instr.sureAddr, Sem.run_bind, Sem.run_pure, Result.andThen_ok, hl]
theorem q_load_el0 (k : Nat) {q : Addr} {y : α} {t : TypeId} {x : Operand} {v : Value} (hI : H[k]? = some (imm I)) (he : elem I e q y) (hop : o.op = .load t x) (hx : rho L x = .pointer (some q)) (hv : elLoad P t (e.f y) 0 = some v) :
    RunIs P (SAT w0 H) L o v := q_load_el k (off := 0) hI he hop (by rw [hx]; rfl) hv

end
end Go.Fw

/- Rows of the call's own: made, appended to, read, stored into. -/
namespace Go.Fw
set_option linter.all false
open Go Go.RowKit
section
variable {P : Program} {ops : Array Oper} {Q : Exit → Act → World → Prop} {i n : Nat} {L : Slots} {S : World → Prop} {o : Oper} {w0 : World} {H : List HP} {K : Act → World → Prop} {α : Type} {e : Enc α} {E : Nat} {p : Option Addr} {c : Nat} {l : List α} {I : Hl}

theorem own_nil (e : Enc α) (E : Nat) (h : Hl) : own e E none 0 ([] : List α) h := ⟨by simp [Enc.all], by simp, by simp, .inl ⟨rfl, rfl⟩⟩

/-- what a slice's elements are, in a type's table -/
def slOf (P : Program) (t : TypeId) : Option (Nat × Nat) := (P.underlying t).bind fun d => match d with | .slice E => (P.info? E).map fun i => (E, i.size) | _ => none
theorem slOf_spec {t : TypeId} {E sz : Nat} (h : slOf P t = some (E, sz)) : P.underlying t = some (.slice E) ∧ ∃ i, P.info? E = some i ∧ i.size = sz := by
  unfold slOf at h
  cases hu : P.underlying t with
  | none => rw [hu] at h; cases h
  | some d =>
    rw [hu] at h
    cases d <;> first | (cases h; done) | skip
    case slice E' =>
      simp only [Option.bind_some] at h
      cases hi : P.info? E' with
      | none => rw [hi] at h; cases h
      | some inf => rw [hi] at h; simp only [Option.map_some, Option.some.injEq, Prod.mk.injEq] at h; obtain ⟨rfl, rfl⟩ := h; exact ⟨rfl, inf, hi, rfl⟩

theorem own_new {w : World} {cur : Array Value} {fz : Nat × Nat} (c : Nat) (hc : cur.size = c * e.sz) (hm : c ≤ maxLen) (hl : l.length ≤ c) (hs : soft fz cur.size) (ht : cur.toList.take (l.length * e.sz) = e.all l) :
    own e E (some ⟨w.heap.size, 0, none⟩) c l (Hl.one w.heap.size (.cells cur E fz)) :=
  ⟨e.all_length l, hl, hm, .inr ⟨_, cur, fz, rfl, by simp [Hl.one], hs, hc, ht⟩⟩

/-- '[]T{..}', each part told -/
def bsCells (P : Program) (t : TypeId) (len : Nat) (parts : List (Nat × Value)) : Option (Array Value) :=
  match slOf P t with
  | none => none
  | some (E, size) =>
    bif Nat.ble (len * size) (2 ^ 24) then
      match (if len * size = 0 then some #[] else ((P.info? E).bind (·.zero)).map (·.cells)) with
      | none => none
      | some zero => Instr.fill (fun i => some (i * size, size)) ((Array.range (len * size)).map (zero[· % zero.size]!)) parts
    else none
theorem run_buildSlice {t : TypeId} {len : Nat} {parts : Array (Nat × Value)} {E sz : Nat} {cells : Array Value} {w : World} (hsl : slOf P t = some (E, sz)) (h : bsCells P t len parts.toList = some cells) :
    (Instr.buildSlice t len parts).run P w = .ok (.slice (some ⟨w.heap.size, 0, none⟩) len len) (w.alloc (.cells cells E (0, 0))) := by
  obtain ⟨hu, inf, hi, hsz⟩ := slOf_spec hsl
  unfold bsCells at h
  rw [hsl] at h
  simp only at h
  cases hb : Nat.ble (len * sz) (2 ^ 24) with
  | false => rw [hb] at h; cases h
  | true =>
    rw [hb] at h
    have hb : ¬ (16777216 < len * sz) := by have := Nat.le_of_ble_eq_true hb; omega
    simp only [cond_true, hi, Option.bind_some] at h
    by_cases h0 : len * sz = 0
    · rw [if_pos h0] at h
      simp only at h
      simp [Instr.buildSlice, run_underlying hu, sizeOf, typeInfo, hi, hsz, h0] at h ⊢
      rw [h]
      simp [newRow]
    · rw [if_neg h0] at h
      cases hz : inf.zero with
      | none => rw [hz] at h; cases h
      | some z =>
        rw [hz] at h
        simp only [Option.map_some] at h
        simp [Instr.buildSlice, run_underlying hu, sizeOf, typeInfo, zeroValue, hi, hsz, h0, hz, hb] at h ⊢
        rw [h]
        simp [newRow]

theorem pw_buildSlice (e : Enc α) (l : List α) {t : TypeId} {len : Nat} {parts : Array (Nat × Operand)} {cells : Array Value} {sz : Nat} (ho : ops[i]? = some o) (hop : o.op = .buildSlice t len parts) (hd : dstOk n o.dst = true) (hw : wantedL ops L o = some true) (hkn : knows L o = true)
    (hsl : slOf P t = some (E, sz)) (hsz : e.sz = sz) (hc : bsCells P t len (parts.toList.map fun x => (x.1, rho L x.2)) = some cells) (hl : l.length = len) (hle : len ≤ maxLen) (hcl : cells = (e.all l).toArray)
    (h : ∀ p : Option Addr, NW K n (putL o.dst (.slice p l.length len) L) (SAT w0 (own e E p len l :: H))) : PW P ops Q i n L (SAT w0 H) K := by
  subst hsz
  have hcs : cells.size = len * e.sz := by rw [hcl, List.size_toArray, e.all_length, hl]
  refine pw_run (S' := fun u w => ∃ p, u = .slice p l.length len ∧ SAT w0 (own e E p len l :: H) w) ho hd hw hkn (fun w hs => ?_) fun u a w hf hs => by obtain ⟨p, rfl, hs⟩ := hs; exact h p a w hf hs
  refine ⟨.slice (some ⟨w.heap.size, 0, none⟩) len len, w.alloc (.cells cells E (0, 0)), ?_, some ⟨w.heap.size, 0, none⟩, by rw [hl], sat_alloc hs.1 (own_new len hcs hle (by omega) (soft_zero _) ?_), hs.2.trans ⟨rfl, rfl, rfl⟩⟩
  · have := run_buildSlice (P := P) (w := w) (parts := parts.map fun x => (x.1, rho L x.2)) hsl (by rw [Array.toList_map]; exact hc)
    simp only [execOp, hop]
    rw [Sem.run_bind, this]
    rfl
  · rw [hcl, hl, List.take_of_length_le]
    rw [e.all_length, hl]; exact Nat.le_refl _

/-- what an append may append: cells that are there, in every world that is known so -/
def SrcIs (P : Program) (size : Nat) (tx : TypeId) (x : Value) (n : Nat) (news : List Value) (S : World → Prop) : Prop := ∀ w, S w → Src P size tx x n news w

theorem own_cells {h : Hl} {w : World} (hsub : Hl.sub h (hp w)) (ho : own e E p c l h) : ∀ j v, (e.all l)[j]? = some v → ∃ a, p = some a ∧ w.cell? (a.add j) = some v := by
  obtain ⟨hlen, hnc, _, hcase⟩ := ho
  intro j v hj
  rcases hcase with ⟨_, hc0⟩ | ⟨g, cur, fz, rfl, hg, _, _, ht⟩
  · have : (e.all l).length = 0 := by rw [hlen, show l.length = 0 by omega, Nat.zero_mul]
    have := (List.getElem?_eq_some_iff.1 hj).1; omega
  · refine ⟨_, rfl, ?_⟩
    rw [add_lit, cell_of (hsub g _ hg)]
    rw [← ht, List.getElem?_take] at hj
    split at hj
    · simpa using hj
    · cases hj

theorem src_cells {p : Option Addr} {m c : Nat} {xs : List Value} {sz : Nat} {w : World} {tx E' : TypeId} (hk : P.underlying tx = some (.slice E')) (hl : xs.length = m * sz) (h1 : xs.all (·.oneCell') = true) (hp0 : p = none → m = 0)
    (hc : ∀ j v, xs[j]? = some v → ∃ a, p = some a ∧ w.cell? (a.add j) = some v) : Src P sz tx (.slice p m c) m xs w := by
  cases p with
  | none =>
    have := hp0 rfl; subst this
    have : xs = [] := List.eq_nil_of_length_eq_zero (by omega)
    subst this
    exact Src.ofNil w hk c
  | some a =>
    refine Src.ofSlice w hk a m c xs hl (fun j u hj => ?_) (fun u hu => List.all_eq_true.1 h1 u hu)
    obtain ⟨a', ha, hc⟩ := hc j u hj
    cases ha; exact hc

theorem src_own (k : Nat) {tx E' : TypeId} {sz : Nat} (hk : H[k]? = some (own e E p c l)) (htx : P.underlying tx = some (.slice E')) (hsz : e.sz = sz) : SrcIs P sz tx (.slice p l.length c) l.length (e.all l) (SAT w0 H) := by
  subst hsz
  intro w hs
  obtain ⟨h, h1, h2, _⟩ := sat_at hk hs.1
  refine src_cells htx (e.all_length l) (e.all_one l) (fun hp0 => ?_) (own_cells h1 h2)
  obtain ⟨_, hnc, _, hcase⟩ := h2
  rcases hcase with ⟨_, hc0⟩ | ⟨g, cur, fz, hp, _⟩
  · omega
  · rw [hp0] at hp; cases hp
theorem src_ro (k : Nat) {tx E' : TypeId} {sz : Nat} (hk : H[k]? = some (imm I)) (hr : ro I e p c l) (htx : P.underlying tx = some (.slice E')) (hsz : e.sz = sz) : SrcIs P sz tx (.slice p l.length c) l.length (e.all l) (SAT w0 H) := by
  subst hsz
  intro w hs
  refine src_cells htx (e.all_length l) (e.all_one l) (fun hp0 => by have := hr.nil hp0; have := hr.le; omega) (fun j v hj => ?_)
  obtain ⟨a, h1, h2⟩ := hr.cells j v hj
  exact ⟨a, h1, cellOf_sub (imm_in hk hs.1) h2⟩
theorem src_str {tx : TypeId} {s : ByteArray} (htx : P.underlying tx = some .string) : SrcIs P 1 tx (.string s) s.size (byteCells s) S := fun w _ => Src.ofString w htx s

theorem run_append_storeds {t tx ty E : TypeId} {inf : TypeInfo} (ht : P.underlying t = some (.slice E)) (hi : P.info? E = some inf) {w w' : World} {a : Addr} {sLen sCap : Nat} {x : Value} {m : Nat} {news : List Value} (hs : Src P inf.size tx x m news w)
    (hroom : sLen + m ≤ sCap) (hst : (storeCells (a.add (sLen * inf.size)) news).run P w = .ok () w') :
    (Builtin.append_ #[t, tx] ty #[.slice (some a) sLen sCap, x]).run P w = .ok (.slice (some a) (sLen + m) sCap) w' := by
  rcases hs.kind with ⟨e', hk⟩ | hk <;> simp [Builtin.append_, run_underlying ht, run_underlying hk, sizeOf, typeInfo, hi, hs.len, hroom, hs.cells, hst]

theorem getElem?_setAll (vs : List Value) : ∀ (cs : Array Value) (off j : Nat), off + vs.length ≤ cs.size → (setAll cs off vs)[j]? = if off ≤ j ∧ j < off + vs.length then vs[j - off]? else cs[j]? := by
  induction vs with
  | nil => intro cs off j h; rw [if_neg (by simp only [List.length_nil]; omega)]; rfl
  | cons v r ih =>
    intro cs off j h
    simp only [List.length_cons] at h
    rw [setAll, ih _ _ _ (by simp; omega), Array.getElem?_setIfInBounds]
    simp only [List.length_cons]
    by_cases h1 : j = off
    · subst h1
      rw [if_neg (by omega), if_pos rfl, if_pos (by omega), if_pos (by omega)]
      simp
    · by_cases h2 : off + 1 ≤ j ∧ j < off + 1 + r.length
      · rw [if_pos h2, if_pos (by omega), show j - off = (j - (off + 1)) + 1 by omega, List.getElem?_cons_succ]
      · rw [if_neg h2, if_neg (fun e => h1 e.symm), if_neg (by omega)]

theorem take_setAll {cs : Array Value} {off : Nat} {vs : List Value} (h : off + vs.length ≤ cs.size) : (setAll cs off vs).toList.take (off + vs.length) = cs.toList.take off ++ vs := by
  apply List.ext_getElem?
  intro j
  rw [List.getElem?_take]
  by_cases h1 : j < off
  · rw [if_pos (by omega), List.getElem?_append_left (by simp; omega), Array.getElem?_toList, getElem?_setAll _ _ _ _ h, if_neg (by omega), List.getElem?_take, if_pos h1, Array.getElem?_toList]
  · rw [List.getElem?_append_right (by simp; omega)]
    have hl : (cs.toList.take off).length = off := by simp; omega
    rw [hl]
    by_cases h2 : j < off + vs.length
    · rw [if_pos h2, Array.getElem?_toList, getElem?_setAll _ _ _ _ h, if_pos ⟨by omega, h2⟩]
    · rw [if_neg h2, List.getElem?_eq_none (by omega)]

/-- 'append(s, ..)' to a slice of the call's own -/
theorem pw_append (k : Nat) {t tx : TypeId} {s x : Operand} {sz bytes : Nat} {m : Nat} {xv : Value} {l' : List α} (hk : H[k]? = some (own e E p c l)) (ho : ops[i]? = some o) (hop : o.op = .call { callee := .builtin .append, args := #[s, x], argTypes := #[t, tx] }) (hd : dstOk n o.dst = true) (hw : wantedL ops L o = some true) (hkn : knows L o = true)
    (hsl : slOf P t = some (E, sz)) (hinf : ((P.info? E).bind fun i => i.zero.map fun z => (i.bytes, z.cells.size)) = some (bytes, sz)) (hsz : e.sz = sz) (hs : rho L s = .slice p l.length c) (hx : rho L x = xv) (hsrc : SrcIs P sz tx xv m (e.all l') (SAT w0 H)) (hm : l'.length = m)
    (hmax : l.length + m ≤ 4611686018427387904) (hby : 2 * (l.length + m) * bytes ≤ 281474976710656)
    (h : ∀ (p' : Option Addr) (c' : Nat), NW K n (putL o.dst (.slice p' (l ++ l').length c') L) (SAT w0 (H.set k (own e E p' c' (l ++ l'))))) : PW P ops Q i n L (SAT w0 H) K := by
  subst hsz
  subst hm
  obtain ⟨hu, inf, hi, hisz⟩ := slOf_spec hsl
  rw [hi] at hinf
  cases hz : inf.zero with
  | none => rw [Option.bind_some, hz] at hinf; cases hinf
  | some z =>
  rw [Option.bind_some, hz] at hinf
  simp only [Option.map_some, Option.some.injEq, Prod.mk.injEq] at hinf
  obtain ⟨rfl, hzs⟩ := hinf
  refine pw_run (S' := fun u w => ∃ p' c', u = .slice p' (l ++ l').length c' ∧ SAT w0 (H.set k (own e E p' c' (l ++ l'))) w) ho hd hw hkn (fun w hsat => ?_) fun u a w hf hs => by obtain ⟨p', c', rfl, hs⟩ := hs; exact h p' c' a w hf hs
  have hsr := hsrc w hsat
  obtain ⟨hl, hl1, hl2, hl3⟩ := sat_at hk hsat.1
  have hlen : (l ++ l').length = l.length + l'.length := by simp
  have hcl : (e.all l').length = l'.length * e.sz := e.all_length l'
  have hrun : ∀ v w', (Builtin.append_ #[t, tx] o.type #[.slice p l.length c, xv]).run P w = .ok v w' → (execOp (rho L) o).run P w = .ok (.value v) w' := by
    intro v w' hr
    simp [execOp, hop, resolve, invoke, builtin, Sem.run_bind, hs, hx, hr]
  obtain ⟨hxl, hnc, hcm, hcase⟩ := hl2
  by_cases hroom : l.length + l'.length ≤ c
  · rcases hcase with ⟨rfl, rfl⟩ | ⟨g, cur, fz, rfl, hg, hsoft, hcs, htk⟩
    · -- nothing, onto nothing
      have h0 : l = [] := List.eq_nil_of_length_eq_zero (by omega)
      have h0' : l' = [] := List.eq_nil_of_length_eq_zero (by omega)
      subst h0; subst h0'
      refine ⟨.slice none 0 0, w, hrun _ _ ?_, none, 0, rfl, ?_, hsat.2⟩
      · have hsr2 : Src P inf.size tx xv 0 [] w := by rw [hisz]; exact hsr
        rcases hsr2.kind with ⟨e', hkx⟩ | hkx <;> simp [Builtin.append_, run_underlying hu, run_underlying hkx, sizeOf, typeInfo, hi, hsr2.len, hsr2.cells]
      · exact sat_set hk hsat.1 fun hh hsub _ => ⟨hh, hsub, own_nil e E hh, fun b ob h1 h2 => ⟨h1, h2⟩⟩
    · have hgw := hl1 g _ hg
      have hfit : l.length * e.sz + (e.all l').length ≤ cur.size := by rw [hcl, hcs, ← Nat.add_mul]; exact Nat.mul_le_mul_right _ hroom
      obtain ⟨w', hst, hh, hkp⟩ := run_storeCells_pt (P := P) g E fz (e.all l') (l.length * e.sz) 0 cur w hgw hsoft (by simpa using hfit) (e.all_one l')
      refine ⟨.slice (some ⟨g, 0, none⟩) (l.length + l'.length) c, w', hrun _ _ (run_append_storeds hu hi (by rw [hisz]; exact hsr) hroom (by rw [hisz, add_lit, Nat.zero_add]; exact hst)), some ⟨g, 0, none⟩, c, by rw [hlen], ?_, hsat.2.trans hkp⟩
      simp only [Nat.add_zero] at hh
      refine sat_set hk hsat.1 fun hh2 hsub ho2 => ?_
      obtain ⟨_, _, _, hcase2⟩ := ho2
      rcases hcase2 with ⟨hp0, _⟩ | ⟨g2, cur2, fz2, hp2, hg2, _⟩
      · cases hp0
      · cases hp2
        refine ⟨hh2.upd g (.cells (setAll cur (l.length * e.sz) (e.all l')) E fz), fun b ob hb => ?_, ⟨e.all_length _, by rw [hlen]; exact hroom, hcm, .inr ⟨g, setAll cur (l.length * e.sz) (e.all l'), fz, rfl, by simp [Hl.upd], by rw [size_setAll]; exact hsoft, by rw [size_setAll]; exact hcs, ?_⟩⟩, fun b ob h1 h2 => ?_⟩
        · rw [hh]
          unfold Hl.upd at hb ⊢
          by_cases hbg : b = g
          · rw [if_pos hbg] at hb ⊢; exact hb
          · rw [if_neg hbg] at hb ⊢; exact hsub b ob hb
        · rw [hlen, Nat.add_mul, ← hcl, take_setAll hfit, htk, e.all_append]
        · have hbg : b ≠ g := by intro hbg; subst hbg; rw [hg2] at h2; cases h2
          rw [hh]; unfold Hl.upd; rw [if_neg hbg, if_neg hbg]; exact ⟨h1, h2⟩
  · have hgrow : c < l.length + l'.length := by omega
    have hold : (Builtin.firstCells inf.size l.length (.slice p l.length c)).run P w.drew = .ok (e.all l).toArray w.drew := by
      have hc2 := own_cells hl1 ⟨hxl, hnc, hcm, hcase⟩
      cases p with
      | none =>
        have hxs : e.all l = [] := by
          cases hx0 : e.all l with
          | nil => rfl
          | cons v r => obtain ⟨a, ha, _⟩ := hc2 0 v (by rw [hx0]; rfl); cases ha
        rw [hxs]; exact run_firstCells_none _ _ _ _ _
      | some a =>
        refine run_firstCells_some (P := P) w.drew inf.size l.length a l.length c (e.all l) (by rw [hisz]; exact hxl) fun j v hj => ?_
        obtain ⟨a', ha, hc3⟩ := hc2 j v hj
        cases ha; exact hc3
    have hcap := nextslicecap_le hgrow
    have hr := run_append_grow_src (P := P) w t tx o.type E inf z hu hi hz p l.length c (e.all l) hold xv l'.length (e.all l') (by rw [hisz]; exact hsr) hgrow (by omega) (by
      refine Nat.le_trans (Nat.mul_le_mul_right _ hcap) hby)
    have hge := grownCap_ge w (l.length + l'.length) c E
    have hle := grownCap_le_maxLen w (l.length + l'.length) c E (by unfold maxLen; omega)
    refine ⟨_, _, hrun _ _ hr, some ⟨w.heap.size, 0, none⟩, grownCap w (l.length + l'.length) c E, by rw [hlen], ?_, hsat.2.trans ⟨rfl, rfl, rfl⟩⟩
    have hs2 : Sat (H.eraseIdx k) (hp w.drew) := sat_mono (Hl.minus_sub _ _) hl3
    have hnew : own e E (some ⟨w.drew.heap.size, 0, none⟩) (grownCap w (l.length + l'.length) c E) (l ++ l') (Hl.one w.drew.heap.size (.cells ((e.all l ++ e.all l').toArray ++ Builtin.zeroCells z.cells (grownCap w (l.length + l'.length) c E - (l.length + l'.length))) E (0, 0))) := by
      refine own_new _ ?_ hle (by rw [hlen]; exact hge) (soft_zero _) ?_
      · rw [Array.size_append, List.size_toArray, List.length_append, size_zeroCells, e.all_length, e.all_length, hzs, ← Nat.add_mul, ← Nat.add_mul]
        congr 1; omega
      · rw [Array.toList_append, List.take_append_of_le_length (by simp only [List.length_append, e.all_length, hlen, Nat.add_mul]; exact Nat.le_refl _), List.take_of_length_le (by simp only [List.length_append, e.all_length, hlen, Nat.add_mul]; exact Nat.le_refl _), e.all_append]
    have hs3 := sat_new (q := own e E (some ⟨w.drew.heap.size, 0, none⟩) (grownCap w (l.length + l'.length) c E) (l ++ l')) (hp_size w.drew) (hp_alloc w.drew _) hnew hs2
    exact sat_perm (perm_set hk) hs3
end
end Go.Fw

/- Rows and texts, more: elements of the call's own rows, parts of slices and of texts, bytes and texts. -/
namespace Go.Fw
set_option linter.all false
open Go Go.RowKit
section
variable {P : Program} {ops : Array Oper} {Q : Exit → Act → World → Prop} {i n : Nat} {L : Slots} {S : World → Prop} {o : Oper} {w0 : World} {H : List HP} {K : Act → World → Prop} {α : Type} {e : Enc α} {E : Nat} {p : Option Addr} {c : Nat} {l : List α} {I : Hl}

def base (p : Option Addr) : Addr := p.getD ⟨0, 0, none⟩
theorem own_base {h : Hl} (ho : own e E p c l h) (hl : 0 < c) : ∃ g cur fz, p = some ⟨g, 0, none⟩ ∧ base p = ⟨g, 0, none⟩ ∧ h g = some (.cells cur E fz) ∧ soft fz cur.size ∧ cur.size = c * e.sz ∧ cur.toList.take (l.length * e.sz) = e.all l := by
  obtain ⟨_, _, _, hcase⟩ := ho
  rcases hcase with ⟨_, hc0⟩ | ⟨g, cur, fz, rfl, h1, h2, h3, h4⟩
  · omega
  · exact ⟨g, cur, fz, rfl, rfl, h1, h2, h3, h4⟩

theorem q_index_own (k : Nat) {t : TypeId} {x ix : Operand} {kd : IntKind} {j : Int} (sz : Nat) (hk : H[k]? = some (own e E p c l)) (hop : o.op = .indexAddr t x ix)
    (hsl : slOf P t = some (E, sz)) (hx : rho L x = .slice p l.length c) (hix : rho L ix = .int kd j) (h0 : 0 ≤ j) (hj : j < l.length) :
    RunIs P (SAT w0 H) L o (.pointer (some ((base p).add (j.toNat * sz)))) := by
  intro w hs
  obtain ⟨hu, inf, hi, hisz⟩ := slOf_spec hsl
  obtain ⟨h, h1, h2, _⟩ := sat_at hk hs.1
  have hc : 0 < c := by have := h2.2.1; omega
  obtain ⟨g, cur, fz, rfl, hb, _⟩ := own_base h2 hc
  simp [execOp, hop, hx, hix, Instr.indexAt, asIntOf, run_underlying hu, h0, hj, sizeOf, typeInfo, hi, hisz, hb]

theorem q_load_own (k : Nat) {t : TypeId} {x : Operand} {j : Int} {y : α} {off : Nat} {v : Value} (sz : Nat) (hk : H[k]? = some (own e E p c l)) (hsz : e.sz = sz) (hop : o.op = .load t x)
    (hx : rho L x = .pointer (some (((base p).add (j.toNat * sz)).add off))) (hy : l[j.toNat]? = some y) (hv : elLoad P t (e.f y) off = some v) : RunIs P (SAT w0 H) L o v := by
  subst hsz
  intro w hs
  obtain ⟨h, h1, h2, _⟩ := sat_at hk hs.1
  have hjl : j.toNat < l.length := (List.getElem?_eq_some_iff.1 hy).1
  have hel : elem (hp w) e ((base p).add (j.toNat * e.sz)) y := by
    intro r u hr
    have hrl : r < e.sz := by have := (List.getElem?_eq_some_iff.1 hr).1; rw [e.len] at this; exact this
    obtain ⟨a, hp', hc⟩ := own_cells h1 h2 (j.toNat * e.sz + r) u (by rw [Enc.all_get e hy r hrl]; exact hr)
    rw [add_add, hp']
    exact hc
  have hl := run_loadVar_el (P := P) (Hl.sub_refl (hp w)) hel hv
  simp only [execOp, hop, hx, Instr.loadAt, Instr.sureAddr, Sem.run_bind, Sem.run_pure, Result.andThen_ok, hl]
theorem q_load_own0 (k : Nat) {t : TypeId} {x : Operand} {j : Int} {y : α} {v : Value} (sz : Nat) (hk : H[k]? = some (own e E p c l)) (hsz : e.sz = sz) (hop : o.op = .load t x)
    (hx : rho L x = .pointer (some ((base p).add (j.toNat * sz)))) (hy : l[j.toNat]? = some y) (hv : elLoad P t (e.f y) 0 = some v) : RunIs P (SAT w0 H) L o v :=
  q_load_own k sz hk hsz hop (off := 0) (by rw [hx]; rfl) hy hv

theorem run_storeVar_mid {w : World} {b : Nat} {cs : Array Value} {T : TypeId} {fz : Nat × Nat} (hg : hp w b = some (.cells cs T fz)) (hs : soft fz cs.size) {t : TypeId} {off : Nat} {v : Value} {inf : TypeInfo} (hi : P.info? t = some inf) (hv : v.cells.size = inf.size)
    (hfit : off + v.cells.size ≤ cs.size) (h1 : v.cells.toList.all (·.oneCell') = true) :
    ∃ w', (storeVar t ⟨b, off, none⟩ v).run P w = .ok () w' ∧ hp w' = (hp w).upd b (.cells (setAll cs off v.cells.toList) T fz) ∧ Keep w w' :=
  run_storeVar_pt hg hs (by
    unfold ptStore
    rw [hi]
    simp only
    rw [show (Nat.beq v.cells.size inf.size && (Nat.ble (off + v.cells.size) cs.size && v.cells.toList.all (·.oneCell'))) = true by
      simp only [Bool.and_eq_true]; exact ⟨by rw [hv]; exact Nat.beq_refl _, Nat.ble_eq_true_of_le hfit, h1⟩]
    rfl)

/-- 'l[j].f = v', a row of the call's own -/
theorem pw_store_own (k : Nat) {t : TypeId} {x y : Operand} {j : Int} {z z' : α} {off : Nat} (sz : Nat) (hk : H[k]? = some (own e E p c l)) (hsz : e.sz = sz) (ho : ops[i]? = some o) (hop : o.op = .store t x y) (hd : dstOk n o.dst = true) (hw : wantedL ops L o = some true) (hkn : knows L o = true)
    (hx : rho L x = .pointer (some (((base p).add (j.toNat * sz)).add off))) (hz : l[j.toNat]? = some z) (hst : ptStore P t (e.f z).toArray off (rho L y) = some (e.f z').toArray)
    (h : NW K n (putL o.dst undef L) (SAT w0 (H.set k (own e E p c (l.set j.toNat z'))))) : PW P ops Q i n L (SAT w0 H) K := by
  subst hsz
  refine pw_run0 ho hd hw hkn (fun w hsat => ?_) h
  obtain ⟨hh, h1, h2, _⟩ := sat_at hk hsat.1
  have hjl : j.toNat < l.length := (List.getElem?_eq_some_iff.1 hz).1
  have hc : 0 < c := by have := h2.2.1; omega
  obtain ⟨g, cur, fz, rfl, hb, hg, hsoft, hcs, htk⟩ := own_base h2 hc
  have hgw := h1 g _ hg
  have hlc : l.length ≤ c := h2.2.1
  unfold ptStore at hst
  cases hi : P.info? t with
  | none => rw [hi] at hst; cases hst
  | some inf =>
  rw [hi] at hst
  simp only at hst
  cases hbb : (Nat.beq (rho L y).cells.size inf.size && (Nat.ble (off + (rho L y).cells.size) (e.f z).toArray.size && (rho L y).cells.toList.all (·.oneCell'))) with
  | false => rw [hbb] at hst; cases hst
  | true =>
  rw [hbb] at hst
  simp only [cond_true, Option.some.injEq] at hst
  simp only [Bool.and_eq_true] at hbb
  obtain ⟨g1, g2, g3⟩ := hbb
  have g1 := Nat.eq_of_beq_eq_true g1
  have g2 : off + (rho L y).cells.size ≤ e.sz := by have := Nat.le_of_ble_eq_true g2; simpa [e.len] using this
  have hmul : j.toNat * e.sz + e.sz ≤ l.length * e.sz := by rw [← Nat.succ_mul]; exact Nat.mul_le_mul_right _ hjl
  have hmul2 : l.length * e.sz ≤ c * e.sz := Nat.mul_le_mul_right _ hlc
  obtain ⟨w', hr, hhp, hkp⟩ := run_storeVar_mid (P := P) hgw hsoft (t := t) (off := j.toNat * e.sz + off) (v := rho L y) hi g1 (by omega) g3
  refine ⟨w', ?_, ?_, hsat.2.trans hkp⟩
  · simp only [execOp, hop, hx, hb, add_lit, Nat.zero_add, Instr.storeAt, Instr.sureAddr, Sem.run_bind, Sem.run_pure, Result.andThen_ok, hr]
  · refine sat_set hk hsat.1 fun hh2 hsub ho2 => ?_
    obtain ⟨_, _, hcm, hcase2⟩ := ho2
    rcases hcase2 with ⟨hp0, _⟩ | ⟨g5, cur5, fz5, hp5, hg5, _⟩
    · cases hp0
    · cases hp5
      refine ⟨hh2.upd g (.cells (setAll cur (j.toNat * e.sz + off) (rho L y).cells.toList) E fz), fun b ob hbo => ?_, ⟨e.all_length _, by simpa using hlc, hcm, .inr ⟨g, setAll cur (j.toNat * e.sz + off) (rho L y).cells.toList, fz, rfl, by simp [Hl.upd], by rw [size_setAll]; exact hsoft, by rw [size_setAll]; exact hcs, ?_⟩⟩, fun b ob e1 e2 => ?_⟩
      · rw [hhp]
        unfold Hl.upd at hbo ⊢
        by_cases hbg : b = g
        · rw [if_pos hbg] at hbo ⊢; exact hbo
        · rw [if_neg hbg] at hbo ⊢; exact hsub b ob hbo
      · have hfit : j.toNat * e.sz + off + (rho L y).cells.toList.length ≤ cur.size := by rw [Array.length_toList]; omega
        apply List.ext_getElem?
        intro r
        have key : ∀ r, r < l.length * e.sz → (e.all l)[r]? = cur[r]? := fun r hr => by
          rw [← htk, List.getElem?_take, if_pos hr, Array.getElem?_toList]
        rw [List.length_set, List.getElem?_take]
        by_cases hrl : r < l.length * e.sz
        · rw [if_pos hrl, Array.getElem?_toList, getElem?_setAll _ _ _ _ hfit]
          have hq : (r / e.sz) * e.sz + r % e.sz = r := by rw [Nat.mul_comm]; exact Nat.div_add_mod r e.sz
          have hm : r % e.sz < e.sz := Nat.mod_lt _ e.pos
          have hdl : r / e.sz < l.length := Nat.div_lt_of_lt_mul (by rw [Nat.mul_comm]; exact hrl)
          have hset : (e.all (l.set j.toNat z'))[r]? = if r / e.sz = j.toNat then (e.f z')[r % e.sz]? else (e.all l)[r]? := by
            by_cases hrj : r / e.sz = j.toNat
            · rw [if_pos hrj]
              have := Enc.all_get e (l := l.set j.toNat z') (i := j.toNat) (x := z') (by rw [List.getElem?_set_self hjl]) (r % e.sz) hm
              rw [← hrj, hq] at this
              rw [hrj] at this
              exact this
            · rw [if_neg hrj]
              have a1 := Enc.all_get e (l := l.set j.toNat z') (i := r / e.sz) (x := l[r / e.sz]) (by rw [List.getElem?_set_ne (fun h => hrj h.symm)]; exact List.getElem?_eq_getElem hdl) (r % e.sz) hm
              have a2 := Enc.all_get e (l := l) (i := r / e.sz) (x := l[r / e.sz]) (List.getElem?_eq_getElem hdl) (r % e.sz) hm
              rw [hq] at a1 a2
              rw [a1, a2]
          rw [hset]
          have hz' : (e.f z') = (setAll (e.f z).toArray off (rho L y).cells.toList).toList := by rw [hst]
          by_cases hrj : r / e.sz = j.toNat
          · rw [if_pos hrj, hz', Array.getElem?_toList (xs := setAll _ _ _), getElem?_setAll _ (e.f z).toArray _ _ (by rw [List.size_toArray, e.len, Array.length_toList]; exact g2)]
            have hrr : r = j.toNat * e.sz + r % e.sz := by rw [← hrj]; exact hq.symm
            have hold := Enc.all_get e hz (r % e.sz) hm
            rw [← hrr, key r hrl] at hold
            by_cases hin : off ≤ r % e.sz ∧ r % e.sz < off + (rho L y).cells.toList.length
            · rw [if_pos hin, if_pos (by omega)]
              congr 1; omega
            · rw [if_neg hin, if_neg (by omega), hold]
              simp
          · rw [if_neg hrj, if_neg, key r hrl]
            rw [Array.length_toList]
            rintro ⟨b1, b2⟩
            apply hrj
            have : r / e.sz = j.toNat := by
              rw [Nat.div_eq_iff e.pos]
              omega
            exact this
        · rw [if_neg hrl, List.getElem?_eq_none (by rw [e.all_length, List.length_set]; omega)]
      · have hbg : b ≠ g := by intro hbg; subst hbg; rw [hg5] at e2; cases e2
        rw [hhp]; unfold Hl.upd; rw [if_neg hbg, if_neg hbg]; exact ⟨e1, e2⟩
end
end Go.Fw

/- Parts of slices and of texts; bytes and texts; slices that are made; what was the call's own is never written again. -/
namespace Go.Fw
set_option linter.all false
open Go Go.RowKit
section
variable {P : Program} {ops : Array Oper} {Q : Exit → Act → World → Prop} {i n : Nat} {L : Slots} {S : World → Prop} {o : Oper} {w0 : World} {H : List HP} {K : Act → World → Prop} {α : Type} {e : Enc α} {E : Nat} {p : Option Addr} {c : Nat} {l : List α} {I : Hl}

/-- the bounds of 's[lo:hi]', as numbers -/
def bnd (L : Slots) (d : Int) : Option Operand → Option Int
  | none => some d
  | some x => match rho L x with | .int _ j => some j | _ => none

theorem add_zero' (a : Addr) : a.add 0 = a := rfl

theorem run_bounds {w : World} {isSlice : Bool} {len cap : Nat} {lo hi : Option Operand} {a b : Int} (ha : bnd L 0 lo = some a) (hb : bnd L len hi = some b) (h0 : 0 ≤ a) (hab : a ≤ b) (hbc : b ≤ cap) :
    (Instr.sliceBounds isSlice len cap (lo.map (rho L)) (hi.map (rho L)) none).run P w = .ok (a.toNat, b.toNat, cap) w := by
  have h1 : (0 : Int) ≤ b := by omega
  have h2 : a ≤ max b 0 := by omega
  cases lo with
  | none =>
    simp only [bnd, Option.some.injEq] at ha; subst ha
    cases hi with
    | none => simp only [bnd, Option.some.injEq] at hb; subst hb; simp [Instr.sliceBounds]
    | some y =>
      simp only [bnd] at hb
      cases hy : rho L y <;> rw [hy] at hb <;> simp only [Option.some.injEq] at hb <;> first | (cases hb; done) | skip
      subst hb; simp [Instr.sliceBounds, Instr.sliceBound, asIntOf, hy, h1, hbc]
  | some x =>
    simp only [bnd] at ha
    cases hx : rho L x <;> rw [hx] at ha <;> simp only [Option.some.injEq] at ha <;> first | (cases ha; done) | skip
    subst ha
    cases hi with
    | none => simp only [bnd, Option.some.injEq] at hb; subst hb; simp [Instr.sliceBounds, Instr.sliceBound, asIntOf, hx, h0, hab]
    | some y =>
      simp only [bnd] at hb
      cases hy : rho L y <;> rw [hy] at hb <;> simp only [Option.some.injEq] at hb <;> first | (cases hb; done) | skip
      subst hb; simp [Instr.sliceBounds, Instr.sliceBound, asIntOf, hx, hy, h0, h1, h2, hbc]

/-- 's[a:b]' of a text -/
theorem q_slice_str {t : TypeId} {x : Operand} {lo hi : Option Operand} {s : ByteArray} {a b : Int} (hop : o.op = .slice t x lo hi none) (ht : P.underlying t = some .string) (hx : rho L x = .string s)
    (ha : bnd L 0 lo = some a) (hb : bnd L s.size hi = some b) (h0 : 0 ≤ a) (hab : a ≤ b) (hbc : b ≤ s.size) : RunIs P S L o (.string (s.extract a.toNat b.toNat)) := by
  intro w _
  simp [execOp, hop, hx, Instr.sliceAt, Instr.slice, run_underlying ht, run_bounds (P := P) (w := w) (isSlice := false) ha hb h0 hab hbc]

/-- 's[a:b]' of a slice that is never written -/
theorem q_slice_ro {t : TypeId} {x : Operand} {lo hi : Option Operand} {a b : Int} (sz : Nat) (hr : ro I e p c l) (hop : o.op = .slice t x lo hi none) (hsl : slOf P t = some (E, sz)) (hsz : e.sz = sz) (hx : rho L x = .slice p l.length c)
    (ha : bnd L 0 lo = some a) (hb : bnd L l.length hi = some b) (h0 : 0 ≤ a) (hab : a ≤ b) (hbc : b ≤ l.length) :
    ∃ p' c', ro I e p' c' ((l.drop a.toNat).take (b.toNat - a.toNat)) ∧ RunIs P S L o (.slice p' ((l.drop a.toNat).take (b.toNat - a.toNat)).length c') := by
  subst hsz
  obtain ⟨hu, inf, hi', hisz⟩ := slOf_spec hsl
  have hlc := hr.le
  have hlen : ((l.drop a.toNat).take (b.toNat - a.toNat)).length = b.toNat - a.toNat := by simp; omega
  refine ⟨if c = a.toNat then p else p.map (·.add (a.toNat * e.sz)), c - a.toNat, ⟨by rw [hlen]; omega, by have := hr.max; omega, fun hn => ?_, fun j v hj => ?_⟩, fun w _ => ?_⟩
  · split at hn
    · omega
    · cases p with
      | none => have := hr.nil rfl; omega
      | some q => cases hn
  · rw [Enc.all_take, Enc.all_drop] at hj
    rw [List.getElem?_take] at hj
    split at hj <;> first | (cases hj; done) | skip
    rename_i hjl
    rw [List.getElem?_drop] at hj
    obtain ⟨q, hq, hcell⟩ := hr.cells _ _ hj
    subst hq
    have hne : c ≠ a.toNat := by
      intro hc
      have : b.toNat - a.toNat = 0 := by omega
      rw [this] at hjl; omega
    rw [if_neg hne]
    exact ⟨_, rfl, by rw [add_add]; exact hcell⟩
  · rw [hlen]
    simp [execOp, hop, hx, Instr.sliceAt, Instr.slice, run_underlying hu, run_bounds (P := P) (w := w) (isSlice := true) (len := l.length) (cap := c) ha hb h0 hab (by omega), sizeOf, typeInfo, hi', hisz]

/-- 's[:b]' of a slice of the call's own, which stands for it from now on -/
theorem pw_take_own (k : Nat) {t : TypeId} {x : Operand} {hi : Option Operand} {b : Int} (sz : Nat) (hk : H[k]? = some (own e E p c l)) (ho : ops[i]? = some o) (hop : o.op = .slice t x none hi none) (hd : dstOk n o.dst = true) (hw : wantedL ops L o = some true) (hkn : knows L o = true)
    (hsl : slOf P t = some (E, sz)) (hx : rho L x = .slice p l.length c) (hb : bnd L l.length hi = some b) (h0 : 0 ≤ b) (hbc : b ≤ l.length)
    (h : NW K n (putL o.dst (.slice p (l.take b.toNat).length c) L) (SAT w0 (H.set k (own e E p c (l.take b.toNat))))) : PW P ops Q i n L (SAT w0 H) K := by
  obtain ⟨hu, inf, hi', hisz⟩ := slOf_spec hsl
  have hlen : (l.take b.toNat).length = b.toNat := by simp; omega
  refine pw_run (S' := fun u w => u = .slice p (l.take b.toNat).length c ∧ SAT w0 (H.set k (own e E p c (l.take b.toNat))) w) ho hd hw hkn (fun w hs => ⟨_, w, ?_, rfl, ?_, hs.2⟩) fun u a w hf hs => by obtain ⟨rfl, hs⟩ := hs; exact h a w hf hs
  · obtain ⟨hh, h1, h2, _⟩ := sat_at hk hs.1
    have hlc := h2.2.1
    rw [hlen]
    have hbd := run_bounds (P := P) (w := w) (L := L) (isSlice := true) (len := l.length) (cap := c) (lo := none) (a := 0) rfl hb (Int.le_refl 0) h0 (by omega)
    simp only [Option.map_none, Int.toNat_zero] at hbd
    simp [execOp, hop, hx, Instr.sliceAt, Instr.slice, run_underlying hu, hbd, sizeOf, typeInfo, hi', hisz]
    cases c <;> cases p <;> simp [add_zero']
  · refine sat_set hk hs.1 fun hh hsub ho2 => ⟨hh, hsub, ?_, fun b ob e1 e2 => ⟨e1, e2⟩⟩
    obtain ⟨g1, g2, g3, g4⟩ := ho2
    refine ⟨e.all_length _, by rw [hlen]; omega, g3, ?_⟩
    rcases g4 with g4 | ⟨g, cur, fz, g5, g6, g7, g8, g9⟩
    · exact .inl g4
    · refine .inr ⟨g, cur, fz, g5, g6, g7, g8, ?_⟩
      rw [hlen, e.all_take, ← g9, List.take_take]
      congr 1
      exact (Nat.min_eq_left (Nat.mul_le_mul_right _ (by omega))).symm

/-- what was the call's own is never written from here on -/
theorem freeze {G : List HP} {w : World} (hs : SAT w0 (imm I :: own e E p c l :: G) w) :
    ∃ I', Hl.sub I I' ∧ ro I' e p c l ∧ SAT w0 (imm I' :: G) w := by
  obtain ⟨⟨h1, a1, a2, h2, b1, b2, b3⟩, hkp⟩ := hs
  refine ⟨h1.join h2, fun b ob hb => Hl.join_some.2 (.inl (a2 b ob hb)), ?_, ⟨h1.join h2, fun b ob hb => ?_, Hl.sub_refl _, ?_⟩, hkp⟩
  · have hsub : Hl.sub h2 (h1.join h2) := fun b ob hb => Hl.join_some.2 (.inr ⟨(Hl.minus_some.1 (b1 b ob hb)).2, hb⟩)
    obtain ⟨g1, g2, g3, g4⟩ := b2
    refine ⟨g2, g3, fun hp0 => ?_, fun j v hj => ?_⟩
    · rcases g4 with g4 | ⟨g, cur, fz, g5, _⟩
      · exact g4.2
      · rw [hp0] at g5; cases g5
    · rcases g4 with ⟨_, hc0⟩ | ⟨g, cur, fz, rfl, g6, g7, g8, g9⟩
      · have : (e.all l).length = 0 := by rw [g1, show l.length = 0 by omega, Nat.zero_mul]
        have := (List.getElem?_eq_some_iff.1 hj).1; omega
      · refine ⟨_, rfl, ?_⟩
        rw [add_lit]
        unfold cellOf
        simp only [Nat.zero_add, hsub g _ g6]
        rw [← g9, List.getElem?_take] at hj
        split at hj
        · simpa using hj
        · cases hj
  · rcases Hl.join_some.1 hb with hb | ⟨_, hb⟩
    · exact a1 b ob hb
    · exact (Hl.minus_some.1 (b1 b ob hb)).1
  · refine sat_mono (fun b ob hb => ?_) b3
    obtain ⟨c1, c2⟩ := Hl.minus_some.1 hb
    obtain ⟨c1, c3⟩ := Hl.minus_some.1 c1
    exact Hl.minus_some.2 ⟨c1, Hl.join_none.2 ⟨c3, c2⟩⟩

/-- 'a + b' of texts -/
theorem q_concat {t t' : TypeId} {x y : Operand} {a b : ByteArray} (hop : o.op = .binOp .add t x y t') (hx : rho L x = .string a) (hy : rho L y = .string b) (hs : a.size + b.size ≤ 9223372036854775807) : RunIs P S L o (.string (a ++ b)) := by
  intro w _
  have h1 : IntKind.i64.max = 9223372036854775807 := by decide
  have : ¬ (((a.size + b.size : Nat) : Int) > 9223372036854775807) := by omega
  have h2 : ¬ ((9223372036854775807 : Int) < (a.size : Int) + (b.size : Int)) := by omega
  simp [execOp, hop, hx, hy, eqGuard, binOp, Op.stringOp, h1, h2]

/-- a byte of a text, as a number -/
def bt (s : ByteArray) (j : Int) : Int := ((s[j.toNat]?).getD 0).toNat
theorem q_index_str {t : TypeId} {x ix : Operand} {kd : IntKind} {s : ByteArray} {j : Int} (hop : o.op = .index t x ix) (ht : P.underlying t = some .string) (hx : rho L x = .string s) (hix : rho L ix = .int kd j) (h0 : 0 ≤ j) (hj : j < s.size) :
    RunIs P S L o (.int .u8 (bt s j)) := by
  intro w _
  have hlt : j.toNat < s.size := by omega
  simp [execOp, hop, hx, hix, Instr.index, asIntOf, run_underlying ht, h0, hlt, bt]

/-- bytes, as a text -/
def bstr (l : List Int) : ByteArray := l.foldl (fun r n => r.push (UInt8.ofNat n.toNat)) ByteArray.empty
theorem all_u8 (l : List Int) : (eInt .u8).all l = l.map (Value.int .u8) := by
  induction l with
  | nil => rfl
  | cons x l ih => show Value.int .u8 x :: (eInt .u8).all l = _; rw [ih]; rfl
theorem run_bstr {w : World} {p : Option Addr} {c : Nat} {l : List Int} (h : ∀ j v, ((eInt .u8).all l)[j]? = some v → ∃ a, p = some a ∧ w.cell? (a.add j) = some v) : (Conv.bytesToString (.slice p l.length c)).run P w = .ok (.string (bstr l)) w := by
  cases p with
  | none =>
    have : l = [] := by
      cases l with
      | nil => rfl
      | cons x l => obtain ⟨a, ha, _⟩ := h 0 _ rfl; cases ha
    subst this
    simp [Conv.bytesToString, bstr]
  | some a =>
    refine run_bytesToString w a l.length c l ?_
    have := run_loadCells_list (P := P) w a ((eInt .u8).all l) fun j v hj => by
      obtain ⟨a', ha, hc⟩ := h j v hj
      cases ha; exact hc
    rw [all_u8] at this
    simpa using this
theorem q_bytes_str {src dst : TypeId} {x : Operand} {p : Option Addr} {c : Nat} {l : List Int} (hop : o.op = .convert src dst x) (hs : (P.underlying src).bind (fun d => match d with | .slice e => P.underlying e | _ => none) = some (.int .u8)) (hd : P.underlying dst = some .string) (hx : rho L x = .slice p l.length c)
    (h : ∀ w, S w → ∀ j v, ((eInt .u8).all l)[j]? = some v → ∃ a, p = some a ∧ w.cell? (a.add j) = some v) : RunIs P S L o (.string (bstr l)) := by
  intro w hS
  have hr := run_bstr (P := P) (w := w) (c := c) (h w hS)
  cases hu : P.underlying src with
  | none => rw [hu] at hs; cases hs
  | some d =>
    rw [hu] at hs
    cases d <;> first | (cases hs; done) | skip
    case slice e' =>
      simp only [Option.bind_some] at hs
      simp [execOp, hop, hx, convert, run_underlying hu, run_underlying hd, run_underlying hs, hr]
theorem q_bytes_str_own (k : Nat) {src dst : TypeId} {x : Operand} {p : Option Addr} {c : Nat} {l : List Int} (hk : H[k]? = some (own (eInt .u8) E p c l)) (hop : o.op = .convert src dst x) (hs : (P.underlying src).bind (fun d => match d with | .slice e => P.underlying e | _ => none) = some (.int .u8)) (hd : P.underlying dst = some .string) (hx : rho L x = .slice p l.length c) :
    RunIs P (SAT w0 H) L o (.string (bstr l)) :=
  q_bytes_str hop hs hd hx fun w hS => by obtain ⟨h, h1, h2, _⟩ := sat_at hk hS.1; exact own_cells h1 h2
theorem q_bytes_str_ro (k : Nat) {src dst : TypeId} {x : Operand} {p : Option Addr} {c : Nat} {l : List Int} (hk : H[k]? = some (imm I)) (hr : ro I (eInt .u8) p c l) (hop : o.op = .convert src dst x) (hs : (P.underlying src).bind (fun d => match d with | .slice e => P.underlying e | _ => none) = some (.int .u8)) (hd : P.underlying dst = some .string) (hx : rho L x = .slice p l.length c) :
    RunIs P (SAT w0 H) L o (.string (bstr l)) :=
  q_bytes_str hop hs hd hx fun w hS j v hj => by obtain ⟨a, h1, h2⟩ := hr.cells j v hj; exact ⟨a, h1, cellOf_sub (imm_in hk hS.1) h2⟩

/-- a text's bytes, as numbers -/
def sbytes (s : ByteArray) : List Int := s.data.toList.map fun b => (b.toNat : Int)
theorem sbytes_length (s : ByteArray) : (sbytes s).length = s.size := by unfold sbytes; rw [List.length_map, Array.length_toList]; rfl
theorem pw_str_bytes {src dst : TypeId} {x : Operand} {s : ByteArray} (ho : ops[i]? = some o) (hop : o.op = .convert src dst x) (hd : dstOk n o.dst = true) (hw : wantedL ops L o = some true) (hkn : knows L o = true)
    (hs : P.underlying src = some .string) (hu : P.underlying dst = some (.slice E)) (he : P.underlying E = some (.int .u8)) (hx : rho L x = .string s) (hmax : s.size ≤ maxLen)
    (h : ∀ p c, NW K n (putL o.dst (.slice p (sbytes s).length c) L) (SAT w0 (own (eInt .u8) E p c (sbytes s) :: H))) : PW P ops Q i n L (SAT w0 H) K := by
  refine pw_run (S' := fun u w => ∃ p c, u = .slice p (sbytes s).length c ∧ SAT w0 (own (eInt .u8) E p c (sbytes s) :: H) w) ho hd hw hkn (fun w hsat => ?_) fun u a w hf hs => by obtain ⟨p, c, rfl, hs⟩ := hs; exact h p c a w hf hs
  have hge := grownCap_ge w s.size 0 E
  have hle := grownCap_le_maxLen w s.size 0 E hmax
  have hsz : s.data.size = s.size := rfl
  have hcs : (Lib.bytesCells w E s).size = grownCap w s.size 0 E := by
    simp only [Lib.bytesCells, Array.size_append, Array.size_map, Array.size_replicate, hsz]; omega
  have hhp : hp (Lib.bytesWorld w E s) = (hp w).upd w.heap.size (.cells (Lib.bytesCells w E s) E ((Lib.bytesCells w E s).size, (Lib.bytesCells w E s).size + 1)) := by
    funext b
    unfold Hl.upd
    by_cases hb : b = w.heap.size
    · rw [if_pos hb]; subst hb; exact Lib.bytesWorld_at_new w E s
    · rw [if_neg hb]
      unfold hp
      by_cases hlt : b < w.heap.size
      · exact Lib.bytesWorld_at_old w E s b hlt
      · rw [Array.getElem?_eq_none (by rw [Lib.bytesWorld_size]; omega), Array.getElem?_eq_none (by omega)]
  refine ⟨.slice (some ⟨w.heap.size, 0, none⟩) s.size (grownCap w s.size 0 E), Lib.bytesWorld w E s, ?_, some ⟨w.heap.size, 0, none⟩, grownCap w s.size 0 E, by rw [sbytes_length], ?_, hsat.2.trans ⟨rfl, rfl, rfl⟩⟩
  · have hr := Lib.run_convert_string_bytes (P := P) w src dst E s hs hu he
    simp [execOp, hop, hx, hr]
  · refine sat_new (g := hp w) (hp_size w) hhp (own_new (grownCap w s.size 0 E) (by rw [hcs]; simp [eInt]) hle (by rw [sbytes_length]; exact hge) (fun j hj => by simp; omega) ?_) hsat.1
    rw [all_u8, sbytes_length]
    simp only [eInt, Nat.mul_one, Lib.bytesCells, Array.toList_append, Array.toList_map]
    rw [List.take_append_of_le_length (by simp [hsz]), List.take_of_length_le (by simp [hsz])]
    simp [sbytes]

theorem made_all (e : Enc α) (z : α) (m : Nat) : (madeCells (e.f z).toArray (m * e.sz)).toList = e.all (List.replicate m z) := by
  have hlen := e.len z
  apply List.ext_getElem?
  intro j
  by_cases hj : j < m * e.sz
  · have hq : (j / e.sz) * e.sz + j % e.sz = j := by rw [Nat.mul_comm]; exact Nat.div_add_mod j e.sz
    have hm : j % e.sz < e.sz := Nat.mod_lt _ e.pos
    have hd : j / e.sz < m := Nat.div_lt_of_lt_mul (by rw [Nat.mul_comm]; exact hj)
    have := Enc.all_get e (l := List.replicate m z) (i := j / e.sz) (x := z) (by rw [List.getElem?_replicate, if_pos hd]) (j % e.sz) hm
    rw [hq] at this
    rw [this]
    simp [madeCells, hj, hlen, getElem!_def]
    rw [List.getElem?_eq_getElem (by rw [hlen]; exact hm)]
  · rw [List.getElem?_eq_none (by rw [Array.length_toList, size_madeCells]; omega), List.getElem?_eq_none (by rw [e.all_length, List.length_replicate]; omega)]

/-- 'make([]T, n)': so many zeros -/
theorem pw_make (e : Enc α) (z : α) {t : TypeId} {x y : Operand} {k1 k2 : IntKind} {m : Int} {sz bytes : Nat} (ho : ops[i]? = some o) (hop : o.op = .makeSlice t x y) (hd : dstOk n o.dst = true) (hw : wantedL ops L o = some true) (hkn : knows L o = true)
    (hsl : slOf P t = some (E, sz)) (hinf : ((P.info? E).bind fun i => i.zero.map fun z => (i.bytes, z.cells)) = some (bytes, (e.f z).toArray)) (hsz : e.sz = sz) (hx : rho L x = .int k1 m) (hy : rho L y = .int k2 m) (h0 : 0 ≤ m) (hm : m ≤ 4611686018427387904) (hby : bytes * m ≤ 281474976710656)
    (h : ∀ p c, NW K n (putL o.dst (.slice p (List.replicate m.toNat z).length c) L) (SAT w0 (own e E p c (List.replicate m.toNat z) :: H))) : PW P ops Q i n L (SAT w0 H) K := by
  subst hsz
  obtain ⟨hu, inf, hi, hisz⟩ := slOf_spec hsl
  rw [hi] at hinf
  cases hz : inf.zero with
  | none => rw [Option.bind_some, hz] at hinf; cases hinf
  | some zv =>
  rw [Option.bind_some, hz] at hinf
  simp only [Option.map_some, Option.some.injEq, Prod.mk.injEq] at hinf
  obtain ⟨rfl, hzc⟩ := hinf
  refine pw_run (S' := fun u w => ∃ p c, u = .slice p (List.replicate m.toNat z).length c ∧ SAT w0 (own e E p c (List.replicate m.toNat z) :: H) w) ho hd hw hkn (fun w hsat => ?_) fun u a w hf hs => by obtain ⟨p, c, rfl, hs⟩ := hs; exact h p c a w hf hs
  have hr := run_make (P := P) w t E inf zv hu hi hz k1 k2 m m h0 (Int.le_refl _) hby (by omega)
  refine ⟨.slice (some ⟨w.heap.size, 0, none⟩) m.toNat m.toNat, w.alloc (.cells (madeCells zv.cells (m.toNat * inf.size)) E), by simp [execOp, hop, hx, hy, hr], some ⟨w.heap.size, 0, none⟩, m.toNat, by simp, sat_alloc hsat.1 (own_new m.toNat (by rw [size_madeCells, hisz]) (by unfold maxLen; omega) (by simp) (soft_zero _) ?_), hsat.2.trans ⟨rfl, rfl, rfl⟩⟩
  have hml : (madeCells zv.cells (m.toNat * inf.size)).toList.length = (List.replicate m.toNat z).length * e.sz := by rw [Array.length_toList, size_madeCells, hisz, List.length_replicate]
  rw [List.take_of_length_le (by rw [hml]; exact Nat.le_refl _)]
  rw [hzc, hisz]
  exact made_all e z m.toNat
end
end Go.Fw

/- What the printed functions are made of, and how their answers are taken apart. -/
namespace Go.Fw
set_option linter.all false
open Go Go.RowKit

/-- a check: where it fails there is no answer -/
def chk {α : Type} (c : Prop) [Decidable c] (x : Option α) : Option α := if c then x else none
theorem chk_some {α : Type} {c : Prop} [Decidable c] {x : Option α} {v : α} (h : chk c x = some v) : c ∧ x = some v := by
  unfold chk at h
  split at h
  · exact ⟨‹_›, h⟩
  · cases h
theorem chk_pos {α : Type} {c : Prop} [Decidable c] {x : Option α} (h : c) : chk c x = x := if_pos h
theorem if_some {α : Type} {b : Bool} {x y : Option α} {v : α} (h : (if b then x else y) = some v) : (b = true ∧ x = some v) ∨ (b = false ∧ y = some v) := by
  cases b
  · exact .inr ⟨rfl, h⟩
  · exact .inl ⟨rfl, h⟩
theorem bind_some {α β : Type} {x : Option α} {f : α → Option β} {v : β} (h : x.bind f = some v) : ∃ a, x = some a ∧ f a = some v := by
  cases x with
  | none => cases h
  | some a => exact ⟨a, rfl, h⟩

/-- rounds, so many at most -/
def iter {σ ρ : Type} (f : σ → Option (σ ⊕ ρ)) : Nat → σ → Option ρ
  | 0, _ => none
  | k + 1, s => match f s with
    | none => none
    | some (.inl s') => iter f k s'
    | some (.inr r) => some r
theorem iter_some {σ ρ : Type} {f : σ → Option (σ ⊕ ρ)} {k : Nat} {s : σ} {v : ρ} (h : iter f k s = some v) :
    ∃ k' r, k = k' + 1 ∧ f s = some r ∧ (match r with | .inl s' => iter f k' s' = some v | .inr r => r = v) := by
  cases k with
  | zero => cases h
  | succ k =>
    rw [iter] at h
    cases hf : f s with
    | none => rw [hf] at h; cases h
    | some r =>
      rw [hf] at h
      refine ⟨k, r, rfl, rfl, ?_⟩
      cases r with
      | inl s' => exact h
      | inr r => exact Option.some.inj h
theorem iter_mono {σ ρ : Type} {f : σ → Option (σ ⊕ ρ)} {v : ρ} : ∀ {k k' : Nat} {s : σ}, iter f k s = some v → k ≤ k' → iter f k' s = some v
  | 0, _, _, h, _ => by cases h
  | k + 1, k', s, h, hk => by
    obtain ⟨k', rfl⟩ : ∃ m, k' = m + 1 := ⟨k' - 1, by omega⟩
    rw [iter] at h ⊢
    cases hf : f s with
    | none => rw [hf] at h; cases h
    | some r =>
      rw [hf] at h
      cases r with
      | inl s' => exact iter_mono h (by omega)
      | inr r => exact h
theorem iter_next {σ ρ : Type} {f : σ → Option (σ ⊕ ρ)} {k : Nat} {s s' : σ} {v : Option ρ} (h : f s = some (.inl s')) (h' : iter f k s' = v) : iter f (k + 1) s = v := by rw [iter, h]; exact h'
theorem iter_stop {σ ρ : Type} {f : σ → Option (σ ⊕ ρ)} {k : Nat} {s : σ} {r : ρ} (h : f s = some (.inr r)) : iter f (k + 1) s = some r := by rw [iter, h]

/-- as many rounds as there may be -/
def FUEL : Nat := 2 ^ 64

/-- a part of a function that may leave it -/
def thru {α β : Type} (r : Option (α ⊕ β)) (f : α → Option β) : Option β :=
  match r with
  | none => none
  | some (.inl a) => f a
  | some (.inr b) => some b
def Thru {α β : Type} (r : α ⊕ β) (f : α → Option β) (v : β) : Prop :=
  match r with
  | .inl a => f a = some v
  | .inr b => b = v
theorem thru_some {α β : Type} {r : Option (α ⊕ β)} {f : α → Option β} {v : β} (h : thru r f = some v) : ∃ a, r = some a ∧ Thru a f v := by
  cases r with
  | none => cases h
  | some a =>
    refine ⟨a, rfl, ?_⟩
    cases a with
    | inl a => exact h
    | inr b => exact Option.some.inj h

def seqB (a b : ByteArray) : Bool := a.toList == b.toList
def sltB (a b : ByteArray) : Bool := Op.bytesLess a.toList b.toList
def iand (k : IntKind) (x y : Int) : Int := k.wrap (BitVec.ofInt k.bits x &&& BitVec.ofInt k.bits y).toNat
def ior (k : IntKind) (x y : Int) : Int := k.wrap (BitVec.ofInt k.bits x ||| BitVec.ofInt k.bits y).toNat
def ixor (k : IntKind) (x y : Int) : Int := k.wrap (BitVec.ofInt k.bits x ^^^ BitVec.ofInt k.bits y).toNat
def iandNot (k : IntKind) (x y : Int) : Int := k.wrap (BitVec.ofInt k.bits x &&& ~~~(BitVec.ofInt k.bits y)).toNat

/-- some are brought to the front: each by its place among those that are left -/
def pulls : List Nat → List HP → List HP
  | [], l => l
  | k :: ks, l => match l[k]? with
    | some p => p :: pulls ks (l.eraseIdx k)
    | none => l
theorem perm_pulls : ∀ (ks : List Nat) (l : List HP), l.Perm (pulls ks l)
  | [], _ => .refl _
  | k :: ks, l => by
    unfold pulls
    cases h : l[k]? with
    | none => exact .refl _
    | some p => exact (perm_front h).trans ((perm_pulls ks _).cons p)
theorem sat_pulls {w0 : World} {l F G : List HP} (ks : List Nat) (h : pulls ks l = F ++ G) {w : World} (hs : SAT w0 l w) : SAT w0 F w :=
  ⟨sat_take (h ▸ sat_perm (perm_pulls ks l) hs.1), hs.2⟩
/-- those that are brought to the front are let go, but for the wanted ones -/
theorem sat_to {w0 : World} {l F : List HP} (ks : List Nat) (g : Nat) (h : (pulls ks l).drop g = F) {w : World} (hs : SAT w0 l w) : SAT w0 F w := by
  subst h
  have := sat_perm (perm_pulls ks l) hs.1
  rw [← List.take_append_drop g (pulls ks l)] at this
  exact ⟨sat_drops this, hs.2⟩
def at_ {α : Type} (l : List α) (j : Int) : Option α := if 0 ≤ j then l[j.toNat]? else none
theorem at_some {α : Type} {l : List α} {j : Int} {x : α} (h : at_ l j = some x) : 0 ≤ j ∧ l[j.toNat]? = some x := by
  unfold at_ at h
  split at h
  · exact ⟨‹_›, h⟩
  · cases h
theorem at_lt {α : Type} {l : List α} {j : Int} {x : α} (h : at_ l j = some x) : j < l.length := by
  obtain ⟨h0, h1⟩ := at_some h
  have := (List.getElem?_eq_some_iff.1 h1).1
  omega
theorem ro_nil {α : Type} (I : Hl) (e : Enc α) : ro I e none 0 ([] : List α) := ⟨Nat.le_refl _, Nat.zero_le _, fun _ => rfl, fun j v h => by simp [Enc.all] at h⟩
theorem perm_of_pulls {l F G : List HP} (ks : List Nat) (h : pulls ks l = F ++ G) : l.Perm (F ++ G) := h ▸ perm_pulls ks l

section
variable {P : Program} {ops : Array Oper} {Q : Exit → Act → World → Prop} {i n tl : Nat} {L : Slots} {S : World → Prop}
theorem nw_ow (h : OW P ops Q (i + 1) n L S) : NW (wpList P ops Q (ops.toList.drop (i + 1))) n L S := h
/-- room for so many elements of so many bytes -/
def room (m bytes : Nat) : Prop := m ≤ 4611686018427387904 ∧ 2 * m * bytes ≤ 281474976710656
instance (m bytes : Nat) : Decidable (room m bytes) := inferInstanceAs (Decidable (_ ∧ _))
theorem sat_own_nil {α : Type} {w0 w : World} {l : List HP} (e : Enc α) (E : Nat) (hs : SAT w0 l w) : SAT w0 (own e E none 0 [] :: l) w :=
  ⟨⟨fun _ => none, (fun _ _ h => by cases h), own_nil e E _, sat_mono (g' := (hp w).minus fun _ => none) (fun b o h => Hl.minus_some.2 ⟨h, rfl⟩) hs.1⟩, hs.2⟩
theorem room_max {m : Int} {b : Nat} (h0 : 0 ≤ m) (h : room m.toNat b) : m ≤ 4611686018427387904 := by have := h.1; omega
theorem room_bytes {m : Int} {b : Nat} (h0 : 0 ≤ m) (h : room m.toNat b) : (b : Int) * m ≤ 281474976710656 := by
  have h2 := h.2
  have h3 : m.toNat * b ≤ 281474976710656 := Nat.le_trans (by rw [Nat.mul_assoc]; omega) h2
  have h4 : ((b * m.toNat : Nat) : Int) ≤ 281474976710656 := by rw [Nat.mul_comm]; omega
  rw [Int.natCast_mul, Int.toNat_of_nonneg h0] at h4
  exact h4
theorem src_strL {S : World → Prop} {tx : TypeId} {s : ByteArray} (htx : P.underlying tx = some .string) : SrcIs P 1 tx (.string s) (sbytes s).length ((eInt .u8).all (sbytes s)) S := by
  have : (eInt .u8).all (sbytes s) = byteCells s := by rw [all_u8]; simp [sbytes, byteCells]
  rw [this, sbytes_length]
  exact src_str htx
theorem aw_state {T S' : World → Prop} {f m : Nat} (hs : ∀ w, S w → S' w) (h : AW P ops Q tl T f m n L S') : AW P ops Q tl T f m n L S := fun a w hf h' => h a w hf (hs w h')
theorem ow_freeze {w0 : World} {I : Hl} {α : Type} {e : Enc α} {E : Nat} {p : Option Addr} {c : Nat} {l : List α} {G : List HP} (hs : ∀ w, S w → SAT w0 (imm I :: own e E p c l :: G) w) (h : ∀ J, Hl.sub I J → ro J e p c l → OW P ops Q i n L (SAT w0 (imm J :: G))) : OW P ops Q i n L S := by
  intro a w hf hS
  obtain ⟨J, h1, h2, h3⟩ := freeze (hs w hS)
  exact h J h1 h2 a w hf h3
theorem aw_freeze {T : World → Prop} {f m : Nat} {w0 : World} {I : Hl} {α : Type} {e : Enc α} {E : Nat} {p : Option Addr} {c : Nat} {l : List α} {G : List HP} (hs : ∀ w, S w → SAT w0 (imm I :: own e E p c l :: G) w) (h : ∀ J, Hl.sub I J → ro J e p c l → AW P ops Q tl T f m n L (SAT w0 (imm J :: G))) : AW P ops Q tl T f m n L S := by
  intro a w hf hS
  obtain ⟨J, h1, h2, h3⟩ := freeze (hs w hS)
  exact h J h1 h2 a w hf h3
theorem aw_H {T : World → Prop} {f m : Nat} {w0 : World} {H H' : List HP} (h : H = H') (k : AW P ops Q tl T f m n L (SAT w0 H')) : AW P ops Q tl T f m n L (SAT w0 H) := h ▸ k
def optC {α β : Type} (x : Option α) (a : Option β) (b : α → Option β) : Option β := match x with
  | none => a
  | some y => b y
theorem nw_H {K : Act → World → Prop} {w0 : World} {H H' : List HP} (h : H = H') (k : NW K n L (SAT w0 H')) : NW K n L (SAT w0 H) := h ▸ k
theorem ow_H {w0 : World} {H H' : List HP} (h : H = H') (k : OW P ops Q i n L (SAT w0 H')) : OW P ops Q i n L (SAT w0 H) := h ▸ k

/-- a result, in a slot or in memory -/
theorem rr_tmp {w0 : World} {H : List HP} {t : Nat} {v : Value} (hl : look L t = some v) : ∀ a w, Fr n L a → SAT w0 H w → resRun P a.tmps w (.tmp t) v := fun a w hf _ => hf.get t v hl
theorem rr_cell {w0 : World} {H : List HP} {a b off : Nat} {cs : Array Value} {T t : TypeId} {v : Value} (k : Nat) (hl : look L a = some (.pointer (some ⟨b, off, none⟩))) (hk : H[k]? = some (pt b cs T)) (hv : ptLoad P t cs off = some v) :
    ∀ c w, Fr n L c → SAT w0 H w → resRun P c.tmps w (.cell a t) v := fun c w hf hs => ⟨_, hf.get a _ hl, run_loadVar_pt (pt_in hk hs.1) hv⟩
theorem pw_index_ro {K : Act → World → Prop} {o : Oper} {α : Type} {e : Enc α} {E : Nat} {p : Option Addr} {c : Nat} {l : List α} {I : Hl} {t : TypeId} {x ix : Operand} {kd : IntKind} {j : Int} {y : α} (sz : Nat) (hr : ro I e p c l) (ho : ops[i]? = some o) (hop : o.op = .indexAddr t x ix) (hd : dstOk n o.dst = true) (hw : wantedL ops L o = some true) (hkn : knows L o = true)
    (ht : slOf P t = some (E, sz)) (hsz : e.sz = sz) (hx : rho L x = .slice p l.length c) (hix : rho L ix = .int kd j) (hy : at_ l j = some y) (h : ∀ q : Addr, elem I e q y → NW K n (putL o.dst (.pointer (some q)) L) S) : PW P ops Q i n L S K := by
  obtain ⟨h0, h1⟩ := at_some hy
  obtain ⟨hu, inf, hi, hs⟩ := slOf_spec ht
  obtain ⟨q, hq, hr⟩ := q_index_ro (P := P) (S := S) sz hr hop (by rw [hu]; simp [hi, hs]) hsz hx hix h0 h1
  exact pw_quiet ho hd hw hkn hr (h q hq)
theorem aw_index_ro (i : Nat) {T : World → Prop} {f m m' : Nat} {o : Oper} {α : Type} {e : Enc α} {E : Nat} {p : Option Addr} {c : Nat} {l : List α} {I : Hl} {t : TypeId} {x ix : Operand} {kd : IntKind} {j : Int} {y : α} (sz : Nat) (hr : ro I e p c l) (ho : ops[i]? = some o) (hop : o.op = .indexAddr t x ix) (hd : dstOk n o.dst = true) (hw : wantedL ops L o = some true) (hkn : knows L o = true)
    (hmay : mayNow ops tl m i = true) (hm' : m ||| 2 ^ i = m') (hQ : Calm Q) (hT : ∀ w, S w → T w)
    (ht : slOf P t = some (E, sz)) (hsz : e.sz = sz) (hx : rho L x = .slice p l.length c) (hix : rho L ix = .int kd j) (hy : at_ l j = some y) (h : ∀ q : Addr, elem I e q y → AW P ops Q tl T f m' n (putL o.dst (.pointer (some q)) L) S) : AW P ops Q tl T (f + 1) m n L S := by
  obtain ⟨h0, h1⟩ := at_some hy
  obtain ⟨hu, inf, hi, hs⟩ := slOf_spec ht
  obtain ⟨q, hq, hr⟩ := q_index_ro (P := P) (S := fun _ => True) sz hr hop (by rw [hu]; simp [hi, hs]) hsz hx hix h0 h1
  exact aw_pure i ho hd hw hkn hmay hm' hQ hT hr (h q hq)
theorem pw_slice_ro {K : Act → World → Prop} {o : Oper} {α : Type} {e : Enc α} {E : Nat} {p : Option Addr} {c : Nat} {l : List α} {I : Hl} {t : TypeId} {x : Operand} {lo hi : Option Operand} {a b : Int} (sz : Nat) (hr : ro I e p c l) (ho : ops[i]? = some o) (hop : o.op = .slice t x lo hi none) (hd : dstOk n o.dst = true) (hw : wantedL ops L o = some true) (hkn : knows L o = true)
    (hsl : slOf P t = some (E, sz)) (hsz : e.sz = sz) (hx : rho L x = .slice p l.length c) (ha : bnd L 0 lo = some a) (hb : bnd L l.length hi = some b) (hc : 0 ≤ a ∧ a ≤ b ∧ b ≤ l.length)
    (h : ∀ p' c', ro I e p' c' ((l.drop a.toNat).take (b.toNat - a.toNat)) → NW K n (putL o.dst (.slice p' ((l.drop a.toNat).take (b.toNat - a.toNat)).length c') L) S) : PW P ops Q i n L S K := by
  obtain ⟨p', c', h1, h2⟩ := q_slice_ro (P := P) (S := S) sz hr hop hsl hsz hx ha hb hc.1 hc.2.1 hc.2.2
  exact pw_quiet ho hd hw hkn h2 (h p' c' h1)
theorem aw_slice_ro (i : Nat) {T : World → Prop} {f m m' : Nat} {o : Oper} {α : Type} {e : Enc α} {E : Nat} {p : Option Addr} {c : Nat} {l : List α} {I : Hl} {t : TypeId} {x : Operand} {lo hi : Option Operand} {a b : Int} (sz : Nat) (hr : ro I e p c l) (ho : ops[i]? = some o) (hop : o.op = .slice t x lo hi none) (hd : dstOk n o.dst = true) (hw : wantedL ops L o = some true) (hkn : knows L o = true)
    (hmay : mayNow ops tl m i = true) (hm' : m ||| 2 ^ i = m') (hQ : Calm Q) (hT : ∀ w, S w → T w)
    (hsl : slOf P t = some (E, sz)) (hsz : e.sz = sz) (hx : rho L x = .slice p l.length c) (ha : bnd L 0 lo = some a) (hb : bnd L l.length hi = some b) (hc : 0 ≤ a ∧ a ≤ b ∧ b ≤ l.length)
    (h : ∀ p' c', ro I e p' c' ((l.drop a.toNat).take (b.toNat - a.toNat)) → AW P ops Q tl T f m' n (putL o.dst (.slice p' ((l.drop a.toNat).take (b.toNat - a.toNat)).length c') L) S) : AW P ops Q tl T (f + 1) m n L S := by
  obtain ⟨p', c', h1, h2⟩ := q_slice_ro (P := P) (S := fun _ => True) sz hr hop hsl hsz hx ha hb hc.1 hc.2.1 hc.2.2
  exact aw_pure i ho hd hw hkn hmay hm' hQ hT h2 (h p' c' h1)
section
variable {fn : Func} {R : Value → List HP → Prop} {F H H1 : List HP} {w0 : World} {r1 r2 r3 r4 : ResultVar} {v1 v2 v3 v4 : Value}
theorem fin_of {v : Value} (hr : ∀ a w, Fr n L a → SAT w0 H w → (results fn a.tmps).run P w = .ok v w) (hs : ∀ w, SAT w0 H w → SAT w0 (H1 ++ F) w) (hR : R v H1) : ∀ a w, Fr n L a → SAT w0 H w →
    a.defers = [] ∧ ∃ v, (results fn a.tmps).run P w = .ok v w ∧ ∃ r H', Ending.returned v = .returned r ∧ R r H' ∧ Sat (H' ++ F) (hp w) ∧ Keep w0 w :=
  fun a w hf hsat => ⟨hf.defers, v, hr a w hf hsat, v, H1, rfl, hR, (hs w hsat).1, (hs w hsat).2⟩
theorem fin0 (hs : ∀ w, SAT w0 H w → SAT w0 (H1 ++ F) w) (hf : fn.results = #[]) (hR : R (.tuple #[]) H1) : EW (FinQ P fn R F w0) .ret n L (SAT w0 H) :=
  fin_of (fun _ _ _ _ => results0 hf) hs hR
theorem fin0n (hs : ∀ w, SAT w0 H w → SAT w0 (H1 ++ F) w) (hf : fn.results = #[]) (hR : R (.tuple #[]) H1) : EW (FinQ P fn R F w0) .normal n L (SAT w0 H) :=
  fin_of (fun _ _ _ _ => results0 hf) hs hR
theorem fin1 (hs : ∀ w, SAT w0 H w → SAT w0 (H1 ++ F) w) (hf : fn.results = #[r1]) (h1 : ∀ a w, Fr n L a → SAT w0 H w → resRun P a.tmps w r1 v1) (hR : R v1 H1) : EW (FinQ P fn R F w0) .ret n L (SAT w0 H) :=
  fin_of (fun a w x y => results1 hf (h1 a w x y)) hs hR
theorem fin2 (hs : ∀ w, SAT w0 H w → SAT w0 (H1 ++ F) w) (hf : fn.results = #[r1, r2]) (h1 : ∀ a w, Fr n L a → SAT w0 H w → resRun P a.tmps w r1 v1) (h2 : ∀ a w, Fr n L a → SAT w0 H w → resRun P a.tmps w r2 v2) (hR : R (.tuple #[v1, v2]) H1) : EW (FinQ P fn R F w0) .ret n L (SAT w0 H) :=
  fin_of (fun a w x y => results2 hf (h1 a w x y) (h2 a w x y)) hs hR
theorem fin3 (hs : ∀ w, SAT w0 H w → SAT w0 (H1 ++ F) w) (hf : fn.results = #[r1, r2, r3]) (h1 : ∀ a w, Fr n L a → SAT w0 H w → resRun P a.tmps w r1 v1) (h2 : ∀ a w, Fr n L a → SAT w0 H w → resRun P a.tmps w r2 v2) (h3 : ∀ a w, Fr n L a → SAT w0 H w → resRun P a.tmps w r3 v3) (hR : R (.tuple #[v1, v2, v3]) H1) : EW (FinQ P fn R F w0) .ret n L (SAT w0 H) :=
  fin_of (fun a w x y => results3 hf (h1 a w x y) (h2 a w x y) (h3 a w x y)) hs hR
theorem fin4 (hs : ∀ w, SAT w0 H w → SAT w0 (H1 ++ F) w) (hf : fn.results = #[r1, r2, r3, r4]) (h1 : ∀ a w, Fr n L a → SAT w0 H w → resRun P a.tmps w r1 v1) (h2 : ∀ a w, Fr n L a → SAT w0 H w → resRun P a.tmps w r2 v2) (h3 : ∀ a w, Fr n L a → SAT w0 H w → resRun P a.tmps w r3 v3) (h4 : ∀ a w, Fr n L a → SAT w0 H w → resRun P a.tmps w r4 v4) (hR : R (.tuple #[v1, v2, v3, v4]) H1) : EW (FinQ P fn R F w0) .ret n L (SAT w0 H) :=
  fin_of (fun a w x y => results4 hf (h1 a w x y) (h2 a w x y) (h3 a w x y) (h4 a w x y)) hs hR
end
theorem ow_slots {L' : Slots} (hl : L = L') (h : OW P ops Q i n L' S) : OW P ops Q i n L S := hl ▸ h
theorem aw_slots {T : World → Prop} {f m : Nat} {L' : Slots} (hl : L = L') (h : AW P ops Q tl T f m n L' S) : AW P ops Q tl T f m n L S := hl ▸ h
end
end Go.Fw

/- Arrays in memory, known as lists; parts of arrays that are copied; loops that are laid out round by round. -/
namespace Go.Fw
set_option linter.all false
open Go Go.RowKit
section
variable {P : Program} {ops : Array Oper} {Q : Exit → Act → World → Prop} {i n : Nat} {L : Slots} {S : World → Prop} {o : Oper} {w0 : World} {H : List HP} {K : Act → World → Prop} {α : Type} {e : Enc α} {l : List α}

theorem cw_freeze {c : Code} {w0 : World} {I : Hl} {E : Nat} {p : Option Addr} {cc : Nat} {G : List HP} (hs : ∀ w, S w → SAT w0 (imm I :: own e E p cc l :: G) w) (h : ∀ J, Hl.sub I J → ro J e p cc l → CW P c Q n L (SAT w0 (imm J :: G))) : CW P c Q n L S := by
  intro a w hf hS
  obtain ⟨J, h1, h2, h3⟩ := freeze (hs w hS)
  exact h J h1 h2 a w hf h3
theorem cw_H {c : Code} {w0 : World} {H H' : List HP} (h : H = H') (k : CW P c Q n L (SAT w0 H')) : CW P c Q n L (SAT w0 H) := h ▸ k
/-- so many rounds of a loop, laid out -/
def CR (P : Program) (c : Code) (Q : Exit → Act → World → Prop) (m n : Nat) (L : Slots) (S : World → Prop) : Prop := ∀ a w, Fr n L a → S w → Code.rounds P c Q m a w
theorem cw_rounds (m : Nat) {c : Code} (h : CR P c Q m n L S) : CW P (.loop c) Q n L S := fun a w hf hs => wp_loop_rounds m (h a w hf hs)
theorem cr_next {m : Nat} {c : Code} (h : CW P c (Exit.then (Code.rounds P c Q m) Q) n L S) : CR P c Q (m + 1) n L S := fun a w hf hs => h a w hf hs
theorem ew_rounds {m : Nat} {c : Code} (h : CR P c Q m n L S) : EW (Exit.then (Code.rounds P c Q m) Q) .normal n L S := h

/-- an array of a type's table: how many elements, which, and how many cells each -/
def arOf (P : Program) (t : TypeId) : Option (Nat × Nat × Nat × Nat) := (P.underlying t).bind fun d => match d with | .array n E => ((P.info? E).bind fun i => (P.info? t).map fun j => (n, E, i.size, j.size)) | _ => none
theorem arOf_spec {t : TypeId} {m E sz tot : Nat} (h : arOf P t = some (m, E, sz, tot)) : P.underlying t = some (.array m E) ∧ (∃ i, P.info? E = some i ∧ i.size = sz) ∧ ∃ j, P.info? t = some j ∧ j.size = tot := by
  unfold arOf at h
  cases hu : P.underlying t with
  | none => rw [hu] at h; cases h
  | some d =>
    rw [hu] at h
    cases d <;> first | (cases h; done) | skip
    case array n E' =>
      simp only [Option.bind_some] at h
      cases hi : P.info? E' with
      | none => rw [hi] at h; cases h
      | some inf =>
        rw [hi] at h
        cases hj : P.info? t with
        | none => rw [hj] at h; cases h
        | some jnf =>
          rw [hj] at h
          simp only [Option.bind_some, Option.map_some, Option.some.injEq, Prod.mk.injEq] at h
          obtain ⟨rfl, rfl, rfl, rfl⟩ := h
          exact ⟨rfl, ⟨inf, hi, rfl⟩, jnf, rfl, rfl⟩

theorem all_size (e : Enc α) (l : List α) : (e.all l).toArray.size = l.length * e.sz := by rw [List.size_toArray, e.all_length]

theorem arr_get0 {j : Int} {y : α} {v : Value} (h1 : e.sz = 1) (hy : at_ l j = some y) (hv : e.f y = [v]) : (e.all l)[j.toNat]? = some v := by
  have := Enc.all_get e (at_some hy).2 0 e.pos
  rw [h1] at this
  simp only [Nat.add_zero, Nat.mul_one] at this
  rw [this, hv]
  rfl

/-- the whole array is read -/
theorem q_load_arr (k : Nat) {b : Nat} {T t : TypeId} {x : Operand} {m E sz tot : Nat} (hk : H[k]? = some (pt b (e.all l).toArray T)) (hop : o.op = .load t x) (har : arOf P t = some (m, E, sz, tot)) (hl : l.length = m) (hsz : e.sz = sz) (htot : m * sz = tot) (hx : rho L x = .pointer (some ⟨b, 0, none⟩)) :
    RunIs P (SAT w0 H) L o (.agg (e.all l).toArray) := by
  refine q_load k hop hx hk ?_
  obtain ⟨hu, _, j, hj, hjs⟩ := arOf_spec har
  unfold ptLoad
  rw [hu]
  simp only [hj]
  have hs : (e.all l).toArray.size = tot := by rw [all_size, hl, hsz, htot]
  rw [hs, hjs, Nat.zero_add, Nat.ble_eq_true_of_le (Nat.le_refl _), ← hs]
  simp

theorem rr_arr {a b : Nat} {T t : TypeId} {m E sz tot : Nat} (k : Nat) (hl : look L a = some (.pointer (some ⟨b, 0, none⟩))) (hk : H[k]? = some (pt b (e.all l).toArray T)) (har : arOf P t = some (m, E, sz, tot)) (hm : l.length = m) (hsz : e.sz = sz) (htot : m * sz = tot) :
    ∀ c w, Fr n L c → SAT w0 H w → resRun P c.tmps w (.cell a t) (.agg (e.all l).toArray) := by
  intro c w hf hs
  have := q_load_arr (P := P) (o := { dst := none, op := .load t (.const (.pointer (some ⟨b, 0, none⟩))), type := t, pos := "", after := #[], guard := none }) (L := []) k hk rfl har hm hsz htot rfl w hs
  refine ⟨_, hf.get a _ hl, ?_⟩
  simp only [execOp, rho, Instr.loadAt, Instr.sureAddr, Sem.run_bind, Sem.run_pure, Result.andThen_ok] at this
  generalize (loadVar t ⟨b, 0, none⟩).run P w = r at this
  cases r with
  | ok v w' => simp only [Result.andThen, Sem.run_pure, Result.ok.injEq, Next.value.injEq] at this; obtain ⟨rfl, rfl⟩ := this; rfl
  | halt h w' => cases this

/-- an element of an array that is a value -/
theorem q_index_agg {t : TypeId} {x ix : Operand} {kd : IntKind} {j : Int} {y : α} {v : Value} {m E sz tot : Nat} (hop : o.op = .index t x ix) (har : arOf P t = some (m, E, sz, tot)) (hsc : ((P.underlying E).map fun d => match d with | .struct _ => false | .array _ _ => false | _ => true) = some true) (h1 : e.sz = 1) (hsz : sz = 1)
    (hx : rho L x = .agg (e.all l).toArray) (hix : rho L ix = .int kd j) (hl : l.length = m) (hy : at_ l j = some y) (hv : e.f y = [v]) : RunIs P S L o v := by
  intro w _
  subst hsz
  obtain ⟨hu, ⟨inf, hi, his⟩, _⟩ := arOf_spec har
  have h0 := (at_some hy).1
  have hj := at_lt hy
  rw [hl] at hj
  have hg := arr_get0 h1 hy hv
  have hagg : (isAgg E).run P w = .ok false w := by
    cases hu' : P.underlying E with
    | none => rw [hu'] at hsc; cases hsc
    | some d => rw [hu'] at hsc; unfold isAgg; rw [Sem.run_bind, run_underlying hu' w]; cases d <;> first | rfl | (cases hsc; done)
  simp [execOp, hop, hx, hix, Instr.index, asIntOf, run_underlying hu, h0, hj, sizeOf, typeInfo, hi, his, part, Sem.run_bind, hagg] at hg ⊢
  simp [hg]

/-- an array is laid over the whole one -/
theorem pw_store_arr (k : Nat) {b : Nat} {T t : TypeId} {x y : Operand} {l' : List α} {m E sz tot : Nat} (hk : H[k]? = some (pt b (e.all l).toArray T)) (ho : ops[i]? = some o) (hop : o.op = .store t x y) (hd : dstOk n o.dst = true) (hw : wantedL ops L o = some true) (hkn : knows L o = true)
    (har : arOf P t = some (m, E, sz, tot)) (hl : l.length = m) (hl' : l'.length = m) (hsz : e.sz = sz) (htot : m * sz = tot) (hx : rho L x = .pointer (some ⟨b, 0, none⟩)) (hy : rho L y = .agg (e.all l').toArray)
    (h : NW K n (putL o.dst undef L) (SAT w0 (H.set k (pt b (e.all l').toArray T)))) : PW P ops Q i n L (SAT w0 H) K := by
  refine pw_store k (e.all l').toArray ho hop hd hw hkn hx hk ?_ h
  obtain ⟨hu, _, j, hj, hjs⟩ := arOf_spec har
  have hs : (e.all l).toArray.size = tot := by rw [all_size, hl, hsz, htot]
  have hs' : (e.all l').toArray.size = tot := by rw [all_size, hl', hsz, htot]
  unfold ptStore
  rw [hy]
  simp only [hj, Value.cells]
  rw [hs, hs', hjs, Nat.zero_add]
  have h1 : (e.all l').all (·.oneCell') = true := e.all_one l'
  rw [Nat.ble_eq_true_of_le (Nat.le_refl _)]
  simp only [Nat.beq_refl, Bool.true_and]
  rw [show (e.all l').toArray.toList.all (·.oneCell') = true from h1]
  simp only [cond_true, Option.some.injEq]
  apply Array.ext'
  apply List.ext_getElem?
  intro r
  rw [Array.getElem?_toList, getElem?_setAll _ _ _ _ (by simp at hs hs' ⊢; omega)]
  by_cases hr : r < tot
  · rw [if_pos ⟨Nat.zero_le _, by simp at hs' ⊢; omega⟩]; simp
  · rw [if_neg (by simp at hs' ⊢; omega), Array.getElem?_eq_none (by rw [hs]; omega), List.getElem?_eq_none (by simp at hs' ⊢; omega)]

/-- '&a[j]' of an array in memory -/
theorem q_index_arr {b : Nat} {t : TypeId} {x ix : Operand} {kd : IntKind} {j : Int} {y : α} {m E sz tot : Nat} (hop : o.op = .indexAddr t x ix) (har : arOf P t = some (m, E, sz, tot)) (hx : rho L x = .pointer (some ⟨b, 0, none⟩)) (hix : rho L ix = .int kd j) (hl : l.length = m) (hy : at_ l j = some y) :
    RunIs P S L o (.pointer (some ((⟨b, 0, none⟩ : Addr).add (j.toNat * sz)))) := by
  intro w _
  obtain ⟨hu, ⟨inf, hi, his⟩, _⟩ := arOf_spec har
  have h0 := (at_some hy).1
  have hj := at_lt hy
  rw [hl] at hj
  simp [execOp, hop, hx, hix, Instr.indexAt, asIntOf, run_underlying hu, Instr.sureAddr, h0, hj, sizeOf, typeInfo, hi, his]

theorem arr_get {j : Int} {y : α} {v : Value} (h1 : e.sz = 1) (hy : at_ l j = some y) (hv : e.f y = [v]) : (e.all l).toArray[j.toNat * 1]? = some v := by
  have := Enc.all_get e (at_some hy).2 0 e.pos
  rw [h1] at this
  simp only [Nat.add_zero] at this
  rw [List.getElem?_toArray, this, hv]
  rfl

theorem q_load_arr_el (k : Nat) {b : Nat} {T t : TypeId} {x : Operand} {j : Int} {y : α} {v : Value} (hk : H[k]? = some (pt b (e.all l).toArray T)) (h1 : e.sz = 1) (hop : o.op = .load t x) (hsc : ((P.underlying t).map fun d => match d with | .struct _ => false | .array _ _ => false | _ => true) = some true)
    (hx : rho L x = .pointer (some ((⟨b, 0, none⟩ : Addr).add (j.toNat * 1)))) (hy : at_ l j = some y) (hv : e.f y = [v]) : RunIs P (SAT w0 H) L o v := by
  rw [add_lit] at hx
  refine q_load k hop hx hk ?_
  unfold ptLoad
  cases hu : P.underlying t with
  | none => rw [hu] at hsc; cases hsc
  | some d =>
    rw [hu] at hsc
    have := arr_get h1 hy hv
    cases d <;> first | (cases hsc; done) | (simp only [Nat.zero_add]; exact this)

theorem pw_store_arr_el (k : Nat) {b : Nat} {T t : TypeId} {x y : Operand} {j : Int} {z z' : α} {v : Value} (hk : H[k]? = some (pt b (e.all l).toArray T)) (h1 : e.sz = 1) (ho : ops[i]? = some o) (hop : o.op = .store t x y) (hd : dstOk n o.dst = true) (hw : wantedL ops L o = some true) (hkn : knows L o = true)
    (hi1 : (P.info? t).map (·.size) = some 1) (hx : rho L x = .pointer (some ((⟨b, 0, none⟩ : Addr).add (j.toNat * 1)))) (hy : rho L y = v) (hone : v.oneCell' = true) (hz : at_ l j = some z) (hv : e.f z' = [v])
    (h : NW K n (putL o.dst undef L) (SAT w0 (H.set k (pt b (e.all (l.set j.toNat z')).toArray T)))) : PW P ops Q i n L (SAT w0 H) K := by
  rw [add_lit, Nat.zero_add, Nat.mul_one] at hx
  refine pw_store k _ ho hop hd hw hkn hx hk ?_ h
  have hjl : j.toNat < l.length := (List.getElem?_eq_some_iff.1 (at_some hz).2).1
  have hcells : v.cells = #[v] := by cases v <;> first | rfl | (simp [Value.oneCell'] at hone)
  unfold ptStore
  cases hi : P.info? t with
  | none => rw [hi] at hi1; cases hi1
  | some inf =>
    rw [hi] at hi1
    simp only [Option.map_some, Option.some.injEq] at hi1
    simp only [hy, hcells, hi1]
    have hs : (e.all l).toArray.size = l.length := by rw [all_size, h1, Nat.mul_one]
    rw [hs, Nat.ble_eq_true_of_le (show j.toNat + #[v].size ≤ l.length from hjl)]
    simp only [List.size_toArray, List.length_cons, List.length_nil, Nat.zero_add, Nat.beq_refl, List.all_cons, hone, List.all_nil, Bool.and_self, cond_true, Option.some.injEq, setAll]
    apply Array.ext'
    simp only [Array.toList_setIfInBounds]
    apply List.ext_getElem?
    intro r
    rw [List.getElem?_set]
    have get : ∀ (l : List α) (r : Nat), (e.all l)[r]? = (l[r]?).bind fun x => (e.f x)[0]? := by
      intro l r
      cases hr : l[r]? with
      | none =>
        rw [List.getElem?_eq_none]
        · rfl
        · rw [e.all_length, h1, Nat.mul_one]; exact List.getElem?_eq_none_iff.1 hr
      | some x =>
        have := Enc.all_get e hr 0 e.pos
        rw [h1] at this
        simpa using this
    rw [get (l.set j.toNat z')]
    by_cases hr : j.toNat = r
    · subst hr
      rw [if_pos rfl, if_pos (by rw [e.all_length, h1]; simpa using hjl), List.getElem?_set_self hjl]
      simp [hv]
    · rw [if_neg hr, List.getElem?_set_ne hr, get l]

theorem q_quo {t u : TypeId} {x y : Operand} {k1 : IntKind} {a b : Int} (hop : o.op = .binOp .quo t x y u) (hx : rho L x = .int k1 a) (hy : rho L y = .int k1 b) (h0 : b ≠ 0) : RunIs P S L o (.int k1 (k1.wrap (a.tdiv b))) := by
  intro w _
  simp [execOp, hop, hx, hy, eqGuard, binOp, Op.intDiv, h0]
theorem q_rem {t u : TypeId} {x y : Operand} {k1 : IntKind} {a b : Int} (hop : o.op = .binOp .rem t x y u) (hx : rho L x = .int k1 a) (hy : rho L y = .int k1 b) (h0 : b ≠ 0) : RunIs P S L o (.int k1 (a.tmod b)) := by
  intro w _
  simp [execOp, hop, hx, hy, eqGuard, binOp, Op.intDiv, h0]
theorem q_shift_shr {t u : TypeId} {x y : Operand} {k1 k2 : IntKind} {a b : Int} (hop : o.op = .binOp .shr t x y u) (hx : rho L x = .int k1 a) (hy : rho L y = .int k2 b) (h0 : 0 ≤ b) : RunIs P S L o (.int k1 (a.fdiv ((2 : Int) ^ (min b.toNat k1.bits)))) := by
  intro w _
  have : ¬ b < 0 := by omega
  simp [execOp, hop, hx, hy, eqGuard, binOp, Op.shift, this]
theorem q_shift_shl {t u : TypeId} {x y : Operand} {k1 k2 : IntKind} {a b : Int} (hop : o.op = .binOp .shl t x y u) (hx : rho L x = .int k1 a) (hy : rho L y = .int k2 b) (h0 : 0 ≤ b) : RunIs P S L o (.int k1 (k1.wrap (a * (2 : Int) ^ (min b.toNat k1.bits)))) := by
  intro w _
  have : ¬ b < 0 := by omega
  simp [execOp, hop, hx, hy, eqGuard, binOp, Op.shift, this]
/-- a copy from one part of a block to another part of it -/
theorem pw_copy_pt (k : Nat) {b d s m c1 c2 : Nat} {T : TypeId} {cs cs' : Array Value} {t1 t2 E sz : Nat} {x y : Operand} (hk : H[k]? = some (pt b cs T)) (ho : ops[i]? = some o) (hop : o.op = .call { callee := .builtin .copy, args := #[x, y], argTypes := #[t1, t2] }) (hd : dstOk n o.dst = true) (hw : wantedL ops L o = some true) (hkn : knows L o = true)
    (hsl : slOf P t1 = some (E, sz)) (hx : rho L x = .slice (some ⟨b, d, none⟩) m c1) (hy : rho L y = .slice (some ⟨b, s, none⟩) m c2) (hfit : s + m * sz ≤ cs.size) (hfit' : d + m * sz ≤ cs.size) (hone : ((cs.extract s (s + m * sz)).toList.all (·.oneCell')) = true) (hcs : setAll cs d (cs.extract s (s + m * sz)).toList = cs')
    (h : NW K n (putL o.dst (.int .i64 m) L) (SAT w0 (H.set k (pt b cs' T)))) : PW P ops Q i n L (SAT w0 H) K := by
  subst hcs
  obtain ⟨hu, inf, hi, his⟩ := slOf_spec hsl
  refine pw_run (S' := fun u w => u = .int .i64 m ∧ SAT w0 (H.set k (pt b (setAll cs d (cs.extract s (s + m * sz)).toList) T)) w) ho hd hw hkn (fun w hs => ?_) fun u a w hf hs => by obtain ⟨rfl, hs⟩ := hs; exact h a w hf hs
  have hg := pt_in hk hs.1
  have hlen : (cs.extract s (s + m * sz)).toList.length = m * sz := by simp; omega
  obtain ⟨w', hr, hh, hkp⟩ := run_storeCells_pt (P := P) b T (0, 0) (cs.extract s (s + m * sz)).toList d 0 cs w hg (soft_zero _) (by rw [hlen]; omega) hone
  have hf := run_firstCells_some (P := P) w sz m ⟨b, s, none⟩ m c2 (cs.extract s (s + m * sz)).toList hlen (fun j v hj => by
    rw [add_lit, cell_of hg]
    have : j < m * sz := by have := (List.getElem?_eq_some_iff.1 hj).1; omega
    simp only [Array.getElem?_toList, Array.getElem?_extract] at hj
    split at hj
    · simpa using hj
    · cases hj)
  refine ⟨_, w', ?_, rfl, sat_upd_pt hk hs.1 (by simpa using hh), hs.2.trans hkp⟩
  simp only [Array.toArray_toList] at hf
  have hmin : Nat.min m m = m := Nat.min_self m
  simp [execOp, hop, resolve, invoke, builtin, Builtin.copy_, hx, hy, run_underlying hu, Builtin.lenOf, sizeOf, typeInfo, hi, his, hmin, hf] at hr ⊢
  rw [hr]
  rfl
end
end Go.Fw

/- From a call's contract to the row: what came in is never written, and read as it was. -/
namespace Go.Fw
set_option linter.all false
open Go Go.RowKit Go.ChangeShapes Go.WideShapes Go.ChangeAt

theorem below_of_sub {W W' : World} (hs : Hl.sub (hp W) (hp W')) (hk : Keep W W') : Below W.heap.size W W' := by
  refine ⟨hk.os, hk.tape, hk.output, ?_, fun k hk => ?_⟩
  · rcases Nat.eq_zero_or_pos W.heap.size with h | h
    · omega
    · have hlt : W.heap.size - 1 < W.heap.size := by omega
      have := hs (W.heap.size - 1) _ (Array.getElem?_eq_getElem hlt)
      have h2 := (Array.getElem?_eq_some_iff.1 this).1
      omega
  · rw [Array.getElem?_eq_getElem hk]
    exact hs k _ (Array.getElem?_eq_getElem hk)

theorem calls_of_tr {P : Program} {f : FuncId} {args : List Value} {W : World} {R : Value → List HP → Prop} (h : Tr P f args [imm (hp W)] R)
    (hR : ∀ r H', R r H' → r = .bool true ∧ ∃ J G, H' = imm J :: G ∧ Hl.sub (hp W) J) :
    Calls P f args.toArray W fun e W' => e = .returned (.bool true) ∧ Below W.heap.size W W' := by
  refine (h [] W ⟨hp W, Hl.sub_refl _, Hl.sub_refl _, trivial⟩).mono ?_
  rintro e W' ⟨r, H', rfl, hr, hs, hk⟩
  obtain ⟨rfl, J, G, rfl, hJ⟩ := hR r H' hr
  obtain ⟨g, h1, h2, _⟩ := hs
  exact ⟨rfl, below_of_sub (Hl.sub_trans hJ (Hl.sub_trans h2 h1)) hk⟩

/-- cells that come in, as a slice that is never written -/
theorem ro_of_cells {α : Type} {e : Enc α} {W : World} {a : Addr} {cap : Nat} {l : List α} (h1 : e.sz = 1) (hl : l.length ≤ cap) (hm : cap ≤ maxLen)
    (h : ∀ i x, l[i]? = some x → ∃ v, e.f x = [v] ∧ W.cell? (a.add i) = some v) : ro (hp W) e (some a) cap l := by
  refine ⟨hl, hm, (fun h => by cases h), fun j v hj => ⟨a, rfl, ?_⟩⟩
  have hjl : j < l.length := by
    have := (List.getElem?_eq_some_iff.1 hj).1
    rw [Enc.all_length, h1, Nat.mul_one] at this
    exact this
  obtain ⟨v', h2, h3⟩ := h j l[j] (List.getElem?_eq_getElem hjl)
  have hg := Enc.all_get e (List.getElem?_eq_getElem hjl) 0 e.pos
  rw [h1, Nat.mul_one, Nat.add_zero, h2, hj] at hg
  have hv : v = v' := Option.some.inj hg
  subst hv
  rw [cellOf_hp]
  exact h3

theorem take_get? {α : Type} {l : List α} {k i : Nat} {x : α} (h : (l.take k)[i]? = some x) : i < k ∧ l[i]? = some x := by
  rw [List.getElem?_take] at h
  split at h
  · exact ⟨by assumption, h⟩
  · cases h

section
variable {H : Type} {enc : TypeId × Value → H} {P : Program} {w : World} {base : Nat} {spare : Nat → Bool} {held : Bool}

theorem ro_strings {t e : TypeId} {fuel : Nat} {p : Option Addr} {len cap : Nat} {x : DataW H × List MemPlace} (ht : P.underlying t = some (.slice e)) (he : P.underlying e = some .string) (hc : P.cellsOf e = 1)
    (h : DataW.trod enc P w base spare held fuel t [.slice p len cap] = some x) :
    ∃ l : List ByteArray, len = l.length ∧ ro (hp w) eStr p cap l ∧ (∀ s ∈ l, s.size ≤ maxLen) ∧ ((x.1 = .nil ∧ l = []) ∨ ∃ sp, x.1 = .slice (l.map fun s => .lit (.string s.data.toList)) sp) := by
  rcases open_strings ht he hc h with ⟨hcs, hx⟩ | ⟨a, len', cap', ss, hcs, _, hl, hm, hz, hx, hcell, hwz⟩
  · injection hcs with hcs _
    injection hcs with h1 h2 h3
    subst h1; subst h2; subst h3
    exact ⟨[], rfl, ro_nil _ _, by simp, .inl (by rw [hx]; exact ⟨rfl, rfl⟩)⟩
  · injection hcs with hcs _
    injection hcs with h1 h2 h3
    subst h1; subst h2; subst h3
    have hle : len ≤ ss.length := by rw [hz]; split <;> omega
    refine ⟨ss.take len, by rw [List.length_take]; omega, ro_of_cells rfl (by rw [List.length_take]; omega) hm fun i s hi => ?_, fun s hs => hwz s (List.mem_of_mem_take hs), .inr ⟨_, by rw [hx]; rfl⟩⟩
    obtain ⟨_, h2⟩ := take_get? hi
    have hil := (List.getElem?_eq_some_iff.1 h2).1
    refine ⟨.string s, rfl, ?_⟩
    rw [hcell i hil]
    simp [List.getD, h2]

theorem ro_ints {t e : TypeId} {k : IntKind} {fuel : Nat} {p : Option Addr} {len cap : Nat} {x : DataW H × List MemPlace} (ht : P.underlying t = some (.slice e)) (he : P.underlying e = some (.int k)) (hc : P.cellsOf e = 1)
    (h : DataW.trod enc P w base spare held fuel t [.slice p len cap] = some x) :
    ∃ l : List Int, len = l.length ∧ ro (hp w) (eInt k) p cap l ∧ (∀ n ∈ l, (Lit.int k n).wf = true) ∧ ((x.1 = .nil ∧ l = []) ∨ ∃ sp, x.1 = .slice (l.map fun n => .lit (.int k n)) sp) := by
  rcases open_ints ht he hc h with ⟨hcs, hx⟩ | ⟨a, len', cap', ss, hcs, _, hl, hm, hz, hx, hcell, hwz⟩
  · injection hcs with hcs _
    injection hcs with h1 h2 h3
    subst h1; subst h2; subst h3
    exact ⟨[], rfl, ro_nil _ _, by simp, .inl (by rw [hx]; exact ⟨rfl, rfl⟩)⟩
  · injection hcs with hcs _
    injection hcs with h1 h2 h3
    subst h1; subst h2; subst h3
    have hle : len ≤ ss.length := by rw [hz]; split <;> omega
    refine ⟨ss.take len, by rw [List.length_take]; omega, ro_of_cells rfl (by rw [List.length_take]; omega) hm fun i s hi => ?_, fun s hs => hwz s (List.mem_of_mem_take hs), .inr ⟨_, by rw [hx]; rfl⟩⟩
    obtain ⟨_, h2⟩ := take_get? hi
    have hil := (List.getElem?_eq_some_iff.1 h2).1
    refine ⟨.int k s, rfl, ?_⟩
    rw [hcell i hil]
    simp [List.getD, h2]
end
theorem weights_mem_all {H : Type} {P : Program} {e : TypeId} : ∀ {ds : List (DataW H)} {d : DataW H}, d ∈ ds → ∀ n ∈ d.weights P e, n ∈ DataW.weightsAll P e ds
  | d0 :: ds, d, hd, n, hn => by
    simp only [DataW.weightsAll, List.mem_append]
    rcases List.mem_cons.1 hd with h | h
    · subst h; exact Or.inl hn
    · exact Or.inr (weights_mem_all h n hn)
section
variable {H : Type} {P : Program} {ts : List TypeId} {ds : List (DataW H)}
theorem sized_strs (h : (DataW.weightsEach P ts ds).all (· ≤ reachBytes) = true) {j : Nat} {t e : TypeId} {x : DataW H} {l : List ByteArray} (ht : ts[j]? = some t) (hd : ds[j]? = some x) (hu : P.underlying t = some (.slice e))
    (hx : (x = .nil ∧ l = []) ∨ ∃ sp, x = .slice (l.map fun s => .lit (.string s.data.toList)) sp) : (∀ s ∈ l, s.size ≤ 140737488351232) ∧ l.length * P.bytesOf e ≤ 140737488351232 := by
  rcases hx with ⟨_, rfl⟩ | ⟨sp, rfl⟩
  · exact ⟨(by intro s hs; cases hs), by simp⟩
  · refine ⟨fun s hs => ?_, ?_⟩
    · have hm : s.data.toList.length ∈ DataW.weightsEach P ts ds := DataW.weights_mem_each ht hd _ (by
        simp only [DataW.weights, hu, List.mem_cons, List.mem_append]
        exact Or.inr (Or.inl (weights_mem_all (d := .lit (.string s.data.toList)) (List.mem_map.2 ⟨s, hs, rfl⟩) _ (by simp [DataW.weights]))))
      have := List.all_eq_true.1 h _ hm
      rw [Array.length_toList] at this
      exact of_decide_eq_true this
    · have h2 : ((l.map fun s => (DataW.lit (.string s.data.toList) : DataW H)).length + sp.length) * P.bytesOf e ≤ reachBytes := sized_slice h ht hd hu
      rw [List.length_map] at h2
      refine Nat.le_trans ?_ h2
      exact Nat.mul_le_mul_right _ (Nat.le_add_right _ _)
theorem sized_nums (h : (DataW.weightsEach P ts ds).all (· ≤ reachBytes) = true) {j : Nat} {t e : TypeId} {x : DataW H} {k : IntKind} {l : List Int} (ht : ts[j]? = some t) (hd : ds[j]? = some x) (hu : P.underlying t = some (.slice e))
    (hx : (x = .nil ∧ l = []) ∨ ∃ sp, x = .slice (l.map fun n => .lit (.int k n)) sp) : l.length * P.bytesOf e ≤ 140737488351232 := by
  rcases hx with ⟨_, rfl⟩ | ⟨sp, rfl⟩
  · simp
  · have h2 : ((l.map fun n => (DataW.lit (.int k n) : DataW H)).length + sp.length) * P.bytesOf e ≤ reachBytes := sized_slice h ht hd hu
    rw [List.length_map] at h2
    refine Nat.le_trans ?_ h2
    exact Nat.mul_le_mul_right _ (Nat.le_add_right _ _)
end
end Go.Fw

/- Plain words: numbers within their bounds, bytes as lists, rounds counted. -/
namespace Go.Fw
set_option linter.all false
open Go Go.RowKit

theorem i64_as (n : Int) : IntKind.i64.wrap n = if (9223372036854775808 : Int) ≤ n % 18446744073709551616 then n % 18446744073709551616 - 18446744073709551616 else n % 18446744073709551616 := by
  have h1 : ((2 : Int) ^ IntKind.i64.bits) = 18446744073709551616 := by decide
  have h2 : ((2 : Int) ^ (IntKind.i64.bits - 1)) = 9223372036854775808 := by decide
  unfold IntKind.wrap
  rw [h1, h2]
  by_cases h : (9223372036854775808 : Int) ≤ n % 18446744073709551616
  · rw [if_pos h]; exact if_pos (by simp [IntKind.signed]; exact h)
  · rw [if_neg h]; exact if_neg (by simp [IntKind.signed]; omega)
theorem w64 {n : Int} (h0 : -9223372036854775808 ≤ n) (h1 : n ≤ 9223372036854775807) : IntKind.i64.wrap n = n := by
  rw [i64_as]; split <;> omega
theorem wu8 {n : Int} (h0 : 0 ≤ n) (h1 : n < 256) : IntKind.u8.wrap n = n := by
  simp [IntKind.wrap, IntKind.bits, IntKind.signed]; omega
theorem wu32 {n : Int} (h0 : 0 ≤ n) (h1 : n < 4294967296) : IntKind.u32.wrap n = n := by
  simp [IntKind.wrap, IntKind.bits, IntKind.signed]; omega
theorem wu64 {n : Int} (h0 : 0 ≤ n) (h1 : n < 18446744073709551616) : IntKind.u64.wrap n = n := by
  simp [IntKind.wrap, IntKind.bits, IntKind.signed]; omega

theorem FUEL_eq : FUEL = 18446744073709551616 := by decide

/-- rounds that are known one by one -/
theorem iter_count {σ ρ : Type} {f : σ → Option (σ ⊕ ρ)} (st : Nat → σ) {n : Nat} {r : ρ} (h : ∀ i, i < n → f (st i) = some (.inl (st (i + 1)))) (hr : f (st n) = some (.inr r)) :
    ∀ {k : Nat}, n < k → iter f k (st 0) = some r := by
  have : ∀ m i, i + m = n → ∀ k, m < k → iter f k (st i) = some r := by
    intro m
    induction m with
    | zero =>
      intro i hi k hk
      obtain ⟨k, rfl⟩ : ∃ j, k = j + 1 := ⟨k - 1, by omega⟩
      have : i = n := by omega
      subst this
      exact iter_stop hr
    | succ m ih =>
      intro i hi k hk
      obtain ⟨k, rfl⟩ : ∃ j, k = j + 1 := ⟨k - 1, by omega⟩
      exact iter_next (h i (by omega)) (ih (i + 1) (by omega) k (by omega))
  exact fun {k} hk => this n 0 (by omega) k hk

/-- bytes of a list -/
def ofL (l : List UInt8) : ByteArray := ⟨l.toArray⟩
theorem ofL_surj (s : ByteArray) : s = ofL s.data.toList := by cases s; simp [ofL]
theorem ofL_inj {a b : List UInt8} (h : ofL a = ofL b) : a = b := by
  have := congrArg (fun s : ByteArray => s.data.toList) h
  simpa [ofL] using this
theorem ofL_size (l : List UInt8) : (ofL l).size = l.length := by simp [ofL, ByteArray.size]
theorem ofL_append (a b : List UInt8) : ofL a ++ ofL b = ofL (a ++ b) := by
  apply ByteArray.ext
  simp [ofL]
theorem ofL_toList (l : List UInt8) : (ofL l).data.toList = l := by simp [ofL]
theorem ofL_extract (l : List UInt8) (i j : Nat) : (ofL l).extract i j = ofL ((l.take j).drop i) := by
  apply ByteArray.ext
  apply Array.ext'
  simp [ofL, List.drop_take]
theorem ofL_get (l : List UInt8) (i : Nat) : (ofL l)[i]? = l[i]? := by
  by_cases h : i < l.length
  · rw [List.getElem?_eq_getElem h, getElem?_pos (ofL l) i (by rw [ofL_size]; exact h)]
    simp [ofL, ByteArray.getElem_eq_getElem_data]
  · rw [List.getElem?_eq_none (by omega), getElem?_neg (ofL l) i (by rw [ofL_size]; exact h)]
theorem bt_ofL (l : List UInt8) (j : Int) : bt (ofL l) j = ((l[j.toNat]?).getD 0).toNat := by unfold bt; rw [ofL_get]
theorem sbytes_ofL (l : List UInt8) : sbytes (ofL l) = l.map fun b => (b.toNat : Int) := by unfold sbytes; rw [ofL_toList]
theorem toL_ofL (l : List UInt8) : (ofL l).toList = l := by rw [ByteArray.toList_eq]; simp [ofL]
theorem bstr_ofL (l : List Int) : bstr l = ofL (l.map fun n => UInt8.ofNat n.toNat) := by
  have : ∀ (l : List Int) (r : List UInt8), l.foldl (fun r n => r.push (UInt8.ofNat n.toNat)) (ofL r) = ofL (r ++ l.map fun n => UInt8.ofNat n.toNat) := by
    intro l
    induction l with
    | nil => intro r; simp
    | cons n l ih =>
      intro r
      have hp : (ofL r).push (UInt8.ofNat n.toNat) = ofL (r ++ [UInt8.ofNat n.toNat]) := by apply ByteArray.ext; simp [ofL, ByteArray.push]
      rw [List.foldl_cons, hp, ih]
      simp
  have h := this l []
  rw [List.nil_append] at h
  exact h
theorem seqB_iff {a b : ByteArray} : seqB a b = true ↔ a = b := by
  rw [ofL_surj a, ofL_surj b]
  unfold seqB
  rw [toL_ofL, toL_ofL]
  constructor
  · intro h; rw [eq_of_beq h]
  · intro h; rw [ofL_inj h]; simp
theorem seqB_refl (a : ByteArray) : seqB a a = true := seqB_iff.2 rfl
theorem u8_back (b : UInt8) : UInt8.ofNat ((b.toNat : Int).toNat) = b := by simp
theorem at_pos {α : Type} {l : List α} {j : Int} {x : α} (h0 : 0 ≤ j) (h : l[j.toNat]? = some x) : at_ l j = some x := by unfold at_; rw [if_pos h0, h]
end Go.Fw
