/- What the printed functions are made of, and how their answers are taken apart. -/
import Derived.Test.YtilpkebkhibpeaaGreatDoorFwI
namespace Go.Fw
set_option linter.all false
open Go Go.RowKit

/-- a check: where it fails there is no answer -/
def chk {α : Type} (c : Prop) [Decidable c] (x : Option α) : Option α := if c then x else none
theorem chk_some {α : Type} {c : Prop} [Decidable c] {x : Option α} {v : α} (h : chk c x = some v) : c ∧ x = some v := by
  unfold chk at h
  split at h
  · exact ⟨‹_›, h⟩
  · cases h
theorem chk_pos {α : Type} {c : Prop} [Decidable c] {x : Option α} (h : c) : chk c x = x := if_pos h
theorem if_some {α : Type} {b : Bool} {x y : Option α} {v : α} (h : (if b then x else y) = some v) : (b = true ∧ x = some v) ∨ (b = false ∧ y = some v) := by
  cases b
  · exact .inr ⟨rfl, h⟩
  · exact .inl ⟨rfl, h⟩
theorem bind_some {α β : Type} {x : Option α} {f : α → Option β} {v : β} (h : x.bind f = some v) : ∃ a, x = some a ∧ f a = some v := by
  cases x with
  | none => cases h
  | some a => exact ⟨a, rfl, h⟩

/-- rounds, so many at most -/
def iter {σ ρ : Type} (f : σ → Option (σ ⊕ ρ)) : Nat → σ → Option ρ
  | 0, _ => none
  | k + 1, s => match f s with
    | none => none
    | some (.inl s') => iter f k s'
    | some (.inr r) => some r
theorem iter_some {σ ρ : Type} {f : σ → Option (σ ⊕ ρ)} {k : Nat} {s : σ} {v : ρ} (h : iter f k s = some v) :
    ∃ k' r, k = k' + 1 ∧ f s = some r ∧ (match r with | .inl s' => iter f k' s' = some v | .inr r => r = v) := by
  cases k with
  | zero => cases h
  | succ k =>
    rw [iter] at h
    cases hf : f s with
    | none => rw [hf] at h; cases h
    | some r =>
      rw [hf] at h
      refine ⟨k, r, rfl, rfl, ?_⟩
      cases r with
      | inl s' => exact h
      | inr r => exact Option.some.inj h
theorem iter_mono {σ ρ : Type} {f : σ → Option (σ ⊕ ρ)} {v : ρ} : ∀ {k k' : Nat} {s : σ}, iter f k s = some v → k ≤ k' → iter f k' s = some v
  | 0, _, _, h, _ => by cases h
  | k + 1, k', s, h, hk => by
    obtain ⟨k', rfl⟩ : ∃ m, k' = m + 1 := ⟨k' - 1, by omega⟩
    rw [iter] at h ⊢
    cases hf : f s with
    | none => rw [hf] at h; cases h
    | some r =>
      rw [hf] at h
      cases r with
      | inl s' => exact iter_mono h (by omega)
      | inr r => exact h
theorem iter_next {σ ρ : Type} {f : σ → Option (σ ⊕ ρ)} {k : Nat} {s s' : σ} {v : Option ρ} (h : f s = some (.inl s')) (h' : iter f k s' = v) : iter f (k + 1) s = v := by rw [iter, h]; exact h'
theorem iter_stop {σ ρ : Type} {f : σ → Option (σ ⊕ ρ)} {k : Nat} {s : σ} {r : ρ} (h : f s = some (.inr r)) : iter f (k + 1) s = some r := by rw [iter, h]

/-- as many rounds as there may be -/
def FUEL : Nat := 2 ^ 64

/-- a part of a function that may leave it -/
def thru {α β : Type} (r : Option (α ⊕ β)) (f : α → Option β) : Option β :=
  match r with
  | none => none
  | some (.inl a) => f a
  | some (.inr b) => some b
def Thru {α β : Type} (r : α ⊕ β) (f : α → Option β) (v : β) : Prop :=
  match r with
  | .inl a => f a = some v
  | .inr b => b = v
theorem thru_some {α β : Type} {r : Option (α ⊕ β)} {f : α → Option β} {v : β} (h : thru r f = some v) : ∃ a, r = some a ∧ Thru a f v := by
  cases r with
  | none => cases h
  | some a =>
    refine ⟨a, rfl, ?_⟩
    cases a with
    | inl a => exact h
    | inr b => exact Option.some.inj h

def seqB (a b : ByteArray) : Bool := a.toList == b.toList
def sltB (a b : ByteArray) : Bool := Op.bytesLess a.toList b.toList
def iand (k : IntKind) (x y : Int) : Int := k.wrap (BitVec.ofInt k.bits x &&& BitVec.ofInt k.bits y).toNat
def ior (k : IntKind) (x y : Int) : Int := k.wrap (BitVec.ofInt k.bits x ||| BitVec.ofInt k.bits y).toNat
def ixor (k : IntKind) (x y : Int) : Int := k.wrap (BitVec.ofInt k.bits x ^^^ BitVec.ofInt k.bits y).toNat
def iandNot (k : IntKind) (x y : Int) : Int := k.wrap (BitVec.ofInt k.bits x &&& ~~~(BitVec.ofInt k.bits y)).toNat

/-- some are brought to the front: each by its place among those that are left -/
def pulls : List Nat → List HP → List HP
  | [], l => l
  | k :: ks, l => match l[k]? with
    | some p => p :: pulls ks (l.eraseIdx k)
    | none => l
theorem perm_pulls : ∀ (ks : List Nat) (l : List HP), l.Perm (pulls ks l)
  | [], _ => .refl _
  | k :: ks, l => by
    unfold pulls
    cases h : l[k]? with
    | none => exact .refl _
    | some p => exact (perm_front h).trans ((perm_pulls ks _).cons p)
theorem sat_pulls {w0 : World} {l F G : List HP} (ks : List Nat) (h : pulls ks l = F ++ G) {w : World} (hs : SAT w0 l w) : SAT w0 F w :=
  ⟨sat_take (h ▸ sat_perm (perm_pulls ks l) hs.1), hs.2⟩
/-- those that are brought to the front are let go, but for the wanted ones -/
theorem sat_to {w0 : World} {l F : List HP} (ks : List Nat) (g : Nat) (h : (pulls ks l).drop g = F) {w : World} (hs : SAT w0 l w) : SAT w0 F w := by
  subst h
  have := sat_perm (perm_pulls ks l) hs.1
  rw [← List.take_append_drop g (pulls ks l)] at this
  exact ⟨sat_drops this, hs.2⟩
def at_ {α : Type} (l : List α) (j : Int) : Option α := if 0 ≤ j then l[j.toNat]? else none
theorem at_some {α : Type} {l : List α} {j : Int} {x : α} (h : at_ l j = some x) : 0 ≤ j ∧ l[j.toNat]? = some x := by
  unfold at_ at h
  split at h
  · exact ⟨‹_›, h⟩
  · cases h
theorem at_lt {α : Type} {l : List α} {j : Int} {x : α} (h : at_ l j = some x) : j < l.length := by
  obtain ⟨h0, h1⟩ := at_some h
  have := (List.getElem?_eq_some_iff.1 h1).1
  omega
theorem ro_nil {α : Type} (I : Hl) (e : Enc α) : ro I e none 0 ([] : List α) := ⟨Nat.le_refl _, Nat.zero_le _, fun _ => rfl, fun j v h => by simp [Enc.all] at h⟩
theorem perm_of_pulls {l F G : List HP} (ks : List Nat) (h : pulls ks l = F ++ G) : l.Perm (F ++ G) := h ▸ perm_pulls ks l

section
variable {P : Program} {ops : Array Oper} {Q : Exit → Act → World → Prop} {i n tl : Nat} {L : Slots} {S : World → Prop}
theorem nw_ow (h : OW P ops Q (i + 1) n L S) : NW (wpList P ops Q (ops.toList.drop (i + 1))) n L S := h
/-- room for so many elements of so many bytes -/
def room (m bytes : Nat) : Prop := m ≤ 4611686018427387904 ∧ 2 * m * bytes ≤ 281474976710656
instance (m bytes : Nat) : Decidable (room m bytes) := inferInstanceAs (Decidable (_ ∧ _))
theorem sat_own_nil {α : Type} {w0 w : World} {l : List HP} (e : Enc α) (E : Nat) (hs : SAT w0 l w) : SAT w0 (own e E none 0 [] :: l) w :=
  ⟨⟨fun _ => none, (fun _ _ h => by cases h), own_nil e E _, sat_mono (g' := (hp w).minus fun _ => none) (fun b o h => Hl.minus_some.2 ⟨h, rfl⟩) hs.1⟩, hs.2⟩
theorem room_max {m : Int} {b : Nat} (h0 : 0 ≤ m) (h : room m.toNat b) : m ≤ 4611686018427387904 := by have := h.1; omega
theorem room_bytes {m : Int} {b : Nat} (h0 : 0 ≤ m) (h : room m.toNat b) : (b : Int) * m ≤ 281474976710656 := by
  have h2 := h.2
  have h3 : m.toNat * b ≤ 281474976710656 := Nat.le_trans (by rw [Nat.mul_assoc]; omega) h2
  have h4 : ((b * m.toNat : Nat) : Int) ≤ 281474976710656 := by rw [Nat.mul_comm]; omega
  rw [Int.natCast_mul, Int.toNat_of_nonneg h0] at h4
  exact h4
theorem src_strL {S : World → Prop} {tx : TypeId} {s : ByteArray} (htx : P.underlying tx = some .string) : SrcIs P 1 tx (.string s) (sbytes s).length ((eInt .u8).all (sbytes s)) S := by
  have : (eInt .u8).all (sbytes s) = byteCells s := by rw [all_u8]; simp [sbytes, byteCells]
  rw [this, sbytes_length]
  exact src_str htx
theorem aw_state {T S' : World → Prop} {f m : Nat} (hs : ∀ w, S w → S' w) (h : AW P ops Q tl T f m n L S') : AW P ops Q tl T f m n L S := fun a w hf h' => h a w hf (hs w h')
theorem ow_freeze {w0 : World} {I : Hl} {α : Type} {e : Enc α} {E : Nat} {p : Option Addr} {c : Nat} {l : List α} {G : List HP} (hs : ∀ w, S w → SAT w0 (imm I :: own e E p c l :: G) w) (h : ∀ J, Hl.sub I J → ro J e p c l → OW P ops Q i n L (SAT w0 (imm J :: G))) : OW P ops Q i n L S := by
  intro a w hf hS
  obtain ⟨J, h1, h2, h3⟩ := freeze (hs w hS)
  exact h J h1 h2 a w hf h3
theorem aw_freeze {T : World → Prop} {f m : Nat} {w0 : World} {I : Hl} {α : Type} {e : Enc α} {E : Nat} {p : Option Addr} {c : Nat} {l : List α} {G : List HP} (hs : ∀ w, S w → SAT w0 (imm I :: own e E p c l :: G) w) (h : ∀ J, Hl.sub I J → ro J e p c l → AW P ops Q tl T f m n L (SAT w0 (imm J :: G))) : AW P ops Q tl T f m n L S := by
  intro a w hf hS
  obtain ⟨J, h1, h2, h3⟩ := freeze (hs w hS)
  exact h J h1 h2 a w hf h3
theorem aw_H {T : World → Prop} {f m : Nat} {w0 : World} {H H' : List HP} (h : H = H') (k : AW P ops Q tl T f m n L (SAT w0 H')) : AW P ops Q tl T f m n L (SAT w0 H) := h ▸ k
def optC {α β : Type} (x : Option α) (a : Option β) (b : α → Option β) : Option β := match x with
  | none => a
  | some y => b y
theorem nw_H {K : Act → World → Prop} {w0 : World} {H H' : List HP} (h : H = H') (k : NW K n L (SAT w0 H')) : NW K n L (SAT w0 H) := h ▸ k
theorem ow_H {w0 : World} {H H' : List HP} (h : H = H') (k : OW P ops Q i n L (SAT w0 H')) : OW P ops Q i n L (SAT w0 H) := h ▸ k

/-- a result, in a slot or in memory -/
theorem rr_tmp {w0 : World} {H : List HP} {t : Nat} {v : Value} (hl : look L t = some v) : ∀ a w, Fr n L a → SAT w0 H w → resRun P a.tmps w (.tmp t) v := fun a w hf _ => hf.get t v hl
theorem rr_cell {w0 : World} {H : List HP} {a b off : Nat} {cs : Array Value} {T t : TypeId} {v : Value} (k : Nat) (hl : look L a = some (.pointer (some ⟨b, off, none⟩))) (hk : H[k]? = some (pt b cs T)) (hv : ptLoad P t cs off = some v) :
    ∀ c w, Fr n L c → SAT w0 H w → resRun P c.tmps w (.cell a t) v := fun c w hf hs => ⟨_, hf.get a _ hl, run_loadVar_pt (pt_in hk hs.1) hv⟩
theorem pw_index_ro {K : Act → World → Prop} {o : Oper} {α : Type} {e : Enc α} {E : Nat} {p : Option Addr} {c : Nat} {l : List α} {I : Hl} {t : TypeId} {x ix : Operand} {kd : IntKind} {j : Int} {y : α} (sz : Nat) (hr : ro I e p c l) (ho : ops[i]? = some o) (hop : o.op = .indexAddr t x ix) (hd : dstOk n o.dst = true) (hw : wantedL ops L o = some true) (hkn : knows L o = true)
    (ht : slOf P t = some (E, sz)) (hsz : e.sz = sz) (hx : rho L x = .slice p l.length c) (hix : rho L ix = .int kd j) (hy : at_ l j = some y) (h : ∀ q : Addr, elem I e q y → NW K n (putL o.dst (.pointer (some q)) L) S) : PW P ops Q i n L S K := by
  obtain ⟨h0, h1⟩ := at_some hy
  obtain ⟨hu, inf, hi, hs⟩ := slOf_spec ht
  obtain ⟨q, hq, hr⟩ := q_index_ro (P := P) (S := S) sz hr hop (by rw [hu]; simp [hi, hs]) hsz hx hix h0 h1
  exact pw_quiet ho hd hw hkn hr (h q hq)
theorem aw_index_ro (i : Nat) {T : World → Prop} {f m m' : Nat} {o : Oper} {α : Type} {e : Enc α} {E : Nat} {p : Option Addr} {c : Nat} {l : List α} {I : Hl} {t : TypeId} {x ix : Operand} {kd : IntKind} {j : Int} {y : α} (sz : Nat) (hr : ro I e p c l) (ho : ops[i]? = some o) (hop : o.op = .indexAddr t x ix) (hd : dstOk n o.dst = true) (hw : wantedL ops L o = some true) (hkn : knows L o = true)
    (hmay : mayNow ops tl m i = true) (hm' : m ||| 2 ^ i = m') (hQ : Calm Q) (hT : ∀ w, S w → T w)
    (ht : slOf P t = some (E, sz)) (hsz : e.sz = sz) (hx : rho L x = .slice p l.length c) (hix : rho L ix = .int kd j) (hy : at_ l j = some y) (h : ∀ q : Addr, elem I e q y → AW P ops Q tl T f m' n (putL o.dst (.pointer (some q)) L) S) : AW P ops Q tl T (f + 1) m n L S := by
  obtain ⟨h0, h1⟩ := at_some hy
  obtain ⟨hu, inf, hi, hs⟩ := slOf_spec ht
  obtain ⟨q, hq, hr⟩ := q_index_ro (P := P) (S := fun _ => True) sz hr hop (by rw [hu]; simp [hi, hs]) hsz hx hix h0 h1
  exact aw_pure i ho hd hw hkn hmay hm' hQ hT hr (h q hq)
theorem pw_slice_ro {K : Act → World → Prop} {o : Oper} {α : Type} {e : Enc α} {E : Nat} {p : Option Addr} {c : Nat} {l : List α} {I : Hl} {t : TypeId} {x : Operand} {lo hi : Option Operand} {a b : Int} (sz : Nat) (hr : ro I e p c l) (ho : ops[i]? = some o) (hop : o.op = .slice t x lo hi none) (hd : dstOk n o.dst = true) (hw : wantedL ops L o = some true) (hkn : knows L o = true)
    (hsl : slOf P t = some (E, sz)) (hsz : e.sz = sz) (hx : rho L x = .slice p l.length c) (ha : bnd L 0 lo = some a) (hb : bnd L l.length hi = some b) (hc : 0 ≤ a ∧ a ≤ b ∧ b ≤ l.length)
    (h : ∀ p' c', ro I e p' c' ((l.drop a.toNat).take (b.toNat - a.toNat)) → NW K n (putL o.dst (.slice p' ((l.drop a.toNat).take (b.toNat - a.toNat)).length c') L) S) : PW P ops Q i n L S K := by
  obtain ⟨p', c', h1, h2⟩ := q_slice_ro (P := P) (S := S) sz hr hop hsl hsz hx ha hb hc.1 hc.2.1 hc.2.2
  exact pw_quiet ho hd hw hkn h2 (h p' c' h1)
theorem aw_slice_ro (i : Nat) {T : World → Prop} {f m m' : Nat} {o : Oper} {α : Type} {e : Enc α} {E : Nat} {p : Option Addr} {c : Nat} {l : List α} {I : Hl} {t : TypeId} {x : Operand} {lo hi : Option Operand} {a b : Int} (sz : Nat) (hr : ro I e p c l) (ho : ops[i]? = some o) (hop : o.op = .slice t x lo hi none) (hd : dstOk n o.dst = true) (hw : wantedL ops L o = some true) (hkn : knows L o = true)
    (hmay : mayNow ops tl m i = true) (hm' : m ||| 2 ^ i = m') (hQ : Calm Q) (hT : ∀ w, S w → T w)
    (hsl : slOf P t = some (E, sz)) (hsz : e.sz = sz) (hx : rho L x = .slice p l.length c) (ha : bnd L 0 lo = some a) (hb : bnd L l.length hi = some b) (hc : 0 ≤ a ∧ a ≤ b ∧ b ≤ l.length)
    (h : ∀ p' c', ro I e p' c' ((l.drop a.toNat).take (b.toNat - a.toNat)) → AW P ops Q tl T f m' n (putL o.dst (.slice p' ((l.drop a.toNat).take (b.toNat - a.toNat)).length c') L) S) : AW P ops Q tl T (f + 1) m n L S := by
  obtain ⟨p', c', h1, h2⟩ := q_slice_ro (P := P) (S := fun _ => True) sz hr hop hsl hsz hx ha hb hc.1 hc.2.1 hc.2.2
  exact aw_pure i ho hd hw hkn hmay hm' hQ hT h2 (h p' c' h1)
section
variable {fn : Func} {R : Value → List HP → Prop} {F H H1 : List HP} {w0 : World} {r1 r2 r3 r4 : ResultVar} {v1 v2 v3 v4 : Value}
theorem fin_of {v : Value} (hr : ∀ a w, Fr n L a → SAT w0 H w → (results fn a.tmps).run P w = .ok v w) (hs : ∀ w, SAT w0 H w → SAT w0 (H1 ++ F) w) (hR : R v H1) : ∀ a w, Fr n L a → SAT w0 H w →
    a.defers = [] ∧ ∃ v, (results fn a.tmps).run P w = .ok v w ∧ ∃ r H', Ending.returned v = .returned r ∧ R r H' ∧ Sat (H' ++ F) (hp w) ∧ Keep w0 w :=
  fun a w hf hsat => ⟨hf.defers, v, hr a w hf hsat, v, H1, rfl, hR, (hs w hsat).1, (hs w hsat).2⟩
theorem fin0 (hs : ∀ w, SAT w0 H w → SAT w0 (H1 ++ F) w) (hf : fn.results = #[]) (hR : R (.tuple #[]) H1) : EW (FinQ P fn R F w0) .ret n L (SAT w0 H) :=
  fin_of (fun _ _ _ _ => results0 hf) hs hR
theorem fin0n (hs : ∀ w, SAT w0 H w → SAT w0 (H1 ++ F) w) (hf : fn.results = #[]) (hR : R (.tuple #[]) H1) : EW (FinQ P fn R F w0) .normal n L (SAT w0 H) :=
  fin_of (fun _ _ _ _ => results0 hf) hs hR
theorem fin1 (hs : ∀ w, SAT w0 H w → SAT w0 (H1 ++ F) w) (hf : fn.results = #[r1]) (h1 : ∀ a w, Fr n L a → SAT w0 H w → resRun P a.tmps w r1 v1) (hR : R v1 H1) : EW (FinQ P fn R F w0) .ret n L (SAT w0 H) :=
  fin_of (fun a w x y => results1 hf (h1 a w x y)) hs hR
theorem fin2 (hs : ∀ w, SAT w0 H w → SAT w0 (H1 ++ F) w) (hf : fn.results = #[r1, r2]) (h1 : ∀ a w, Fr n L a → SAT w0 H w → resRun P a.tmps w r1 v1) (h2 : ∀ a w, Fr n L a → SAT w0 H w → resRun P a.tmps w r2 v2) (hR : R (.tuple #[v1, v2]) H1) : EW (FinQ P fn R F w0) .ret n L (SAT w0 H) :=
  fin_of (fun a w x y => results2 hf (h1 a w x y) (h2 a w x y)) hs hR
theorem fin3 (hs : ∀ w, SAT w0 H w → SAT w0 (H1 ++ F) w) (hf : fn.results = #[r1, r2, r3]) (h1 : ∀ a w, Fr n L a → SAT w0 H w → resRun P a.tmps w r1 v1) (h2 : ∀ a w, Fr n L a → SAT w0 H w → resRun P a.tmps w r2 v2) (h3 : ∀ a w, Fr n L a → SAT w0 H w → resRun P a.tmps w r3 v3) (hR : R (.tuple #[v1, v2, v3]) H1) : EW (FinQ P fn R F w0) .ret n L (SAT w0 H) :=
  fin_of (fun a w x y => results3 hf (h1 a w x y) (h2 a w x y) (h3 a w x y)) hs hR
theorem fin4 (hs : ∀ w, SAT w0 H w → SAT w0 (H1 ++ F) w) (hf : fn.results = #[r1, r2, r3, r4]) (h1 : ∀ a w, Fr n L a → SAT w0 H w → resRun P a.tmps w r1 v1) (h2 : ∀ a w, Fr n L a → SAT w0 H w → resRun P a.tmps w r2 v2) (h3 : ∀ a w, Fr n L a → SAT w0 H w → resRun P a.tmps w r3 v3) (h4 : ∀ a w, Fr n L a → SAT w0 H w → resRun P a.tmps w r4 v4) (hR : R (.tuple #[v1, v2, v3, v4]) H1) : EW (FinQ P fn R F w0) .ret n L (SAT w0 H) :=
  fin_of (fun a w x y => results4 hf (h1 a w x y) (h2 a w x y) (h3 a w x y) (h4 a w x y)) hs hR
end
theorem ow_slots {L' : Slots} (hl : L = L') (h : OW P ops Q i n L' S) : OW P ops Q i n L S := hl ▸ h
theorem aw_slots {T : World → Prop} {f m : Nat} {L' : Slots} (hl : L = L') (h : AW P ops Q tl T f m n L' S) : AW P ops Q tl T f m n L S := hl ▸ h
end
end Go.Fw
