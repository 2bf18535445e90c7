/- Slices of three bounds; open regions where one of several operations is done next. -/
import Derived.Test.YtilpkebkhibpeaaGreatDoorFwO
namespace Go.Fw
set_option linter.all false
open Go Go.RowKit
section
variable {P : Program} {ops : Array Oper} {Q : Exit → Act → World → Prop} {i n tl : Nat} {L : Slots} {S : World → Prop} {o : Oper} {w0 : World} {H : List HP} {K : Act → World → Prop} {α : Type} {e : Enc α} {E : Nat} {p : Option Addr} {c : Nat} {l : List α} {I : Hl}

theorem run_bounds3 {w : World} {len cap : Nat} {lo : Option Operand} {hi mx : Operand} {a b m : Int} (ha : bnd L 0 lo = some a) (hb : bnd L len (some hi) = some b) (hm : bnd L len (some mx) = some m) (h0 : 0 ≤ a) (hab : a ≤ b) (hbm : b ≤ m) (hbc : m ≤ cap) :
    (Instr.sliceBounds true len cap (lo.map (rho L)) (some (rho L hi)) (some (rho L mx))).run P w = .ok (a.toNat, b.toNat, m.toNat) w := by
  have h1 : (0 : Int) ≤ b := by omega
  have h3 : (0 : Int) ≤ m := by omega
  have h2 : a ≤ max b 0 := by omega
  have h4 : b ≤ max m 0 := by omega
  simp only [bnd] at hb hm
  cases hy : rho L hi <;> rw [hy] at hb <;> simp only [Option.some.injEq] at hb <;> first | (cases hb; done) | skip
  cases hz : rho L mx <;> rw [hz] at hm <;> simp only [Option.some.injEq] at hm <;> first | (cases hm; done) | skip
  subst hb; subst hm
  cases lo with
  | none => simp only [bnd, Option.some.injEq] at ha; subst ha; simp [Instr.sliceBounds, Instr.sliceBound, asIntOf, h1, h3, h4, hbc]
  | some x =>
    simp only [bnd] at ha
    cases hx : rho L x <;> rw [hx] at ha <;> simp only [Option.some.injEq] at ha <;> first | (cases ha; done) | skip
    subst ha
    simp [Instr.sliceBounds, Instr.sliceBound, asIntOf, hx, h0, h1, h2, h3, h4, hbc]

/-- 's[a:b:m]' of a slice that is never written -/
theorem q_slice3_ro {t : TypeId} {x : Operand} {lo : Option Operand} {hi mx : Operand} {a b m : Int} (sz : Nat) (hr : ro I e p c l) (hop : o.op = .slice t x lo (some hi) (some mx)) (hsl : slOf P t = some (E, sz)) (hsz : e.sz = sz) (hx : rho L x = .slice p l.length c)
    (ha : bnd L 0 lo = some a) (hb : bnd L l.length (some hi) = some b) (hm : bnd L l.length (some mx) = some m) (h0 : 0 ≤ a) (hab : a ≤ b) (hbm : b ≤ m) (hbc : m ≤ l.length) :
    ∃ p' c', ro I e p' c' ((l.drop a.toNat).take (b.toNat - a.toNat)) ∧ RunIs P S L o (.slice p' ((l.drop a.toNat).take (b.toNat - a.toNat)).length c') := by
  subst hsz
  obtain ⟨hu, inf, hi', hisz⟩ := slOf_spec hsl
  have hlc := hr.le
  have hlen : ((l.drop a.toNat).take (b.toNat - a.toNat)).length = b.toNat - a.toNat := by simp; omega
  refine ⟨if m.toNat = a.toNat then p else p.map (·.add (a.toNat * e.sz)), m.toNat - a.toNat, ⟨by rw [hlen]; omega, by have := hr.max; omega, fun hn => ?_, fun j v hj => ?_⟩, fun w _ => ?_⟩
  · split at hn
    · omega
    · cases p with
      | none => have := hr.nil rfl; omega
      | some q => cases hn
  · rw [Enc.all_take, Enc.all_drop] at hj
    rw [List.getElem?_take] at hj
    split at hj <;> first | (cases hj; done) | skip
    rename_i hjl
    rw [List.getElem?_drop] at hj
    obtain ⟨q, hq, hcell⟩ := hr.cells _ _ hj
    subst hq
    have hne : m.toNat ≠ a.toNat := by
      intro hc
      have : b.toNat - a.toNat = 0 := by omega
      rw [this] at hjl; omega
    rw [if_neg hne]
    exact ⟨_, rfl, by rw [add_add]; exact hcell⟩
  · rw [hlen]
    have hbd := run_bounds3 (P := P) (w := w) (len := l.length) (cap := c) ha hb hm h0 hab hbm (by omega)
    simp [execOp, hop, hx, Instr.sliceAt, Instr.slice, run_underlying hu, hbd, sizeOf, typeInfo, hi', hisz]
theorem pw_slice3_ro {t : TypeId} {x : Operand} {lo : Option Operand} {hi mx : Operand} {a b m : Int} (sz : Nat) (hr : ro I e p c l) (ho : ops[i]? = some o) (hop : o.op = .slice t x lo (some hi) (some mx)) (hd : dstOk n o.dst = true) (hw : wantedL ops L o = some true) (hkn : knows L o = true)
    (hsl : slOf P t = some (E, sz)) (hsz : e.sz = sz) (hx : rho L x = .slice p l.length c) (ha : bnd L 0 lo = some a) (hb : bnd L l.length (some hi) = some b) (hm : bnd L l.length (some mx) = some m) (hc : 0 ≤ a ∧ a ≤ b ∧ b ≤ m ∧ m ≤ l.length)
    (h : ∀ p' c', ro I e p' c' ((l.drop a.toNat).take (b.toNat - a.toNat)) → NW K n (putL o.dst (.slice p' ((l.drop a.toNat).take (b.toNat - a.toNat)).length c') L) S) : PW P ops Q i n L S K := by
  obtain ⟨p', c', h1, h2⟩ := q_slice3_ro (P := P) (S := S) sz hr hop hsl hsz hx ha hb hm hc.1 hc.2.1 hc.2.2.1 hc.2.2.2
  exact pw_quiet ho hd hw hkn h2 (h p' c' h1)
theorem aw_slice3_ro (i : Nat) {T : World → Prop} {f mm mm' : Nat} {t : TypeId} {x : Operand} {lo : Option Operand} {hi mx : Operand} {a b m : Int} (sz : Nat) (hr : ro I e p c l) (ho : ops[i]? = some o) (hop : o.op = .slice t x lo (some hi) (some mx)) (hd : dstOk n o.dst = true) (hw : wantedL ops L o = some true) (hkn : knows L o = true)
    (hmay : mayNow ops tl mm i = true) (hm' : mm ||| 2 ^ i = mm') (hQ : Calm Q) (hT : ∀ w, S w → T w)
    (hsl : slOf P t = some (E, sz)) (hsz : e.sz = sz) (hx : rho L x = .slice p l.length c) (ha : bnd L 0 lo = some a) (hb : bnd L l.length (some hi) = some b) (hm : bnd L l.length (some mx) = some m) (hc : 0 ≤ a ∧ a ≤ b ∧ b ≤ m ∧ m ≤ l.length)
    (h : ∀ p' c', ro I e p' c' ((l.drop a.toNat).take (b.toNat - a.toNat)) → AW P ops Q tl T f mm' n (putL o.dst (.slice p' ((l.drop a.toNat).take (b.toNat - a.toNat)).length c') L) S) : AW P ops Q tl T (f + 1) mm n L S := by
  obtain ⟨p', c', h1, h2⟩ := q_slice3_ro (P := P) (S := fun _ => True) sz hr hop hsl hsz hx ha hb hm hc.1 hc.2.1 hc.2.2.1 hc.2.2.2
  exact aw_pure i ho hd hw hkn hmay hm' hQ hT h2 (h p' c' h1)

/-- where one of several is done next -/
theorem aw_many (is : List Nat) {T : World → Prop} {f m : Nat} (hne : is.isEmpty = false) (hr : Region.ready .any ops (bits ops.size m) = is)
    (h : ∀ i ∈ is, PW P ops Q i n L S fun a w => (off (bits ops.size (m ||| 2 ^ i)) tl → T w) ∧ wpAnyT P ops Q tl T f (bits ops.size (m ||| 2 ^ i)) a w) : AW P ops Q tl T (f + 1) m n L S := by
  intro a w hf hs
  have hk : (Region.ready .any ops (bits ops.size m) = [] → Q .normal a w) ∧
      ∀ j ∈ Region.ready .any ops (bits ops.size m), wpOp P ops Q j (fun a' w' => (off ((bits ops.size m).setIfInBounds j true) tl → T w') ∧ wpAnyT P ops Q tl T f ((bits ops.size m).setIfInBounds j true) a' w') a w := by
    refine ⟨(fun h0 => by rw [hr] at h0; subst h0; cases hne), fun j hj => ?_⟩
    rw [hr] at hj
    rw [bits_set]
    exact h j hj a w hf hs
  exact hk
theorem aw_two (i j : Nat) {T : World → Prop} {f m mi mj : Nat} (hr : Region.ready .any ops (bits ops.size m) = [i, j]) (hi : m ||| 2 ^ i = mi) (hj : m ||| 2 ^ j = mj)
    (h1 : PW P ops Q i n L S fun a w => (off (bits ops.size mi) tl → T w) ∧ wpAnyT P ops Q tl T f (bits ops.size mi) a w)
    (h2 : PW P ops Q j n L S fun a w => (off (bits ops.size mj) tl → T w) ∧ wpAnyT P ops Q tl T f (bits ops.size mj) a w) : AW P ops Q tl T (f + 1) m n L S := by
  subst hi; subst hj
  refine aw_many [i, j] rfl hr fun k hk => ?_
  simp only [List.mem_cons, List.not_mem_nil, or_false] at hk
  rcases hk with rfl | rfl
  · exact h1
  · exact h2
theorem aw_three (i j k : Nat) {T : World → Prop} {f m mi mj mk : Nat} (hr : Region.ready .any ops (bits ops.size m) = [i, j, k]) (hi : m ||| 2 ^ i = mi) (hj : m ||| 2 ^ j = mj) (hk : m ||| 2 ^ k = mk)
    (h1 : PW P ops Q i n L S fun a w => (off (bits ops.size mi) tl → T w) ∧ wpAnyT P ops Q tl T f (bits ops.size mi) a w)
    (h2 : PW P ops Q j n L S fun a w => (off (bits ops.size mj) tl → T w) ∧ wpAnyT P ops Q tl T f (bits ops.size mj) a w)
    (h3 : PW P ops Q k n L S fun a w => (off (bits ops.size mk) tl → T w) ∧ wpAnyT P ops Q tl T f (bits ops.size mk) a w) : AW P ops Q tl T (f + 1) m n L S := by
  subst hi; subst hj; subst hk
  refine aw_many [i, j, k] rfl hr fun q hq => ?_
  simp only [List.mem_cons, List.not_mem_nil, or_false] at hq
  rcases hq with rfl | rfl | rfl
  · exact h1
  · exact h2
  · exact h3
end
end Go.Fw
