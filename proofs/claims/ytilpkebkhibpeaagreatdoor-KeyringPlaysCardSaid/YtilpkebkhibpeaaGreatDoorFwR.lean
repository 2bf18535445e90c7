/- Calls whose worlds are known otherwise; a text that is built: strings.Builder. -/
import Derived.Test.YtilpkebkhibpeaaGreatDoorFwQ
import Derived.Lib.UnsafeStr
import Derived.Lib.Repeat
namespace Go.Fw
set_option linter.all false
open Go Go.RowKit

theorem nw_state {K : Act → World → Prop} {n : Nat} {L : Slots} {S S' : World → Prop} (hs : ∀ w, S w → S' w) (h : NW K n L S') : NW K n L S := fun a w hf h' => h a w hf (hs w h')

theorem sub_below {w w' : World} (h : Below w.heap.size w w') : Hl.sub (hp w) (hp w') := fun b o e => by
  unfold hp at e ⊢
  have hlt := (Array.getElem?_eq_some_iff.1 e).1
  rw [h.block b hlt]; exact e
theorem keep_below {B : Nat} {w w' : World} (h : Below B w w') : Keep w w' := ⟨h.os, h.tape, h.output⟩
/-- a call that turns nothing of what was -/
theorem tr_below {P : Program} {f : FuncId} {args : List Value} {H : List HP} {r : Value} (h : ∀ w, Calls P f args.toArray w fun e w' => e = .returned r ∧ Below w.heap.size w w') : Tr P f args H (fun r' H' => r' = r ∧ H' = H) := by
  intro F w hs
  refine (h w).mono ?_
  rintro e w' ⟨rfl, hb⟩
  exact ⟨r, H, rfl, ⟨rfl, rfl⟩, sat_mono (sub_below hb) hs, keep_below hb⟩
theorem tr_same {P : Program} {f : FuncId} {args : List Value} {H : List HP} {r : Value} (h : ∀ w, Calls P f args.toArray w fun e w' => e = .returned r ∧ w' = w) : Tr P f args H (fun r' H' => r' = r ∧ H' = H) := by
  intro F w hs
  refine (h w).mono ?_
  rintro e w' ⟨rfl, rfl⟩
  exact ⟨r, H, rfl, ⟨rfl, rfl⟩, hs, Keep.refl _⟩

theorem tr_weak {P : Program} {f : FuncId} {args : List Value} {H : List HP} {R R' : Value → List HP → Prop} (h : Tr P f args H R) (hR : ∀ r H', R r H' → R' r H') : Tr P f args H R' := by
  intro F w hs
  refine (h F w hs).mono ?_
  rintro e w' ⟨r, H', he, hr, hs', hk⟩
  exact ⟨r, H', he, hR r H' hr, hs', hk⟩
/-- of nothing -/
def emp : HP := fun _ => True

theorem sbytes_append (a b : ByteArray) : sbytes (a ++ b) = sbytes a ++ sbytes b := by simp [sbytes]
theorem sbytes_nil {s : ByteArray} (h : sbytes s = []) : s = ByteArray.empty := by
  have : s.data.toList = [] := by simpa [sbytes] using h
  cases s with
  | mk d => apply ByteArray.ext; simp at this; simp [this]

/-! ### copyCheck -/
section
variable {P : Program} {f : FuncId} {b T : Nat} {v : Value}
theorem tr_copy_fresh (h : ∀ w : World, w.cell? ⟨b, 0, none⟩ = some (.pointer none) → w.shape? b = some (T, 2) → w.frozen? ⟨b, 0, none⟩ = false →
      Calls P f #[.pointer (some ⟨b, 0, none⟩)] w fun e w' => e = .returned (.tuple #[]) ∧ w' = w.setCell ⟨b, 0, none⟩ (.pointer (some ⟨b, 0, none⟩))) {I : Hl} {G : List HP} :
    Tr P f [.pointer (some ⟨b, 0, none⟩)] (imm I :: pt b #[.pointer none, v] T :: G) (fun r H' => r = .tuple #[] ∧ H' = imm I :: pt b #[.pointer (some ⟨b, 0, none⟩), v] T :: G) := by
  intro F w hs
  have hg := pt_in (k := 1) (H := (imm I :: pt b #[.pointer none, v] T :: G) ++ F) rfl hs
  have h0 : w.cell? ⟨b, 0, none⟩ = some (.pointer none) := by rw [cell_of hg]; rfl
  have h1 : w.shape? b = some (T, 2) := by unfold hp at hg; simp [World.shape?, hg]
  have h2 : w.frozen? ⟨b, 0, none⟩ = false := by rw [frozen_of hg]; simp
  refine (h w h0 h1 h2).mono ?_
  rintro e w' ⟨rfl, rfl⟩
  refine ⟨_, _, rfl, ⟨rfl, rfl⟩, ?_, ⟨rfl, rfl, rfl⟩⟩
  exact sat_upd_pt (k := 1) (H := (imm I :: pt b #[.pointer none, v] T :: G) ++ F) (cs' := #[.pointer (some ⟨b, 0, none⟩), v]) rfl hs (by rw [hp_setCell hg]; rfl)
theorem tr_copy_used (h : ∀ w : World, w.cell? ⟨b, 0, none⟩ = some (.pointer (some ⟨b, 0, none⟩)) → Calls P f #[.pointer (some ⟨b, 0, none⟩)] w fun e w' => e = .returned (.tuple #[]) ∧ w' = w) {I : Hl} {G : List HP} :
    Tr P f [.pointer (some ⟨b, 0, none⟩)] (imm I :: pt b #[.pointer (some ⟨b, 0, none⟩), v] T :: G) (fun r H' => r = .tuple #[] ∧ H' = imm I :: pt b #[.pointer (some ⟨b, 0, none⟩), v] T :: G) := by
  intro F w hs
  have hg := pt_in (k := 1) (H := (imm I :: pt b #[.pointer (some ⟨b, 0, none⟩), v] T :: G) ++ F) rfl hs
  refine (h w (by rw [cell_of hg]; rfl)).mono ?_
  rintro e w' ⟨rfl, rfl⟩
  exact ⟨_, _, rfl, ⟨rfl, rfl⟩, hs, Keep.refl _⟩
end

/-! ### bytes of a row of the call's own, as a text that shares them -/
section
variable {P : Program} {ops : Array Oper} {Q : Exit → Act → World → Prop} {i n : Nat} {L : Slots} {o : Oper} {w0 : World} {H : List HP} {K : Act → World → Prop} {E : Nat} {p : Option Addr} {c : Nat}

theorem sat_alloc' {w : World} (ob : Obj) (hs : Sat H (hp w)) : Sat H (hp (w.alloc ob)) := sat_drop (sat_alloc (q := emp) (ob := ob) hs trivial)
theorem pw_sliceData (k : Nat) {l : List Int} {x : Operand} {t ty : TypeId} {e' : Nat} (hk : H[k]? = some (own (eInt .u8) E p c l)) (ho : ops[i]? = some o) (hop : o.op = .call { callee := .builtin .unsafeSliceData, args := #[x], argTypes := #[t] }) (hty : o.type = ty) (hu : P.underlying ty = some (.pointer e')) (hd : dstOk n o.dst = true) (hw : wantedL ops L o = some true) (hkn : knows L o = true)
    (hx : rho L x = .slice p l.length c) (h : ∀ q : Option Addr, (l ≠ [] → q = p) → NW K n (putL o.dst (.pointer q) L) (SAT w0 H)) : PW P ops Q i n L (SAT w0 H) K := by
  refine pw_run (S' := fun u w => ∃ q : Option Addr, (l ≠ [] → q = p) ∧ u = .pointer q ∧ SAT w0 H w) ho hd hw hkn (fun w hs => ?_) fun u a w hf hs => by obtain ⟨q, hq, rfl, hs⟩ := hs; exact h q hq a w hf hs
  obtain ⟨hh, h1, h2, _⟩ := sat_at hk hs.1
  have hlc := h2.2.1
  cases p with
  | none =>
    refine ⟨.pointer none, w, ?_, none, fun _ => rfl, rfl, hs⟩
    simp [execOp, hop, hx, resolve, invoke, builtin, Lib.run_unsafeSliceData_nil, Result.andThen_ok]
  | some a =>
    by_cases hc : c = 0
    · have hl : l = [] := by cases l with
        | nil => rfl
        | cons x l => simp at hlc; omega
      rcases h2.2.2.2 with ⟨hp0, _⟩ | ⟨g, cur, fz, hp0, hg, _⟩
      · cases hp0
      cases hp0
      have hgw := h1 g _ hg
      have hsh : w.shape? g = some (E, cur.size) := by unfold hp at hgw; simp [World.shape?, hgw]
      have hr := Lib.run_unsafeSliceData_zero (P := P) (w := w) #[t] ty e' hu ⟨g, 0, none⟩ l.length (E, cur.size) hsh
      subst hc
      refine ⟨_, w.alloc (.view ⟨g, 0, none⟩ e'), ?_, some ⟨w.heap.size, 0, none⟩, fun h => absurd hl h, rfl, sat_alloc' _ hs.1, hs.2.trans ⟨rfl, rfl, rfl⟩⟩
      simp [execOp, hop, hx, resolve, invoke, builtin, hty, hr, Result.andThen_ok]
    · refine ⟨.pointer (some a), w, ?_, some a, fun _ => rfl, rfl, hs⟩
      simp [execOp, hop, hx, resolve, invoke, builtin, Lib.run_unsafeSliceData_row (P := P) (w := w) #[t] o.type a l.length c hc, Result.andThen_ok]

theorem hp_freeze {w : World} {g : Nat} {cur : Array Value} {T : TypeId} {fz : Nat × Nat} (hg : hp w g = some (.cells cur T fz)) (m : Nat) : ∃ fz', hp (w.freeze ⟨g, 0, none⟩ m) = (hp w).upd g (.cells cur T fz') := by
  obtain ⟨lo, hi⟩ := fz
  unfold World.freeze
  by_cases hm : m = 0
  · rw [if_pos hm]
    refine ⟨(lo, hi), ?_⟩
    funext c; unfold Hl.upd; split
    · rename_i h; subst h; exact hg
    · rfl
  · rw [if_neg hm]
    refine ⟨if lo == hi then (0, 0 + m) else (min lo 0, max hi (0 + m)), ?_⟩
    · funext c
      unfold hp at hg
      unfold hp Hl.upd
      simp only [Array.getElem?_modify]
      by_cases h : g = c
      · subst h; rw [if_pos rfl, if_pos rfl, hg]; rfl
      · rw [if_neg h, if_neg (fun e => h e.symm)]

theorem pw_unsafeString (k : Nat) {s : ByteArray} {x y : Operand} {pt it ty : TypeId} {kd : IntKind} {q : Option Addr} (hq : sbytes s ≠ [] → q = p) (hk : H[k]? = some (own (eInt .u8) E p c (sbytes s))) (ho : ops[i]? = some o) (hop : o.op = .call { callee := .builtin .unsafeString, args := #[x, y], argTypes := #[pt, it] }) (hu : P.underlying pt = some (.pointer E)) (hcl : P.cellsOf E = 1) (hd : dstOk n o.dst = true) (hw : wantedL ops L o = some true) (hkn : knows L o = true)
    (hx : rho L x = .pointer q) (hy : rho L y = .int .i64 ((sbytes s).length : Int)) (h : NW K n (putL o.dst (.string s) L) (SAT w0 (H.set k emp))) : PW P ops Q i n L (SAT w0 H) K := by
  refine pw_run (S' := fun u w => u = .string s ∧ SAT w0 (H.set k emp) w) ho hd hw hkn (fun w hs => ?_) fun u a w hf hs => by obtain ⟨rfl, hs⟩ := hs; exact h a w hf hs
  have hemp : SAT w0 (H.set k emp) w := ⟨sat_set hk hs.1 fun hh hsub _ => ⟨hh, hsub, trivial, fun b o e1 e2 => ⟨e1, e2⟩⟩, hs.2⟩
  obtain ⟨hh, h1, h2, _⟩ := sat_at hk hs.1
  by_cases h0 : sbytes s = []
  · have hs0 := sbytes_nil h0
    subst hs0
    refine ⟨_, w, ?_, rfl, hemp⟩
    have hr := Lib.run_unsafeString_none (P := P) (w := w) pt it o.type q
    have : ((sbytes ByteArray.empty).length : Int) = 0 := rfl
    rw [this] at hy
    simp [execOp, hop, hx, hy, resolve, invoke, builtin, hr, Result.andThen_ok]
  · have hqp := hq h0
    subst hqp
    rcases h2.2.2.2 with ⟨_, hc0⟩ | ⟨g, cur, fz, hp0, hg, hsoft, hcs, htk⟩
    · have := h2.2.1
      have : (sbytes s).length = 0 := by omega
      exact absurd (List.length_eq_zero_iff.1 this) h0
    have hgw := h1 g _ hg
    have hlen : (sbytes s).length = s.data.toList.length := by simp [sbytes]
    have hsh : w.shape? g = some (E, cur.size) := by unfold hp at hgw; simp [World.shape?, hgw]
    have hmax := h2.2.2.1
    have hlc := h2.2.1
    have hr := Lib.run_unsafeString_row (P := P) w pt it o.type E hu hcl g cur.size hsh s.data.toList (fun e => h0 (by simp [sbytes, e])) (by rw [hcs, ← hlen]; simp only [eInt, Nat.mul_one]; exact hlc) (by rw [← hlen]; unfold maxLen at hmax; omega) (fun j x hj => by
      rw [add_lit, cell_of hgw, Nat.zero_add]
      have h3 : ((eInt .u8).all (sbytes s))[j]? = some (.int .u8 x.toNat) := by rw [all_u8]; simp [sbytes, hj]
      rw [← htk, List.getElem?_take] at h3
      split at h3
      · simpa using h3
      · cases h3)
    subst hp0
    obtain ⟨fz', hfz⟩ := hp_freeze hgw s.data.toList.length
    refine ⟨_, w.freeze ⟨g, 0, none⟩ s.data.toList.length, ?_, rfl, ?_, hs.2.trans ⟨by unfold World.freeze; split <;> rfl, by unfold World.freeze; split <;> rfl, by unfold World.freeze; split <;> rfl⟩⟩
    · rw [hlen] at hy
      generalize s.data.toList.length = m at hr hy ⊢
      have hs8 : (⟨s.data.toList.toArray⟩ : ByteArray) = s := by cases s; simp
      rw [hs8] at hr
      simp [execOp, hop, hx, hy, resolve, invoke, builtin, hr, Result.andThen_ok]
    · refine sat_set hk hs.1 fun h hsub ho2 => ?_
      rcases ho2.2.2.2 with ⟨hp1, _⟩ | ⟨g5, cur5, fz5, hp5, hg5, _⟩
      · cases hp1
      cases hp5
      refine ⟨h.upd g (.cells cur E fz'), fun b ob hbo => ?_, trivial, fun b ob e1 e2 => ?_⟩
      · rw [hfz]
        unfold Hl.upd at hbo ⊢
        by_cases hbg : b = g
        · rw [if_pos hbg] at hbo ⊢; exact hbo
        · rw [if_neg hbg] at hbo ⊢; exact hsub b ob hbo
      · have hbg : b ≠ g := by intro hb; subst hb; rw [hg5] at e2; cases e2
        rw [hfz]; unfold Hl.upd; rw [if_neg hbg, if_neg hbg]; exact ⟨e1, e2⟩
end

section
variable {P : Program} {ops : Array Oper} {Q : Exit → Act → World → Prop} {i n : Nat} {L : Slots} {o : Oper} {w0 : World} {H : List HP} {K : Act → World → Prop} {E : Nat} {p : Option Addr} {c : Nat}
theorem pw_uString (k : Nat) {l : List Int} {x y : Operand} {pt it : TypeId} {q : Option Addr} (hl : l = sbytes (bstr l)) (hq : l ≠ [] → q = p) (hk : H[k]? = some (own (eInt .u8) E p c l)) (ho : ops[i]? = some o) (hop : o.op = .call { callee := .builtin .unsafeString, args := #[x, y], argTypes := #[pt, it] }) (hu : P.underlying pt = some (.pointer E)) (hcl : P.cellsOf E = 1) (hd : dstOk n o.dst = true) (hw : wantedL ops L o = some true) (hkn : knows L o = true)
    (hx : rho L x = .pointer q) (hy : rho L y = .int .i64 (l.length : Int)) (h : NW K n (putL o.dst (.string (bstr l)) L) (SAT w0 (H.set k emp))) : PW P ops Q i n L (SAT w0 H) K := by
  generalize bstr l = s at hl h
  subst hl
  exact pw_unsafeString k (ty := 0) (kd := .i64) hq hk ho hop hu hcl hd hw hkn hx hy h
end
theorem bstr_sbytes (s : ByteArray) : bstr (sbytes s) = s := by
  have h : ∀ (l : List UInt8) (r : ByteArray), (l.map fun b => (b.toNat : Int)).foldl (fun r n => r.push (UInt8.ofNat n.toNat)) r = ⟨(r.data.toList ++ l).toArray⟩ := by
    intro l
    induction l with
    | nil => intro r; cases r; simp
    | cons b l ih => intro r; rw [List.map_cons, List.foldl_cons, ih]; cases r; simp [ByteArray.push]
  unfold bstr sbytes
  rw [h]
  cases s with
  | mk d => apply ByteArray.ext; apply Array.ext'; simp [ByteArray.empty, ByteArray.emptyWithCapacity]; rfl

/-! ### strings.Builder -/
/-- A TEXT THAT IS BUILT -/
def bld (T E : Nat) (b : Nat) (s : ByteArray) : HP := fun h => ∃ ad p c, (ad = none ∨ ad = some ⟨b, 0, none⟩) ∧ Sat [pt b #[.pointer ad, .slice p (sbytes s).length c] T, own (eInt .u8) E p c (sbytes s)] h
theorem sat_bld {T E b : Nat} {s : ByteArray} {I : Hl} {F : List HP} {g : Hl} (hs : Sat (imm I :: bld T E b s :: F) g) :
    ∃ ad p c, (ad = none ∨ ad = some ⟨b, 0, none⟩) ∧ Sat (imm I :: pt b #[.pointer ad, .slice p (sbytes s).length c] T :: own (eInt .u8) E p c (sbytes s) :: F) g := by
  obtain ⟨h, h1, ⟨ad, p, c, ha, h2⟩, h3⟩ := sat_swap hs
  refine ⟨ad, p, c, ha, ?_⟩
  have := sat_join (r := imm I :: F) h1 h2 h3
  refine sat_perm (l := [pt b #[.pointer ad, .slice p (sbytes s).length c] T, own (eInt .u8) E p c (sbytes s)] ++ imm I :: F) ?_ this
  exact (List.perm_append_comm (l₁ := [pt b #[.pointer ad, .slice p (sbytes s).length c] T, own (eInt .u8) E p c (sbytes s)]) (l₂ := [imm I])).append_right F
theorem bld_sat {T E b : Nat} {s : ByteArray} {p : Option Addr} {c : Nat} {ad : Option Addr} (ha : ad = none ∨ ad = some ⟨b, 0, none⟩) {I : Hl} {F : List HP} {g : Hl} (hs : Sat (imm I :: pt b #[.pointer ad, .slice p (sbytes s).length c] T :: own (eInt .u8) E p c (sbytes s) :: F) g) : Sat (imm I :: bld T E b s :: F) g := by
  have h0 := sat_perm (l' := [pt b #[.pointer ad, .slice p (sbytes s).length c] T, own (eInt .u8) E p c (sbytes s)] ++ imm I :: F)
    ((List.perm_append_comm (l₁ := [imm I]) (l₂ := [pt b #[.pointer ad, .slice p (sbytes s).length c] T, own (eInt .u8) E p c (sbytes s)])).append_right F) hs
  obtain ⟨h, h1, h2, h3⟩ := sat_part h0
  exact sat_swap ⟨h, h1, ⟨ad, p, c, ha, h2⟩, h3⟩
theorem bld_new {T E b : Nat} {w0 w : World} {F : List HP} (hs : SAT w0 (pt b #[.pointer none, .slice none 0 0] T :: F) w) : SAT w0 (bld T E b ByteArray.empty :: F) w := by
  obtain ⟨⟨h, h1, h2, h3⟩, hk⟩ := hs
  exact ⟨⟨h, h1, ⟨none, none, 0, .inl rfl, h, Hl.sub_refl _, h2, fun _ => none, (fun _ _ e => by cases e), own_nil _ _ _, trivial⟩, h3⟩, hk⟩
/-- so many of a text -/
def repB (s : ByteArray) (n : Nat) : ByteArray := ⟨(Lib.repeatL s.data.toList n).toArray⟩
end Go.Fw
