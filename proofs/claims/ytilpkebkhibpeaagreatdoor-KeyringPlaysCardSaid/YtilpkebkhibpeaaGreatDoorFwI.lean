/- Parts of slices and of texts; bytes and texts; slices that are made; what was the call's own is never written again. -/
import Derived.Test.YtilpkebkhibpeaaGreatDoorFwH
import Derived.Laws.BytesString
import Derived.Laws.MakeOwn
import Derived.Lib.ConvBytes
namespace Go.Fw
set_option linter.all false
open Go Go.RowKit
section
variable {P : Program} {ops : Array Oper} {Q : Exit → Act → World → Prop} {i n : Nat} {L : Slots} {S : World → Prop} {o : Oper} {w0 : World} {H : List HP} {K : Act → World → Prop} {α : Type} {e : Enc α} {E : Nat} {p : Option Addr} {c : Nat} {l : List α} {I : Hl}

/-- the bounds of 's[lo:hi]', as numbers -/
def bnd (L : Slots) (d : Int) : Option Operand → Option Int
  | none => some d
  | some x => match rho L x with | .int _ j => some j | _ => none

theorem add_zero' (a : Addr) : a.add 0 = a := rfl

theorem run_bounds {w : World} {isSlice : Bool} {len cap : Nat} {lo hi : Option Operand} {a b : Int} (ha : bnd L 0 lo = some a) (hb : bnd L len hi = some b) (h0 : 0 ≤ a) (hab : a ≤ b) (hbc : b ≤ cap) :
    (Instr.sliceBounds isSlice len cap (lo.map (rho L)) (hi.map (rho L)) none).run P w = .ok (a.toNat, b.toNat, cap) w := by
  have h1 : (0 : Int) ≤ b := by omega
  have h2 : a ≤ max b 0 := by omega
  cases lo with
  | none =>
    simp only [bnd, Option.some.injEq] at ha; subst ha
    cases hi with
    | none => simp only [bnd, Option.some.injEq] at hb; subst hb; simp [Instr.sliceBounds]
    | some y =>
      simp only [bnd] at hb
      cases hy : rho L y <;> rw [hy] at hb <;> simp only [Option.some.injEq] at hb <;> first | (cases hb; done) | skip
      subst hb; simp [Instr.sliceBounds, Instr.sliceBound, asIntOf, hy, h1, hbc]
  | some x =>
    simp only [bnd] at ha
    cases hx : rho L x <;> rw [hx] at ha <;> simp only [Option.some.injEq] at ha <;> first | (cases ha; done) | skip
    subst ha
    cases hi with
    | none => simp only [bnd, Option.some.injEq] at hb; subst hb; simp [Instr.sliceBounds, Instr.sliceBound, asIntOf, hx, h0, hab]
    | some y =>
      simp only [bnd] at hb
      cases hy : rho L y <;> rw [hy] at hb <;> simp only [Option.some.injEq] at hb <;> first | (cases hb; done) | skip
      subst hb; simp [Instr.sliceBounds, Instr.sliceBound, asIntOf, hx, hy, h0, h1, h2, hbc]

/-- 's[a:b]' of a text -/
theorem q_slice_str {t : TypeId} {x : Operand} {lo hi : Option Operand} {s : ByteArray} {a b : Int} (hop : o.op = .slice t x lo hi none) (ht : P.underlying t = some .string) (hx : rho L x = .string s)
    (ha : bnd L 0 lo = some a) (hb : bnd L s.size hi = some b) (h0 : 0 ≤ a) (hab : a ≤ b) (hbc : b ≤ s.size) : RunIs P S L o (.string (s.extract a.toNat b.toNat)) := by
  intro w _
  simp [execOp, hop, hx, Instr.sliceAt, Instr.slice, run_underlying ht, run_bounds (P := P) (w := w) (isSlice := false) ha hb h0 hab hbc]

/-- 's[a:b]' of a slice that is never written -/
theorem q_slice_ro {t : TypeId} {x : Operand} {lo hi : Option Operand} {a b : Int} (sz : Nat) (hr : ro I e p c l) (hop : o.op = .slice t x lo hi none) (hsl : slOf P t = some (E, sz)) (hsz : e.sz = sz) (hx : rho L x = .slice p l.length c)
    (ha : bnd L 0 lo = some a) (hb : bnd L l.length hi = some b) (h0 : 0 ≤ a) (hab : a ≤ b) (hbc : b ≤ l.length) :
    ∃ p' c', ro I e p' c' ((l.drop a.toNat).take (b.toNat - a.toNat)) ∧ RunIs P S L o (.slice p' ((l.drop a.toNat).take (b.toNat - a.toNat)).length c') := by
  subst hsz
  obtain ⟨hu, inf, hi', hisz⟩ := slOf_spec hsl
  have hlc := hr.le
  have hlen : ((l.drop a.toNat).take (b.toNat - a.toNat)).length = b.toNat - a.toNat := by simp; omega
  refine ⟨if c = a.toNat then p else p.map (·.add (a.toNat * e.sz)), c - a.toNat, ⟨by rw [hlen]; omega, by have := hr.max; omega, fun hn => ?_, fun j v hj => ?_⟩, fun w _ => ?_⟩
  · split at hn
    · omega
    · cases p with
      | none => have := hr.nil rfl; omega
      | some q => cases hn
  · rw [Enc.all_take, Enc.all_drop] at hj
    rw [List.getElem?_take] at hj
    split at hj <;> first | (cases hj; done) | skip
    rename_i hjl
    rw [List.getElem?_drop] at hj
    obtain ⟨q, hq, hcell⟩ := hr.cells _ _ hj
    subst hq
    have hne : c ≠ a.toNat := by
      intro hc
      have : b.toNat - a.toNat = 0 := by omega
      rw [this] at hjl; omega
    rw [if_neg hne]
    exact ⟨_, rfl, by rw [add_add]; exact hcell⟩
  · rw [hlen]
    simp [execOp, hop, hx, Instr.sliceAt, Instr.slice, run_underlying hu, run_bounds (P := P) (w := w) (isSlice := true) (len := l.length) (cap := c) ha hb h0 hab (by omega), sizeOf, typeInfo, hi', hisz]

/-- 's[:b]' of a slice of the call's own, which stands for it from now on -/
theorem pw_take_own (k : Nat) {t : TypeId} {x : Operand} {hi : Option Operand} {b : Int} (sz : Nat) (hk : H[k]? = some (own e E p c l)) (ho : ops[i]? = some o) (hop : o.op = .slice t x none hi none) (hd : dstOk n o.dst = true) (hw : wantedL ops L o = some true) (hkn : knows L o = true)
    (hsl : slOf P t = some (E, sz)) (hx : rho L x = .slice p l.length c) (hb : bnd L l.length hi = some b) (h0 : 0 ≤ b) (hbc : b ≤ l.length)
    (h : NW K n (putL o.dst (.slice p (l.take b.toNat).length c) L) (SAT w0 (H.set k (own e E p c (l.take b.toNat))))) : PW P ops Q i n L (SAT w0 H) K := by
  obtain ⟨hu, inf, hi', hisz⟩ := slOf_spec hsl
  have hlen : (l.take b.toNat).length = b.toNat := by simp; omega
  refine pw_run (S' := fun u w => u = .slice p (l.take b.toNat).length c ∧ SAT w0 (H.set k (own e E p c (l.take b.toNat))) w) ho hd hw hkn (fun w hs => ⟨_, w, ?_, rfl, ?_, hs.2⟩) fun u a w hf hs => by obtain ⟨rfl, hs⟩ := hs; exact h a w hf hs
  · obtain ⟨hh, h1, h2, _⟩ := sat_at hk hs.1
    have hlc := h2.2.1
    rw [hlen]
    have hbd := run_bounds (P := P) (w := w) (L := L) (isSlice := true) (len := l.length) (cap := c) (lo := none) (a := 0) rfl hb (Int.le_refl 0) h0 (by omega)
    simp only [Option.map_none, Int.toNat_zero] at hbd
    simp [execOp, hop, hx, Instr.sliceAt, Instr.slice, run_underlying hu, hbd, sizeOf, typeInfo, hi', hisz]
    cases c <;> cases p <;> simp [add_zero']
  · refine sat_set hk hs.1 fun hh hsub ho2 => ⟨hh, hsub, ?_, fun b ob e1 e2 => ⟨e1, e2⟩⟩
    obtain ⟨g1, g2, g3, g4⟩ := ho2
    refine ⟨e.all_length _, by rw [hlen]; omega, g3, ?_⟩
    rcases g4 with g4 | ⟨g, cur, fz, g5, g6, g7, g8, g9⟩
    · exact .inl g4
    · refine .inr ⟨g, cur, fz, g5, g6, g7, g8, ?_⟩
      rw [hlen, e.all_take, ← g9, List.take_take]
      congr 1
      exact (Nat.min_eq_left (Nat.mul_le_mul_right _ (by omega))).symm

/-- what was the call's own is never written from here on -/
theorem freeze {G : List HP} {w : World} (hs : SAT w0 (imm I :: own e E p c l :: G) w) :
    ∃ I', Hl.sub I I' ∧ ro I' e p c l ∧ SAT w0 (imm I' :: G) w := by
  obtain ⟨⟨h1, a1, a2, h2, b1, b2, b3⟩, hkp⟩ := hs
  refine ⟨h1.join h2, fun b ob hb => Hl.join_some.2 (.inl (a2 b ob hb)), ?_, ⟨h1.join h2, fun b ob hb => ?_, Hl.sub_refl _, ?_⟩, hkp⟩
  · have hsub : Hl.sub h2 (h1.join h2) := fun b ob hb => Hl.join_some.2 (.inr ⟨(Hl.minus_some.1 (b1 b ob hb)).2, hb⟩)
    obtain ⟨g1, g2, g3, g4⟩ := b2
    refine ⟨g2, g3, fun hp0 => ?_, fun j v hj => ?_⟩
    · rcases g4 with g4 | ⟨g, cur, fz, g5, _⟩
      · exact g4.2
      · rw [hp0] at g5; cases g5
    · rcases g4 with ⟨_, hc0⟩ | ⟨g, cur, fz, rfl, g6, g7, g8, g9⟩
      · have : (e.all l).length = 0 := by rw [g1, show l.length = 0 by omega, Nat.zero_mul]
        have := (List.getElem?_eq_some_iff.1 hj).1; omega
      · refine ⟨_, rfl, ?_⟩
        rw [add_lit]
        unfold cellOf
        simp only [Nat.zero_add, hsub g _ g6]
        rw [← g9, List.getElem?_take] at hj
        split at hj
        · simpa using hj
        · cases hj
  · rcases Hl.join_some.1 hb with hb | ⟨_, hb⟩
    · exact a1 b ob hb
    · exact (Hl.minus_some.1 (b1 b ob hb)).1
  · refine sat_mono (fun b ob hb => ?_) b3
    obtain ⟨c1, c2⟩ := Hl.minus_some.1 hb
    obtain ⟨c1, c3⟩ := Hl.minus_some.1 c1
    exact Hl.minus_some.2 ⟨c1, Hl.join_none.2 ⟨c3, c2⟩⟩

/-- 'a + b' of texts -/
theorem q_concat {t t' : TypeId} {x y : Operand} {a b : ByteArray} (hop : o.op = .binOp .add t x y t') (hx : rho L x = .string a) (hy : rho L y = .string b) (hs : a.size + b.size ≤ 9223372036854775807) : RunIs P S L o (.string (a ++ b)) := by
  intro w _
  have h1 : IntKind.i64.max = 9223372036854775807 := by decide
  have : ¬ (((a.size + b.size : Nat) : Int) > 9223372036854775807) := by omega
  have h2 : ¬ ((9223372036854775807 : Int) < (a.size : Int) + (b.size : Int)) := by omega
  simp [execOp, hop, hx, hy, eqGuard, binOp, Op.stringOp, h1, h2]

/-- a byte of a text, as a number -/
def bt (s : ByteArray) (j : Int) : Int := ((s[j.toNat]?).getD 0).toNat
theorem q_index_str {t : TypeId} {x ix : Operand} {kd : IntKind} {s : ByteArray} {j : Int} (hop : o.op = .index t x ix) (ht : P.underlying t = some .string) (hx : rho L x = .string s) (hix : rho L ix = .int kd j) (h0 : 0 ≤ j) (hj : j < s.size) :
    RunIs P S L o (.int .u8 (bt s j)) := by
  intro w _
  have hlt : j.toNat < s.size := by omega
  simp [execOp, hop, hx, hix, Instr.index, asIntOf, run_underlying ht, h0, hlt, bt]

/-- bytes, as a text -/
def bstr (l : List Int) : ByteArray := l.foldl (fun r n => r.push (UInt8.ofNat n.toNat)) ByteArray.empty
theorem all_u8 (l : List Int) : (eInt .u8).all l = l.map (Value.int .u8) := by
  induction l with
  | nil => rfl
  | cons x l ih => show Value.int .u8 x :: (eInt .u8).all l = _; rw [ih]; rfl
theorem run_bstr {w : World} {p : Option Addr} {c : Nat} {l : List Int} (h : ∀ j v, ((eInt .u8).all l)[j]? = some v → ∃ a, p = some a ∧ w.cell? (a.add j) = some v) : (Conv.bytesToString (.slice p l.length c)).run P w = .ok (.string (bstr l)) w := by
  cases p with
  | none =>
    have : l = [] := by
      cases l with
      | nil => rfl
      | cons x l => obtain ⟨a, ha, _⟩ := h 0 _ rfl; cases ha
    subst this
    simp [Conv.bytesToString, bstr]
  | some a =>
    refine run_bytesToString w a l.length c l ?_
    have := run_loadCells_list (P := P) w a ((eInt .u8).all l) fun j v hj => by
      obtain ⟨a', ha, hc⟩ := h j v hj
      cases ha; exact hc
    rw [all_u8] at this
    simpa using this
theorem q_bytes_str {src dst : TypeId} {x : Operand} {p : Option Addr} {c : Nat} {l : List Int} (hop : o.op = .convert src dst x) (hs : (P.underlying src).bind (fun d => match d with | .slice e => P.underlying e | _ => none) = some (.int .u8)) (hd : P.underlying dst = some .string) (hx : rho L x = .slice p l.length c)
    (h : ∀ w, S w → ∀ j v, ((eInt .u8).all l)[j]? = some v → ∃ a, p = some a ∧ w.cell? (a.add j) = some v) : RunIs P S L o (.string (bstr l)) := by
  intro w hS
  have hr := run_bstr (P := P) (w := w) (c := c) (h w hS)
  cases hu : P.underlying src with
  | none => rw [hu] at hs; cases hs
  | some d =>
    rw [hu] at hs
    cases d <;> first | (cases hs; done) | skip
    case slice e' =>
      simp only [Option.bind_some] at hs
      simp [execOp, hop, hx, convert, run_underlying hu, run_underlying hd, run_underlying hs, hr]
theorem q_bytes_str_own (k : Nat) {src dst : TypeId} {x : Operand} {p : Option Addr} {c : Nat} {l : List Int} (hk : H[k]? = some (own (eInt .u8) E p c l)) (hop : o.op = .convert src dst x) (hs : (P.underlying src).bind (fun d => match d with | .slice e => P.underlying e | _ => none) = some (.int .u8)) (hd : P.underlying dst = some .string) (hx : rho L x = .slice p l.length c) :
    RunIs P (SAT w0 H) L o (.string (bstr l)) :=
  q_bytes_str hop hs hd hx fun w hS => by obtain ⟨h, h1, h2, _⟩ := sat_at hk hS.1; exact own_cells h1 h2
theorem q_bytes_str_ro (k : Nat) {src dst : TypeId} {x : Operand} {p : Option Addr} {c : Nat} {l : List Int} (hk : H[k]? = some (imm I)) (hr : ro I (eInt .u8) p c l) (hop : o.op = .convert src dst x) (hs : (P.underlying src).bind (fun d => match d with | .slice e => P.underlying e | _ => none) = some (.int .u8)) (hd : P.underlying dst = some .string) (hx : rho L x = .slice p l.length c) :
    RunIs P (SAT w0 H) L o (.string (bstr l)) :=
  q_bytes_str hop hs hd hx fun w hS j v hj => by obtain ⟨a, h1, h2⟩ := hr.cells j v hj; exact ⟨a, h1, cellOf_sub (imm_in hk hS.1) h2⟩

/-- a text's bytes, as numbers -/
def sbytes (s : ByteArray) : List Int := s.data.toList.map fun b => (b.toNat : Int)
theorem sbytes_length (s : ByteArray) : (sbytes s).length = s.size := by unfold sbytes; rw [List.length_map, Array.length_toList]; rfl
theorem pw_str_bytes {src dst : TypeId} {x : Operand} {s : ByteArray} (ho : ops[i]? = some o) (hop : o.op = .convert src dst x) (hd : dstOk n o.dst = true) (hw : wantedL ops L o = some true) (hkn : knows L o = true)
    (hs : P.underlying src = some .string) (hu : P.underlying dst = some (.slice E)) (he : P.underlying E = some (.int .u8)) (hx : rho L x = .string s) (hmax : s.size ≤ maxLen)
    (h : ∀ p c, NW K n (putL o.dst (.slice p (sbytes s).length c) L) (SAT w0 (own (eInt .u8) E p c (sbytes s) :: H))) : PW P ops Q i n L (SAT w0 H) K := by
  refine pw_run (S' := fun u w => ∃ p c, u = .slice p (sbytes s).length c ∧ SAT w0 (own (eInt .u8) E p c (sbytes s) :: H) w) ho hd hw hkn (fun w hsat => ?_) fun u a w hf hs => by obtain ⟨p, c, rfl, hs⟩ := hs; exact h p c a w hf hs
  have hge := grownCap_ge w s.size 0 E
  have hle := grownCap_le_maxLen w s.size 0 E hmax
  have hsz : s.data.size = s.size := rfl
  have hcs : (Lib.bytesCells w E s).size = grownCap w s.size 0 E := by
    simp only [Lib.bytesCells, Array.size_append, Array.size_map, Array.size_replicate, hsz]; omega
  have hhp : hp (Lib.bytesWorld w E s) = (hp w).upd w.heap.size (.cells (Lib.bytesCells w E s) E ((Lib.bytesCells w E s).size, (Lib.bytesCells w E s).size + 1)) := by
    funext b
    unfold Hl.upd
    by_cases hb : b = w.heap.size
    · rw [if_pos hb]; subst hb; exact Lib.bytesWorld_at_new w E s
    · rw [if_neg hb]
      unfold hp
      by_cases hlt : b < w.heap.size
      · exact Lib.bytesWorld_at_old w E s b hlt
      · rw [Array.getElem?_eq_none (by rw [Lib.bytesWorld_size]; omega), Array.getElem?_eq_none (by omega)]
  refine ⟨.slice (some ⟨w.heap.size, 0, none⟩) s.size (grownCap w s.size 0 E), Lib.bytesWorld w E s, ?_, some ⟨w.heap.size, 0, none⟩, grownCap w s.size 0 E, by rw [sbytes_length], ?_, hsat.2.trans ⟨rfl, rfl, rfl⟩⟩
  · have hr := Lib.run_convert_string_bytes (P := P) w src dst E s hs hu he
    simp [execOp, hop, hx, hr]
  · refine sat_new (g := hp w) (hp_size w) hhp (own_new (grownCap w s.size 0 E) (by rw [hcs]; simp [eInt]) hle (by rw [sbytes_length]; exact hge) (fun j hj => by simp; omega) ?_) hsat.1
    rw [all_u8, sbytes_length]
    simp only [eInt, Nat.mul_one, Lib.bytesCells, Array.toList_append, Array.toList_map]
    rw [List.take_append_of_le_length (by simp [hsz]), List.take_of_length_le (by simp [hsz])]
    simp [sbytes]

theorem made_all (e : Enc α) (z : α) (m : Nat) : (madeCells (e.f z).toArray (m * e.sz)).toList = e.all (List.replicate m z) := by
  have hlen := e.len z
  apply List.ext_getElem?
  intro j
  by_cases hj : j < m * e.sz
  · have hq : (j / e.sz) * e.sz + j % e.sz = j := by rw [Nat.mul_comm]; exact Nat.div_add_mod j e.sz
    have hm : j % e.sz < e.sz := Nat.mod_lt _ e.pos
    have hd : j / e.sz < m := Nat.div_lt_of_lt_mul (by rw [Nat.mul_comm]; exact hj)
    have := Enc.all_get e (l := List.replicate m z) (i := j / e.sz) (x := z) (by rw [List.getElem?_replicate, if_pos hd]) (j % e.sz) hm
    rw [hq] at this
    rw [this]
    simp [madeCells, hj, hlen, getElem!_def]
    rw [List.getElem?_eq_getElem (by rw [hlen]; exact hm)]
  · rw [List.getElem?_eq_none (by rw [Array.length_toList, size_madeCells]; omega), List.getElem?_eq_none (by rw [e.all_length, List.length_replicate]; omega)]

/-- 'make([]T, n)': so many zeros -/
theorem pw_make (e : Enc α) (z : α) {t : TypeId} {x y : Operand} {k1 k2 : IntKind} {m : Int} {sz bytes : Nat} (ho : ops[i]? = some o) (hop : o.op = .makeSlice t x y) (hd : dstOk n o.dst = true) (hw : wantedL ops L o = some true) (hkn : knows L o = true)
    (hsl : slOf P t = some (E, sz)) (hinf : ((P.info? E).bind fun i => i.zero.map fun z => (i.bytes, z.cells)) = some (bytes, (e.f z).toArray)) (hsz : e.sz = sz) (hx : rho L x = .int k1 m) (hy : rho L y = .int k2 m) (h0 : 0 ≤ m) (hm : m ≤ 4611686018427387904) (hby : bytes * m ≤ 281474976710656)
    (h : ∀ p c, NW K n (putL o.dst (.slice p (List.replicate m.toNat z).length c) L) (SAT w0 (own e E p c (List.replicate m.toNat z) :: H))) : PW P ops Q i n L (SAT w0 H) K := by
  subst hsz
  obtain ⟨hu, inf, hi, hisz⟩ := slOf_spec hsl
  rw [hi] at hinf
  cases hz : inf.zero with
  | none => rw [Option.bind_some, hz] at hinf; cases hinf
  | some zv =>
  rw [Option.bind_some, hz] at hinf
  simp only [Option.map_some, Option.some.injEq, Prod.mk.injEq] at hinf
  obtain ⟨rfl, hzc⟩ := hinf
  refine pw_run (S' := fun u w => ∃ p c, u = .slice p (List.replicate m.toNat z).length c ∧ SAT w0 (own e E p c (List.replicate m.toNat z) :: H) w) ho hd hw hkn (fun w hsat => ?_) fun u a w hf hs => by obtain ⟨p, c, rfl, hs⟩ := hs; exact h p c a w hf hs
  have hr := run_make (P := P) w t E inf zv hu hi hz k1 k2 m m h0 (Int.le_refl _) hby (by omega)
  refine ⟨.slice (some ⟨w.heap.size, 0, none⟩) m.toNat m.toNat, w.alloc (.cells (madeCells zv.cells (m.toNat * inf.size)) E), by simp [execOp, hop, hx, hy, hr], some ⟨w.heap.size, 0, none⟩, m.toNat, by simp, sat_alloc hsat.1 (own_new m.toNat (by rw [size_madeCells, hisz]) (by unfold maxLen; omega) (by simp) (soft_zero _) ?_), hsat.2.trans ⟨rfl, rfl, rfl⟩⟩
  have hml : (madeCells zv.cells (m.toNat * inf.size)).toList.length = (List.replicate m.toNat z).length * e.sz := by rw [Array.length_toList, size_madeCells, hisz, List.length_replicate]
  rw [List.take_of_length_le (by rw [hml]; exact Nat.le_refl _)]
  rw [hzc, hisz]
  exact made_all e z m.toNat
end
end Go.Fw
