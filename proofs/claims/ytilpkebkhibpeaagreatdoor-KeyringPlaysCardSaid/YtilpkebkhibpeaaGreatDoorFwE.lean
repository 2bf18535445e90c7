/- A region whose order is open: what only reads is done first; what does more is done where nothing else can be done. What is known of the world need hold only till one operation, the tail, is done. -/
import Derived.Test.YtilpkebkhibpeaaGreatDoorFwD
import Derived.OrdersHeld
namespace Go.Fw
set_option linter.all false
open Go Go.RowKit
set_option linter.unusedVariables false

/-- which operations are done, as the bits of a number -/
def bits (n m : Nat) : Array Bool := ((List.range n).map fun i => Nat.testBit m i).toArray
theorem bits_zero (n : Nat) : bits n 0 = Array.replicate n false := by
  apply Array.ext'
  simp only [bits, Array.toList_replicate]
  apply List.ext_getElem
  · simp
  · intro i h1 h2; simp
theorem bits_set (n m i : Nat) : (bits n m).setIfInBounds i true = bits n (m ||| 2 ^ i) := by
  apply Array.ext
  · simp [bits]
  · intro j h1 h2
    simp only [bits, List.size_toArray, List.length_map, List.length_range, Array.size_setIfInBounds] at h1 h2
    rw [Array.getElem_setIfInBounds (by simpa [bits] using h1)]
    simp only [bits, List.getElem_toArray, List.getElem_map, List.getElem_range, Nat.testBit_or, Nat.testBit_two_pow]
    split
    · rename_i e; subst e; simp
    · rename_i e; simp [e]

section
variable {P : Program} {ops : Array Oper} {Q : Exit → Act → World → Prop} {i n tl : Nat} {L : Slots} {S : World → Prop} {o : Oper}

/-- no matter what slots hold where a panic leaves -/
def Calm (Q : Exit → Act → World → Prop) : Prop := ∀ c (a : Act) d v w, Q (.panic c) (a.put d v) w → Q (.panic c) a w
theorem calm_fin {fn : Func} {R : Value → List HP → Prop} {F : List HP} {w0 : World} : Calm (FinQ P fn R F w0) := fun c a d v w h => by
  obtain ⟨_, r, H', he, _⟩ := h; cases he

def off (listed : Array Bool) (tl : Nat) : Prop := listed.getD tl false = false
theorem off_set {listed : Array Bool} {j : Nat} (h : j ≠ tl) : off (listed.setIfInBounds j true) tl ↔ off listed tl := by
  unfold off; rw [getD_set_ne false h]

/-- in whatever order; and behind each operation, as long as the tail is not done, T holds -/
def wpAnyT (P : Program) (ops : Array Oper) (Q : Exit → Act → World → Prop) (tl : Nat) (T : World → Prop) : Nat → Array Bool → Act → World → Prop
  | 0, listed, a, w => Region.ready .any ops listed = [] ∧ Q .normal a w
  | f + 1, listed, a, w => (Region.ready .any ops listed = [] → Q .normal a w) ∧
      ∀ j ∈ Region.ready .any ops listed, wpOp P ops Q j (fun a' w' => (off (listed.setIfInBounds j true) tl → T w') ∧ wpAnyT P ops Q tl T f (listed.setIfInBounds j true) a' w') a w
theorem wpAny_of_T {T : World → Prop} : ∀ (f : Nat) (listed : Array Bool) (a : Act) (w : World), wpAnyT P ops Q tl T f listed a w → wpAny P .any ops Q f listed a w
  | 0, _, _, _, h => h
  | f + 1, listed, a, w, h => ⟨h.1, fun j hj => wpOp_mono (fun a' w' k => wpAny_of_T f _ a' w' k.2) (h.2 j hj)⟩

/-- what is done has all ahead of it done -/
def Closed (ops : Array Oper) (listed : Array Bool) : Prop := ∀ j oj, ops[j]? = some oj → listed.getD j false = true → ∀ e ∈ oj.after, Region.binds .any e = true → listed.getD e.on false = true
theorem closed_set {listed : Array Bool} {j : Nat} (hc : Closed ops listed) (hj : j ∈ Region.ready .any ops listed) : Closed ops (listed.setIfInBounds j true) := by
  intro k ok hk hl e he hb
  obtain ⟨_, oj, hoj, hall⟩ := mem_ready.1 hj
  by_cases hkj : j = k
  · subst hkj
    rw [hk] at hoj; cases hoj
    exact getD_set_true (hall e he hb)
  · rw [getD_set_ne false hkj] at hl
    exact getD_set_true (hc k ok hk hl e he hb)

/-- a way along what stands ahead -/
def wayB (ops : Array Oper) : Nat → List Nat → Bool
  | _, [] => true
  | t, b :: r => ((ops[t]?).map fun o => o.after.toList.any fun e => Region.binds .any e && Nat.beq e.on b) == some true && wayB ops b r
def endsAt (i : Nat) : Nat → List Nat → Bool
  | t, [] => Nat.beq t i
  | _, b :: r => endsAt i b r
theorem way_done {listed : Array Bool} (hc : Closed ops listed) : ∀ (r : List Nat) (t : Nat), wayB ops t r = true → endsAt i t r = true → listed.getD t false = true → listed.getD i false = true
  | [], t, _, he, h => by
    have : t = i := Nat.eq_of_beq_eq_true he
    subst this; exact h
  | b :: r, t, hw, he, h => by
    simp only [wayB, Bool.and_eq_true, beq_iff_eq] at hw
    obtain ⟨h1, h2⟩ := hw
    cases ho : ops[t]? with
    | none => rw [ho] at h1; cases h1
    | some o =>
      rw [ho] at h1
      simp only [Option.map_some, Option.some.injEq, List.any_eq_true, Bool.and_eq_true] at h1
      obtain ⟨e, hm, hb, hon⟩ := h1
      have hon : e.on = b := Nat.eq_of_beq_eq_true hon
      exact way_done hc r b h2 he (hon ▸ hc t o ho h e (by simpa using hm) hb)
theorem way_ready {listed : Array Bool} (hc : Closed ops listed) {r : List Nat} {b t : Nat} (hw : wayB ops t (b :: r) = true) (he : endsAt i t (b :: r) = true) (ht : t ∈ Region.ready .any ops listed) : listed.getD i false = true := by
  obtain ⟨_, o, ho, hall⟩ := mem_ready.1 ht
  simp only [wayB, Bool.and_eq_true, beq_iff_eq] at hw
  obtain ⟨h1, h2⟩ := hw
  rw [ho] at h1
  simp only [Option.map_some, Option.some.injEq, List.any_eq_true, Bool.and_eq_true] at h1
  obtain ⟨e, hm, hb, hon⟩ := h1
  have hon : e.on = b := Nat.eq_of_beq_eq_true hon
  exact way_done hc r b h2 he (hon ▸ hall e (by simpa using hm) hb)

theorem ready_un {listed : Array Bool} {j : Nat} (h : j ∈ Region.ready .any ops listed) : listed.getD j false = false := by
  have := (mem_ready.1 h).1
  by_cases hs : j < listed.size
  · simp [hs] at this ⊢; exact this
  · simp [Array.getElem?_eq_none (Nat.le_of_not_lt hs)] at this

theorem wpAnyT_first {T U : World → Prop} {oi : Oper} {v : Value} (hi : ops[i]? = some oi) (hsel : ∀ (j : Nat) (o : Oper) cs b, ops[j]? = some o → o.op ≠ .select cs b)
    (hQ : ∀ c a w, Q (.panic c) (a.put oi.dst v) w → Q (.panic c) a w) (hne : i ≠ tl) (hU : (∀ w, U w) ∨ ((∀ w, T w → U w) ∧ (ops.size ≤ tl ∨ ∃ b r, wayB ops tl (b :: r) = true ∧ endsAt i tl (b :: r) = true))) :
    ∀ (fuel : Nat) (listed : Array Bool) (a : Act) (w : World), Closed ops listed → off listed tl ∨ (∀ w, U w) →
      (∀ j oj, ops[j]? = some oj → j ≠ i → listed.getD j true = false → (∀ e ∈ oj.after, Region.binds .any e = true → e.on ≠ i) → oi.apart ops oj = true) →
      i ∈ Region.ready .any ops listed → YieldsIf P ops U oi v a → U w → (off listed tl → T w) →
      wpAnyT P ops Q tl T fuel (listed.setIfInBounds i true) (a.put oi.dst v) w → wpAnyT P ops Q tl T (fuel + 1) listed a w := by
  intro fuel
  induction fuel with
  | zero =>
    intro listed a w hc hoff hfree hr hy hUw hT H
    refine ⟨fun h => (by rw [h] at hr; cases hr), fun j hj => ?_⟩
    by_cases hji : j = i
    · subst hji
      exact hy.wpOp hi hUw ⟨fun h => hT ((off_set hne).1 h), H⟩
    · have := ready_mono hj hji
      rw [H.1] at this; cases this
  | succ fuel ih =>
    intro listed a w hc hoff hfree hr hy hUw hT H
    refine ⟨fun h => (by rw [h] at hr; cases hr), fun j hj => ?_⟩
    by_cases hji : j = i
    · subst hji
      exact hy.wpOp hi hUw ⟨fun h => hT ((off_set hne).1 h), H⟩
    · have h1 := H.2 j (ready_mono hj hji)
      obtain ⟨hjun, oj, hoj, hall⟩ := mem_ready.1 hj
      have hnot : ∀ e ∈ oj.after, Region.binds .any e = true → e.on ≠ i := fun e he hb heq => by
        have h1 := hall e he hb
        rw [heq, ready_un hr] at h1; cases h1
      have h2 := wpOp_putIf hoj (hfree j oj hoj hji hjun hnot) (fun cs b => hsel i oi cs b hi) (fun cs b => hsel j oj cs b hoj) hQ hy h1
      have hcomm : (listed.setIfInBounds i true).setIfInBounds j true = (listed.setIfInBounds j true).setIfInBounds i true := by
        rw [Array.setIfInBounds_comm _ _ (Ne.symm hji)]
      have hoff' : off (listed.setIfInBounds j true) tl ∨ ∀ w, U w := by
        rcases hoff with hoff | hu
        · rcases hU with hu | ⟨_, hlast | ⟨b, r, hw, he⟩⟩
          · exact .inr hu
          · refine .inl ((off_set fun hjt => ?_).2 hoff)
            have := (Array.getElem?_eq_some_iff.1 hoj).1
            omega
          · refine .inl ((off_set fun hjt => ?_).2 hoff)
            subst hjt
            have := way_ready hc hw he hj
            rw [ready_un hr] at this; cases this
        · exact .inr hu
      refine wpOp_mono (fun a' w' h3 => ?_) h2
      obtain ⟨hy', hT', H'⟩ := h3
      rw [hcomm] at hT' H'
      have hTT : off (listed.setIfInBounds j true) tl → T w' := fun h => hT' ((off_set hne).2 h)
      have hU' : U w' := by
        rcases hU with hu | ⟨hu, _⟩
        · exact hu w'
        · rcases hoff' with h | h
          · exact hu w' (hTT h)
          · exact h w'
      refine ⟨hTT, ih _ a' w' (closed_set hc hj) hoff' (fun k ok hk hki hun hno => hfree k ok hk hki ?_ hno) (ready_mono hr (Ne.symm hji)) hy' hU' hTT H'⟩
      by_cases hjk : j = k
      · subst hjk; exact hjun
      · rwa [getD_set_ne true hjk] at hun

/-- an open region: 'f': so many are left; 'm': those that are done -/
def AW (P : Program) (ops : Array Oper) (Q : Exit → Act → World → Prop) (tl : Nat) (T : World → Prop) (f m n : Nat) (L : Slots) (S : World → Prop) : Prop :=
  ∀ a w, Fr n L a → S w → wpAnyT P ops Q tl T f (bits ops.size m) a w

theorem cw_open {id : Nat} (tl : Nat) (T : World → Prop) (hm : P.follows .mixedOrders = true) {f : Nat} (hf : ops.size = f) (hd : ∀ w, S w → S w.drew) (h : AW P ops Q tl T f 0 n L S) : CW P (.region id ops true) Q n L S := by
  intro a w hfr hs
  subst hf
  have := h a _ hfr (hd w hs)
  rw [bits_zero] at this
  exact wp_region_any hm (wpAny_of_T _ _ _ _ this)

theorem sat_drew {w0 w : World} {H : List HP} (h : SAT w0 H w) : SAT w0 H w.drew := ⟨h.1, h.2.trans ⟨rfl, rfl, rfl⟩⟩

/-- may an operation that only reads be done now? -/
def closedB (ops : Array Oper) (listed : Array Bool) : Bool := (List.range ops.size).all fun j => !listed.getD j false || match ops[j]? with
  | some o => o.after.all fun e => !Region.binds .any e || listed.getD e.on false
  | none => true
theorem closed_of {listed : Array Bool} (h : closedB ops listed = true) : Closed ops listed := by
  intro j oj hj hl e he hb
  simp only [closedB, List.all_eq_true, List.mem_range] at h
  have := h j (Array.getElem?_eq_some_iff.1 hj).1
  rw [hl, hj] at this
  simp only [Bool.not_true, Bool.false_or, Array.all_eq_true_iff_forall_mem] at this
  have := this e he
  rw [hb] at this
  simpa using this
def mayNow (ops : Array Oper) (tl m i : Nat) : Bool :=
  Region.free .any ops (bits ops.size m) i && ((Region.ready .any ops (bits ops.size m)).contains i && (closedB ops (bits ops.size m) && (Region.noSelect ops && !(Nat.beq i tl))))

theorem aw_take {T U : World → Prop} {f m : Nat} {v : Value} (ho : ops[i]? = some o) (hmay : mayNow ops tl m i = true) (hQ : Calm Q) (hT : ∀ w, S w → T w)
    (hU : (∀ w, U w) ∨ ((∀ w, T w → U w) ∧ off (bits ops.size m) tl ∧ (ops.size ≤ tl ∨ ∃ b r, wayB ops tl (b :: r) = true ∧ endsAt i tl (b :: r) = true)))
    (hy : ∀ a, Fr n L a → YieldsIf P ops U o v a) (h : ∀ a w, Fr n L a → S w → wpAnyT P ops Q tl T f (bits ops.size (m ||| 2 ^ i)) (a.put o.dst v) w) : AW P ops Q tl T (f + 1) m n L S := by
  intro a w hf hs
  simp only [mayNow, Bool.and_eq_true, Bool.not_eq_true'] at hmay
  obtain ⟨h1, h2, h3, h4, h5⟩ := hmay
  have hne : i ≠ tl := fun e => by subst e; rw [Nat.beq_refl] at h5; cases h5
  refine wpAnyT_first (U := U) (v := v) ho (Region.noSelect_spec h4) (fun c a w h => hQ c a _ _ w h) hne (hU.imp id fun x => ⟨x.1, x.2.2⟩) f _ a w (closed_of h3) (hU.elim .inr fun x => .inl x.2.1)
    (fun j oj hj hne hun hno => Region.free_spec ho h1 j oj hj hne hun hno) (by simpa using h2) (hy a hf) (hU.elim (fun x => x w) fun x => x.1 w (hT w hs)) (fun _ => hT w hs) ?_
  rw [bits_set]; exact h a w hf hs

theorem aw_quiet (i : Nat) {T : World → Prop} {f m m' : Nat} {v : Value} (b : Nat) (r : List Nat) (ho : ops[i]? = some o) (hd : dstOk n o.dst = true) (hw : wantedL ops L o = some true) (hk : knows L o = true)
    (hmay : mayNow ops tl m i = true) (hm' : m ||| 2 ^ i = m') (hway : (!(bits ops.size m).getD tl false && (Nat.ble ops.size tl || (wayB ops tl (b :: r) && endsAt i tl (b :: r)))) = true) (hQ : Calm Q) (hT : ∀ w, S w → T w) (hr : RunIs P T L o v) (h : AW P ops Q tl T f m' n (putL o.dst v L) S) : AW P ops Q tl T (f + 1) m n L S := by
  simp only [Bool.and_eq_true, Bool.not_eq_true', Bool.or_eq_true] at hway
  refine aw_take (U := T) (v := v) ho hmay hQ hT (.inr ⟨fun _ h => h, hway.1, hway.2.imp Nat.le_of_ble_eq_true fun h => ⟨b, r, h.1, h.2⟩⟩) (fun a hf => .inl ⟨wanted_of hf hw, fun w' hT' => ?_⟩) fun a w hf hs => ?_
  · rw [exec_eq hf hk]; exact hr w' hT'
  · rw [hm']; exact h _ _ (hf.put hd v) hs
/-- the same, of an operation that needs nothing of the world -/
theorem aw_pure (i : Nat) {T : World → Prop} {f m m' : Nat} {v : Value} (ho : ops[i]? = some o) (hd : dstOk n o.dst = true) (hw : wantedL ops L o = some true) (hk : knows L o = true)
    (hmay : mayNow ops tl m i = true) (hm' : m ||| 2 ^ i = m') (hQ : Calm Q) (hT : ∀ w, S w → T w) (hr : RunIs P (fun _ => True) L o v) (h : AW P ops Q tl T f m' n (putL o.dst v L) S) : AW P ops Q tl T (f + 1) m n L S := by
  refine aw_take (U := fun _ => True) (v := v) ho hmay hQ hT (.inl fun _ => trivial) (fun a hf => .inl ⟨wanted_of hf hw, fun w' _ => ?_⟩) fun a w hf hs => ?_
  · rw [exec_eq hf hk]; exact hr w' trivial
  · rw [hm']; exact h _ _ (hf.put hd v) hs
theorem aw_skip (i : Nat) {T : World → Prop} {f m m' : Nat} (ho : ops[i]? = some o) (hd : dstOk n o.dst = true) (hw : wantedL ops L o = some false)
    (hmay : mayNow ops tl m i = true) (hm' : m ||| 2 ^ i = m') (hQ : Calm Q) (hT : ∀ w, S w → T w) (h : AW P ops Q tl T f m' n (putL o.dst undef L) S) : AW P ops Q tl T (f + 1) m n L S := by
  refine aw_take (U := fun _ => True) (v := undef) ho hmay hQ hT (.inl fun _ => trivial) (fun a hf => .inr ⟨wanted_of hf hw, rfl⟩) fun a w hf hs => ?_
  rw [hm']; exact h _ _ (hf.put hd _) hs

/-- some operations that need no memory, in this order -/
def runA (P : Program) (n : Nat) (ops : Array Oper) (tl : Nat) : List Nat → Nat → Slots → Option (Nat × Slots)
  | [], m, L => some (m, L)
  | i :: r, m, L =>
    bif mayNow ops tl m i then
      match stepV P n ops i L with
      | some L' => runA P n ops tl r (m ||| 2 ^ i) L'
      | none => none
    else none

theorem aw_one {T : World → Prop} {f m : Nat} {L' : Slots} (hmay : mayNow ops tl m i = true) (hQ : Calm Q) (hT : ∀ w, S w → T w)
    (hv : stepV P n ops i L = some L') (h : AW P ops Q tl T f (m ||| 2 ^ i) n L' S) : AW P ops Q tl T (f + 1) m n L S := by
  unfold stepV at hv
  cases ho : ops[i]? with
  | none => rw [ho] at hv; cases hv
  | some o =>
    rw [ho] at hv
    simp only at hv
    cases hd : dstOk n o.dst with
    | false => rw [hd] at hv; cases hv
    | true =>
      rw [hd] at hv
      cases hw : wantedL ops L o with
      | none => rw [hw] at hv; cases hv
      | some b =>
        rw [hw] at hv
        cases b with
        | false => cases hv; exact aw_skip i ho hd hw hmay rfl hQ hT h
        | true =>
          cases hk : knows L o with
          | false => rw [hk] at hv; cases hv
          | true =>
            rw [hk] at hv
            simp only [cond_true] at hv
            cases hp : pv P (execOp (rho L) o) with
            | none => rw [hp] at hv; cases hv
            | some x =>
              rw [hp] at hv
              cases x <;> simp only [Option.some.injEq] at hv <;> first | (cases hv; done) | skip
              case value v => subst hv; exact aw_pure i ho hd hw hk hmay rfl hQ hT (q_val hp) h

theorem aw_runA {T : World → Prop} (hQ : Calm Q) (hT : ∀ w, S w → T w) : ∀ (is : List Nat) {f m m' : Nat} {L L' : Slots}, runA P n ops tl is m L = some (m', L') → AW P ops Q tl T f m' n L' S → AW P ops Q tl T (f + is.length) m n L S
  | [], _, _, _, _, _, h, k => by cases h; exact k
  | i :: is, f, m, m', L, L', h, k => by
    unfold runA at h
    cases hm : mayNow ops tl m i with
    | false => rw [hm] at h; cases h
    | true =>
      rw [hm] at h
      cases hs : stepV P n ops i L with
      | none => rw [hs] at h; cases h
      | some L1 => rw [hs] at h; exact aw_one hm hQ hT hs (aw_runA hQ hT is h k)

theorem aw_keep (ks : List Nat) {T : World → Prop} {f m : Nat} {L' : Slots} (hl : keepL ks L = L') (h : AW P ops Q tl T f m n L' S) : AW P ops Q tl T f m n L S :=
  fun a w hf hs => h a w (hl ▸ hf.keep ks) hs

theorem aw_vals (is : List Nat) {T : World → Prop} {f f' m m' : Nat} (ks : List Nat) (L' : Slots) (hQ : Calm Q) (hT : ∀ w, S w → T w) (hf : f' + is.length = f)
    (h : (runA P n ops tl is m L).map (fun x => (x.1, keepL ks x.2)) = some (m', L')) (k : AW P ops Q tl T f' m' n L' S) : AW P ops Q tl T f m n L S := by
  cases hr : runA P n ops tl is m L with
  | none => rw [hr] at h; cases h
  | some x =>
    obtain ⟨m1, L1⟩ := x
    rw [hr] at h
    simp only [Option.map_some, Option.some.injEq, Prod.mk.injEq] at h
    obtain ⟨rfl, h⟩ := h
    subst hf
    exact aw_runA hQ hT is hr (aw_keep ks h k)

/-- where nothing else can be done -/
theorem aw_only (i : Nat) {T : World → Prop} {f m m' : Nat} (hr : Region.ready .any ops (bits ops.size m) = [i]) (hm' : m ||| 2 ^ i = m')
    (h : PW P ops Q i n L S fun a w => (off (bits ops.size m') tl → T w) ∧ wpAnyT P ops Q tl T f (bits ops.size m') a w) : AW P ops Q tl T (f + 1) m n L S := by
  intro a w hf hs
  have hk : (Region.ready .any ops (bits ops.size m) = [] → Q .normal a w) ∧
      ∀ j ∈ Region.ready .any ops (bits ops.size m), wpOp P ops Q j (fun a' w' => (off ((bits ops.size m).setIfInBounds j true) tl → T w') ∧ wpAnyT P ops Q tl T f ((bits ops.size m).setIfInBounds j true) a' w') a w := by
    refine ⟨(fun h0 => by rw [hr] at h0; cases h0), fun j hj => ?_⟩
    rw [hr] at hj
    simp only [List.mem_singleton] at hj
    subst hj
    rw [bits_set, hm']
    exact h a w hf hs
  exact hk
theorem aw_next {T : World → Prop} {f m : Nat} (hT : ∀ w, S w → T w) (h : AW P ops Q tl T f m n L S) : NW (fun a w => (off (bits ops.size m) tl → T w) ∧ wpAnyT P ops Q tl T f (bits ops.size m) a w) n L S :=
  fun a w hf hs => ⟨fun _ => hT w hs, h a w hf hs⟩
/-- behind the tail -/
theorem aw_last {T : World → Prop} {f m : Nat} (ht : (bits ops.size m).getD tl false = true) (h : AW P ops Q tl T f m n L S) : NW (fun a w => (off (bits ops.size m) tl → T w) ∧ wpAnyT P ops Q tl T f (bits ops.size m) a w) n L S :=
  fun a w hf hs => ⟨fun ho => (by unfold off at ho; rw [ht] at ho; cases ho), h a w hf hs⟩
theorem wpAnyT_past {T : World → Prop} : ∀ (f : Nat) (listed : Array Bool) (a : Act) (w : World), listed.getD tl false = true → wpAnyT P ops Q tl (fun _ => True) f listed a w → wpAnyT P ops Q tl T f listed a w
  | 0, _, _, _, _, h => h
  | f + 1, listed, a, w, ht, h => ⟨h.1, fun j hj => wpOp_mono (fun a' w' k => ⟨fun ho => (by unfold off at ho; rw [getD_set_true ht] at ho; cases ho), wpAnyT_past f _ a' w' (getD_set_true ht) k.2⟩) (h.2 j hj)⟩
theorem aw_past {T : World → Prop} {f m : Nat} (ht : (bits ops.size m).getD tl false = true) (h : AW P ops Q tl (fun _ => True) f m n L S) : AW P ops Q tl T f m n L S :=
  fun a w hf hs => wpAnyT_past f _ a w ht (h a w hf hs)
theorem aw_end {T : World → Prop} {f m : Nat} (hr : Region.ready .any ops (bits ops.size m) = []) (h : EW Q .normal n L S) : AW P ops Q tl T f m n L S := by
  intro a w hf hs
  cases f with
  | zero => exact ⟨hr, h a w hf hs⟩
  | succ f => exact ⟨fun _ => h a w hf hs, fun j hj => by rw [hr] at hj; cases hj⟩
end
end Go.Fw
