/- The walk's rules, said of frames of which some slots are known, and of a world of which something is known. -/
import Derived.Test.YtilpkebkhibpeaaGreatDoorFwA
namespace Go.Fw
set_option linter.all false
open Go Go.RowKit

/-- what is known of a frame -/
abbrev Slots := List (Nat × Value)
def look : Slots → Nat → Option Value
  | [], _ => none
  | (s, v) :: r, t => bif Nat.beq s t then some v else look r t
theorem look_cons (s : Nat) (v : Value) (r : Slots) (t : Nat) : look ((s, v) :: r) t = if s = t then some v else look r t := by
  rw [show look ((s, v) :: r) t = (bif Nat.beq s t then some v else look r t) from rfl]
  by_cases h : s = t
  · subst h; simp
  · have : Nat.beq s t = false := by cases hb : Nat.beq s t with | false => rfl | true => exact absurd (Nat.eq_of_beq_eq_true hb) h
    rw [this, if_neg h]; rfl

structure Fr (n : Nat) (L : Slots) (a : Act) : Prop where
  size : a.tmps.size = n
  defers : a.defers = []
  get : ∀ t v, look L t = some v → a.tmps[t]? = some v

def rho (L : Slots) : Operand → Value
  | .tmp t => (look L t).getD undef
  | .const v => v
  | .global g => .pointer (some ⟨g, 0, none⟩)
  | .func f => .func (.func f) #[] #[]
def known (L : Slots) : Operand → Bool
  | .tmp t => (look L t).isSome
  | _ => true

theorem rho_eval {n : Nat} {L : Slots} {a : Act} (h : Fr n L a) {x : Operand} (hk : known L x = true) : a.eval x = rho L x := by
  cases x with
  | tmp t =>
    simp only [known, Option.isSome_iff_exists] at hk
    obtain ⟨v, hv⟩ := hk
    have := h.get t v hv
    simp [Act.eval, rho, hv, Array.getD_eq_getD_getElem?, this]
  | const v => rfl
  | global g => rfl
  | func f => rfl

def putL (dst : Option Tmp) (v : Value) (L : Slots) : Slots :=
  match dst with
  | some d => (d, v) :: L
  | none => L
def dstOk (n : Nat) : Option Tmp → Bool
  | some d => Nat.blt d n
  | none => true

theorem Fr.put {n : Nat} {L : Slots} {a : Act} (h : Fr n L a) {dst : Option Tmp} (hd : dstOk n dst = true) (v : Value) : Fr n (putL dst v L) (a.put dst v) := by
  cases dst with
  | none => exact h
  | some d =>
    have hd : d < n := by simpa [dstOk, Nat.blt_eq] using hd
    refine ⟨by simp [Act.put, h.size], h.defers, fun t u hu => ?_⟩
    simp only [putL, look_cons] at hu
    simp only [Act.put]
    rw [Array.getElem?_setIfInBounds]
    split at hu
    · rename_i e; subst e; cases hu; rw [if_pos rfl, if_pos (by rw [h.size]; exact hd)]
    · rename_i e; rw [if_neg e]; exact h.get t u hu

def keepL (ks : List Nat) (L : Slots) : Slots := ks.filterMap fun t => (look L t).map fun v => (t, v)
theorem look_keepL {ks : List Nat} {L : Slots} {t : Nat} {v : Value} (h : look (keepL ks L) t = some v) : look L t = some v := by
  induction ks with
  | nil => cases h
  | cons k ks ih =>
    unfold keepL at h
    rw [List.filterMap_cons] at h
    cases hk : look L k with
    | none => rw [hk] at h; exact ih h
    | some u =>
      rw [hk] at h
      simp only [Option.map_some, look_cons] at h
      split at h
      · rename_i e; subst e; rw [hk]; exact h
      · exact ih h
theorem Fr.keep {n : Nat} {L : Slots} {a : Act} (h : Fr n L a) (ks : List Nat) : Fr n (keepL ks L) a :=
  ⟨h.size, h.defers, fun _ _ e => h.get _ _ (look_keepL e)⟩

def wantedL (ops : Array Oper) (L : Slots) (o : Oper) : Option Bool :=
  match o.guard with
  | none => some true
  | some (j, want) =>
    match (ops[j]?).bind (·.dst) with
    | none => some false
    | some d =>
      match look L d with
      | none => none
      | some (.bool b) => some (b == want)
      | some _ => some false

theorem wanted_of {n : Nat} {ops : Array Oper} {L : Slots} {a : Act} (h : Fr n L a) {o : Oper} {b : Bool} (hw : wantedL ops L o = some b) :
    Region.wanted o (yielded ops a.tmps) = b := by
  unfold wantedL at hw
  unfold Region.wanted yielded
  cases hg : o.guard with
  | none => rw [hg] at hw; cases hw; rfl
  | some q =>
    obtain ⟨j, want⟩ := q
    rw [hg] at hw
    simp only at hw ⊢
    cases hj : (ops[j]?).bind (·.dst) with
    | none => rw [hj] at hw; cases hw; simp
    | some d =>
      rw [hj] at hw
      simp only at hw
      cases hl : look L d with
      | none => rw [hl] at hw; cases hw
      | some v =>
        rw [hl] at hw
        have := h.get d v hl
        simp only [Option.bind_some, this]
        cases v <;> simp only [Option.some.injEq] at hw <;> subst hw <;> simp

/-- what needs no memory -/
def pv {α : Type} (P : Program) : Sem α → Option α
  | .pure a => some a
  | .program k => pv P (k P)
  | _ => none
theorem pv_run {α : Type} {P : Program} {s : Sem α} {v : α} (h : pv P s = some v) (w : World) : s.run P w = .ok v w := by
  induction s with
  | pure a => cases h; rfl
  | program k ih => exact ih P h
  | _ => cases h

def notSelect : Op → Bool
  | .select .. => false
  | _ => true
def knows (L : Slots) (o : Oper) : Bool := notSelect o.op && o.op.operands.toList.all (known L)
theorem exec_eq {n : Nat} {L : Slots} {a : Act} (h : Fr n L a) {o : Oper} (hk : knows L o = true) : execOp a.eval o = execOp (rho L) o := by
  simp only [knows, Bool.and_eq_true, List.all_eq_true] at hk
  refine execOp_congr o (fun cs b e => ?_) (fun x hx => rho_eval h (hk.2 x (by simpa using hx)))
  rw [e] at hk; cases hk.1

/-- one operation that needs no memory -/
def stepV (P : Program) (n : Nat) (ops : Array Oper) (i : Nat) (L : Slots) : Option Slots :=
  match ops[i]? with
  | none => none
  | some o =>
    bif dstOk n o.dst then
      match wantedL ops L o with
      | none => none
      | some false => some (putL o.dst undef L)
      | some true =>
        bif knows L o then
          match pv P (execOp (rho L) o) with
          | some (.value v) => some (putL o.dst v L)
          | _ => none
        else none
    else none
def runV (P : Program) (n : Nat) (ops : Array Oper) : (count i : Nat) → Slots → Option Slots
  | 0, _, L => some L
  | c + 1, i, L =>
    match stepV P n ops i L with
    | none => none
    | some L' => runV P n ops c (i + 1) L'

/-- a region from an operation on -/
def OW (P : Program) (ops : Array Oper) (Q : Exit → Act → World → Prop) (i n : Nat) (L : Slots) (S : World → Prop) : Prop :=
  ∀ a w, Fr n L a → S w → wpList P ops Q (ops.toList.drop i) a w
/-- code -/
def CW (P : Program) (c : Code) (Q : Exit → Act → World → Prop) (n : Nat) (L : Slots) (S : World → Prop) : Prop :=
  ∀ a w, Fr n L a → S w → c.wp P Q a w
/-- an end -/
def EW (Q : Exit → Act → World → Prop) (e : Exit) (n : Nat) (L : Slots) (S : World → Prop) : Prop :=
  ∀ a w, Fr n L a → S w → Q e a w

section
variable {P : Program} {ops : Array Oper} {Q : Exit → Act → World → Prop} {i n : Nat} {L : Slots} {S : World → Prop} {o : Oper}

theorem drop_at (ho : ops[i]? = some o) : ops.toList.drop i = o :: ops.toList.drop (i + 1) := by
  have h : ops.toList[i]? = some o := by simpa using ho
  obtain ⟨hi, he⟩ := List.getElem?_eq_some_iff.1 h
  rw [List.drop_eq_getElem_cons hi, he]

/-- what is to be shown next -/
def NW (K : Act → World → Prop) (n : Nat) (L : Slots) (S : World → Prop) : Prop := ∀ a w, Fr n L a → S w → K a w
/-- one operation, and what is to be shown behind it -/
def PW (P : Program) (ops : Array Oper) (Q : Exit → Act → World → Prop) (i n : Nat) (L : Slots) (S : World → Prop) (K : Act → World → Prop) : Prop :=
  ∀ a w, Fr n L a → S w → wpOp P ops Q i K a w
/-- an operation that only reads -/
def RunIs (P : Program) (S : World → Prop) (L : Slots) (o : Oper) (v : Value) : Prop := ∀ w, S w → (execOp (rho L) o).run P w = .ok (.value v) w

variable {K : Act → World → Prop}

theorem ow_pw (ho : (ops[i]?).isSome = true) (h : PW P ops Q i n L S (wpList P ops Q (ops.toList.drop (i + 1)))) : OW P ops Q i n L S := by
  obtain ⟨o, ho⟩ := Option.isSome_iff_exists.1 ho
  intro a w hf hs
  have := h a w hf hs
  rw [drop_at ho]
  unfold wpOp at this
  rw [ho] at this
  exact this

theorem pw_skip (ho : ops[i]? = some o) (hd : dstOk n o.dst = true) (hw : wantedL ops L o = some false) (h : NW K n (putL o.dst undef L) S) : PW P ops Q i n L S K := by
  intro a w hf hs
  unfold wpOp
  rw [ho]
  simp only [wanted_of hf hw]
  exact h _ _ (hf.put hd _) hs

theorem pw_wp (ho : ops[i]? = some o) (hw : wantedL ops L o = some true)
    (h : ∀ a w, Fr n L a → S w → o.wp P a w K Q) : PW P ops Q i n L S K := by
  intro a w hf hs
  unfold wpOp
  rw [ho]
  simp only [wanted_of hf hw, if_true]
  exact .inl (h a w hf hs)

/-- an operation whose run is known -/
theorem pw_run {S' : Value → World → Prop} (ho : ops[i]? = some o) (hd : dstOk n o.dst = true) (hw : wantedL ops L o = some true) (hk : knows L o = true)
    (hr : ∀ w, S w → ∃ v w', (execOp (rho L) o).run P w = .ok (.value v) w' ∧ S' v w')
    (h : ∀ v, NW K n (putL o.dst v L) (S' v)) : PW P ops Q i n L S K := by
  refine pw_wp ho hw fun a w hf hs => ?_
  obtain ⟨v, w', hv, hs'⟩ := hr w hs
  unfold Oper.wp
  rw [exec_eq hf hk, hv]
  exact h v _ _ (hf.put hd v) hs'
theorem pw_run0 {S' : World → Prop} (ho : ops[i]? = some o) (hd : dstOk n o.dst = true) (hw : wantedL ops L o = some true) (hk : knows L o = true)
    (hr : ∀ w, S w → ∃ w', (execOp (rho L) o).run P w = .ok .skip w' ∧ S' w')
    (h : NW K n (putL o.dst undef L) S') : PW P ops Q i n L S K := by
  refine pw_wp ho hw fun a w hf hs => ?_
  obtain ⟨w', hv, hs'⟩ := hr w hs
  unfold Oper.wp
  rw [exec_eq hf hk, hv]
  exact h _ _ (hf.put hd _) hs'
theorem pw_quiet {v : Value} (ho : ops[i]? = some o) (hd : dstOk n o.dst = true) (hw : wantedL ops L o = some true) (hk : knows L o = true)
    (hr : RunIs P S L o v) (h : NW K n (putL o.dst v L) S) : PW P ops Q i n L S K :=
  pw_run (S' := fun u w => u = v ∧ S w) ho hd hw hk (fun w hs => ⟨v, w, hr w hs, rfl, hs⟩) fun u a w hf hs => by obtain ⟨rfl, hs⟩ := hs; exact h a w hf hs

theorem q_val {v : Value} (h : pv P (execOp (rho L) o) = some (.value v)) : RunIs P S L o v := fun w _ => pv_run h w
theorem RunIs.weak {S' : World → Prop} {v : Value} (h : RunIs P S L o v) (hs : ∀ w, S' w → S w) : RunIs P S' L o v := fun w h' => h w (hs w h')

theorem ow_one {L' : Slots} (hv : stepV P n ops i L = some L') (h : OW P ops Q (i + 1) n L' S) : OW P ops Q i n L S := by
  unfold stepV at hv
  cases ho : ops[i]? with
  | none => rw [ho] at hv; cases hv
  | some o =>
    refine ow_pw (by rw [ho]; rfl) ?_
    rw [ho] at hv
    simp only at hv
    cases hd : dstOk n o.dst with
    | false => rw [hd] at hv; cases hv
    | true =>
      rw [hd] at hv
      cases hw : wantedL ops L o with
      | none => rw [hw] at hv; cases hv
      | some b =>
        rw [hw] at hv
        cases b with
        | false => cases hv; exact pw_skip ho hd hw h
        | true =>
          cases hk : knows L o with
          | false => rw [hk] at hv; cases hv
          | true =>
            rw [hk] at hv
            simp only [cond_true] at hv
            cases hp : pv P (execOp (rho L) o) with
            | none => rw [hp] at hv; cases hv
            | some x =>
              rw [hp] at hv
              cases x <;> simp only [Option.some.injEq] at hv <;> first | (cases hv; done) | skip
              case value v => subst hv; exact pw_quiet ho hd hw hk (q_val hp) h

theorem ow_keep (ks : List Nat) {L' : Slots} (hl : keepL ks L = L') (h : OW P ops Q i n L' S) : OW P ops Q i n L S :=
  fun a w hf hs => h a w (hl ▸ hf.keep ks) hs

theorem ow_runV : ∀ (c : Nat) {i : Nat} {L L' : Slots}, runV P n ops c i L = some L' → OW P ops Q (i + c) n L' S → OW P ops Q i n L S
  | 0, _, _, _, h, k => by cases h; exact k
  | c + 1, i, L, L', h, k => by
    unfold runV at h
    cases hs : stepV P n ops i L with
    | none => rw [hs] at h; cases h
    | some L1 =>
      rw [hs] at h
      refine ow_one hs (ow_runV c h ?_)
      rw [show i + 1 + c = i + (c + 1) by omega]
      exact k

/-- some operations that need no memory; 'ks': the slots of which anything is told behind them -/
theorem ow_vals (c : Nat) {j : Nat} (ks : List Nat) (L' : Slots) (hj : i + c = j) (h : (runV P n ops c i L).map (keepL ks) = some L') (k : OW P ops Q j n L' S) : OW P ops Q i n L S := by
  cases hr : runV P n ops c i L with
  | none => rw [hr] at h; cases h
  | some L1 =>
    rw [hr] at h
    simp only [Option.map_some, Option.some.injEq] at h
    subst hj
    exact ow_runV c hr (ow_keep ks h k)

theorem ow_end (hi : ops.size = i) (h : EW Q .normal n L S) : OW P ops Q i n L S := by
  intro a w hf hs
  rw [List.drop_of_length_le (by simp [hi])]
  exact h a w hf hs

theorem ow_state {S' : World → Prop} (hs : ∀ w, S w → S' w) (h : OW P ops Q i n L S') : OW P ops Q i n L S := fun a w hf h' => h a w hf (hs w h')

theorem cw_region {id : Nat} (h : OW P ops Q 0 n L S) : CW P (.region id ops false) Q n L S :=
  fun a w hf hs => wp_region_list (by simpa using h a w hf hs)
theorem cw_seq {x y : Code} (h : CW P x (Exit.then (y.wp P Q) Q) n L S) : CW P (.seq x y) Q n L S := fun a w hf hs => wp_seq (h a w hf hs)
theorem cw_mid {x y : Code} (M : Act → World → Prop) (hx : CW P x (Exit.then M Q) n L S) (hy : ∀ a w, M a w → y.wp P Q a w) : CW P (.seq x y) Q n L S :=
  fun a w hf hs => wp_seq (wp_mono (hx a w hf hs) fun e a w hq => by cases e <;> first | exact hy _ _ hq | exact hq)
theorem cw_block {id : Nat} {c : Code} (h : CW P c (Exit.inBlock id Q) n L S) : CW P (.block id c) Q n L S := fun a w hf hs => wp_block (h a w hf hs)
theorem cw_cond {c : Operand} {x y : Code} {b : Bool} (hk : known L c = true) (hc : rho L c = .bool b) (ht : b = true → CW P x Q n L S) (hf : b = false → CW P y Q n L S) : CW P (.cond c x y) Q n L S :=
  fun a w fr hs => wp_cond_split ((rho_eval fr hk).trans hc) (fun e => ht e a w fr hs) (fun e => hf e a w fr hs)
theorem cw_cond_t {c : Operand} {x y : Code} {b : Bool} (hk : known L c = true) (hc : rho L c = .bool b) (hb : b = true) (h : CW P x Q n L S) : CW P (.cond c x y) Q n L S :=
  cw_cond hk hc (fun _ => h) (fun e => by rw [hb] at e; cases e)
theorem cw_cond_f {c : Operand} {x y : Code} {b : Bool} (hk : known L c = true) (hc : rho L c = .bool b) (hb : b = false) (h : CW P y Q n L S) : CW P (.cond c x y) Q n L S :=
  cw_cond hk hc (fun e => by rw [hb] at e; cases e) (fun _ => h)
theorem cw_skip (h : EW Q .normal n L S) : CW P .skip Q n L S := fun a w hf hs => wp_skip (h a w hf hs)
theorem cw_label {l : Nat} (h : EW Q .normal n L S) : CW P (.label l) Q n L S := fun a w hf hs => wp_label (h a w hf hs)
theorem cw_ret (h : EW Q .ret n L S) : CW P .ret Q n L S := fun a w hf hs => wp_ret (h a w hf hs)
theorem cw_exit {id : Nat} (h : EW Q (.exit id) n L S) : CW P (.exit id) Q n L S := fun a w hf hs => wp_exit (h a w hf hs)
theorem cw_keep {c : Code} (ks : List Nat) {L' : Slots} (hl : keepL ks L = L') (h : CW P c Q n L' S) : CW P c Q n L S := fun a w hf hs => h a w (hl ▸ hf.keep ks) hs
theorem cw_state {c : Code} {S' : World → Prop} (hs : ∀ w, S w → S' w) (h : CW P c Q n L S') : CW P c Q n L S := fun a w hf h' => h a w hf (hs w h')

theorem ew_then {y : Code} (h : CW P y Q n L S) : EW (Exit.then (y.wp P Q) Q) .normal n L S := h
theorem ew_then_ret {K : Act → World → Prop} (h : EW Q .ret n L S) : EW (Exit.then K Q) .ret n L S := h
theorem ew_then_exit {K : Act → World → Prop} {id : Nat} (h : EW Q (.exit id) n L S) : EW (Exit.then K Q) (.exit id) n L S := h
theorem ew_blk {id : Nat} (h : EW Q .normal n L S) : EW (Exit.inBlock id Q) .normal n L S := h
theorem ew_blk_ret {id : Nat} (h : EW Q .ret n L S) : EW (Exit.inBlock id Q) .ret n L S := h
theorem ew_blk_exit {id : Nat} (h : EW Q .normal n L S) : EW (Exit.inBlock id Q) (.exit id) n L S := fun a w hf hs => by
  simp only [Exit.inBlock, if_true]; exact h a w hf hs
theorem ew_blk_other {id id' : Nat} (hne : id' ≠ id) (h : EW Q (.exit id') n L S) : EW (Exit.inBlock id Q) (.exit id') n L S := fun a w hf hs => by
  simp only [Exit.inBlock, if_neg hne]; exact h a w hf hs

/-- a loop: 'I k': so many rounds are left at most -/
theorem wp_rounds {c : Code} (I : Nat → Act → World → Prop)
    (round : ∀ k a w, I k a w → c.wp P (Exit.then (fun a w => ∃ k', k' < k ∧ I k' a w) Q) a w) : ∀ k a w, I k a w → (Code.loop c).wp P Q a w := by
  intro k0 a0 w0 h0
  have dec : ∀ a w, Decidable (∃ k, I k a w) := fun _ _ => Classical.propDecidable _
  have key : ∀ a w (h : ∃ k, I k a w), ∃ m, I m a w ∧ ∀ k, I k a w → m ≤ k := by
    intro a w ⟨k, hk⟩
    induction k using Nat.strongRecOn with
    | _ k ih =>
      by_cases hl : ∃ k', k' < k ∧ I k' a w
      · obtain ⟨k', h1, h2⟩ := hl; exact ih k' h1 h2
      · refine ⟨k, hk, fun k' hk' => ?_⟩
        rcases Nat.lt_or_ge k' k with h | h
        · exact absurd ⟨k', h, hk'⟩ hl
        · exact h
  classical
  let μ : Act → World → Nat := fun a w => if h : ∃ k, I k a w then Classical.choose (key a w h) else 0
  have hμ : ∀ a w (h : ∃ k, I k a w), I (μ a w) a w ∧ ∀ k, I k a w → μ a w ≤ k := fun a w h => by
    have := Classical.choose_spec (key a w h)
    simp only [μ, dif_pos h]
    exact this
  refine wp_loop (fun a w => ∃ k, I k a w) μ ⟨k0, h0⟩ fun a w hI => ?_
  have h1 := hμ a w hI
  refine wp_mono (round _ a w h1.1) fun e a' w' hq => ?_
  cases e <;> first | exact hq | skip
  obtain ⟨k', hlt, hk'⟩ := hq
  exact ⟨⟨k', hk'⟩, Nat.lt_of_le_of_lt ((hμ a' w' ⟨k', hk'⟩).2 k' hk') hlt⟩
end
end Go.Fw
