/- What a proof of layer 24 tells of an ID, in plain words. -/
import Derived.Test.YtileogoeoiafkaaPId
import Derived.Test.YtileogoeoiafkaaGClimb
namespace Go.Proofs.Ytileogoeoiafkaa
set_option linter.all false
open Go Go.RowKit Go.Fw
set_option maxRecDepth 100000
attribute [local irreducible] FUEL
theorem leafA_eq {s : ByteArray} (h : idB s = true) (m : mill_Mill) : F.absent_leaf s m = some (idL m.table_ s, runM [idT s] m) := by
  unfold F.absent_leaf
  have := textB_size (s := s) (by have := (idB_small h).1; omega)
  have hs := (idB_small h).1
  rw [text_eq (by omega), Option.bind_some, chk_pos (by show 2 + _ ≤ _; omega)]
  rw [show (ByteArray.mk #[105, 100]) = wId from rfl, pleaf_eq h, Option.bind_some]
/-- why a side is not in a tree (0: it is), and what was summed -/
def standA (T : Tab) (root : ByteArray) (size : Int) (s : absent_Side) : Int × Texts :=
  if idB s.ID = false then (13, [])
  else if (clim T (idL T s.ID) s.Index size s.Path).2.1 ≠ 0 then (20, idT s.ID :: (clim T (idL T s.ID) s.Index size s.Path).2.2)
  else if (clim T (idL T s.ID) s.Index size s.Path).1 ≠ root then (19, idT s.ID :: (clim T (idL T s.ID) s.Index size s.Path).2.2)
  else (0, idT s.ID :: (clim T (idL T s.ID) s.Index size s.Path).2.2)
theorem runM_cons (a : ByteArray) (b : Texts) (m : mill_Mill) : runM (a :: b) m = runM b (runM [a] m) := rfl
theorem stands_eq {T : Tab} (hT : S32 T) (root : ByteArray) (size : Int) {s : absent_Side} (hp : s.Path.length < 1000000000000000000) (m : mill_Mill) (hm : m.table_ = T) :
    F.absent_stands root size s m = some ((standA T root size s).1, runM (standA T root size s).2 m) := by
  unfold F.absent_stands standA
  rw [isid_eq, Option.bind_some]
  cases hi : idB s.ID with
  | false => rfl
  | true =>
    rw [if_neg (by decide), if_neg (c := true = false) (by decide), leafA_eq hi, Option.bind_some]
    dsimp only
    rw [hm, clim_eq hT _ _ hp _ (by rw [runM_table, hm]), Option.bind_some]
    dsimp only
    generalize clim T (idL T s.ID) s.Index size s.Path = q
    obtain ⟨r, e, ts⟩ := q
    dsimp only
    by_cases he : e = 0 <;> by_cases hr : r = root <;> simp [he, hr, seqB_dec] <;> rfl
/-- the first side that does not stand (0: all do), and what was summed -/
def sidesA (T : Tab) (root : ByteArray) (size : Int) : List absent_Side → Int × Texts
  | [] => (0, [])
  | s :: r => if (standA T root size s).1 ≠ 0 then standA T root size s else ((sidesA T root size r).1, (standA T root size s).2 ++ (sidesA T root size r).2)
abbrev M7 := Tab × Tab × ByteArray × ByteArray × Bool × Bool × Int
def m7 (m : mill_Mill) : M7 := (m.table_, m.notes_, m.twins_.e0, m.twins_.e1, m.found_, m.full_, m.sums_)
def endA (q : Int × Texts) (m : mill_Mill) : M7 ⊕ (Bool × Int × mill_Mill) := if q.1 ≠ 0 then .inr (false, q.1, runM q.2 m) else .inl (m7 (runM q.2 m))
theorem sides_loop {T : Tab} (root : ByteArray) (size : Int) {sides : List absent_Side} {f : Int × M7 → Option ((Int × M7) ⊕ (M7 ⊕ (Bool × Int × mill_Mill)))}
    (hf : ∀ (i : Nat) (s : absent_Side) (m : mill_Mill), m.table_ = T → sides[i]? = some s → f ((i : Int), m7 m) = some (if (standA T root size s).1 ≠ 0 then .inr (.inr (false, (standA T root size s).1, runM (standA T root size s).2 m)) else .inl (((i + 1 : Nat) : Int), m7 (runM (standA T root size s).2 m))))
    (hn : ∀ m, f ((sides.length : Int), m7 m) = some (.inr (.inl (m7 m)))) :
    ∀ (l : List absent_Side) (i : Nat) (m : mill_Mill) (k : Nat), m.table_ = T → sides.drop i = l → i + l.length = sides.length → l.length < k → iter f k ((i : Int), m7 m) = some (endA (sidesA T root size l) m)
  | l, i, m, 0, _, _, _, h => by omega
  | [], i, m, k + 1, hm, hd, hl, hk => by
    have : i = sides.length := by simpa using hl
    subst this
    rw [iter, hn]; rfl
  | s :: l, i, m, k + 1, hm, hd, hl, hk => by
    have hy : sides[i]? = some s := by
      have := congrArg List.head? hd
      rw [List.head?_drop] at this
      simpa using this
    rw [iter, hf i s m hm hy]
    unfold sidesA
    by_cases h : (standA T root size s).1 = 0
    · rw [if_neg (by simpa using h), if_neg (by simpa using h)]
      dsimp only
      rw [sides_loop root size hf hn l (i + 1) (runM (standA T root size s).2 m) k (by rw [runM_table, hm]) (by rw [← List.drop_drop, hd]; rfl) (by simp only [List.length_cons] at hl; omega) (by simp only [List.length_cons] at hk; omega)]
      unfold endA
      dsimp only
      rw [runM_app]
    · rw [if_pos h, if_pos h]
      unfold endA
      rw [if_pos h]
/-- are sides those between which an ID would be? -/
def betw (p : absent_Proof) (id : ByteArray) : Bool :=
  match p.Sides with
  | [] => p.Size == 0
  | [s] => sltB s.ID id && s.Index == IntKind.i64.wrap (p.Size - 1) || !(sltB s.ID id || seqB s.ID id) && s.Index == 0
  | a :: b :: _ => sltB a.ID id && (sltB id b.ID && IntKind.i64.wrap (b.Index - 1) == a.Index)
theorem betw_eq (p : absent_Proof) (id : ByteArray) : F.absent_between p id = some (betw p id) := by
  unfold F.absent_between betw
  rcases hs : p.Sides with _ | ⟨a, _ | ⟨b, r⟩⟩
  · rfl
  · rw [if_neg (ln0_neg (by simp)), if_pos (ln1_pos rfl)]
    rw [show at_ [a] 0 = some a from rfl, Option.bind_some]
    dsimp only
    cases h1 : sltB a.ID id <;> cases h2 : (a.Index == IntKind.i64.wrap (p.Size - 1)) <;> cases h3 : seqB a.ID id <;> rfl
  · rw [if_neg (ln0_neg (by simp)), if_neg (ln1_neg (by simp))]
    show F.absent_between.r1 p id = _
    unfold F.absent_between.r1
    rw [hs, show at_ (a :: b :: r) 0 = some a from rfl, Option.bind_some, show at_ (a :: b :: r) 1 = some b from rfl, Option.bind_some]
    dsimp only
    cases h1 : sltB a.ID id <;> cases h2 : sltB id b.ID <;> rfl
/-- the one side's ID is the ID -/
def isOne (p : absent_Proof) (id : ByteArray) : Bool :=
  match p.Sides with
  | [s] => seqB s.ID id
  | _ => false
def pre0 (size : Int) : Texts := if size = 0 then [b0] else []
/-- what a proof tells, why it tells nothing, and what was summed -/
def chkA (T : Tab) (root : ByteArray) (size : Int) (id : ByteArray) (p : absent_Proof) : Bool × Int × Texts :=
  if idB id = false then (false, 13, [])
  else if p.Size ≠ size ∨ size < 0 ∨ size > 65536 ∨ p.Sides.length > 2 then (false, 21, [])
  else if size = 0 ∧ root ≠ sumB T b0 then (false, 19, [b0])
  else if (sidesA T root size p.Sides).1 ≠ 0 then (false, (sidesA T root size p.Sides).1, pre0 size ++ (sidesA T root size p.Sides).2)
  else if isOne p id = true then (true, 0, pre0 size ++ (sidesA T root size p.Sides).2)
  else if betw p id = true then (false, 0, pre0 size ++ (sidesA T root size p.Sides).2)
  else (false, 22, pre0 size ++ (sidesA T root size p.Sides).2)
theorem four_if {α : Type} {a b c d : Prop} [Decidable a] [Decidable b] [Decidable c] [Decidable d] (x y : α) : (if a then x else (if b then x else (if c then x else (if d then x else y)))) = if a ∨ b ∨ c ∨ d then x else y := by
  by_cases a <;> by_cases b <;> by_cases c <;> by_cases d <;> simp_all
theorem check_eq {T : Tab} (hT : S32 T) (root : ByteArray) (size : Int) (id : ByteArray) {p : absent_Proof} (hp : ∀ s ∈ p.Sides, s.Path.length < 1000000000000000000) (hl : p.Sides.length < 1000000000000000000) (m : mill_Mill) (hm : m.table_ = T) :
    F.absent_Check root size id p m = some ((chkA T root size id p).1, (chkA T root size id p).2.1, runM (chkA T root size id p).2.2 m) := by
  have hloop : ∀ m : mill_Mill, m.table_ = T → F.absent_Check.r2 root size id p m.table_ m.notes_ m.twins_.e0 m.twins_.e1 m.found_ m.full_ m.sums_ = some (if (sidesA T root size p.Sides).1 ≠ 0 then (false, (sidesA T root size p.Sides).1, runM (sidesA T root size p.Sides).2 m) else if isOne p id = true then (true, 0, runM (sidesA T root size p.Sides).2 m)
      else if betw p id = true then (false, 0, runM (sidesA T root size p.Sides).2 m) else (false, 22, runM (sidesA T root size p.Sides).2 m)) := fun m hm => by
    have h := sides_loop (T := T) root size (sides := p.Sides) (f := fun x => F.absent_Check.l3 root size p x.1 x.2.1 x.2.2.1 x.2.2.2.1 x.2.2.2.2.1 x.2.2.2.2.2.1 x.2.2.2.2.2.2.1 x.2.2.2.2.2.2.2) (fun i s m hm hs => by
        have hi := lt_of_get hs
        unfold m7
        dsimp only
        unfold F.absent_Check.l3
        rw [if_pos (by simp; omega), at_nat hs, Option.bind_some]
        show Option.bind (F.absent_stands root size s m) _ = _
        rw [stands_eq hT root size (hp s (List.mem_of_getElem? hs)) m hm, Option.bind_some]
        dsimp only
        by_cases h : (standA T root size s).1 = 0
        · rw [if_neg (by simpa using h), if_neg (by simpa using h), w64 (n := (i : Int) + 1) (by omega) (by omega)]; rfl
        · rw [if_pos (by simpa using h), if_pos h]) (fun m => by
        unfold m7
        dsimp only
        unfold F.absent_Check.l3
        rw [if_neg (by simp)]) p.Sides 0 m FUEL hm rfl (by omega) (by rw [FUEL_eq]; omega)
    unfold F.absent_Check.r2
    refine (congrArg (fun o => thru o _) h).trans ?_
    unfold endA
    by_cases h0 : (sidesA T root size p.Sides).1 = 0
    · rw [if_neg (by simpa using h0), if_neg (by simpa using h0)]
      show F.absent_Check.r4 id p _ _ _ _ _ _ _ = _
      unfold F.absent_Check.r4 F.absent_Check.r5
      rw [betw_eq]
      rcases hs : p.Sides with _ | ⟨a, _ | ⟨b, r⟩⟩
      · have ho : isOne p id = false := by unfold isOne; rw [hs]
        rw [ho, if_neg (ln1_neg (by simp))]
        cases hb : betw p id <;> rfl
      · have ho : isOne p id = seqB a.ID id := by unfold isOne; rw [hs]
        rw [ho, if_pos (ln1_pos rfl), show at_ [a] 0 = some a from rfl, Option.bind_some]
        cases hq : seqB a.ID id
        · cases hb : betw p id <;> rfl
        · rfl
      · have ho : isOne p id = false := by unfold isOne; rw [hs]
        rw [ho, if_neg (ln1_neg (by simp))]
        cases hb : betw p id <;> rfl
    · rw [if_pos h0, if_pos h0]
      rfl
  unfold F.absent_Check chkA
  rw [isid_eq, Option.bind_some]
  cases hi : idB id with
  | false => rfl
  | true =>
    rw [if_neg (c := (!true) = true) (by decide), if_neg (c := true = false) (by decide)]
    have e4 : (if (p.Size != size) = true then some true else if decide (size < 0) = true then some true else if decide (size > 65536) = true then some true else some (decide ((p.Sides.length : Int) > 2))) = some (decide (p.Size ≠ size ∨ size < 0 ∨ size > 65536 ∨ p.Sides.length > 2)) := by
      by_cases a : p.Size = size
      · rw [if_neg (by simpa using a)]
        by_cases b : size < 0
        · rw [if_pos (by simpa using b)]; simp [b]
        rw [if_neg (by simpa using b)]
        by_cases c : size > 65536
        · rw [if_pos (by simpa using c)]; simp [c]
        rw [if_neg (by simpa using c)]
        congr 1
        apply decide_eq_decide.2
        constructor
        · intro h; exact .inr (.inr (.inr (by omega)))
        · rintro (h | h | h | h)
          · exact absurd a h
          · exact absurd h b
          · exact absurd h c
          · omega
      · rw [if_pos (by simpa using a)]; simp [a]
    rw [e4, Option.bind_some]
    unfold F.absent_Check.r1
    by_cases h1 : p.Size ≠ size ∨ size < 0 ∨ size > 65536 ∨ p.Sides.length > 2
    · rw [if_pos (by simpa using h1), if_pos h1]; rfl
    rw [if_neg (by simpa using h1), if_neg h1]
    unfold pre0
    by_cases h2 : size = 0
    · rw [if_pos (by simpa using h2), none_eq, Option.bind_some, if_pos h2]
      dsimp only
      rw [hm]
      by_cases h3 : root = sumB T b0
      · rw [if_neg (by rw [seqB_iff.2 h3]; decide), if_neg (fun h => h.2 h3)]
        refine (hloop (runM [b0] m) (by rw [runM_table, hm])).trans ?_
        repeat' split
        all_goals rfl
      · rw [if_pos (by simpa using fun h => h3 (seqB_iff.1 h)), if_pos ⟨h2, h3⟩]; rfl
    · rw [if_neg (by simpa using h2), if_neg (fun h => h2 h.1), if_neg h2]
      refine (hloop m hm).trans ?_
      repeat' split
      all_goals rfl
end Go.Proofs.Ytileogoeoiafkaa
