/- AbsentProves in plain words: what is proved of an ID by a list, and that it is believed. -/
import Derived.Test.YtileogoeoiafkaaPPath
import Derived.Test.YtileogoeoiafkaaPSame24
import Derived.Test.YtileogoeoiafkaaPAwake24
import Derived.Test.YtileogoeoiafkaaGProves
namespace Go.Proofs.Ytileogoeoiafkaa
set_option linter.all false
open Go Go.RowKit Go.Fw
set_option maxRecDepth 100000
attribute [local irreducible] FUEL
def sideB (T : Tab) (t : Texts) (j : Nat) : absent_Side := ⟨(j : Int), (t[j]?).getD b0, path T (t.map (idL T)) j⟩
def lowB (T : Tab) (t : Texts) (i : Nat) : List absent_Side := if 0 < i then [sideB T t (i - 1)] else []
def highB (T : Tab) (t : Texts) (i : Nat) : List absent_Side := if i < t.length then [sideB T t i] else []
def sidesB (T : Tab) (t : Texts) (id : ByteArray) (i : Nat) : List absent_Side := if thereB t id i = true then [sideB T t i] else lowB T t i ++ highB T t i
theorem fuel_succ : ∃ k, FUEL = k + 1 ∧ 1000 ≤ k := ⟨18446744073709551615, FUEL_eq, by decide⟩
theorem lowB_length (T : Tab) (t : Texts) (i : Nat) : (lowB T t i).length ≤ 1 := by unfold lowB; split <;> simp
theorem side_eq {T : Tab} (hT : S32 T) {t : Texts} (ht : ∀ x ∈ t, idB x = true) (hl : t.length ≤ 800) {j : Nat} (hj : j < t.length) (m : mill_Mill) (hm : m.table_ = T) : ∃ m', F.absent_side t (j : Int) m = some (sideB T t j, m') ∧ m'.table_ = T := by
  obtain ⟨k, hk, hk2⟩ := fuel_succ
  unfold F.absent_side
  rw [leavesA_eq ht hl m hm, Option.bind_some]
  dsimp only
  obtain ⟨m', e, g, _⟩ := mpath_eq hT (t.map (idL T)).length (t.map (idL T)) j (runM (t.map idT) m) k (by rw [runM_table, hm]) (Nat.le_refl _) (by rw [List.length_map]; omega) (by rw [List.length_map]; omega) (by rw [List.length_map]; omega) (idL_32 hT)
  rw [hk, e, Option.bind_some, at_nat (List.getElem?_eq_getElem hj), Option.bind_some]
  refine ⟨m', ?_, g⟩
  unfold sideB
  rw [List.getElem?_eq_getElem hj]; rfl
theorem prove_eq {T : Tab} (hT : S32 T) {l : Texts} (hl : l.length ≤ 800) {id : ByteArray} (hid : idB id = true) (m : mill_Mill) (hm : m.table_ = T) : ∃ (i : Nat) (m' : mill_Mill), Pos (tidyB l) id i ∧ F.absent_Prove l id m = some (⟨((tidyB l).length : Int), sidesB T (tidyB l) id i⟩, 0, m') ∧ m'.table_ = T := by
  obtain ⟨h1, _, h3, h4⟩ := tidyB_eq hl
  generalize tidyB l = t at h1 h3 h4
  have hids : ∀ x ∈ t, idB x = true := fun x hx => ((h3.mem x).1 hx).2
  obtain ⟨i, e1, hp⟩ := bin_eq h3.sorted (by omega) id
  unfold F.absent_Prove
  rw [isid_eq, Option.bind_some, hid, if_neg (by decide), h1, Option.bind_some, e1, Option.bind_some]
  dsimp only
  have hroom : ∀ {x y : absent_Side} (o : List absent_Side), o.length ≤ 1 → room (o.length + ([x] : List absent_Side).length) 48 := fun o ho => room_small (by rw [List.length_singleton]; omega) (by omega)
  have hr1 : ∀ (o : List absent_Side) (m2 : mill_Mill), thereB t id i = false → o = lowB T t i → m2.table_ = T → ∃ m', F.absent_Prove.r1 t ((i : Int), thereB t id i) m2.table_ m2.notes_ m2.twins_.e0 m2.twins_.e1 m2.found_ m2.full_ m2.sums_ o = some (⟨(t.length : Int), sidesB T t id i⟩, 0, m') ∧ m'.table_ = T := fun o m2 hth ho hm2 => by
    have hol := lowB_length T t i
    rw [← ho] at hol
    unfold F.absent_Prove.r1 sidesB highB
    rw [if_neg (c := thereB t id i = true) (by rw [hth]; decide), ← ho]
    by_cases hi : i < t.length
    · obtain ⟨m3, e3, g3⟩ := side_eq hT hids (by omega) hi m2 hm2
      rw [if_pos (by simpa using hi), if_pos hi]
      show ∃ m', Option.bind (F.absent_side t (i : Int) m2) _ = _ ∧ _
      rw [e3, Option.bind_some]
      dsimp only
      rw [chk_pos (room_small (by rw [List.length_singleton]; omega) (by omega))]
      exact ⟨m3, rfl, g3⟩
    · rw [if_neg (by simpa using hi), if_neg hi, List.append_nil]
      exact ⟨m2, rfl, hm2⟩
  cases hth : thereB t id i with
  | true =>
    have hi : i < t.length := by
      apply Classical.byContradiction
      intro hn
      unfold thereB at hth
      rw [List.getElem?_eq_none (by omega)] at hth
      simp at hth
    obtain ⟨m3, e3, g3⟩ := side_eq hT hids (by omega) hi m hm
    rw [if_pos rfl, e3, Option.bind_some]
    dsimp only
    rw [chk_pos (room_small (by rw [List.length_singleton, List.length_nil]; omega) (by omega))]
    refine ⟨i, m3, hp, ?_, g3⟩
    unfold sidesB
    rw [if_pos hth]; rfl
  | false =>
    rw [if_neg (by decide)]
    by_cases h0 : 0 < i
    · have hle := hp.le
      obtain ⟨m3, e3, g3⟩ := side_eq hT hids (by omega) (j := i - 1) (by omega) m hm
      rw [if_pos (by simpa using h0), w64 (n := (i : Int) - 1) (by omega) (by omega), show (i : Int) - 1 = ((i - 1 : Nat) : Int) by omega, e3, Option.bind_some]
      dsimp only
      rw [chk_pos (room_small (by rw [List.length_singleton, List.length_nil]; omega) (by omega))]
      obtain ⟨m4, e4, g4⟩ := hr1 ([] ++ [sideB T t (i - 1)]) m3 hth (by unfold lowB; rw [if_pos h0]; rfl) g3
      rw [hth] at e4
      exact ⟨i, m4, hp, e4, g4⟩
    · rw [if_neg (by simpa using h0)]
      obtain ⟨m4, e4, g4⟩ := hr1 [] m hth (by unfold lowB; rw [if_neg h0]) hm
      rw [hth] at e4
      exact ⟨i, m4, hp, e4, g4⟩
/-! ### it is believed -/
theorem clim_path {T : Tab} (hT : S32 T) {t : Texts} (hl : t.length ≤ 60000) {j : Nat} {s : ByteArray} (hj : t[j]? = some s) : (clim T (idL T s) (j : Int) (t.length : Int) (path T (t.map (idL T)) j)).2.1 = 0 ∧ (clim T (idL T s) (j : Int) (t.length : Int) (path T (t.map (idL T)) j)).1 = tree T (t.map (idL T)) := by
  have hjl := lt_of_get hj
  have hlm : (t.map (idL T)).length = t.length := List.length_map _
  obtain ⟨g1, g2⟩ := path_up T (t.map (idL T)).length (t.map (idL T)) j (s := idL T s) (Nat.le_refl _) (by rw [List.getElem?_map, hj]; rfl)
  have hp16 := path_length T 16 (t.map (idL T)) j (by rw [hlm]; omega)
  have hp32 : all32B (path T (t.map (idL T)) j) = true := List.all_eq_true.2 fun y hy => decide_eq_true (path_32 hT _ _ j (Nat.le_refl _) (idL_32 hT) y hy)
  rw [hlm] at g1 g2
  unfold clim
  rw [if_neg (by omega), if_neg (by
    rintro (h | h | h)
    · omega
    · exact h (hT _)
    · rw [hp32] at h; cases h), Int.toNat_natCast, Int.toNat_natCast, if_neg (by rw [g1]; decide)]
  exact ⟨rfl, g2⟩
theorem stand_side {T : Tab} (hT : S32 T) {t : Texts} (ht : ∀ x ∈ t, idB x = true) (hl : t.length ≤ 60000) {j : Nat} (hj : j < t.length) : (standA T (tree T (t.map (idL T))) (t.length : Int) (sideB T t j)).1 = 0 := by
  have hy := List.getElem?_eq_getElem hj
  have hsid : (sideB T t j).ID = t[j] := by unfold sideB; rw [hy]; rfl
  obtain ⟨c1, c2⟩ := clim_path hT hl hy
  have hI : (sideB T t j).Index = (j : Int) := rfl
  have hP : (sideB T t j).Path = path T (t.map (idL T)) j := rfl
  unfold standA
  rw [hsid, hI, hP, if_neg (by rw [ht _ (List.getElem_mem hj)]; decide), if_neg (by rw [c1]; decide), if_neg (by rw [c2]; simp)]
theorem sidesA_none {T : Tab} {root : ByteArray} {size : Int} : ∀ {l : List absent_Side}, (∀ s ∈ l, (standA T root size s).1 = 0) → (sidesA T root size l).1 = 0
  | [], _ => rfl
  | a :: l, h => by
    unfold sidesA
    rw [if_neg (by rw [h a (List.mem_cons_self ..)]; decide)]
    exact sidesA_none fun s hs => h s (List.mem_cons_of_mem _ hs)
theorem believed {T : Tab} (hT : S32 T) {t : Texts} (hs : t.Pairwise Lt) (ht : ∀ x ∈ t, idB x = true) (hl : t.length ≤ 60000) {id : ByteArray} (hid : idB id = true) {i : Nat} (hp : Pos t id i) :
    (chkA T (tree T (t.map (idL T))) (t.length : Int) id ⟨(t.length : Int), sidesB T t id i⟩).1 = thereB t id i ∧ (chkA T (tree T (t.map (idL T))) (t.length : Int) id ⟨(t.length : Int), sidesB T t id i⟩).2.1 = 0 := by
  have hle := hp.le
  have hlen : (sidesB T t id i).length ≤ 2 := by
    unfold sidesB lowB highB
    repeat' split
    all_goals simp
  have hall : ∀ s ∈ sidesB T t id i, (standA T (tree T (t.map (idL T))) (t.length : Int) s).1 = 0 := by
    intro s hs
    unfold sidesB lowB highB at hs
    by_cases hth : thereB t id i = true
    · rw [if_pos hth, List.mem_singleton] at hs
      have hi : i < t.length := by
        apply Classical.byContradiction
        intro hn
        unfold thereB at hth
        rw [List.getElem?_eq_none (by omega)] at hth
        simp at hth
      subst hs
      exact stand_side hT ht hl hi
    · rw [if_neg hth] at hs
      rcases List.mem_append.1 hs with hs | hs
      · by_cases h0 : 0 < i
        · rw [if_pos h0, List.mem_singleton] at hs
          subst hs
          exact stand_side hT ht hl (by omega)
        · rw [if_neg h0] at hs; cases hs
      · by_cases hi : i < t.length
        · rw [if_pos hi, List.mem_singleton] at hs
          subst hs
          exact stand_side hT ht hl hi
        · rw [if_neg hi] at hs; cases hs
  have hz : ¬ ((t.length : Int) = 0 ∧ tree T (t.map (idL T)) ≠ sumB T b0) := fun h => h.2 (tree_nil T (by rw [List.length_map]; omega))
  unfold chkA
  rw [if_neg (by rw [hid]; decide), if_neg (by dsimp only; omega), if_neg hz, if_neg (by rw [sidesA_none hall]; decide)]
  by_cases hth : thereB t id i = true
  · have h1 : isOne ⟨(t.length : Int), sidesB T t id i⟩ id = true := by
      unfold isOne sidesB
      rw [if_pos hth]
      dsimp only
      unfold thereB at hth
      have := of_decide_eq_true hth
      unfold sideB
      rw [this]
      exact seqB_refl id
    rw [if_pos h1, hth]
    exact ⟨rfl, rfl⟩
  · have hf : thereB t id i = false := by cases h : thereB t id i with | true => exact absurd h hth | false => rfl
    have hget : ∀ j (hj : j < t.length), (sideB T t j).ID = t[j] := fun j hj => by unfold sideB; rw [List.getElem?_eq_getElem hj]; rfl
    have hhigh : ∀ (hi : i < t.length), Lt id t[i] := fun hi => by
      have h1 := hp.high i t[i] (Nat.le_refl _) (List.getElem?_eq_getElem hi)
      apply Classical.byContradiction
      intro hn
      have := Lt.total h1 hn
      apply hth
      unfold thereB
      rw [List.getElem?_eq_getElem hi, this]
      exact decide_eq_true rfl
    have hlow : ∀ (h0 : 0 < i) (hj : i - 1 < t.length), Lt t[i - 1] id := fun h0 hj => hp.low (i - 1) _ (by omega) (List.getElem?_eq_getElem hj)
    have hboth : isOne ⟨(t.length : Int), sidesB T t id i⟩ id = false ∧ betw ⟨(t.length : Int), sidesB T t id i⟩ id = true := by
      unfold isOne betw sidesB lowB highB
      rw [if_neg hth]
      by_cases h0 : 0 < i
      · have hj : i - 1 < t.length := by omega
        have l1 := hlow h0 hj
        by_cases hi : i < t.length
        · have l2 := hhigh hi
          rw [if_pos h0, if_pos hi]
          refine ⟨rfl, ?_⟩
          show (sltB (sideB T t (i - 1)).ID id && (sltB id (sideB T t i).ID && IntKind.i64.wrap ((i : Int) - 1) == ((i - 1 : Nat) : Int))) = true
          rw [hget _ hj, hget _ hi, sltB_dec, sltB_dec, decide_eq_true l1, decide_eq_true l2, w64 (by omega) (by omega), show (i : Int) - 1 = ((i - 1 : Nat) : Int) by omega]
          simp
        · rw [if_pos h0, if_neg hi]
          refine ⟨?_, ?_⟩
          · show seqB (sideB T t (i - 1)).ID id = false
            rw [hget _ hj, seqB_dec]
            simp [l1.ne]
          · show (sltB (sideB T t (i - 1)).ID id && ((i - 1 : Nat) : Int) == IntKind.i64.wrap ((t.length : Int) - 1) || _) = true
            rw [hget _ hj, sltB_dec, decide_eq_true l1, w64 (by omega) (by omega), show (t.length : Int) - 1 = ((i - 1 : Nat) : Int) by omega]
            simp
      · by_cases hi : i < t.length
        · have l2 := hhigh hi
          rw [if_neg h0, if_pos hi]
          refine ⟨?_, ?_⟩
          · show seqB (sideB T t i).ID id = false
            rw [hget _ hi, seqB_dec]
            simp [l2.ne.symm]
          · show (_ || !(sltB (sideB T t i).ID id || seqB (sideB T t i).ID id) && ((i : Nat) : Int) == 0) = true
            have n1 : ¬ Lt t[i] id := fun h => h.asymm l2
            rw [hget _ hi, sltB_dec, seqB_dec, decide_eq_false n1, decide_eq_false l2.ne.symm]
            have : i = 0 := by omega
            subst this
            simp
        · rw [if_neg h0, if_neg hi]
          refine ⟨rfl, ?_⟩
          show ((t.length : Int) == 0) = true
          have : t.length = 0 := by omega
          rw [this]; rfl
    rw [if_neg (by rw [hboth.1]; decide), if_pos hboth.2, hf]
    exact ⟨rfl, rfl⟩
/-! ### the law -/
theorem lin_loop {t : Texts} (ht : t.Pairwise Lt) (hl : t.length ≤ 800) (id : ByteArray) : ∃ i : Nat, iter (fun x => F.law24_AbsentProves.l2 id t x) FUEL 0 = some (i : Int) ∧ Pos t id i := by
  obtain ⟨r, hr, i, rfl, hp⟩ := iter_up (f := fun x : Int => F.law24_AbsentProves.l2 id t x) t.length
    (fun n x => x = (n : Int) ∧ ∀ (j : Nat) (z : ByteArray), j < n → t[j]? = some z → Lt z id) (fun r : Int => ∃ i : Nat, r = (i : Int) ∧ Pos t id i)
    (fun n x hn hx => by
      obtain ⟨rfl, h1⟩ := hx
      have hy : t[n]? = some t[n] := List.getElem?_eq_getElem hn
      unfold F.law24_AbsentProves.l2
      rw [if_pos (by apply decide_eq_true; omega), at_nat hy, Option.bind_some, sltB_dec]
      by_cases hlt : Lt t[n] id
      · left
        rw [if_pos (by simpa using hlt), w64 (n := (n : Int) + 1) (by omega) (by omega)]
        refine ⟨_, rfl, rfl, fun j z hj hz => ?_⟩
        by_cases hjn : j = n
        · subst hjn; rw [hy] at hz; cases hz; exact hlt
        · exact h1 j z (by omega) hz
      · right
        rw [if_neg (by simpa using hlt)]
        refine ⟨_, rfl, n, rfl, by omega, h1, fun j z hj hz hn2 => ?_⟩
        rcases sorted_le ht hy hz hj with e | e
        · exact hlt (e ▸ hn2)
        · exact hlt (e.trans hn2))
    (fun x hx => by
      obtain ⟨rfl, h1⟩ := hx
      unfold F.law24_AbsentProves.l2
      rw [if_neg (by simp)]
      exact ⟨_, rfl, t.length, rfl, Nat.le_refl _, h1, fun j z hj hz => by rw [List.getElem?_eq_none hj] at hz; cases hz⟩) (s0 := (0 : Int)) ⟨rfl, fun j z h => by omega⟩ (k := FUEL) (by rw [FUEL_eq]; omega)
  exact ⟨i, hr, hp⟩
theorem pure_AbsentProves (l0 : Texts) (id : ByteArray) {q0 q1 q2 q3 : Prop} (_ : q0) (_ : q1) (_ : q2) (_ : q3) : F.law24_AbsentProves l0 id = some true := by
  have hl := fewL_length l0
  unfold F.law24_AbsentProves
  rw [few_eq, Option.bind_some, mnew_eq, Option.bind_some]
  generalize fewL l0 = l at hl
  cases hid : idB id with
  | false =>
    have e1 : F.absent_Prove l id m00 = some (⟨0, []⟩, 13, m00) := by
      unfold F.absent_Prove
      rw [isid_eq, Option.bind_some, hid]; rfl
    rw [e1, Option.bind_some, isid_eq, Option.bind_some, hid]
    dsimp only
    rw [if_pos (by decide), if_pos (by decide), same_refl ⟨0, []⟩ (by simp) (fun s hs => by cases hs), Option.bind_some, if_pos rfl, awake]
    rfl
  | true =>
    obtain ⟨i, m1, hp, e1, g1⟩ := prove_eq s32_new (l := l) (by omega) hid m00 rfl
    obtain ⟨_, h2, h3, h4⟩ := tidyB_eq (l := l) (by omega)
    rw [e1, Option.bind_some, isid_eq, Option.bind_some, hid, if_neg (by decide)]
    dsimp only [thru_inl]
    show F.law24_AbsentProves.r1 id l _ = _
    unfold F.law24_AbsentProves.r1
    rw [h2, Option.bind_some]
    generalize tidyB l = t at *
    have hids : ∀ x ∈ t, idB x = true := fun x hx => ((h3.mem x).1 hx).2
    dsimp only
    rw [leavesL_eq (T := []) hids (by omega) m1 g1, Option.bind_some]
    obtain ⟨i2, e2, hp2⟩ := lin_loop h3.sorted (by omega) id
    rw [e2, Option.bind_some]
    have := hp2.uniq hp
    subst this
    clear hp2
    have hle := hp.le
    have gm : (runM (t.map idT) m1).table_ = [] := by rw [runM_table, g1]
    generalize runM (t.map idT) m1 = m2 at gm
    obtain ⟨k, hk, hk2⟩ := fuel_succ
    have hpath : ∀ (j : Nat) (m : mill_Mill), j < t.length → m.table_ = [] → ∃ m', F.law07_Path FUEL (t.map (idL [])) (j : Int) m = some (path [] (t.map (idL [])) j, m') ∧ m'.table_ = [] := fun j m hj hm => by
      obtain ⟨m', e, g, _⟩ := path7_eq s32_new (t.map (idL [])).length (t.map (idL [])) j m k hm (Nat.le_refl _) (by rw [List.length_map]; omega) (by rw [List.length_map]; omega) (by rw [List.length_map]; omega) (idL_32 s32_new)
      rw [hk]
      exact ⟨m', e, g⟩
    have hsl : (sidesB [] t id i2).length ≤ 2 := by
      unfold sidesB lowB highB
      repeat' split
      all_goals simp
    have hspl : ∀ s ∈ sidesB [] t id i2, s.Path.length ≤ 800 := fun s hs => by
      have hq : ∀ j, (sideB [] t j).Path.length ≤ 800 := fun j => by
        have := path_length [] 16 (t.map (idL [])) j (by rw [List.length_map]; omega)
        show (path [] (t.map (idL [])) j).length ≤ 800
        omega
      unfold sidesB lowB highB at hs
      repeat' split at hs
      all_goals simp only [List.mem_append, List.mem_singleton, List.not_mem_nil, or_false, false_or] at hs
      · rw [hs]; exact hq _
      · rcases hs with hs | hs <;> (rw [hs]; exact hq _)
      · rw [hs]; exact hq _
      · rw [hs]; exact hq _
    -- the end
    have hr9 : ∀ m : mill_Mill, m.table_ = [] → F.law24_AbsentProves.r9 id (⟨(t.length : Int), sidesB [] t id i2⟩, 0, m1) t (t.map (idL []), m2) (thereB t id i2) m.table_ m.notes_ m.twins_.e0 m.twins_.e1 m.found_ m.full_ m.sums_ (sidesB [] t id i2) = some true := fun m hm => by
      obtain ⟨b1, b2⟩ := believed s32_new h3.sorted hids (by omega) hid hp
      unfold F.law24_AbsentProves.r9
      show Option.bind (F.law07_Root FUEL (t.map (idL [])) m) _ = _
      rw [root7_eq s32_new (t.length + 1) _ m FUEL hm (by rw [List.length_map]; omega) (by rw [FUEL_eq]; omega) (by rw [List.length_map]; omega) (idL_32 s32_new), Option.bind_some]
      dsimp only
      rw [check_eq s32_new _ _ _ (fun s hs => by have := hspl s hs; omega) (by dsimp only; omega) _ (by rw [runM_table, hm]), Option.bind_some]
      dsimp only
      rw [if_pos (by decide), same_refl _ (by dsimp only; omega) (fun s hs => by have := hspl s hs; omega), Option.bind_some, if_pos rfl, b1, b2, if_pos (by decide), if_pos (by simp), awake]
      rfl
    unfold F.law24_AbsentProves.r3
    cases hth : thereB t id i2 with
    | true =>
      have hsome : t[i2]? = some id := by unfold thereB at hth; exact of_decide_eq_true hth
      have hi := lt_of_get hsome
      rw [if_pos (by apply decide_eq_true; omega), at_nat hsome, Option.bind_some, Option.bind_some]
      unfold F.law24_AbsentProves.r4
      obtain ⟨m3, e3, g3⟩ := hpath i2 m2 hi gm
      rw [if_pos (seqB_refl _)]
      dsimp only
      rw [e3, Option.bind_some]
      dsimp only
      rw [chk_pos (room_small (by rw [List.length_singleton, List.length_nil]; omega) (by omega)), Option.bind_some]
      dsimp only
      unfold F.law24_AbsentProves.r5
      rw [if_neg (by decide), Option.bind_some]
      unfold F.law24_AbsentProves.r6
      rw [if_neg (by decide), Option.bind_some]
      dsimp only
      unfold F.law24_AbsentProves.r7
      rw [if_neg (by decide), Option.bind_some]
      unfold F.law24_AbsentProves.r8
      rw [if_neg (by decide), Option.bind_some]
      dsimp only
      have h9 := hr9 m3 g3
      have es : sidesB [] t id i2 = ([] : List absent_Side) ++ ([(⟨(i2 : Int), id, path [] (t.map (idL [])) i2⟩ : absent_Side)] : List absent_Side) := by
        unfold sidesB sideB
        rw [if_pos hth, hsome]; rfl
      rw [hth] at h9
      rw [← es]
      exact h9
    | false =>
      have hb : (if decide ((i2 : Int) < (t.length : Int)) then (Option.bind (at_ t (i2 : Int)) (fun (y87 : ByteArray) => some ((seqB y87 id)))) else (some (false))) = some false := by
        by_cases hi : i2 < t.length
        · have hy := List.getElem?_eq_getElem hi
          rw [if_pos (by apply decide_eq_true; omega), at_nat hy, Option.bind_some, seqB_dec]
          have : ¬ t[i2] = id := fun h => by
            unfold thereB at hth
            rw [hy, h] at hth
            simp at hth
          simp [this]
        · rw [if_neg (by simp; omega)]
      rw [hb, Option.bind_some]
      unfold F.law24_AbsentProves.r4
      rw [if_neg (by decide), Option.bind_some]
      dsimp only
      have hlowr : ∃ m3 : mill_Mill, Option.bind (if !false then (some ((decide ((i2 : Int) > 0)))) else (some (false))) (fun x => F.law24_AbsentProves.r6 t (t.map (idL []), m2) (i2 : Int) m2.table_ m2.notes_ m2.twins_.e0 m2.twins_.e1 m2.found_ m2.full_ m2.sums_ [] x) = some (m3.table_, m3.notes_, m3.twins_.e0, m3.twins_.e1, m3.found_, m3.full_, m3.sums_, lowB [] t i2) ∧ m3.table_ = [] := by
        rw [if_pos (by decide), Option.bind_some]
        unfold F.law24_AbsentProves.r6 lowB
        by_cases h0 : 0 < i2
        · have hj : i2 - 1 < t.length := by omega
          have hy := List.getElem?_eq_getElem hj
          rw [if_pos (by simpa using h0), if_pos h0, w64 (n := (i2 : Int) - 1) (by omega) (by omega), show (i2 : Int) - 1 = ((i2 - 1 : Nat) : Int) by omega, at_nat hy, Option.bind_some]
          obtain ⟨m3, e3, g3⟩ := hpath (i2 - 1) m2 hj gm
          dsimp only
          rw [e3, Option.bind_some]
          dsimp only
          rw [chk_pos (room_small (by rw [List.length_singleton, List.length_nil]; omega) (by omega))]
          refine ⟨m3, ?_, g3⟩
          unfold sideB
          rw [hy]; rfl
        · rw [if_neg (by simpa using h0), if_neg h0]
          exact ⟨m2, rfl, gm⟩
      obtain ⟨m3, e3, g3⟩ := hlowr
      unfold F.law24_AbsentProves.r5
      rw [e3, Option.bind_some]
      dsimp only
      have hhighr : ∃ m4 : mill_Mill, Option.bind (if !false then (some ((decide ((i2 : Int) < (t.length : Int))))) else (some (false))) (fun x => F.law24_AbsentProves.r8 t (t.map (idL []), m2) (i2 : Int) m3.table_ m3.notes_ m3.twins_.e0 m3.twins_.e1 m3.found_ m3.full_ m3.sums_ (lowB [] t i2) x) = some (m4.table_, m4.notes_, m4.twins_.e0, m4.twins_.e1, m4.found_, m4.full_, m4.sums_, lowB [] t i2 ++ highB [] t i2) ∧ m4.table_ = [] := by
        rw [if_pos (by decide), Option.bind_some]
        unfold F.law24_AbsentProves.r8 highB
        have hll := lowB_length [] t i2
        by_cases hi : i2 < t.length
        · have hy := List.getElem?_eq_getElem hi
          rw [if_pos (by simpa using hi), if_pos hi, at_nat hy, Option.bind_some]
          obtain ⟨m4, e4, g4⟩ := hpath i2 m3 hi g3
          dsimp only
          rw [e4, Option.bind_some]
          dsimp only
          rw [chk_pos (room_small (by rw [List.length_singleton]; omega) (by omega))]
          refine ⟨m4, ?_, g4⟩
          unfold sideB
          rw [hy]; rfl
        · rw [if_neg (by simpa using hi), if_neg hi, List.append_nil]
          exact ⟨m3, rfl, g3⟩
      obtain ⟨m4, e4, g4⟩ := hhighr
      unfold F.law24_AbsentProves.r7
      rw [e4, Option.bind_some]
      dsimp only
      have h9 := hr9 m4 g4
      have es : sidesB [] t id i2 = lowB [] t i2 ++ highB [] t i2 := by
        unfold sidesB
        rw [if_neg (by rw [hth]; decide)]
      rw [hth] at h9
      rw [← es]
      exact h9
end Go.Proofs.Ytileogoeoiafkaa
