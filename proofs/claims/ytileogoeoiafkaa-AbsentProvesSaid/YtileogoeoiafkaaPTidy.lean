/- Lists tidied: the IDs, in order, each once; in plain words. -/
import Derived.Test.YtileogoeoiafkaaPId
import Derived.Test.YtileogoeoiafkaaFw1
import Derived.Test.YtileogoeoiafkaaGTid
import Derived.Sort.Walk0
namespace Go.Proofs.Ytileogoeoiafkaa
set_option linter.all false
open Go Go.RowKit Go.Fw
set_option maxRecDepth 100000
attribute [local irreducible] FUEL
/-! ### the order of texts -/
def Lt (a b : ByteArray) : Prop := a.data.toList < b.data.toList
instance (a b : ByteArray) : Decidable (Lt a b) := by unfold Lt; infer_instance
theorem sltB_dec (a b : ByteArray) : sltB a b = decide (Lt a b) := by unfold sltB Lt; rw [bytesLess_eq, Lib.toList_data, Lib.toList_data]
theorem Lt.trans {a b c : ByteArray} (h : Lt a b) (h2 : Lt b c) : Lt a c := List.lt_trans h h2
theorem Lt.irrefl (a : ByteArray) : ¬ Lt a a := List.lt_irrefl _
theorem Lt.asymm {a b : ByteArray} (h : Lt a b) (h2 : Lt b a) : False := Lt.irrefl a (h.trans h2)
theorem Lt.ne {a b : ByteArray} (h : Lt a b) : a ≠ b := fun e => Lt.irrefl b (e ▸ h)
theorem Lt.total {a b : ByteArray} (h : ¬ Lt a b) (h2 : ¬ Lt b a) : a = b := by
  have : a.data.toList = b.data.toList := List.le_antisymm (List.not_lt.1 h2) (List.not_lt.1 h)
  rw [ofL_surj a, ofL_surj b, this]
theorem sorted_eq : ∀ (t u : Texts), t.Pairwise Lt → u.Pairwise Lt → (∀ x, x ∈ t ↔ x ∈ u) → t = u
  | [], [], _, _, _ => rfl
  | [], y :: u, _, _, h => by have := (h y).2 (List.mem_cons_self ..); cases this
  | x :: t, [], _, _, h => by have := (h x).1 (List.mem_cons_self ..); cases this
  | x :: t, y :: u, h1, h2, h => by
    have a1 := List.pairwise_cons.1 h1
    have a2 := List.pairwise_cons.1 h2
    have hxy : x = y := by
      rcases List.mem_cons.1 ((h x).1 (List.mem_cons_self ..)) with e | e
      · exact e
      · rcases List.mem_cons.1 ((h y).2 (List.mem_cons_self ..)) with e2 | e2
        · exact e2.symm
        · exact ((a2.1 x e).asymm (a1.1 y e2)).elim
    subst hxy
    rw [sorted_eq t u a1.2 a2.2 fun z => ?_]
    constructor
    · intro hz
      rcases List.mem_cons.1 ((h z).1 (List.mem_cons_of_mem _ hz)) with e | e
      · exact (Lt.irrefl _ (e ▸ a1.1 z hz)).elim
      · exact e
    · intro hz
      rcases List.mem_cons.1 ((h z).2 (List.mem_cons_of_mem _ hz)) with e | e
      · exact (Lt.irrefl _ (e ▸ a2.1 z hz)).elim
      · exact e
structure IsTidy (l t : Texts) : Prop where
  sorted : t.Pairwise Lt
  mem : ∀ x, x ∈ t ↔ x ∈ l ∧ idB x = true
theorem IsTidy.uniq {l t u : Texts} (h1 : IsTidy l t) (h2 : IsTidy l u) : t = u := sorted_eq t u h1.sorted h2.sorted fun x => (h1.mem x).trans (h2.mem x).symm
/-! ### by insertion -/
theorem k_loop {out : Texts} {l : Texts} {i : Nat} {y : ByteArray} (hy : l[i]? = some y) (hl : out.length < 1000000000000000000) : ∀ (k m : Nat), k ≤ out.length → (∀ j z, k ≤ j → out[j]? = some z → Lt y z) → k < m →
    ∃ k', iter (fun x => F.law24_tidy.l1 l out (i : Int) x) m (k : Int) = some ((k' : Nat) : Int) ∧ k' ≤ k ∧ (∀ j z, k' ≤ j → out[j]? = some z → Lt y z) ∧ (0 < k' → ∃ z, out[k' - 1]? = some z ∧ ¬ Lt y z)
  | k, 0, _, _, h => by omega
  | 0, m + 1, hk, ha, _ => ⟨0, by rw [iter]; unfold F.law24_tidy.l1; rw [if_neg (by simp)], Nat.le_refl _, ha, fun h => by omega⟩
  | k + 1, m + 1, hk, ha, hm => by
    have hz : out[k]? = some out[k] := List.getElem?_eq_getElem (by omega)
    have e1 : IntKind.i64.wrap (((k + 1 : Nat) : Int) - 1) = ((k : Nat) : Int) := by rw [w64 (by omega) (by omega)]; omega
    have hs : F.law24_tidy.l1 l out (i : Int) ((k + 1 : Nat) : Int) = some (if Lt y out[k] then .inl ((k : Nat) : Int) else .inr ((k + 1 : Nat) : Int)) := by
      unfold F.law24_tidy.l1
      rw [if_pos (by apply decide_eq_true; omega), e1, at_nat hz, Option.bind_some, at_nat hy, Option.bind_some, sltB_dec, seqB_dec]
      by_cases h : Lt y out[k]
      · have n1 : ¬ Lt out[k] y := fun h2 => h.asymm h2
        have n2 : ¬ out[k] = y := fun h2 => h.ne h2.symm
        rw [if_pos (by simp [n1, n2]), if_pos h]
      · rw [if_neg h]
        by_cases h2 : Lt out[k] y
        · rw [if_neg (by simp [h2])]
        · have := Lt.total h h2
          rw [if_neg (by simp [← this])]
    rw [iter]
    simp only [hs]
    by_cases h : Lt y out[k]
    · rw [if_pos h]
      obtain ⟨k', h1, h2, h3, h4⟩ := k_loop hy hl k m (by omega) (fun j z hj hjz => by
        by_cases hjk : j = k
        · subst hjk; rw [hz] at hjz; cases hjz; exact h
        · exact ha j z (by omega) hjz) (by omega)
      exact ⟨k', h1, by omega, h3, h4⟩
    · rw [if_neg h]
      exact ⟨k + 1, rfl, Nat.le_refl _, ha, fun _ => ⟨out[k], by rw [Nat.add_sub_cancel]; exact hz, h⟩⟩
theorem ins_tidy {l out : Texts} {y : ByteArray} {k : Nat} (h : IsTidy l out) (hid : idB y = true) (hk : k ≤ out.length) (ha : ∀ j z, k ≤ j → out[j]? = some z → Lt y z) (hb : 0 < k → ∃ z, out[k - 1]? = some z ∧ Lt z y) :
    IsTidy (l ++ [y]) (out.take k ++ [y] ++ out.drop k) := by
  have hd : ∀ z ∈ out.drop k, Lt y z := fun z hz => by
    obtain ⟨j, hj⟩ := List.getElem?_of_mem hz
    rw [List.getElem?_drop] at hj
    exact ha (k + j) z (by omega) hj
  have ht : ∀ z ∈ out.take k, Lt z y := fun z hz => by
    obtain ⟨j, hj⟩ := List.getElem?_of_mem hz
    have hjk : j < k := by
      have := (List.getElem?_eq_some_iff.1 hj).1
      rw [List.length_take] at this; omega
    rw [List.getElem?_take, if_pos hjk] at hj
    obtain ⟨w, hw, hlt⟩ := hb (by omega)
    by_cases hjj : j = k - 1
    · subst hjj; rw [hj] at hw; cases hw; exact hlt
    · obtain ⟨h1, e1⟩ := List.getElem?_eq_some_iff.1 hj
      obtain ⟨h2, e2⟩ := List.getElem?_eq_some_iff.1 hw
      have := List.pairwise_iff_getElem.1 h.sorted j (k - 1) h1 h2 (by omega)
      rw [e1, e2] at this
      exact this.trans hlt
  have hs : (out.take k ++ out.drop k).Pairwise Lt := by rw [List.take_append_drop]; exact h.sorted
  obtain ⟨s1, s2, s3⟩ := List.pairwise_append.1 hs
  refine ⟨?_, fun x => ?_⟩
  · rw [List.pairwise_append, List.pairwise_append]
    refine ⟨⟨s1, List.pairwise_singleton .., fun a hma b hmb => ?_⟩, s2, fun a hma b hmb => ?_⟩
    · rw [List.mem_singleton] at hmb; subst hmb; exact ht a hma
    · rcases List.mem_append.1 hma with hma | hma
      · exact s3 a hma b hmb
      · rw [List.mem_singleton] at hma; subst hma; exact hd b hmb
  · have hm : x ∈ out ↔ x ∈ out.take k ∨ x ∈ out.drop k := by conv => lhs; rw [← List.take_append_drop k out, List.mem_append]
    have hx := h.mem x
    simp only [List.mem_append, List.mem_singleton]
    constructor
    · rintro ((h1 | h1) | h1)
      · have := hx.1 (hm.2 (.inl h1)); exact ⟨.inl this.1, this.2⟩
      · subst h1; exact ⟨.inr rfl, hid⟩
      · have := hx.1 (hm.2 (.inr h1)); exact ⟨.inl this.1, this.2⟩
    · rintro ⟨h1 | h1, h2⟩
      · rcases hm.1 (hx.2 ⟨h1, h2⟩) with h3 | h3
        · exact .inl (.inl h3)
        · exact .inr h3
      · exact .inl (.inr h1)
theorem same_tidy {l out : Texts} {y : ByteArray} (h : IsTidy l out) (hy : y ∈ out ∨ idB y = false) : IsTidy (l ++ [y]) out := by
  refine ⟨h.sorted, fun x => ?_⟩
  rw [h.mem, List.mem_append, List.mem_singleton]
  constructor
  · rintro ⟨h1, h2⟩; exact ⟨.inl h1, h2⟩
  · rintro ⟨h1 | h1, h2⟩
    · exact ⟨h1, h2⟩
    · subst h1
      rcases hy with hy | hy
      · exact ⟨((h.mem x).1 hy).1, h2⟩
      · rw [hy] at h2; cases h2
theorem room_small {n b : Nat} (h : n ≤ 2000) (hb : b ≤ 64) : room n b := by
  unfold room
  have : 2 * n * b ≤ 4000 * 64 := Nat.mul_le_mul (by omega) hb
  omega
theorem app_loop {out : Texts} {k : Nat} (hk : k ≤ out.length) (hl : out.length ≤ 900) (base : Texts) (hb : base.length ≤ 900) :
    iter (fun x => F.law24_tidy.l4 out (k : Int) x.1 x.2) FUEL (base, 0) = some (base ++ out.drop k) := by
  have er : (([] : Texts) ++ ((out.drop (k : Int).toNat).take ((out.length : Int).toNat - (k : Int).toNat))) = out.drop k := by
    rw [List.nil_append, Int.toNat_natCast, Int.toNat_natCast, List.take_of_length_le (by rw [List.length_drop]; omega)]
  have key : ∀ j, j < (out.drop k).length → (fun x : Texts × Int => F.law24_tidy.l4 out (k : Int) x.1 x.2) (base ++ (out.drop k).take j, (j : Int)) = some (.inl (base ++ (out.drop k).take (j + 1), ((j + 1 : Nat) : Int))) := fun j hj => by
    dsimp only
    unfold F.law24_tidy.l4
    have hy : (out.drop k)[j]? = some (out.drop k)[j] := List.getElem?_eq_getElem hj
    have hjl : j < out.length := by rw [List.length_drop] at hj; omega
    rw [er, if_pos (by simp only [List.length_drop] at hj ⊢; simp; omega), at_nat hy, Option.bind_some, chk_pos (room_small (by rw [List.length_append, List.length_take, List.length_singleton]; omega) (by omega)), w64 (n := (j : Int) + 1) (by omega) (by omega), List.take_succ, hy, List.append_assoc]
    rfl
  have hend : (fun x : Texts × Int => F.law24_tidy.l4 out (k : Int) x.1 x.2) (base ++ (out.drop k).take (out.drop k).length, ((out.drop k).length : Int)) = some (.inr (base ++ out.drop k)) := by
    dsimp only
    unfold F.law24_tidy.l4
    rw [er, if_neg (by simp), List.take_length]
  have h := iter_count (f := fun x : Texts × Int => F.law24_tidy.l4 out (k : Int) x.1 x.2) (fun j => (base ++ (out.drop k).take j, (j : Int))) key hend (k := FUEL) (by rw [FUEL_eq, List.length_drop]; omega)
  have e0 : (base ++ (out.drop k).take 0, ((0 : Nat) : Int)) = (base, (0 : Int)) := by rw [List.take_zero, List.append_nil]; rfl
  rw [← e0]
  exact h
theorem tidy_step {l out : Texts} {i : Nat} {y : ByteArray} (hl : l.length ≤ 800) (h : IsTidy (l.take i) out) (ho : out.length ≤ i) (hy : l[i]? = some y) :
    ∃ out', F.law24_tidy.l6 l out (i : Int) = some (.inl (out', ((i + 1 : Nat) : Int))) ∧ IsTidy (l.take (i + 1)) out' ∧ out'.length ≤ i + 1 := by
  have hi := lt_of_get hy
  have ht : l.take (i + 1) = l.take i ++ [y] := by rw [List.take_succ, hy]; rfl
  have hr5 : ∀ o : Texts, F.law24_tidy.r5 (i : Int) o = some (.inl (o, ((i + 1 : Nat) : Int))) := fun o => by
    unfold F.law24_tidy.r5
    rw [w64 (n := (i : Int) + 1) (by omega) (by omega)]
    rfl
  unfold F.law24_tidy.l6
  rw [if_pos (by simp; omega), at_nat hy, Option.bind_some, isid_eq, Option.bind_some, ht]
  cases hid : idB y with
  | false =>
    rw [if_pos (by decide), Option.bind_some, hr5]
    exact ⟨out, rfl, same_tidy h (.inr hid), by omega⟩
  | true =>
    rw [if_neg (by decide)]
    obtain ⟨k, e1, hk, ha, hb⟩ := k_loop (out := out) hy (by omega) out.length FUEL (Nat.le_refl _) (fun j z hj hz => by rw [List.getElem?_eq_none hj] at hz; cases hz) (by rw [FUEL_eq]; omega)
    rw [e1, Option.bind_some]
    unfold F.law24_tidy.r2
    have hins : (0 < k → ∃ z, out[k - 1]? = some z ∧ Lt z y) → ∃ out', Option.bind (F.law24_tidy.r3 l out (i : Int) (k : Int)) (fun x => F.law24_tidy.r5 (i : Int) x) = some (.inl (out', ((i + 1 : Nat) : Int))) ∧ IsTidy (l.take i ++ [y]) out' ∧ out'.length ≤ i + 1 := fun hb2 => by
      unfold F.law24_tidy.r3
      have er : (([] : Texts) ++ ((out.drop (0 : Int).toNat).take ((k : Int).toNat - (0 : Int).toNat))) = out.take k := by
        rw [List.nil_append]; rfl
      rw [chk_pos (by omega), chk_pos (room_small (by rw [List.length_take, List.length_drop, List.length_nil]; omega) (by omega)), chk_pos (by omega), chk_pos (room_small (by rw [List.length_take, List.length_drop, List.length_nil]; omega) (by omega)), at_nat hy, Option.bind_some, er, chk_pos (room_small (by rw [List.length_take, List.length_singleton]; omega) (by omega)), app_loop hk (by omega) _ (by rw [List.length_append, List.length_take, List.length_singleton]; omega), Option.bind_some, hr5]
      exact ⟨_, rfl, ins_tidy h hid hk ha hb2, by simp only [List.length_append, List.length_take, List.length_singleton, List.length_drop]; omega⟩
    by_cases hk0 : 0 < k
    · obtain ⟨z, hz, hnz⟩ := hb hk0
      have e2 : IntKind.i64.wrap ((k : Int) - 1) = ((k - 1 : Nat) : Int) := by rw [w64 (by omega) (by omega)]; omega
      rw [if_pos (by simp; omega), e2, at_nat hz, Option.bind_some, at_nat hy, Option.bind_some]
      by_cases hzy : z = y
      · rw [if_pos (by rw [hzy]; exact seqB_refl y)]
        refine ⟨out, hr5 out, same_tidy h (.inl ?_), by omega⟩
        rw [← hzy]; exact List.mem_of_getElem? hz
      · rw [if_neg (by rw [seqB_dec]; simp [hzy])]
        refine hins fun _ => ⟨z, hz, ?_⟩
        by_cases hlt : Lt z y
        · exact hlt
        · exact absurd (Lt.total hlt hnz) hzy
    · rw [if_neg (by simp; omega)]
      exact hins fun h => absurd h hk0
theorem tidyL_eq {l : Texts} (hl : l.length ≤ 800) : ∃ t, F.law24_tidy l = some t ∧ IsTidy l t ∧ t.length ≤ l.length := by
  obtain ⟨r, hr, h1, h2⟩ := iter_up (f := fun x : Texts × Int => F.law24_tidy.l6 l x.1 x.2) l.length (fun i x => x.2 = (i : Int) ∧ IsTidy (l.take i) x.1 ∧ x.1.length ≤ i) (fun t => IsTidy l t ∧ t.length ≤ l.length)
    (fun i x hi hx => by
      obtain ⟨o, j⟩ := x
      obtain ⟨rfl, h1, h2⟩ := hx
      obtain ⟨o', e, g1, g2⟩ := tidy_step (y := l[i]) hl h1 h2 (List.getElem?_eq_getElem hi)
      exact .inl ⟨_, e, rfl, g1, g2⟩)
    (fun x hx => by
      obtain ⟨o, j⟩ := x
      obtain ⟨rfl, h1, h2⟩ := hx
      rw [List.take_length] at h1
      refine ⟨o, ?_, h1, h2⟩
      dsimp only
      unfold F.law24_tidy.l6
      rw [if_neg (by simp)]) (s0 := ([], 0)) ⟨rfl, ⟨List.Pairwise.nil, fun x => by simp⟩, Nat.le_refl _⟩ (k := FUEL) (by rw [FUEL_eq]; omega)
  exact ⟨r, (congrArg (fun o => Option.bind o _) hr).trans rfl, h1, h2⟩
/-! ### by sorting -/
theorem comp_spec {zs : List (List UInt8)} (hs : zs.Pairwise (· ≤ ·)) : ∀ m, m ≤ zs.length → (Lib.compactUpTo zs.toArray m).Pairwise (· < ·) ∧ ∀ x, x ∈ Lib.compactUpTo zs.toArray m ↔ ∃ j, j < m ∧ zs[j]? = some x
  | 0, _ => ⟨List.Pairwise.nil, fun x => ⟨(fun h => by cases h), fun ⟨j, h, _⟩ => by omega⟩⟩
  | m + 1, hm => by
    obtain ⟨i1, i2⟩ := comp_spec hs m (by omega)
    have hg : ∀ j (h : j < zs.length), zs.toArray[j]! = zs[j] := fun j h => by rw [getElem!_pos _ j (by simpa using h)]; simp
    have hmz : zs[m]? = some zs[m] := List.getElem?_eq_getElem (by omega)
    rw [Lib.compactUpTo_succ, hg m (by omega)]
    have hle : ∀ i j (hi : i < zs.length) (hj : j < zs.length), i ≤ j → zs[i] ≤ zs[j] := fun i j hi hj hij => by
      by_cases e : i = j
      · subst e; exact List.le_refl _
      · exact List.pairwise_iff_getElem.1 hs i j hi hj (by omega)
    by_cases hk : Lib.keeps zs.toArray m = true
    · rw [if_pos hk]
      have hne : 0 < m → zs[m] ≠ zs[m - 1] := fun h0 e => by
        unfold Lib.keeps at hk
        rw [hg m (by omega), hg (m - 1) (by omega)] at hk
        have := of_decide_eq_true hk
        rcases this with h | h
        · omega
        · exact h e
      refine ⟨?_, fun x => ?_⟩
      · rw [List.pairwise_append]
        refine ⟨i1, List.pairwise_singleton .., fun a ha b hb => ?_⟩
        rw [List.mem_singleton] at hb
        subst hb
        obtain ⟨j, hj, ej⟩ := (i2 a).1 ha
        obtain ⟨hjl, ej⟩ := List.getElem?_eq_some_iff.1 ej
        have h1 := hle j (m - 1) hjl (by omega) (by omega)
        have h2 := hle (m - 1) m (by omega) (by omega) (by omega)
        have h3 : zs[m - 1] < zs[m] := by
          apply Classical.byContradiction
          intro hn
          exact hne (by omega) (List.le_antisymm (List.not_lt.1 hn) h2)
        rw [← ej]
        exact List.lt_of_le_of_lt h1 h3
      · rw [List.mem_append, i2, List.mem_singleton]
        constructor
        · rintro (⟨j, h1, h2⟩ | h)
          · exact ⟨j, by omega, h2⟩
          · exact ⟨m, by omega, by rw [h]; exact hmz⟩
        · rintro ⟨j, h1, h2⟩
          by_cases e : j = m
          · subst e; rw [hmz] at h2; exact .inr (Option.some.inj h2).symm
          · exact .inl ⟨j, by omega, h2⟩
    · rw [if_neg hk, List.append_nil]
      have hm0 : 0 < m := Classical.byContradiction fun h => hk (by unfold Lib.keeps; simp; left; omega)
      have heq : zs[m] = zs[m - 1] := by
        apply Classical.byContradiction
        intro hn
        apply hk
        unfold Lib.keeps
        rw [hg m (by omega), hg (m - 1) (by omega)]
        exact decide_eq_true (.inr hn)
      refine ⟨i1, fun x => ?_⟩
      rw [i2]
      constructor
      · rintro ⟨j, h1, h2⟩; exact ⟨j, by omega, h2⟩
      · rintro ⟨j, h1, h2⟩
        by_cases e : j = m
        · subst e
          rw [hmz, heq] at h2
          exact ⟨j - 1, by omega, by rw [List.getElem?_eq_getElem (by omega)]; exact h2⟩
        · exact ⟨j, by omega, h2⟩
theorem mem_toB {l : Texts} {x : ByteArray} : x.data.toList ∈ l.map toB ↔ x ∈ l := by
  constructor
  · intro h
    obtain ⟨y, hy, e⟩ := List.mem_map.1 h
    have : y = x := by rw [ofL_surj y, ofL_surj x]; unfold toB at e; rw [e]
    exact this ▸ hy
  · exact fun h => List.mem_map.2 ⟨x, h, rfl⟩
theorem comp_tidy (f : Texts) : (compS (sortS f)).Pairwise Lt ∧ ∀ x, x ∈ compS (sortS f) ↔ x ∈ f := by
  have e : (sortS f).map toB = (f.map toB).mergeSort fun x y => decide (x ≤ y) := sortS_toB f
  unfold compS
  rw [e]
  have hs : ((f.map toB).mergeSort fun x y => decide (x ≤ y)).Pairwise (· ≤ ·) := by
    have := List.pairwise_mergeSort (le := fun x y : List UInt8 => decide (x ≤ y)) (fun a b c h1 h2 => decide_eq_true (List.le_trans (of_decide_eq_true h1) (of_decide_eq_true h2))) (fun a b => by
      rcases List.le_total a b with h | h
      · rw [decide_eq_true h]; rfl
      · rw [decide_eq_true h]; simp) (f.map toB)
    exact this.imp fun h => of_decide_eq_true h
  obtain ⟨h1, h2⟩ := comp_spec hs _ (Nat.le_refl _)
  refine ⟨?_, fun x => ?_⟩
  · rw [List.pairwise_map]
    refine h1.imp fun {a b} h => ?_
    unfold Lt
    rw [ofL_toList, ofL_toList]; exact h
  · have : x ∈ (Lib.compact ((f.map toB).mergeSort fun x y => decide (x ≤ y))).map ofL ↔ x.data.toList ∈ Lib.compact ((f.map toB).mergeSort fun x y => decide (x ≤ y)) := by
      constructor
      · intro h
        obtain ⟨y, hy, e⟩ := List.mem_map.1 h
        rw [← e, ofL_toList]; exact hy
      · exact fun h => List.mem_map.2 ⟨_, h, ofL_lit x⟩
    rw [this]
    refine (h2 x.data.toList).trans ?_
    rw [← mem_toB, ← (List.mergeSort_perm (f.map toB) fun x y => decide (x ≤ y)).mem_iff]
    constructor
    · rintro ⟨j, _, h⟩; exact List.mem_of_getElem? h
    · intro h
      obtain ⟨j, hj⟩ := List.getElem?_of_mem h
      exact ⟨j, (List.getElem?_eq_some_iff.1 hj).1, hj⟩
theorem tidyA_eq {l : Texts} (hl : l.length ≤ 800) : ∃ t, F.absent_Tidy l = some t ∧ IsTidy l t ∧ t.length ≤ l.length := by
  obtain ⟨r, hr, h1, h2⟩ := iter_up (f := fun x : Texts × Int => F.absent_Tidy.l1 l x.1 x.2) l.length (fun i x => x.2 = (i : Int) ∧ x.1 = (l.take i).filter idB ∧ x.1.length ≤ i) (fun t => t = l.filter idB ∧ t.length ≤ l.length)
    (fun i x hi hx => by
      obtain ⟨o, j⟩ := x
      obtain ⟨rfl, h1, h2⟩ := hx
      dsimp only at h1 h2
      have hy : l[i]? = some l[i] := List.getElem?_eq_getElem hi
      have ht : (l.take (i + 1)).filter idB = (l.take i).filter idB ++ [l[i]].filter idB := by rw [List.take_succ, hy, List.filter_append]; rfl
      left
      dsimp only
      unfold F.absent_Tidy.l1
      rw [if_pos (by simp; omega), at_nat hy, Option.bind_some, isid_eq, Option.bind_some, w64 (n := (i : Int) + 1) (by omega) (by omega)]
      cases hid : idB l[i] with
      | true =>
        rw [if_pos rfl, chk_pos (room_small (by rw [List.length_singleton]; omega) (by omega))]
        refine ⟨_, rfl, rfl, ?_, ?_⟩
        · dsimp only; rw [ht, h1, List.filter_cons_of_pos hid]; rfl
        · dsimp only; rw [List.length_append, List.length_singleton]; omega
      | false =>
        rw [if_neg (by decide)]
        refine ⟨_, rfl, rfl, ?_, ?_⟩
        · dsimp only; rw [ht, h1, List.filter_cons_of_neg (by rw [hid]; decide)]; simp
        · dsimp only; omega)
    (fun x hx => by
      obtain ⟨o, j⟩ := x
      obtain ⟨rfl, h1, h2⟩ := hx
      rw [List.take_length] at h1
      refine ⟨o, ?_, h1, h2⟩
      dsimp only
      unfold F.absent_Tidy.l1
      rw [if_neg (by simp)]) (s0 := ([], 0)) ⟨rfl, by simp, Nat.le_refl _⟩ (k := FUEL) (by rw [FUEL_eq]; omega)
  have hlen : (compS (sortS r)).length ≤ l.length := by
    have : (compS (sortS r)).length ≤ (sortS r).length := by
      unfold compS
      rw [List.length_map]
      refine Nat.le_trans (compact_le _) ?_
      rw [List.length_map]; exact Nat.le_refl _
    rw [sortS_len] at this
    omega
  obtain ⟨c1, c2⟩ := comp_tidy r
  refine ⟨compS (sortS r), ?_, ⟨c1, fun x => ?_⟩, hlen⟩
  · unfold F.absent_Tidy
    refine (congrArg (fun o => Option.bind o _) hr).trans ?_
    show F.absent_Tidy.r2 r = _
    unfold F.absent_Tidy.r2
    rw [chk_pos (by omega), chk_pos (by rw [sortS_len]; omega)]
  · rw [c2, h1, List.mem_filter]
/-- the IDs of a list, in order, each once -/
def tidyB (l : Texts) : Texts := (F.absent_Tidy l).getD []
theorem tidyB_eq {l : Texts} (hl : l.length ≤ 800) : F.absent_Tidy l = some (tidyB l) ∧ F.law24_tidy l = some (tidyB l) ∧ IsTidy l (tidyB l) ∧ (tidyB l).length ≤ l.length := by
  obtain ⟨t, e, h1, h2⟩ := tidyA_eq hl
  obtain ⟨u, e2, h3, h4⟩ := tidyL_eq hl
  have : tidyB l = t := by unfold tidyB; rw [e]; rfl
  rw [this]
  exact ⟨e, by rw [e2, h1.uniq h3], h1, h2⟩
end Go.Proofs.Ytileogoeoiafkaa
