/- The words of the statements of layer 3: sums and tags by a list of entries. -/
import Derived.Test.YtgkkgmnomiokbaaPTag
namespace Go.Proofs.Ytgkkgmnomiokbaa
set_option linter.all false
open Go Go.RowKit Go.Fw
set_option maxRecDepth 100000
attribute [local irreducible] FUEL

theorem few_eq (l : List mill_Entry) : F.law03_few l = some (l.take 10) := by
  unfold F.law03_few
  by_cases h : l.length > 10
  · rw [if_pos (by simp; omega), chk_pos (by omega)]; rfl
  · rw [if_neg (by simp; omega), List.take_of_length_le (by omega)]
theorem right_eq {l : List mill_Entry} (hl : l.length < 1000000000000000000) : F.law03_right l = some (all32 l) := by
  unfold F.law03_right
  have h := iter_fold (f := fun x => F.law03_right.l1 l x) (fun i (_ : Unit) => (i : Int)) (fun _ _ (y : mill_Entry) => if y.Out.size = 32 then (.inl () : Unit ⊕ (Unit ⊕ Bool)) else .inr (.inr false)) (fun _ => .inl ()) (fun _ _ => True) l
    (fun i t y _ hy => ⟨by
      have hi := lt_of_get hy
      unfold F.law03_right.l1
      rw [if_pos (by simp; omega), at_nat hy, Option.bind_some, wadd (by omega)]
      by_cases h : y.Out.size = 32
      · rw [if_neg (by simp; omega), if_pos h]
      · rw [if_pos (by simp; omega), if_neg h], fun _ _ => trivial⟩)
    (fun t _ => by unfold F.law03_right.l1; rw [if_neg (by simp)]) (t0 := ()) trivial (k := FUEL) (by rw [FUEL_eq]; omega)
  refine (congrArg (fun o => thru o _) h).trans ?_
  have : ∀ (q : List mill_Entry) (i : Nat), foldE (fun _ _ (y : mill_Entry) => if y.Out.size = 32 then (.inl () : Unit ⊕ (Unit ⊕ Bool)) else .inr (.inr false)) (fun _ => .inl ()) q i () = if all32 q then .inl () else .inr false := by
    intro q
    induction q with
    | nil => intro i; rfl
    | cons x q ih =>
      intro i
      unfold foldE all32
      rw [List.all_cons]
      by_cases h : x.Out.size = 32
      · rw [if_pos h]; dsimp only; rw [ih]; simp [h, all32]
      · rw [if_neg h]; simp [h]
  rw [this]
  cases all32 l <;> rfl

theorem app3 (a b c : ByteArray) : a ++ b ++ c = a ++ (b ++ c) := by
  rw [app_eq, app_eq, app_eq a, app_eq b]
  simp only [ofL_toList]
  rw [List.append_assoc]
theorem bTS : bT ≠ bS := by decide
theorem name_tag {e : mill_Entry} {key s : ByteArray} : nameOf e = bT ++ shaB key ++ s ↔ e.Tag = true ∧ e.Text = s ∧ shaB e.Key = shaB key := by
  unfold nameOf
  cases ht : e.Tag with
  | false =>
    simp only [Bool.false_eq_true, if_false, false_and, iff_false]
    rw [app3]
    intro h
    exact bTS (app_inj h rfl).1.symm
  | true =>
    simp only [if_true, true_and]
    constructor
    · intro h
      obtain ⟨h1, h2⟩ := app_inj h (by rw [size_app, size_app, shaB_size, shaB_size])
      exact ⟨h2, (app_inj h1 rfl).2⟩
    · rintro ⟨h1, h2⟩; rw [h1, h2]
theorem name_sum {e : mill_Entry} {s : ByteArray} : nameOf e = bS ++ s ↔ e.Tag = false ∧ e.Text = s := by
  unfold nameOf
  cases ht : e.Tag with
  | true =>
    simp only [if_true, Bool.true_eq_false, false_and, iff_false]
    rw [app3]
    intro h
    exact bTS (app_inj h rfl).1
  | false =>
    simp only [Bool.false_eq_true, if_false, true_and]
    constructor
    · intro h; exact (app_inj h rfl).2
    · intro h; rw [h]

theorem foldE_find {β : Type} (c : mill_Entry → Prop) [DecidablePred c] (g : mill_Entry → β) : ∀ (q : List mill_Entry) (i : Nat), foldE (fun _ (_ : Unit) (y : mill_Entry) => if c y then (.inr (.inr (g y)) : Unit ⊕ (Unit ⊕ β)) else .inl ()) (fun _ => .inl ()) q i () = match q.find? (fun e => decide (c e)) with
    | some e => .inr (g e)
    | none => .inl ()
  | [], _ => rfl
  | x :: q, i => by
    unfold foldE
    by_cases h : c x
    · rw [if_pos h, List.find?_cons_of_pos (by simpa using h)]
    · rw [if_neg h, List.find?_cons_of_neg (by simpa using h)]; exact foldE_find c g q (i + 1)

theorem lsum_eq {l : List mill_Entry} {s : ByteArray} (hl : l.length < 1000000000000000000) (hs : s.size ≤ 1000000000000000000) : F.law03_sum l s = some (sumB (tabOf l) s) := by
  unfold F.law03_sum
  have h := iter_fold (f := fun x => F.law03_sum.l2 l s x) (fun i (_ : Unit) => (i : Int)) (fun _ _ (y : mill_Entry) => if (y.Tag = false ∧ y.Text = s) then (.inr (.inr y.Out) : Unit ⊕ (Unit ⊕ ByteArray)) else .inl ()) (fun _ => .inl ()) (fun _ _ => True) l
    (fun i t y _ hy => ⟨by
      have hi := lt_of_get hy
      unfold F.law03_sum.l2
      rw [if_pos (by simp; omega), at_nat hy, Option.bind_some]
      unfold F.law03_sum.r1
      cases ht : y.Tag with
      | true => simp [wadd (show i < 9223372036854775807 by omega)]
      | false =>
        simp only [Bool.not_false, if_true, Option.bind_some, at_nat hy, true_and]
        by_cases he : y.Text = s
        · rw [if_pos he, seqB_iff.2 he]; rfl
        · have : seqB y.Text s = false := by
            cases hc : seqB y.Text s with
            | false => rfl
            | true => exact absurd (seqB_iff.1 hc) he
          rw [if_neg he, this, if_neg Bool.false_ne_true, wadd (by omega)], fun _ _ => trivial⟩)
    (fun t _ => by unfold F.law03_sum.l2; rw [if_neg (by simp)]) (t0 := ()) trivial (k := FUEL) (by rw [FUEL_eq]; omega)
  refine (congrArg (fun o => thru o _) h).trans ?_
  rw [foldE_find (fun y => y.Tag = false ∧ y.Text = s) (fun y => y.Out)]
  have hg := mget_tab l (bS ++ s)
  have hcongr : (l.find? fun e => decide (nameOf e = bS ++ s)) = l.find? fun e => decide (e.Tag = false ∧ e.Text = s) := by
    congr 1; funext e; exact decide_eq_decide.2 name_sum
  rw [hcongr] at hg
  unfold sumB mhas mgetD
  rw [hg]
  cases hf : l.find? fun e => decide (e.Tag = false ∧ e.Text = s) with
  | some e => rfl
  | none =>
    dsimp only
    rw [thru_inl]
    unfold F.law03_sum.r3
    rw [sha_eq (by omega)]; rfl

/-- two rows of 64 bytes that are laid byte by byte -/
def laid (f : UInt8 → UInt8) (D : List UInt8) (i : Nat) : List Int := ns ((D.take i).map f ++ List.replicate (64 - i) 0)
theorem laid_get (f : UInt8 → UInt8) {D : List UInt8} (hD : D.length = 64) {i : Nat} (hi : i < 64) : (laid f D i)[i]? = some 0 := by
  unfold laid ns
  rw [List.getElem?_map, List.getElem?_append_right (by simp; omega)]
  simp only [List.length_map, List.length_take, hD, Nat.min_eq_left (Nat.le_of_lt hi), Nat.sub_self]
  rw [List.getElem?_replicate, if_pos (by omega)]; rfl
theorem laid_set (f : UInt8 → UInt8) {D : List UInt8} (hD : D.length = 64) {i : Nat} {b : UInt8} (hi : i < 64) (hb : D[i]? = some b) : (laid f D i).set i ((f b).toNat : Int) = laid f D (i + 1) := by
  unfold laid
  rw [ns_set]
  congr 1
  rw [List.set_append_right _ _ (by simp; omega), List.length_map, List.length_take, Nat.min_eq_left (by omega), Nat.sub_self, show 64 - i = (64 - (i + 1)) + 1 by omega, List.replicate_succ, List.set_cons_zero, List.take_add_one, hb, List.map_append]
  simp
theorem ltag_eq {l : List mill_Entry} {key s : ByteArray} (hl : l.length < 1000000000000000000) (hsz : ∀ e ∈ l, sizedE e) (hk : key.size ≤ 1000000000000000000) (hs : s.size ≤ 1000000000000000000) : F.law03_tag l key s = some (tagB (tabOf l) key s) := by
  unfold F.law03_tag
  have h := iter_fold (f := fun x => F.law03_tag.l2 l key s x) (fun i (_ : Unit) => (i : Int)) (fun _ _ (y : mill_Entry) => if (y.Tag = true ∧ y.Text = s ∧ shaB y.Key = shaB key) then (.inr (.inr y.Out) : Unit ⊕ (Unit ⊕ ByteArray)) else .inl ()) (fun _ => .inl ()) (fun _ _ => True) l
    (fun i t y _ hy => ⟨by
      have hi := lt_of_get hy
      obtain ⟨z1, _, _⟩ := hsz y (List.mem_of_getElem? hy)
      unfold F.law03_tag.l2
      rw [if_pos (by simp; omega), at_nat hy, Option.bind_some]
      unfold F.law03_tag.r1
      cases ht : y.Tag with
      | false => simp [wadd (show i < 9223372036854775807 by omega)]
      | true =>
        simp only [if_true, Option.bind_some, at_nat hy, true_and]
        by_cases he : y.Text = s
        · rw [seqB_iff.2 he, if_pos rfl, sha_eq (by omega), Option.bind_some, sha_eq (by omega), Option.bind_some, Option.bind_some]
          by_cases hk2 : shaB y.Key = shaB key
          · rw [seqB_iff.2 hk2, if_pos rfl, if_pos ⟨he, hk2⟩]
          · have : seqB (shaB y.Key) (shaB key) = false := by
              cases hc : seqB (shaB y.Key) (shaB key) with
              | false => rfl
              | true => exact absurd (seqB_iff.1 hc) hk2
            rw [this, if_neg Bool.false_ne_true, if_neg (fun h => hk2 h.2), wadd (by omega)]
        · have : seqB y.Text s = false := by
            cases hc : seqB y.Text s with
            | false => rfl
            | true => exact absurd (seqB_iff.1 hc) he
          rw [this, if_neg Bool.false_ne_true, Option.bind_some, if_neg Bool.false_ne_true, if_neg (fun h => he h.1), wadd (by omega)], fun _ _ => trivial⟩)
    (fun t _ => by unfold F.law03_tag.l2; rw [if_neg (by simp)]) (t0 := ()) trivial (k := FUEL) (by rw [FUEL_eq]; omega)
  refine (congrArg (fun o => thru o _) h).trans ?_
  rw [foldE_find (fun y => y.Tag = true ∧ y.Text = s ∧ shaB y.Key = shaB key) (fun y => y.Out)]
  have hg := mget_tab l (bT ++ shaB key ++ s)
  have hcongr : (l.find? fun e => decide (nameOf e = bT ++ shaB key ++ s)) = l.find? fun e => decide (e.Tag = true ∧ e.Text = s ∧ shaB e.Key = shaB key) := by
    congr 1; funext e; exact decide_eq_decide.2 name_tag
  rw [hcongr] at hg
  unfold tagB mhas mgetD
  rw [hg]
  cases hf : l.find? fun e => decide (e.Tag = true ∧ e.Text = s ∧ shaB e.Key = shaB key) with
  | some e => rfl
  | none =>
    dsimp only
    rw [thru_inl, Option.map_none, if_neg (by simp)]
    unfold F.law03_tag.r3
    have h1 : (if decide ((key.size : Int) > 64) then (Option.bind (F.sha_Sum key) (fun (r52 : ByteArray) => some (r52))) else (some (key))) = some (keyB key) := by
      unfold keyB
      by_cases h : 64 < key.size
      · rw [if_pos (by simp; omega), if_pos h, sha_eq (by omega)]; rfl
      · rw [if_neg (by simp; omega), if_neg h]
    refine (congrArg (fun o => Option.bind o _) h1).trans ?_
    rw [Option.bind_some]
    unfold F.law03_tag.r4 hmacB padB
    have hks := keyB_size key
    generalize keyB key = q at hks
    rw [chk_pos (by unfold room; decide), chk_pos (by unfold room; decide)]
    have hD : (q.data.toList ++ List.replicate (64 - q.size) (0 : UInt8)).length = 64 := by rw [List.length_append, List.length_replicate, size_ofL']; omega
    have hq : ∀ i, i < q.size → bt q (i : Int) = ((((q.data.toList ++ List.replicate (64 - q.size) (0 : UInt8))[i]?).getD 0).toNat : Int) := fun i hi => by
      conv => lhs; rw [ofL_surj q]
      rw [bt_ofL, Int.toNat_natCast, List.getElem?_append_left (by rw [size_ofL']; exact hi)]
    have hz : ∀ i, q.size ≤ i → i < 64 → ((q.data.toList ++ List.replicate (64 - q.size) (0 : UInt8))[i]?) = some 0 := fun i h1 h2 => by
      rw [List.getElem?_append_right (by rw [size_ofL']; exact h1), List.getElem?_replicate, size_ofL', if_pos (by omega)]
    generalize q.data.toList ++ List.replicate (64 - q.size) (0 : UInt8) = D at hD hq hz
    have h := iter_count (f := fun x => F.law03_tag.l5 q x.1 x.2.1 x.2.2) (fun i => (laid (· ^^^ 92) D i, laid (· ^^^ 54) D i, (i : Int))) (n := 64) (r := (ns (D.map (· ^^^ 92)), ns (D.map (· ^^^ 54))))
      (fun i hi => by
        dsimp only
        unfold F.law03_tag.l5
        obtain ⟨b, hb⟩ : ∃ b, D[i]? = some b := ⟨_, List.getElem?_eq_getElem (by omega)⟩
        have g1 := laid_get (· ^^^ 92) hD hi
        have g2 := laid_get (· ^^^ 54) hD hi
        rw [if_pos (by simp; omega), at_nat g1, at_nat g2, Option.bind_some, Option.bind_some, Option.bind_some, Option.bind_some, wadd (by omega), Int.toNat_natCast]
        have e1 : ∀ w : UInt8, ixor .u8 (b.toNat : Int) (w.toNat : Int) = ((b ^^^ w).toNat : Int) := fun w => ixor8 b w
        by_cases hlt : i < q.size
        · rw [if_pos (by simp; omega), chk_pos (by omega), hq i hlt, hb, Option.getD_some, show (92 : Int) = ((92 : UInt8).toNat : Int) from rfl, show (54 : Int) = ((54 : UInt8).toNat : Int) from rfl, e1, e1]
          rw [laid_set (· ^^^ 92) hD hi hb, laid_set (· ^^^ 54) hD hi hb]
        · have h0 := hz i (by omega) hi
          rw [hb] at h0
          cases h0
          rw [if_neg (by simp; omega), show (92 : Int) = ((92 : UInt8).toNat : Int) from rfl, show (54 : Int) = ((54 : UInt8).toNat : Int) from rfl, show (0 : Int) = ((0 : UInt8).toNat : Int) from rfl, e1, e1]
          rw [laid_set (· ^^^ 92) hD hi hb, laid_set (· ^^^ 54) hD hi hb])
      (by
        dsimp only
        unfold F.law03_tag.l5 laid
        rw [if_neg (by decide), List.take_of_length_le (by omega), Nat.sub_self, List.replicate_zero, List.append_nil, List.append_nil]) (k := FUEL) (by rw [FUEL_eq]; omega)
    have h0 : (laid (· ^^^ 92) D 0, laid (· ^^^ 54) D 0, ((0 : Nat) : Int)) = ((List.replicate (64 : Int).toNat 0 : List Int), (List.replicate (64 : Int).toNat 0 : List Int), (0 : Int)) := by unfold laid ns; simp
    rw [h0] at h
    refine (congrArg (fun o => Option.bind o _) h).trans ?_
    rw [Option.bind_some]
    unfold F.law03_tag.r6
    have z1 : (ofL (D.map (· ^^^ 92))).size = 64 := by rw [ofL_size, List.length_map, hD]
    have z2 : (ofL (D.map (· ^^^ 54))).size = 64 := by rw [ofL_size, List.length_map, hD]
    dsimp only
    rw [bstr_ns, bstr_ns, chk_pos (by rw [z2]; omega), sha_eq (by rw [size_app, z2]; omega), Option.bind_some, chk_pos (by rw [z1, shaB_size]; omega), sha_eq (by rw [size_app, z1, shaB_size]; omega)]
    rfl
theorem sized_of {x0 : List mill_Entry} {k0 : Nat} (z0 : ∀ n ∈ (x0.length * k0 :: x0.flatMap fun y => (([] : List Nat) ++ [y.Key.size] ++ [y.Text.size] ++ [y.Out.size])), n ≤ 140737488351232) : (∀ e ∈ x0.take 10, sizedE e) ∧ (x0.take 10).length < 1000000000000000000 := by
  refine ⟨fun e he => ?_, by rw [List.length_take]; omega⟩
  have hm : ∀ n ∈ (([] : List Nat) ++ [e.Key.size] ++ [e.Text.size] ++ [e.Out.size]), n ≤ 140737488351232 := fun n hn => z0 n (List.mem_cons_of_mem _ (List.mem_flatMap.2 ⟨e, List.mem_of_mem_take he, hn⟩))
  exact ⟨hm _ (by simp), hm _ (by simp), hm _ (by simp)⟩
end Go.Proofs.Ytgkkgmnomiokbaa
