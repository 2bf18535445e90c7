/- What is too much is not noted, and told so; whatever was noted still is met: the plain law. -/
import Derived.Test.YtgkkgmnomiokbaaGFull
import Derived.Test.YtgkkgmnomiokbaaPLaw03
import Derived.Test.YtgkkgmnomiokbaaPAwake03
namespace Go.Proofs.Ytgkkgmnomiokbaa
set_option linter.all false
open Go Go.RowKit Go.Fw
set_option maxRecDepth 100000
attribute [local irreducible] FUEL

def tw : ByteArray := ByteArray.mk #[116, 119, 105, 110]
def z3 : ByteArray := ByteArray.mk #[0, 0, 0]
def tx (i : Nat) : ByteArray := ofL [UInt8.ofNat (i / 65536), UInt8.ofNat (i / 256), UInt8.ofNat i]
theorem tx_zero : tx 0 = z3 := rfl
theorem tx_size (i : Nat) : (tx i).size = 3 := by unfold tx; rw [ofL_size]; rfl
theorem tx_inj {i j : Nat} (hi : i < 16777216) (hj : j < 16777216) (h : tx i = tx j) : i = j := by
  have h := ofL_inj h
  simp only [List.cons.injEq, and_true] at h
  obtain ⟨h1, h2, h3⟩ := h
  have e : ∀ a b : Nat, UInt8.ofNat a = UInt8.ofNat b → a % 256 = b % 256 := fun a b h => by
    have := congrArg UInt8.toNat h
    simpa using this
  have h1 := e _ _ h1
  have h2 := e _ _ h2
  have h3 := e _ _ h3
  omega
theorem tx_eq {i : Nat} (hi : i < 16777216) : bstr ([IntKind.u8.wrap (IntKind.i64.wrap ((i : Int).tdiv 65536)), IntKind.u8.wrap (IntKind.i64.wrap ((i : Int).tdiv 256)), IntKind.u8.wrap (i : Int)] : List Int) = tx i := by
  have e1 : (i : Int).tdiv 65536 = ((i / 65536 : Nat) : Int) := rfl
  have e2 : (i : Int).tdiv 256 = ((i / 256 : Nat) : Int) := rfl
  rw [e1, e2, w64 (by omega) (by omega), w64 (by omega) (by omega), u8w, u8w, u8w]
  exact bstr_ns [UInt8.ofNat (i / 65536), UInt8.ofNat (i / 256), UInt8.ofNat i]

def ent : mill_Entry := ⟨false, ByteArray.mk #[], tw, shaB z3⟩
def TF : Tab := tabOf [ent]
theorem sum_tw : sumB TF tw = shaB z3 := by
  have h := mget_tab [ent] (bS ++ tw)
  have : ([ent].find? fun e => decide (nameOf e = bS ++ tw)) = some ent := by
    rw [List.find?_cons_of_pos]
    exact decide_eq_true (name_sum.2 ⟨rfl, rfl⟩)
  rw [this] at h
  unfold sumB mhas mgetD TF
  rw [h]; rfl
theorem sum_tx (i : Nat) : sumB TF (tx i) = shaB (tx i) := by
  have h := mget_tab [ent] (bS ++ tx i)
  have : ([ent].find? fun e => decide (nameOf e = bS ++ tx i)) = none := by
    rw [List.find?_cons_of_neg]
    · rfl
    · simp only [decide_eq_true_eq]
      intro he
      have := (name_sum.1 he).2
      have hs : tw.size = (tx i).size := by rw [← this]; rfl
      rw [tx_size] at hs
      exact absurd hs (by decide)
  rw [this] at h
  unfold sumB mhas mgetD TF
  rw [h]; rfl
theorem mset_new {κ ν : Type} [DecidableEq κ] : ∀ (l : List (κ × ν)) (k : κ) (v : ν), mget l k = none → (mset l k v).length = l.length + 1
  | [], _, _, _ => rfl
  | p :: l, k, v, h => by
    rw [mget_cons] at h
    rw [mset_cons]
    by_cases hk : k = p.1
    · rw [if_pos hk] at h; cases h
    · rw [if_neg hk] at h ⊢
      rw [List.length_cons, List.length_cons, mset_new l k v h]

/-- behind i texts, unless twins were found -/
structure FullAt (i : Nat) (m : mill_Mill) : Prop where
  table : m.table_ = TF
  rest : m.found_ = false → m.notes_.length = min i 20000 ∧ m.full_ = decide (20000 < i) ∧ (0 < i → mget m.notes_ (shaB z3) = some z3) ∧ ∀ o v, mget m.notes_ o = some v → ∃ j, j < i ∧ v = tx j
theorem FullAt.next {i : Nat} {m : mill_Mill} (h : FullAt i m) (hi : i < 20010) : FullAt (i + 1) (noteM (tx i) (shaB (tx i)) m) := by
  obtain ⟨h1, h2⟩ := h
  refine ⟨by rw [noteM_table, h1], ?_⟩
  unfold noteM
  cases hm : mget m.notes_ (shaB (tx i)) with
  | some f =>
    dsimp only
    by_cases hc : f ≠ tx i ∧ m.found_ = false
    · rw [if_pos hc]; intro hf; cases hf
    · rw [if_neg hc]
      intro hf
      exfalso
      dsimp only at hf
      obtain ⟨_, _, _, g4⟩ := h2 hf
      obtain ⟨j, hj, rfl⟩ := g4 _ _ hm
      refine hc ⟨fun he => ?_, hf⟩
      have := tx_inj (by omega) (by omega) he
      omega
  | none =>
    dsimp only
    by_cases hl : 20000 ≤ m.notes_.length
    · rw [if_pos hl]
      intro hf
      dsimp only at hf ⊢
      obtain ⟨g1, g2, g3, g4⟩ := h2 hf
      refine ⟨by omega, by simp; omega, fun _ => g3 (by omega), fun o v hv => ?_⟩
      obtain ⟨j, hj, rfl⟩ := g4 o v hv
      exact ⟨j, by omega, rfl⟩
    · rw [if_neg hl]
      intro hf
      dsimp only at hf ⊢
      obtain ⟨g1, g2, g3, g4⟩ := h2 hf
      have hlen := mset_new m.notes_ (shaB (tx i)) (tx i) hm
      refine ⟨by omega, by rw [g2]; apply decide_eq_decide.2; omega, fun _ => ?_, fun o v hv => ?_⟩
      · rw [mget_mset]
        by_cases hi0 : i = 0
        · subst hi0; rw [tx_zero, if_pos rfl]
        · have g := g3 (by omega)
          rw [if_neg, g]
          intro he
          rw [he, hm] at g; cases g
      · rw [mget_mset] at hv
        split at hv
        · cases hv; exact ⟨i, by omega, rfl⟩
        · obtain ⟨j, hj, rfl⟩ := g4 o v hv
          exact ⟨j, by omega, rfl⟩

theorem pure_MillFull (x0 : Int) {w0 z0 : Prop} (_ : w0) (_ : z0) : F.law03_MillFull x0 = some true := by
  unfold F.law03_MillFull
  by_cases h1 : x0 < -10
  · rw [if_pos (by simpa using h1), awake]; rfl
  rw [if_neg (by simpa using h1)]
  by_cases h2 : x0 > 10
  · rw [if_pos (by simpa using h2), awake]; rfl
  rw [if_neg (by simpa using h2), thru_inl]
  unfold F.law03_MillFull.r1
  have hz : F.sha_Sum (ByteArray.mk #[0, 0, 0]) = some (shaB z3) := sha_eq (s := z3) (by decide)
  rw [hz, Option.bind_some]
  have hw := with_eq (l := [ent]) (fun e he => by
    rw [List.mem_singleton] at he
    subst he
    refine ⟨by decide, by decide, ?_⟩
    show (shaB z3).size ≤ _
    rw [shaB_size]; omega) (by decide)
  have h32 : all32 [ent] = true := by
    unfold all32
    rw [List.all_cons, List.all_nil, Bool.and_true]
    exact decide_eq_true (shaB_size z3)
  rw [h32, if_pos rfl] at hw
  show Option.bind (F.mill_With [ent]) _ = _
  rw [hw, Option.bind_some]
  dsimp only
  rw [optC_some, if_neg (by decide), thru_inl]
  unfold F.law03_MillFull.r2
  have hn : IntKind.i64.wrap (20000 + x0) = ((20000 + x0).toNat : Int) := by rw [w64 (by omega) (by omega)]; omega
  have hn2 : (20000 + x0).toNat ≤ 20010 := by omega
  have hn3 : 0 < (20000 + x0).toNat := by omega
  obtain ⟨r, hr, M, hM, hrM⟩ := iter_up (k := FUEL) (f := fun x => F.law03_MillFull.l3 x0 x.1 x.2.1 x.2.2.1 x.2.2.2.1 x.2.2.2.2.1 x.2.2.2.2.2.1 x.2.2.2.2.2.2.1 x.2.2.2.2.2.2.2) (20000 + x0).toNat
    (fun i x => ∃ m : mill_Mill, FullAt i m ∧ x = ((i : Int), m.table_, m.notes_, m.twins_.e0, m.twins_.e1, m.found_, m.full_, m.sums_))
    (fun r => ∃ m : mill_Mill, FullAt (20000 + x0).toNat m ∧ r = (m.table_, m.notes_, m.twins_.e0, m.twins_.e1, m.found_, m.full_, m.sums_))
    (by
      rintro i x hi ⟨m, hm, rfl⟩
      left
      refine ⟨_, ?_, _, hm.next (by omega), rfl⟩
      dsimp only
      unfold F.law03_MillFull.l3
      have hme : (⟨m.table_, m.notes_, ⟨m.twins_.e0, m.twins_.e1⟩, m.found_, m.full_, m.sums_⟩ : mill_Mill) = m := rfl
      rw [hn, if_pos (by simp; omega), tx_eq (by omega), hme, sum_eqB m (by rw [tx_size]; omega), Option.bind_some, wadd (by omega), hm.table, sum_tx])
    (by
      rintro x ⟨m, hm, rfl⟩
      refine ⟨_, ?_, m, hm, rfl⟩
      dsimp only
      unfold F.law03_MillFull.l3
      rw [hn, if_neg (by simp)])
    (s0 := (0, TF, [], b0, b0, false, false, 0)) ⟨⟨TF, [], ⟨b0, b0⟩, false, false, 0⟩, ⟨rfl, fun _ => ⟨rfl, rfl, (fun h => by omega), (fun o v hv => by cases hv)⟩⟩, rfl⟩ (by rw [FUEL_eq]; omega)
  refine (congrArg (fun o => Option.bind o _) hr).trans ?_
  rw [Option.bind_some, hrM]
  dsimp only
  unfold F.law03_MillFull.r4
  have hme : (⟨M.table_, M.notes_, ⟨M.twins_.e0, M.twins_.e1⟩, M.found_, M.full_, M.sums_⟩ : mill_Mill) = M := rfl
  rw [hme, twins_eq, Option.bind_some]
  unfold F.mill_Mill_Full F.mill_Mill_none
  have htw : (ByteArray.mk #[116, 119, 105, 110]) = tw := rfl
  rw [Option.bind_some, if_pos (by decide), Option.bind_some, htw, sum_eqB M (by decide), Option.bind_some, hM.table, sum_tw, twins_eq, Option.bind_some, awake, Option.bind_some, if_pos rfl]
  cases hf : M.found_ with
  | true => rw [if_pos rfl]
  | false =>
    rw [if_neg (by simp)]
    obtain ⟨g1, g2, g3, g4⟩ := hM.rest hf
    have hfull : M.full_ = decide (x0 > 0) := by rw [g2]; apply decide_eq_decide.2; omega
    have hg := g3 hn3
    have hnote : noteM tw (shaB z3) M = ⟨M.table_, M.notes_, ⟨z3, tw⟩, true, M.full_, IntKind.i64.wrap (M.sums_ + 1)⟩ := by
      unfold noteM
      rw [hg]
      dsimp only
      rw [if_pos ⟨by decide, hf⟩]
    rw [if_pos (by rw [hfull]; simp)]
    rw [hnote]
    dsimp only
    rw [if_pos rfl]
    have e1 : seqB z3 (ByteArray.mk #[0, 0, 0]) = true := seqB_refl z3
    rw [e1, if_pos rfl, seqB_refl]
end Go.Proofs.Ytgkkgmnomiokbaa
