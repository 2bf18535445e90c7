/- Behind a loss of power within a save there is the super of before, or the new one: the plain law. -/
import Derived.Test.YtgbciaegbpkpaaaGreatDoorGEither
import Derived.Test.YtgbciaegbpkpaaaGreatDoorPLoad
import Derived.Test.YtgbciaegbpkpaaaGreatDoorPDiskS
import Derived.Test.YtgbciaegbpkpaaaGreatDoorPAwake11
namespace Go.Proofs.YtgbciaegbpkpaaaGreatDoor
set_option linter.all false
open Go Go.RowKit Go.Fw
set_option maxRecDepth 100000
attribute [local irreducible] FUEL
/-- two supers, of which the second is the newer one, or is not told -/
theorem load_two {d : disk_Disk} (hp : 1 ≤ d.sure_.length) {s t : super_Super} (hs : RightP s) (ht : RightP t) (hn : t.Gen = s.Gen + 1) {j k : Int} (hj : s.Gen.tmod 2 = j) (hk : t.Gen.tmod 2 = k) (hjk : (j = 0 ∧ k = 1) ∨ (j = 1 ∧ k = 0)) {a b : Int} (ha0 : 4294967296 ≤ a) (ha1 : a ≤ 9223372036854775807) (hb0 : 4294967296 ≤ b) (hb1 : b ≤ 9223372036854775807)
    (wj : whyB d j = 0) (wk : whyB d k = 0) (cj : curB d j = ofL (secL a (supL s))) (ck : curB d k = ofL (secL b (supL t))) : F.super_Load d = some (t, 0) := by
  have hs1 := supL_len hs
  have hs2 := supL_len ht
  have hr := sec_read ha0 ha1 hs1
  have hq := sec_read hb0 hb1 hs2
  have hg := hs.1
  have hz : zSup.Gen = 0 := rfl
  rcases hjk with ⟨rfl, rfl⟩ | ⟨rfl, rfl⟩
  · rw [load_eq hp wj wk cj ck (secL_len hs1) (secL_len hs2) (r0 := (s, true)) (r1 := (t, true)) (fun _ => by rw [hr]; exact sread_sup hs) (fun _ => by rw [hq]; exact sread_sup ht), hr, hq]
    have e1 : stepS 0 0 (s, true) zSup = s := by unfold stepS; rw [if_pos ⟨rfl, rfl, hj, by dsimp only; omega⟩]
    have e2 : stepS 1 0 (t, true) s = t := by unfold stepS; rw [if_pos ⟨rfl, rfl, hk, by dsimp only; omega⟩]
    rw [e1, e2]
    unfold outS
    rw [if_neg (by omega)]
  · rw [load_eq hp wk wj ck cj (secL_len hs2) (secL_len hs1) (r0 := (t, true)) (r1 := (s, true)) (fun _ => by rw [hq]; exact sread_sup ht) (fun _ => by rw [hr]; exact sread_sup hs), hr, hq]
    have e1 : stepS 0 0 (t, true) zSup = t := by unfold stepS; rw [if_pos ⟨rfl, rfl, hk, by dsimp only; omega⟩]
    have e2 : stepS 1 0 (s, true) t = t := by unfold stepS; rw [if_neg (fun e => by have := e.2.2.2; dsimp only at this; omega)]
    rw [e1, e2]
    unfold outS
    rw [if_neg (by omega)]
theorem next_par {s t : super_Super} (hs : RightP s) (ht : RightP t) (hn : t.Gen = s.Gen + 1) : (s.Gen.tmod 2 = 0 ∧ t.Gen.tmod 2 = 1) ∨ (s.Gen.tmod 2 = 1 ∧ t.Gen.tmod 2 = 0) := by
  have h1 := hs.1
  have h2 := ht.1
  rw [Int.tmod_eq_emod_of_nonneg (by omega), Int.tmod_eq_emod_of_nonneg (by omega), hn]
  omega
theorem pure_SuperEither (s : super_Super) (x1 : Bool) (x2 x3 : Int) (f : disk_Fall) {z0 z1 z2 z3 z4 w0 w1 w2 w3 : Prop} (_ : w0) (_ : z0) (_ : w1) (_ : z1) (_ : w2) (_ : z2) (_ : w3) (_ : z3) (w4 : ((Lit.int .u64 f.Keep).wf = true) ∧ ((Lit.int .i64 f.Tear).wf = true)) (_ : z4) : F.law11_SuperEither s x1 x2 x3 f = some true := by
  have hF : FOk f := ⟨(wf_i64 w4.2).1, (wf_i64 w4.2).2⟩
  unfold F.law11_SuperEither
  rw [made4, Option.bind_some]
  dsimp only [optC]
  rw [Option.bind_some]
  unfold F.law11_SuperEither.r1
  obtain ⟨nx, hnx⟩ : ∃ nx, F.super_Next s x1 = some nx := by
    unfold F.super_Next
    cases x1 <;> exact ⟨_, rfl⟩
  have hgen : nx.Gen = IntKind.i64.wrap (s.Gen + 1) := by
    unfold F.super_Next at hnx
    cases x1 with
    | false => rw [if_neg (by decide)] at hnx; have := Option.some.inj hnx; rw [← this]
    | true => rw [if_pos rfl] at hnx; have := Option.some.inj hnx; rw [← this]
  rw [hnx, Option.bind_some, right2_eq, Option.bind_some]
  by_cases hs : RightP s
  rotate_left
  · rw [decide_eq_false hs, if_pos (by decide), awake]
    rfl
  rw [decide_eq_true hs, if_neg (by decide), right2_eq, Option.bind_some]
  by_cases ht : RightP ⟨nx.Gen, x2, nx.Side, nx.Seed⟩
  rotate_left
  · rw [decide_eq_false ht, if_pos (by decide), awake]
    rfl
  rw [decide_eq_true ht, if_neg (by decide)]
  by_cases h1 : x3 < 0
  · rw [if_pos (by simpa using h1), awake]
    rfl
  rw [if_neg (by simpa using h1)]
  by_cases h2 : x3 > 1
  · rw [if_pos (by simpa using h2), awake]
    rfl
  rw [if_neg (by simpa using h2), thru_inl]
  unfold F.law11_SuperEither.r2
  obtain ⟨hgs1, hgs2, _⟩ := hs
  have hgen2 : nx.Gen = s.Gen + 1 := by rw [hgen, w64 (by omega) (by omega)]
  have hs : RightP s := ⟨hgs1, hgs2, by assumption⟩
  generalize hT : (⟨nx.Gen, x2, nx.Side, nx.Seed⟩ : super_Super) = t at ht
  have htg : t.Gen = s.Gen + 1 := by rw [← hT]; exact hgen2
  have hpar := next_par hs ht htg
  have hm := gen_mod hs
  have hsl := supL_len hs
  have htl := supL_len ht
  have hs64 : (secL (stampG ⟨1, 0⟩) (supL s)).length = 64 := secL_len hsl
  obtain ⟨ok1, d1, w1, c1⟩ := step4 ok4_new (j := s.Gen.tmod 2) (by omega) (by omega) hs64
  rw [save_eq hs g10 ok4_new.ok ok4_new.fall ok4_new.len rfl, if_neg ok4_new.due, if_neg d1, Option.bind_some]
  generalize hD : flushD (writeD (newD 4) (s.Gen.tmod 2) (ofL (secL (stampG ⟨1, 0⟩) (supL s)))) = D at ok1 w1 c1
  rw [st10] at c1 hs64
  dsimp only
  have harm : F.disk_Disk_Arm x3 f D = some (0, (⟨D.sure_, D.wait_, D.off_, true, x3, f, D.acts_, D.falls_⟩ : disk_Disk)) := by
    unfold F.disk_Disk_Arm
    rw [why_eq ok1.ok.pos, Option.bind_some, whyB_in ok1.off (Int.le_refl _) (by rw [ok1.len]; decide), if_neg (by decide), if_neg (by simp; omega)]
  rw [if_neg (by decide), harm, Option.bind_some]
  dsimp only
  generalize hA : (⟨D.sure_, D.wait_, D.off_, true, x3, f, D.acts_, D.falls_⟩ : disk_Disk) = A
  have hAok : DOk A := by rw [← hA]; exact ⟨ok1.ok.sec, ok1.ok.keys, ok1.ok.inr, ok1.ok.pos, ok1.ok.len⟩
  have hAl : A.sure_.length = 4 := by rw [← hA]; exact ok1.len
  have hAo : A.off_ = false := by rw [← hA]; exact ok1.off
  have hAf : A.fall_ = f := by rw [← hA]
  have hAw : A.wait_ = [] := by rw [← hA]; exact w1
  have hAarm : A.armed_ = true := by rw [← hA]
  have hAleft : A.left_ = x3 := by rw [← hA]
  have hAcur : ∀ k : Int, curB A k = curB D k := fun k => by rw [← hA]; rfl
  have hAsure : ∀ k : Int, curB A k = ((A.sure_[k.toNat]?).getD zS).s_ := fun k => by unfold curB; rw [hAw]; rfl
  rw [if_neg (by decide), save_eq ht g11 hAok (by rw [hAf]; exact hF) hAl hAo, st11, hAf]
  -- the disk that lost its power
  have key : ∀ (Z : disk_Disk) (g : guard_Guard), DOk Z → Z.sure_.length = 4 → (∃ a, (secL 4294967297 (supL s)) = a ∧ Z.sure_[(s.Gen.tmod 2).toNat]?.map (·.s_) = some (ofL a)) → (∃ R : List UInt8, Z.sure_[(t.Gen.tmod 2).toNat]?.map (·.s_) = some (ofL R) ∧ R.length = 64 ∧ ((readL R).2.2 ≠ 0 ∨ R = secL 4294967298 (supL t))) → Z.off_ = true → Z.wait_ = [] →
      thru (Option.bind (some ((8 : Int), g, Z)) (fun (r65 : Int × guard_Guard × disk_Disk) => if r65.1 != 8 then (some (.inr (false))) else (Option.bind (F.disk_Disk_Start r65.2.2) (fun (r70 : Int × disk_Disk) => if r70.1 != 0 then (some (.inr (false))) else (some (.inl (r70.2.sure_, r70.2.wait_, r70.2.off_, r70.2.armed_, r70.2.left_, r70.2.fall_.Keep, r70.2.fall_.Tear, r70.2.acts_, r70.2.falls_, r65.2.1.boot_, r65.2.1.n_))))))) (fun x => F.law11_SuperEither.r3 s x2 nx x.1 x.2.1 x.2.2.1 x.2.2.2.1 x.2.2.2.2.1 x.2.2.2.2.2.1 x.2.2.2.2.2.2.1 x.2.2.2.2.2.2.2.1 x.2.2.2.2.2.2.2.2.1 x.2.2.2.2.2.2.2.2.2.1 x.2.2.2.2.2.2.2.2.2.2) = some true := by
    intro Z g hZ hZl ⟨a, ha, hZs⟩ ⟨R, hZt, hRl, hR⟩ hZo hZw
    rw [Option.bind_some]
    dsimp only
    rw [if_neg (by decide), start_eq hZ.pos, if_pos hZo, Option.bind_some]
    dsimp only
    rw [if_neg (by decide), thru_inl]
    unfold F.law11_SuperEither.r3
    show Option.bind (F.super_Load (startD Z)) _ = _
    have hp : 1 ≤ (startD Z).sure_.length := hZ.pos
    have hcur : ∀ (k : Int) (b : List UInt8), (Z.sure_[k.toNat]?).map (·.s_) = some (ofL b) → curB (startD Z) k = ofL b := fun k b h => by
      unfold curB
      show (match mget Z.wait_ k with | some x => x.s_ | none => ((Z.sure_[k.toNat]?).getD zS).s_) = _
      rw [hZw]
      show ((Z.sure_[k.toNat]?).getD zS).s_ = _
      cases hx : Z.sure_[k.toNat]? with
      | none => rw [hx] at h; cases h
      | some x => rw [hx] at h; exact Option.some.inj h
    have hwy : ∀ i : Int, 0 ≤ i → i < 4 → whyB (startD Z) i = 0 := fun i h0 h1 => whyB_in rfl h0 (by show i < (Z.sure_.length : Int); rw [hZl]; omega)
    rw [← ha] at hZs
    have hcs := hcur _ _ hZs
    have hct := hcur _ _ hZt
    have hjk : (s.Gen.tmod 2 = 0 ∧ t.Gen.tmod 2 = 1) ∨ (s.Gen.tmod 2 = 1 ∧ t.Gen.tmod 2 = 0) := hpar
    rcases hR with hR | hR
    · rw [load_one hp hs rfl hjk (a := 4294967297) (by decide) (by decide) (hwy _ (by omega) (by omega)) (hwy _ (by omega) (by omega)) hcs hct hRl hR, Option.bind_some]
      dsimp only
      rw [if_pos (by decide), if_pos ((sup_eqB s s).2 rfl), awake]
      rfl
    · rw [hR] at hct
      rw [load_two hp hs ht htg rfl rfl hjk (a := 4294967297) (b := 4294967298) (by decide) (by decide) (by decide) (by decide) (hwy _ (by omega) (by omega)) (hwy _ (by omega) (by omega)) hcs hct, Option.bind_some]
      dsimp only
      have hts : ¬ (t = s) := fun e => by rw [e] at htg; omega
      have e1 : ¬ (((t.Gen == s.Gen) && ((t.Boot == s.Boot) && ((t.Side == s.Side) && ((t.Seed == s.Seed) && (true))))) = true) := fun e => hts ((sup_eqB t s).1 e)
      rw [if_pos (by decide), if_neg e1]
      have e2 : ((t.Gen == nx.Gen) && ((t.Boot == x2) && ((t.Side == nx.Side) && ((t.Seed == nx.Seed) && (true))))) = true := by rw [← hT]; exact (sup_eqB ⟨nx.Gen, x2, nx.Side, nx.Seed⟩ ⟨nx.Gen, x2, nx.Side, nx.Seed⟩).2 rfl
      rw [if_pos e2, awake]
      rfl
  have hcs : curB A (s.Gen.tmod 2) = ofL (secL 4294967297 (supL s)) := by rw [hAcur, c1 _ (by omega) (by omega), if_pos rfl]
  have hct : curB A (t.Gen.tmod 2) = ofL noL := by rw [hAcur, c1 _ (by omega) (by omega), if_neg (by omega)]; exact new_cur (by omega) (by omega)
  have hsec : ∀ (k : Int) (b : List UInt8), 0 ≤ k → k < 4 → curB A k = ofL b → (A.sure_[k.toNat]?).map (·.s_) = some (ofL b) := fun k b h0 h1 h => by
    rw [hAsure] at h
    obtain ⟨y, hy⟩ := getq (l := A.sure_) (i := k.toNat) (by omega)
    rw [hy] at h ⊢
    exact congrArg some h
  by_cases hdue : due A
  · rw [if_pos hdue]
    have hsame : (dropD f A).sure_ = A.sure_ := by
      have hk : sortI (keysD A) = [] := by
        unfold keysD
        rw [hAw]
        exact List.Perm.eq_nil (sortI_p [])
      show fallG f A.wait_ (sortI (keysD A)) 0 A.sure_ = _
      rw [hk]
      rfl
    refine key (dropD f A) _ (drop_ok hAok) (by rw [hsame, hAl]) ⟨_, rfl, ?_⟩ ⟨noL, ?_, rfl, .inl (by rw [no_read]; decide)⟩ rfl rfl
    · rw [hsame]; exact hsec _ _ (by omega) (by omega) hcs
    · rw [hsame]; exact hsec _ _ (by omega) (by omega) hct
  rw [if_neg hdue]
  have hx3 : x3 = 1 := by
    have : ¬ (x3 = 0) := fun e => hdue ⟨hAarm, by rw [hAleft, e]⟩
    omega
  have hst : (secL 4294967298 (supL t)).length = 64 := secL_len htl
  have hE := write_ok hAok (i := t.Gen.tmod 2) (s := ofL (secL 4294967298 (supL t))) (by omega) (by rw [hAl]; omega) (by rw [ofL_size, hst])
  have hdue2 : due (writeD A (t.Gen.tmod 2) (ofL (secL 4294967298 (supL t)))) := by
    refine ⟨hAarm, ?_⟩
    show IntKind.i64.wrap (A.left_ - 1) = 0
    rw [hAleft, hx3]
    rfl
  rw [if_pos hdue2]
  obtain ⟨jt, hjt⟩ : ∃ n : Nat, t.Gen.tmod 2 = (n : Int) := ⟨(t.Gen.tmod 2).toNat, by omega⟩
  obtain ⟨js, hjs⟩ : ∃ n : Nat, s.Gen.tmod 2 = (n : Int) := ⟨(s.Gen.tmod 2).toNat, by omega⟩
  have hne : js ≠ jt := by omega
  have hEl : (dropD f (writeD A (t.Gen.tmod 2) (ofL (secL 4294967298 (supL t))))).sure_.length = 4 := by
    show (fallG _ _ _ _ _).length = 4
    rw [fallG_len]
    exact hAl
  have hwt : (writeD A (t.Gen.tmod 2) (ofL (secL 4294967298 (supL t)))).wait_ = [(t.Gen.tmod 2, ⟨ofL (secL 4294967298 (supL t)), (actD A).acts_⟩)] := by
    show mset A.wait_ _ _ = _
    rw [hAw]
    rfl
  refine key (dropD f (writeD A (t.Gen.tmod 2) (ofL (secL 4294967298 (supL t))))) _ (drop_ok hE) hEl ⟨_, rfl, ?_⟩ ?_ rfl rfl
  · obtain ⟨g1, _⟩ := drop_get (f := f) hE js
    rw [hjs, Int.toNat_natCast, g1 (by rw [hwt, mget_cons, if_neg (by omega)]; rfl)]
    have := hsec _ _ (by omega) (by omega) hcs
    rw [hjs, Int.toNat_natCast] at this
    exact this
  · obtain ⟨_, g2⟩ := drop_get (f := f) hE jt
    obtain ⟨z, _, e⟩ := g2 _ (by rw [hwt, mget_cons, if_pos (by omega)])
    have hold := hsec _ _ (by omega) (by omega) hct
    rw [hjt, Int.toNat_natCast] at hold
    have hA2 : (writeD A (t.Gen.tmod 2) (ofL (secL 4294967298 (supL t)))).sure_[jt]? = A.sure_[jt]? := rfl
    rw [hA2] at e
    cases ho : A.sure_[jt]? with
    | none => rw [ho] at hold; cases hold
    | some old =>
      rw [ho] at hold e
      have hos : old.s_ = ofL noL := Option.some.inj hold
      have hn0 : noL.length = 64 := rfl
      rw [hjt, Int.toNat_natCast]
      rw [hjt] at e
      rw [e, Option.map_some, Option.map_some]
      unfold fallV
      have hT64 : tearN f ≤ 64 := by
        unfold tearN
        have := Int.tmod_lt_of_pos f.Tear (show (0 : Int) < 64 by decide)
        omega
      cases htb : tearB f z with
      | false =>
        cases hkb : keepB f z with
        | true =>
          rw [if_neg (by decide), if_pos rfl]
          exact ⟨_, rfl, hst, .inr rfl⟩
        | false =>
          rw [if_neg (by decide), if_neg (by decide), hos]
          exact ⟨_, rfl, hn0, .inl (by rw [no_read]; decide)⟩
      | true =>
        rw [if_pos rfl]
        dsimp only
        cases hkb : keepB f z with
        | true =>
          rw [if_pos rfl]
          dsimp only
          rw [ofL_extract, ofL_extract, ofL_append]
          have e2 : ((secL 4294967298 (supL t)).take (tearN f)).drop 0 ++ ((secL 4294967298 (supL t)).take 64).drop (tearN f) = secL 4294967298 (supL t) := by
            rw [List.drop_zero, List.take_of_length_le (l := secL 4294967298 (supL t)) (i := 64) (by omega), List.take_append_drop]
          rw [e2]
          exact ⟨_, rfl, hst, .inr rfl⟩
        | false =>
          rw [if_neg (by decide), hos, ofL_extract, ofL_extract, ofL_append]
          have e2 : ((secL 4294967298 (supL t)).take (tearN f)).drop 0 ++ (noL.take 64).drop (tearN f) = mixL (tearN f) (secL 4294967298 (supL t)) (secL 0 []) := by
            rw [List.drop_zero, List.take_of_length_le (l := noL) (i := 64) (by omega), no_sec]
            rfl
          rw [e2]
          refine ⟨_, rfl, mix_len hst (by rw [no_sec]; rfl) hT64, ?_⟩
          rcases mix_read (n := tearN f) htl (show ([] : List UInt8).length ≤ 47 by decide) (by decide) (by decide) (by decide) (by decide) (show (4294967298 : Int) ≠ 0 by decide) hT64 with hh | hh | hh
          · rw [hh, no_sec]; exact .inl (by rw [no_read]; decide)
          · exact .inr hh
          · rw [hh]; exact .inl (by decide)
end Go.Proofs.YtgbciaegbpkpaaaGreatDoor
