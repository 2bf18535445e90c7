/- Behind a loss of power within a save there is the super of before, or the new one. -/
import Derived.Test.YtgbciaegbpkpaaaGreatDoorRows
import Derived.Test.YtgbciaegbpkpaaaGreatDoorFwP
import Derived.Test.YtgbciaegbpkpaaaGreatDoorPSuperEither
import Derived.Test.YtgbciaegbpkpaaaGreatDoorCards
import Derived.Test.YtgbciaegbpkpaaaGreatDoorTie
import Derived.ProofKit
import Derived.LaidMore
import Derived.Lay
import Derived.OpenShut
import Derived.Stop.Joined
import Derived.SevenTiedAt
namespace Go.Proofs.YtgbciaegbpkpaaaGreatDoor
set_option linter.all false
open Go Go.RowKit Go.ChangeShapes Go.WideShapes Go.ChangeAt Go.Fw
open Go.ChangeMaps (open_string shut_string)
set_option linter.unusedVariables false
theorem dec_super_Super : Dec Tryz.prog 23 (fun _ cs (x : super_Super) => cs = super_Super.cells x) (fun x => ((Lit.int .i64 x.Gen).wf = true) ∧ ((Lit.int .i64 x.Boot).wf = true) ∧ ((Lit.int .i64 x.Side).wf = true) ∧ ((Lit.int .i64 x.Seed).wf = true)) (fun x => (([] : List Nat) ++ ([] : List Nat) ++ ([] : List Nat) ++ ([] : List Nat))) := by
  intro H enc w base spare held fuel cs x h
  obtain ⟨xs, n, _, rfl, hl, hlen, hf⟩ := DataW.trod_struct Tryz.underlying23 h
  obtain ⟨y0, e0⟩ := get_some hlen 0 (by decide)
  have g0 := hf 0 _ rfl
  rw [e0] at g0
  replace g0 : DataW.trod enc Tryz.prog w base spare held n 3 ((cs.drop 0).take (Tryz.prog.cellsOf 3)) = some y0 := g0
  rw [show Tryz.prog.cellsOf 3 = 1 by kernel_rfl] at g0
  obtain ⟨a0, F0, w0, n0⟩ := (dec_int Tryz.underlying3) H enc w base spare held n _ _ g0
  obtain ⟨y1, e1⟩ := get_some hlen 1 (by decide)
  have g1 := hf 1 _ rfl
  rw [e1] at g1
  replace g1 : DataW.trod enc Tryz.prog w base spare held n 3 ((cs.drop 1).take (Tryz.prog.cellsOf 3)) = some y1 := g1
  rw [show Tryz.prog.cellsOf 3 = 1 by kernel_rfl] at g1
  obtain ⟨a1, F1, w1, n1⟩ := (dec_int Tryz.underlying3) H enc w base spare held n _ _ g1
  obtain ⟨y2, e2⟩ := get_some hlen 2 (by decide)
  have g2 := hf 2 _ rfl
  rw [e2] at g2
  replace g2 : DataW.trod enc Tryz.prog w base spare held n 3 ((cs.drop 2).take (Tryz.prog.cellsOf 3)) = some y2 := g2
  rw [show Tryz.prog.cellsOf 3 = 1 by kernel_rfl] at g2
  obtain ⟨a2, F2, w2, n2⟩ := (dec_int Tryz.underlying3) H enc w base spare held n _ _ g2
  obtain ⟨y3, e3⟩ := get_some hlen 3 (by decide)
  have g3 := hf 3 _ rfl
  rw [e3] at g3
  replace g3 : DataW.trod enc Tryz.prog w base spare held n 3 ((cs.drop 3).take (Tryz.prog.cellsOf 3)) = some y3 := g3
  rw [show Tryz.prog.cellsOf 3 = 1 by kernel_rfl] at g3
  obtain ⟨a3, F3, w3, n3⟩ := (dec_int Tryz.underlying3) H enc w base spare held n _ _ g3
  have hc : cs = (cparts [1, 1, 1, 1] 0 cs).flatten := cells_parts [1, 1, 1, 1] 0 cs (by rw [hl]; kernel_rfl)
  rw [show cparts [1, 1, 1, 1] 0 cs = [(cs.drop 0).take 1, (cs.drop 1).take 1, (cs.drop 2).take 1, (cs.drop 3).take 1] from rfl, F0, F1, F2, F3] at hc
  refine ⟨⟨a0, a1, a2, a3⟩, hc.trans rfl, ⟨w0, w1, w2, w3⟩, fun R hR m hm => ?_⟩
  simp only [List.mem_append, or_assoc] at hm
  rcases hm with hm | hm | hm | hm
  · exact n0 R (weights_agg Tryz.underlying23 hR (j := 0) rfl e0) m hm
  · exact n1 R (weights_agg Tryz.underlying23 hR (j := 1) rfl e1) m hm
  · exact n2 R (weights_agg Tryz.underlying23 hR (j := 2) rfl e2) m hm
  · exact n3 R (weights_agg Tryz.underlying23 hR (j := 3) rfl e3) m hm
theorem dec_disk_Fall : Dec Tryz.prog 49 (fun _ cs (x : disk_Fall) => cs = disk_Fall.cells x) (fun x => ((Lit.int .u64 x.Keep).wf = true) ∧ ((Lit.int .i64 x.Tear).wf = true)) (fun x => (([] : List Nat) ++ ([] : List Nat))) := by
  intro H enc w base spare held fuel cs x h
  obtain ⟨xs, n, _, rfl, hl, hlen, hf⟩ := DataW.trod_struct Tryz.underlying49 h
  obtain ⟨y0, e0⟩ := get_some hlen 0 (by decide)
  have g0 := hf 0 _ rfl
  rw [e0] at g0
  replace g0 : DataW.trod enc Tryz.prog w base spare held n 47 ((cs.drop 0).take (Tryz.prog.cellsOf 47)) = some y0 := g0
  rw [show Tryz.prog.cellsOf 47 = 1 by kernel_rfl] at g0
  obtain ⟨a0, F0, w0, n0⟩ := (dec_int Tryz.underlying47) H enc w base spare held n _ _ g0
  obtain ⟨y1, e1⟩ := get_some hlen 1 (by decide)
  have g1 := hf 1 _ rfl
  rw [e1] at g1
  replace g1 : DataW.trod enc Tryz.prog w base spare held n 3 ((cs.drop 1).take (Tryz.prog.cellsOf 3)) = some y1 := g1
  rw [show Tryz.prog.cellsOf 3 = 1 by kernel_rfl] at g1
  obtain ⟨a1, F1, w1, n1⟩ := (dec_int Tryz.underlying3) H enc w base spare held n _ _ g1
  have hc : cs = (cparts [1, 1] 0 cs).flatten := cells_parts [1, 1] 0 cs (by rw [hl]; kernel_rfl)
  rw [show cparts [1, 1] 0 cs = [(cs.drop 0).take 1, (cs.drop 1).take 1] from rfl, F0, F1] at hc
  refine ⟨⟨a0, a1⟩, hc.trans rfl, ⟨w0, w1⟩, fun R hR m hm => ?_⟩
  simp only [List.mem_append, or_assoc] at hm
  rcases hm with hm | hm
  · exact n0 R (weights_agg Tryz.underlying49 hR (j := 0) rfl e0) m hm
  · exact n1 R (weights_agg Tryz.underlying49 hR (j := 1) rfl e1) m hm
theorem superEither_own : ownKnob Tryz.prog.godebug = none := by kernel_rfl
theorem superEither_laidOut : laidOutB Tryz.prog = true := by kernel_rfl
set_option maxRecDepth 100000 in
theorem superEither_lifted (os : Os) (started : os.Started) (H : Type) (enc : TypeId × Value → H) :
    ReturnsInHanded {} Tryz.checked os 5 .any (fun w args => (Rows.superEitherSpec.pre enc Tryz.prog Tryz.f5 Rows.superEitherRow.domain false w args ∧ laidMetH Tryz.prog Rows.superEitherRow.laid w) ∧ sizedMet enc Tryz.prog Tryz.f5 (OpenSpec.ofChange Rows.superEitherSpec) false w args) (Rows.superEitherSpec.post enc Tryz.prog Tryz.f5 false true false false) := by
  refine returnsInHanded_of_change_and (C := Tryz.checked) (X := fun w _ => laidMetH Tryz.prog Rows.superEitherRow.laid w) (fun _ _ _ hh h => h.of_heap hh) superEither_own started (by kernel_rfl) Tryz.func5
    (ChangeSpec.witness_shaped (enc := enc) (C := Tryz.checked) (os := os) (X := fun w _ => laidMetH Tryz.prog Rows.superEitherRow.laid w) false (World.laidAll Tryz.prog os Rows.superEitherRow.laid) #[.agg #[.int .i64 0, .int .i64 0, .int .i64 0, .int .i64 0], .bool false, .int .i64 0, .int .i64 0, .agg #[.int .u64 0, .int .i64 0]] 8 (World.laidAll_os _ _ _)
      (World.shaped_of_ZipB (by kernel_rfl) (by kernel_rfl)) (by kernel_rfl) (by kernel_rfl) (by kernel_rfl)
      (by rw [MakeChecks.laidMetH_plain _ _ _ (by kernel_rfl)]; exact laidMet_laidAll _ (by kernel_rfl) (by kernel_rfl))) ?_
  intro W base args ds gs before hval0 hW hcnd hsz0 _ _
  have hsz : (DataW.weightsEach Tryz.prog (Tryz.f5.params.toList ++ Rows.superEitherSpec.plain.varTypes Tryz.prog) (ds ++ gs)).all (· ≤ reachBytes) = true := hsz0
  have hval : ∀ (j : Nat) t v, Tryz.f5.params[j]? = some t → args[j]? = some v → Value.okWide Tryz.prog W .any base t v := hval0
  have hW' := hW
  obtain ⟨p, q, hA0, hV, rfl, hfz, hnd⟩ := hW
  have hA : DataW.TrodAll enc Tryz.prog W 0 (fun _ => true) true Tryz.f5.params.toList args.toList ds p := hA0
  rw [Tryz.params5] at hA hval hsz
  obtain ⟨v0, vs0, d0, ds0, p0, q0, hargs, rfl, rfl, h0, r0⟩ := trodAll_cons hA
  obtain ⟨v1, vs1, d1, ds1, p1, q1, rfl, rfl, rfl, h1, r1⟩ := trodAll_cons r0
  obtain ⟨v2, vs2, d2, ds2, p2, q2, rfl, rfl, rfl, h2, r2⟩ := trodAll_cons r1
  obtain ⟨v3, vs3, d3, ds3, p3, q3, rfl, rfl, rfl, h3, r3⟩ := trodAll_cons r2
  obtain ⟨v4, vs4, d4, ds4, p4, q4, rfl, rfl, rfl, h4, r4⟩ := trodAll_cons r3
  obtain ⟨rfl, rfl, rfl⟩ := trodAll_nil r4
  obtain rfl : args = #[v0, v1, v2, v3, v4] := by cases args; simp_all
  obtain ⟨rfl, rfl⟩ := trodVars_none hV
  have k0 := h0
  have lt0 : ∀ x ∈ p0, x.block < W.heap.size := by obtain ⟨m, hm⟩ := k0; exact DataW.trod_lt m _ _ _ hm
  obtain ⟨cs0, hv0, _⟩ := okWide_struct Tryz.underlying23 (hval 0 23 v0 rfl rfl)
  obtain ⟨fuel0, hf0⟩ := h0
  obtain ⟨a0, F0, w0, n0⟩ := dec_super_Super H enc W 0 _ _ fuel0 _ _ hf0
  obtain rfl : v0 = .agg #[.int .i64 a0.Gen, .int .i64 a0.Boot, .int .i64 a0.Side, .int .i64 a0.Seed] := by subst hv0; exact congrArg Value.agg (arr_of F0)
  have hz0 := sized_dec (N := (([] : List Nat) ++ ([] : List Nat) ++ ([] : List Nat) ++ ([] : List Nat))) hsz (j := 0) (t := 23) rfl rfl n0
  have k1 := h1
  have lt1 : ∀ x ∈ p1, x.block < W.heap.size := by obtain ⟨m, hm⟩ := k1; exact DataW.trod_lt m _ _ _ hm
  obtain ⟨z1, hv1⟩ := okWide_bool Tryz.underlying4 (hval 1 4 v1 rfl rfl)
  obtain ⟨fuel1, hf1⟩ := h1
  obtain ⟨a1, F1, w1, n1⟩ := (dec_bool Tryz.underlying4) H enc W 0 _ _ fuel1 _ _ hf1
  obtain rfl : v1 = .bool a1 := by subst hv1; exact (List.cons.inj F1).1
  have hz1 := sized_dec (N := ([] : List Nat)) hsz (j := 1) (t := 4) rfl rfl n1
  have k2 := h2
  have lt2 : ∀ x ∈ p2, x.block < W.heap.size := by obtain ⟨m, hm⟩ := k2; exact DataW.trod_lt m _ _ _ hm
  obtain ⟨z2, hv2⟩ := okWide_int Tryz.underlying3 (hval 2 3 v2 rfl rfl)
  obtain ⟨fuel2, hf2⟩ := h2
  obtain ⟨a2, F2, w2, n2⟩ := (dec_int Tryz.underlying3) H enc W 0 _ _ fuel2 _ _ hf2
  obtain rfl : v2 = .int .i64 a2 := by subst hv2; exact (List.cons.inj F2).1
  have hz2 := sized_dec (N := ([] : List Nat)) hsz (j := 2) (t := 3) rfl rfl n2
  have k3 := h3
  have lt3 : ∀ x ∈ p3, x.block < W.heap.size := by obtain ⟨m, hm⟩ := k3; exact DataW.trod_lt m _ _ _ hm
  obtain ⟨z3, hv3⟩ := okWide_int Tryz.underlying3 (hval 3 3 v3 rfl rfl)
  obtain ⟨fuel3, hf3⟩ := h3
  obtain ⟨a3, F3, w3, n3⟩ := (dec_int Tryz.underlying3) H enc W 0 _ _ fuel3 _ _ hf3
  obtain rfl : v3 = .int .i64 a3 := by subst hv3; exact (List.cons.inj F3).1
  have hz3 := sized_dec (N := ([] : List Nat)) hsz (j := 3) (t := 3) rfl rfl n3
  have k4 := h4
  have lt4 : ∀ x ∈ p4, x.block < W.heap.size := by obtain ⟨m, hm⟩ := k4; exact DataW.trod_lt m _ _ _ hm
  obtain ⟨cs4, hv4, _⟩ := okWide_struct Tryz.underlying49 (hval 4 49 v4 rfl rfl)
  obtain ⟨fuel4, hf4⟩ := h4
  obtain ⟨a4, F4, w4, n4⟩ := dec_disk_Fall H enc W 0 _ _ fuel4 _ _ hf4
  obtain rfl : v4 = .agg #[.int .u64 a4.Keep, .int .i64 a4.Tear] := by subst hv4; exact congrArg Value.agg (arr_of F4)
  have hz4 := sized_dec (N := (([] : List Nat) ++ ([] : List Nat))) hsz (j := 4) (t := 49) rfl rfl n4
  clear hA0 hval0 hsz0 hsz hval
  have hp := pure_SuperEither a0 a1 a2 a3 a4 w0 hz0 w1 hz1 w2 hz2 w3 hz3 w4 hz4
  have tr := c_law11_SuperEither (Go.Fw.hp W) a0 a1 a2 a3 a4 true hp
  refine (calls_of_tr tr (by first | (rintro r H ⟨rfl, rfl⟩; exact ⟨rfl, _, _, rfl, Hl.sub_refl _⟩) | (rintro r H ⟨J, rfl, rfl, hJ⟩; exact ⟨rfl, _, _, rfl, hJ⟩))).mono fun e W' ⟨he, bel⟩ => ?_
  subst he
  exact ⟨_, rfl, _, _, _, [], _, [], hW', trodAll_mk1 (shut_bool Tryz.underlying4 _), (trodAll_cons_mk (Below.trod superEither_laidOut (by kernel_rfl) (of_decide_eq_true (by kernel_rfl)) k0 bel lt0) (trodAll_cons_mk (Below.trod superEither_laidOut (by kernel_rfl) (of_decide_eq_true (by kernel_rfl)) k1 bel lt1) (trodAll_cons_mk (Below.trod superEither_laidOut (by kernel_rfl) (of_decide_eq_true (by kernel_rfl)) k2 bel lt2) (trodAll_cons_mk (Below.trod superEither_laidOut (by kernel_rfl) (of_decide_eq_true (by kernel_rfl)) k3 bel lt3) (trodAll_cons_mk (Below.trod superEither_laidOut (by kernel_rfl) (of_decide_eq_true (by kernel_rfl)) k4 bel lt4) trodAll_mk0))))), rfl, bel.frame _, (fun h => by cases h)⟩
theorem superEither_holds : Rows.SuperEitherSaid :=
  OpenClaim.holds_of_wide 5 Tryz.f5 rfl rfl rfl rfl rfl rfl rfl ⟨rfl, rfl, rfl, rfl, rfl⟩ rfl rfl rfl rfl rfl (by kernel_rfl) Tryz.func5 (by kernel_rfl)
    (of_decide_eq_true (by kernel_rfl)) (by unfold Func.isWrapper; first | (rw [if_pos (by decide +kernel)]; kernel_rfl) | (rw [if_neg (by decide +kernel)]; exact ⟨rfl, rfl⟩))
    (fun os started H enc _ => superEither_lifted os started H enc)
theorem superEither_card_holds : Rows.SuperEitherCardSaid :=
  Claim7.holds_tied_plain_at .later [] [.data, .pinned] true (true, "2397cd690becbb5c844c9cb9daeefabd3f1cd4be465997d2a9e7130a44f3e828") false
    superEither_holds (fun _ h => by cases h) (by kernel_rfl) (fun _ h => by cases h) superEither_row_tie rfl ⟨rfl, rfl⟩ (by kernel_rfl) rfl
    (fun f fn hf hfn => by
      obtain rfl : f = 5 := Option.some.inj ((show Tryz.prog.funcNamed "chartulary/chartularylaw11.SuperEither" = some 5 by kernel_rfl).symm.trans hf) |>.symm
      obtain rfl : fn = Tryz.f5 := (Option.some.inj (Tryz.func5.symm.trans hfn)).symm
      exact ⟨by kernel_rfl, fun j t ht => by
        rw [Tryz.params5] at ht
        have hm : t ∈ [23, 4, 3, 3, 49] := by simpa using Array.mem_of_getElem? ht
        have hall : ([23, 4, 3, 3, 49].all fun u => !Tryz.prog.wantsStandIn u) = true := by kernel_rfl
        exact (show Tryz.prog.wantsStandIn t = false by simpa using List.all_eq_true.1 hall t hm)⟩)
    (by kernel_rfl)
end Go.Proofs.YtgbciaegbpkpaaaGreatDoor
